/- Otsu's threshold of an image with two values. No statement of the program is proved here. -/
import Derived.Test.YtjhdjmlaidpjfaaOptP
set_option linter.unusedVariables false
namespace Go.Proofs.Ytjhdjmlaidpjfaa.B
open Go.RowKit
/-- How many of the first n values are below k, and their sum. -/
def CL (p : Nat → Int) (k : Int) : Nat → Int
  | 0 => 0
  | n + 1 => CL p k n + if p n < k then 1 else 0
def CS (p : Nat → Int) (k : Int) : Nat → Int
  | 0 => 0
  | n + 1 => CS p k n + if p n < k then p n else 0
/-- The sum of the first n values. -/
def CT (p : Nat → Int) : Nat → Int
  | 0 => 0
  | n + 1 => CT p n + p n
theorem SN_CL (p : Nat → Int) (hp : ∀ i, 0 ≤ p i) (k : Nat) : ∀ n, SN (cnt p n) k = CL p k n
  | 0 => SN_zero _ _
  | n + 1 => by rw [SN_cnt_succ p n (hp n), SN_CL p hp k n, CL]
theorem SS_zero (k : Nat) (p : Nat → Int) : SS (cnt p 0) k = 0 := by
  induction k with
  | zero => rfl
  | succ k ih => rw [SS, ih, cnt]; simp
theorem SS_cnt_succ (p : Nat → Int) (n : Nat) (h0 : 0 ≤ p n) : ∀ k, SS (cnt p (n + 1)) k = SS (cnt p n) k + if p n < k then p n else 0
  | 0 => by rw [SS, SS, if_neg (by omega)]; rfl
  | k + 1 => by
    rw [SS, SS, SS_cnt_succ p n h0 k, cnt]
    by_cases h : p n < k
    · rw [if_pos h, if_neg (by omega), if_pos (by omega)]; simp; omega
    · by_cases h2 : p n = k
      · rw [if_neg h, if_pos h2, if_pos (by omega), h2, Int.mul_add]; omega
      · rw [if_neg h, if_neg h2, if_neg (by omega)]; simp
theorem SS_CS (p : Nat → Int) (hp : ∀ i, 0 ≤ p i) (k : Nat) : ∀ n, SS (cnt p n) k = CS p k n
  | 0 => SS_zero _ _
  | n + 1 => by rw [SS_cnt_succ p n (hp n), SS_CS p hp k n, CS]
theorem CS_all (p : Nat → Int) (hp : ∀ i, 0 ≤ p i ∧ p i < 256) : ∀ n, CS p ((256 : Nat) : Int) n = CT p n
  | 0 => rfl
  | n + 1 => by
    have := hp n
    rw [CS, CT, CS_all p hp n, if_pos (by omega)]
/-- How many of the first n are dark. -/
def nd (dk : Nat → Bool) : Nat → Int
  | 0 => 0
  | n + 1 => nd dk n + if dk n then 1 else 0
theorem nd_bd (dk : Nat → Bool) : ∀ n, 0 ≤ nd dk n ∧ nd dk n ≤ n
  | 0 => by simp [nd]
  | n + 1 => by
    have := nd_bd dk n
    rw [nd]; split <;> omega
/-- The image with two values. -/
def twoV (dk : Nat → Bool) (l h : Int) (i : Nat) : Int := if dk i then l else h
theorem two_CL (dk : Nat → Bool) (l h k : Int) : ∀ n, CL (twoV dk l h) k n = (if l < k then nd dk n else 0) + (if h < k then (n : Int) - nd dk n else 0)
  | 0 => by simp [CL, nd]
  | n + 1 => by
    rw [CL, two_CL dk l h k n, nd]
    unfold twoV
    cases dk n <;> simp only [Bool.false_eq_true, if_true, if_false] <;> (repeat' split) <;> omega
theorem two_CS (dk : Nat → Bool) (l h k : Int) : ∀ n, CS (twoV dk l h) k n = (if l < k then l * nd dk n else 0) + (if h < k then h * ((n : Int) - nd dk n) else 0)
  | 0 => by simp [CS, nd]
  | n + 1 => by
    rw [CS, two_CS dk l h k n, nd]
    unfold twoV
    have e1 : ((n + 1 : Nat) : Int) = n + 1 := rfl
    cases dk n <;> simp only [Bool.false_eq_true, if_true, if_false] <;> (repeat' split) <;> grind
theorem twoV_bd (dk : Nat → Bool) (l h : Int) (hl : 0 ≤ l ∧ l < 256) (hh : 0 ≤ h ∧ h < 256) : ∀ i, 0 ≤ twoV dk l h i ∧ twoV dk l h i < 256 := fun i => by unfold twoV; split <;> omega
/-- Where each threshold leaves one class empty, Otsu's is 0. -/
theorem otsu_flat (p : Nat → Int) (hp : ∀ i, 0 ≤ p i ∧ p i < 256) (n : Nat) (h : ∀ k : Nat, CL p k n = 0 ∨ CL p k n = n) : otsu p n = 0 := by
  have hq : ∀ k, qF (cnt p n) n k = 0 := fun k => by
    unfold qF
    rw [SN_CL p (fun i => (hp i).1)]
    rcases h k with e | e <;> rw [e] <;> simp
  obtain ⟨h1, _, h3⟩ := otsu_best p hp n
  refine Nat.eq_zero_of_not_pos fun h0 => ?_
  have h4 := h3 0 h0
  have e : ∀ k, dQ (cnt p n) n (SS (cnt p n) 256) k = 0 := fun k => if_neg (by rw [hq]; omega)
  rw [e, e] at h4
  simp at h4
/-- In an image with two values the threshold lies between them. -/
theorem otsu_two (dk : Nat → Bool) (l h : Int) (hl : 0 ≤ l) (hlh : l < h) (hh : h < 256) (n : Nat) (hd : 0 < nd dk n) (hb : nd dk n < n) : l < otsu (twoV dk l h) n ∧ otsu (twoV dk l h) n ≤ h := by
  have hp := twoV_bd dk l h (by omega) (by omega)
  obtain ⟨h1, h2, _⟩ := otsu_best (twoV dk l h) hp n
  obtain ⟨t, et⟩ : ∃ t, otsu (twoV dk l h) n = t := ⟨_, rfl⟩
  rw [et] at h1 h2 ⊢
  obtain ⟨L, eL⟩ : ∃ L : Nat, l = L := ⟨l.toNat, by omega⟩
  subst eL
  have hj := h2 (L + 1) (by omega)
  have hSN : ∀ k : Nat, SN (cnt (twoV dk L h) n) k = (if (L : Int) < k then nd dk n else 0) + (if h < k then (n : Int) - nd dk n else 0) := fun k => by
    rw [SN_CL _ (fun i => (hp i).1), two_CL]
  have hSS : ∀ k : Nat, SS (cnt (twoV dk L h) n) k = (if (L : Int) < k then L * nd dk n else 0) + (if h < k then h * ((n : Int) - nd dk n) else 0) := fun k => by
    rw [SS_CS _ (fun i => (hp i).1), two_CS]
  obtain ⟨m, em⟩ : ∃ m, nd dk n = m := ⟨_, rfl⟩
  rw [em] at hd hb hSN hSS
  have qpos : 0 < qF (cnt (twoV dk L h) n) n (L + 1) := by
    unfold qF
    rw [hSN, if_pos (by omega), if_neg (by omega)]
    exact Int.mul_pos (by omega) (by omega)
  have e1 : dQ (cnt (twoV dk L h) n) n (SS (cnt (twoV dk L h) n) 256) (L + 1) = -(m * (n - m) * (h - L)) := by
    unfold dQ
    rw [if_pos qpos]
    unfold dF
    rw [hSN, hSS, hSS, if_pos (by omega), if_neg (by omega), if_pos (by omega), if_neg (by omega), if_pos (by omega), if_pos (by omega)]
    grind
  have hz : 0 < m * (n - m) * (h - L) := Int.mul_pos (Int.mul_pos (by omega) (by omega)) (by omega)
  rw [e1, Int.neg_mul_neg] at hj
  have hp2 : 0 < m * (n - m) * (h - L) * (m * (n - m) * (h - L)) * qQ (cnt (twoV dk L h) n) n t := Int.mul_pos (Int.mul_pos hz hz) (qQ_pos _ _ _)
  have hqt : 0 < qF (cnt (twoV dk L h) n) n t := by
    refine Classical.byContradiction fun hc => ?_
    have e2 : dQ (cnt (twoV dk L h) n) n (SS (cnt (twoV dk L h) n) 256) t = 0 := if_neg hc
    rw [e2] at hj
    simp only [Int.zero_mul] at hj
    omega
  unfold qF at hqt
  rw [hSN] at hqt
  by_cases c1 : (L : Int) < t
  · refine ⟨c1, ?_⟩
    refine Classical.byContradiction fun c2 => ?_
    rw [if_pos c1, if_pos (by omega), show m + (n - m) = (n : Int) by omega] at hqt
    simp at hqt
  · rw [if_neg c1, if_neg (by omega)] at hqt
    simp at hqt
end Go.Proofs.Ytjhdjmlaidpjfaa.B
