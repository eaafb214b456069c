/- Otsu's threshold is the least one with the greatest variance. No statement of the program is proved here. -/
import Derived.Test.YtjhdjmlaidpjfaaOtsuP
set_option linter.unusedVariables false
namespace Go.Proofs.Ytjhdjmlaidpjfaa.B
open Go.RowKit
/-- The difference of a threshold, and its number, as the law has them. -/
def dQ (h : Nat → Int) (n s : Int) (k : Nat) : Int := if 0 < qF h n k then dF h n s k else 0
def qQ (h : Nat → Int) (n : Int) (k : Nat) : Int := if 0 < qF h n k then qF h n k else 1
theorem qQ_pos (h : Nat → Int) (n : Int) (k : Nat) : 0 < qQ h n k := by unfold qQ; split <;> omega
theorem sq_nonneg (a : Int) : 0 ≤ a * a := by
  by_cases h : 0 ≤ a
  · exact Int.mul_nonneg h h
  · have := Int.mul_nonneg (show 0 ≤ -a by omega) (show 0 ≤ -a by omega)
    rwa [Int.neg_mul_neg] at this
/-- One variance below another, that below a third. -/
theorem cross_lt {x b A q q' X : Int} (hb : 0 < b) (hq : 0 < q) (hq' : 0 < q') (h1 : x * b ≤ A * q) (h2 : A * q' < X * b) : x * q' < X * q := by
  have h3 : x * b * q' ≤ A * q * q' := Int.mul_le_mul_of_nonneg_right h1 (by omega)
  have h4 : A * q' * q < X * b * q := Int.mul_lt_mul_of_pos_right h2 hq
  have e1 : x * b * q' = (x * q') * b := by rw [Int.mul_assoc, Int.mul_comm b, ← Int.mul_assoc]
  have e2 : A * q * q' = A * q' * q := by rw [Int.mul_assoc, Int.mul_comm q, ← Int.mul_assoc]
  have e3 : X * b * q = (X * q) * b := by rw [Int.mul_assoc, Int.mul_comm b, ← Int.mul_assoc]
  rw [e1, e2] at h3
  rw [e3] at h4
  exact Int.lt_of_mul_lt_mul_right (Int.lt_of_le_of_lt h3 h4) (Int.le_of_lt hb)
/-- What is known of the best of the thresholds up to k. -/
theorem ots_best (h : Nat → Int) (n s : Int) (hq : ∀ k, 0 ≤ qF h n k) (h0 : qF h n 0 = 0) : ∀ k,
    (ots h n s k).1 ≤ k ∧ (ots h n s k).2.1 = dQ h n s (ots h n s k).1 ∧ (ots h n s k).2.2 = qQ h n (ots h n s k).1 ∧
    (∀ j, j ≤ k → dQ h n s j * dQ h n s j * qQ h n (ots h n s k).1 ≤ dQ h n s (ots h n s k).1 * dQ h n s (ots h n s k).1 * qQ h n j) ∧
    (∀ j, j < (ots h n s k).1 → dQ h n s j * dQ h n s j * qQ h n (ots h n s k).1 < dQ h n s (ots h n s k).1 * dQ h n s (ots h n s k).1 * qQ h n j)
  | 0 => by
    have e1 : dQ h n s 0 = 0 := if_neg (by omega)
    have e2 : qQ h n 0 = 1 := if_neg (by omega)
    refine ⟨Nat.le_refl _, e1.symm, e2.symm, fun j hj => ?_, fun j hj => absurd hj (by simp [ots])⟩
    obtain rfl : j = 0 := by omega
    exact Int.le_refl _
  | k + 1 => by
    obtain ⟨i1, i2, i3, i4, i5⟩ := ots_best h n s hq h0 k
    rw [ots]
    rw [i2, i3]
    obtain ⟨t, et⟩ : ∃ t, (ots h n s k).1 = t := ⟨_, rfl⟩
    rw [et] at i1 i2 i3 i4 i5 ⊢
    have hqp := qQ_pos h n
    split
    · rename_i hc
      have e1 : dQ h n s (k + 1) = dF h n s (k + 1) := if_pos hc.1
      have e2 : qQ h n (k + 1) = qF h n (k + 1) := if_pos hc.1
      have hc2 := hc.2
      rw [← e1, ← e2] at hc2
      have hs : ∀ j, j ≤ k → dQ h n s j * dQ h n s j * qQ h n (k + 1) < dQ h n s (k + 1) * dQ h n s (k + 1) * qQ h n j := fun j hj =>
        cross_lt (hqp t) (hqp j) (hqp (k + 1)) (i4 j hj) hc2
      refine ⟨Nat.le_refl _, e1.symm, e2.symm, fun j hj => ?_, fun j hj => hs j (by dsimp only at hj; omega)⟩
      by_cases hjk : j = k + 1
      · rw [hjk]; exact Int.le_refl _
      · exact Int.le_of_lt (hs j (by omega))
    · rename_i hc
      rw [et]
      refine ⟨by omega, i2, i3, fun j hj => ?_, i5⟩
      by_cases hjk : j = k + 1
      · rw [hjk]
        by_cases hp : 0 < qF h n (k + 1)
        · have e1 : dQ h n s (k + 1) = dF h n s (k + 1) := if_pos hp
          have e2 : qQ h n (k + 1) = qF h n (k + 1) := if_pos hp
          rw [e1, e2]
          exact Int.not_lt.1 fun hh => hc ⟨hp, hh⟩
        · have e1 : dQ h n s (k + 1) = 0 := if_neg hp
          rw [e1]
          simp only [Int.zero_mul]
          exact Int.mul_nonneg (sq_nonneg _) (Int.le_of_lt (hqp _))
      · exact i4 j (by omega)
theorem qF_zero (h : Nat → Int) (n : Int) : qF h n 0 = 0 := by unfold qF; rw [SN]; simp
theorem qF_nonneg (p : Nat → Int) (hp : ∀ i, 0 ≤ p i ∧ p i < 256) (n k : Nat) : 0 ≤ qF (cnt p n) n k := by
  have := SN_le p (fun i => (hp i).1) k n
  exact Int.mul_nonneg this.1 (by omega)
/-- Otsu's threshold: none has a greater variance, and no smaller one the same. -/
theorem otsu_best (p : Nat → Int) (hp : ∀ i, 0 ≤ p i ∧ p i < 256) (n : Nat) :
    otsu p n ≤ 255 ∧
    (∀ j, j ≤ 255 → dQ (cnt p n) n (SS (cnt p n) 256) j * dQ (cnt p n) n (SS (cnt p n) 256) j * qQ (cnt p n) n (otsu p n) ≤ dQ (cnt p n) n (SS (cnt p n) 256) (otsu p n) * dQ (cnt p n) n (SS (cnt p n) 256) (otsu p n) * qQ (cnt p n) n j) ∧
    (∀ j, j < otsu p n → dQ (cnt p n) n (SS (cnt p n) 256) j * dQ (cnt p n) n (SS (cnt p n) 256) j * qQ (cnt p n) n (otsu p n) < dQ (cnt p n) n (SS (cnt p n) 256) (otsu p n) * dQ (cnt p n) n (SS (cnt p n) 256) (otsu p n) * qQ (cnt p n) n j) := by
  obtain ⟨a, _, _, d, e⟩ := ots_best (cnt p n) n (SS (cnt p n) 256) (qF_nonneg p hp n) (qF_zero _ _) 255
  exact ⟨a, d, e⟩
end Go.Proofs.Ytjhdjmlaidpjfaa.B
