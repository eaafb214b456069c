/- What limbs.Trim returns: the same row without the zero limbs at its end; memory is as it was. -/
import Derived.Test.YtjhdjmlaidpjfaaBase
set_option linter.unusedVariables false
namespace Go.Proofs.Ytjhdjmlaidpjfaa.B
open Go.RowKit
/-- How many limbs are left without the zeros at the end of the first n. -/
def trimN (xs : List Int) : Nat → Nat
  | 0 => 0
  | n + 1 => if xs.getD n 0 = 0 then trimN xs n else n + 1
theorem trimN_le (xs : List Int) : ∀ n, trimN xs n ≤ n
  | 0 => Nat.le_refl _
  | n + 1 => by rw [trimN]; split <;> have := trimN_le xs n <;> omega
def trim (xs : List Int) : List Int := xs.take (trimN xs xs.length)
theorem trim_len (xs : List Int) : (trim xs).length = trimN xs xs.length := by
  unfold trim; rw [List.length_take]; exact Nat.min_eq_left (trimN_le _ _)
theorem getD_take (xs : List Int) (n j : Nat) : (xs.take n).getD j 0 = if j < n then xs.getD j 0 else 0 := by grind
theorem trimN_zero (xs : List Int) : ∀ n j, trimN xs n ≤ j → j < n → xs.getD j 0 = 0
  | 0, j, _, h => by omega
  | n + 1, j, h1, h2 => by
    rw [trimN] at h1; split at h1
    · rename_i h; by_cases hj : j = n
      · rw [hj]; exact h
      · exact trimN_zero xs n j h1 (by omega)
    · omega
theorem trimN_last (xs : List Int) : ∀ n, trimN xs n = 0 ∨ xs.getD (trimN xs n - 1) 0 ≠ 0
  | 0 => .inl rfl
  | n + 1 => by
    rw [trimN]; split
    · exact trimN_last xs n
    · rename_i h; exact .inr (by simpa using h)
theorem V_take (xs : List Int) (n : Nat) : ∀ m, m ≤ n → V (xs.take n) m = V xs m := fun m h => V_congr _ _ m (fun j hj => by rw [getD_take, if_pos (by omega)])
theorem trim_val (xs : List Int) : val (trim xs) = val xs := by
  unfold val
  rw [trim_len, trim, V_take _ _ _ (Nat.le_refl _)]
  exact (V_zeros xs _ _ (trimN_le _ _) (fun j h1 h2 => trimN_zero xs _ j h1 h2)).symm
theorem trim_dig {xs : List Int} (h : Dig xs) : Dig (trim xs) := fun j => by
  unfold trim; rw [getD_take]; split
  · exact h j
  · omega
theorem trim_trm (xs : List Int) : Trm (trim xs) := by
  unfold Trm; rw [trim_len]
  rcases trimN_last xs xs.length with h | h
  · exact .inl h
  · refine .inr ?_
    by_cases h0 : trimN xs xs.length = 0
    · rw [h0] at h ⊢; unfold trim; rw [h0]; simp at h ⊢
      have := trimN_zero xs xs.length 0 (by omega)
      by_cases hl : 0 < xs.length
      · exact absurd (this hl) (by simpa using h)
      · exact absurd (getD_out xs 0 (by omega)) (by simpa using h)
    · unfold trim; rw [getD_take, if_pos (by omega)]; exact h
theorem trim_of_trm {xs : List Int} (h : Trm xs) : trim xs = xs := by
  have : trimN xs xs.length = xs.length := by
    rcases h with h | h
    · rw [h]; rfl
    · cases hn : xs.length with
      | zero => rfl
      | succ n => rw [trimN, if_neg (by rw [hn] at h; simpa using h)]
  unfold trim; rw [this]; exact List.take_length
theorem Rd.take {w : World} {A : Option Addr} {xs : List Int} (h : Rd w A xs) (n : Nat) : Rd w A (xs.take n) :=
  ⟨fun j => by rw [getD_take]; split; exact h.1 j; omega, fun h0 => by
    rw [List.length_take] at h0
    obtain ⟨b, off, e, hs, hc⟩ := h.2 (by omega)
    exact ⟨b, off, e, hs, fun i hi => by rw [List.length_take] at hi; rw [getD_take, if_pos (by omega)]; exact hc i (by omega)⟩⟩
theorem Rd.trim {w : World} {A : Option Addr} {xs : List Int} (h : Rd w A xs) : Rd w A (trim xs) := h.take _

/-- The call's end: a slice of the limbs. -/
theorem trim_any (A : Option Addr) (c : Nat) (xs : List Int) (w : World) (h : Rd w A xs) (hl : xs.length ≤ c) (hm : xs.length ≤ 1000000000000) :
    Calls Try.prog 121 #[.slice A xs.length c] w fun e w' => e = .returned (.slice A (trim xs).length c) ∧ w = w' := by
  obtain ⟨n, hn⟩ : ∃ n, xs.length = n := ⟨_, rfl⟩
  have HT : Hid (trimN xs n = (trim xs).length) := by have := trim_len xs; rw [hn] at this; exact this.symm
  have HR := Lib.hid h
  clear h
  have HN := Lib.hid hn
  rw [hn] at hl hm ⊢
  clear hn
  go_enter Try.func121, Try.ntmps121
  go_wp2_with fail
  go_loop [0] (fun v => ∃ k : Nat, k ≤ n ∧ v = .slice A k c ∧ Hid (trimN xs k = (trim xs).length)) (fun v => match v with | .slice _ k _ => k | _ => 0)
  case atStart => exact ⟨n, Nat.le_refl _, rfl, HT⟩
  case round =>
    obtain ⟨k, hk, rfl, HK⟩ := hrel
    cases k with
    | zero =>
      go_wp2_with fail
      go_ret
      exact ⟨by rw [← HK.out]; rfl, rfl⟩
    | succ k =>
      obtain ⟨b, off, rfl, hs, hc⟩ := HR.out.2 (by rw [HN.out]; omega)
      have hcell := hc k (by rw [HN.out]; omega)
      clear hc
      obtain ⟨x, hx⟩ : ∃ x, xs.getD k 0 = x := ⟨_, rfl⟩
      rw [hx] at hcell
      have HX := Lib.hid hx
      clear hx
      by_cases h0 : x = 0
      · subst h0
        go_wp2_with fail
        exact ⟨⟨k, by omega, rfl, by rw [← HK.out, trimN, if_pos HX.out]; rfl⟩, by simp⟩
      · have h1 : (x == 0) = false := beq_eq_false_iff_ne.2 h0
        go_wp2_with fail
        go_ret
        exact ⟨by rw [← HK.out, trimN, if_neg (by rw [HX.out]; exact h0)]; rfl, rfl⟩
end Go.Proofs.Ytjhdjmlaidpjfaa.B
