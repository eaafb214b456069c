/- The sums of the values above and to the left of a pixel. No statement of the program is proved here. -/
import Derived.Test.YtjhdjmlaidpjfaaCells
set_option linter.unusedVariables false
namespace Go.Proofs.Ytjhdjmlaidpjfaa.B
open Go.RowKit
/-- The sum of the first x values of row v. -/
def rs (p : Nat → Int) (W v : Nat) : Nat → Int
  | 0 => 0
  | x + 1 => rs p W v x + p (v * W + x)
/-- The sum of the first x values of each of the first y rows. -/
def ig (p : Nat → Int) (W : Nat) : Nat → Nat → Int
  | 0, _ => 0
  | y + 1, x => ig p W y x + rs p W y x
/-- The same, told by the index into a table with one more row and column. -/
def sumf (p : Nat → Int) (W j : Nat) : Int := ig p W (j / (W + 1)) (j % (W + 1))
theorem sumf_at (p : Nat → Int) (W y x : Nat) (hx : x < W + 1) : sumf p W (y * (W + 1) + x) = ig p W y x := by
  unfold sumf
  rw [show (y * (W + 1) + x) / (W + 1) = y from by rw [Nat.mul_comm, Nat.mul_add_div (by omega), Nat.div_eq_of_lt hx]; rfl, show (y * (W + 1) + x) % (W + 1) = x from by rw [Nat.mul_comm, Nat.mul_add_mod, Nat.mod_eq_of_lt hx]]
theorem ig_zero (p : Nat → Int) (W : Nat) : ∀ y, ig p W y 0 = 0
  | 0 => rfl
  | y + 1 => by rw [ig, ig_zero p W y]; rfl
theorem sumf_low (p : Nat → Int) (W j : Nat) (hj : j < W + 1) : sumf p W j = 0 := by
  unfold sumf; rw [Nat.div_eq_of_lt hj]; rfl
theorem rs_bd (p : Nat → Int) (hp : ∀ i, 0 ≤ p i ∧ p i < 256) (W v : Nat) : ∀ x, 0 ≤ rs p W v x ∧ rs p W v x ≤ 255 * (x : Int)
  | 0 => by simp [rs]
  | x + 1 => by
    have h1 := rs_bd p hp W v x
    have h2 := hp (v * W + x)
    rw [rs]; omega
theorem ig_bd (p : Nat → Int) (hp : ∀ i, 0 ≤ p i ∧ p i < 256) (W x : Nat) (hx : x ≤ 4096) : ∀ y, 0 ≤ ig p W y x ∧ ig p W y x ≤ 1044480 * (y : Int)
  | 0 => by simp [ig]
  | y + 1 => by
    have h1 := ig_bd p hp W x hx y
    have h2 := rs_bd p hp W y x
    rw [ig]; omega
/-- The table behind k steps. -/
def tab (p : Nat → Int) (W k : Nat) (j : Nat) : Int := if j < k then sumf p W j else 0
theorem tab_zero (p : Nat → Int) (W j : Nat) : tab p W (W + 1) j = 0 := by
  unfold tab
  by_cases h : j < W + 1
  · rw [if_pos h]; exact sumf_low p W j h
  · rw [if_neg h]
theorem tab_col (p : Nat → Int) (W y j : Nat) : tab p W ((y + 1) * (W + 1)) j = tab p W ((y + 1) * (W + 1) + 1) j := by
  unfold tab
  by_cases h : j < (y + 1) * (W + 1)
  · rw [if_pos h, if_pos (by omega)]
  · rw [if_neg h]
    by_cases h2 : j < (y + 1) * (W + 1) + 1
    · rw [if_pos h2]
      obtain rfl : j = (y + 1) * (W + 1) + 0 := by omega
      rw [sumf_at p W (y + 1) 0 (by omega), ig_zero]
    · rw [if_neg h2]
theorem tab_step (p : Nat → Int) (W y x : Nat) (hx : x < W) (j : Nat) :
    tab p W ((y + 1) * (W + 1) + (x + 1) + 1) j = if j = (y + 1) * (W + 1) + (x + 1) then ig p W y (x + 1) + rs p W y (x + 1) else tab p W ((y + 1) * (W + 1) + x + 1) j := by
  unfold tab
  by_cases h : j = (y + 1) * (W + 1) + (x + 1)
  · rw [if_pos h, if_pos (by omega), h, sumf_at p W (y + 1) (x + 1) (by omega)]; rfl
  · rw [if_neg h]
    by_cases h2 : j < (y + 1) * (W + 1) + x + 1
    · rw [if_pos h2, if_pos (by omega)]
    · rw [if_neg h2, if_neg (by omega)]
theorem tab_up (p : Nat → Int) (W y x k : Nat) (hx : x < W + 1) (hk : (y + 1) * (W + 1) ≤ k) : tab p W k (y * (W + 1) + x) = ig p W y x := by
  unfold tab
  rw [if_pos (by rw [Nat.add_mul] at hk; omega), sumf_at p W y x hx]
end Go.Proofs.Ytjhdjmlaidpjfaa.B
