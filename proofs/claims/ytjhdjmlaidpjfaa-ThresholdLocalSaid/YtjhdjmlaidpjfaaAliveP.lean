/- The examples of the chapter, reckoned. No statement of the program is proved here. -/
import Derived.Test.YtjhdjmlaidpjfaaOtsuP
import Derived.Test.YtjhdjmlaidpjfaaHist
import Derived.Test.YtjhdjmlaidpjfaaLocal
set_option linter.unusedVariables false
namespace Go.Proofs.Ytjhdjmlaidpjfaa.B
open Go.RowKit
def px3 (i : Nat) : Int := if i = 0 then 10 else if i = 1 then 20 else if i = 2 then 200 else 0
def px2 (i : Nat) : Int := if i = 0 then 1 else if i = 1 then 2 else 0
theorem px3_bd : ∀ i, 0 ≤ px3 i ∧ px3 i < 256 := fun i => by unfold px3; (repeat' split) <;> omega
theorem px2_bd : ∀ i, 0 ≤ px2 i ∧ px2 i < 256 := fun i => by unfold px2; (repeat' split) <;> omega
theorem otsu3 : otsu px3 3 = 21 := by kernel_rfl
theorem lcl3 : ∀ i, i < 3 → lcl px3 3 1 1 100 i = (if i = 0 then true else if i = 1 then true else false) := by decide
theorem sum2 : ∀ i, i < 6 → sumf px2 2 i = (if i = 4 then 1 else if i = 5 then 3 else 0) := by decide
def g3 (i : Nat) : Bool := if i = 0 then true else if i = 1 then true else false
def g6 (i : Nat) : Int := if i = 4 then 1 else if i = 5 then 3 else 0
theorem same3a : sameM 3 1 3 (fun i => decide (px3 i < ((21 : Nat) : Int))) 3 1 3 g3 = true := by decide
theorem same6 : (decide (6 = 6) && agree (sumf px2 2) g6 6) = true := by decide
theorem same3b : (decide (3 = 3) && agree (lcl px3 (3 : Int).toNat (1 : Int).toNat 1 100) g3 3) = true := by decide
theorem g3_row {w : World} {g t : Nat} (h : Blk w g [.bool true, .bool true, .bool false] t) : Ro w (some ⟨g, 0, none⟩) 3 (fun i => .bool (g3 i)) := h.ro _ (fun i hi => by
  match i, hi with
  | 0, _ => rfl
  | 1, _ => rfl
  | 2, _ => rfl)
theorem g6_row {w : World} {g t : Nat} (h : Blk w g [.int .i64 0, .int .i64 0, .int .i64 0, .int .i64 0, .int .i64 1, .int .i64 3] t) : Ro w (some ⟨g, 0, none⟩) 6 (fun i => .int .i64 (g6 i)) := h.ro _ (fun i hi => by
  match i, hi with
  | 0, _ => rfl
  | 1, _ => rfl
  | 2, _ => rfl
  | 3, _ => rfl
  | 4, _ => rfl
  | 5, _ => rfl)
end Go.Proofs.Ytjhdjmlaidpjfaa.B
