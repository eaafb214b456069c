/- raster.possible: is a size possible? -/
import Derived.Test.YtjhdjmlaidpjfaaCells
set_option linter.unusedVariables false
namespace Go.Proofs.Ytjhdjmlaidpjfaa.B
open Go.RowKit
/-- Is there a bitmap of this size? -/
def poss (x y : Int) : Bool := decide (1 ≤ x ∧ x ≤ 4096 ∧ 1 ≤ y ∧ y ≤ 4096 ∧ x * y ≤ 4194304)
/-- Is a bitmap of this size and this number of pixels sound? -/
def sound (x y : Int) (n : Nat) : Bool := poss x y && decide ((n : Int) = x * y)
theorem poss_bd {x y : Int} (h : poss x y = true) : 1 ≤ x ∧ x ≤ 4096 ∧ 1 ≤ y ∧ y ≤ 4096 ∧ x * y ≤ 4194304 := of_decide_eq_true h
theorem mul_bd {x y : Int} (h : 1 ≤ x ∧ x ≤ 4096 ∧ 1 ≤ y ∧ y ≤ 4096) : 1 ≤ x * y ∧ x * y ≤ 16777216 := by
  have h1 : 1 * 1 ≤ x * y := Int.mul_le_mul h.1 h.2.2.1 (by omega) (by omega)
  have h2 : x * y ≤ 4096 * 4096 := Int.mul_le_mul h.2.1 h.2.2.2 (by omega) (by omega)
  omega
theorem sound_bd {x y : Int} {n : Nat} (h : sound x y n = true) : 1 ≤ x ∧ x ≤ 4096 ∧ 1 ≤ y ∧ y ≤ 4096 ∧ (n : Int) = x * y ∧ 1 ≤ n ∧ n ≤ 4194304 := by
  unfold sound at h
  simp only [Bool.and_eq_true, decide_eq_true_eq] at h
  have h1 := poss_bd h.1
  have h2 := mul_bd ⟨h1.1, h1.2.1, h1.2.2.1, h1.2.2.2.1⟩
  exact ⟨h1.1, h1.2.1, h1.2.2.1, h1.2.2.2.1, h.2, by omega, by omega⟩
theorem Blk.three {w : World} {g t : Nat} {u v x : Value} (h : Blk w g [u, v, x] t) : w.cell? ⟨g, 0, none⟩ = some u ∧ w.cell? ⟨g, 1, none⟩ = some v ∧ w.cell? ⟨g, 2, none⟩ = some x ∧ w.frozen? ⟨g, 0, none⟩ = false ∧ w.frozen? ⟨g, 1, none⟩ = false ∧ w.frozen? ⟨g, 2, none⟩ = false ∧ g < w.heap.size :=
  ⟨h.cell 0 _ rfl, h.cell 1 _ rfl, h.cell 2 _ rfl, h.frozen 0, h.frozen 1, h.frozen 2, h.lt⟩
set_option maxRecDepth 100000 in
theorem possible_any (x y : Int) (w : World) :
    Calls Try.prog 74 #[.int .i64 x, .int .i64 y] w fun e w' => e = .returned (.bool (poss x y)) ∧ w' = w := by
  by_cases h : 1 ≤ x ∧ x ≤ 4096 ∧ 1 ≤ y ∧ y ≤ 4096
  · obtain ⟨p, hp⟩ : ∃ p, x * y = p := ⟨_, rfl⟩
    have hb := mul_bd h
    rw [hp] at hb
    obtain ⟨a, b, c, d⟩ := h
    have he : poss x y = decide (p ≤ 4194304) := by unfold poss; rw [hp]; simp [a, b, c, d]
    rw [he]
    go_enter Try.func74, Try.ntmps74
    go_wp2_with fail
    go_ret
    exact ⟨rfl, rfl⟩
  · have he : poss x y = false := decide_eq_false (fun k => h ⟨k.1, k.2.1, k.2.2.1, k.2.2.2.1⟩)
    rw [he]
    by_cases a : 1 ≤ x
    · by_cases b : x ≤ 4096
      · by_cases c : 1 ≤ y
        · have d : ¬ y ≤ 4096 := fun d => h ⟨a, b, c, d⟩
          clear h he
          go_enter Try.func74, Try.ntmps74
          go_wp2_with fail
          go_ret
          exact ⟨rfl, rfl⟩
        · clear h he
          go_enter Try.func74, Try.ntmps74
          go_wp2_with fail
          go_ret
          exact ⟨rfl, rfl⟩
      · clear h he
        go_enter Try.func74, Try.ntmps74
        go_wp2_with fail
        go_ret
        exact ⟨rfl, rfl⟩
    · clear h he
      go_enter Try.func74, Try.ntmps74
      go_wp2_with fail
      go_ret
      exact ⟨rfl, rfl⟩
end Go.Proofs.Ytjhdjmlaidpjfaa.B
