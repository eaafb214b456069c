/- The references' Sound of an image; the law's few. -/
import Derived.Test.YtjhdjmlaidpjfaaCheck
set_option linter.unusedVariables false
namespace Go.Proofs.Ytjhdjmlaidpjfaa.B
open Go.RowKit
set_option maxRecDepth 100000 in
theorem sound36_any (x y : Int) (A : Option Addr) (n c : Nat) (w : World) :
    Calls Try.prog 29 #[.agg #[.int .i64 x, .int .i64 y, .slice A n c]] w fun e w' => e = .returned (.bool (sound x y n)) ∧ Below w.heap.size w w' := by
  have hu := Try.underlying24
  have hbel := Lib.hid (bbox (w := w) (.cells #[.int .i64 x, .int .i64 y, .slice A n c] 24))
  have k := (Blk.new w [.int .i64 x, .int .i64 y, .slice A n c] 24).three
  by_cases h : 1 ≤ x ∧ x ≤ 4096 ∧ 1 ≤ y ∧ y ≤ 4096
  · obtain ⟨p, hp⟩ : ∃ p, x * y = p := ⟨_, rfl⟩
    have hb := mul_bd h
    rw [hp] at hb
    obtain ⟨a, b, c0, d⟩ := h
    have he : sound x y n = (decide (p ≤ 4194304) && decide ((n : Int) = p)) := by unfold sound poss; rw [hp]; simp [a, b, c0, d]
    rw [he]
    clear he
    by_cases hq : p ≤ 4194304
    · rw [decide_eq_true hq, Bool.true_and]
      go_enter Try.func29, Try.ntmps29
      go_wp2_with fail
      go_ret
      exact ⟨rfl, hbel.out⟩
    · rw [decide_eq_false hq, Bool.false_and]
      go_enter Try.func29, Try.ntmps29
      go_wp2_with fail
      go_ret
      exact ⟨rfl, hbel.out⟩
  · have he : sound x y n = false := by unfold sound poss; rw [decide_eq_false (fun k => h ⟨k.1, k.2.1, k.2.2.1, k.2.2.2.1⟩), Bool.false_and]
    rw [he]
    by_cases a : 1 ≤ x
    · by_cases b : x ≤ 4096
      · by_cases c0 : 1 ≤ y
        · have d : ¬ y ≤ 4096 := fun d => h ⟨a, b, c0, d⟩
          clear h he
          go_enter Try.func29, Try.ntmps29
          go_wp2_with fail
          go_ret
          exact ⟨rfl, hbel.out⟩
        · clear h he
          go_enter Try.func29, Try.ntmps29
          go_wp2_with fail
          go_ret
          exact ⟨rfl, hbel.out⟩
      · clear h he
        go_enter Try.func29, Try.ntmps29
        go_wp2_with fail
        go_ret
        exact ⟨rfl, hbel.out⟩
    · clear h he
      go_enter Try.func29, Try.ntmps29
      go_wp2_with fail
      go_ret
      exact ⟨rfl, hbel.out⟩
set_option maxRecDepth 100000 in
theorem few_any (x y : Int) (A : Option Addr) (n c : Nat) (w : World) :
    Calls Try.prog 13 #[.agg #[.int .i64 x, .int .i64 y, .slice A n c]] w fun e w' => e = .returned (.bool (decide ((n : Int) ≤ 2000))) ∧ Below w.heap.size w w' := by
  have hu := Try.underlying24
  have hbel := Lib.hid (bbox (w := w) (.cells #[.int .i64 x, .int .i64 y, .slice A n c] 24))
  have k := (Blk.new w [.int .i64 x, .int .i64 y, .slice A n c] 24).three
  go_enter Try.func13, Try.ntmps13
  go_wp2_with fail
  go_ret
  exact ⟨rfl, hbel.out⟩
end Go.Proofs.Ytjhdjmlaidpjfaa.B
