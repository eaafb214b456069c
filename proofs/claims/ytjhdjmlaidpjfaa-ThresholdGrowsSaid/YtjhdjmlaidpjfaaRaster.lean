/- raster.possible and raster.CheckImage: is a size possible, is an image sound? The references' Sound, the law's few. -/
import Derived.Test.YtjhdjmlaidpjfaaCells
set_option linter.unusedVariables false
namespace Go.Proofs.Ytjhdjmlaidpjfaa.B
open Go.RowKit
/-- Is there a bitmap of this size? -/
def poss (x y : Int) : Bool := decide (1 ≤ x ∧ x ≤ 4096 ∧ 1 ≤ y ∧ y ≤ 4096 ∧ x * y ≤ 4194304)
/-- Is a bitmap of this size and this number of pixels sound? -/
def sound (x y : Int) (n : Nat) : Bool := poss x y && decide ((n : Int) = x * y)
theorem poss_bd {x y : Int} (h : poss x y = true) : 1 ≤ x ∧ x ≤ 4096 ∧ 1 ≤ y ∧ y ≤ 4096 ∧ x * y ≤ 4194304 := of_decide_eq_true h
theorem mul_bd {x y : Int} (h : 1 ≤ x ∧ x ≤ 4096 ∧ 1 ≤ y ∧ y ≤ 4096) : 1 ≤ x * y ∧ x * y ≤ 16777216 := by
  have h1 : 1 * 1 ≤ x * y := Int.mul_le_mul h.1 h.2.2.1 (by omega) (by omega)
  have h2 : x * y ≤ 4096 * 4096 := Int.mul_le_mul h.2.1 h.2.2.2 (by omega) (by omega)
  omega
theorem sound_bd {x y : Int} {n : Nat} (h : sound x y n = true) : 1 ≤ x ∧ x ≤ 4096 ∧ 1 ≤ y ∧ y ≤ 4096 ∧ (n : Int) = x * y ∧ 1 ≤ n ∧ n ≤ 4194304 := by
  unfold sound at h
  simp only [Bool.and_eq_true, decide_eq_true_eq] at h
  have h1 := poss_bd h.1
  have h2 := mul_bd ⟨h1.1, h1.2.1, h1.2.2.1, h1.2.2.2.1⟩
  exact ⟨h1.1, h1.2.1, h1.2.2.1, h1.2.2.2.1, h.2, by omega, by omega⟩
theorem Blk.three {w : World} {g t : Nat} {u v x : Value} (h : Blk w g [u, v, x] t) : w.cell? ⟨g, 0, none⟩ = some u ∧ w.cell? ⟨g, 1, none⟩ = some v ∧ w.cell? ⟨g, 2, none⟩ = some x ∧ w.frozen? ⟨g, 0, none⟩ = false ∧ w.frozen? ⟨g, 1, none⟩ = false ∧ w.frozen? ⟨g, 2, none⟩ = false ∧ g < w.heap.size :=
  ⟨h.cell 0 _ rfl, h.cell 1 _ rfl, h.cell 2 _ rfl, h.frozen 0, h.frozen 1, h.frozen 2, h.lt⟩
set_option maxRecDepth 100000 in
theorem possible_any (x y : Int) (w : World) :
    Calls Try.prog 74 #[.int .i64 x, .int .i64 y] w fun e w' => e = .returned (.bool (poss x y)) ∧ w' = w := by
  by_cases h : 1 ≤ x ∧ x ≤ 4096 ∧ 1 ≤ y ∧ y ≤ 4096
  · obtain ⟨p, hp⟩ : ∃ p, x * y = p := ⟨_, rfl⟩
    have hb := mul_bd h
    rw [hp] at hb
    obtain ⟨a, b, c, d⟩ := h
    have he : poss x y = decide (p ≤ 4194304) := by unfold poss; rw [hp]; simp [a, b, c, d]
    rw [he]
    go_enter Try.func74, Try.ntmps74
    go_wp2_with fail
    go_ret
    exact ⟨rfl, rfl⟩
  · have he : poss x y = false := decide_eq_false (fun k => h ⟨k.1, k.2.1, k.2.2.1, k.2.2.2.1⟩)
    rw [he]
    by_cases a : 1 ≤ x
    · by_cases b : x ≤ 4096
      · by_cases c : 1 ≤ y
        · have d : ¬ y ≤ 4096 := fun d => h ⟨a, b, c, d⟩
          clear h he
          go_enter Try.func74, Try.ntmps74
          go_wp2_with fail
          go_ret
          exact ⟨rfl, rfl⟩
        · clear h he
          go_enter Try.func74, Try.ntmps74
          go_wp2_with fail
          go_ret
          exact ⟨rfl, rfl⟩
      · clear h he
        go_enter Try.func74, Try.ntmps74
        go_wp2_with fail
        go_ret
        exact ⟨rfl, rfl⟩
    · clear h he
      go_enter Try.func74, Try.ntmps74
      go_wp2_with fail
      go_ret
      exact ⟨rfl, rfl⟩
def errB (b : Bool) : Int := if b then 0 else 1
set_option maxRecDepth 100000 in
theorem checkImage_any (x y : Int) (A : Option Addr) (n c : Nat) (w : World) :
    Calls Try.prog 44 #[.agg #[.int .i64 x, .int .i64 y, .slice A n c]] w fun e w' => e = .returned (.int .i64 (errB (sound x y n))) ∧ Below w.heap.size w w' := by
  have hu := Try.underlying24
  have hbel := Lib.hid (bbox (w := w) (.cells #[.int .i64 x, .int .i64 y, .slice A n c] 24))
  have k := (Blk.new w [.int .i64 x, .int .i64 y, .slice A n c] 24).three
  cases hp : poss x y with
  | true =>
    have h1 := poss_bd hp
    have h2 := mul_bd ⟨h1.1, h1.2.1, h1.2.2.1, h1.2.2.2.1⟩
    obtain ⟨p, hpp⟩ : ∃ p, x * y = p := ⟨_, rfl⟩
    have HP := Lib.hid (fun w1 => possible_any x y w1)
    rw [hp] at HP
    have he : sound x y n = decide ((n : Int) = p) := by unfold sound; rw [hp, hpp]; simp
    rw [he]
    rw [hpp] at h2
    clear he h1
    by_cases hn : (n : Int) = p
    · have hb : ((n : Int) != p) = false := by simp [hn]
      rw [show errB (decide ((n : Int) = p)) = 0 by unfold errB; simp [hn]]
      clear hn
      go_enter Try.func44, Try.ntmps44
      go_wp2_with fail
      refine (HP.out _).mono ?_
      rintro e w1 ⟨rfl, rfl⟩
      go_wp2_with fail
      go_ret
      exact ⟨rfl, hbel.out⟩
    · have hb : ((n : Int) != p) = true := by simp [hn]
      rw [show errB (decide ((n : Int) = p)) = 1 by unfold errB; simp [hn]]
      clear hn
      go_enter Try.func44, Try.ntmps44
      go_wp2_with fail
      refine (HP.out _).mono ?_
      rintro e w1 ⟨rfl, rfl⟩
      go_wp2_with fail
      go_ret
      exact ⟨rfl, hbel.out⟩
  | false =>
    have HP := Lib.hid (fun w1 => possible_any x y w1)
    rw [hp] at HP
    rw [show errB (sound x y n) = 1 by unfold sound errB; rw [hp]; simp]
    clear hp
    go_enter Try.func44, Try.ntmps44
    go_wp2_with fail
    refine (HP.out _).mono ?_
    rintro e w1 ⟨rfl, rfl⟩
    go_wp2_with fail
    go_ret
    exact ⟨rfl, hbel.out⟩
end Go.Proofs.Ytjhdjmlaidpjfaa.B
