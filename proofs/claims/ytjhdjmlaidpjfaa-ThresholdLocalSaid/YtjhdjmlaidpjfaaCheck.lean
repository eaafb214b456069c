/- raster.CheckImage: is an image sound? -/
import Derived.Test.YtjhdjmlaidpjfaaSame
set_option linter.unusedVariables false
namespace Go.Proofs.Ytjhdjmlaidpjfaa.B
open Go.RowKit
def errB (b : Bool) : Int := if b then 0 else 1
set_option maxRecDepth 100000 in
theorem checkImage_any (x y : Int) (A : Option Addr) (n c : Nat) (w : World) :
    Calls Try.prog 44 #[.agg #[.int .i64 x, .int .i64 y, .slice A n c]] w fun e w' => e = .returned (.int .i64 (errB (sound x y n))) ∧ Below w.heap.size w w' := by
  have hu := Try.underlying24
  have hbel := Lib.hid (bbox (w := w) (.cells #[.int .i64 x, .int .i64 y, .slice A n c] 24))
  have k := (Blk.new w [.int .i64 x, .int .i64 y, .slice A n c] 24).three
  cases hp : poss x y with
  | true =>
    have h1 := poss_bd hp
    have h2 := mul_bd ⟨h1.1, h1.2.1, h1.2.2.1, h1.2.2.2.1⟩
    obtain ⟨p, hpp⟩ : ∃ p, x * y = p := ⟨_, rfl⟩
    have HP := Lib.hid (fun w1 => possible_any x y w1)
    rw [hp] at HP
    have he : sound x y n = decide ((n : Int) = p) := by unfold sound; rw [hp, hpp]; simp
    rw [he]
    rw [hpp] at h2
    clear he h1
    by_cases hn : (n : Int) = p
    · have hb : ((n : Int) != p) = false := by simp [hn]
      rw [show errB (decide ((n : Int) = p)) = 0 by unfold errB; simp [hn]]
      clear hn
      go_enter Try.func44, Try.ntmps44
      go_wp2_with fail
      refine (HP.out _).mono ?_
      rintro e w1 ⟨rfl, rfl⟩
      go_wp2_with fail
      go_ret
      exact ⟨rfl, hbel.out⟩
    · have hb : ((n : Int) != p) = true := by simp [hn]
      rw [show errB (decide ((n : Int) = p)) = 1 by unfold errB; simp [hn]]
      clear hn
      go_enter Try.func44, Try.ntmps44
      go_wp2_with fail
      refine (HP.out _).mono ?_
      rintro e w1 ⟨rfl, rfl⟩
      go_wp2_with fail
      go_ret
      exact ⟨rfl, hbel.out⟩
  | false =>
    have HP := Lib.hid (fun w1 => possible_any x y w1)
    rw [hp] at HP
    rw [show errB (sound x y n) = 1 by unfold sound errB; rw [hp]; simp]
    clear hp
    go_enter Try.func44, Try.ntmps44
    go_wp2_with fail
    refine (HP.out _).mono ?_
    rintro e w1 ⟨rfl, rfl⟩
    go_wp2_with fail
    go_ret
    exact ⟨rfl, hbel.out⟩
end Go.Proofs.Ytjhdjmlaidpjfaa.B
