/- threshold.Auto: the bitmap with Otsu's threshold. -/
import Derived.Test.YtjhdjmlaidpjfaaOtsu
import Derived.Test.YtjhdjmlaidpjfaaGlobal
set_option linter.unusedVariables false
namespace Go.Proofs.Ytjhdjmlaidpjfaa.B
open Go.RowKit
theorem otsu_le (p : Nat → Int) (hp : ∀ i, 0 ≤ p i ∧ p i < 256) (n : Nat) (hn : n ≤ 4194304) : otsu p n ≤ 255 := (ots_bd p hp n hn 255 (Nat.le_refl _)).1
set_option maxHeartbeats 4000000 in
set_option maxRecDepth 100000 in
theorem auto_any (x y : Int) (A : Option Addr) (n c : Nat) (p : Nat → Int) (w : World) (hA : Ro w A n (fun i => .int .u8 (p i))) (hp : ∀ i, 0 ≤ p i ∧ p i < 256) (hn : n ≤ c) :
    Calls Try.prog 21 #[.agg #[.int .i64 x, .int .i64 y, .slice A n c]] w (MatIf (sound x y n) x y n (fun i => decide (p i < otsu p n)) 1 w) := by
  have hu := Try.underlying24
  have hu2 := Try.underlying35
  have HO := Lib.hid (fun w1 h => otsu_any x y A n c p w1 h hp hn)
  have K0 := Lib.hid ((Blk.new w [.int .i64 x, .int .i64 y, .slice A n c] 24).alloc (.cells #[.int .i64 0, .int .i64 0, .slice none 0 0] 35))
  have K1 := Lib.hid (Blk.new1 w (.cells #[.int .i64 x, .int .i64 y, .slice A n c] 24) [.int .i64 0, .int .i64 0, .slice none 0 0] 35)
  have HB := Lib.hid (balloc (bbox (w := w) (.cells #[.int .i64 x, .int .i64 y, .slice A n c] 24)) (.cells #[.int .i64 0, .int .i64 0, .slice none 0 0] 35))
  have HA := Lib.hid hA
  cases hs : sound x y n with
  | false =>
    rw [hs] at HO
    unfold MatIf
    have hb : (errB false != 0) = true := rfl
    simp only [Bool.false_eq_true, if_false] at HO ⊢
    clear hA hp hs
    go_enter Try.func21, Try.ntmps21
    go_wp2_with fail
    refine (HO.out _ ((HA.out.alloc _).alloc _)).mono ?_
    rintro e w1 ⟨rfl, h1⟩
    have L1 := Lib.hid (K1.out.below h1)
    have LB := Lib.hid (bthen HB.out h1)
    clear h1
    have l1 := L1.out.three
    go_wp2_with fail
    exact bodyPost_ret (res_mat rfl _ _ (w.heap.size + 1) _ _ _ rfl (L1.out.store3 _ _ _)) rfl ⟨none, 0, rfl, Nat.le_refl _, Ro.nil _ _ _, OnlyAbove.store3 LB.out (by omega) _ _ _⟩
  | true =>
    have hb : (errB true != 0) = false := rfl
    have hnb := (sound_bd hs).2.2.2.2.2.2
    have hle := otsu_le p hp n hnb
    obtain ⟨t, et⟩ : ∃ t, otsu p n = t := ⟨_, rfl⟩
    have HG := Lib.hid (fun w1 h => global_any x y t A n c p w1 h hp hn)
    rw [hs] at HO HG
    rw [et] at HO hle ⊢
    simp only [if_true] at HO
    rw [Bool.true_and, decide_eq_true (show 0 ≤ (t : Int) ∧ (t : Int) ≤ 256 by omega)] at HG
    unfold MatIf at HG ⊢
    simp only [if_true] at HG ⊢
    clear hA hp hs et
    go_enter Try.func21, Try.ntmps21
    go_wp2_with fail
    refine (HO.out _ ((HA.out.alloc _).alloc _)).mono ?_
    rintro e w1 ⟨rfl, h1⟩
    have L0 := Lib.hid (K0.out.below h1)
    have L1 := Lib.hid (K1.out.below h1)
    have LB := Lib.hid (bthen HB.out h1)
    clear h1
    have l0 := L0.out.three
    go_wp2_with fail
    refine (HG.out _ (HA.out.below LB.out)).mono ?_
    rintro e w2 ⟨A2, c2, rfl, g1, g2, h2⟩
    have M1 := Lib.hid (L1.out.below h2)
    have MB := Lib.hid (bthen LB.out h2)
    have G2 := Lib.hid g2
    clear h2 g2 l0
    have m1 := M1.out.three
    go_wp2_with fail
    exact bodyPost_ret (res_mat rfl _ _ (w.heap.size + 1) _ _ _ rfl (M1.out.store3 _ _ _)) rfl ⟨A2, c2, rfl, g1, G2.out.store3b M1.out _ _ _ _ _, OnlyAbove.store3 MB.out (by omega) _ _ _⟩
end Go.Proofs.Ytjhdjmlaidpjfaa.B
