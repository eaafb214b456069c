/- bigint.Cmp and bigint.Neg of integers of at most 512 limbs. -/
import Derived.Test.YtjhdjmlaidpjfaaMade
set_option linter.unusedVariables false
namespace Go.Proofs.Ytjhdjmlaidpjfaa.B
open Go.RowKit
theorem mgl (z : Int) : (mg z).length = sz z := rfl
set_option maxHeartbeats 1000000 in
set_option maxRecDepth 100000 in
theorem neg_ok (x : Int) (A : Option Addr) (c : Nat) (w : World) (hx : At w A c x) (sx : sz x ≤ 512) :
    Calls Try.prog 88 #[.agg #[.bool (sg x), .slice A (sz x) c]] w (IntPost (-x) w) := by
  have hu := Try.underlying52
  have HVX := Lib.hid (fun w1 h => valid_ok A c x w1 h sx)
  have HX := Lib.hid hx
  obtain ⟨a, ha⟩ : ∃ a, sg x = a := ⟨_, rfl⟩
  have hz : signed (!a) (val (mg x)) = -x := by
    rw [← ha, mg_val]; unfold signed sg
    by_cases h : x < 0 <;> simp [h] <;> omega
  have HZ := Lib.hid hz
  have HM := Lib.hid (fun w1 h => made_any (!a) A c (mg x) w1 h hx.2 (by have := mgl x; omega))
  rw [ha] at HVX ⊢
  rw [mgl] at HM
  clear hx ha hz
  go_enter Try.func88, Try.ntmps88
  go_wp2_with fail
  refine (HVX.out _ ((HX.out.alloc _).alloc _)).mono ?_
  rintro e w1 ⟨rfl, h1⟩
  have K1 := Lib.hid (((Blk.new w [.bool a, .slice A (sz x) c] 52).alloc (.cells #[.bool false, .slice none 0 0] 52)).below h1)
  have K2 := Lib.hid ((Blk.new1 w (.cells #[.bool a, .slice A (sz x) c] 52) [.bool false, .slice none 0 0] 52).below h1)
  have HB := Lib.hid (bthen (balloc (balloc (Below.refl w.heap.size w) _) _) h1)
  clear h1
  have k1 := K1.out.two
  go_wp2_with fail
  refine (HM.out _ (HX.out.below HB.out).1).mono ?_
  rw [HZ.out]
  rintro e w2 ⟨A2, c2, rfl, h1, h2⟩
  replace K2 := Lib.hid (K2.out.below h2)
  replace HB := Lib.hid (bthen HB.out h2)
  have H1 := Lib.hid h1
  clear h1 h2 k1
  have k2 := K2.out.two
  go_wp2_with fail
  exact bodyPost_ret (res_int rfl _ _ (w.heap.size + 1) _ _ _ _ rfl (K2.out.store2 _ _ _ _)) rfl ⟨A2, c2, rfl, H1.out.store2 K2.out _ _ _ _, below_store2 HB.out (by omega) _ _⟩
theorem sgn3_neg (x y : Int) (hx : x < 0) (hy : y < 0) : sgn3 (y.natAbs : Int) x.natAbs = sgn3 x y := by
  unfold sgn3
  by_cases h : x < y
  · rw [if_pos h, if_pos (by omega)]
  · rw [if_neg h, if_neg (by omega)]
    by_cases h2 : x = y
    · rw [if_pos h2, if_pos (by omega)]
    · rw [if_neg h2, if_neg (by omega)]
set_option maxHeartbeats 2000000 in
set_option maxRecDepth 100000 in
theorem cmp_ok (x y : Int) (A : Option Addr) (c : Nat) (B : Option Addr) (d : Nat) (w : World) (hx : At w A c x) (hy : At w B d y) (sx : sz x ≤ 512) (sy : sz y ≤ 512) :
    Calls Try.prog 70 #[.agg #[.bool (sg x), .slice A (sz x) c], .agg #[.bool (sg y), .slice B (sz y) d]] w fun e w' => e = .returned (.int .i64 (sgn3 x y)) ∧ Below w.heap.size w w' := by
  have hu := Try.underlying52
  have HVX := Lib.hid (fun w1 h => valid_ok A c x w1 h sx)
  have HVY := Lib.hid (fun w1 h => valid_ok B d y w1 h sy)
  have HX := Lib.hid hx
  have HY := Lib.hid hy
  have HC := Lib.hid (fun w1 h1 h2 => compare_any A B c d (mg x) (mg y) w1 h1 hx.2 h2 hy.2 (by have := mgl x; omega) (by have := mgl y; omega) (mg_trm x) (mg_trm y))
  have HC2 := Lib.hid (fun w1 h1 h2 => compare_any B A d c (mg y) (mg x) w1 h1 hy.2 h2 hx.2 (by have := mgl y; omega) (by have := mgl x; omega) (mg_trm y) (mg_trm x))
  rw [mg_val, mg_val, mgl, mgl] at HC HC2
  obtain ⟨a, ha⟩ : ∃ a, sg x = a := ⟨_, rfl⟩
  obtain ⟨b, hb⟩ : ∃ b, sg y = b := ⟨_, rfl⟩
  have HSA : Hid (decide (x < 0) = a) := ha
  have HSB : Hid (decide (y < 0) = b) := hb
  obtain ⟨r, hr⟩ : ∃ r, sgn3 x y = r := ⟨_, rfl⟩
  have HRR := Lib.hid hr
  rw [ha] at HVX ⊢
  rw [hb] at HVY ⊢
  rw [hr]
  clear hx hy ha hb hr
  go_enter Try.func70, Try.ntmps70
  go_wp2_with fail
  refine (HVX.out _ ((HX.out.alloc _).alloc _)).mono ?_
  rintro e w1 ⟨rfl, h1⟩
  have K1 := Lib.hid (((Blk.new w [.bool a, .slice A (sz x) c] 52).alloc (.cells #[.bool b, .slice B (sz y) d] 52)).below h1)
  have K2 := Lib.hid ((Blk.new1 w (.cells #[.bool a, .slice A (sz x) c] 52) [.bool b, .slice B (sz y) d] 52).below h1)
  have HB := Lib.hid (bthen (balloc (balloc (Below.refl w.heap.size w) _) _) h1)
  clear h1
  have k2 := K2.out.two
  go_wp2_with fail
  refine (HVY.out _ (HY.out.below HB.out)).mono ?_
  rintro e w2 ⟨rfl, h2⟩
  replace K1 := Lib.hid (K1.out.below h2)
  replace K2 := Lib.hid (K2.out.below h2)
  replace HB := Lib.hid (bthen HB.out h2)
  clear h2 k2
  have k1 := K1.out.two
  have k2 := K2.out.two
  have HXR := Lib.hid (HX.out.below HB.out).1
  have HYR := Lib.hid (HY.out.below HB.out).1
  cases a with
  | true =>
    have hx0 : x < 0 := of_decide_eq_true HSA.out
    cases b with
    | true =>
      have hy0 : y < 0 := of_decide_eq_true HSB.out
      have HS := Lib.hid (sgn3_neg x y hx0 hy0)
      clear hx0 hy0
      go_wp2_with fail
      refine (HC2.out _ HYR.out HXR.out).mono ?_
      rintro e w3 ⟨rfl, h3⟩
      have HB3 := Lib.hid (bthen HB.out h3.below)
      clear h3
      go_wp2_with fail
      go_ret
      exact ⟨ret1 (HS.out.trans HRR.out), HB3.out⟩
    | false =>
      have hy0 : ¬ y < 0 := of_decide_eq_false HSB.out
      have HS : Hid (sgn3 x y = -1) := by unfold sgn3; exact if_pos (by omega)
      clear hx0 hy0
      go_wp2_with fail
      go_ret
      exact ⟨ret1 (HS.out.symm.trans HRR.out), HB.out⟩
  | false =>
    have hx0 : ¬ x < 0 := of_decide_eq_false HSA.out
    cases b with
    | true =>
      have hy0 : y < 0 := of_decide_eq_true HSB.out
      have HS : Hid (sgn3 x y = 1) := by unfold sgn3; rw [if_neg (by omega)]; exact if_neg (by omega)
      clear hx0 hy0
      go_wp2_with fail
      go_ret
      exact ⟨ret1 (HS.out.symm.trans HRR.out), HB.out⟩
    | false =>
      have hy0 : ¬ y < 0 := of_decide_eq_false HSB.out
      have HS : Hid (sgn3 (x.natAbs : Int) y.natAbs = sgn3 x y) := by rw [show (x.natAbs : Int) = x by omega, show (y.natAbs : Int) = y by omega]; rfl
      clear hx0 hy0
      go_wp2_with fail
      refine (HC.out _ HXR.out HYR.out).mono ?_
      rintro e w3 ⟨rfl, h3⟩
      have HB3 := Lib.hid (bthen HB.out h3.below)
      clear h3
      go_wp2_with fail
      go_ret
      exact ⟨ret1 (HS.out.trans HRR.out), HB3.out⟩
end Go.Proofs.Ytjhdjmlaidpjfaa.B
