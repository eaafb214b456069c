/- bigint.result and bigint.Mul, where the result has at most 512 limbs. -/
import Derived.Test.YtjhdjmlaidpjfaaMade
import Derived.Deep.RegionHeld3
set_option linter.unusedVariables false
namespace Go.Proofs.Ytjhdjmlaidpjfaa.B
open Go.RowKit
set_option maxHeartbeats 1000000 in
set_option maxRecDepth 100000 in
theorem result_ok (neg : Bool) (A : Option Addr) (c : Nat) (xs : List Int) (w : World) (hA : Rd w A xs) (hc : xs.length ≤ c) (hl : xs.length ≤ 1000000000000) (z : Int) (hz : signed neg (val xs) = z) (hs : sz z ≤ 512) :
    Calls Try.prog 125 #[.bool neg, .slice A xs.length c] w (IntOkPost z w) := by
  have hu := Try.underlying52
  have hm := fun w1 h => made_any neg A c xs w1 h hc hl
  rw [hz] at hm
  have HM := Lib.hid hm
  have HR := Lib.hid hA
  clear hm hA hz
  have HK0 := Lib.hid (Blk.new w [.bool false, .slice none 0 0] 52)
  go_enter Try.func125, Try.ntmps125
  go_wp2_with fail
  refine (HM.out _ (HR.out.below ((Below.refl _ _).alloc (Nat.le_refl _) _))).mono ?_
  rintro e w1 ⟨A1, c1, rfl, h1, h2⟩
  have HK := Lib.hid (HK0.out.below h2)
  have HB := Lib.hid (((Below.refl w.heap.size w).alloc (Nat.le_refl _) _).trans (h2.mono (by simp)))
  have H1 := Lib.hid h1
  have hbl := HK.out.lt
  have hc0 := HK.out.cell 0 _ rfl
  have hc1 := HK.out.cell 1 _ rfl
  have hf0 := HK.out.frozen 0
  have hf1 := HK.out.frozen 1
  have hcap := h1.2
  have hd : decide (512 < sz z) = false := decide_eq_false (by omega)
  have hd2 : decide ((512 : Int) < sz z) = false := decide_eq_false (by omega)
  clear h1 h2
  go_wp2_with fail
  refine bodyPost_ret (res_int2 rfl _ _ w.heap.size _ _ _ _ rfl ((HK.out.store2 _ _ _ _).alloc _)) rfl ⟨A1, c1, rfl, (H1.out.store2 HK.out _ _ _ _).alloc _, balloc (below_store2 HB.out (Nat.le_refl _) _ _) _⟩
theorem signed_mul (x y : Int) : signed (sg x != sg y) (val (mg x) * val (mg y)) = x * y := by
  rw [mg_val, mg_val, ← Int.natCast_mul, ← Int.natAbs_mul]
  unfold signed sg
  by_cases hx : x < 0 <;> by_cases hy : y < 0 <;> simp [hx, hy]
  · have := Int.mul_pos_of_neg_of_neg hx hy; omega
  · have := Int.mul_nonpos_of_nonpos_of_nonneg (show x ≤ 0 by omega) (show 0 ≤ y by omega); omega
  · have := Int.mul_nonpos_of_nonneg_of_nonpos (show 0 ≤ x by omega) (show y ≤ 0 by omega); omega
  · have := Int.mul_nonneg (show 0 ≤ x by omega) (show 0 ≤ y by omega); omega
set_option maxHeartbeats 1000000 in
set_option maxRecDepth 100000 in
theorem mul_ok (x y : Int) (A : Option Addr) (c : Nat) (B : Option Addr) (d : Nat) (w : World) (hx : At w A c x) (hy : At w B d y) (sx : sz x ≤ 512) (sy : sz y ≤ 512) (sxy : sz (x * y) ≤ 512) :
    Calls Try.prog 105 #[.agg #[.bool (sg x), .slice A (sz x) c], .agg #[.bool (sg y), .slice B (sz y) d]] w (IntOkPost (x * y) w) := by
  have hu := Try.underlying52
  have HVX := Lib.hid (fun w1 h => valid_ok A c x w1 h sx)
  have HVY := Lib.hid (fun w1 h => valid_ok B d y w1 h sy)
  have HX := Lib.hid hx
  have HY := Lib.hid hy
  have HSX := Lib.hid sxy
  have HP := Lib.hid (fun w1 h1 h2 => product_any A B c d (mg x) (mg y) w1 h1 hx.2 h2 hy.2 (by have : (mg x).length = sz x := rfl; omega) (by have : (mg y).length = sz y := rfl; omega))
  have HSZ : Hid ((mg x).length = sz x ∧ (mg y).length = sz y) := ⟨rfl, rfl⟩
  obtain ⟨a, ha⟩ : ∃ a, sg x = a := ⟨_, rfl⟩
  obtain ⟨b, hb⟩ : ∃ b, sg y = b := ⟨_, rfl⟩
  have HSG : Hid (signed (a != b) (val (mg x) * val (mg y)) = x * y) := by rw [← ha, ← hb]; exact signed_mul x y
  rw [ha] at HVX ⊢
  rw [hb] at HVY ⊢
  clear hx hy ha hb sxy
  go_enter Try.func105, Try.ntmps105
  go_wp2_with fail
  refine (HVX.out _ (((HX.out.alloc _).alloc _).alloc _)).mono ?_
  rintro e w1 ⟨rfl, h1⟩
  have K1 := Lib.hid ((((Blk.new w [.bool a, .slice A (sz x) c] 52).alloc (.cells #[.bool b, .slice B (sz y) d] 52)).alloc (.cells #[.bool false, .slice none 0 0] 52)).below h1)
  have K2 := Lib.hid (((Blk.new1 w (.cells #[.bool a, .slice A (sz x) c] 52) [.bool b, .slice B (sz y) d] 52).alloc (.cells #[.bool false, .slice none 0 0] 52)).below h1)
  have K3 := Lib.hid ((Blk.new2 w (.cells #[.bool a, .slice A (sz x) c] 52) (.cells #[.bool b, .slice B (sz y) d] 52) [.bool false, .slice none 0 0] 52).below h1)
  have HB := Lib.hid (bthen (balloc (balloc (balloc (Below.refl w.heap.size w) _) _) _) h1)
  clear h1
  have k2 := K2.out.two
  go_wp2_with fail
  refine (HVY.out _ (HY.out.below HB.out)).mono ?_
  rintro e w2 ⟨rfl, h2⟩
  replace K1 := Lib.hid (K1.out.below h2)
  replace K2 := Lib.hid (K2.out.below h2)
  replace K3 := Lib.hid (K3.out.below h2)
  replace HB := Lib.hid (bthen HB.out h2)
  clear h2 k2
  have k1 := K1.out.two
  have k2 := K2.out.two
  have k3 := K3.out.two
  go_wp2_with fail
  go_region_held3 (fun w' => w'.cell? ⟨w.heap.size, 0, none⟩ = some (.bool a) ∧ w'.cell? ⟨w.heap.size, 1, none⟩ = some (.slice A (sz x) c) ∧ w'.cell? ⟨w.heap.size + 1, 0, none⟩ = some (.bool b) ∧ w'.cell? ⟨w.heap.size + 1, 1, none⟩ = some (.slice B (sz y) d))
    (first
      | (go_keep; done)
      | exact ⟨(K1.out.drew.below (by assumption)).cell 0 _ rfl, (K1.out.drew.below (by assumption)).cell 1 _ rfl, (K2.out.drew.below (by assumption)).cell 0 _ rfl, (K2.out.drew.below (by assumption)).cell 1 _ rfl⟩
      | exact ⟨((Q1.out.far (by omega) _ _).far (by omega) _ _).cell 0 _ rfl, ((Q1.out.far (by omega) _ _).far (by omega) _ _).cell 1 _ rfl, ((Q2.out.far (by omega) _ _).far (by omega) _ _).cell 0 _ rfl, ((Q2.out.far (by omega) _ _).far (by omega) _ _).cell 1 _ rfl⟩)
    ((first
      | (go_at_call 124; refine (HP.out _ (HX.out.below HB.out.drew).1 (HY.out.below HB.out.drew).1).mono ?_; rintro e w3 ⟨A3, c3, l, rfl, hl, hr, ht, hv, hb3⟩)
      | (go_at_call 125; refine (result_ok _ _ _ _ _ hr hl (by have := mag_len (z := x * y) hr.1 ht (by rw [hv, mg_val, mg_val, Int.natAbs_mul, Int.natCast_mul]); have := HSX.out; omega) (x * y) (by rw [hv]; exact HSG.out) HSX.out).mono ?_; rintro e w4 ⟨A4, c4, rfl, hat, hb4⟩; have hb5 := bthen hb3 hb4; have k5 := (K3.out.drew.below hb5).two; have Q1 := Lib.hid (K1.out.drew.below hb5); have Q2 := Lib.hid (K2.out.drew.below hb5))))
  go_wp2_with fail
  refine bodyPost_ret (res_int2 rfl _ _ (w.heap.size + 1 + 1) _ _ _ _ rfl ((K3.out.drew.below hb5).store2 _ _ _ _)) rfl ⟨A4, c4, rfl, hat.store2 (K3.out.drew.below hb5) _ _ _ _, below_store2 (bthen HB.out.drew hb5) (by omega) _ _⟩
end Go.Proofs.Ytjhdjmlaidpjfaa.B
