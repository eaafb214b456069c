/- The reference's greater: is one fraction of squares greater than another one? -/
import Derived.Test.YtjhdjmlaidpjfaaRInt
import Derived.Test.YtjhdjmlaidpjfaaGreater
import Derived.Deep.RegionHeld3
set_option linter.unusedVariables false
namespace Go.Proofs.Ytjhdjmlaidpjfaa.B
open Go.RowKit
theorem Bd.small {z : Int} (h : -9223372036854775808 ≤ z ∧ z ≤ 9223372036854775807) : Bd 2 z := by
  unfold Bd Bs; omega
set_option maxHeartbeats 4000000 in
set_option maxRecDepth 100000 in
theorem rgreater_ok (a p b q : Int) (w : World) (ha : -9223372036854775808 ≤ a ∧ a ≤ 9223372036854775807) (hp : -9223372036854775808 ≤ p ∧ p ≤ 9223372036854775807) (hb : -9223372036854775808 ≤ b ∧ b ≤ 9223372036854775807) (hq : -9223372036854775808 ≤ q ∧ q ≤ 9223372036854775807) :
    Calls Try.prog 47 #[.int .i64 a, .int .i64 p, .int .i64 b, .int .i64 q] w fun e w' => e = .returned (.bool (decide (b * b * p < a * a * q))) ∧ Below w.heap.size w w' := by
  have ht := Try.underlying52
  have ba := Bd.small ha
  have bp := Bd.small hp
  have bb := Bd.small hb
  have bq := Bd.small hq
  have baa := ba.mul ba
  have bbb := bb.mul bb
  have baq := baa.mul bq
  have bbp := bbb.mul bp
  have sa : sz a ≤ 512 := Nat.le_trans ba.sz (by omega)
  have sb : sz b ≤ 512 := Nat.le_trans bb.sz (by omega)
  have sp : sz p ≤ 512 := Nat.le_trans bp.sz (by omega)
  have sq : sz q ≤ 512 := Nat.le_trans bq.sz (by omega)
  have saa : sz (a * a) ≤ 512 := Nat.le_trans baa.sz (by omega)
  have sbb : sz (b * b) ≤ 512 := Nat.le_trans bbb.sz (by omega)
  have saq : sz (a * a * q) ≤ 512 := Nat.le_trans baq.sz (by omega)
  have sbp : sz (b * b * p) ≤ 512 := Nat.le_trans bbp.sz (by omega)
  have F1 := Lib.hid (fun w1 => rfromInt_ok a w1 ha)
  have F2 := Lib.hid (fun w1 => rfromInt_ok b w1 hb)
  have F3 := Lib.hid (fun w1 => rfromInt_ok q w1 hq)
  have F4 := Lib.hid (fun w1 => rfromInt_ok p w1 hp)
  have M1 := Lib.hid (fun A c B d w1 h1 h2 => rmul_ok a a A c B d w1 h1 h2 sa sa saa)
  have M2 := Lib.hid (fun A c B d w1 h1 h2 => rmul_ok b b A c B d w1 h1 h2 sb sb sbb)
  have M3 := Lib.hid (fun A c B d w1 h1 h2 => rmul_ok (a * a) q A c B d w1 h1 h2 saa sq saq)
  have M4 := Lib.hid (fun A c B d w1 h1 h2 => rmul_ok (b * b) p A c B d w1 h1 h2 sbb sp sbp)
  have HC := Lib.hid (fun A1 c1 A2 c2 w1 h1 h2 => rcmp_ok (a * a * q) (b * b * p) A1 c1 A2 c2 w1 h1 h2 saq sbp)
  have HR := Lib.hid (sgn3_pos (a * a * q) (b * b * p))
  obtain ⟨aa, eaa⟩ : ∃ z, a * a = z := ⟨_, rfl⟩
  obtain ⟨bb', ebb⟩ : ∃ z, b * b = z := ⟨_, rfl⟩
  rw [eaa] at M1 M3 HC HR ⊢
  rw [ebb] at M2 M4 HC HR ⊢
  obtain ⟨aq, eaq⟩ : ∃ z, aa * q = z := ⟨_, rfl⟩
  obtain ⟨bp', ebp⟩ : ∃ z, bb' * p = z := ⟨_, rfl⟩
  rw [eaq] at M3 HC HR ⊢
  rw [ebp] at M4 HC HR ⊢
  clear ba bp bb bq baa bbb baq bbp sa sb sp sq saa sbb saq sbp eaa ebb eaq ebp
  go_enter Try.func47, Try.ntmps47
  go_wp2_with fail
  refine (F1.out _).mono ?_
  rintro e w1 ⟨A1, c1, rfl, g1, g2⟩
  have HB := Lib.hid g2
  have H1 := Lib.hid g1
  clear g1 g2
  go_wp2_with fail
  refine (F2.out _).mono ?_
  rintro e w2 ⟨A2, c2, rfl, g1, g2⟩
  replace HB := Lib.hid (bthen HB.out g2)
  replace H1 := Lib.hid (H1.out.below g2)
  have H2 := Lib.hid g1
  clear g1 g2
  go_wp2_with fail
  have K1 := Lib.hid ((Blk.new w2 [.bool (sg a), .slice A1 (sz a) c1] 52).alloc (.cells #[.bool (sg b), .slice A2 (sz b) c2] 52))
  have K2 := Lib.hid (Blk.new1 w2 (.cells #[.bool (sg a), .slice A1 (sz a) c1] 52) [.bool (sg b), .slice A2 (sz b) c2] 52)
  replace H1 := Lib.hid ((H1.out.alloc (.cells #[.bool (sg a), .slice A1 (sz a) c1] 52)).alloc (.cells #[.bool (sg b), .slice A2 (sz b) c2] 52))
  replace H2 := Lib.hid ((H2.out.alloc (.cells #[.bool (sg a), .slice A1 (sz a) c1] 52)).alloc (.cells #[.bool (sg b), .slice A2 (sz b) c2] 52))
  have hsz := HB.out.size
  replace HB := Lib.hid (balloc (balloc HB.out (.cells #[.bool (sg a), .slice A1 (sz a) c1] 52)) (.cells #[.bool (sg b), .slice A2 (sz b) c2] 52))
  refine (M1.out _ _ _ _ _ H1.out H1.out).mono ?_
  rintro e w3 ⟨A3, c3, rfl, g1, g2⟩
  replace K1 := Lib.hid (K1.out.below g2)
  replace K2 := Lib.hid (K2.out.below g2)
  replace H2 := Lib.hid (H2.out.below g2)
  replace HB := Lib.hid (bthen HB.out g2)
  have H3 := Lib.hid (g1.store2 K1.out (sg aa) A3 (sz aa) c3)
  have k1 := K1.out.two
  have k2 := K2.out.two
  clear g1 g2 H1
  go_wp2_with fail
  replace H2 := Lib.hid (H2.out.store2 K1.out (sg aa) A3 (sz aa) c3)
  replace K2 := Lib.hid ((K2.out.far (g := w2.heap.size) (by omega) 0 (.bool (sg aa))).far (g := w2.heap.size) (by omega) 1 (.slice A3 (sz aa) c3))
  replace K1 := Lib.hid (K1.out.store2 (sg aa) A3 (sz aa) c3)
  replace HB := Lib.hid (below_store2 HB.out (g := w2.heap.size) (by omega) (.bool (sg aa)) (.slice A3 (sz aa) c3))
  clear k1 k2
  refine (M2.out _ _ _ _ _ H2.out H2.out).mono ?_
  rintro e w4 ⟨A4, c4, rfl, g1, g2⟩
  replace K1 := Lib.hid (K1.out.below g2)
  replace K2 := Lib.hid (K2.out.below g2)
  replace H3 := Lib.hid (H3.out.below g2)
  replace HB := Lib.hid (bthen HB.out g2)
  have H4 := Lib.hid (g1.store2 K2.out (sg bb') A4 (sz bb') c4)
  have k1 := K1.out.two
  have k2 := K2.out.two
  clear g1 g2 H2
  go_wp2_with fail
  replace H3 := Lib.hid (H3.out.store2 K2.out (sg bb') A4 (sz bb') c4)
  replace K1 := Lib.hid ((K1.out.far (g := w2.heap.size + 1) (by omega) 0 (.bool (sg bb'))).far (g := w2.heap.size + 1) (by omega) 1 (.slice A4 (sz bb') c4))
  replace K2 := Lib.hid (K2.out.store2 (sg bb') A4 (sz bb') c4)
  replace HB := Lib.hid (below_store2 HB.out (g := w2.heap.size + 1) (by omega) (.bool (sg bb')) (.slice A4 (sz bb') c4))
  clear k1 k2
  obtain ⟨W, hW⟩ : ∃ W, W = (w4.setCell ⟨w2.heap.size + 1, 0, none⟩ (.bool (sg bb'))).setCell ⟨w2.heap.size + 1, 1, none⟩ (.slice A4 (sz bb') c4) := ⟨_, rfl⟩
  rw [← hW] at H3 K1 K2 HB H4 ⊢
  clear hW
  have k1 := K1.out.two
  have hb0 : Below W.heap.size W W.drew := (Below.refl _ _).drew
  have hb1 : Below W.heap.size W W := Below.refl _ _
  go_cut [27] (fun s27 wx => ∃ A6 c6, Hid (Blk wx w2.heap.size [.bool (sg aq), .slice A6 (sz aq) c6] 52) ∧ Hid (Blk wx (w2.heap.size + 1) [.bool (sg bb'), .slice A4 (sz bb') c4] 52) ∧ Hid (At wx A6 c6 aq) ∧ Hid (At wx A4 c4 bb') ∧ Hid (Below w.heap.size w wx))
  case first =>
    go_region_with (first
      | (go_at_call 76; (with_reducible refine (F3.out _).mono ?_); rintro e w5 ⟨A5, c5, rfl, hQ, hbQ⟩; have hbn := bthen (w := W) (by assumption) hbQ; have k1n := (K1.out.below hbn).two)
      | (go_at_call 77; (with_reducible refine (M3.out _ _ _ _ _ (H3.out.below (by assumption)) (by assumption)).mono ?_); rintro e w6 ⟨A6, c6, rfl, hM, hbM⟩; have hbm := bthen (w := W) hbn hbM; have k6 := (K1.out.below hbm).two))
    all_goals go_wp2_with fail
    all_goals go_meet
    all_goals exact ⟨A6, c6, Lib.hid ((K1.out.below hbm).store2 _ _ _ _), Lib.hid (((K2.out.below hbm).far (by omega) _ _).far (by omega) _ _), Lib.hid (hM.store2 (K1.out.below hbm) _ _ _ _), Lib.hid ((H4.out.below hbm).store2 (K1.out.below hbm) _ _ _ _), Lib.hid (below_store2 (bthen HB.out hbm) (by omega) _ _)⟩
  case rest =>
    clear K1 K2 H3 H4 HB k1 hb0 hb1
    obtain ⟨A6, c6, K1, K2, H3, H4, HB⟩ := hcut
    rename World => wx
    have k2 := K2.out.two
    have hb0 : Below wx.heap.size wx wx.drew := (Below.refl _ _).drew
    have hb1 : Below wx.heap.size wx wx := Below.refl _ _
    go_upto_region 5 with fail
    go_cut [34] (fun s34 wy => ∃ A8 c8, Hid (Blk wy w2.heap.size [.bool (sg aq), .slice A6 (sz aq) c6] 52) ∧ Hid (Blk wy (w2.heap.size + 1) [.bool (sg bp'), .slice A8 (sz bp') c8] 52) ∧ Hid (At wy A6 c6 aq) ∧ Hid (At wy A8 c8 bp') ∧ Hid (Below w.heap.size w wy))
    case first =>
      go_region_with (first
        | (go_at_call 76; (with_reducible refine (F4.out _).mono ?_); rintro e w5 ⟨A7, c7, rfl, hQ, hbQ⟩; have hbn := bthen (w := wx) (by assumption) hbQ; have k1n := (K2.out.below hbn).two)
        | (go_at_call 77; (with_reducible refine (M4.out _ _ _ _ _ (H4.out.below (by assumption)) (by assumption)).mono ?_); rintro e w6 ⟨A8, c8, rfl, hM, hbM⟩; have hbm := bthen (w := wx) hbn hbM; have k6 := (K2.out.below hbm).two))
      all_goals go_wp2_with fail
      all_goals go_meet
      all_goals exact ⟨A8, c8, Lib.hid (((K1.out.below hbm).far (by omega) _ _).far (by omega) _ _), Lib.hid ((K2.out.below hbm).store2 _ _ _ _), Lib.hid ((H3.out.below hbm).store2 (K2.out.below hbm) _ _ _ _), Lib.hid (hM.store2 (K2.out.below hbm) _ _ _ _), Lib.hid (below_store2 (bthen HB.out hbm) (by omega) _ _)⟩
    case rest =>
      clear K1 K2 H3 H4 HB k2 hb0 hb1
      obtain ⟨A8, c8, K1, K2, H3, H4, HB⟩ := hcut
      have k1 := K1.out.two
      have k2 := K2.out.two
      go_wp2_with fail
      refine (HC.out _ _ _ _ _ H3.out H4.out).mono ?_
      rintro e w7 ⟨rfl, g⟩
      go_wp2_with fail
      go_ret
      exact ⟨by rw [← HR.out]; rfl, bthen HB.out g⟩
end Go.Proofs.Ytjhdjmlaidpjfaa.B
