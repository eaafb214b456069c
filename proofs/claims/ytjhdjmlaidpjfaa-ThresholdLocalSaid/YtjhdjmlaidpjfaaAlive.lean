/- The law's examples hold. -/
import Derived.Test.YtjhdjmlaidpjfaaAliveP
import Derived.Test.YtjhdjmlaidpjfaaAuto
set_option linter.unusedVariables false
namespace Go.Proofs.Ytjhdjmlaidpjfaa.B
open Go.RowKit
set_option maxHeartbeats 4000000 in
set_option maxRecDepth 100000 in
theorem alive_ok (w : World) : Calls Try.prog 14 #[] w fun e w' => e = .returned (.bool true) ∧ Below w.heap.size w w' := by
  have hu := Try.underlying24
  have hu2 := Try.underlying35
  have HO := Lib.hid (fun w1 h => otsu_any 3 1 (some ⟨w.heap.size, 0, none⟩) 3 3 px3 w1 h px3_bd (by omega))
  have HA := Lib.hid (fun w1 h => auto_any 3 1 (some ⟨w.heap.size, 0, none⟩) 3 3 px3 w1 h px3_bd (by omega))
  have HH := Lib.hid (fun w1 h => hist_any 3 1 (some ⟨w.heap.size, 0, none⟩) 3 3 px3 w1 h px3_bd (by omega))
  have HL := Lib.hid (fun w1 h => local_any 3 1 1 100 (some ⟨w.heap.size, 0, none⟩) 3 3 px3 w1 h px3_bd (by omega))
  rw [show sound 3 1 3 = true from by decide] at HO HA HH HL
  rw [show lok 1 100 = true from by decide] at HL
  rw [otsu3] at HO HA
  rw [show errB true = 0 from rfl] at HO HH
  simp only [if_true, Bool.and_self] at HO HA HH HL
  obtain ⟨f4, ef4⟩ : ∃ f4, f4 = hrow (fun v => cnt px3 3 v) := ⟨_, rfl⟩
  rw [← ef4] at HH
  have f10 : Hid (f4 10 = .int .i64 1) := Lib.hid (by rw [ef4]; rfl)
  have f11 : Hid (f4 11 = .int .i64 0) := Lib.hid (by rw [ef4]; rfl)
  have ho4 : Hid ((Rof 256 f4).all (·.oneCell') = true) := Lib.hid (by rw [ef4]; exact one256 _ _)
  clear ef4
  unfold MatIf at HA HL
  simp only [if_true] at HA HL
  have K0 := Lib.hid ((Blk.new w [.int .u8 10, .int .u8 20, .int .u8 200] 5).alloc (.cells #[.int .i64 3, .int .i64 1, .slice (some ⟨w.heap.size, 0, none⟩) 3 3] 24))
  have K1 := Lib.hid (Blk.new1 w (.cells #[.int .u8 10, .int .u8 20, .int .u8 200] 5) [.int .i64 3, .int .i64 1, .slice (some ⟨w.heap.size, 0, none⟩) 3 3] 24)
  have HB := Lib.hid (balloc (bbox (w := w) (.cells #[.int .u8 10, .int .u8 20, .int .u8 200] 5)) (.cells #[.int .i64 3, .int .i64 1, .slice (some ⟨w.heap.size, 0, none⟩) 3 3] 24))
  have HRO := Lib.hid (K0.out.ro (fun i => .int .u8 (px3 i)) (fun i hi => by
    match i, hi with
    | 0, _ => rfl
    | 1, _ => rfl
    | 2, _ => rfl))
  go_enter Try.func14, Try.ntmps14
  go_wp2_with fail
  refine (HO.out _ HRO.out).mono ?_
  rintro e w1 ⟨rfl, h1⟩
  replace K1 := Lib.hid (K1.out.below h1)
  replace HB := Lib.hid (bthen HB.out h1)
  replace HRO := Lib.hid (HRO.out.below h1)
  clear h1 K0 HO
  have k1 := K1.out.three
  go_wp2_with fail
  refine (HA.out _ HRO.out).mono ?_
  rintro e w2 ⟨A1, c1, rfl, g1, g2, h1⟩
  replace K1 := Lib.hid ((K1.out.below h1).alloc (.cells #[.int .i64 3, .int .i64 1, .slice A1 3 c1] 35))
  replace HB := Lib.hid (balloc (bthen HB.out h1) (.cells #[.int .i64 3, .int .i64 1, .slice A1 3 c1] 35))
  replace HRO := Lib.hid ((HRO.out.below h1).alloc (.cells #[.int .i64 3, .int .i64 1, .slice A1 3 c1] 35))
  have KB := Lib.hid (Blk.new w2 [.int .i64 3, .int .i64 1, .slice A1 3 c1] 35)
  have GB := Lib.hid (g2.alloc (.cells #[.int .i64 3, .int .i64 1, .slice A1 3 c1] 35))
  clear h1 g2 k1 HA
  obtain ⟨W2, hW2⟩ : ∃ W2, w2.alloc (.cells #[.int .i64 3, .int .i64 1, .slice A1 3 c1] 35) = W2 := ⟨_, rfl⟩
  rw [hW2] at K1 HB HRO KB GB
  have HI := Lib.hid (fun w1 h => integral_any 2 1 (some ⟨W2.heap.size, 0, none⟩) 2 2 px2 w1 h px2_bd (by omega))
  rw [show sound 2 1 2 = true from by decide] at HI
  unfold IntsIf at HI
  simp only [if_true] at HI
  rw [show ((2 : Int).toNat + 1) * ((1 : Int).toNat + 1) = 6 from rfl, show (2 : Int).toNat = 2 from rfl] at HI
  have KP := Lib.hid (Blk.new W2 [.int .u8 1, .int .u8 2] 5)
  have HRP := Lib.hid (KP.out.ro (fun i => .int .u8 (px2 i)) (fun i hi => by
    match i, hi with
    | 0, _ => rfl
    | 1, _ => rfl))
  have k1 := K1.out.three
  go_wp2_with fail
  refine (HI.out _ HRP.out).mono ?_
  rintro e w3 ⟨A3, c3, rfl, q3, g4, h1⟩
  have ap1 : w2.heap.size < W2.heap.size := KB.out.lt
  have ap0 : w.heap.size + 1 < W2.heap.size := K1.out.lt
  replace K1 := Lib.hid ((K1.out.alloc _).below h1)
  replace HB := Lib.hid (bthen (balloc HB.out _) h1)
  replace HRO := Lib.hid ((HRO.out.alloc _).below h1)
  replace KB := Lib.hid ((KB.out.alloc _).below h1)
  replace GB := Lib.hid ((GB.out.alloc _).below h1)
  have GI := Lib.hid g4
  clear h1 g4 k1 HI KP HRP hW2
  have k1 := K1.out.three
  go_wp2_with fail
  refine (HH.out _ HRO.out).mono ?_
  rintro e w4 ⟨rfl, h1⟩
  replace K1 := Lib.hid (K1.out.below h1)
  replace HB := Lib.hid (bthen HB.out h1)
  replace HRO := Lib.hid (HRO.out.below h1)
  replace KB := Lib.hid (KB.out.below h1)
  replace GB := Lib.hid (GB.out.below h1)
  replace GI := Lib.hid (GI.out.below h1)
  clear h1 k1 HH
  have KH := Lib.hid (Ow.zero w4)
  have KS := Lib.hid (KH.out.setRow f4)
  have hX := below_setRow (bbox (w := w4) (.cells Try.zeroCells27 27)) (Nat.le_refl _) (Rof 256 f4)
  have ap3 : w.heap.size + 1 < w4.heap.size := K1.out.lt
  have ap4 : w2.heap.size < w4.heap.size := KB.out.lt
  replace K1 := Lib.hid (K1.out.below hX)
  replace HB := Lib.hid (bthen HB.out hX)
  replace HRO := Lib.hid (HRO.out.below hX)
  replace KB := Lib.hid (KB.out.below hX)
  replace GB := Lib.hid (GB.out.below hX)
  replace GI := Lib.hid (GI.out.below hX)
  clear hX
  have k1 := K1.out.three
  go_wp2_with (first
    | (refine wpList_store_row rfl 27 _ _ rfl (w4.heap.size) (Rof 256 f4) rfl rfl _ _ KH.out (size256 _) (by simp only [Rof_size]) ho4.out ?_))
  refine (HL.out _ HRO.out).mono ?_
  rintro e w5 ⟨A5, c5, rfl, g5, g6', h1⟩
  replace HB := Lib.hid (balloc (bthen HB.out h1) (.cells #[.int .i64 3, .int .i64 1, .slice A5 3 c5] 35))
  replace KB := Lib.hid ((KB.out.below h1).alloc (.cells #[.int .i64 3, .int .i64 1, .slice A5 3 c5] 35))
  replace GB := Lib.hid ((GB.out.below h1).alloc (.cells #[.int .i64 3, .int .i64 1, .slice A5 3 c5] 35))
  replace GI := Lib.hid ((GI.out.below h1).alloc (.cells #[.int .i64 3, .int .i64 1, .slice A5 3 c5] 35))
  replace KS := Lib.hid ((KS.out.below h1).alloc (.cells #[.int .i64 3, .int .i64 1, .slice A5 3 c5] 35))
  have KL := Lib.hid (Blk.new w5 [.int .i64 3, .int .i64 1, .slice A5 3 c5] 35)
  have GL := Lib.hid (g6'.alloc (.cells #[.int .i64 3, .int .i64 1, .slice A5 3 c5] 35))
  clear h1 g6' k1 HL HRO K1 KH ho4 ap0 ap1
  obtain ⟨W5, hW5⟩ : ∃ W5, w5.alloc (.cells #[.int .i64 3, .int .i64 1, .slice A5 3 c5] 35) = W5 := ⟨_, rfl⟩
  rw [hW5] at HB KB GB GI KS KL GL
  have kb := KB.out.three
  go_wp2_with fail
  refine (sameM_any 3 1 3 1 A1 (some ⟨W5.heap.size, 0, none⟩) 3 3 c1 3 (fun i => decide (px3 i < ((21 : Nat) : Int))) g3 _ (GB.out.alloc _) (g3_row (Blk.new W5 [.bool true, .bool true, .bool false] 4)) g1 (Nat.le_refl _) (by omega)).mono ?_
  rw [same3a]
  rintro e w6 ⟨rfl, h1⟩
  replace HB := Lib.hid (bthen (balloc HB.out _) h1)
  replace GI := Lib.hid ((GI.out.alloc _).below h1)
  replace KS := Lib.hid ((KS.out.alloc _).below h1)
  replace KL := Lib.hid ((KL.out.alloc _).below h1)
  replace GL := Lib.hid ((GL.out.alloc _).below h1)
  clear h1 kb KB GB hW5
  go_wp2_with fail
  refine (ints_any A3 (some ⟨w6.heap.size, 0, none⟩) 6 6 c3 6 (sumf px2 2) g6 _ (GI.out.alloc _) (g6_row (Blk.new w6 [.int .i64 0, .int .i64 0, .int .i64 0, .int .i64 0, .int .i64 1, .int .i64 3] 3)) q3 (Nat.le_refl _) (by omega)).mono ?_
  rw [same6]
  rintro e w7 ⟨rfl, h1⟩
  replace HB := Lib.hid (bthen (balloc HB.out _) h1.below)
  replace KS := Lib.hid ((KS.out.alloc _).below h1.below)
  replace KL := Lib.hid ((KL.out.alloc _).below h1.below)
  replace GL := Lib.hid ((GL.out.alloc _).below h1.below)
  clear h1 GI
  have k10 := KS.out.cell 10 (by omega)
  have k11 := KS.out.cell 11 (by omega)
  rw [f10.out] at k10
  rw [f11.out] at k11
  have kl := KL.out.three
  go_wp2_with fail
  refine (same_any A5 (some ⟨w7.heap.size, 0, none⟩) 3 3 c5 3 (lcl px3 (3 : Int).toNat (1 : Int).toNat 1 100) B.g3 _ (GL.out.alloc _) (g3_row (Blk.new w7 [.bool true, .bool true, .bool false] 4)) g5 (Nat.le_refl _) (by omega)).mono ?_
  rw [same3b]
  rintro e w8 ⟨rfl, h1⟩
  replace HB := Lib.hid (bthen (balloc HB.out _) h1.below)
  clear h1
  go_wp2_with fail
  go_ret
  exact ⟨rfl, HB.out⟩
end Go.Proofs.Ytjhdjmlaidpjfaa.B
