/- ratio.greater: is a variance greater than another one? -/
import Derived.Test.YtjhdjmlaidpjfaaVariance
set_option linter.unusedVariables false
namespace Go.Proofs.Ytjhdjmlaidpjfaa.B
open Go.RowKit
theorem sgn3_pos (a b : Int) : decide (0 < sgn3 a b) = decide (b < a) := by
  unfold sgn3
  by_cases h : a < b
  · rw [if_pos h]; simp; omega
  · rw [if_neg h]
    by_cases h2 : a = b
    · rw [if_pos h2]; simp; omega
    · rw [if_neg h2]; simp; omega
set_option maxHeartbeats 2000000 in
set_option maxRecDepth 100000 in
theorem greater_ok (x y u v : Int) (A B C D : Option Addr) (ca cb cc cd : Nat) (w : World) (hx : At w A ca x) (hy : At w B cb y) (hu : At w C cc u) (hv : At w D cd v) (sx : sz x ≤ 200) (sy : sz y ≤ 200) (su : sz u ≤ 200) (sv : sz v ≤ 200) :
    Calls Try.prog 46 #[.agg #[.bool (sg x), .slice A (sz x) ca, .bool (sg y), .slice B (sz y) cb], .agg #[.bool (sg u), .slice C (sz u) cc, .bool (sg v), .slice D (sz v) cd]] w fun e w' => e = .returned (.bool (decide (u * y < x * v))) ∧ Below w.heap.size w w' := by
  have ht := Try.underlying52
  have ht2 := Try.underlying80
  have sxv : sz (x * v) ≤ 512 := Nat.le_trans (Bd.sz ((Bd.of_sz sx).mul (Bd.of_sz sv))) (by omega)
  have suy : sz (u * y) ≤ 512 := Nat.le_trans (Bd.sz ((Bd.of_sz su).mul (Bd.of_sz sy))) (by omega)
  have HP1 := Lib.hid (fun w1 h1 h2 => tproduct_ok x v A ca D cd w1 h1 h2 (by omega) (by omega) sxv)
  have HP2 := Lib.hid (fun w1 h1 h2 => tproduct_ok u y C cc B cb w1 h1 h2 (by omega) (by omega) suy)
  have HC := Lib.hid (fun A1 c1 A2 c2 w1 h1 h2 => cmp_ok (x * v) (u * y) A1 c1 A2 c2 w1 h1 h2 sxv suy)
  have HR := Lib.hid (sgn3_pos (x * v) (u * y))
  obtain ⟨s1, e1⟩ : ∃ s, sg x = s := ⟨_, rfl⟩
  obtain ⟨s2, e2⟩ : ∃ s, sg y = s := ⟨_, rfl⟩
  obtain ⟨s3, e3⟩ : ∃ s, sg u = s := ⟨_, rfl⟩
  obtain ⟨s4, e4⟩ : ∃ s, sg v = s := ⟨_, rfl⟩
  rw [e1, e4] at HP1
  rw [e2, e3] at HP2
  rw [e1, e2, e3, e4]
  obtain ⟨W, hW⟩ : ∃ W, W = (w.alloc (.cells #[.bool s1, .slice A (sz x) ca, .bool s2, .slice B (sz y) cb] 80)).alloc (.cells #[.bool s3, .slice C (sz u) cc, .bool s4, .slice D (sz v) cd] 80) := ⟨_, rfl⟩
  have HX : Hid (At W A ca x) := by rw [hW]; exact Lib.hid ((hx.alloc _).alloc _)
  have HY : Hid (At W B cb y) := by rw [hW]; exact Lib.hid ((hy.alloc _).alloc _)
  have HU : Hid (At W C cc u) := by rw [hW]; exact Lib.hid ((hu.alloc _).alloc _)
  have HV : Hid (At W D cd v) := by rw [hW]; exact Lib.hid ((hv.alloc _).alloc _)
  have HB : Hid (Below w.heap.size w W) := by rw [hW]; exact Lib.hid (balloc (bbox _) _)
  have K1 : Hid (Blk W w.heap.size [.bool s1, .slice A (sz x) ca, .bool s2, .slice B (sz y) cb] 80) := by rw [hW]; exact Lib.hid ((Blk.new _ _ _).alloc _)
  have K2 : Hid (Blk W (w.heap.size + 1) [.bool s3, .slice C (sz u) cc, .bool s4, .slice D (sz v) cd] 80) := by rw [hW]; exact Lib.hid (Blk.new1 _ _ _ _)
  clear hx hy hu hv sx sy su sv sxv suy e1 e2 e3 e4
  have k1 := K1.out.four
  have k2 := K2.out.four
  have HW := Lib.hid hW
  clear hW
  go_enter Try.func46, Try.ntmps46
  go_wp2_with fail
  rw [← HW.out]
  have hb0 : Below W.heap.size W W.drew := (Below.refl _ _).drew
  have HB1 := Lib.hid HB.out.size
  go_region_held3 (fun w' => w'.cell? ⟨w.heap.size, 0, none⟩ = some (.bool s1) ∧ w'.cell? ⟨w.heap.size, 1, none⟩ = some (.slice A (sz x) ca) ∧ w'.cell? ⟨w.heap.size, 2, none⟩ = some (.bool s2) ∧ w'.cell? ⟨w.heap.size, 3, none⟩ = some (.slice B (sz y) cb) ∧ w'.cell? ⟨w.heap.size + 1, 0, none⟩ = some (.bool s3) ∧ w'.cell? ⟨w.heap.size + 1, 1, none⟩ = some (.slice C (sz u) cc) ∧ w'.cell? ⟨w.heap.size + 1, 2, none⟩ = some (.bool s4) ∧ w'.cell? ⟨w.heap.size + 1, 3, none⟩ = some (.slice D (sz v) cd))
    (first
      | (go_keep; done)
      | exact ⟨(K1.out.below (by assumption)).cell 0 _ rfl, (K1.out.below (by assumption)).cell 1 _ rfl, (K1.out.below (by assumption)).cell 2 _ rfl, (K1.out.below (by assumption)).cell 3 _ rfl, (K2.out.below (by assumption)).cell 0 _ rfl, (K2.out.below (by assumption)).cell 1 _ rfl, (K2.out.below (by assumption)).cell 2 _ rfl, (K2.out.below (by assumption)).cell 3 _ rfl⟩)
    ((first
      | (go_at_call 75; (with_reducible refine (HP1.out _ (HX.out.below (by assumption)) (HV.out.below (by assumption))).mono ?_); rintro e w3 ⟨A3, c3, rfl, hP, hbP⟩; have hbn := bthen (w := W) (by assumption) hbP; try have hQ2 := hQ.below hbP)
      | (go_at_call 75; (with_reducible refine (HP2.out _ (HU.out.below (by assumption)) (HY.out.below (by assumption))).mono ?_); rintro e w4 ⟨A4, c4, rfl, hQ, hbQ⟩; have hbm := bthen (w := W) (by assumption) hbQ; try have hP2 := hP.below hbQ)
      | (go_at_call 70; (with_reducible refine (HC.out _ _ _ _ _ (by assumption) (by assumption)).mono ?_); rintro e w5 ⟨rfl, hbC⟩; have hbk := bthen (w := W) (by assumption) hbC)))
  go_wp2_with fail
  go_ret
  exact ⟨by rw [← HR.out]; rfl, bthen HB.out hbk⟩
end Go.Proofs.Ytjhdjmlaidpjfaa.B
