/- threshold.product, threshold.variance and ratio.greater. -/
import Derived.Test.YtjhdjmlaidpjfaaMul
import Derived.Test.YtjhdjmlaidpjfaaFromInt
import Derived.Test.YtjhdjmlaidpjfaaCmp
import Derived.Test.YtjhdjmlaidpjfaaCells
set_option linter.unusedVariables false
namespace Go.Proofs.Ytjhdjmlaidpjfaa.B
open Go.RowKit
set_option maxHeartbeats 1000000 in
set_option maxRecDepth 100000 in
theorem tproduct_ok (x y : Int) (A : Option Addr) (c : Nat) (B : Option Addr) (d : Nat) (w : World) (hx : At w A c x) (hy : At w B d y) (sx : sz x ≤ 512) (sy : sz y ≤ 512) (sxy : sz (x * y) ≤ 512) :
    Calls Try.prog 75 #[.agg #[.bool (sg x), .slice A (sz x) c], .agg #[.bool (sg y), .slice B (sz y) d]] w (IntPost (x * y) w) := by
  have hu := Try.underlying52
  have HM := Lib.hid (fun w1 h1 h2 => mul_ok x y A c B d w1 h1 h2 sx sy sxy)
  have HX := Lib.hid hx
  have HY := Lib.hid hy
  obtain ⟨z, hz⟩ : ∃ z, x * y = z := ⟨_, rfl⟩
  rw [hz] at HM ⊢
  obtain ⟨a, ha⟩ : ∃ a, sg x = a := ⟨_, rfl⟩
  obtain ⟨b, hb⟩ : ∃ b, sg y = b := ⟨_, rfl⟩
  rw [ha, hb] at HM ⊢
  clear hx hy ha hb hz
  go_enter Try.func75, Try.ntmps75
  go_wp2_with fail
  refine (HM.out _ (((HX.out.alloc _).alloc _).alloc _) (((HY.out.alloc _).alloc _).alloc _)).mono ?_
  rintro e w1 ⟨A1, c1, rfl, h1, h2⟩
  have K3 := Lib.hid (((Blk.new2 w (.cells #[.bool a, .slice A (sz x) c] 52) (.cells #[.bool b, .slice B (sz y) d] 52) [.bool false, .slice none 0 0] 52).below h2).alloc (.cells #[.bool (sg z), .slice A1 (sz z) c1] 52))
  have HB := Lib.hid (balloc (bthen (balloc (balloc (balloc (Below.refl w.heap.size w) _) _) _) h2) (.cells #[.bool (sg z), .slice A1 (sz z) c1] 52))
  have H1 := Lib.hid (h1.alloc (.cells #[.bool (sg z), .slice A1 (sz z) c1] 52))
  clear h1 h2
  have k3 := K3.out.two
  go_wp2_with fail
  exact bodyPost_ret (res_int rfl _ _ (w.heap.size + 1 + 1) _ _ _ _ rfl (K3.out.store2 _ _ _ _)) rfl ⟨A1, c1, rfl, H1.out.store2 K3.out _ _ _ _, below_store2 HB.out (by omega) _ _⟩
theorem Blk.four {w : World} {g t : Nat} {u v x y : Value} (h : Blk w g [u, v, x, y] t) : w.cell? ⟨g, 0, none⟩ = some u ∧ w.cell? ⟨g, 1, none⟩ = some v ∧ w.cell? ⟨g, 2, none⟩ = some x ∧ w.cell? ⟨g, 3, none⟩ = some y ∧ w.frozen? ⟨g, 0, none⟩ = false ∧ w.frozen? ⟨g, 1, none⟩ = false ∧ w.frozen? ⟨g, 2, none⟩ = false ∧ w.frozen? ⟨g, 3, none⟩ = false ∧ g < w.heap.size :=
  ⟨h.cell 0 _ rfl, h.cell 1 _ rfl, h.cell 2 _ rfl, h.cell 3 _ rfl, h.frozen 0, h.frozen 1, h.frozen 2, h.frozen 3, h.lt⟩
theorem nonint4 (b : Bool) (A : Option Addr) (n c : Nat) (b2 : Bool) (A2 : Option Addr) (n2 c2 : Nat) : ∀ v ∈ [Value.bool b, .slice A n c, .bool b2, .slice A2 n2 c2], ∀ k m, v ≠ .int k m := fun v hv k m e => by
  subst e; simp at hv
theorem At.far {w : World} {A : Option Addr} {c : Nat} {z : Int} (h : At w A c z) {g t : Nat} {cs : List Value} (hb : Blk w g cs t) (i : Nat) (u : Value) (hne : ∀ v ∈ cs, ∀ k n, v ≠ .int k n) : At (w.setCell ⟨g, i, none⟩ u) A c z := ⟨h.1.far_blk hb i u hne, h.2⟩
/-- A store of four cells. -/
def st4 (w : World) (g : Nat) (u v x y : Value) : World := (((w.setCell ⟨g, 0, none⟩ u).setCell ⟨g, 1, none⟩ v).setCell ⟨g, 2, none⟩ x).setCell ⟨g, 3, none⟩ y
theorem Blk.store4 {w : World} {g t : Nat} {u0 v0 x0 y0 : Value} (hb : Blk w g [u0, v0, x0, y0] t) (u v x y : Value) : Blk ((((w.setCell ⟨g, 0, none⟩ u).setCell ⟨g, 1, none⟩ v).setCell ⟨g, 2, none⟩ x).setCell ⟨g, 3, none⟩ y) g [u, v, x, y] t := (((hb.set 0 u).set 1 v).set 2 x).set 3 y
theorem At.store4 {w : World} {A : Option Addr} {c : Nat} {z : Int} (h : At w A c z) {g t : Nat} {b0 b1 : Bool} {A0 A1 : Option Addr} {n0 c0 n1 c1 : Nat} (hb : Blk w g [.bool b0, .slice A0 n0 c0, .bool b1, .slice A1 n1 c1] t) (b2 b3 : Bool) (A2 A3 : Option Addr) (n2 c2 n3 c3 : Nat) :
    At ((((w.setCell ⟨g, 0, none⟩ (.bool b2)).setCell ⟨g, 1, none⟩ (.slice A2 n2 c2)).setCell ⟨g, 2, none⟩ (.bool b3)).setCell ⟨g, 3, none⟩ (.slice A3 n3 c3)) A c z :=
  (((h.far hb 0 _ (nonint4 _ _ _ _ _ _ _ _)).far (hb.set 0 (.bool b2)) 1 _ (nonint4 _ _ _ _ _ _ _ _)).far ((hb.set 0 (.bool b2)).set 1 (.slice A2 n2 c2)) 2 _ (nonint4 _ _ _ _ _ _ _ _)).far (((hb.set 0 (.bool b2)).set 1 (.slice A2 n2 c2)).set 2 (.bool b3)) 3 _ (nonint4 _ _ _ _ _ _ _ _)
theorem below_store4 {w0 w : World} {g : Nat} (hb : Below w0.heap.size w0 w) (hg : w0.heap.size ≤ g) (u v x y : Value) : Below w0.heap.size w0 ((((w.setCell ⟨g, 0, none⟩ u).setCell ⟨g, 1, none⟩ v).setCell ⟨g, 2, none⟩ x).setCell ⟨g, 3, none⟩ y) :=
  (((hb.setCell (p := ⟨g, 0, none⟩) hg u).setCell (p := ⟨g, 1, none⟩) hg v).setCell (p := ⟨g, 2, none⟩) hg x).setCell (p := ⟨g, 3, none⟩) hg y
/-- A call's end: two integers. -/
def RatPost (x y : Int) (w : World) (e : Ending) (w' : World) : Prop := ∃ A c B d, e = .returned (.agg #[.bool (sg x), .slice A (sz x) c, .bool (sg y), .slice B (sz y) d]) ∧ At w' A c x ∧ At w' B d y ∧ Below w.heap.size w w'
theorem res_rat {fn : Func} {p : Tmp} (h : fn.results = #[.cell p 80]) (tmps : Array Value) (w : World) (g : Nat) (u v x y : Value) (hp : tmps.getD p undef = .pointer (some ⟨g, 0, none⟩)) (hg : Blk w g [u, v, x, y] 80) :
    (results fn tmps).run Try.prog w = .ok (.agg #[u, v, x, y]) w :=
  results_cell_row h tmps w g 80 _ (0, 0) _ hp hg Try.underlying80 rfl (by simp only [List.size_toArray, List.length_cons, List.length_nil]; kernel_rfl)
/-- The variance of two classes: a square, and what it is divided by. -/
def vsq (n0 s0 n1 s1 : Int) : Int := if n0 = 0 ∨ n1 = 0 then 0 else (n1 * s0 - n0 * s1) * (n1 * s0 - n0 * s1)
def vby (n0 n1 : Int) : Int := if n0 = 0 ∨ n1 = 0 then 1 else n0 * n1
theorem sz_small {z : Int} (h : z.natAbs < 18446744073709551616) : sz z ≤ 2 := Bd.sz (by unfold Bd Bs; omega)
theorem mul_le_abs {a b : Int} {k l : Int} (ha : 0 ≤ a ∧ a ≤ k) (hb : 0 ≤ b ∧ b ≤ l) : 0 ≤ a * b ∧ a * b ≤ k * l := ⟨Int.mul_nonneg ha.1 hb.1, Int.mul_le_mul ha.2 hb.2 hb.1 (by omega)⟩
set_option maxHeartbeats 2000000 in
set_option maxRecDepth 100000 in
theorem variance_ok (n0 s0 n1 s1 : Int) (w : World) (h0 : 0 ≤ n0 ∧ n0 ≤ 4194304) (h1 : 0 ≤ n1 ∧ n1 ≤ 4194304) (g0 : 0 ≤ s0 ∧ s0 ≤ 1069547520) (g1 : 0 ≤ s1 ∧ s1 ≤ 1069547520) :
    Calls Try.prog 45 #[.int .i64 n0, .int .i64 s0, .int .i64 n1, .int .i64 s1] w (RatPost (vsq n0 s0 n1 s1) (vby n0 n1) w) := by
  have hu := Try.underlying52
  have hu2 := Try.underlying80
  have HF := Lib.hid (fun n w1 h => fromInt_ok n w1 h)
  have HK0 := Lib.hid (Blk.new w [.bool false, .slice none 0 0, .bool false, .slice none 0 0] 80)
  have HB := Lib.hid (bbox (w := w) (.cells #[.bool false, .slice none 0 0, .bool false, .slice none 0 0] 80))
  by_cases hz : n0 = 0 ∨ n1 = 0
  · have e1 : vsq n0 s0 n1 s1 = 0 := if_pos hz
    have e2 : vby n0 n1 = 1 := if_pos hz
    rw [e1, e2]
    clear e1 e2
    by_cases hz0 : n0 = 0
    · have hb : (n0 == 0) = true := by simpa using hz0
      clear hz hz0
      go_enter Try.func45, Try.ntmps45
      go_wp2_with fail
      refine (HF.out 0 _ (by omega)).mono ?_
      rintro e w1 ⟨A1, c1, rfl, q1, q2⟩
      go_wp2_with fail
      refine (HF.out 1 _ (by omega)).mono ?_
      rintro e w2 ⟨A2, c2, rfl, r1, r2⟩
      have K := Lib.hid ((HK0.out.below q2).below r2)
      have Q1 := Lib.hid (q1.below r2)
      have R1 := Lib.hid r1
      have HB2 := Lib.hid (bthen (bthen HB.out q2) r2)
      clear q1 q2 r1 r2
      have k := K.out.four
      go_wp2_with fail
      exact bodyPost_ret (res_rat rfl _ _ w.heap.size _ _ _ _ rfl (K.out.store4 _ _ _ _)) rfl ⟨A1, c1, A2, c2, rfl, Q1.out.store4 K.out _ _ _ _ _ _ _ _, R1.out.store4 K.out _ _ _ _ _ _ _ _, below_store4 HB2.out (Nat.le_refl _) _ _ _ _⟩
    · have hb : (n0 == 0) = false := by simpa using hz0
      have hb2 : (n1 == 0) = true := by simpa using hz.resolve_left hz0
      clear hz hz0
      go_enter Try.func45, Try.ntmps45
      go_wp2_with fail
      refine (HF.out 0 _ (by omega)).mono ?_
      rintro e w1 ⟨A1, c1, rfl, q1, q2⟩
      go_wp2_with fail
      refine (HF.out 1 _ (by omega)).mono ?_
      rintro e w2 ⟨A2, c2, rfl, r1, r2⟩
      have K := Lib.hid ((HK0.out.below q2).below r2)
      have Q1 := Lib.hid (q1.below r2)
      have R1 := Lib.hid r1
      have HB2 := Lib.hid (bthen (bthen HB.out q2) r2)
      clear q1 q2 r1 r2
      have k := K.out.four
      go_wp2_with fail
      exact bodyPost_ret (res_rat rfl _ _ w.heap.size _ _ _ _ rfl (K.out.store4 _ _ _ _)) rfl ⟨A1, c1, A2, c2, rfl, Q1.out.store4 K.out _ _ _ _ _ _ _ _, R1.out.store4 K.out _ _ _ _ _ _ _ _, below_store4 HB2.out (Nat.le_refl _) _ _ _ _⟩
  · have e1 : vsq n0 s0 n1 s1 = (n1 * s0 - n0 * s1) * (n1 * s0 - n0 * s1) := if_neg hz
    have e2 : vby n0 n1 = n0 * n1 := if_neg hz
    rw [e1, e2]
    have hb : (n0 == 0) = false := by simpa using fun h => hz (.inl h)
    have hb2 : (n1 == 0) = false := by simpa using fun h => hz (.inr h)
    have m1 := mul_le_abs h1 g0
    have m2 := mul_le_abs h0 g1
    have m3 := mul_le_abs h0 h1
    obtain ⟨p, hp⟩ : ∃ p, n1 * s0 = p := ⟨_, rfl⟩
    obtain ⟨q, hq⟩ : ∃ q, n0 * s1 = q := ⟨_, rfl⟩
    obtain ⟨r, hr⟩ : ∃ r, n0 * n1 = r := ⟨_, rfl⟩
    rw [hp] at m1 ⊢
    rw [hq] at m2 ⊢
    rw [hr] at m3 ⊢
    obtain ⟨d, hd⟩ : ∃ d, p - q = d := ⟨_, rfl⟩
    rw [hd]
    have hdb : d.natAbs < 18446744073709551616 := by omega
    have hs1 := sz_small hdb
    have hs2 : sz (d * d) ≤ 512 := Nat.le_trans (Bd.sz ((Bd.of_sz hs1).mul (Bd.of_sz hs1))) (by omega)
    have HM := Lib.hid (fun A c w1 h => tproduct_ok d d A c A c w1 h h (by omega) (by omega) hs2)
    clear e1 e2 hz hs1 hs2
    go_enter Try.func45, Try.ntmps45
    go_wp2_with fail
    refine (HF.out d _ (by omega)).mono ?_
    rintro e w1 ⟨A1, c1, rfl, q1, q2⟩
    have L1 := Lib.hid (q1.alloc (.cells #[.bool (sg d), .slice A1 (sz d) c1] 52))
    have KB := Lib.hid (Blk.new w1 [.bool (sg d), .slice A1 (sz d) c1] 52)
    have kb := KB.out.two
    have K := Lib.hid ((HK0.out.below q2).alloc (.cells #[.bool (sg d), .slice A1 (sz d) c1] 52))
    have HB1 := Lib.hid (balloc (bthen HB.out q2) (.cells #[.bool (sg d), .slice A1 (sz d) c1] 52))
    clear q1 q2
    go_wp2_with fail
    refine (HM.out _ _ _ L1.out).mono ?_
    rintro e w2 ⟨A2, c2, rfl, q1, q2⟩
    go_wp2_with fail
    refine (HF.out r _ (by omega)).mono ?_
    rintro e w3 ⟨A3, c3, rfl, r1, r2⟩
    have K3 := Lib.hid ((K.out.below q2).below r2)
    have Q1 := Lib.hid (q1.below r2)
    have R1 := Lib.hid r1
    have HB2 := Lib.hid (bthen (bthen HB1.out q2) r2)
    clear q1 q2 r1 r2
    have k := K3.out.four
    go_wp2_with fail
    exact bodyPost_ret (res_rat rfl _ _ w.heap.size _ _ _ _ rfl (K3.out.store4 _ _ _ _)) rfl ⟨A2, c2, A3, c3, rfl, Q1.out.store4 K3.out _ _ _ _ _ _ _ _, R1.out.store4 K3.out _ _ _ _ _ _ _ _, below_store4 HB2.out (Nat.le_refl _) _ _ _ _⟩
end Go.Proofs.Ytjhdjmlaidpjfaa.B
