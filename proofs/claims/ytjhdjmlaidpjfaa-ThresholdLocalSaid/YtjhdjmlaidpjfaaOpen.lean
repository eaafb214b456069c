/- An image that comes in, opened: its numbers, its row of values. No statement of the program is proved here. -/
import Derived.Test.YtjhdjmlaidpjfaaCells
import Derived.Test.YtjhdjmlaidpjfaaRows
import Derived.ProofKit
import Derived.OpenShut
import Derived.ShutString
import Derived.ChangeOld
import Derived.Below
import Derived.Lib.SmallJoins
set_option linter.unusedVariables false
namespace Go.Proofs.Ytjhdjmlaidpjfaa.B
open Go.ChangeShapes Go.WideShapes Go.ChangeAt Go.RowKit Go.Joins
theorem own : ownKnob Try.prog.godebug = none := by kernel_rfl
theorem laidOut : laidOutB Try.prog = true := by kernel_rfl
theorem cellsImage : Try.prog.cellsOf 24 = 3 := by kernel_rfl
theorem u8_bd {zs : List Int} (h : ∀ n ∈ zs, (Lit.int .u8 n).wf = true) (i : Nat) : 0 ≤ zs.getD i 0 ∧ zs.getD i 0 < 256 := by
  rw [List.getD_eq_getElem?_getD]
  cases e : zs[i]? with
  | none => simp
  | some v =>
    have := bounds_u8 (h v (List.mem_of_getElem? e))
    simp; omega
set_option maxRecDepth 100000 in
theorem open_image {H : Type} {enc : TypeId × Value → H} {W : World} {base : Nat} {v : Value} {d : DataW H} {p : List MemPlace} (hv : Value.okWide Try.prog W .any base 24 v) (h : DataW.Trod enc Try.prog W 0 (fun _ => true) true 24 v d p) :
    ∃ (x y : Int) (A : Option Addr) (n c : Nat) (f : Nat → Int), v = .agg #[.int .i64 x, .int .i64 y, .slice A n c] ∧ n ≤ c ∧ (∀ i, 0 ≤ f i ∧ f i < 256) ∧ Ro W A n (fun i => .int .u8 (f i)) := by
  obtain ⟨c0, c1, c2, y0, y1, y2, m, rfl, rfl, rfl, h0, h1, h2⟩ := open_agg3 Try.underlying24 (by kernel_rfl) cellsImage hv h
  obtain ⟨x, e0, _, _⟩ := DataW.trod_int Try.underlying3 h0
  obtain ⟨y, e1, _, _⟩ := DataW.trod_int Try.underlying3 h1
  simp at e0 e1
  subst e0 e1
  rcases open_ints Try.underlying22 Try.underlying5 (by kernel_rfl) h2 with ⟨hcs, _⟩ | ⟨a, l, c, zs, hcs, _, hl, hm, hz, _, hcell, hwz⟩
  · simp at hcs
    subst hcs
    exact ⟨x, y, none, 0, 0, fun _ => 0, rfl, Nat.le_refl _, fun _ => by simp, Ro.nil _ _ _⟩
  · simp at hcs
    subst hcs
    refine ⟨x, y, some a, l, c, fun i => zs.getD i 0, rfl, hl, u8_bd hwz, fun h0 => ?_⟩
    obtain ⟨b, off, spot⟩ := a
    have hzl : zs.length = c := by simpa using hz
    have hc0 := hcell 0 (by omega)
    have hspot : spot = none := by simpa [Addr.add] using World.cell?_spot hc0
    subst hspot
    refine ⟨b, off, rfl, ?_, fun i hi => by
      have e : (⟨b, off, none⟩ : Addr).add i = ⟨b, off + i, none⟩ := by unfold Addr.add; split <;> simp_all
      rw [← e]; exact hcell i (by omega)⟩
    unfold World.cell? at hc0
    refine Classical.byContradiction fun hb => ?_
    rw [Array.getElem?_eq_none (by simpa [Addr.add] using Nat.le_of_not_lt hb)] at hc0
    simp at hc0
end Go.Proofs.Ytjhdjmlaidpjfaa.B
