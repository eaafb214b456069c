/- A matrix that comes in, opened: its numbers, its row of bools. No statement of the program is proved here. -/
import Derived.Test.YtjhdjmlaidpjfaaOpen
import Derived.Deep.Grids
set_option linter.unusedVariables false
namespace Go.Proofs.Ytjhdjmlaidpjfaa.B
open Go.ChangeShapes Go.WideShapes Go.ChangeAt Go.RowKit Go.Joins
theorem cellsMatrix : Try.prog.cellsOf 35 = 3 := by kernel_rfl
set_option maxRecDepth 100000 in
theorem open_matrix {H : Type} {enc : TypeId × Value → H} {W : World} {base : Nat} {v : Value} {d : DataW H} {p : List MemPlace} (hv : Value.okWide Try.prog W .any base 35 v) (h : DataW.Trod enc Try.prog W 0 (fun _ => true) true 35 v d p) :
    ∃ (x y : Int) (A : Option Addr) (n c : Nat) (f : Nat → Bool), v = .agg #[.int .i64 x, .int .i64 y, .slice A n c] ∧ n ≤ c ∧ Ro W A n (fun i => .bool (f i)) := by
  obtain ⟨c0, c1, c2, y0, y1, y2, m, rfl, rfl, rfl, h0, h1, h2⟩ := open_agg3 Try.underlying35 (by kernel_rfl) cellsMatrix hv h
  obtain ⟨x, e0, _, _⟩ := DataW.trod_int Try.underlying3 h0
  obtain ⟨y, e1, _, _⟩ := DataW.trod_int Try.underlying3 h1
  simp at e0 e1
  subst e0 e1
  rcases Go.Deep.open_bools Try.underlying33 Try.underlying4 (by kernel_rfl) h2 with ⟨hcs, _⟩ | ⟨a, l, c, B, hcs, _, hl, hm, _, hcell⟩
  · simp at hcs
    subst hcs
    exact ⟨x, y, none, 0, 0, fun _ => false, rfl, Nat.le_refl _, Ro.nil _ _ _⟩
  · simp at hcs
    subst hcs
    refine ⟨x, y, some a, l, c, B, rfl, hl, fun h0 => ?_⟩
    obtain ⟨b, off, spot⟩ := a
    have hc0 := hcell 0 (by omega)
    have hspot : spot = none := by simpa [Addr.add] using World.cell?_spot hc0
    subst hspot
    refine ⟨b, off, rfl, ?_, fun i hi => by
      have e : (⟨b, off, none⟩ : Addr).add i = ⟨b, off + i, none⟩ := by unfold Addr.add; split <;> simp_all
      rw [← e]; exact hcell i (by omega)⟩
    unfold World.cell? at hc0
    refine Classical.byContradiction fun hb => ?_
    rw [Array.getElem?_eq_none (by simpa [Addr.add] using Nat.le_of_not_lt hb)] at hc0
    simp at hc0
end Go.Proofs.Ytjhdjmlaidpjfaa.B
