/- An append of one bool in a region that draws its order. -/
import Derived.Test.YtjhdjmlaidpjfaaApp
set_option linter.unusedVariables false
namespace Go.Proofs.Ytjhdjmlaidpjfaa.B
open Go.RowKit
/-- An append of one bool, as a step of a region that draws its order. -/
theorem step_app_bool {ops : Array Oper} {o : Oper} {a : Act} {w : World} {K : Act → World → Prop} {Q : Exit → Act → World → Prop} {E : Prop} (hgd : o.guard = none) (s x : Operand)
    (ho : o.op = .call { callee := .builtin .append, args := #[s, x], argTypes := #[33, 33] }) (base : Nat) (v : Value) (n : Nat) (f : Nat → Value) (hs : a.eval s = v) (hown : Gw w base 4 v n f)
    (b : Nat) (c : Nat) (hx : a.eval x = .slice (some ⟨b, 0, none⟩) 1 c) (hnew : w.cell? ⟨b, 0, none⟩ = some (f n)) (h1 : (f n).oneCell' = true) (hn : n ≤ 10000000) (hbase : base ≤ w.heap.size)
    (h : ∀ v' w', Gw w' base 4 v' (n + 1) f → w.grownBy w' v.ownBlock → K (a.put o.dst v') w') :
    if Region.wanted o (yielded ops a.tmps) = true then Oper.wp Try.prog o a w K Q else E := by
  have hw : Region.wanted o (yielded ops a.tmps) = true := by simp [Region.wanted, hgd]
  rw [if_pos hw]
  obtain ⟨i0, hi, hzz⟩ := Option.map_eq_some_iff.1 info_bool
  simp only [Prod.mk.injEq] at hzz
  obtain ⟨hz0, hz1, hz2⟩ := hzz
  refine wp_append_own_wide w s x 33 ho base 4 i0 (.bool false) 1 1 Try.underlying33 hi hz0 hz1 hz2 rfl (by omega) v n _ hs hown ⟨b, 0, none⟩ 1 c [f n] hx rfl ?_ ?_ (by unfold maxLen; omega) (by omega) hbase ?_
  · intro j u hj
    cases j with
    | zero => simp at hj; subst hj; simpa [Addr.add] using hnew
    | succ j => simp at hj
  · intro u hu; simp at hu; subst hu; exact h1
  · intro v' w' h2 h3 _
    exact h v' w' (Gw.next h2) h3
end Go.Proofs.Ytjhdjmlaidpjfaa.B
