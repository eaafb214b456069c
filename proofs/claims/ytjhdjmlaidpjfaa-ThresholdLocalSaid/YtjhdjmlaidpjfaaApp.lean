/- Rows that grow by append: one byte, one bool at a time. No statement of the program is proved here. -/
import Derived.Test.YtjhdjmlaidpjfaaGlobal
import Derived.Deep.DeepAppendWide
set_option linter.unusedVariables false
namespace Go.Proofs.Ytjhdjmlaidpjfaa.B
open Go.RowKit
/-- A row of n values that grows. -/
def Gw (w : World) (base e : Nat) (v : Value) (n : Nat) (f : Nat → Value) : Prop := w.ownsRow base e 1 v n ((List.range n).map f)
theorem Gw.nil (w : World) (base e : Nat) (f : Nat → Value) : Gw w base e (.slice none 0 0) 0 f := World.ownsRow_nil w base e 1
theorem Gw.shape {w : World} {base e n : Nat} {v : Value} {f : Nat → Value} (h : Gw w base e v n f) : ∃ A c, v = .slice A n c ∧ n ≤ c ∧ Ro w A n f := by
  obtain ⟨h1, h2⟩ := h
  rcases h2 with ⟨rfl, rfl⟩ | ⟨g, cap, cur, rfl, hg, hh, hc, hm, hs, ht⟩
  · exact ⟨none, 0, rfl, Nat.le_refl _, Ro.nil _ _ _⟩
  · refine ⟨_, cap, rfl, hc, fun h0 => ⟨g, 0, rfl, (Array.getElem?_eq_some_iff.1 hh).1, fun i hi => ?_⟩⟩
    rw [Nat.zero_add]
    unfold World.cell?
    rw [hh]
    have e := congrArg (fun l => l[i]?) ht
    simp only [Nat.mul_one, List.getElem?_take, if_pos hi, List.getElem?_map, List.getElem?_range hi, Option.map_some] at e
    rw [Array.getElem?_toList] at e; simpa using e
theorem Gw.setCell {w : World} {base e n : Nat} {v : Value} {f : Nat → Value} (h : Gw w base e v n f) {b : Nat} (hb : b < base) (i : Nat) (u : Value) : Gw (w.setCell ⟨b, i, none⟩ u) base e v n f := ownsRow_setCell_below h (a := ⟨b, i, none⟩) hb u
theorem Gw.alloc {w : World} {base e n : Nat} {v : Value} {f : Nat → Value} (h : Gw w base e v n f) (o : Obj) : Gw (w.alloc o) base e v n f := World.ownsRow.alloc h o
theorem Gw.drew {w : World} {base e n : Nat} {v : Value} {f : Nat → Value} (h : Gw w base e v n f) : Gw w.drew base e v n f := h
theorem Gw.lt {w : World} {base e n : Nat} {v : Value} {f : Nat → Value} (h : Gw w base e v n f) : ∀ k, v.ownBlock = some k → base ≤ k ∧ k < w.heap.size := World.ownsRow.lt h
theorem Blk.grown {w w' : World} {b t base : Nat} {cs : List Value} {row : Option Nat} (h : Blk w b cs t) (hg : w.grownBy w' row) (hr : ∀ k, row = some k → base ≤ k) (hb : b < base) : Blk w' b cs t :=
  (hg.block b h.lt (fun e => by have := hr b e.symm; omega)).trans h
theorem Gw.next {w : World} {base e n : Nat} {v : Value} {f : Nat → Value} (h : w.ownsRow base e 1 v (n + 1) ((List.range n).map f ++ [f n])) : Gw w base e v (n + 1) f := by
  unfold Gw; rw [List.range_succ, List.map_append]; exact h
theorem info_u8 : (Try.prog.info? 5).map (fun i => (i.zero, i.size, i.bytes)) = some (some (.int .u8 0), 1, 1) := by kernel_rfl
/-- An append of one byte. -/
theorem app_u8 {ops : Array Oper} {rest : List Oper} {o : Oper} {a : Act} {w : World} {Q : Exit → Act → World → Prop} (hgd : o.guard = none) (s x : Operand)
    (ho : o.op = .call { callee := .builtin .append, args := #[s, x], argTypes := #[22, 22] }) (base : Nat) (v : Value) (n : Nat) (f : Nat → Value) (hs : a.eval s = v) (hown : Gw w base 5 v n f)
    (b : Nat) (c : Nat) (hx : a.eval x = .slice (some ⟨b, 0, none⟩) 1 c) (hnew : w.cell? ⟨b, 0, none⟩ = some (f n)) (h1 : (f n).oneCell' = true) (hn : n ≤ 10000000) (hbase : base ≤ w.heap.size)
    (h : ∀ v' w', Gw w' base 5 v' (n + 1) f → w.grownBy w' v.ownBlock → wpList Try.prog ops Q rest (a.put o.dst v') w') : wpList Try.prog ops Q (o :: rest) a w := by
  obtain ⟨i0, hi, hzz⟩ := Option.map_eq_some_iff.1 info_u8
  simp only [Prod.mk.injEq] at hzz
  obtain ⟨hz0, hz1, hz2⟩ := hzz
  refine wpList_append_own_wide w hgd s x 22 ho base 5 i0 (.int .u8 0) 1 1 Try.underlying22 hi hz0 hz1 hz2 rfl (by omega) v n _ hs hown ⟨b, 0, none⟩ 1 c [f n] hx rfl ?_ ?_ (by unfold maxLen; omega) (by omega) hbase ?_
  · intro j u hj
    cases j with
    | zero => simp at hj; subst hj; simpa [Addr.add] using hnew
    | succ j => simp at hj
  · intro u hu; simp at hu; subst hu; exact h1
  · intro v' w' h2 h3 _
    exact h v' w' (Gw.next h2) h3
/-- An append of one bool. -/
theorem app_bool {ops : Array Oper} {rest : List Oper} {o : Oper} {a : Act} {w : World} {Q : Exit → Act → World → Prop} (hgd : o.guard = none) (s x : Operand)
    (ho : o.op = .call { callee := .builtin .append, args := #[s, x], argTypes := #[33, 33] }) (base : Nat) (v : Value) (n : Nat) (f : Nat → Value) (hs : a.eval s = v) (hown : Gw w base 4 v n f)
    (b : Nat) (c : Nat) (hx : a.eval x = .slice (some ⟨b, 0, none⟩) 1 c) (hnew : w.cell? ⟨b, 0, none⟩ = some (f n)) (h1 : (f n).oneCell' = true) (hn : n ≤ 10000000) (hbase : base ≤ w.heap.size)
    (h : ∀ v' w', Gw w' base 4 v' (n + 1) f → w.grownBy w' v.ownBlock → wpList Try.prog ops Q rest (a.put o.dst v') w') : wpList Try.prog ops Q (o :: rest) a w := by
  obtain ⟨i0, hi, hzz⟩ := Option.map_eq_some_iff.1 info_bool
  simp only [Prod.mk.injEq] at hzz
  obtain ⟨hz0, hz1, hz2⟩ := hzz
  refine wpList_append_own_wide w hgd s x 33 ho base 4 i0 (.bool false) 1 1 Try.underlying33 hi hz0 hz1 hz2 rfl (by omega) v n _ hs hown ⟨b, 0, none⟩ 1 c [f n] hx rfl ?_ ?_ (by unfold maxLen; omega) (by omega) hbase ?_
  · intro j u hj
    cases j with
    | zero => simp at hj; subst hj; simpa [Addr.add] using hnew
    | succ j => simp at hj
  · intro u hu; simp at hu; subst hu; exact h1
  · intro v' w' h2 h3 _
    exact h v' w' (Gw.next h2) h3
end Go.Proofs.Ytjhdjmlaidpjfaa.B
