/- The reference's Trim: a copy of the limbs without the zeros at the end. Condition: at most 10^7 limbs. -/
import Derived.Test.YtjhdjmlaidpjfaaMade
import Derived.Test.YtjhdjmlaidpjfaaCells
import Derived.Deep.DeepAppendWide
set_option linter.unusedVariables false
namespace Go.Proofs.Ytjhdjmlaidpjfaa.B
open Go.RowKit
theorem empty_own (w : World) (t : Nat) : (w.alloc (.cells #[] t)).ownsRow w.heap.size t 1 (.slice (some ⟨w.heap.size, 0, none⟩) 0 0) 0 [] :=
  ⟨rfl, .inr ⟨w.heap.size, 0, #[], rfl, Nat.le_refl _, heap_alloc_new w _, Nat.le_refl _, by unfold maxLen; omega, rfl, rfl⟩⟩
theorem run_append_none {P : Program} (w : World) (t ty e : TypeId) (i : TypeInfo) (ht : P.underlying t = some (.slice e)) (hi : P.info? e = some i) (g cap c : Nat) (A : Option Addr) :
    (Builtin.append_ #[t, t] ty #[.slice (some ⟨g, 0, none⟩) 0 cap, .slice A 0 c]).run P w = .ok (.slice (some ⟨g, 0, none⟩) 0 cap) w := by
  cases A <;> simp [Builtin.append_, run_underlying ht, sizeOf, typeInfo, hi, Builtin.lenOf, Builtin.firstCells, loadCells, loadCellsFrom, storeCells]
/-- A row of limbs that a call owns. -/
theorem own_rd {w : World} {base m : Nat} {v : Value} {xs : List Int} (h : w.ownsRow base 137 1 v xs.length (xs.map (.int .u32))) (hd : Dig xs) : ∃ A c, v = .slice A xs.length c ∧ xs.length ≤ c ∧ Rd w A xs := by
  obtain ⟨h1, h2⟩ := h
  rcases h2 with ⟨h2, h3⟩ | ⟨g, cap, cur, rfl, hg, hh, hcap, _, hs, ht⟩
  · obtain rfl : xs = [] := List.length_eq_zero_iff.1 h3
    exact ⟨none, 0, h2, Nat.le_refl _, Rd.nil _ _⟩
  · refine ⟨some ⟨g, 0, none⟩, cap, rfl, hcap, ⟨hd, fun _ => ⟨g, 0, rfl, (Array.getElem?_eq_some_iff.1 hh).1, fun i hi => ?_⟩⟩⟩
    rw [Nat.zero_add]
    unfold World.cell?
    rw [hh]
    have e := congrArg (fun l => l[i]?) ht
    simp only [Nat.mul_one, List.getElem?_take, if_pos hi, List.getElem?_map] at e
    have e2 : cur[i]? = some (.int .u32 (xs.getD i 0)) := by
      rw [← Array.getElem?_toList, e, List.getElem?_eq_getElem hi]
      simp [hi, List.getD_eq_getElem?_getD]
    simpa using e2
/-- An append of limbs onto an empty row. -/
theorem app_limbs {ops : Array Oper} {rest : List Oper} {o : Oper} {a : Act} {w : World} {Q : Exit → Act → World → Prop} (hgd : o.guard = none) (s x : Operand)
    (ho : o.op = .call { callee := .builtin .append, args := #[s, x], argTypes := #[50, 50] }) (g : Nat) (hs : a.eval s = .slice (some ⟨g, 0, none⟩) 0 0) (hown : w.ownsRow g 137 1 (.slice (some ⟨g, 0, none⟩) 0 0) 0 [])
    (A : Option Addr) (m c : Nat) (xs : List Int) (hxm : xs.length = m) (hx : a.eval x = .slice A m c) (hR : Rd w A xs) (hn : m ≤ 10000000)
    (h : ∀ A' c' w', m ≤ c' → Rd w' A' xs → w.grownBy w' (some g) → wpList Try.prog ops Q rest (a.put o.dst (.slice A' m c')) w') : wpList Try.prog ops Q (o :: rest) a w := by
  subst hxm
  obtain ⟨i0, hi, hzz⟩ := Option.map_eq_some_iff.1 info_u32
  simp only [Prod.mk.injEq] at hzz
  obtain ⟨hz0, hz1, hz2⟩ := hzz
  by_cases h0 : xs.length = 0
  · obtain rfl : xs = [] := List.length_eq_zero_iff.1 h0
    have hr := run_append_none (P := Try.prog) w 50 o.type 137 i0 Try.underlying50 hi g 0 c A
    refine wpList_plain hgd fun _ hK => ?_
    unfold Oper.wp execOp
    simp only [List.length_nil] at hx
    simp only [ho, resolve, invoke, builtin, Sem.run_bind, Sem.run_pure, Result.andThen_ok, List.map_toArray, List.map_cons, List.map_nil, hs, hx, hr]
    exact hK _ _ (h (some ⟨g, 0, none⟩) 0 w (Nat.le_refl _) (Rd.nil _ _) ⟨rfl, rfl, rfl, Nat.le_refl _, fun _ _ _ => rfl⟩)
  · obtain ⟨b, off, rfl, hb, hcell⟩ := hR.2 (by omega)
    refine wpList_append_own_wide w hgd s x 50 ho g 137 i0 (.int .u32 0) 1 4 Try.underlying50 hi hz0 hz1 hz2 rfl (by omega) _ 0 [] hs hown ⟨b, off, none⟩ xs.length c (xs.map (.int .u32)) hx (by simp) ?_ ?_ (by unfold maxLen; omega) (by omega) (Nat.le_of_lt (hown.lt g rfl).2) ?_
    · intro j u hj
      rw [List.getElem?_map] at hj
      obtain ⟨y, hy, rfl⟩ := Option.map_eq_some_iff.1 hj
      have hjl : j < xs.length := (List.getElem?_eq_some_iff.1 hy).1
      rw [Addr.add_lit, hcell j hjl, List.getD_eq_getElem?_getD, hy]; rfl
    · intro u hu
      obtain ⟨y, _, rfl⟩ := List.mem_map.1 hu
      rfl
    · intro v' w' h2 h3 _
      rw [Nat.zero_add, List.nil_append] at h2
      obtain ⟨A', c', rfl, hc, hr⟩ := own_rd (m := 0) h2 hR.1
      exact h A' c' w' hc hr h3
set_option maxHeartbeats 1000000 in
set_option maxRecDepth 100000 in
theorem rtrim_any (A : Option Addr) (c : Nat) (xs : List Int) (w : World) (hA : Rd w A xs) (hl : xs.length ≤ c) (hm : xs.length ≤ 10000000) :
    Calls Try.prog 126 #[.slice A xs.length c] w (MagPost (val xs) w) := by
  obtain ⟨n, hn⟩ : ∃ n, xs.length = n := ⟨_, rfl⟩
  have HT : Hid (trimN xs n = (trim xs).length) := by have := trim_len xs; rw [hn] at this; exact this.symm
  have HR := Lib.hid hA
  have HD := Lib.hid hA.1
  clear hA
  have HN := Lib.hid hn
  rw [hn] at hl hm ⊢
  clear hn
  go_enter Try.func126, Try.ntmps126
  go_wp2_with fail
  go_loop [3] (fun v => ∃ k : Nat, k ≤ n ∧ v = .int .i64 k ∧ Hid (trimN xs k = (trim xs).length)) (fun v => (intOf v).toNat)
  case atStart => exact ⟨n, Nat.le_refl _, rfl, HT⟩
  case round =>
    obtain ⟨k, hk, rfl, HK⟩ := hrel
    cases k with
    | zero =>
      cases A with
      | none =>
        go_wp2_with (first
          | (at_builtin
             refine app_limbs rfl _ _ rfl w.heap.size rfl (empty_own w _) none 0 c [] rfl rfl (Rd.nil _ _) (by omega) ?_
             intro A9 c9 w9 g1 g2 g3))
        go_ret
        have e : trim xs = [] := List.length_eq_zero_iff.1 (by rw [← HK.out]; rfl)
        exact ⟨A9, c9, [], rfl, g1, g2, .inl rfl, by rw [← trim_val xs, e], (bbox _).grown g3 (by rw [World.size_alloc]; omega) (fun k hk => by cases hk; exact Nat.le_refl _)⟩
      | some ad =>
        go_wp2_with (first
          | (at_builtin
             refine app_limbs rfl _ _ rfl w.heap.size rfl (empty_own w _) (some ad) 0 c [] rfl rfl (Rd.nil _ _) (by omega) ?_
             intro A9 c9 w9 g1 g2 g3))
        go_ret
        have e : trim xs = [] := List.length_eq_zero_iff.1 (by rw [← HK.out]; rfl)
        exact ⟨A9, c9, [], rfl, g1, g2, .inl rfl, by rw [← trim_val xs, e], (bbox _).grown g3 (by rw [World.size_alloc]; omega) (fun k hk => by cases hk; exact Nat.le_refl _)⟩
    | succ k =>
      have HRT := Lib.hid (HR.out.take (k + 1))
      have HLT : Hid ((xs.take (k + 1)).length = k + 1) := Lib.hid (by rw [List.length_take, HN.out]; omega)
      obtain ⟨b, off, rfl, hs, hc⟩ := HR.out.2 (by rw [HN.out]; omega)
      have hcell := hc k (by rw [HN.out]; omega)
      clear hc
      obtain ⟨x, hx⟩ : ∃ x, xs.getD k 0 = x := ⟨_, rfl⟩
      rw [hx] at hcell
      have HX := Lib.hid hx
      clear hx
      by_cases h0 : x = 0
      · subst h0
        go_wp2_with fail
        exact ⟨⟨k, by omega, by go_num, by rw [← HK.out, trimN, if_pos HX.out]; rfl⟩, by simp [intOf]⟩
      · have h1 : (x == 0) = false := beq_eq_false_iff_ne.2 h0
        go_wp2_with (first
          | (at_builtin
             refine app_limbs rfl _ _ rfl w.heap.size rfl (empty_own w _) (some ⟨b, off, none⟩) (k + 1) c (xs.take (k + 1)) HLT.out rfl (HRT.out.below (bbox _)) (by omega) ?_
             intro A9 c9 w9 g1 g2 g3))
        go_ret
        have e : xs.take (k + 1) = trim xs := by
          unfold trim
          rw [← trim_len, ← HK.out, trimN, if_neg (by rw [HX.out]; exact h0)]
        exact ⟨A9, c9, xs.take (k + 1), by rw [HLT.out]; rfl, by rw [HLT.out]; exact g1, g2, by rw [e]; exact trim_trm _, by rw [e]; exact trim_val xs, (bbox _).grown g3 (by rw [World.size_alloc]; omega) (fun k hk => by cases hk; exact Nat.le_refl _)⟩
end Go.Proofs.Ytjhdjmlaidpjfaa.B
