/- Two equal rows of 256 numbers compare as equal. No statement of the program is proved here. -/
import Derived.Test.YtjhdjmlaidpjfaaHistR
import Derived.Test.YtjhdjmlaidpjfaaGlobal
import Derived.ChangeKeysEq
set_option linter.unusedVariables false
namespace Go.Proofs.Ytjhdjmlaidpjfaa.B
open Go.RowKit
theorem run_part_int (h : Nat → Int) (i : Nat) (hi : i < 256) (w : World) : (part 3 (Rof 256 (hrow h)) (i * 1)).run Try.prog w = .ok (.int .i64 (h i)) w := by
  have e : (Rof 256 (hrow h))[i]? = some (.int .i64 (h i)) := by rw [Rof_get _ _ _ hi]; rfl
  unfold part
  rw [Nat.mul_one]
  simp [isAgg, run_underlying Try.underlying3, e]
theorem eqItems_self (d : Nat) (h : Nat → Int) (w : World) : ∀ is : List Nat, (∀ i ∈ is, i < 256) → (Op.eqItems (d + 1) 3 1 (Rof 256 (hrow h)) (Rof 256 (hrow h)) is).run Try.prog w = .ok true w
  | [], _ => by simp [Op.eqItems]
  | i :: is, hi => by
    have h1 := run_part_int h i (hi i (by simp)) w
    have h2 := run_equalIn_int (P := Try.prog) w d 3 .i64 .i64 (h i) (h i) Try.underlying3
    have h3 := eqItems_self d h w is (fun j hj => hi j (by simp [hj]))
    simp only [Op.eqItems, Sem.run_bind, h1, h2, h3, Result.andThen_ok, beq_self_eq_true, Bool.not_true, Bool.false_eq_true, if_false]
theorem eq256 (h : Nat → Int) (w : World) : (Op.equalIn 10000 27 (.agg (Rof 256 (hrow h))) (.agg (Rof 256 (hrow h)))).run Try.prog w = .ok true w := by
  obtain ⟨i0, hi, hzz⟩ := Option.map_eq_some_iff.1 info_int
  simp only [Prod.mk.injEq] at hzz
  obtain ⟨hz0, hz1, hz2⟩ := hzz
  have hc : Try.prog.cellsOf 3 = 1 := by unfold Program.cellsOf; rw [hi]; exact hz1
  rw [run_equalIn_array w 9999 (n := 256) _ _ Try.underlying27 hi, hc]
  exact eqItems_self 9998 h w _ (fun i hi => by simpa using hi)
end Go.Proofs.Ytjhdjmlaidpjfaa.B
