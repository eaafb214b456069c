/- The bounds of the law's products, for at most 300 pixels. No statement of the program is proved here. -/
import Derived.Test.YtjhdjmlaidpjfaaTwoP
set_option linter.unusedVariables false
namespace Go.Proofs.Ytjhdjmlaidpjfaa.B
open Go.RowKit
theorem CL_bd (p : Nat → Int) (k : Int) : ∀ n, 0 ≤ CL p k n ∧ CL p k n ≤ n
  | 0 => by simp [CL]
  | n + 1 => by
    have := CL_bd p k n
    rw [CL]; split <;> omega
theorem CS_bd (p : Nat → Int) (hp : ∀ i, 0 ≤ p i ∧ p i < 256) (k : Int) : ∀ n, 0 ≤ CS p k n ∧ CS p k n ≤ 255 * CL p k n ∧ 0 ≤ CT p n - CS p k n ∧ CT p n - CS p k n ≤ 255 * ((n : Int) - CL p k n)
  | 0 => by simp [CS, CL, CT]
  | n + 1 => by
    have := CS_bd p hp k n
    have := hp n
    rw [CS, CL, CT]; split <;> omega
theorem prod_le (N M : Int) (n : Nat) (h : N + M = n) (hn : n ≤ 300) : N * M ≤ 22500 := by
  have h1 := sq_nonneg (N - M)
  have h2 : (N + M) * (N + M) ≤ 300 * 300 := Int.mul_le_mul (by omega) (by omega) (by omega) (by omega)
  have h3 : (N + M) * (N + M) = (N - M) * (N - M) + 4 * (N * M) := by grind
  omega
theorem qF_CL (p : Nat → Int) (hp : ∀ i, 0 ≤ p i ∧ p i < 256) (n k : Nat) : qF (cnt p n) n k = CL p k n * (n - CL p k n) := by
  unfold qF; rw [SN_CL p (fun i => (hp i).1)]
theorem dF_CL (p : Nat → Int) (hp : ∀ i, 0 ≤ p i ∧ p i < 256) (n k : Nat) : dF (cnt p n) n (SS (cnt p n) 256) k = (n - CL p k n) * CS p k n - CL p k n * (CT p n - CS p k n) := by
  unfold dF; rw [SN_CL p (fun i => (hp i).1), SS_CS p (fun i => (hp i).1), SS_CS p (fun i => (hp i).1), CS_all p hp]
/-- The law's numbers are small. -/
theorem dq_bd (p : Nat → Int) (hp : ∀ i, 0 ≤ p i ∧ p i < 256) (n : Nat) (hn : n ≤ 300) (k : Nat) :
    -5737500 ≤ dQ (cnt p n) n (SS (cnt p n) 256) k ∧ dQ (cnt p n) n (SS (cnt p n) 256) k ≤ 5737500 ∧ 1 ≤ qQ (cnt p n) n k ∧ qQ (cnt p n) n k ≤ 22500 := by
  have h1 := CL_bd p k n
  have h2 := CS_bd p hp k n
  have h3 := prod_le (CL p k n) (n - CL p k n) n (by omega) hn
  have h4 : 0 ≤ CL p k n * (n - CL p k n) := Int.mul_nonneg h1.1 (by omega)
  have h5 : 0 ≤ (n - CL p k n) * CS p k n := Int.mul_nonneg (by omega) h2.1
  have h6 : 0 ≤ CL p k n * (CT p n - CS p k n) := Int.mul_nonneg h1.1 h2.2.2.1
  have h7 : (n - CL p k n) * CS p k n ≤ (n - CL p k n) * (255 * CL p k n) := Int.mul_le_mul_of_nonneg_left h2.2.1 (by omega)
  have h8 : CL p k n * (CT p n - CS p k n) ≤ CL p k n * (255 * ((n : Int) - CL p k n)) := Int.mul_le_mul_of_nonneg_left h2.2.2.2 h1.1
  have e7 : ((n : Int) - CL p k n) * (255 * CL p k n) = 255 * (CL p k n * (n - CL p k n)) := by grind
  have e8 : CL p k n * (255 * ((n : Int) - CL p k n)) = 255 * (CL p k n * (n - CL p k n)) := by grind
  have hp1 := qQ_pos (cnt p n) n k
  unfold dQ qQ at *
  rw [qF_CL p hp, dF_CL p hp]
  rw [qF_CL p hp] at hp1
  split <;> rename_i hc
  · rw [if_pos hc] at hp1; omega
  · omega
/-- The last product: three numbers. -/
theorem tri_bd (D Q : Int) (hD : -5737500 ≤ D ∧ D ≤ 5737500) (hQ : 1 ≤ Q ∧ Q ≤ 22500) : 0 ≤ D * D ∧ D * D ≤ 32918906250000 ∧ 0 ≤ D * D * Q ∧ D * D * Q ≤ 740675390625000000 := by
  have h1 := sq_nonneg D
  have h2 : D * D ≤ 32918906250000 := by
    have h3 : 0 ≤ (5737500 - D) * (5737500 + D) := Int.mul_nonneg (by omega) (by omega)
    have h4 : (5737500 - D) * (5737500 + D) = 32918906250000 - D * D := by grind
    omega
  exact ⟨h1, h2, Int.mul_nonneg h1 (by omega), Int.mul_le_mul h2 hQ.2 (by omega) (by omega)⟩
end Go.Proofs.Ytjhdjmlaidpjfaa.B
