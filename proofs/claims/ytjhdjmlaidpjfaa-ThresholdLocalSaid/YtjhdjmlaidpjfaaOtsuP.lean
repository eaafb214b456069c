/- Otsu's threshold as a function of the histogram. No statement of the program is proved here. -/
import Derived.Test.YtjhdjmlaidpjfaaBase
set_option linter.unusedVariables false
namespace Go.Proofs.Ytjhdjmlaidpjfaa.B
open Go.RowKit
/-- How often v occurs among the first n. -/
def cnt (p : Nat → Int) : Nat → Nat → Int
  | 0, _ => 0
  | n + 1, v => cnt p n v + if p n = v then 1 else 0
theorem cnt_bd (p : Nat → Int) (v : Nat) : ∀ n, 0 ≤ cnt p n v ∧ cnt p n v ≤ n
  | 0 => by simp [cnt]
  | n + 1 => by
    have := cnt_bd p v n
    rw [cnt]; split <;> omega
/-- How many pixels have a value below k, and their sum. -/
def SN (h : Nat → Int) : Nat → Int
  | 0 => 0
  | k + 1 => SN h k + h k
def SS (h : Nat → Int) : Nat → Int
  | 0 => 0
  | k + 1 => SS h k + k * h k
/-- The product of the two classes' numbers. -/
def qF (h : Nat → Int) (n : Int) (k : Nat) : Int := SN h k * (n - SN h k)
def dF (h : Nat → Int) (n s : Int) (k : Nat) : Int := (n - SN h k) * SS h k - SN h k * (s - SS h k)
/-- The best of the thresholds 1, .., k; its difference, its product. -/
def ots (h : Nat → Int) (n s : Int) : Nat → Nat × Int × Int
  | 0 => (0, 0, 1)
  | k + 1 => if 0 < qF h n (k + 1) ∧ (ots h n s k).2.1 * (ots h n s k).2.1 * qF h n (k + 1) < dF h n s (k + 1) * dF h n s (k + 1) * (ots h n s k).2.2 then (k + 1, dF h n s (k + 1), qF h n (k + 1)) else ots h n s k
/-- Otsu's threshold of n pixels p. -/
def otsu (p : Nat → Int) (n : Nat) : Nat := (ots (cnt p n) n (SS (cnt p n) 256) 255).1
theorem SN_cnt_succ (p : Nat → Int) (n : Nat) (h0 : 0 ≤ p n) : ∀ k, SN (cnt p (n + 1)) k = SN (cnt p n) k + if p n < k then 1 else 0
  | 0 => by rw [SN, SN, if_neg (by omega)]; rfl
  | k + 1 => by
    rw [SN, SN, SN_cnt_succ p n h0 k, cnt]
    by_cases h : p n < k
    · rw [if_pos h, if_neg (by omega), if_pos (by omega)]; omega
    · by_cases h2 : p n = k
      · rw [if_neg h, if_pos h2, if_pos (by omega)]; omega
      · rw [if_neg h, if_neg h2, if_neg (by omega)]; omega
theorem SN_zero (k : Nat) (p : Nat → Int) : SN (cnt p 0) k = 0 := by
  induction k with
  | zero => rfl
  | succ k ih => rw [SN, ih, cnt]; rfl
theorem SN_le (p : Nat → Int) (hp : ∀ i, 0 ≤ p i) (k : Nat) : ∀ n, 0 ≤ SN (cnt p n) k ∧ SN (cnt p n) k ≤ n
  | 0 => by rw [SN_zero]; omega
  | n + 1 => by
    have := SN_le p hp k n
    rw [SN_cnt_succ p n (hp n)]
    split <;> omega
theorem SN_all (p : Nat → Int) (hp : ∀ i, 0 ≤ p i ∧ p i < 256) : ∀ n, SN (cnt p n) 256 = n
  | 0 => SN_zero _ _
  | n + 1 => by
    have h := hp n
    rw [SN_cnt_succ p n h.1, SN_all p hp n, if_pos (by omega)]; omega
theorem SS_bd (h : Nat → Int) (h0 : ∀ v, 0 ≤ h v) : ∀ k, k ≤ 256 → 0 ≤ SS h k ∧ SS h k ≤ 255 * SN h k
  | 0, _ => by simp [SS, SN]
  | k + 1, hk => by
    have h1 := SS_bd h h0 k (by omega)
    have h2 := h0 k
    have h3 : 0 ≤ (k : Int) * h k := Int.mul_nonneg (by omega) h2
    have h4 : (k : Int) * h k ≤ 255 * h k := Int.mul_le_mul_of_nonneg_right (by omega) h2
    rw [SS, SN]; omega
theorem SN_mono (h : Nat → Int) (h0 : ∀ v, 0 ≤ h v) (k : Nat) : ∀ m, SN h k ≤ SN h (k + m)
  | 0 => Int.le_refl _
  | m + 1 => by
    have := SN_mono h h0 k m
    have := h0 (k + m)
    rw [show k + (m + 1) = (k + m) + 1 by omega, SN]; omega
theorem SS_mono (h : Nat → Int) (h0 : ∀ v, 0 ≤ h v) (k : Nat) : ∀ m, SS h k ≤ SS h (k + m)
  | 0 => Int.le_refl _
  | m + 1 => by
    have := SS_mono h h0 k m
    have h3 : 0 ≤ ((k + m : Nat) : Int) * h (k + m) := Int.mul_nonneg (by omega) (h0 (k + m))
    rw [show k + (m + 1) = (k + m) + 1 by omega, SS]; omega
/-- The bounds of the sums at a threshold. -/
theorem sums_bd (p : Nat → Int) (hp : ∀ i, 0 ≤ p i ∧ p i < 256) (n : Nat) (hn : n ≤ 4194304) (k : Nat) (hk : k ≤ 256) :
    0 ≤ SN (cnt p n) k ∧ SN (cnt p n) k ≤ n ∧ 0 ≤ SS (cnt p n) k ∧ SS (cnt p n) k ≤ 1069547520 ∧ SS (cnt p n) k ≤ SS (cnt p n) 256 ∧ SS (cnt p n) 256 ≤ 1069547520 := by
  have h1 := SN_le p (fun i => (hp i).1) k n
  have h0 : ∀ v, 0 ≤ cnt p n v := fun v => (cnt_bd p v n).1
  have h2 := SS_bd (cnt p n) h0 k hk
  have h3 := SS_bd (cnt p n) h0 256 (Nat.le_refl _)
  have h4 := SS_mono (cnt p n) h0 k (256 - k)
  rw [show k + (256 - k) = 256 by omega] at h4
  have h5 := SN_all p hp n
  omega
theorem dF_bd (p : Nat → Int) (hp : ∀ i, 0 ≤ p i ∧ p i < 256) (n : Nat) (hn : n ≤ 4194304) (k : Nat) (hk : k ≤ 256) :
    (dF (cnt p n) n (SS (cnt p n) 256) k).natAbs < 18446744073709551616 ∧ 0 ≤ qF (cnt p n) n k ∧ qF (cnt p n) n k ≤ 17592186044416 := by
  obtain ⟨a, b, c, d, e, f⟩ := sums_bd p hp n hn k hk
  unfold dF qF
  have m1 : 0 ≤ (n - SN (cnt p n) k) * SS (cnt p n) k ∧ (n - SN (cnt p n) k) * SS (cnt p n) k ≤ 4194304 * 1069547520 := ⟨Int.mul_nonneg (by omega) c, Int.mul_le_mul (by omega) d c (by omega)⟩
  have m2 : 0 ≤ SN (cnt p n) k * (SS (cnt p n) 256 - SS (cnt p n) k) ∧ SN (cnt p n) k * (SS (cnt p n) 256 - SS (cnt p n) k) ≤ 4194304 * 1069547520 := ⟨Int.mul_nonneg a (by omega), Int.mul_le_mul (by omega) (by omega) (by omega) (by omega)⟩
  have m3 : 0 ≤ SN (cnt p n) k * (n - SN (cnt p n) k) ∧ SN (cnt p n) k * (n - SN (cnt p n) k) ≤ 4194304 * 4194304 := ⟨Int.mul_nonneg a (by omega), Int.mul_le_mul (by omega) (by omega) (by omega) (by omega)⟩
  omega
/-- The bounds of the best threshold. -/
theorem ots_bd (p : Nat → Int) (hp : ∀ i, 0 ≤ p i ∧ p i < 256) (n : Nat) (hn : n ≤ 4194304) : ∀ k, k ≤ 255 →
    (ots (cnt p n) n (SS (cnt p n) 256) k).1 ≤ k ∧ (ots (cnt p n) n (SS (cnt p n) 256) k).2.1.natAbs < 18446744073709551616 ∧ 0 < (ots (cnt p n) n (SS (cnt p n) 256) k).2.2 ∧ (ots (cnt p n) n (SS (cnt p n) 256) k).2.2 ≤ 17592186044416
  | 0, _ => by simp [ots]
  | k + 1, hk => by
    have h1 := ots_bd p hp n hn k (by omega)
    have h2 := dF_bd p hp n hn (k + 1) (by omega)
    rw [ots]
    split
    · rename_i h; exact ⟨Nat.le_refl _, h2.1, h.1, h2.2.2⟩
    · exact ⟨by omega, h1.2⟩
end Go.Proofs.Ytjhdjmlaidpjfaa.B
