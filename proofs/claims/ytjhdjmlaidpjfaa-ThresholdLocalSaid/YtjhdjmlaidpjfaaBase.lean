/- Numbers in base 2^32 as lists of limbs, rows of limbs in memory, and what the contracts of this seat say of them. No statement of the program is proved here; no condition. -/
import Derived.Test.YtjhdjmlaidpjfaaProg
import Derived.WalkKit
import Derived.Lib.Hide
import Derived.Handy
import Derived.Deep.RegionWith
import Derived.Deep.LoopGhost
import Derived.Deep.QuietTactic
import Derived.BigQuiet
import Derived.Deep.DeepCutAuto
import Derived.Deep.CutBlock
import Derived.StillTailTactics
set_option linter.unusedVariables false
namespace Go.Proofs.Ytjhdjmlaidpjfaa.B
open Go.RowKit

/-- The base of the limbs. -/
def Bs : Int := 4294967296
theorem Bs_eq : Bs = 4294967296 := rfl
/-- The sum of the first n limbs, each times its power of the base. -/
def V (xs : List Int) : Nat → Int
  | 0 => 0
  | n + 1 => V xs n + xs.getD n 0 * Bs ^ n
/-- A list's value. -/
def val (xs : List Int) : Int := V xs xs.length
/-- Limbs. -/
def Dig (xs : List Int) : Prop := ∀ j, 0 ≤ xs.getD j 0 ∧ xs.getD j 0 < 4294967296
/-- No zero limb at the end. -/
def Trm (xs : List Int) : Prop := xs.length = 0 ∨ xs.getD (xs.length - 1) 0 ≠ 0
theorem Dig.nil : Dig [] := fun j => by simp
theorem getD_set (xs : List Int) (i j : Nat) (v : Int) : (xs.set i v).getD j 0 = if i = j ∧ i < xs.length then v else xs.getD j 0 := by grind
theorem Dig.set {xs : List Int} (h : Dig xs) (i : Nat) (v : Int) (h0 : 0 ≤ v) (h1 : v < 4294967296) : Dig (xs.set i v) := fun j => by
  rw [getD_set]; split
  · exact ⟨h0, h1⟩
  · exact h j
theorem V_set_le (xs : List Int) (j : Nat) (v : Int) : ∀ n, n ≤ j → V (xs.set j v) n = V xs n
  | 0, _ => rfl
  | n + 1, h => by
    rw [V, V, V_set_le xs j v n (by omega), getD_set, if_neg (by omega)]
theorem V_set_succ (xs : List Int) (j : Nat) (v : Int) (h : j < xs.length) : V (xs.set j v) (j + 1) = V xs j + v * Bs ^ j := by
  rw [V, V_set_le xs j v j (Nat.le_refl _), getD_set, if_pos ⟨rfl, h⟩]
theorem V_succ (xs : List Int) (n : Nat) : V xs (n + 1) = V xs n + xs.getD n 0 * Bs ^ n := rfl
theorem V_congr (xs ys : List Int) : ∀ n, (∀ j, j < n → xs.getD j 0 = ys.getD j 0) → V xs n = V ys n
  | 0, _ => rfl
  | n + 1, h => by rw [V, V, V_congr xs ys n (fun j hj => h j (by omega)), h n (by omega)]
theorem V_zeros (xs : List Int) (n : Nat) : ∀ m, n ≤ m → (∀ j, n ≤ j → j < m → xs.getD j 0 = 0) → V xs m = V xs n
  | 0, h, _ => by rw [show n = 0 by omega]
  | m + 1, h, hz => by
    rcases Nat.lt_or_ge m n with h1 | h1
    · rw [show n = m + 1 by omega]
    · rw [V, hz m h1 (by omega), V_zeros xs n m h1 (fun j h2 h3 => hz j h2 (by omega))]; simp
theorem getD_out (xs : List Int) (j : Nat) (h : xs.length ≤ j) : xs.getD j 0 = 0 := by grind
theorem val_of_le (xs : List Int) (n : Nat) (h : xs.length ≤ n) : V xs n = val xs := V_zeros xs xs.length n h (fun j h1 _ => getD_out xs j h1)
theorem Bs_pow_pos (n : Nat) : 0 < Bs ^ n := Int.pow_pos (by unfold Bs; omega)
theorem V_nonneg (xs : List Int) (h : Dig xs) : ∀ n, 0 ≤ V xs n
  | 0 => Int.le_refl _
  | n + 1 => by
    have h1 := V_nonneg xs h n
    have h2 := Int.mul_nonneg (h n).1 (Int.le_of_lt (Bs_pow_pos n))
    rw [V]; omega
theorem V_lt (xs : List Int) (h : Dig xs) : ∀ n, V xs n < Bs ^ n
  | 0 => by simp [V]
  | n + 1 => by
    have h1 := V_lt xs h n
    have h2 : xs.getD n 0 * Bs ^ n ≤ (Bs - 1) * Bs ^ n := Int.mul_le_mul_of_nonneg_right (by have := (h n).2; unfold Bs; omega) (Int.le_of_lt (Bs_pow_pos n))
    have h3 : (Bs - 1) * Bs ^ n = Bs ^ (n + 1) - Bs ^ n := by rw [Int.pow_succ]; grind
    rw [V]; omega
theorem val_nonneg {xs : List Int} (h : Dig xs) : 0 ≤ val xs := V_nonneg xs h _
theorem val_lt {xs : List Int} (h : Dig xs) : val xs < Bs ^ xs.length := V_lt xs h _

/-- The value of the limbs from i on. -/
def W (xs : List Int) : Nat → Nat → Int
  | _, 0 => 0
  | i, n + 1 => xs.getD i 0 + Bs * W xs (i + 1) n
theorem V_W (xs : List Int) : ∀ n i, V xs (i + n) = V xs i + Bs ^ i * W xs i n
  | 0, i => by simp [W]
  | n + 1, i => by
    rw [show i + (n + 1) = (i + 1) + n by omega, V_W xs n (i + 1), V_succ, W, Int.pow_succ]; grind
theorem W_congr (xs ys : List Int) : ∀ n i, (∀ j, i ≤ j → xs.getD j 0 = ys.getD j 0) → W xs i n = W ys i n
  | 0, _, _ => rfl
  | n + 1, i, h => by rw [W, W, W_congr xs ys n (i + 1) (fun j hj => h j (by omega)), h i (Nat.le_refl _)]

/-! ### Rows of limbs that are read -/
/-- What lies at A on reads as xs. -/
def Rd (w : World) (A : Option Addr) (xs : List Int) : Prop :=
  Dig xs ∧ (0 < xs.length → ∃ b off, A = some ⟨b, off, none⟩ ∧ b < w.heap.size ∧ ∀ i, i < xs.length → w.cell? ⟨b, off + i, none⟩ = some (.int .u32 (xs.getD i 0)))
theorem Rd.below {w w' : World} {A : Option Addr} {xs : List Int} (h : Rd w A xs) (hb : Below w.heap.size w w') : Rd w' A xs :=
  ⟨h.1, fun h0 => by
    obtain ⟨b, off, e, hs, hc⟩ := h.2 h0
    exact ⟨b, off, e, Nat.lt_of_lt_of_le hs hb.size, fun i hi => (hb.cell (p := ⟨b, off + i, none⟩) hs).trans (hc i hi)⟩⟩
theorem Rd.drew {w : World} {A : Option Addr} {xs : List Int} (h : Rd w A xs) : Rd w.drew A xs := h.below (Below.refl _ _).drew
theorem Rd.nil (w : World) (A : Option Addr) : Rd w A [] := ⟨Dig.nil, fun h => by simp at h⟩

/-! ### Rows of the call's own -/
/-- The cells of a row of limbs. -/
def U (xs : List Int) : Array Value := (xs.map (Value.int .u32)).toArray
theorem U_size (xs : List Int) : (U xs).size = xs.length := by simp [U]
theorem U_get (xs : List Int) (i : Nat) (h : i < xs.length) : (U xs)[i]? = some (.int .u32 (xs.getD i 0)) := by
  simp [U, h, List.getD_eq_getElem?_getD]
theorem U_set (xs : List Int) (i : Nat) (v : Int) : (U xs).setIfInBounds i (.int .u32 v) = U (xs.set i v) := by
  simp [U, List.map_set]
/-- Block g is a row of limbs. -/
def Row (w : World) (g : Nat) (xs : List Int) : Prop := w.heap[g]? = some (.cells (U xs) 137 (0, 0))
theorem Row.lt {w : World} {g : Nat} {xs : List Int} (h : Row w g xs) : g < w.heap.size := (Array.getElem?_eq_some_iff.1 h).1
theorem Row.cell {w : World} {g : Nat} {xs : List Int} (h : Row w g xs) (i : Nat) (hi : i < xs.length) : w.cell? ⟨g, i, none⟩ = some (.int .u32 (xs.getD i 0)) := by
  unfold World.cell?; rw [h]; exact U_get xs i hi
theorem Row.frozen {w : World} {g : Nat} {xs : List Int} (h : Row w g xs) (i : Nat) : w.frozen? ⟨g, i, none⟩ = false := by
  unfold World.frozen?; rw [h]; simp
theorem Row.set {w : World} {g : Nat} {xs : List Int} (h : Row w g xs) (i : Nat) (v : Int) : Row (w.setCell ⟨g, i, none⟩ (.int .u32 v)) g (xs.set i v) := by
  unfold Row World.setCell at *
  simp only [Array.getElem?_modify]
  rw [h]; simp [U_set]
theorem Row.below {w w' : World} {g : Nat} {xs : List Int} (h : Row w g xs) (hb : Below w.heap.size w w') : Row w' g xs := (hb.block g h.lt).trans h
theorem Row.drew {w : World} {g : Nat} {xs : List Int} (h : Row w g xs) : Row w.drew g xs := h
theorem Row.rd {w : World} {g : Nat} {xs : List Int} (h : Row w g xs) (hd : Dig xs) : Rd w (some ⟨g, 0, none⟩) xs :=
  ⟨hd, fun _ => ⟨g, 0, rfl, h.lt, fun i hi => by rw [Nat.zero_add]; exact h.cell i hi⟩⟩
theorem Row.made (w : World) (n : Nat) : Row (w.alloc (.cells (madeCells #[.int .u32 0] n) 137)) w.heap.size (List.replicate n 0) := by
  have : madeCells #[.int .u32 0] n = U (List.replicate n 0) := by
    apply Array.ext
    · simp [madeCells, U]
    · intro i h1 h2
      simp [madeCells, U, Nat.mod_one]
  unfold Row
  rw [this]
  show (w.heap.push _)[_]? = _
  simp
/-- A row that is written: what was there before stays. -/
theorem below_set {w0 w : World} {g : Nat} (hb : Below w0.heap.size w0 w) (hg : w0.heap.size ≤ g) (i : Nat) (u : Value) : Below w0.heap.size w0 (w.setCell ⟨g, i, none⟩ u) := hb.setCell hg u
theorem below_drewN {B : Nat} {w W : World} (h : Below B w W) (n : Nat) : Below B w (W.drewN n) := ⟨h.os, h.tape, h.output, h.size, h.block⟩
theorem Row.drewN {w : World} {g : Nat} {xs : List Int} (h : Row w g xs) (n : Nat) : Row (w.drewN n) g xs := h
theorem Rd.drewN {w : World} {A : Option Addr} {xs : List Int} (h : Rd w A xs) (n : Nat) : Rd (w.drewN n) A xs := h.below (below_drewN (Below.refl _ _) n)
end Go.Proofs.Ytjhdjmlaidpjfaa.B
