/- Rows of any plain values in memory, read and written, told by functions of the index. No statement of the program is proved here. -/
import Derived.Test.YtjhdjmlaidpjfaaInt
set_option linter.unusedVariables false
namespace Go.Proofs.Ytjhdjmlaidpjfaa.B
open Go.RowKit
theorem bbox {w : World} (o : Obj) : Below w.heap.size w (w.alloc o) := (Below.refl _ _).alloc (Nat.le_refl _) o
/-- What lies at A on reads as f 0, .., f (n - 1). -/
def Ro (w : World) (A : Option Addr) (n : Nat) (f : Nat → Value) : Prop :=
  0 < n → ∃ b off, A = some ⟨b, off, none⟩ ∧ b < w.heap.size ∧ ∀ i, i < n → w.cell? ⟨b, off + i, none⟩ = some (f i)
theorem Ro.below {w w' : World} {A : Option Addr} {n : Nat} {f : Nat → Value} (h : Ro w A n f) (hb : Below w.heap.size w w') : Ro w' A n f := fun h0 => by
  obtain ⟨b, off, e, hs, hc⟩ := h h0
  exact ⟨b, off, e, Nat.lt_of_lt_of_le hs hb.size, fun i hi => (hb.cell (p := ⟨b, off + i, none⟩) hs).trans (hc i hi)⟩
theorem Ro.drew {w : World} {A : Option Addr} {n : Nat} {f : Nat → Value} (h : Ro w A n f) : Ro w.drew A n f := h.below (Below.refl _ _).drew
theorem Ro.alloc {w : World} {A : Option Addr} {n : Nat} {f : Nat → Value} (h : Ro w A n f) (o : Obj) : Ro (w.alloc o) A n f := h.below ((Below.refl _ _).alloc (Nat.le_refl _) _)
theorem Ro.nil (w : World) (A : Option Addr) (f : Nat → Value) : Ro w A 0 f := fun h => absurd h (by omega)
theorem Ro.congr {w : World} {A : Option Addr} {n : Nat} {f g : Nat → Value} (h : Ro w A n f) (e : ∀ i, i < n → f i = g i) : Ro w A n g := fun h0 => by
  obtain ⟨b, off, e1, hs, hc⟩ := h h0
  exact ⟨b, off, e1, hs, fun i hi => (hc i hi).trans (by rw [e i hi])⟩
/-- The cells of a row. -/
def Rof (n : Nat) (f : Nat → Value) : Array Value := Array.ofFn (n := n) (fun i => f i.1)
theorem Rof_size (n : Nat) (f : Nat → Value) : (Rof n f).size = n := by simp [Rof]
theorem Rof_get (n : Nat) (f : Nat → Value) (i : Nat) (h : i < n) : (Rof n f)[i]? = some (f i) := by simp [Rof, h]
theorem Rof_congr {n : Nat} {f g : Nat → Value} (e : ∀ i, i < n → f i = g i) : Rof n f = Rof n g := by
  unfold Rof; congr 1; funext i; exact e i.1 i.2
/-- A function turned at one place. -/
def upd {α : Type} (f : Nat → α) (i : Nat) (v : α) : Nat → α := fun j => if j = i then v else f j
theorem Rof_set (n : Nat) (f : Nat → Value) (i : Nat) (v : Value) : (Rof n f).setIfInBounds i v = Rof n (upd f i v) := by
  apply Array.ext_getElem?
  intro j
  rw [Array.getElem?_setIfInBounds]
  by_cases hj : j < n
  · rw [Rof_get _ _ _ hj]
    by_cases h : i = j
    · subst h; simp [Rof_size, hj, upd, Rof]
    · rw [if_neg h, Rof_get _ _ _ hj]; simp [upd, Ne.symm h]
  · by_cases h : i = j
    · subst h; simp [Rof_size, hj, Rof]
    · rw [if_neg h]; simp [Rof, hj]
/-- Block g is a row. -/
def Ow (w : World) (g n : Nat) (f : Nat → Value) (t : Nat) : Prop := w.heap[g]? = some (.cells (Rof n f) t (0, 0))
theorem Ow.lt {w : World} {g n t : Nat} {f : Nat → Value} (h : Ow w g n f t) : g < w.heap.size := (Array.getElem?_eq_some_iff.1 h).1
theorem Ow.cell {w : World} {g n t : Nat} {f : Nat → Value} (h : Ow w g n f t) (i : Nat) (hi : i < n) : w.cell? ⟨g, i, none⟩ = some (f i) := by
  unfold World.cell?; rw [h]; exact Rof_get n f i hi
theorem Ow.frozen {w : World} {g n t : Nat} {f : Nat → Value} (h : Ow w g n f t) (i : Nat) : w.frozen? ⟨g, i, none⟩ = false := by
  unfold World.frozen?; rw [h]; simp
theorem Ow.set {w : World} {g n t : Nat} {f : Nat → Value} (h : Ow w g n f t) (i : Nat) (v : Value) : Ow (w.setCell ⟨g, i, none⟩ v) g n (upd f i v) t := by
  unfold Ow World.setCell at *
  simp only [Array.getElem?_modify]
  rw [h]; simp [Rof_set]
theorem Ow.below {w w' : World} {g n t : Nat} {f : Nat → Value} (h : Ow w g n f t) (hb : Below w.heap.size w w') : Ow w' g n f t := (hb.block g h.lt).trans h
theorem Ow.alloc {w : World} {g n t : Nat} {f : Nat → Value} (h : Ow w g n f t) (o : Obj) : Ow (w.alloc o) g n f t := h.below ((Below.refl _ _).alloc (Nat.le_refl _) _)
theorem Ow.drew {w : World} {g n t : Nat} {f : Nat → Value} (h : Ow w g n f t) : Ow w.drew g n f t := h
theorem Ow.far {w : World} {g n t : Nat} {f : Nat → Value} (h : Ow w g n f t) {b : Nat} (hne : g ≠ b) (i : Nat) (v : Value) : Ow (w.setCell ⟨b, i, none⟩ v) g n f t := by
  unfold Ow at *
  rw [Below.heap_setCell _ _ _ _ hne]; exact h
theorem Ow.congr {w : World} {g n t : Nat} {f f2 : Nat → Value} (h : Ow w g n f t) (e : ∀ i, i < n → f i = f2 i) : Ow w g n f2 t := by
  unfold Ow at *; rw [h, Rof_congr e]
theorem Ow.ro {w : World} {g n t : Nat} {f : Nat → Value} (h : Ow w g n f t) : Ro w (some ⟨g, 0, none⟩) n f :=
  fun _ => ⟨g, 0, rfl, h.lt, fun i hi => by rw [Nat.zero_add]; exact h.cell i hi⟩
theorem Ow.new (w : World) (n : Nat) (f : Nat → Value) (t : Nat) : Ow (w.alloc (.cells (Rof n f) t)) w.heap.size n f t := by
  unfold Ow
  show (w.heap.push _)[_]? = _
  simp
theorem madeCells_one (v : Value) (n : Nat) : madeCells #[v] n = Rof n (fun _ => v) := by
  apply Array.ext
  · simp [madeCells, Rof]
  · intro i h1 h2
    simp [madeCells, Rof, Nat.mod_one]
theorem Ow.made (w : World) (v : Value) (n : Nat) (t : Nat) : Ow (w.alloc (.cells (madeCells #[v] n) t)) w.heap.size n (fun _ => v) t := by
  rw [madeCells_one]; exact Ow.new w n _ t
/-- Two rows as one law: a row that is read lies apart from one that is written. -/
theorem Ro.set {w w0 : World} {A : Option Addr} {n : Nat} {f : Nat → Value} (h : Ro w0 A n f) (hb : Below w0.heap.size w0 w) {g : Nat} (hg : w0.heap.size ≤ g) (i : Nat) (v : Value) : Ro (w.setCell ⟨g, i, none⟩ v) A n f := h.below (hb.setCell (p := ⟨g, i, none⟩) hg v)
theorem Blk.ro {w : World} {g t : Nat} {cs : List Value} (h : Blk w g cs t) (f : Nat → Value) (hf : ∀ i, i < cs.length → cs[i]? = some (f i)) : Ro w (some ⟨g, 0, none⟩) cs.length f :=
  fun _ => ⟨g, 0, rfl, h.lt, fun i hi => by rw [Nat.zero_add]; exact h.cell i _ (hf i hi)⟩
/-- Stores into other blocks than those of w0. -/
theorem OnlyAbove.store3 {w0 w : World} {g : Nat} (hb : Below w0.heap.size w0 w) (hg : w0.heap.size ≤ g) (u v x : Value) : Below w0.heap.size w0 (((w.setCell ⟨g, 0, none⟩ u).setCell ⟨g, 1, none⟩ v).setCell ⟨g, 2, none⟩ x) :=
  ((hb.setCell (p := ⟨g, 0, none⟩) hg u).setCell (p := ⟨g, 1, none⟩) hg v).setCell (p := ⟨g, 2, none⟩) hg x
theorem Blk.store3 {w : World} {g t : Nat} {u0 v0 x0 : Value} (hb : Blk w g [u0, v0, x0] t) (u v x : Value) : Blk (((w.setCell ⟨g, 0, none⟩ u).setCell ⟨g, 1, none⟩ v).setCell ⟨g, 2, none⟩ x) g [u, v, x] t := ((hb.set 0 u).set 1 v).set 2 x
/-- A row is not touched by a store into a block that holds none of its values. -/
theorem Ro.far_blk {w : World} {A : Option Addr} {n : Nat} {f : Nat → Value} (h : Ro w A n f) {g t : Nat} {cs : List Value} (hb : Blk w g cs t) (i : Nat) (u : Value) (hne : ∀ v ∈ cs, ∀ j, v ≠ f j) : Ro (w.setCell ⟨g, i, none⟩ u) A n f := fun h0 => by
  obtain ⟨b, off, e, hs, hc⟩ := h h0
  have hbg : b ≠ g := by
    rintro rfl
    have h1 := hc 0 h0
    unfold World.cell? at h1
    rw [hb] at h1
    have h2 : cs[off]? = some (f 0) := by simpa using h1
    exact hne _ (List.mem_of_getElem? h2) _ rfl
  refine ⟨b, off, e, by simpa [World.setCell] using hs, fun i2 hi2 => ?_⟩
  rw [World.cell?_of_block (w := w) (Below.heap_setCell w ⟨g, i, none⟩ u b hbg)]
  exact hc i2 hi2
theorem nobool3 (x y : Int) (A : Option Addr) (n c : Nat) (f : Nat → Bool) : ∀ v ∈ [Value.int .i64 x, .int .i64 y, .slice A n c], ∀ j, v ≠ .bool (f j) := fun v hv j e => by
  subst e; simp at hv
/-- A row of bools is not touched by a store into a bitmap's or an image's variable. -/
theorem Ro.store3b {w : World} {A : Option Addr} {n : Nat} {f : Nat → Bool} (h : Ro w A n (fun i => .bool (f i))) {g t : Nat} {x0 y0 : Int} {A0 : Option Addr} {n0 c0 : Nat} (hb : Blk w g [.int .i64 x0, .int .i64 y0, .slice A0 n0 c0] t) (x y : Int) (A1 : Option Addr) (n1 c1 : Nat) :
    Ro (((w.setCell ⟨g, 0, none⟩ (.int .i64 x)).setCell ⟨g, 1, none⟩ (.int .i64 y)).setCell ⟨g, 2, none⟩ (.slice A1 n1 c1)) A n (fun i => .bool (f i)) :=
  ((h.far_blk hb 0 _ (nobool3 _ _ _ _ _ _)).far_blk (hb.set 0 _) 1 _ (nobool3 _ _ _ _ _ _)).far_blk ((hb.set 0 _).set 1 _) 2 _ (nobool3 _ _ _ _ _ _)
end Go.Proofs.Ytjhdjmlaidpjfaa.B
