/- Integers as signs and magnitudes: the one magnitude of each integer; what a call that returns an integer leaves behind. No statement of the program is proved here. -/
import Derived.Test.YtjhdjmlaidpjfaaCompare
set_option linter.unusedVariables false
namespace Go.Proofs.Ytjhdjmlaidpjfaa.B
open Go.RowKit
/-- The limbs of a natural number; f: at least their number. -/
def mgF : Nat → Nat → List Int
  | 0, _ => []
  | f + 1, n => if n = 0 then [] else ((n % 4294967296 : Nat) : Int) :: mgF f (n / 4294967296)
/-- The magnitude of an integer. -/
def mg (z : Int) : List Int := mgF z.natAbs z.natAbs
/-- The number of its limbs. -/
def sz (z : Int) : Nat := (mg z).length
/-- Its sign: is it negative? -/
def sg (z : Int) : Bool := decide (z < 0)
theorem V_cons (x : Int) (xs : List Int) : ∀ n, V (x :: xs) (n + 1) = x + Bs * V xs n
  | 0 => by simp [V]
  | n + 1 => by
    rw [V, V_cons x xs n, V, Int.pow_succ]
    simp only [List.getD_cons_succ]
    grind
theorem val_cons (x : Int) (xs : List Int) : val (x :: xs) = x + Bs * val xs := V_cons x xs _
theorem Dig.cons {x : Int} {xs : List Int} (h0 : 0 ≤ x) (h1 : x < 4294967296) (h : Dig xs) : Dig (x :: xs) := fun j => by
  cases j with
  | zero => simpa using ⟨h0, h1⟩
  | succ j => simpa using h j
theorem mgF_spec : ∀ f n, n ≤ f → Dig (mgF f n) ∧ val (mgF f n) = n ∧ Trm (mgF f n) ∧ (0 < n → 0 < (mgF f n).length)
  | 0, n, h => by
    obtain rfl : n = 0 := by omega
    exact ⟨Dig.nil, rfl, .inl rfl, fun h => by omega⟩
  | f + 1, n, h => by
    rw [mgF]
    by_cases h0 : n = 0
    · rw [if_pos h0, h0]; exact ⟨Dig.nil, rfl, .inl rfl, fun h => by omega⟩
    · rw [if_neg h0]
      obtain ⟨a, b, c, d⟩ := mgF_spec f (n / 4294967296) (by omega)
      refine ⟨Dig.cons (by omega) (by omega) a, ?_, ?_, fun _ => by simp⟩
      · rw [val_cons, b]; unfold Bs; omega
      · right
        simp only [List.length_cons, Nat.add_sub_cancel]
        cases hl : (mgF f (n / 4294967296)).length with
        | zero =>
          simp
          by_cases h1 : 0 < n / 4294967296
          · have := d h1; omega
          · omega
        | succ m =>
          rcases c with c | c
          · omega
          · rw [hl] at c; simpa using c
theorem mg_dig (z : Int) : Dig (mg z) := (mgF_spec _ _ (Nat.le_refl _)).1
theorem mg_val (z : Int) : val (mg z) = z.natAbs := (mgF_spec _ _ (Nat.le_refl _)).2.1
theorem mg_trm (z : Int) : Trm (mg z) := (mgF_spec _ _ (Nat.le_refl _)).2.2.1
theorem getD_ext : ∀ {xs ys : List Int}, xs.length = ys.length → (∀ j, j < xs.length → xs.getD j 0 = ys.getD j 0) → xs = ys
  | [], [], _, _ => rfl
  | x :: xs, y :: ys, h, e => by
    have h0 := e 0 (by simp)
    simp at h0
    rw [h0, getD_ext (xs := xs) (ys := ys) (by simpa using h) (fun j hj => by have := e (j + 1) (by simpa using hj); simpa using this)]
/-- There is one trimmed magnitude for each number. -/
theorem trm_unique {xs ys : List Int} (hx : Dig xs) (hy : Dig ys) (tx : Trm xs) (ty : Trm ys) (h : val xs = val ys) : xs = ys := by
  have hl : xs.length = ys.length := by
    by_cases h1 : xs.length < ys.length
    · have := val_lt_of_len hx hy ty h1; omega
    · by_cases h2 : ys.length < xs.length
      · have := val_lt_of_len hy hx tx h2; omega
      · omega
  have key : ∀ k n, k + n = xs.length → CInv xs ys xs.length n := fun k => by
    induction k with
    | zero => intro n hn; exact ⟨fun j hj => by rw [getD_out xs j (by omega), getD_out ys j (by omega)]⟩
    | succ k ih =>
      intro n hn
      have c := ih (n + 1) (by omega)
      refine ⟨fun j hj => ?_⟩
      by_cases hj2 : j = n
      · subst hj2
        refine Classical.byContradiction fun hne => ?_
        by_cases hlt : xs.getD j 0 < ys.getD j 0
        · have := c.less hx hy rfl hl.symm (by omega) hlt; omega
        · have := c.swap.less hy hx hl.symm rfl (by omega) (by omega); omega
      · exact c.eq j (by omega)
  exact getD_ext hl (fun j _ => (key xs.length 0 (by omega)).eq j (Nat.zero_le _))
theorem mg_unique {xs : List Int} {z : Int} (hx : Dig xs) (tx : Trm xs) (h : val xs = z.natAbs) : xs = mg z := trm_unique hx (mg_dig z) tx (mg_trm z) (h.trans (mg_val z).symm)
theorem mg_zero : mg 0 = [] := rfl
theorem sz_zero : sz 0 = 0 := rfl
theorem sg_zero : sg 0 = false := rfl
theorem sz_pos {z : Int} (h : z ≠ 0) : 0 < sz z := (mgF_spec _ _ (Nat.le_refl _)).2.2.2 (by omega)
theorem sz_eq_zero {z : Int} : sz z = 0 ↔ z = 0 := ⟨fun h => Classical.byContradiction fun h0 => by have := sz_pos h0; omega, fun h => by rw [h]; rfl⟩
/-- A bound on the limbs. -/
def Bd (k : Nat) (z : Int) : Prop := (z.natAbs : Int) < Bs ^ k
theorem Bs_pow_mono {a b : Nat} (h : a ≤ b) : Bs ^ a ≤ Bs ^ b := by
  obtain ⟨r, rfl⟩ : ∃ r, b = a + r := ⟨b - a, by omega⟩
  rw [show Bs ^ (a + r) = Bs ^ a * Bs ^ r from Int.pow_add ..]
  have := Bs_pow_pos r
  have := Int.mul_le_mul_of_nonneg_left (show 1 ≤ Bs ^ r by omega) (Int.le_of_lt (Bs_pow_pos a))
  omega
theorem Bd.mono {a b : Nat} {z : Int} (h : Bd a z) (hab : a ≤ b) : Bd b z := Int.lt_of_lt_of_le h (Bs_pow_mono hab)
theorem Bd.sz {k : Nat} {z : Int} (h : Bd k z) : sz z ≤ k := by
  refine Nat.le_of_not_lt fun h1 => ?_
  obtain ⟨n, hn⟩ : ∃ n, (mg z).length = n + 1 := ⟨(mg z).length - 1, by unfold B.sz at h1; omega⟩
  have h2 := trm_ge (mg_dig z) (mg_trm z) n hn
  rw [mg_val] at h2
  have h3 := Bs_pow_mono (show k ≤ n by unfold B.sz at h1; omega)
  unfold Bd at h; omega
theorem Bd.of_sz {k : Nat} {z : Int} (h : B.sz z ≤ k) : Bd k z := by
  have h1 := val_lt (mg_dig z)
  rw [mg_val] at h1
  exact Int.lt_of_lt_of_le h1 (Bs_pow_mono h)
theorem Bd.zero (k : Nat) : Bd k 0 := by have := Bs_pow_pos k; unfold Bd; simpa using this
theorem Bd.neg {k : Nat} {z : Int} (h : Bd k z) : Bd k (-z) := by unfold Bd at *; rwa [Int.natAbs_neg]
theorem Bd.natAbs {k : Nat} {z : Int} (h : Bd k z) : Bd k (z.natAbs : Int) := by unfold Bd at *; simpa using h
theorem Bd.mul {a b : Nat} {x y : Int} (hx : Bd a x) (hy : Bd b y) : Bd (a + b) (x * y) := by
  unfold Bd at *
  rw [Int.natAbs_mul, show Bs ^ (a + b) = Bs ^ a * Bs ^ b from Int.pow_add .., Int.natCast_mul]
  have h1 : (x.natAbs : Int) * y.natAbs ≤ x.natAbs * Bs ^ b := Int.mul_le_mul_of_nonneg_left (by omega) (by omega)
  have h2 : (x.natAbs : Int) * Bs ^ b < Bs ^ a * Bs ^ b := Int.mul_lt_mul_of_pos_right hx (Bs_pow_pos b)
  omega
theorem Bd.add {a : Nat} {x y : Int} (hx : Bd a x) (hy : Bd a y) : Bd (a + 1) (x + y) := by
  unfold Bd at *
  rw [Int.pow_succ]
  have := Bs_pow_pos a
  have h : (x + y).natAbs ≤ x.natAbs + y.natAbs := Int.natAbs_add_le x y
  unfold Bs at *
  generalize (4294967296 : Int) ^ a = P at *
  omega
theorem Bd.sub {a : Nat} {x y : Int} (hx : Bd a x) (hy : Bd a y) : Bd (a + 1) (x - y) := by rw [Int.sub_eq_add_neg]; exact hx.add hy.neg
theorem mag_len {l : List Int} {z : Int} (hd : Dig l) (ht : Trm l) (h : val l = z.natAbs) : l.length = sz z := by unfold sz; rw [← mg_unique hd ht h]
/-- A magnitude in memory: that of z, whose slice has the capacity c. -/
def At (w : World) (A : Option Addr) (c : Nat) (z : Int) : Prop := Rd w A (mg z) ∧ sz z ≤ c
theorem At.below {w w' : World} {A : Option Addr} {c : Nat} {z : Int} (h : At w A c z) (hb : Below w.heap.size w w') : At w' A c z := ⟨h.1.below hb, h.2⟩
theorem At.drew {w : World} {A : Option Addr} {c : Nat} {z : Int} (h : At w A c z) : At w.drew A c z := h.below (Below.refl _ _).drew
theorem At.alloc {w : World} {A : Option Addr} {c : Nat} {z : Int} (h : At w A c z) (o : Obj) : At (w.alloc o) A c z := h.below ((Below.refl _ _).alloc (Nat.le_refl _) _)
theorem At.nil (w : World) (A : Option Addr) (c : Nat) : At w A c 0 := ⟨Rd.nil w A, Nat.zero_le _⟩
/-- A call's end: an integer. -/
def IntPost (z : Int) (w : World) (e : Ending) (w' : World) : Prop := ∃ A c, e = .returned (.agg #[.bool (sg z), .slice A (sz z) c]) ∧ At w' A c z ∧ Below w.heap.size w w'
/-- A call's end: an integer, and no error. -/
def IntOkPost (z : Int) (w : World) (e : Ending) (w' : World) : Prop := ∃ A c, e = .returned (.tuple #[.agg #[.bool (sg z), .slice A (sz z) c], .int .i64 0]) ∧ At w' A c z ∧ Below w.heap.size w w'
/-! ### Blocks of the call's own -/
/-- Block b holds these cells. -/
def Blk (w : World) (b : Nat) (cs : List Value) (t : Nat) : Prop := w.heap[b]? = some (.cells cs.toArray t (0, 0))
theorem Blk.lt {w : World} {b t : Nat} {cs : List Value} (h : Blk w b cs t) : b < w.heap.size := (Array.getElem?_eq_some_iff.1 h).1
theorem Blk.cell {w : World} {b t : Nat} {cs : List Value} (h : Blk w b cs t) (i : Nat) (v : Value) (hi : cs[i]? = some v) : w.cell? ⟨b, i, none⟩ = some v := by
  unfold World.cell?; rw [h]; simpa using hi
theorem Blk.frozen {w : World} {b t : Nat} {cs : List Value} (h : Blk w b cs t) (i : Nat) : w.frozen? ⟨b, i, none⟩ = false := by
  unfold World.frozen?; rw [h]; simp
theorem Blk.below {w w' : World} {b t : Nat} {cs : List Value} (h : Blk w b cs t) (hb : Below w.heap.size w w') : Blk w' b cs t := (hb.block b h.lt).trans h
theorem Blk.drew {w : World} {b t : Nat} {cs : List Value} (h : Blk w b cs t) : Blk w.drew b cs t := h
theorem Blk.new (w : World) (cs : List Value) (t : Nat) : Blk (w.alloc (.cells cs.toArray t (0, 0))) w.heap.size cs t := by
  unfold Blk
  show (w.heap.push _)[_]? = _
  simp
theorem Blk.alloc {w : World} {b t : Nat} {cs : List Value} (h : Blk w b cs t) (o : Obj) : Blk (w.alloc o) b cs t := h.below ((Below.refl _ _).alloc (Nat.le_refl _) _)
theorem Blk.set {w : World} {b t : Nat} {cs : List Value} (h : Blk w b cs t) (i : Nat) (v : Value) : Blk (w.setCell ⟨b, i, none⟩ v) b (cs.set i v) t := by
  unfold Blk World.setCell at *
  simp only [Array.getElem?_modify]
  rw [h]; simp
theorem Blk.far {w : World} {b t : Nat} {cs : List Value} (h : Blk w b cs t) {g : Nat} (hne : b ≠ g) (i : Nat) (v : Value) : Blk (w.setCell ⟨g, i, none⟩ v) b cs t := by
  unfold Blk at *
  rw [Below.heap_setCell _ _ _ _ hne]; exact h
/-- Limbs are not touched by a store into a block of another kind. -/
theorem Rd.far_blk {w : World} {A : Option Addr} {xs : List Int} (h : Rd w A xs) {g t : Nat} {cs : List Value} (hb : Blk w g cs t) (i : Nat) (u : Value) (hne : ∀ v ∈ cs, ∀ k n, v ≠ .int k n) : Rd (w.setCell ⟨g, i, none⟩ u) A xs :=
  ⟨h.1, fun h0 => by
    obtain ⟨b, off, e, hs, hc⟩ := h.2 h0
    have hbg : b ≠ g := by
      rintro rfl
      have h1 := hc 0 h0
      unfold World.cell? at h1
      rw [hb] at h1
      have h2 : cs[off]? = some (.int .u32 (xs.getD 0 0)) := by simpa using h1
      exact hne _ (List.mem_of_getElem? h2) _ _ rfl
    refine ⟨b, off, e, by simpa [World.setCell] using hs, fun i2 hi2 => ?_⟩
    rw [World.cell?_of_block (w := w) (Below.heap_setCell w ⟨g, i, none⟩ u b hbg)]
    exact hc i2 hi2⟩
theorem nonint2 (b : Bool) (A : Option Addr) (n c : Nat) : ∀ v ∈ [Value.bool b, .slice A n c], ∀ k m, v ≠ .int k m := fun v hv k m e => by
  subst e; simp at hv
/-- A store of an integer into a variable of the call's own. -/
theorem At.store2 {w : World} {A : Option Addr} {c : Nat} {z : Int} (h : At w A c z) {g t : Nat} {b0 : Bool} {A0 : Option Addr} {n0 c0 : Nat} (hb : Blk w g [.bool b0, .slice A0 n0 c0] t) (b1 : Bool) (A1 : Option Addr) (n1 c1 : Nat) :
    At ((w.setCell ⟨g, 0, none⟩ (.bool b1)).setCell ⟨g, 1, none⟩ (.slice A1 n1 c1)) A c z :=
  ⟨(h.1.far_blk hb 0 _ (nonint2 _ _ _ _)).far_blk (hb.set 0 (.bool b1)) 1 _ (nonint2 _ _ _ _), h.2⟩
theorem Blk.store2 {w : World} {g t : Nat} {b0 : Bool} {A0 : Option Addr} {n0 c0 : Nat} (hb : Blk w g [.bool b0, .slice A0 n0 c0] t) (b1 : Bool) (A1 : Option Addr) (n1 c1 : Nat) :
    Blk ((w.setCell ⟨g, 0, none⟩ (.bool b1)).setCell ⟨g, 1, none⟩ (.slice A1 n1 c1)) g [.bool b1, .slice A1 n1 c1] t := (hb.set 0 (.bool b1)).set 1 (.slice A1 n1 c1)
theorem results_ct {P : Program} {fn : Func} {p u : Tmp} {ty : TypeId} (h : fn.results = #[.cell p ty, .tmp u]) (tmps : Array Value) (w : World) (g : Nat) (t : TypeId) (cs : Array Value) (fr : Nat × Nat) (d : TypeDesc)
    (hp : tmps.getD p undef = .pointer (some ⟨g, 0, none⟩)) (hg : w.heap[g]? = some (.cells cs t fr))
    (hu : P.underlying ty = some d) (hd : (match d with | .struct _ | .array _ _ => true | _ => false) = true) (hi : (P.info? ty).map (·.size) = some cs.size) :
    (results fn tmps).run P w = .ok (.tuple #[.agg cs, tmps.getD u undef]) w := by
  have hp' : tmps[p]?.getD undef = .pointer (some ⟨g, 0, none⟩) := by simpa using hp
  simp [results, h, hp', asAddr, run_loadVar_row w g t ty cs fr d hg hu hd hi]
/-- A return of an integer that lies in block g. -/
theorem res_int {fn : Func} {p : Tmp} (h : fn.results = #[.cell p 52]) (tmps : Array Value) (w : World) (g : Nat) (b : Bool) (A : Option Addr) (n c : Nat) (hp : tmps.getD p undef = .pointer (some ⟨g, 0, none⟩)) (hg : Blk w g [.bool b, .slice A n c] 52) :
    (results fn tmps).run Try.prog w = .ok (.agg #[.bool b, .slice A n c]) w :=
  results_cell_row h tmps w g 52 _ (0, 0) _ hp hg Try.underlying52 rfl (by kernel_rfl)
theorem res_int2 {fn : Func} {p u : Tmp} (h : fn.results = #[.cell p 52, .tmp u]) (tmps : Array Value) (w : World) (g : Nat) (b : Bool) (A : Option Addr) (n c : Nat) (hp : tmps.getD p undef = .pointer (some ⟨g, 0, none⟩)) (hg : Blk w g [.bool b, .slice A n c] 52) :
    (results fn tmps).run Try.prog w = .ok (.tuple #[.agg #[.bool b, .slice A n c], tmps.getD u undef]) w :=
  results_ct h tmps w g 52 _ (0, 0) _ hp hg Try.underlying52 rfl (by kernel_rfl)
theorem Blk.new1 (w : World) (o : Obj) (cs : List Value) (t : Nat) : Blk ((w.alloc o).alloc (.cells cs.toArray t (0, 0))) (w.heap.size + 1) cs t := by
  have := Blk.new (w.alloc o) cs t
  rwa [World.size_alloc] at this
theorem Blk.new2 (w : World) (o o2 : Obj) (cs : List Value) (t : Nat) : Blk (((w.alloc o).alloc o2).alloc (.cells cs.toArray t (0, 0))) (w.heap.size + 1 + 1) cs t := by
  have := Blk.new1 (w.alloc o) o2 cs t
  rwa [World.size_alloc] at this
theorem Blk.new3 (w : World) (o o2 o3 : Obj) (cs : List Value) (t : Nat) : Blk ((((w.alloc o).alloc o2).alloc o3).alloc (.cells cs.toArray t (0, 0))) (w.heap.size + 1 + 1 + 1) cs t := by
  have := Blk.new2 (w.alloc o) o2 o3 cs t
  rwa [World.size_alloc] at this
theorem Blk.two {w : World} {g t : Nat} {u v : Value} (h : Blk w g [u, v] t) : w.cell? ⟨g, 0, none⟩ = some u ∧ w.cell? ⟨g, 1, none⟩ = some v ∧ w.frozen? ⟨g, 0, none⟩ = false ∧ w.frozen? ⟨g, 1, none⟩ = false ∧ g < w.heap.size :=
  ⟨h.cell 0 _ rfl, h.cell 1 _ rfl, h.frozen 0, h.frozen 1, h.lt⟩
theorem balloc {w W : World} (h : Below w.heap.size w W) (o : Obj) : Below w.heap.size w (W.alloc o) := h.alloc h.size o
theorem bthen {w w1 w2 : World} (h : Below w.heap.size w w1) (k : Below w1.heap.size w1 w2) : Below w.heap.size w w2 := h.trans (k.mono h.size)
theorem below_store2 {w0 w : World} {g : Nat} (hb : Below w0.heap.size w0 w) (hg : w0.heap.size ≤ g) (u v : Value) : Below w0.heap.size w0 ((w.setCell ⟨g, 0, none⟩ u).setCell ⟨g, 1, none⟩ v) :=
  (hb.setCell (p := ⟨g, 0, none⟩) hg u).setCell (p := ⟨g, 1, none⟩) hg v
end Go.Proofs.Ytjhdjmlaidpjfaa.B
