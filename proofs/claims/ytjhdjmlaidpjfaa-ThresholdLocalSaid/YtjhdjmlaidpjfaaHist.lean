/- threshold.Histogram and the reference's: the number of pixels of each value. -/
import Derived.Test.YtjhdjmlaidpjfaaSound
import Derived.Test.YtjhdjmlaidpjfaaOtsuP
import Derived.Deep.WholeRow
import Derived.Laws.CopyOwn
set_option linter.unusedVariables false
namespace Go.Proofs.Ytjhdjmlaidpjfaa.B
open Go.RowKit
def hrow (f : Nat → Int) : Nat → Value := fun v => .int .i64 (f v)
theorem info256 : (Try.prog.info? 27).map (·.size) = some 256 := by kernel_rfl
theorem zero256 : Try.zeroCells27 = Rof 256 (hrow (fun _ => 0)) := by kernel_rfl
theorem size256 (f : Nat → Value) : (Try.prog.info? 27).map (·.size) = some (Rof 256 f).size := by rw [Rof_size]; exact info256
theorem one256 (n : Nat) (f : Nat → Int) : (Rof n (hrow f)).all (·.oneCell') = true := by
  rw [Array.all_eq_true_iff_forall_mem]
  intro v hv
  unfold Rof at hv
  obtain ⟨i, h⟩ := Array.mem_ofFn.1 hv
  rw [← h]; rfl
theorem Ow.setRow {w : World} {g n t : Nat} {f : Nat → Value} (h : Ow w g n f t) (f2 : Nat → Value) : Ow (w.setRow g (Rof n f2)) g n f2 t := setRow_heap w g _ _ t (0, 0) h
theorem Ow.setRow_far {w : World} {g n t : Nat} {f : Nat → Value} (h : Ow w g n f t) {b : Nat} (hne : g ≠ b) (cs : Array Value) : Ow (w.setRow b cs) g n f t := (setRow_other w b g cs hne).trans h
theorem Ow.zero (w : World) : Ow (w.alloc (.cells Try.zeroCells27 27)) w.heap.size 256 (hrow (fun _ => 0)) 27 := by
  rw [zero256]; exact Ow.new w _ _ _
/-- A histogram and a number, returned. -/
theorem res_hist {fn : Func} {p u : Tmp} (h : fn.results = #[.cell p 27, .tmp u]) (tmps : Array Value) (w : World) (g : Nat) (f : Nat → Value) (hp : tmps.getD p undef = .pointer (some ⟨g, 0, none⟩)) (hg : Ow w g 256 f 27) :
    (results fn tmps).run Try.prog w = .ok (.tuple #[.agg (Rof 256 f), tmps.getD u undef]) w :=
  results_ct h tmps w g 27 _ (0, 0) _ hp hg Try.underlying27 rfl (size256 f)
set_option maxHeartbeats 1000000 in
set_option maxRecDepth 100000 in
theorem hist_any (x y : Int) (A : Option Addr) (n c : Nat) (p : Nat → Int) (w : World) (hA : Ro w A n (fun i => .int .u8 (p i))) (hp : ∀ i, 0 ≤ p i ∧ p i < 256) (hn : n ≤ c) :
    Calls Try.prog 15 #[.agg #[.int .i64 x, .int .i64 y, .slice A n c]] w fun e w' => e = .returned (.tuple #[.agg (Rof 256 (hrow (fun v => if sound x y n then cnt p n v else 0))), .int .i64 (errB (sound x y n))]) ∧ Below w.heap.size w w' := by
  have hu := Try.underlying24
  have HC := Lib.hid (fun w1 => checkImage_any x y A n c w1)
  cases hs : sound x y n with
  | false =>
    rw [hs] at HC
    have hb : (errB false != 0) = true := rfl
    go_enter Try.func15, Try.ntmps15
    go_wp2_with fail
    refine (HC.out _).mono ?_
    rintro e w1 ⟨rfl, h1⟩
    have K1 := Lib.hid (((Ow.zero (w.alloc (.cells #[.int .i64 x, .int .i64 y, .slice A n c] 24))).alloc (.cells Try.zeroCells27 27)).below h1)
    have K2 := Lib.hid ((Ow.zero ((w.alloc (.cells #[.int .i64 x, .int .i64 y, .slice A n c] 24)).alloc (.cells Try.zeroCells27 27))).below h1)
    have HB := Lib.hid (bthen (balloc (balloc (balloc (Below.refl w.heap.size w) _) _) _) h1)
    simp only [World.size_alloc] at K1 K2
    clear h1
    go_wp2_with (first
      | (refine wpList_load_row rfl 27 _ rfl (w.heap.size + 1 + 1) rfl _ _ _ _ K2.out Try.underlying27 rfl (size256 _) ?_)
      | (refine wpList_store_row rfl 27 _ _ rfl (w.heap.size + 1) _ rfl rfl _ _ K1.out (size256 _) (by simp only [Rof_size]) (one256 _ _) ?_))
    exact bodyPost_ret (res_hist rfl _ _ (w.heap.size + 1) _ rfl (K1.out.setRow _)) rfl ⟨rfl, below_setRow HB.out (by omega) _⟩
  | true =>
    rw [hs] at HC
    have hnb := (sound_bd hs).2.2.2.2.2.2
    have hb : (errB true != 0) = false := rfl
    have HP := Lib.hid hp
    have HA := Lib.hid hA
    clear hs hA hp
    go_enter Try.func15, Try.ntmps15
    go_wp2_with fail
    refine (HC.out _).mono ?_
    rintro e w1 ⟨rfl, h1⟩
    have K0 := Lib.hid ((((Blk.new w [.int .i64 x, .int .i64 y, .slice A n c] 24).alloc (.cells Try.zeroCells27 27)).alloc (.cells Try.zeroCells27 27)).below h1)
    have K1 := Lib.hid (((Ow.zero (w.alloc (.cells #[.int .i64 x, .int .i64 y, .slice A n c] 24))).alloc (.cells Try.zeroCells27 27)).below h1)
    have K2 := Lib.hid ((Ow.zero ((w.alloc (.cells #[.int .i64 x, .int .i64 y, .slice A n c] 24)).alloc (.cells Try.zeroCells27 27))).below h1)
    have HB := Lib.hid (bthen (balloc (balloc (balloc (Below.refl w.heap.size w) _) _) _) h1)
    simp only [World.size_alloc] at K1 K2
    have k0 := K0.out.three
    clear h1
    go_wp2_with fail
    go_loopw [17] (fun v17 wr => ∃ (i : Nat), i ≤ n ∧ v17 = .int .i64 i ∧ Ow wr (w.heap.size + 1) 256 (hrow (fun _ => 0)) 27 ∧ Ow wr (w.heap.size + 1 + 1) 256 (hrow (cnt p i)) 27 ∧ Below w.heap.size w wr) (fun v17 _ => n - (intOf v17).toNat)
    case atStart => exact ⟨0, by omega, rfl, K1.out, K2.out, HB.out⟩
    case round =>
      clear K0 K1 K2 HB k0
      obtain ⟨i, hi, rfl, h1, h2, h3⟩ := hrel
      have K1 := Lib.hid h1
      have K2 := Lib.hid h2
      have HB := Lib.hid h3
      clear h1 h2 h3
      by_cases hlt : i < n
      · obtain ⟨b, off, rfl, hs, hc⟩ := HA.out (by omega)
        have c1 := (HB.out.cell (p := ⟨b, off + i, none⟩) hs).trans (hc i hlt)
        dsimp only at c1
        obtain ⟨q, hq⟩ : ∃ q : Nat, p i = q := ⟨(p i).toNat, by have := HP.out i; omega⟩
        have hq2 : q < 256 := by have := HP.out i; omega
        rw [hq] at c1
        have c2 := K2.out.cell q hq2
        have f2 := K2.out.frozen q
        have hbd := cnt_bd p q i
        unfold hrow at c2
        obtain ⟨C, eC⟩ : ∃ C, cnt p i q = C := ⟨_, rfl⟩
        rw [eC] at c2 hbd
        have EC := Lib.hid eC
        have HQ := Lib.hid hq
        clear hc hq eC
        go_wp2_with fail
        exact ⟨⟨i + 1, by omega, by go_num, K1.out.far (by omega) _ _, (K2.out.set q _).congr (fun j hj => by
            unfold upd hrow
            by_cases h : j = q
            · subst h; simp [cnt, HQ.out, EC.out]
            · rw [if_neg h, cnt, HQ.out, if_neg (by omega)]; simp), HB.out.setCell (p := ⟨w.heap.size + 1 + 1, q, none⟩) (by simp; omega) _⟩, by simp [intOf]; omega⟩
      · obtain rfl : i = n := by omega
        go_wp2_with (first
          | (refine wpList_load_row rfl 27 _ rfl (w.heap.size + 1 + 1) rfl _ _ _ _ K2.out Try.underlying27 rfl (size256 _) ?_)
          | (refine wpList_store_row rfl 27 _ _ rfl (w.heap.size + 1) _ rfl rfl _ _ K1.out (size256 _) (by simp only [Rof_size]) (one256 _ _) ?_))
        exact bodyPost_ret (res_hist rfl _ _ (w.heap.size + 1) _ rfl (K1.out.setRow _)) rfl ⟨rfl, below_setRow HB.out (by omega) _⟩
end Go.Proofs.Ytjhdjmlaidpjfaa.B
