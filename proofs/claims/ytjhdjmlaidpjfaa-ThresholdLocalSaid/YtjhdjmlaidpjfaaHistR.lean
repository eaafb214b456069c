/- The reference's Histogram. -/
import Derived.Test.YtjhdjmlaidpjfaaHist
import Derived.BigRegion
set_option linter.unusedVariables false
namespace Go.Proofs.Ytjhdjmlaidpjfaa.B
open Go.RowKit
set_option maxHeartbeats 1000000 in
set_option maxRecDepth 100000 in
theorem histR_any (x y : Int) (A : Option Addr) (n c : Nat) (p : Nat → Int) (w : World) (hA : Ro w A n (fun i => .int .u8 (p i))) (hp : ∀ i, 0 ≤ p i ∧ p i < 256) (hn : n ≤ c) :
    Calls Try.prog 16 #[.agg #[.int .i64 x, .int .i64 y, .slice A n c]] w fun e w' => e = .returned (.tuple #[.agg (Rof 256 (hrow (fun v => if sound x y n then cnt p n v else 0))), .int .i64 (errB (sound x y n))]) ∧ Below w.heap.size w w' := by
  have hu := Try.underlying24
  have HC := Lib.hid (fun w1 => sound36_any x y A n c w1)
  have K1 := Lib.hid ((Ow.zero (w.alloc (.cells #[.int .i64 x, .int .i64 y, .slice A n c] 24))).alloc (.cells Try.zeroCells27 27))
  have K2 := Lib.hid ((Ow.zero ((w.alloc (.cells #[.int .i64 x, .int .i64 y, .slice A n c] 24)).alloc (.cells Try.zeroCells27 27))))
  have HB := Lib.hid ((balloc (balloc (balloc (Below.refl w.heap.size w) (.cells #[.int .i64 x, .int .i64 y, .slice A n c] 24)) (.cells Try.zeroCells27 27)) (.cells Try.zeroCells27 27)))
  simp only [World.size_alloc] at K1 K2
  have H27 : Hid ((Try.prog.info? 27).map (·.size) = some Try.zeroCells27.size) := Lib.hid (by rw [zero256]; exact size256 _)
  have H27o : Hid (Try.zeroCells27.all (·.oneCell') = true) := Lib.hid (by rw [zero256]; exact one256 _ _)
  have H27s : Hid ((Rof 256 (hrow (fun _ => 0))).size = Try.zeroCells27.size) := Lib.hid (by rw [zero256])
  have K0 := Lib.hid (((Blk.new w [.int .i64 x, .int .i64 y, .slice A n c] 24).alloc (.cells Try.zeroCells27 27)).alloc (.cells Try.zeroCells27 27))
  have K2s := Lib.hid (K2.out.setRow (hrow (fun _ => 0)))
  have K1s := Lib.hid (K1.out.setRow_far (b := w.heap.size + 1 + 1) (by omega) Try.zeroCells27)
  have HBs := Lib.hid (below_setRow HB.out (g := w.heap.size + 1 + 1) (by omega) Try.zeroCells27)
  rw [← zero256] at K2s
  have K0s := Lib.hid (show Blk _ w.heap.size [.int .i64 x, .int .i64 y, .slice A n c] 24 from (setRow_other _ (w.heap.size + 1 + 1) _ Try.zeroCells27 (by omega)).trans K0.out)
  have k0s := K0s.out.three
  cases hs : sound x y n with
  | false =>
    rw [hs] at HC
    have hb : (!false) = true := rfl
    go_enter Try.func16, Try.ntmps16
    go_wp2_with (first
      | (refine wpList_store_row rfl 27 _ _ rfl (w.heap.size + 1 + 1) Try.zeroCells27 rfl rfl _ _ K2.out H27.out H27s.out H27o.out ?_))
    refine (HC.out _).mono ?_
    rintro e w1 ⟨rfl, h1⟩
    have L1 := Lib.hid (K1s.out.below h1)
    have L2 := Lib.hid (K2s.out.below h1)
    have LB := Lib.hid (bthen HBs.out h1)
    clear h1
    go_wp2_with (first
      | (refine wpList_load_row rfl 27 _ rfl (w.heap.size + 1 + 1) rfl _ _ _ _ L2.out Try.underlying27 rfl (size256 _) ?_)
      | (refine wpList_store_row rfl 27 _ _ rfl (w.heap.size + 1) (Rof 256 (hrow fun _ => 0)) rfl rfl _ _ L1.out (size256 _) (by simp only [Rof_size]) (one256 _ _) ?_))
    exact bodyPost_ret (res_hist rfl _ _ (w.heap.size + 1) _ rfl (L1.out.setRow _)) rfl ⟨rfl, below_setRow LB.out (by omega) _⟩
  | true =>
    rw [hs] at HC
    have hnb := (sound_bd hs).2.2.2.2.2.2
    have HP := Lib.hid hp
    have HA := Lib.hid hA
    clear hs hA hp
    have hb : (!true) = false := rfl
    go_enter Try.func16, Try.ntmps16
    go_wp2_with (first
      | (refine wpList_store_row rfl 27 _ _ rfl (w.heap.size + 1 + 1) Try.zeroCells27 rfl rfl _ _ K2.out H27.out H27s.out H27o.out ?_))
    refine (HC.out _).mono ?_
    rintro e w1 ⟨rfl, h1⟩
    have L1 := Lib.hid (K1s.out.below h1)
    have L2 := Lib.hid (K2s.out.below h1)
    have LB := Lib.hid (bthen HBs.out h1)
    have L0 := Lib.hid (K0s.out.below h1)
    clear h1
    have k0 := L0.out.three
    go_wp2_with fail
    go_loopw [5] (fun v5 wr => ∃ (i : Nat), i ≤ n ∧ v5 = .int .i64 i ∧ Blk wr w.heap.size [.int .i64 x, .int .i64 y, .slice A n c] 24 ∧ Ow wr (w.heap.size + 1) 256 (hrow (fun _ => 0)) 27 ∧ Ow wr (w.heap.size + 1 + 1) 256 (hrow (cnt p i)) 27 ∧ Below w.heap.size w wr) (fun v5 _ => n - (intOf v5).toNat)
    case atStart => exact ⟨0, by omega, rfl, L0.out, L1.out, L2.out, LB.out⟩
    case round =>
      clear L0 L1 L2 LB K0 K1 K2 HB K2s K1s HBs K0s k0s k0
      obtain ⟨i, hi, rfl, h0, h1, h2, h3⟩ := hrel
      have K0 := Lib.hid h0
      have K1 := Lib.hid h1
      have K2 := Lib.hid h2
      have HB := Lib.hid h3
      have k0 := h0.three
      clear h0 h1 h2 h3
      by_cases hlt : i < n
      · obtain ⟨b, off, rfl, hs, hc⟩ := HA.out (by omega)
        have c1 := (HB.out.cell (p := ⟨b, off + i, none⟩) hs).trans (hc i hlt)
        dsimp only at c1
        obtain ⟨q, hq⟩ : ∃ q : Nat, p i = q := ⟨(p i).toNat, by have := HP.out i; omega⟩
        have hq2 : q < 256 := by have := HP.out i; omega
        rw [hq] at c1
        have c2 := K2.out.cell q hq2
        have f2 := K2.out.frozen q
        have hbd := cnt_bd p q i
        unfold hrow at c2
        obtain ⟨C, eC⟩ : ∃ C, cnt p i q = C := ⟨_, rfl⟩
        rw [eC] at c2 hbd
        have EC := Lib.hid eC
        have HQ := Lib.hid hq
        have hq3 : (q : Int) < 256 := by omega
        clear hc hq eC
        go_wp2_with fail
        go_region
        go_wp2_with fail
        exact ⟨⟨i + 1, by omega, by go_num, K0.out.drew.far (by omega) _ _, K1.out.drew.far (by omega) _ _, (K2.out.drew.set q _).congr (fun j hj => by
            unfold upd hrow
            by_cases h : j = q
            · subst h; simp [cnt, HQ.out, EC.out]
            · rw [if_neg h, cnt, HQ.out, if_neg (by omega)]; simp), HB.out.drew.setCell (p := ⟨w.heap.size + 1 + 1, q, none⟩) (by simp; omega) _⟩, by simp [intOf]; omega⟩
      · obtain rfl : i = n := by omega
        go_wp2_with (first
          | (refine wpList_load_row rfl 27 _ rfl (w.heap.size + 1 + 1) rfl _ _ _ _ K2.out Try.underlying27 rfl (size256 _) ?_)
          | (refine wpList_store_row rfl 27 _ _ rfl (w.heap.size + 1) (Rof 256 (hrow (cnt p i))) rfl rfl _ _ K1.out (size256 _) (by simp only [Rof_size]) (one256 _ _) ?_))
        exact bodyPost_ret (res_hist rfl _ _ (w.heap.size + 1) _ rfl (K1.out.setRow _)) rfl ⟨rfl, below_setRow HB.out (by omega) _⟩
end Go.Proofs.Ytjhdjmlaidpjfaa.B
