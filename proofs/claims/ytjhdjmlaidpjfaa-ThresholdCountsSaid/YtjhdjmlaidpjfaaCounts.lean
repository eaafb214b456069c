/- barscanlaw36.ThresholdCounts returns true for every image: the walk. -/
import Derived.Test.YtjhdjmlaidpjfaaAlive
import Derived.Test.YtjhdjmlaidpjfaaROtsu
import Derived.Test.YtjhdjmlaidpjfaaArr
set_option linter.unusedVariables false
namespace Go.Proofs.Ytjhdjmlaidpjfaa.B
open Go.RowKit
set_option maxHeartbeats 4000000 in
set_option maxRecDepth 100000 in
theorem counts_any (x y : Int) (A : Option Addr) (n c : Nat) (p : Nat → Int) (w : World) (hA : Ro w A n (fun i => .int .u8 (p i))) (hp : ∀ i, 0 ≤ p i ∧ p i < 256) (hn : n ≤ c) :
    Calls Try.prog 3 #[.agg #[.int .i64 x, .int .i64 y, .slice A n c]] w fun e w' => e = .returned (.bool true) ∧ Below w.heap.size w w' := by
  have hu := Try.underlying24
  have HF := Lib.hid (fun w1 => few_any x y A n c w1)
  have K0 := Lib.hid (Blk.new w [.int .i64 x, .int .i64 y, .slice A n c] 24)
  have HB := Lib.hid (bbox (w := w) (.cells #[.int .i64 x, .int .i64 y, .slice A n c] 24))
  by_cases hf : (n : Int) ≤ 2000
  · rw [decide_eq_true hf] at HF
    have H1 := Lib.hid (fun w1 h => hist_any x y A n c p w1 h hp hn)
    have H2 := Lib.hid (fun w1 h => histR_any x y A n c p w1 h hp hn)
    have H3 := Lib.hid (fun w1 h => otsu_any x y A n c p w1 h hp hn)
    have H4 := Lib.hid (fun w1 h => rotsu_any x y A n c p w1 h hp hn)
    have HA := Lib.hid hA
    obtain ⟨h, eh⟩ : ∃ h : Nat → Int, (fun v => if sound x y n then cnt p n v else 0) = h := ⟨_, rfl⟩
    obtain ⟨r, er⟩ : ∃ r, errB (sound x y n) = r := ⟨_, rfl⟩
    obtain ⟨t, et⟩ : ∃ t : Int, (if sound x y n then (otsu p n : Int) else 0) = t := ⟨_, rfl⟩
    rw [eh, er] at H1 H2
    rw [et, er] at H3 H4
    clear eh er et hA hp hf
    have q1 : (r == r) = true := by simp
    have q2 : (t == t) = true := by simp
    have hq := fun w9 => eq256 h w9
    go_enter Try.func3, Try.ntmps3
    go_wp2_with fail
    refine (HF.out _).mono ?_
    rintro e w1 ⟨rfl, g1⟩
    replace HB := Lib.hid (bthen HB.out g1)
    replace K0 := Lib.hid (K0.out.below g1)
    clear g1
    have k0 := K0.out.three
    go_wp2_with fail
    refine (H1.out _ (HA.out.below HB.out)).mono ?_
    rintro e w2 ⟨rfl, g1⟩
    have hsz := HB.out.size
    have KA := Lib.hid ((Ow.zero w2).setRow (hrow h))
    have KZ := Lib.hid (Ow.zero w2)
    have hs2 := (bthen HB.out g1).size
    have LB := Lib.hid (below_setRow (balloc (bthen HB.out g1) (.cells Try.zeroCells27 27)) (by omega) (Rof 256 (hrow h)) (g := w2.heap.size))
    have hne : w.heap.size < w2.heap.size := (K0.out.below g1).lt
    have L0 := Lib.hid (show Blk _ w.heap.size [.int .i64 x, .int .i64 y, .slice A n c] 24 from (setRow_other _ w2.heap.size _ (Rof 256 (hrow h)) (by omega)).trans ((K0.out.below g1).alloc (.cells Try.zeroCells27 27)))
    clear g1 k0
    have k0 := L0.out.three
    go_wp2_with (first
      | (refine wpList_store_row rfl 27 _ _ rfl (w2.heap.size) (Rof 256 (hrow h)) rfl rfl _ _ KZ.out (size256 _) (by simp only [Rof_size]) (one256 _ _) ?_))
    obtain ⟨W2, hW2⟩ : ∃ W2, (w2.alloc (.cells Try.zeroCells27 27)).setRow w2.heap.size (Rof 256 (hrow h)) = W2 := ⟨_, rfl⟩
    rw [hW2] at KA LB L0 ⊢
    clear hW2 KZ k0 K0 HB
    refine (H2.out _ (HA.out.below LB.out)).mono ?_
    rintro e w3 ⟨rfl, g1⟩
    have KB := Lib.hid ((Ow.zero w3).setRow (hrow h))
    have KZ := Lib.hid (Ow.zero w3)
    have hs3 := (bthen LB.out g1).size
    have hne3 : w2.heap.size < w3.heap.size := (KA.out.below g1).lt
    replace LB := Lib.hid (below_setRow (balloc (bthen LB.out g1) (.cells Try.zeroCells27 27)) (by omega) (Rof 256 (hrow h)) (g := w3.heap.size))
    replace L0 := Lib.hid (show Blk _ w.heap.size [.int .i64 x, .int .i64 y, .slice A n c] 24 from (setRow_other _ w3.heap.size _ (Rof 256 (hrow h)) (by omega)).trans ((L0.out.below g1).alloc (.cells Try.zeroCells27 27)))
    replace KA := Lib.hid (((KA.out.below g1).alloc (.cells Try.zeroCells27 27)).setRow_far (b := w3.heap.size) (by omega) (Rof 256 (hrow h)))
    clear g1
    have k0 := L0.out.three
    go_wp2_with (first
      | (refine wpList_store_row rfl 27 _ _ rfl (w3.heap.size) (Rof 256 (hrow h)) rfl rfl _ _ KZ.out (size256 _) (by simp only [Rof_size]) (one256 _ _) ?_))
    obtain ⟨W3, hW3⟩ : ∃ W3, (w3.alloc (.cells Try.zeroCells27 27)).setRow w3.heap.size (Rof 256 (hrow h)) = W3 := ⟨_, rfl⟩
    rw [hW3] at KA KB LB L0 ⊢
    clear hW3 KZ k0
    refine (H3.out _ (HA.out.below LB.out)).mono ?_
    rintro e w4 ⟨rfl, g1⟩
    replace LB := Lib.hid (bthen LB.out g1)
    replace L0 := Lib.hid (L0.out.below g1)
    replace KA := Lib.hid (KA.out.below g1)
    replace KB := Lib.hid (KB.out.below g1)
    clear g1
    have k0 := L0.out.three
    go_wp2_with fail
    refine (H4.out _ (HA.out.below LB.out)).mono ?_
    rintro e w5 ⟨rfl, g1⟩
    replace LB := Lib.hid (bthen LB.out g1)
    replace KA := Lib.hid (KA.out.below g1)
    replace KB := Lib.hid (KB.out.below g1)
    clear g1 k0
    go_wp2_with (first
      | (refine wpList_load_row rfl 27 _ rfl (w2.heap.size) rfl _ _ _ _ KA.out Try.underlying27 rfl (size256 _) ?_)
      | (refine wpList_load_row rfl 27 _ rfl (w3.heap.size) rfl _ _ _ _ KB.out Try.underlying27 rfl (size256 _) ?_))
    refine (alive_ok _).mono ?_
    rintro e w6 ⟨rfl, g1⟩
    replace LB := Lib.hid (bthen LB.out g1)
    clear g1
    go_wp2_with fail
    go_ret
    exact ⟨rfl, LB.out⟩
  · rw [decide_eq_false hf] at HF
    clear hA hp hf
    go_enter Try.func3, Try.ntmps3
    go_wp2_with fail
    refine (HF.out _).mono ?_
    rintro e w1 ⟨rfl, g1⟩
    replace HB := Lib.hid (bthen HB.out g1)
    clear g1
    go_wp2_with fail
    refine (alive_ok _).mono ?_
    rintro e w3 ⟨rfl, g1⟩
    replace HB := Lib.hid (bthen HB.out g1)
    clear g1
    go_wp2_with fail
    go_ret
    exact ⟨rfl, HB.out⟩
end Go.Proofs.Ytjhdjmlaidpjfaa.B
