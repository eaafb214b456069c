/- The reference's Global and Auto. -/
import Derived.Test.YtjhdjmlaidpjfaaApp2
import Derived.Test.YtjhdjmlaidpjfaaROtsu
import Derived.Deep.RegionHeld3
import Derived.Deep.RegionLaw
set_option linter.unusedVariables false
namespace Go.Proofs.Ytjhdjmlaidpjfaa.B
open Go.RowKit
set_option maxHeartbeats 4000000 in
set_option maxRecDepth 100000 in
theorem rglobal_any (x y t : Int) (A : Option Addr) (n c : Nat) (p : Nat → Int) (w : World) (hA : Ro w A n (fun i => .int .u8 (p i))) (hp : ∀ i, 0 ≤ p i ∧ p i < 256) (hn : n ≤ c) :
    Calls Try.prog 20 #[.agg #[.int .i64 x, .int .i64 y, .slice A n c], .int .i64 t] w
      (MatIf (sound x y n && decide (0 ≤ t ∧ t ≤ 256)) x y n (fun i => decide (p i < t)) (if sound x y n then 3 else 1) w) := by
  have hu := Try.underlying24
  have hu2 := Try.underlying35
  have HC := Lib.hid (fun w1 => sound36_any x y A n c w1)
  have K0 := Lib.hid ((Blk.new w [.int .i64 x, .int .i64 y, .slice A n c] 24).alloc (.cells #[.int .i64 0, .int .i64 0, .slice none 0 0] 35))
  have K1 := Lib.hid (Blk.new1 w (.cells #[.int .i64 x, .int .i64 y, .slice A n c] 24) [.int .i64 0, .int .i64 0, .slice none 0 0] 35)
  have HB := Lib.hid (balloc (bbox (w := w) (.cells #[.int .i64 x, .int .i64 y, .slice A n c] 24)) (.cells #[.int .i64 0, .int .i64 0, .slice none 0 0] 35))
  cases hs : sound x y n with
  | false =>
    rw [Bool.false_and]
    rw [hs] at HC
    unfold MatIf
    have hb : (!false) = true := rfl
    simp only [Bool.false_eq_true, if_false]
    clear hA hp hs
    go_enter Try.func20, Try.ntmps20
    go_wp2_with fail
    refine (HC.out _).mono ?_
    rintro e w1 ⟨rfl, h1⟩
    have L1 := Lib.hid (K1.out.below h1)
    have LB := Lib.hid (bthen HB.out h1)
    clear h1
    have l1 := L1.out.three
    go_wp2_with fail
    exact bodyPost_ret (res_mat rfl _ _ (w.heap.size + 1) _ _ _ rfl (L1.out.store3 _ _ _)) rfl ⟨none, 0, rfl, Nat.le_refl _, Ro.nil _ _ _, OnlyAbove.store3 LB.out (by omega) _ _ _⟩
  | true =>
    rw [Bool.true_and]
    rw [hs] at HC
    have hb : (!true) = false := rfl
    have hnb := (sound_bd hs).2.2.2.2.2.2
    by_cases ht : 0 ≤ t ∧ t ≤ 256
    · rw [decide_eq_true ht]
      unfold MatIf
      simp only [if_true]
      have hmk := fun w9 => run_make_bool w9 n n (by omega) rfl
      have ht0 : decide (t < 0) = false := decide_eq_false (by omega)
      have ht1 : decide (256 < t) = false := decide_eq_false (by omega)
      have HP := Lib.hid hp
      have HA := Lib.hid hA
      clear hA hp hs
      go_enter Try.func20, Try.ntmps20
      go_wp2_with fail
      refine (HC.out _).mono ?_
      rintro e w1 ⟨rfl, h1⟩
      have L0 := Lib.hid (K0.out.below h1)
      have L1 := Lib.hid (K1.out.below h1)
      have LB := Lib.hid (bthen HB.out h1)
      clear h1
      have l0 := L0.out.three
      go_wp2_with fail
      have apx : w.heap.size + 1 < w1.heap.size := L1.out.lt
      have KM0 := Lib.hid (L0.out.alloc (.cells #[.int .i64 x, .int .i64 y, .slice none 0 0] 35))
      have KR0 := Lib.hid (L1.out.alloc (.cells #[.int .i64 x, .int .i64 y, .slice none 0 0] 35))
      have KI0 := Lib.hid (Blk.new w1 [.int .i64 x, .int .i64 y, .slice none 0 0] 35)
      have LB0 := Lib.hid (balloc LB.out (.cells #[.int .i64 x, .int .i64 y, .slice none 0 0] 35))
      have HG0 := Lib.hid (Gw.nil (w1.alloc (.cells #[.int .i64 x, .int .i64 y, .slice none 0 0] 35)) (w1.heap.size + 1) 4 (fun j => .bool (decide (p j < t))))
      clear K0 K1 HB L0 L1 LB l0 HC
      go_loopw [7] (fun v7 wr => ∃ (i : Nat) (V : Value), i ≤ n ∧ v7 = .int .i64 i ∧ Blk wr w.heap.size [.int .i64 x, .int .i64 y, .slice A n c] 24 ∧ Blk wr (w.heap.size + 1) [.int .i64 0, .int .i64 0, .slice none 0 0] 35 ∧ Blk wr w1.heap.size [.int .i64 x, .int .i64 y, V] 35 ∧ Gw wr (w1.heap.size + 1) 4 V i (fun j => .bool (decide (p j < t))) ∧ w1.heap.size + 1 ≤ wr.heap.size ∧ Below w.heap.size w wr) (fun v7 _ => n - (intOf v7).toNat)
      case atStart => exact ⟨0, _, by omega, rfl, KM0.out, KR0.out, KI0.out, HG0.out, by rw [World.size_alloc]; omega, LB0.out⟩
      case round =>
        clear KM0 KI0 KR0 LB0 HG0
        obtain ⟨i, V, hi, rfl, r1, r0, r2, r3, r4, r5⟩ := hrel
        obtain ⟨A9, c9, hV9, hc9, hR9⟩ := r3.shape
        subst hV9
        have KM := Lib.hid r1
        have KR := Lib.hid r0
        have KI := Lib.hid r2
        have HG := Lib.hid r3
        have LB := Lib.hid r5
        have km := r1.three
        have kr := r0.three
        have ki := r2.three
        clear r1 r0 r2 r3 r5
        by_cases hlt : i < n
        · obtain ⟨b, off, rfl, hs, hc⟩ := HA.out (by omega)
          have c1 := (LB.out.cell (p := ⟨b, off + i, none⟩) hs).trans (hc i hlt)
          have hP := HP.out i
          dsimp only at c1
          obtain ⟨q, hq⟩ : ∃ q, p i = q := ⟨_, rfl⟩
          rw [hq] at c1 hP
          have HQ := Lib.hid hq
          have hwq : IntKind.i64.wrap q = q := by simp only [IntKind.wrap, IntKind.bits, IntKind.signed]; simp; omega
          have hbw : b < wr.heap.size := Nat.lt_of_lt_of_le hs LB.out.size
          have hmr : w1.heap.size < wr.heap.size := r4
          have HNEW : Hid ((wr.alloc (.cells #[.bool (decide (q < t))] 4)).cell? ⟨wr.heap.size, 0, none⟩ = some ((fun j => Value.bool (decide (p j < t))) i)) := Lib.hid (by dsimp only; rw [HQ.out]; exact (Blk.new wr [.bool (decide (q < t))] 4).cell 0 _ rfl)
          have HGA := Lib.hid (HG.out.alloc (.cells #[.bool (decide (q < t))] 4))
          have HZA : Hid (w1.heap.size + 1 ≤ (wr.alloc (.cells #[.bool (decide (q < t))] 4)).heap.size) := Lib.hid (by rw [World.size_alloc]; omega)
          clear hc hq hR9
          go_upto_region 9 with fail
          go_region_law ((refine step_app_bool (by rfl) _ _ (by rfl) (w1.heap.size + 1) (.slice A9 i c9) i (fun j => .bool (decide (p j < t))) (by rfl) HGA.out wr.heap.size 1 (by rfl) HNEW.out (by rfl) (by omega) HZA.out ?_; intro V2 w2 g1 g2; obtain ⟨A8, c8, hV8, _, _⟩ := g1.shape; subst hV8; have ki2 := ((KI.out.alloc (.cells #[.bool (decide (q < t))] 4)).drew.grown g2 (fun k hk => (HGA.out.lt k hk).1) (by omega)).three))
          all_goals go_wp2_with fail
          all_goals exact ⟨⟨i + 1, _, by omega, by go_num, ((KM.out.alloc (.cells #[.bool (decide (q < t))] 4)).drew.grown g2 (fun k hk => (HGA.out.lt k hk).1) (by omega)).far (by omega) _ _, ((KR.out.alloc (.cells #[.bool (decide (q < t))] 4)).drew.grown g2 (fun k hk => (HGA.out.lt k hk).1) (by omega)).far (by omega) _ _, ((KI.out.alloc (.cells #[.bool (decide (q < t))] 4)).drew.grown g2 (fun k hk => (HGA.out.lt k hk).1) (by omega)).set 2 _, g1.setCell (by omega) _ _, by simpa [World.setCell] using Nat.le_trans HZA.out g2.size, (((balloc LB.out (.cells #[.bool (decide (q < t))] 4)).drew).grown g2 (Nat.le_trans LB.out.size (by simp)) (fun k hk => by have := (HGA.out.lt k hk).1; omega)).setCell (p := ⟨w1.heap.size, 2, none⟩) (by simp; omega) _⟩, by simp [intOf]; omega⟩
        · obtain rfl : i = n := by omega
          go_wp2_with fail
          exact bodyPost_ret (res_mat rfl _ _ (w.heap.size + 1) _ _ _ rfl (KR.out.store3 _ _ _)) rfl ⟨A9, c9, rfl, hc9, hR9.store3b KR.out _ _ _ _ _, OnlyAbove.store3 LB.out (by omega) _ _ _⟩
    · rw [decide_eq_false ht]
      unfold MatIf
      simp only [Bool.false_eq_true, if_false, if_true]
      clear hA hp hs
      by_cases ht0 : t < 0
      · clear ht
        go_enter Try.func20, Try.ntmps20
        go_wp2_with fail
        refine (HC.out _).mono ?_
        rintro e w1 ⟨rfl, h1⟩
        have L1 := Lib.hid (K1.out.below h1)
        have LB := Lib.hid (bthen HB.out h1)
        clear h1
        have l1 := L1.out.three
        go_wp2_with fail
        exact bodyPost_ret (res_mat rfl _ _ (w.heap.size + 1) _ _ _ rfl (L1.out.store3 _ _ _)) rfl ⟨none, 0, rfl, Nat.le_refl _, Ro.nil _ _ _, OnlyAbove.store3 LB.out (by omega) _ _ _⟩
      · have ht1 : 256 < t := by omega
        clear ht
        go_enter Try.func20, Try.ntmps20
        go_wp2_with fail
        refine (HC.out _).mono ?_
        rintro e w1 ⟨rfl, h1⟩
        have L1 := Lib.hid (K1.out.below h1)
        have LB := Lib.hid (bthen HB.out h1)
        clear h1
        have l1 := L1.out.three
        go_wp2_with fail
        exact bodyPost_ret (res_mat rfl _ _ (w.heap.size + 1) _ _ _ rfl (L1.out.store3 _ _ _)) rfl ⟨none, 0, rfl, Nat.le_refl _, Ro.nil _ _ _, OnlyAbove.store3 LB.out (by omega) _ _ _⟩
end Go.Proofs.Ytjhdjmlaidpjfaa.B
