/- barscanlaw36.ThresholdTwo returns true for every matrix and two values: the walk. -/
import Derived.Test.YtjhdjmlaidpjfaaAlive
import Derived.Test.YtjhdjmlaidpjfaaTwoP
import Derived.Test.YtjhdjmlaidpjfaaApp
import Derived.BigRegion
import Derived.Lib.MinMax
set_option linter.unusedVariables false
namespace Go.Proofs.Ytjhdjmlaidpjfaa.B
open Go.RowKit
theorem two_row (dk : Nat → Bool) (l h : Int) (i : Nat) : (Value.int .u8 (twoV dk l h i)).oneCell' = true := rfl
set_option maxHeartbeats 4000000 in
set_option maxRecDepth 100000 in
theorem two_any (x y a b : Int) (A : Option Addr) (n c : Nat) (dk : Nat → Bool) (w : World) (hA : Ro w A n (fun i => .bool (dk i))) (hn : n ≤ c) (ha : 0 ≤ a ∧ a ≤ 255) (hb : 0 ≤ b ∧ b ≤ 255) :
    Calls Try.prog 7 #[.agg #[.int .i64 x, .int .i64 y, .slice A n c], .int .u8 a, .int .u8 b] w fun e w' => e = .returned (.bool true) ∧ Below w.heap.size w w' := by
  have hu := Try.underlying24
  have hu2 := Try.underlying35
  have HS := Lib.hid (fun w1 => sound20_any x y A n c w1)
  have K0 := Lib.hid (Blk.new w [.int .i64 x, .int .i64 y, .slice A n c] 35)
  have HB := Lib.hid (bbox (w := w) (.cells #[.int .i64 x, .int .i64 y, .slice A n c] 35))
  cases hs : sound x y n with
  | false =>
    rw [hs] at HS
    clear hA hs
    go_enter Try.func7, Try.ntmps7
    go_wp2_with fail
    refine (HS.out _).mono ?_
    rintro e w1 ⟨rfl, h1⟩
    replace HB := Lib.hid (bthen HB.out h1)
    clear h1
    go_wp2_with fail
    refine (alive_ok _).mono ?_
    rintro e w2 ⟨rfl, h1⟩
    replace HB := Lib.hid (bthen HB.out h1)
    clear h1
    go_wp2_with fail
    go_ret
    exact ⟨rfl, HB.out⟩
  | true =>
    rw [hs] at HS
    by_cases hf : n ≤ 2000
    · have q0 : decide (2000 < (n : Int)) = false := decide_eq_false (by omega)
      have q0n : decide (2000 < n) = false := decide_eq_false (by omega)
      obtain ⟨l, hl⟩ : ∃ l, min a b = l := ⟨_, rfl⟩
      obtain ⟨h, hh⟩ : ∃ h, max a b = h := ⟨_, rfl⟩
      have hlb : 0 ≤ l ∧ l ≤ 255 := by omega
      have hhb : 0 ≤ h ∧ h ≤ 255 := by omega
      have hlh : l ≤ h := by omega
      have hsd := sound_bd hs
      have hn1 : 1 ≤ n := hsd.2.2.2.2.2.1
      clear hsd
      have HA := Lib.hid hA
      have HSD := Lib.hid hs
      clear hA hs
      go_enter Try.func7, Try.ntmps7
      go_wp2_with fail
      refine (HS.out _).mono ?_
      rintro e w1 ⟨rfl, g1⟩
      replace HB := Lib.hid (bthen HB.out g1)
      replace K0 := Lib.hid (K0.out.below g1)
      clear g1 HS
      have k0 := K0.out.three
      go_wp2_with fail
      have apx : w.heap.size < w1.heap.size := K0.out.lt
      have KM0 := Lib.hid (K0.out.alloc (.cells #[.int .i64 x, .int .i64 y, .slice none 0 0] 24))
      have KI0 := Lib.hid (Blk.new w1 [.int .i64 x, .int .i64 y, .slice none 0 0] 24)
      have LB0 := Lib.hid (balloc HB.out (.cells #[.int .i64 x, .int .i64 y, .slice none 0 0] 24))
      have hsw := HB.out.size
      have HG0 := Lib.hid (Gw.nil (w1.alloc (.cells #[.int .i64 x, .int .i64 y, .slice none 0 0] 24)) (w1.heap.size + 1) 5 (fun j => .int .u8 (twoV dk l h j)))
      clear K0 HB k0
      go_loopw [10, 11, 39] (fun v10 v11 v39 wr => ∃ (i : Nat) (V : Value), i ≤ n ∧ v39 = .int .i64 i ∧ v10 = .bool (decide (0 < nd dk i)) ∧ v11 = .bool (decide (nd dk i < i)) ∧ Blk wr w.heap.size [.int .i64 x, .int .i64 y, .slice A n c] 35 ∧ Blk wr w1.heap.size [.int .i64 x, .int .i64 y, V] 24 ∧ Gw wr (w1.heap.size + 1) 5 V i (fun j => .int .u8 (twoV dk l h j)) ∧ w1.heap.size + 1 ≤ wr.heap.size ∧ Below w.heap.size w wr) (fun _ _ v39 _ => n - (intOf v39).toNat)
      case atStart => exact ⟨0, _, by omega, rfl, rfl, rfl, KM0.out, KI0.out, HG0.out, by rw [World.size_alloc]; omega, LB0.out⟩
      case round =>
        clear KM0 KI0 LB0 HG0
        obtain ⟨i, V, hi, rfl, rfl, rfl, r1, r2, r3, r4, r5⟩ := hrel
        have KM := Lib.hid r1
        have KI := Lib.hid r2
        have HG := Lib.hid r3
        have LB := Lib.hid r5
        have km := r1.three
        have ki := r2.three
        clear r1 r2 r3 r5
        by_cases hlt : i < n
        · obtain ⟨b2, off, rfl, hs, hc⟩ := HA.out (by omega)
          have c1 := (LB.out.cell (p := ⟨b2, off + i, none⟩) hs).trans (hc i hlt)
          dsimp only at c1
          clear hc
          cases hdk : dk i with
          | true =>
              have e0 : twoV dk l h i = l := by unfold twoV; rw [hdk]; rfl
              have e1 : nd dk (i + 1) = nd dk i + 1 := by rw [nd, hdk]; rfl
              have HN : Hid ((wr.alloc (.cells #[.int .u8 l] 5)).cell? ⟨wr.heap.size, 0, none⟩ = some ((fun j => Value.int .u8 (twoV dk l h j)) i)) := Lib.hid (by dsimp only; rw [e0]; exact (Blk.new wr [.int .u8 l] 5).cell 0 _ rfl)
              have HG' := Lib.hid (HG.out.alloc (.cells #[.int .u8 l] 5))
              have HZ' : Hid (w1.heap.size + 1 ≤ (wr.alloc (.cells #[.int .u8 l] 5)).heap.size) := Lib.hid (by rw [World.size_alloc]; omega)
              have E1 := Lib.hid e1
              have nb := nd_bd dk i
              rw [hdk] at c1
              clear e0 e1 hdk
              go_wp2_with (first
                | (at_builtin
                   refine app_u8 rfl _ _ rfl (w1.heap.size + 1) V i (fun j => .int .u8 (twoV dk l h j)) rfl HG'.out wr.heap.size 1 rfl HN.out rfl (by omega) HZ'.out ?_
                   intro V2 w2 g1 g2
                   obtain ⟨A9, c9, hV9, _, _⟩ := g1.shape
                   subst hV9
                   have gr := HG'.out.lt
                   have KM2 := Lib.hid ((KM.out.alloc (.cells #[.int .u8 l] 5)).grown g2 (fun k hk => (gr k hk).1) (by omega))
                   have KI2 := Lib.hid ((KI.out.alloc (.cells #[.int .u8 l] 5)).grown g2 (fun k hk => (gr k hk).1) (by omega))
                   have LB2 := Lib.hid ((balloc LB.out (.cells #[.int .u8 l] 5)).grown g2 (by rw [World.size_alloc]; omega) (fun k hk => by have := (gr k hk).1; omega))
                   have G1 := Lib.hid g1
                   have G2 := Lib.hid (Nat.le_trans HZ'.out g2.size)
                   have ki2 := KI2.out.three
                   clear gr g1 g2))
              exact ⟨⟨i + 1, _, by omega, by go_num, by rw [E1.out, decide_eq_true (show 0 < nd dk i + 1 by omega)], by rw [E1.out]; congr 2; exact propext ⟨fun h => by omega, fun h => by omega⟩, KM2.out.far (by omega) _ _, KI2.out.set 2 _, G1.out.setCell (by omega) _ _, by simpa [World.setCell] using G2.out, LB2.out.setCell (p := ⟨w1.heap.size, 2, none⟩) (by simp; omega) _⟩, by simp [intOf]; omega⟩
          | false =>
              have e0 : twoV dk l h i = h := by unfold twoV; rw [hdk]; rfl
              have e1 : nd dk (i + 1) = nd dk i + 0 := by rw [nd, hdk]; rfl
              have HN : Hid ((wr.alloc (.cells #[.int .u8 h] 5)).cell? ⟨wr.heap.size, 0, none⟩ = some ((fun j => Value.int .u8 (twoV dk l h j)) i)) := Lib.hid (by dsimp only; rw [e0]; exact (Blk.new wr [.int .u8 h] 5).cell 0 _ rfl)
              have HG' := Lib.hid (HG.out.alloc (.cells #[.int .u8 h] 5))
              have HZ' : Hid (w1.heap.size + 1 ≤ (wr.alloc (.cells #[.int .u8 h] 5)).heap.size) := Lib.hid (by rw [World.size_alloc]; omega)
              have E1 := Lib.hid e1
              have nb := nd_bd dk i
              rw [hdk] at c1
              clear e0 e1 hdk
              go_wp2_with (first
                | (at_builtin
                   refine app_u8 rfl _ _ rfl (w1.heap.size + 1) V i (fun j => .int .u8 (twoV dk l h j)) rfl HG'.out wr.heap.size 1 rfl HN.out rfl (by omega) HZ'.out ?_
                   intro V2 w2 g1 g2
                   obtain ⟨A9, c9, hV9, _, _⟩ := g1.shape
                   subst hV9
                   have gr := HG'.out.lt
                   have KM2 := Lib.hid ((KM.out.alloc (.cells #[.int .u8 h] 5)).grown g2 (fun k hk => (gr k hk).1) (by omega))
                   have KI2 := Lib.hid ((KI.out.alloc (.cells #[.int .u8 h] 5)).grown g2 (fun k hk => (gr k hk).1) (by omega))
                   have LB2 := Lib.hid ((balloc LB.out (.cells #[.int .u8 h] 5)).grown g2 (by rw [World.size_alloc]; omega) (fun k hk => by have := (gr k hk).1; omega))
                   have G1 := Lib.hid g1
                   have G2 := Lib.hid (Nat.le_trans HZ'.out g2.size)
                   have ki2 := KI2.out.three
                   clear gr g1 g2))
              exact ⟨⟨i + 1, _, by omega, by go_num, by rw [E1.out, Int.add_zero], by rw [E1.out, decide_eq_true (show nd dk i + 0 < ((i + 1 : Nat) : Int) by omega)], KM2.out.far (by omega) _ _, KI2.out.set 2 _, G1.out.setCell (by omega) _ _, by simpa [World.setCell] using G2.out, LB2.out.setCell (p := ⟨w1.heap.size, 2, none⟩) (by simp; omega) _⟩, by simp [intOf]; omega⟩
        · obtain rfl : i = n := by omega
          obtain ⟨A9, c9, hV9, hc9, hR9⟩ := HG.out.shape
          subst hV9
          have HAU := Lib.hid (auto_any x y A9 i c9 (fun j => twoV dk l h j) wr hR9 (twoV_bd dk l h (by omega) (by omega)) hc9)
          rw [HSD.out] at HAU
          unfold MatIf at HAU
          simp only [if_true] at HAU
          have nb := nd_bd dk i
          clear hR9 HG
          obtain ⟨t, et⟩ : ∃ t, otsu (fun j => twoV dk l h j) i = t := ⟨_, rfl⟩
          have ET := Lib.hid et
          rw [et] at HAU
          clear et
          by_cases hcase : 0 < nd dk i ∧ nd dk i < i ∧ l < h
          · obtain ⟨z1, z2, z3⟩ := hcase
            have HSM : Hid (sameM x y i (fun j => decide (twoV dk l h j < (t : Int))) x y i dk = true) := Lib.hid (by
              have h1 := otsu_two dk l h hlb.1 z3 (by omega) i z1 z2
              have h2 := ET.out
              have h3 : otsu (twoV dk l h) i = t := h2
              rw [h3] at h1
              unfold sameM
              simp only [decide_true, Bool.true_and]
              rw [agree_true]
              intro j hj
              unfold twoV
              cases dk j <;> simp <;> omega)
            have f1 : decide (0 < nd dk i) = true := decide_eq_true z1
            have f2 : decide (nd dk i < (i : Int)) = true := decide_eq_true z2
            have f3 : decide (l < h) = true := decide_eq_true z3
            go_wp2_with fail
            refine HAU.out.mono ?_
            rintro e w3 ⟨A1, c1, rfl, g1, g2, g3⟩
            have LB2 := Lib.hid (balloc (bthen LB.out g3) (.cells #[.int .i64 x, .int .i64 y, .slice A1 i c1] 35))
            have KM2 := Lib.hid ((KM.out.below g3).alloc (.cells #[.int .i64 x, .int .i64 y, .slice A1 i c1] 35))
            have KR := Lib.hid (Blk.new w3 [.int .i64 x, .int .i64 y, .slice A1 i c1] 35)
            have RR := Lib.hid (g2.alloc (.cells #[.int .i64 x, .int .i64 y, .slice A1 i c1] 35))
            clear g2 g3 km ki
            have km := KM2.out.three
            have kr := KR.out.three
            go_wp2_with fail
            refine (sameM_any x y x y A1 A i i c1 c (fun j => decide (twoV dk l h j < (t : Int))) dk _ RR.out (HA.out.below LB2.out) g1 hn (by omega)).mono ?_
            rw [HSM.out]
            rintro e w4 ⟨rfl, g4⟩
            have LB3 := Lib.hid (bthen LB2.out g4)
            clear g4 km kr
            go_wp2_with fail
            refine (alive_ok _).mono ?_
            rintro e w5 ⟨rfl, g5⟩
            have LB4 := Lib.hid (bthen LB3.out g5)
            clear g5
            go_wp2_with fail
            go_ret
            exact ⟨rfl, LB4.out⟩
          · have HFL : Hid (∀ j, j < i → decide (twoV dk l h j < (t : Int)) = false) := Lib.hid (by
              intro j hj
              have h0 : t = 0 := by
                rw [← ET.out]
                refine otsu_flat _ (twoV_bd dk l h (by omega) (by omega)) i fun k => ?_
                have h1 := two_CL dk l h k i
                have h2 : CL (fun j => twoV dk l h j) k i = CL (twoV dk l h) k i := rfl
                rw [h2, h1]
                by_cases q1 : l < (k : Int)
                · by_cases q2 : h < (k : Int)
                  · rw [if_pos q1, if_pos q2]; omega
                  · rw [if_pos q1, if_neg q2]; omega
                · rw [if_neg q1, if_neg (by omega)]; omega
              have h3 := twoV_bd dk l h (by omega) (by omega) j
              rw [h0]; simp; omega)
            have HSM : Hid (sameM x y i (fun j => decide (twoV dk l h j < (t : Int))) x y i (fun _ => false) = true) := Lib.hid (by
              unfold sameM
              simp only [decide_true, Bool.true_and]
              rw [agree_true]
              exact HFL.out)
            have hfl : (decide (0 < nd dk i) = false) ∨ (decide (0 < nd dk i) = true ∧ decide (nd dk i < (i : Int)) = false) ∨ (decide (0 < nd dk i) = true ∧ decide (nd dk i < (i : Int)) = true ∧ decide (l < h) = false) := by
              simp only [decide_eq_true_eq, decide_eq_false_iff_not]; omega
            have HMK := Lib.hid (fun w9 => run_make_bool w9 i i (by omega) rfl)
            clear hcase
            rcases hfl with f1 | ⟨f1, f2⟩ | ⟨f1, f2, f3⟩
            all_goals
              go_wp2_with fail
              refine HAU.out.mono ?_
              rintro e w3 ⟨A1, c1, rfl, g1, g2, g3⟩
              have LB2 := Lib.hid (balloc (bthen LB.out g3) (.cells #[.int .i64 x, .int .i64 y, .slice A1 i c1] 35))
              have KM2 := Lib.hid ((KM.out.below g3).alloc (.cells #[.int .i64 x, .int .i64 y, .slice A1 i c1] 35))
              have KR := Lib.hid (Blk.new w3 [.int .i64 x, .int .i64 y, .slice A1 i c1] 35)
              have RR := Lib.hid (g2.alloc (.cells #[.int .i64 x, .int .i64 y, .slice A1 i c1] 35))
              clear g2 g3 km ki
              obtain ⟨W3, hW3⟩ : ∃ W3, w3.alloc (.cells #[.int .i64 x, .int .i64 y, .slice A1 i c1] 35) = W3 := ⟨_, rfl⟩
              rw [hW3] at LB2 KM2 KR RR
              have hmk := HMK.out
              have km := KM2.out.three
              have kr := KR.out.three
              have HN := Lib.hid ((Ow.made W3 (.bool false) i 4).ro)
              go_wp2_with fail
              clear hW3
              go_region_held3 (fun w' => w'.cell? ⟨w.heap.size, 0, none⟩ = some (.int .i64 x) ∧ w'.cell? ⟨w.heap.size, 1, none⟩ = some (.int .i64 y) ∧ w'.cell? ⟨w.heap.size, 2, none⟩ = some (.slice A i c) ∧ w'.cell? ⟨w3.heap.size, 0, none⟩ = some (.int .i64 x) ∧ w'.cell? ⟨w3.heap.size, 1, none⟩ = some (.int .i64 y) ∧ w'.cell? ⟨w3.heap.size, 2, none⟩ = some (.slice A1 i c1))
                (first
                  | (go_keep; done)
                  | exact ⟨(KM2.out.below (by assumption)).cell 0 _ rfl, (KM2.out.below (by assumption)).cell 1 _ rfl, (KM2.out.below (by assumption)).cell 2 _ rfl, (KR.out.below (by assumption)).cell 0 _ rfl, (KR.out.below (by assumption)).cell 1 _ rfl, (KR.out.below (by assumption)).cell 2 _ rfl⟩)
                ((first
                  | (go_at_call 23; (refine (sameM_any x y x y A1 (some ⟨W3.heap.size, 0, none⟩) i i c1 i (fun j => decide (twoV dk l h j < (t : Int))) (fun _ => false) _ (RR.out.alloc (.cells (madeCells #[.bool false] i) 4)).drew HN.out.drew g1 (Nat.le_refl _) (by omega)).mono ?_); rw [HSM.out]; rintro e w4 ⟨rfl, g4⟩; have hbk := bthen ((Below.refl W3.heap.size W3).alloc (Nat.le_refl _) (.cells (madeCells #[.bool false] i) 4)).drew g4)
                  | (go_at_call 14; refine (alive_ok _).mono ?_; rintro e w5 ⟨rfl, g5⟩; have hbl := bthen hbk g5)))
              go_wp2_with fail
              go_ret
              exact ⟨rfl, bthen LB2.out hbl⟩
    · have q0 : decide (2000 < (n : Int)) = true := decide_eq_true (by omega)
      have q0n : decide (2000 < n) = true := decide_eq_true (by omega)
      clear hA hs hf
      go_enter Try.func7, Try.ntmps7
      go_wp2_with fail
      refine (HS.out _).mono ?_
      rintro e w1 ⟨rfl, g1⟩
      replace HB := Lib.hid (bthen HB.out g1)
      replace K0 := Lib.hid (K0.out.below g1)
      clear g1
      have k0 := K0.out.three
      go_wp2_with fail
      refine (alive_ok _).mono ?_
      rintro e w3 ⟨rfl, g1⟩
      replace HB := Lib.hid (bthen HB.out g1)
      clear g1
      go_wp2_with fail
      go_ret
      exact ⟨rfl, HB.out⟩
end Go.Proofs.Ytjhdjmlaidpjfaa.B
