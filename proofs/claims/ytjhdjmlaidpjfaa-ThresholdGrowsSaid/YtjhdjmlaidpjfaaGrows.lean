/- barscanlaw36.ThresholdGrows returns true for every image and all numbers: the walk. -/
import Derived.Test.YtjhdjmlaidpjfaaAlive
set_option linter.unusedVariables false
namespace Go.Proofs.Ytjhdjmlaidpjfaa.B
open Go.RowKit
set_option maxHeartbeats 4000000 in
set_option maxRecDepth 100000 in
theorem grows_any (x y s t : Int) (A : Option Addr) (n c : Nat) (p : Nat → Int) (w : World) (hA : Ro w A n (fun i => .int .u8 (p i))) (hp : ∀ i, 0 ≤ p i ∧ p i < 256) (hn : n ≤ c) :
    Calls Try.prog 8 #[.agg #[.int .i64 x, .int .i64 y, .slice A n c], .int .i64 s, .int .i64 t] w fun e w' => e = .returned (.bool true) ∧ Below w.heap.size w w' := by
  have hu := Try.underlying24
  have hu2 := Try.underlying35
  have HS := Lib.hid (fun w1 => sound36_any x y A n c w1)
  have HF := Lib.hid (fun w1 => few_any x y A n c w1)
  have K0 := Lib.hid (Blk.new w [.int .i64 x, .int .i64 y, .slice A n c] 24)
  have HB := Lib.hid (bbox (w := w) (.cells #[.int .i64 x, .int .i64 y, .slice A n c] 24))
  cases hs : sound x y n with
  | false =>
    rw [hs] at HS
    clear hA hp hs
    go_enter Try.func8, Try.ntmps8
    go_wp2_with fail
    refine (HS.out _).mono ?_
    rintro e w1 ⟨rfl, h1⟩
    replace HB := Lib.hid (bthen HB.out h1)
    clear h1
    go_wp2_with fail
    refine (alive_ok _).mono ?_
    rintro e w2 ⟨rfl, h1⟩
    replace HB := Lib.hid (bthen HB.out h1)
    clear h1
    go_wp2_with fail
    go_ret
    exact ⟨rfl, HB.out⟩
  | true =>
    rw [hs] at HS
    have HSD := Lib.hid hs
    by_cases hf : (n : Int) ≤ 2000
    · rw [decide_eq_true hf] at HF
      by_cases hok : 0 ≤ s ∧ s ≤ t ∧ t ≤ 256
      · obtain ⟨h1, h2, h3⟩ := hok
        have q1 : decide (s < 0) = false := decide_eq_false (by omega)
        have q2 : decide (t < s) = false := decide_eq_false (by omega)
        have q3 : decide (256 < t) = false := decide_eq_false (by omega)
        have HG1 := Lib.hid (fun w1 h => global_any x y s A n c p w1 h hp hn)
        have HG2 := Lib.hid (fun w1 h => global_any x y t A n c p w1 h hp hn)
        rw [hs, Bool.true_and, decide_eq_true (show 0 ≤ s ∧ s ≤ 256 by omega)] at HG1
        rw [hs, Bool.true_and, decide_eq_true (show 0 ≤ t ∧ t ≤ 256 by omega)] at HG2
        unfold MatIf at HG1 HG2
        simp only [if_true] at HG1 HG2
        have HP := Lib.hid hp
        have HA := Lib.hid hA
        clear hA hp hs
        go_enter Try.func8, Try.ntmps8
        go_wp2_with fail
        refine (HS.out _).mono ?_
        rintro e w1 ⟨rfl, g1⟩
        replace HB := Lib.hid (bthen HB.out g1)
        replace K0 := Lib.hid (K0.out.below g1)
        clear g1
        have k0 := K0.out.three
        go_wp2_with fail
        refine (HF.out _).mono ?_
        rintro e w2 ⟨rfl, g1⟩
        replace HB := Lib.hid (bthen HB.out g1)
        replace K0 := Lib.hid (K0.out.below g1)
        clear g1 k0
        have k0 := K0.out.three
        go_wp2_with fail
        refine (HG1.out _ (HA.out.below HB.out)).mono ?_
        rintro e w3 ⟨A1, c1, rfl, g1, g2, g3⟩
        replace HB := Lib.hid (balloc (bthen HB.out g3) (.cells #[.int .i64 x, .int .i64 y, .slice A1 n c1] 35))
        replace K0 := Lib.hid ((K0.out.below g3).alloc (.cells #[.int .i64 x, .int .i64 y, .slice A1 n c1] 35))
        have KA := Lib.hid (Blk.new w3 [.int .i64 x, .int .i64 y, .slice A1 n c1] 35)
        have RA := Lib.hid (g2.alloc (.cells #[.int .i64 x, .int .i64 y, .slice A1 n c1] 35))
        clear g2 g3 k0
        have k0 := K0.out.three
        go_wp2_with fail
        refine (HG2.out _ (HA.out.below HB.out)).mono ?_
        rintro e w4 ⟨A2, c2, rfl, g4, g2, g3⟩
        replace HB := Lib.hid (balloc (bthen HB.out g3) (.cells #[.int .i64 x, .int .i64 y, .slice A2 n c2] 35))
        replace K0 := Lib.hid ((K0.out.below g3).alloc (.cells #[.int .i64 x, .int .i64 y, .slice A2 n c2] 35))
        replace KA := Lib.hid ((KA.out.below g3).alloc (.cells #[.int .i64 x, .int .i64 y, .slice A2 n c2] 35))
        replace RA := Lib.hid ((RA.out.below g3).alloc (.cells #[.int .i64 x, .int .i64 y, .slice A2 n c2] 35))
        have KB := Lib.hid (Blk.new w4 [.int .i64 x, .int .i64 y, .slice A2 n c2] 35)
        have RB := Lib.hid (g2.alloc (.cells #[.int .i64 x, .int .i64 y, .slice A2 n c2] 35))
        clear g2 g3 k0 HG1 HG2 HS HF
        obtain ⟨W4, hW4⟩ : ∃ W4, w4.alloc (.cells #[.int .i64 x, .int .i64 y, .slice A2 n c2] 35) = W4 := ⟨_, rfl⟩
        rw [hW4] at HB K0 KA RA KB RB
        have k0 := K0.out.three
        have ka := KA.out.three
        have kb := KB.out.three
        have hnn : ((n : Int) != n) = false := by simp
        go_wp2_with fail
        clear hW4
        go_loopw [73] (fun v73 wr => ∃ (i : Nat), i ≤ n ∧ v73 = .int .i64 i ∧ wr = W4) (fun v73 _ => n - (intOf v73).toNat)
        case atStart => exact ⟨0, by omega, rfl, rfl⟩
        case round =>
          obtain ⟨i, hi, rfl, rfl⟩ := hrel
          by_cases hlt : i < n
          · obtain ⟨b, off, rfl, hs, hc⟩ := RA.out (by omega)
            obtain ⟨b2, off2, rfl, hs2, hc2⟩ := RB.out (by omega)
            have d1 := hc i hlt
            have d2 := hc2 i hlt
            dsimp only at d1 d2
            have hP := HP.out i
            obtain ⟨X, eX⟩ : ∃ X, decide (p i < s) = X := ⟨_, rfl⟩
            obtain ⟨Y, eY⟩ : ∃ Y, decide (p i < t) = Y := ⟨_, rfl⟩
            obtain ⟨bs, hbs⟩ : ∃ bs, (s == 0) = bs := ⟨_, rfl⟩
            obtain ⟨bt, hbt⟩ : ∃ bt, (t == 256) = bt := ⟨_, rfl⟩
            have hcs : (X = true ∧ Y = true ∧ bs = false ∧ bt = false) ∨ (X = true ∧ Y = true ∧ bs = false ∧ bt = true) ∨ (X = false ∧ bs = false ∧ bt = false) ∨ (X = false ∧ bs = true ∧ bt = false) ∨ (X = false ∧ Y = true ∧ bs = false ∧ bt = true) ∨ (X = false ∧ Y = true ∧ bs = true ∧ bt = true) := by
              rw [← eX, ← eY, ← hbs, ← hbt]
              simp only [decide_eq_true_eq, decide_eq_false_iff_not, beq_iff_eq, beq_eq_false_iff_ne]
              omega
            rw [eX] at d1
            rw [eY] at d2
            clear hc hc2 eX eY hP
            have HX : Hid (n - ((i : Int) + 1).toNat < n - (i : Int).toNat) := Lib.hid (by omega)
            rcases hcs with ⟨rfl, rfl, rfl, rfl⟩ | ⟨rfl, rfl, rfl, rfl⟩ | ⟨rfl, rfl, rfl⟩ | ⟨rfl, rfl, rfl⟩ | ⟨rfl, rfl, rfl, rfl⟩ | ⟨rfl, rfl, rfl, rfl⟩
            all_goals
              go_wp2_with fail
              exact ⟨⟨i + 1, by omega, by go_num, trivial⟩, by simp [intOf]; omega⟩
          · obtain rfl : i = n := by omega
            go_wp2_with fail
            refine (alive_ok _).mono ?_
            rintro e w5 ⟨rfl, g5⟩
            replace HB := Lib.hid (bthen HB.out g5)
            clear g5
            go_wp2_with fail
            go_ret
            exact ⟨rfl, HB.out⟩
      · have hcs : (decide (s < 0) = true) ∨ (decide (s < 0) = false ∧ decide (t < s) = true) ∨ (decide (s < 0) = false ∧ decide (t < s) = false ∧ decide (256 < t) = true) := by
          simp only [decide_eq_true_eq, decide_eq_false_iff_not]; omega
        clear hA hp hs hok
        rcases hcs with q1 | ⟨q1, q2⟩ | ⟨q1, q2, q3⟩
        all_goals
          go_enter Try.func8, Try.ntmps8
          go_wp2_with fail
          refine (HS.out _).mono ?_
          rintro e w1 ⟨rfl, g1⟩
          replace HB := Lib.hid (bthen HB.out g1)
          replace K0 := Lib.hid (K0.out.below g1)
          clear g1
          have k0 := K0.out.three
          go_wp2_with fail
          refine (HF.out _).mono ?_
          rintro e w2 ⟨rfl, g1⟩
          replace HB := Lib.hid (bthen HB.out g1)
          clear g1
          go_wp2_with fail
          refine (alive_ok _).mono ?_
          rintro e w3 ⟨rfl, g1⟩
          replace HB := Lib.hid (bthen HB.out g1)
          clear g1
          go_wp2_with fail
          go_ret
          exact ⟨rfl, HB.out⟩
    · rw [decide_eq_false hf] at HF
      clear hA hp hs
      go_enter Try.func8, Try.ntmps8
      go_wp2_with fail
      refine (HS.out _).mono ?_
      rintro e w1 ⟨rfl, g1⟩
      replace HB := Lib.hid (bthen HB.out g1)
      replace K0 := Lib.hid (K0.out.below g1)
      clear g1
      have k0 := K0.out.three
      go_wp2_with fail
      refine (HF.out _).mono ?_
      rintro e w2 ⟨rfl, g1⟩
      replace HB := Lib.hid (bthen HB.out g1)
      clear g1
      go_wp2_with fail
      refine (alive_ok _).mono ?_
      rintro e w3 ⟨rfl, g1⟩
      replace HB := Lib.hid (bthen HB.out g1)
      clear g1
      go_wp2_with fail
      go_ret
      exact ⟨rfl, HB.out⟩
end Go.Proofs.Ytjhdjmlaidpjfaa.B
