/- barscanlaw36.ThresholdOptimal returns true for every image and number: the walk. -/
import Derived.Test.YtjhdjmlaidpjfaaAlive
import Derived.Test.YtjhdjmlaidpjfaaOptB
import Derived.BigRegion
import Derived.Lib.MinMax
set_option linter.unusedVariables false
namespace Go.Proofs.Ytjhdjmlaidpjfaa.B
open Go.RowKit
set_option maxHeartbeats 4000000 in
set_option maxRecDepth 100000 in
theorem optimal_any (x y o : Int) (A : Option Addr) (n c : Nat) (p : Nat → Int) (w : World) (hA : Ro w A n (fun i => .int .u8 (p i))) (hp : ∀ i, 0 ≤ p i ∧ p i < 256) (hn : n ≤ c) :
    Calls Try.prog 6 #[.agg #[.int .i64 x, .int .i64 y, .slice A n c], .int .i64 o] w fun e w' => e = .returned (.bool true) ∧ Below w.heap.size w w' := by
  have hu := Try.underlying24
  have HS := Lib.hid (fun w1 => sound36_any x y A n c w1)
  have K0 := Lib.hid (Blk.new w [.int .i64 x, .int .i64 y, .slice A n c] 24)
  have HB := Lib.hid (bbox (w := w) (.cells #[.int .i64 x, .int .i64 y, .slice A n c] 24))
  cases hs : sound x y n with
  | false =>
    rw [hs] at HS
    clear hA hp hs
    go_enter Try.func6, Try.ntmps6
    go_wp2_with fail
    refine (HS.out _).mono ?_
    rintro e w1 ⟨rfl, h1⟩
    replace HB := Lib.hid (bthen HB.out h1)
    clear h1
    go_wp2_with fail
    refine (alive_ok _).mono ?_
    rintro e w2 ⟨rfl, h1⟩
    replace HB := Lib.hid (bthen HB.out h1)
    clear h1
    go_wp2_with fail
    go_ret
    exact ⟨rfl, HB.out⟩
  | true =>
    rw [hs] at HS
    by_cases hok : n ≤ 300 ∧ 0 ≤ o ∧ o ≤ 255
    · obtain ⟨hn3, ho1, ho2⟩ := hok
      have q0 : decide (300 < (n : Int)) = false := decide_eq_false (by omega)
      have q1 : decide (o < 0) = false := decide_eq_false (by omega)
      have q2 : decide (255 < o) = false := decide_eq_false (by omega)
      obtain ⟨u, rfl⟩ : ∃ u : Nat, o = u := ⟨o.toNat, by omega⟩
      have HO := Lib.hid (fun w1 h => otsu_any x y A n c p w1 h hp hn)
      rw [hs] at HO
      simp only [if_true] at HO
      obtain ⟨t5, tb1, tb2⟩ := otsu_best p hp n
      have hb1 := tb1 u (by omega)
      have hb2 := fun h => tb2 u h
      obtain ⟨t, et⟩ : ∃ t, otsu p n = t := ⟨_, rfl⟩
      rw [et] at HO t5 hb1 hb2
      have q3 : decide ((t : Int) < 0) = false := decide_eq_false (by omega)
      have q4 : decide (255 < (t : Int)) = false := decide_eq_false (by omega)
      have hb : (errB true != 0) = false := rfl
      have bd0 := dq_bd p hp n hn3 t
      have bd1 := dq_bd p hp n hn3 u
      have HP := Lib.hid hp
      have HA := Lib.hid hA
      have HDF0 := Lib.hid (dF_CL p hp n t)
      have HDF1 := Lib.hid (dF_CL p hp n u)
      have HQF0 := Lib.hid (qF_CL p hp n t)
      have HQF1 := Lib.hid (qF_CL p hp n u)
      obtain ⟨D0, eD0⟩ : ∃ D, dQ (cnt p n) n (SS (cnt p n) 256) t = D := ⟨_, rfl⟩
      obtain ⟨D1, eD1⟩ : ∃ D, dQ (cnt p n) n (SS (cnt p n) 256) u = D := ⟨_, rfl⟩
      obtain ⟨Q0, eQ0⟩ : ∃ D, qQ (cnt p n) n t = D := ⟨_, rfl⟩
      obtain ⟨Q1, eQ1⟩ : ∃ D, qQ (cnt p n) n u = D := ⟨_, rfl⟩
      rw [eD0, eD1, eQ0, eQ1] at hb1 hb2
      rw [eD0, eQ0] at bd0
      rw [eD1, eQ1] at bd1
      have tr0 := tri_bd D0 Q1 ⟨bd0.1, bd0.2.1⟩ bd1.2.2
      have tr1 := tri_bd D1 Q0 ⟨bd1.1, bd1.2.1⟩ bd0.2.2
      have ED0 := Lib.hid eD0
      have ED1 := Lib.hid eD1
      have EQ0 := Lib.hid eQ0
      have EQ1 := Lib.hid eQ1
      have HB1 := Lib.hid hb1
      have HB2 := Lib.hid hb2
      clear hA hp hs et tb1 tb2 eD0 eD1 eQ0 eQ1 hb1 hb2
      go_enter Try.func6, Try.ntmps6
      go_wp2_with fail
      refine (HS.out _).mono ?_
      rintro e w1 ⟨rfl, g1⟩
      replace HB := Lib.hid (bthen HB.out g1)
      replace K0 := Lib.hid (K0.out.below g1)
      clear g1
      have k0 := K0.out.three
      go_wp2_with fail
      refine (HO.out _ (HA.out.below HB.out)).mono ?_
      rintro e w2 ⟨rfl, g1⟩
      replace HB := Lib.hid (bthen HB.out g1)
      replace K0 := Lib.hid (K0.out.below g1)
      clear g1 k0 HO HS
      have k0 := K0.out.three
      go_wp2_with fail
      have ap0 : w.heap.size < w2.heap.size := K0.out.lt
      have L0 := Lib.hid ((K0.out.alloc (.cells #[.int .i64 0, .int .i64 0] 47)).alloc (.cells #[.int .i64 0, .int .i64 0] 47))
      have L7 := Lib.hid ((Blk.new w2 [.int .i64 0, .int .i64 0] 47).alloc (.cells #[.int .i64 0, .int .i64 0] 47))
      have L8 := Lib.hid (Blk.new1 w2 (.cells #[.int .i64 0, .int .i64 0] 47) [.int .i64 0, .int .i64 0] 47)
      have LB := Lib.hid (balloc (balloc HB.out (.cells #[.int .i64 0, .int .i64 0] 47)) (.cells #[.int .i64 0, .int .i64 0] 47))
      have hsz2 := HB.out.size
      clear K0 HB k0
      go_loopw [51] (fun v51 wr => ∃ (k : Nat), k ≤ 2 ∧ v51 = .int .i64 k ∧ Blk wr w2.heap.size [.int .i64 (if 0 < k then D0 else 0), .int .i64 (if 1 < k then D1 else 0)] 47 ∧ Blk wr (w2.heap.size + 1) [.int .i64 (if 0 < k then Q0 else 0), .int .i64 (if 1 < k then Q1 else 0)] 47 ∧ Blk wr w.heap.size [.int .i64 x, .int .i64 y, .slice A n c] 24 ∧ Below w.heap.size w wr) (fun v51 _ => 2 - (intOf v51).toNat)
      case atStart => exact ⟨0, by omega, rfl, L7.out, L8.out, L0.out, LB.out⟩
      case round =>
        clear L0 L7 L8 LB
        obtain ⟨k, hk, rfl, r1, r2, r3, r4⟩ := hrel
        have hk3 : k = 0 ∨ k = 1 ∨ k = 2 := by omega
        rcases hk3 with rfl | rfl | rfl
        all_goals
          simp only [Nat.lt_irrefl, Nat.not_lt_zero, Nat.zero_lt_one, Nat.zero_lt_succ, Nat.one_lt_two, show ¬ 1 < 0 from by omega, show 0 < 1 from by omega, show 0 < 2 from by omega, show 1 < 2 from by omega, if_true, if_false] at r1 r2
          have L7 := Lib.hid r1
          have L8 := Lib.hid r2
          have L0 := Lib.hid r3
          have LB := Lib.hid r4
          have l7 := r1.two
          have l8 := r2.two
          have l0 := r3.three
          clear r1 r2 r3 r4
        · go_wp2_with fail
          go_loopw [10, 11, 12, 13, 57] (fun v10 v11 v12 v13 v57 w9 => ∃ (i : Nat), i ≤ n ∧ v10 = .int .i64 (CL p t i) ∧ v11 = .int .i64 (CS p t i) ∧ v12 = .int .i64 ((i : Int) - CL p t i) ∧ v13 = .int .i64 (CT p i - CS p t i) ∧ v57 = .int .i64 i ∧ w9 = wr) (fun _ _ _ _ v57 _ => n - (intOf v57).toNat)
          case atStart => exact ⟨0, by omega, rfl, rfl, rfl, rfl, rfl, rfl⟩
          case round =>
            obtain ⟨i, hi, rfl, rfl, rfl, rfl, rfl, rfl⟩ := hrel
            by_cases hlt : i < n
            · obtain ⟨b, off, rfl, hs, hc⟩ := HA.out (by omega)
              have c1 := (LB.out.cell (p := ⟨b, off + i, none⟩) hs).trans (hc i hlt)
              have hP := HP.out i
              have b1 := CL_bd p t i
              have b2 := CS_bd p HP.out t i
              dsimp only at c1
              obtain ⟨q, hq⟩ : ∃ q, p i = q := ⟨_, rfl⟩
              obtain ⟨N, eN⟩ : ∃ N, CL p t i = N := ⟨_, rfl⟩
              obtain ⟨S, eS⟩ : ∃ S, CS p t i = S := ⟨_, rfl⟩
              obtain ⟨C, eC⟩ : ∃ C, CT p i = C := ⟨_, rfl⟩
              have e3 : CT p (i + 1) = C + q := by rw [CT, eC, hq]
              have hcs : (decide (q < (t : Int)) = true ∧ CL p t (i + 1) = N + 1 ∧ CS p t (i + 1) = S + q) ∨ (decide (q < (t : Int)) = false ∧ decide (q < (u : Int)) = true ∧ CL p t (i + 1) = N ∧ CS p t (i + 1) = S) ∨ (decide (q < (t : Int)) = false ∧ decide (q < (u : Int)) = false ∧ CL p t (i + 1) = N ∧ CS p t (i + 1) = S) := by
                by_cases x1 : q < (t : Int)
                · left; exact ⟨decide_eq_true x1, by rw [CL, eN, if_pos (by rw [hq]; exact x1)], by rw [CS, eS, if_pos (by rw [hq]; exact x1), hq]⟩
                · right
                  have e1 : CL p t (i + 1) = N := by rw [CL, eN, if_neg (by rw [hq]; exact x1)]; omega
                  have e2 : CS p t (i + 1) = S := by rw [CS, eS, if_neg (by rw [hq]; exact x1)]; omega
                  by_cases x2 : q < (u : Int)
                  · left; exact ⟨decide_eq_false x1, decide_eq_true x2, e1, e2⟩
                  · right; exact ⟨decide_eq_false x1, decide_eq_false x2, e1, e2⟩
              rw [hq] at c1 hP
              rw [eN] at b1 b2 ⊢
              rw [eS, eC] at b2
              rw [eS, eC]
              have E3 := Lib.hid e3
              clear hc hq eN eS eC e3
              rcases hcs with ⟨x1, e1, e2⟩ | ⟨x1, x2, e1, e2⟩ | ⟨x1, x2, e1, e2⟩
              all_goals
                have E1 := Lib.hid e1
                have E2 := Lib.hid e2
                clear e1 e2
                go_wp2_with fail
                exact ⟨⟨i + 1, by omega, by rw [E1.out], by rw [E2.out], by rw [E1.out]; go_num, by rw [E2.out, E3.out]; go_num, by go_num, trivial⟩, by simp [intOf]; omega⟩
            · obtain rfl : i = n := by omega
              have b1 := CL_bd p t i
              have b2 := CS_bd p HP.out t i
              have hqf := HQF0.out
              have hdf := HDF0.out
              have edd := ED0.out
              have eqq := EQ0.out
              unfold dQ at edd
              unfold qQ at eqq
              rw [hqf, hdf] at edd
              rw [hqf] at eqq
              obtain ⟨N, eN⟩ : ∃ N, CL p t i = N := ⟨_, rfl⟩
              obtain ⟨S, eS⟩ : ∃ S, CS p t i = S := ⟨_, rfl⟩
              obtain ⟨C, eC⟩ : ∃ C, CT p i = C := ⟨_, rfl⟩
              rw [eN, eS, eC] at b2 edd
              rw [eN] at b1 eqq ⊢
              rw [eS, eC]
              have h3 := prod_le N (i - N) i (by omega) hn3
              have h4 : 0 ≤ N * (i - N) := Int.mul_nonneg b1.1 (by omega)
              have h5 : 0 ≤ (i - N) * S := Int.mul_nonneg (by omega) b2.1
              have h6 : 0 ≤ N * (C - S) := Int.mul_nonneg b1.1 b2.2.2.1
              have h7 : (i - N) * S ≤ 300 * 76500 := Int.mul_le_mul (by omega) (by omega) b2.1 (by omega)
              have h8 : N * (C - S) ≤ 300 * 76500 := Int.mul_le_mul (by omega) (by omega) b2.2.2.1 (by omega)
              clear hqf hdf eN eS eC
              by_cases hc : 0 < N * ((i : Int) - N)
              · rw [if_pos hc] at edd eqq
                have hmx : max 1 (N * ((i : Int) - N)) = N * (i - N) := by omega
                have EDD := Lib.hid edd
                have EQQ := Lib.hid eqq
                clear edd eqq
                go_wp2_with fail
                exact ⟨⟨1, by omega, by go_num, by simp only [Nat.lt_irrefl, Nat.not_lt_zero, show ¬ 1 < 0 from by omega, show 0 < 1 from by omega, show 0 < 2 from by omega, show 1 < 2 from by omega, if_true, if_false]; rw [← EDD.out]; exact (L7.out.far (by omega) _ _).set 0 _, by simp only [Nat.lt_irrefl, Nat.not_lt_zero, show ¬ 1 < 0 from by omega, show 0 < 1 from by omega, show 0 < 2 from by omega, show 1 < 2 from by omega, if_true, if_false]; rw [← EQQ.out]; exact (L8.out.set 0 _).far (by omega) _ _, (L0.out.far (by omega) _ _).far (by omega) _ _, (LB.out.setCell (p := ⟨w2.heap.size + 1, 0, none⟩) (by simp; omega) _).setCell (p := ⟨w2.heap.size, 0, none⟩) (by simp; omega) _⟩, by simp [intOf]⟩
              · rw [if_neg hc] at edd eqq
                have hmx : max 1 (N * ((i : Int) - N)) = 1 := by omega
                have EDD := Lib.hid edd
                have EQQ := Lib.hid eqq
                clear edd eqq
                go_wp2_with fail
                exact ⟨⟨1, by omega, by go_num, by simp only [Nat.lt_irrefl, Nat.not_lt_zero, show ¬ 1 < 0 from by omega, show 0 < 1 from by omega, show 0 < 2 from by omega, show 1 < 2 from by omega, if_true, if_false]; rw [← EDD.out]; exact (L7.out.far (by omega) _ _), by simp only [Nat.lt_irrefl, Nat.not_lt_zero, show ¬ 1 < 0 from by omega, show 0 < 1 from by omega, show 0 < 2 from by omega, show 1 < 2 from by omega, if_true, if_false]; rw [← EQQ.out]; exact (L8.out.set 0 _), (L0.out.far (by omega) _ _), (LB.out.setCell (p := ⟨w2.heap.size + 1, 0, none⟩) (by simp; omega) _)⟩, by simp [intOf]⟩
        · go_wp2_with fail
          go_loopw [10, 11, 12, 13, 57] (fun v10 v11 v12 v13 v57 w9 => ∃ (i : Nat), i ≤ n ∧ v10 = .int .i64 (CL p u i) ∧ v11 = .int .i64 (CS p u i) ∧ v12 = .int .i64 ((i : Int) - CL p u i) ∧ v13 = .int .i64 (CT p i - CS p u i) ∧ v57 = .int .i64 i ∧ w9 = wr) (fun _ _ _ _ v57 _ => n - (intOf v57).toNat)
          case atStart => exact ⟨0, by omega, rfl, rfl, rfl, rfl, rfl, rfl⟩
          case round =>
            obtain ⟨i, hi, rfl, rfl, rfl, rfl, rfl, rfl⟩ := hrel
            by_cases hlt : i < n
            · obtain ⟨b, off, rfl, hs, hc⟩ := HA.out (by omega)
              have c1 := (LB.out.cell (p := ⟨b, off + i, none⟩) hs).trans (hc i hlt)
              have hP := HP.out i
              have b1 := CL_bd p u i
              have b2 := CS_bd p HP.out u i
              dsimp only at c1
              obtain ⟨q, hq⟩ : ∃ q, p i = q := ⟨_, rfl⟩
              obtain ⟨N, eN⟩ : ∃ N, CL p u i = N := ⟨_, rfl⟩
              obtain ⟨S, eS⟩ : ∃ S, CS p u i = S := ⟨_, rfl⟩
              obtain ⟨C, eC⟩ : ∃ C, CT p i = C := ⟨_, rfl⟩
              have e3 : CT p (i + 1) = C + q := by rw [CT, eC, hq]
              have hcs : (decide (q < (t : Int)) = true ∧ decide (q < (u : Int)) = true ∧ CL p u (i + 1) = N + 1 ∧ CS p u (i + 1) = S + q) ∨ (decide (q < (t : Int)) = false ∧ decide (q < (u : Int)) = true ∧ CL p u (i + 1) = N + 1 ∧ CS p u (i + 1) = S + q) ∨ (decide (q < (t : Int)) = true ∧ decide (q < (u : Int)) = false ∧ CL p u (i + 1) = N ∧ CS p u (i + 1) = S) ∨ (decide (q < (t : Int)) = false ∧ decide (q < (u : Int)) = false ∧ CL p u (i + 1) = N ∧ CS p u (i + 1) = S) := by
                by_cases x2 : q < (u : Int)
                · have e1 : CL p u (i + 1) = N + 1 := by rw [CL, eN, if_pos (by rw [hq]; exact x2)]
                  have e2 : CS p u (i + 1) = S + q := by rw [CS, eS, if_pos (by rw [hq]; exact x2), hq]
                  by_cases x1 : q < (t : Int)
                  · exact .inl ⟨decide_eq_true x1, decide_eq_true x2, e1, e2⟩
                  · exact .inr (.inl ⟨decide_eq_false x1, decide_eq_true x2, e1, e2⟩)
                · have e1 : CL p u (i + 1) = N := by rw [CL, eN, if_neg (by rw [hq]; exact x2)]; omega
                  have e2 : CS p u (i + 1) = S := by rw [CS, eS, if_neg (by rw [hq]; exact x2)]; omega
                  by_cases x1 : q < (t : Int)
                  · exact .inr (.inr (.inl ⟨decide_eq_true x1, decide_eq_false x2, e1, e2⟩))
                  · exact .inr (.inr (.inr ⟨decide_eq_false x1, decide_eq_false x2, e1, e2⟩))
              rw [hq] at c1 hP
              rw [eN] at b1 b2 ⊢
              rw [eS, eC] at b2
              rw [eS, eC]
              have E3 := Lib.hid e3
              clear hc hq eN eS eC e3
              rcases hcs with ⟨x1, x2, e1, e2⟩ | ⟨x1, x2, e1, e2⟩ | ⟨x1, x2, e1, e2⟩ | ⟨x1, x2, e1, e2⟩
              all_goals
                have E1 := Lib.hid e1
                have E2 := Lib.hid e2
                clear e1 e2
                go_wp2_with fail
                exact ⟨⟨i + 1, by omega, by rw [E1.out], by rw [E2.out], by rw [E1.out]; go_num, by rw [E2.out, E3.out]; go_num, by go_num, trivial⟩, by simp [intOf]; omega⟩
            · obtain rfl : i = n := by omega
              have b1 := CL_bd p u i
              have b2 := CS_bd p HP.out u i
              have hqf := HQF1.out
              have hdf := HDF1.out
              have edd := ED1.out
              have eqq := EQ1.out
              unfold dQ at edd
              unfold qQ at eqq
              rw [hqf, hdf] at edd
              rw [hqf] at eqq
              obtain ⟨N, eN⟩ : ∃ N, CL p u i = N := ⟨_, rfl⟩
              obtain ⟨S, eS⟩ : ∃ S, CS p u i = S := ⟨_, rfl⟩
              obtain ⟨C, eC⟩ : ∃ C, CT p i = C := ⟨_, rfl⟩
              rw [eN, eS, eC] at b2 edd
              rw [eN] at b1 eqq ⊢
              rw [eS, eC]
              have h3 := prod_le N (i - N) i (by omega) hn3
              have h4 : 0 ≤ N * (i - N) := Int.mul_nonneg b1.1 (by omega)
              have h5 : 0 ≤ (i - N) * S := Int.mul_nonneg (by omega) b2.1
              have h6 : 0 ≤ N * (C - S) := Int.mul_nonneg b1.1 b2.2.2.1
              have h7 : (i - N) * S ≤ 300 * 76500 := Int.mul_le_mul (by omega) (by omega) b2.1 (by omega)
              have h8 : N * (C - S) ≤ 300 * 76500 := Int.mul_le_mul (by omega) (by omega) b2.2.2.1 (by omega)
              clear hqf hdf eN eS eC
              by_cases hc : 0 < N * ((i : Int) - N)
              · rw [if_pos hc] at edd eqq
                have hmx : max 1 (N * ((i : Int) - N)) = N * (i - N) := by omega
                have EDD := Lib.hid edd
                have EQQ := Lib.hid eqq
                clear edd eqq
                go_wp2_with fail
                exact ⟨⟨2, by omega, by go_num, by simp only [Nat.lt_irrefl, Nat.not_lt_zero, show ¬ 1 < 0 from by omega, show 0 < 1 from by omega, show 0 < 2 from by omega, show 1 < 2 from by omega, if_true, if_false]; rw [← EDD.out]; exact (L7.out.far (by omega) _ _).set 1 _, by simp only [Nat.lt_irrefl, Nat.not_lt_zero, show ¬ 1 < 0 from by omega, show 0 < 1 from by omega, show 0 < 2 from by omega, show 1 < 2 from by omega, if_true, if_false]; rw [← EQQ.out]; exact (L8.out.set 1 _).far (by omega) _ _, (L0.out.far (by omega) _ _).far (by omega) _ _, (LB.out.setCell (p := ⟨w2.heap.size + 1, 1, none⟩) (by simp; omega) _).setCell (p := ⟨w2.heap.size, 1, none⟩) (by simp; omega) _⟩, by simp [intOf]⟩
              · rw [if_neg hc] at edd eqq
                have hmx : max 1 (N * ((i : Int) - N)) = 1 := by omega
                have EDD := Lib.hid edd
                have EQQ := Lib.hid eqq
                clear edd eqq
                go_wp2_with fail
                exact ⟨⟨2, by omega, by go_num, by simp only [Nat.lt_irrefl, Nat.not_lt_zero, show ¬ 1 < 0 from by omega, show 0 < 1 from by omega, show 0 < 2 from by omega, show 1 < 2 from by omega, if_true, if_false]; rw [← EDD.out]; exact (L7.out.far (by omega) _ _), by simp only [Nat.lt_irrefl, Nat.not_lt_zero, show ¬ 1 < 0 from by omega, show 0 < 1 from by omega, show 0 < 2 from by omega, show 1 < 2 from by omega, if_true, if_false]; rw [← EQQ.out]; exact (L8.out.set 1 _), (L0.out.far (by omega) _ _), (LB.out.setCell (p := ⟨w2.heap.size + 1, 1, none⟩) (by simp; omega) _)⟩, by simp [intOf]⟩
        · have h1 : decide (D1 * D1 * Q0 ≤ D0 * D0 * Q1) = true := decide_eq_true HB1.out
          by_cases hlt : D1 * D1 * Q0 < D0 * D0 * Q1
          · have h2 : decide (D1 * D1 * Q0 < D0 * D0 * Q1) = true := decide_eq_true hlt
            clear hlt
            go_wp2_with fail
            go_quiet (fail)
            go_wp2_with fail
            refine (alive_ok _).mono ?_
            rintro e w5 ⟨rfl, g5⟩
            have LBn := Lib.hid (bthen (below_drewN LB.out _) g5)
            clear g5
            go_wp2_with fail
            go_ret
            exact ⟨rfl, LBn.out⟩
          · have h2 : decide (D1 * D1 * Q0 < D0 * D0 * Q1) = false := decide_eq_false hlt
            have h3 : decide ((t : Int) ≤ u) = true := decide_eq_true (by
              refine Int.not_lt.1 fun hh => hlt (HB2.out (by omega)))
            have h4 : decide (t ≤ u) = true := decide_eq_true (by have := of_decide_eq_true h3; omega)
            have h5 : t ≤ u := of_decide_eq_true h4
            clear hlt
            go_wp2_with fail
            go_quiet (fail)
            go_wp2_with fail
            refine (alive_ok _).mono ?_
            rintro e w5 ⟨rfl, g5⟩
            have LBn := Lib.hid (bthen (below_drewN LB.out _) g5)
            clear g5
            go_wp2_with fail
            go_ret
            exact ⟨rfl, LBn.out⟩
    · have hcs : (decide (300 < (n : Int)) = true) ∨ (decide (300 < (n : Int)) = false ∧ decide (o < 0) = true) ∨ (decide (300 < (n : Int)) = false ∧ decide (o < 0) = false ∧ decide (255 < o) = true) := by
        simp only [decide_eq_true_eq, decide_eq_false_iff_not]; omega
      clear hA hp hs hok
      rcases hcs with q1 | ⟨q1, q2⟩ | ⟨q1, q2, q3⟩
      all_goals
        go_enter Try.func6, Try.ntmps6
        go_wp2_with fail
        refine (HS.out _).mono ?_
        rintro e w1 ⟨rfl, g1⟩
        replace HB := Lib.hid (bthen HB.out g1)
        replace K0 := Lib.hid (K0.out.below g1)
        clear g1
        have k0 := K0.out.three
        go_wp2_with fail
        refine (alive_ok _).mono ?_
        rintro e w3 ⟨rfl, g1⟩
        replace HB := Lib.hid (bthen HB.out g1)
        clear g1
        go_wp2_with fail
        go_ret
        exact ⟨rfl, HB.out⟩
end Go.Proofs.Ytjhdjmlaidpjfaa.B
