/- threshold.Otsu: the least threshold with the greatest variance. -/
import Derived.Test.YtjhdjmlaidpjfaaOtsuP
import Derived.Test.YtjhdjmlaidpjfaaHist
import Derived.Test.YtjhdjmlaidpjfaaGreater
import Derived.BigRegion
set_option linter.unusedVariables false
namespace Go.Proofs.Ytjhdjmlaidpjfaa.B
open Go.RowKit
theorem run_index256 (f : Nat → Int) (i : Nat) (hi : i < 256) (w : World) : (Instr.index 27 (.agg (Rof 256 (hrow f))) (.int .i64 i)).run Try.prog w = .ok (.int .i64 (f i)) w := by
  have h1 := Try.underlying27
  have h2 := Try.sizeOf3
  have h3 := Try.isAgg3
  have hg := Rof_get 256 (hrow f) i hi
  simp [Instr.index, Sem.run_bind, asIntOf, run_underlying h1, h2, h3, part, Result.andThen]
  rw [if_pos hi, hg]; rfl
theorem mul_self_nonneg' (a : Int) : 0 ≤ a * a := by
  by_cases h : 0 ≤ a
  · exact Int.mul_nonneg h h
  · have := Int.mul_nonneg (show 0 ≤ -a by omega) (show 0 ≤ -a by omega)
    rwa [Int.neg_mul_neg] at this
theorem vsq_sz (n0 s0 n1 s1 : Int) (h0 : 0 ≤ n0 ∧ n0 ≤ 4194304) (h1 : 0 ≤ n1 ∧ n1 ≤ 4194304) (g0 : 0 ≤ s0 ∧ s0 ≤ 1069547520) (g1 : 0 ≤ s1 ∧ s1 ≤ 1069547520) : sz (vsq n0 s0 n1 s1) ≤ 200 ∧ sz (vby n0 n1) ≤ 200 := by
  have m1 := mul_le_abs h1 g0
  have m2 := mul_le_abs h0 g1
  have m3 := mul_le_abs h0 h1
  have hs1 : sz (n1 * s0 - n0 * s1) ≤ 2 := sz_small (by omega)
  unfold vsq vby
  constructor
  · split
    · rw [sz_zero]; omega
    · exact Nat.le_trans (Bd.sz ((Bd.of_sz hs1).mul (Bd.of_sz hs1))) (by omega)
  · split
    · exact Nat.le_trans (sz_small (by omega)) (by omega)
    · exact Nat.le_trans (sz_small (by omega)) (by omega)
/-- One threshold more. -/
theorem ots_step (h : Nat → Int) (n s : Int) (k : Nat) (hq : 0 ≤ qF h n (k + 1)) (a b : Int) (t : Nat) (e : ots h n s k = (t, a, b)) :
    (a * a * vby (SN h (k + 1)) (n - SN h (k + 1)) < vsq (SN h (k + 1)) (SS h (k + 1)) (n - SN h (k + 1)) (s - SS h (k + 1)) * b ∧ ots h n s (k + 1) = (k + 1, dF h n s (k + 1), qF h n (k + 1)) ∧
      vsq (SN h (k + 1)) (SS h (k + 1)) (n - SN h (k + 1)) (s - SS h (k + 1)) = dF h n s (k + 1) * dF h n s (k + 1) ∧ vby (SN h (k + 1)) (n - SN h (k + 1)) = qF h n (k + 1)) ∨
    (¬ a * a * vby (SN h (k + 1)) (n - SN h (k + 1)) < vsq (SN h (k + 1)) (SS h (k + 1)) (n - SN h (k + 1)) (s - SS h (k + 1)) * b ∧ ots h n s (k + 1) = (t, a, b)) := by
  by_cases hz : SN h (k + 1) = 0 ∨ n - SN h (k + 1) = 0
  · right
    have hq0 : qF h n (k + 1) = 0 := by
      unfold qF
      rcases hz with hz | hz <;> rw [hz] <;> simp
    rw [vsq, vby, if_pos hz, if_pos hz, ots, e]
    have := mul_self_nonneg' a
    refine ⟨by omega, if_neg ?_⟩
    rw [hq0]; intro hh; omega
  · have e1 : vby (SN h (k + 1)) (n - SN h (k + 1)) = qF h n (k + 1) := by rw [vby, if_neg hz]; rfl
    have e2 : vsq (SN h (k + 1)) (SS h (k + 1)) (n - SN h (k + 1)) (s - SS h (k + 1)) = dF h n s (k + 1) * dF h n s (k + 1) := by rw [vsq, if_neg hz]; rfl
    have hq1 : 0 < qF h n (k + 1) := by
      have : qF h n (k + 1) ≠ 0 := by
        unfold qF; intro h0
        exact hz (Int.mul_eq_zero.1 h0)
      omega
    rw [e1, e2]
    by_cases hc : a * a * qF h n (k + 1) < dF h n s (k + 1) * dF h n s (k + 1) * b
    · left
      exact ⟨hc, by rw [ots, e]; exact if_pos ⟨hq1, hc⟩, rfl, rfl⟩
    · right
      exact ⟨hc, by rw [ots, e]; exact if_neg (fun h => hc h.2)⟩
set_option maxHeartbeats 4000000 in
set_option maxRecDepth 100000 in
theorem otsu_any (x y : Int) (A : Option Addr) (n c : Nat) (p : Nat → Int) (w : World) (hA : Ro w A n (fun i => .int .u8 (p i))) (hp : ∀ i, 0 ≤ p i ∧ p i < 256) (hn : n ≤ c) :
    Calls Try.prog 17 #[.agg #[.int .i64 x, .int .i64 y, .slice A n c]] w fun e w' => e = .returned (.tuple #[.int .i64 (if sound x y n then (otsu p n : Int) else 0), .int .i64 (errB (sound x y n))]) ∧ Below w.heap.size w w' := by
  have hu := Try.underlying24
  have HH := Lib.hid (fun w1 h => hist_any x y A n c p w1 h hp hn)
  have K0 := Lib.hid (Blk.new w [.int .i64 x, .int .i64 y, .slice A n c] 24)
  have HB := Lib.hid (bbox (w := w) (.cells #[.int .i64 x, .int .i64 y, .slice A n c] 24))
  have HA := Lib.hid hA
  cases hs : sound x y n with
  | false =>
    rw [hs] at HH
    have hb : (errB false != 0) = true := rfl
    have HP := Lib.hid hp
    clear hA hp hs
    go_enter Try.func17, Try.ntmps17
    go_wp2_with fail
    refine (HH.out _ (HA.out.alloc _)).mono ?_
    rintro e w1 ⟨rfl, h1⟩
    have KH := Lib.hid (Ow.zero w1)
    go_wp2_with (first
      | (refine wpList_store_row rfl 27 _ _ rfl (w1.heap.size) (Rof 256 (hrow fun _ => 0)) rfl rfl _ _ KH.out (size256 _) (by simp only [Rof_size]) (one256 _ _) ?_))
    go_ret2
    exact ⟨rfl, below_setRow (balloc (bthen HB.out h1) _) (by have := (bthen HB.out h1).size; omega) _⟩
  | true =>
    rw [hs] at HH
    have hnb := (sound_bd hs).2.2.2.2.2.2
    have hb : (errB true != 0) = false := rfl
    have HSB := Lib.hid (sums_bd p hp n hnb)
    have HOB := Lib.hid (ots_bd p hp n hnb)
    have HDB := Lib.hid (dF_bd p hp n hnb)
    have HAL := Lib.hid (SN_all p hp n)
    have HCB := Lib.hid (fun v => cnt_bd p v n)
    have HP := Lib.hid hp
    clear hA hp hs
    obtain ⟨h, eh⟩ : ∃ h, cnt p n = h := ⟨_, rfl⟩
    obtain ⟨r, er⟩ : ∃ r : Nat, otsu p n = r := ⟨_, rfl⟩
    have ER := Lib.hid er
    rw [er]
    unfold otsu at ER
    rw [eh] at HSB HOB HDB HAL ER
    have HH2 : Hid (∀ w1, Ro w1 A n (fun i => .int .u8 (p i)) → Calls Try.prog 15 #[.agg #[.int .i64 x, .int .i64 y, .slice A n c]] w1 fun e w' => e = .returned (.tuple #[.agg (Rof 256 (hrow h)), .int .i64 (errB true)]) ∧ Below w1.heap.size w1 w') := Lib.hid (by intro w1 h1; rw [← eh]; exact HH.out w1 h1)
    have HCB2 : Hid (∀ v, 0 ≤ h v ∧ h v ≤ n) := Lib.hid (by intro v; rw [← eh]; exact HCB.out v)
    clear HH HCB eh er
    go_enter Try.func17, Try.ntmps17
    go_wp2_with fail
    refine (HH2.out _ (HA.out.alloc _)).mono ?_
    rintro e w1 ⟨rfl, h1⟩
    have KH := Lib.hid (Ow.zero w1)
    have KS := Lib.hid (KH.out.setRow (hrow h))
    have L0 := Lib.hid (show Blk _ w.heap.size [.int .i64 x, .int .i64 y, .slice A n c] 24 from (setRow_other _ w1.heap.size _ (Rof 256 (hrow h)) (by have := (bthen HB.out h1).size; have := (bbox (w := w) (.cells #[.int .i64 x, .int .i64 y, .slice A n c] 24)).size; simp only [World.size_alloc] at *; have := h1.size; simp only [World.size_alloc] at *; omega)).trans ((K0.out.below h1).alloc (.cells Try.zeroCells27 27)))
    have LB := Lib.hid (below_setRow (balloc (bthen HB.out h1) (.cells Try.zeroCells27 27)) (by have := (bthen HB.out h1).size; omega) (Rof 256 (hrow h)) (g := w1.heap.size))
    clear h1
    go_wp2_with (first
      | (refine wpList_store_row rfl 27 _ _ rfl (w1.heap.size) (Rof 256 (hrow h)) rfl rfl _ _ KH.out (size256 _) (by simp only [Rof_size]) (one256 _ _) ?_)
      | (refine wpList_load_row rfl 27 _ rfl (w1.heap.size) rfl _ _ _ _ KS.out Try.underlying27 rfl (size256 _) ?_))
    obtain ⟨W2, hW2⟩ : ∃ W2, (w1.alloc (.cells Try.zeroCells27 27)).setRow w1.heap.size (Rof 256 (hrow h)) = W2 := ⟨_, rfl⟩
    rw [hW2] at KS L0 LB ⊢
    clear hW2 KH HH2 K0 HB
    go_loopw [6, 24] (fun v6 v24 wr => ∃ (i : Nat), i ≤ 256 ∧ v24 = .int .i64 i ∧ v6 = .int .i64 (SS h i) ∧ wr = W2) (fun _ v24 _ => 256 - (intOf v24).toNat)
    case atStart => exact ⟨0, by omega, rfl, rfl, rfl⟩
    case round =>
      obtain ⟨i, hi, rfl, rfl, rfl⟩ := hrel
      by_cases hlt : i < 256
      · have b1 := HSB.out i (by omega)
        have b2 := HSB.out (i + 1) (by omega)
        have b3 := HCB2.out i
        have b4 : SS h (i + 1) = SS h i + i * h i := rfl
        have b5 : 0 ≤ (i : Int) * h i := Int.mul_nonneg (by omega) b3.1
        obtain ⟨C, eC⟩ : ∃ C, h i = C := ⟨_, rfl⟩
        have hix := fun w9 => run_index256 h i hlt w9
        rw [eC] at hix b3 b4 b5
        have hi3 : (i : Int) < 256 := by omega
        go_wp2_with fail
        exact ⟨⟨i + 1, by omega, by go_num, by rw [b4], trivial⟩, by simp [intOf]; omega⟩
      · obtain rfl : i = 256 := by omega
        have b1 := HSB.out 256 (Nat.le_refl _)
        have hal := HAL.out
        obtain ⟨S, eS⟩ : ∃ S, SS h 256 = S := ⟨_, rfl⟩
        have HSB2 : Hid (∀ k, k ≤ 256 → 0 ≤ SN h k ∧ SN h k ≤ n ∧ 0 ≤ SS h k ∧ SS h k ≤ 1069547520 ∧ SS h k ≤ S ∧ S ≤ 1069547520) := Lib.hid (by rw [← eS]; exact HSB.out)
        rw [eS] at b1 HOB ER ⊢
        have k0 := L0.out.three
        have HV := Lib.hid (fun n0 s0 n1 s1 w9 h0 h1 g0 g1 => variance_ok n0 s0 n1 s1 w9 h0 h1 g0 g1)
        clear HSB hal
        go_wp2_with fail
        refine (HV.out 0 0 n S _ (by omega) (by omega) (by omega) (by omega)).mono ?_
        rintro e w3 ⟨A1, c1, A2, c2, rfl, q1, q2, h3⟩
        have L1 := Lib.hid ((L0.out.below h3).alloc (.cells #[.bool (sg 0), .slice A1 (sz 0) c1, .bool (sg 1), .slice A2 (sz 1) c2] 80))
        have KS1 := Lib.hid ((KS.out.below h3).alloc (.cells #[.bool (sg 0), .slice A1 (sz 0) c1, .bool (sg 1), .slice A2 (sz 1) c2] 80))
        have LB1 := Lib.hid (balloc (bthen LB.out h3) (.cells #[.bool (sg 0), .slice A1 (sz 0) c1, .bool (sg 1), .slice A2 (sz 1) c2] 80))
        have KR := Lib.hid (Blk.new w3 [.bool (sg 0), .slice A1 (sz 0) c1, .bool (sg 1), .slice A2 (sz 1) c2] 80)
        have e1 : vsq 0 0 n S = 0 := if_pos (.inl rfl)
        have e2 : vby 0 n = 1 := if_pos (.inl rfl)
        rw [e1] at q1 ⊢
        rw [e2] at q2 ⊢
        have Q1 := Lib.hid (q1.alloc (.cells #[.bool (sg 0), .slice A1 (sz 0) c1, .bool (sg 1), .slice A2 (sz 1) c2] 80))
        have Q2 := Lib.hid (q2.alloc (.cells #[.bool (sg 0), .slice A1 (sz 0) c1, .bool (sg 1), .slice A2 (sz 1) c2] 80))
        have ap0 : w.heap.size < w3.heap.size := (L0.out.below h3).lt
        have ap1 : w1.heap.size < w3.heap.size := (KS.out.below h3).lt
        clear h3 q1 q2 e1 e2 KS L0 LB
        go_wp2_with fail
        go_loopw [9, 11, 12, 13] (fun v9 v11 v12 v13 wr => ∃ (k t : Nat) (a b : Int) (A3 A4 : Option Addr) (c3 c4 : Nat), k ≤ 255 ∧ v13 = .int .i64 ((k : Int) + 1) ∧ v9 = .int .i64 t ∧ v11 = .int .i64 (SN h k) ∧ v12 = .int .i64 (SS h k) ∧ ots h n S k = (t, a, b) ∧
            Blk wr w3.heap.size [.bool (sg (a * a)), .slice A3 (sz (a * a)) c3, .bool (sg b), .slice A4 (sz b) c4] 80 ∧ At wr A3 c3 (a * a) ∧ At wr A4 c4 b ∧ Ow wr w1.heap.size 256 (hrow h) 27 ∧ Blk wr w.heap.size [.int .i64 x, .int .i64 y, .slice A n c] 24 ∧ Below w.heap.size w wr)
          (fun _ _ _ v13 _ => 256 - (intOf v13).toNat)
        case atStart => exact ⟨0, 0, 0, 1, A1, A2, c1, c2, by omega, rfl, rfl, rfl, rfl, rfl, KR.out, Q1.out, Q2.out, KS1.out, L1.out, LB1.out⟩
        case round =>
          clear KR Q1 Q2 KS1 L1 LB1 k0
          obtain ⟨k, t, a, b, A3, A4, c3, c4, hk, rfl, rfl, rfl, rfl, ho, r1, r2, r3, r4, r5, r6⟩ := hrel
          have HO := Lib.hid ho
          have KR := Lib.hid r1
          have Q1 := Lib.hid r2
          have Q2 := Lib.hid r3
          have KS := Lib.hid r4
          have L0 := Lib.hid r5
          have LB := Lib.hid r6
          have kr := r1.four
          have k0 := r5.three
          clear ho r1 r2 r3 r4 r5 r6
          by_cases hlt : k < 255
          · have cC := KS.out.cell k (by omega)
            have b1 := HSB2.out k (by omega)
            have b2 := HSB2.out (k + 1) (by omega)
            have b3 := HCB2.out k
            have HQ0 := Lib.hid (HDB.out (k + 1) (by omega)).2.1
            have HD0 := Lib.hid (HDB.out (k + 1) (by omega))
            have HOK := Lib.hid (HOB.out k (by omega))
            have e1 : SN h (k + 1) = SN h k + h k := rfl
            have e2 : SS h (k + 1) = SS h k + k * h k := rfl
            unfold hrow at cC
            obtain ⟨C, eC⟩ : ∃ C, h k = C := ⟨_, rfl⟩
            obtain ⟨M, eM⟩ : ∃ M, SS h k = M := ⟨_, rfl⟩
            obtain ⟨N, eN⟩ : ∃ N, SN h k = N := ⟨_, rfl⟩
            rw [eC] at cC b3 e1 e2
            rw [eM] at b1 e2 ⊢
            rw [eN] at b1 e1 ⊢
            have hX : 0 ≤ (k : Int) * C := Int.mul_nonneg (by omega) b3.1
            rw [e1, e2] at b2
            have HST := Lib.hid (fun q => ots_step h n S k q a b t HO.out)
            have E1 := Lib.hid e1
            have E2 := Lib.hid e2
            clear eC eM eN e1 e2 HDB HOB
            go_wp2_with fail
            refine (HV.out (N + C) (M + k * C) (n - (N + C)) (S - (M + k * C)) _ (by omega) (by omega) (by omega) (by omega)).mono ?_
            rintro e w4 ⟨A5, c5, A6, c6, rfl, q1, q2, h3⟩
            have HST2 := Lib.hid (HST.out HQ0.out)
            rw [E1.out, E2.out] at HST2
            have hsz := vsq_sz (N + C) (M + k * C) (n - (N + C)) (S - (M + k * C)) (by omega) (by omega) (by omega) (by omega)
            have hok := HOK.out
            rw [HO.out] at hok
            dsimp only at hok
            have hsa := sz_small hok.2.1
            have hsaa : sz (a * a) ≤ 200 := Nat.le_trans (Bd.sz ((Bd.of_sz hsa).mul (Bd.of_sz hsa))) (by omega)
            have hsb : sz b ≤ 200 := Nat.le_trans (sz_small (by omega)) (show 2 ≤ 200 by omega)
            obtain ⟨U, eU⟩ : ∃ U, vsq (N + C) (M + k * C) (n - (N + C)) (S - (M + k * C)) = U := ⟨_, rfl⟩
            obtain ⟨Y, eY⟩ : ∃ Y, vby (N + C) (n - (N + C)) = Y := ⟨_, rfl⟩
            rw [eU, eY] at HST2
            rw [eU] at q1 hsz ⊢
            rw [eY] at q2 hsz ⊢
            have L1 := Lib.hid ((L0.out.below h3).alloc (.cells #[.bool (sg U), .slice A5 (sz U) c5, .bool (sg Y), .slice A6 (sz Y) c6] 80))
            have KS1 := Lib.hid ((KS.out.below h3).alloc (.cells #[.bool (sg U), .slice A5 (sz U) c5, .bool (sg Y), .slice A6 (sz Y) c6] 80))
            have LB1 := Lib.hid (balloc (bthen LB.out h3) (.cells #[.bool (sg U), .slice A5 (sz U) c5, .bool (sg Y), .slice A6 (sz Y) c6] 80))
            have KR1 := Lib.hid ((KR.out.below h3).alloc (.cells #[.bool (sg U), .slice A5 (sz U) c5, .bool (sg Y), .slice A6 (sz Y) c6] 80))
            have KN := Lib.hid (Blk.new w4 [.bool (sg U), .slice A5 (sz U) c5, .bool (sg Y), .slice A6 (sz Y) c6] 80)
            have P1 := Lib.hid ((Q1.out.below h3).alloc (.cells #[.bool (sg U), .slice A5 (sz U) c5, .bool (sg Y), .slice A6 (sz Y) c6] 80))
            have P2 := Lib.hid ((Q2.out.below h3).alloc (.cells #[.bool (sg U), .slice A5 (sz U) c5, .bool (sg Y), .slice A6 (sz Y) c6] 80))
            have P3 := Lib.hid (q1.alloc (.cells #[.bool (sg U), .slice A5 (sz U) c5, .bool (sg Y), .slice A6 (sz Y) c6] 80))
            have P4 := Lib.hid (q2.alloc (.cells #[.bool (sg U), .slice A5 (sz U) c5, .bool (sg Y), .slice A6 (sz Y) c6] 80))
            have ap2 : w3.heap.size < w4.heap.size := (KR.out.below h3).lt
            have kr1 := KR1.out.four
            have kn := KN.out.four
            clear h3 q1 q2 eU eY KR KS L0 LB Q1 Q2 kr k0
            go_wp2_with fail
            refine (greater_ok U Y (a * a) b A5 A6 A3 A4 c5 c6 c3 c4 _ P3.out P4.out P1.out P2.out hsz.1 hsz.2 hsaa hsb).mono ?_
            rintro e w5 ⟨rfl, h3⟩
            replace L1 := Lib.hid (L1.out.below h3)
            replace KS1 := Lib.hid (KS1.out.below h3)
            replace LB1 := Lib.hid (bthen LB1.out h3)
            replace KR1 := Lib.hid (KR1.out.below h3)
            replace KN := Lib.hid (KN.out.below h3)
            replace P1 := Lib.hid (P1.out.below h3)
            replace P2 := Lib.hid (P2.out.below h3)
            replace P3 := Lib.hid (P3.out.below h3)
            replace P4 := Lib.hid (P4.out.below h3)
            clear h3 kr1 kn
            have kr1 := KR1.out.four
            have kn := KN.out.four
            rcases HST2.out with ⟨hc, ho, hu1, hu2⟩ | ⟨hc, ho⟩
            · have hd := decide_eq_true hc
              have HO2 := Lib.hid ho
              have HU1 := Lib.hid hu1
              have HU2 := Lib.hid hu2
              clear hc ho hu1 hu2 HST HST2
              rw [hd]
              go_wp2_with fail
              go_region
              go_wp2_with fail
              exact ⟨⟨k + 1, k + 1, dF h n S (k + 1), qF h n (k + 1), A5, A6, c5, c6, by omega, by go_num, by go_num, by rw [E1.out], by rw [E2.out], HO2.out,
                by rw [← HU1.out, ← HU2.out]; exact (KR1.out.store4 _ _ _ _).drew, by rw [← HU1.out]; exact (P3.out.store4 KR1.out _ _ _ _ _ _ _ _).drew, by rw [← HU2.out]; exact (P4.out.store4 KR1.out _ _ _ _ _ _ _ _).drew,
                ((((KS1.out.far (by omega) _ _).far (by omega) _ _).far (by omega) _ _).far (by omega) _ _).drew, ((((L1.out.far (by omega) _ _).far (by omega) _ _).far (by omega) _ _).far (by omega) _ _).drew, (below_store4 LB1.out (by omega) _ _ _ _).drew⟩, by simp [intOf]; omega⟩
            · have hd : decide (a * a * Y < U * b) = false := decide_eq_false (by omega)
              have HO2 := Lib.hid ho
              clear hc ho HST HST2
              rw [hd]
              go_wp2_with fail
              exact ⟨⟨k + 1, t, a, b, A3, A4, c3, c4, by omega, by go_num, rfl, by rw [E1.out], by rw [E2.out], HO2.out, KR1.out, P1.out, P2.out, KS1.out, L1.out, LB1.out⟩, by simp [intOf]; omega⟩
          · obtain rfl : k = 255 := by omega
            go_wp2_with fail
            go_ret2
            exact ⟨by rw [← ER.out, HO.out]; rfl, LB.out⟩
end Go.Proofs.Ytjhdjmlaidpjfaa.B
