/- threshold.Local: the bitmap of the pixels whose values are below a percentage of the mean around them. -/
import Derived.Test.YtjhdjmlaidpjfaaIntegral
import Derived.Lib.MinMax
set_option linter.unusedVariables false
namespace Go.Proofs.Ytjhdjmlaidpjfaa.B
open Go.RowKit
/-- The ends of a window around a. -/
def lo (a : Nat) (r : Int) : Nat := (max 0 ((a : Int) - r)).toNat
def hi (a m : Nat) (r : Int) : Nat := (min (m : Int) ((a : Int) + r + 1)).toNat
theorem lo_eq (a : Nat) (r : Int) (hr : 0 ≤ r) : max 0 ((a : Int) - r) = (lo a r : Int) ∧ lo a r ≤ a := by unfold lo; omega
theorem hi_eq (a m : Nat) (r : Int) (hr : 0 ≤ r) (ha : a < m) : min (m : Int) ((a : Int) + r + 1) = (hi a m r : Int) ∧ hi a m r ≤ m ∧ a < hi a m r := by unfold hi; omega
/-- The sum of the values in a window. -/
def win (p : Nat → Int) (W : Nat) (L R T B : Nat) : Int := ig p W B R - ig p W T R - ig p W B L + ig p W T L
/-- Is pixel i below the percentage of the mean around it? -/
def lcl (p : Nat → Int) (W H : Nat) (r pc : Int) (i : Nat) : Bool :=
  decide (100 * (((hi (i % W) W r : Int) - lo (i % W) r) * ((hi (i / W) H r : Int) - lo (i / W) r)) * p i < pc * win p W (lo (i % W) r) (hi (i % W) W r) (lo (i / W) r) (hi (i / W) H r))
/-- Are the numbers in their ranges? -/
def lok (r pc : Int) : Bool := decide (0 ≤ r ∧ r ≤ 4096 ∧ 0 ≤ pc ∧ pc ≤ 200)
set_option maxHeartbeats 4000000 in
set_option maxRecDepth 100000 in
theorem local_any (x y r pc : Int) (A : Option Addr) (n c : Nat) (p : Nat → Int) (w : World) (hA : Ro w A n (fun i => .int .u8 (p i))) (hp : ∀ i, 0 ≤ p i ∧ p i < 256) (hn : n ≤ c) :
    Calls Try.prog 26 #[.agg #[.int .i64 x, .int .i64 y, .slice A n c], .int .i64 r, .int .i64 pc] w
      (MatIf (sound x y n && lok r pc) x y n (lcl p x.toNat y.toNat r pc) (if sound x y n then 3 else 1) w) := by
  have hu := Try.underlying24
  have hu2 := Try.underlying35
  have HI := Lib.hid (fun w1 h => integral_any x y A n c p w1 h hp hn)
  have K0 := Lib.hid ((Blk.new w [.int .i64 x, .int .i64 y, .slice A n c] 24).alloc (.cells #[.int .i64 0, .int .i64 0, .slice none 0 0] 35))
  have K1 := Lib.hid (Blk.new1 w (.cells #[.int .i64 x, .int .i64 y, .slice A n c] 24) [.int .i64 0, .int .i64 0, .slice none 0 0] 35)
  have HB := Lib.hid (balloc (bbox (w := w) (.cells #[.int .i64 x, .int .i64 y, .slice A n c] 24)) (.cells #[.int .i64 0, .int .i64 0, .slice none 0 0] 35))
  have HA := Lib.hid hA
  cases hs : sound x y n with
  | false =>
    rw [hs] at HI
    rw [Bool.false_and]
    unfold MatIf
    unfold IntsIf at HI
    simp only [Bool.false_eq_true, if_false] at HI ⊢
    clear hA hp hs
    go_enter Try.func26, Try.ntmps26
    go_wp2_with fail
    refine (HI.out _ ((HA.out.alloc _).alloc _)).mono ?_
    rintro e w1 ⟨A2, c2, rfl, _, _, h1⟩
    have L1 := Lib.hid (K1.out.below h1)
    have LB := Lib.hid (bthen HB.out h1)
    clear h1
    have l1 := L1.out.three
    go_wp2_with fail
    exact bodyPost_ret (res_mat rfl _ _ (w.heap.size + 1) _ _ _ rfl (L1.out.store3 _ _ _)) rfl ⟨none, 0, rfl, Nat.le_refl _, Ro.nil _ _ _, OnlyAbove.store3 LB.out (by omega) _ _ _⟩
  | true =>
    rw [hs] at HI
    unfold IntsIf at HI
    simp only [if_true] at HI
    cases hl : lok r pc with
    | false =>
      simp only [Bool.and_false, if_true]
      unfold MatIf
      simp only [Bool.false_eq_true, if_false]
      have hl2 : ¬ (0 ≤ r ∧ r ≤ 4096 ∧ 0 ≤ pc ∧ pc ≤ 200) := of_decide_eq_false hl
      clear hA hp hs hl
      by_cases q1 : r < 0
      · clear hl2
        go_enter Try.func26, Try.ntmps26
        go_wp2_with fail
        refine (HI.out _ ((HA.out.alloc _).alloc _)).mono ?_
        rintro e w1 ⟨A2, c2, rfl, _, _, h1⟩
        have L1 := Lib.hid (K1.out.below h1)
        have LB := Lib.hid (bthen HB.out h1)
        clear h1
        have l1 := L1.out.three
        go_wp2_with fail
        exact bodyPost_ret (res_mat rfl _ _ (w.heap.size + 1) _ _ _ rfl (L1.out.store3 _ _ _)) rfl ⟨none, 0, rfl, Nat.le_refl _, Ro.nil _ _ _, OnlyAbove.store3 LB.out (by omega) _ _ _⟩
      · by_cases q2 : 4096 < r
        · clear hl2
          go_enter Try.func26, Try.ntmps26
          go_wp2_with fail
          refine (HI.out _ ((HA.out.alloc _).alloc _)).mono ?_
          rintro e w1 ⟨A2, c2, rfl, _, _, h1⟩
          have L1 := Lib.hid (K1.out.below h1)
          have LB := Lib.hid (bthen HB.out h1)
          clear h1
          have l1 := L1.out.three
          go_wp2_with fail
          exact bodyPost_ret (res_mat rfl _ _ (w.heap.size + 1) _ _ _ rfl (L1.out.store3 _ _ _)) rfl ⟨none, 0, rfl, Nat.le_refl _, Ro.nil _ _ _, OnlyAbove.store3 LB.out (by omega) _ _ _⟩
        · by_cases q3 : pc < 0
          · clear hl2
            go_enter Try.func26, Try.ntmps26
            go_wp2_with fail
            refine (HI.out _ ((HA.out.alloc _).alloc _)).mono ?_
            rintro e w1 ⟨A2, c2, rfl, _, _, h1⟩
            have L1 := Lib.hid (K1.out.below h1)
            have LB := Lib.hid (bthen HB.out h1)
            clear h1
            have l1 := L1.out.three
            go_wp2_with fail
            exact bodyPost_ret (res_mat rfl _ _ (w.heap.size + 1) _ _ _ rfl (L1.out.store3 _ _ _)) rfl ⟨none, 0, rfl, Nat.le_refl _, Ro.nil _ _ _, OnlyAbove.store3 LB.out (by omega) _ _ _⟩
          · have q4 : 200 < pc := by omega
            clear hl2
            go_enter Try.func26, Try.ntmps26
            go_wp2_with fail
            refine (HI.out _ ((HA.out.alloc _).alloc _)).mono ?_
            rintro e w1 ⟨A2, c2, rfl, _, _, h1⟩
            have L1 := Lib.hid (K1.out.below h1)
            have LB := Lib.hid (bthen HB.out h1)
            clear h1
            have l1 := L1.out.three
            go_wp2_with fail
            exact bodyPost_ret (res_mat rfl _ _ (w.heap.size + 1) _ _ _ rfl (L1.out.store3 _ _ _)) rfl ⟨none, 0, rfl, Nat.le_refl _, Ro.nil _ _ _, OnlyAbove.store3 LB.out (by omega) _ _ _⟩
    | true =>
      have hl2 : 0 ≤ r ∧ r ≤ 4096 ∧ 0 ≤ pc ∧ pc ≤ 200 := of_decide_eq_true hl
      obtain ⟨hr1, hr2, hc1, hc2⟩ := hl2
      have hb : (errB true != 0) = false := rfl
      have q1 : decide (r < 0) = false := decide_eq_false (by omega)
      have q2 : decide (4096 < r) = false := decide_eq_false (by omega)
      have q3 : decide (pc < 0) = false := decide_eq_false (by omega)
      have q4 : decide (200 < pc) = false := decide_eq_false (by omega)
      have hsd := sound_bd hs
      obtain ⟨W, rfl⟩ : ∃ W : Nat, x = W := ⟨x.toNat, by omega⟩
      obtain ⟨H, rfl⟩ : ∃ H : Nat, y = H := ⟨y.toNat, by omega⟩
      obtain ⟨hw1, hw2, hh1, hh2, hnm, hn1, hn2⟩ := hsd
      rw [show (W : Int).toNat = W from rfl, show (H : Int).toNat = H from rfl]
      rw [show (W : Int).toNat = W from rfl, show (H : Int).toNat = H from rfl] at HI
      simp only [Bool.and_self]
      unfold MatIf
      simp only [if_true]
      obtain ⟨D, hD⟩ : ∃ D, W + 1 = D := ⟨_, rfl⟩
      have hDi : (W : Int) + 1 = (D : Int) := by omega
      obtain ⟨N, hN⟩ : ∃ N, D * (H + 1) = N := ⟨_, rfl⟩
      have hNb : N ≤ 4097 * 4097 := by rw [← hN]; exact Nat.mul_le_mul (by omega) (by omega)
      rw [hD, hN] at HI
      have hmk := fun w9 => run_make_bool w9 n n (by omega) rfl
      have HP := Lib.hid hp
      have HD := Lib.hid hD
      have HN := Lib.hid hN
      have HNM := Lib.hid hnm
      clear hA hp hs hN hnm hl
      go_enter Try.func26, Try.ntmps26
      go_wp2_with fail
      refine (HI.out _ ((HA.out.alloc _).alloc _)).mono ?_
      rintro e w1 ⟨A2, c2, rfl, hN2, g1, h1⟩
      have L0 := Lib.hid (K0.out.below h1)
      have L1 := Lib.hid (K1.out.below h1)
      have LB := Lib.hid (bthen HB.out h1)
      have HS := Lib.hid g1
      clear h1 g1
      have l0 := L0.out.three
      go_upto_region 7 with fail
      go_cut [11] (fun s11 wx => ∃ gm gr, s11 = .pointer (some ⟨gm, 0, none⟩) ∧ Hid (MadeTwo w1 wx gm gr n W H))
      case first =>
        go_region
        all_goals go_wp2_with fail
        all_goals go_meet
        all_goals first
          | exact ⟨_, _, rfl, Lib.hid (madeA w1 n W H)⟩
          | exact ⟨_, _, rfl, Lib.hid (madeB w1 n W H)⟩
      case rest =>
        clear hmk l0 K0 K1 HB HI
        obtain ⟨gm, gr, rfl, M⟩ := hcut
        have ap := M.out.apart
        have ap1 : w.heap.size < gm := Nat.lt_of_lt_of_le L0.out.lt M.out.mfar
        have ap2 : w.heap.size < gr := Nat.lt_of_lt_of_le L0.out.lt M.out.rfar
        have ap3 : w.heap.size + 1 < gm := Nat.lt_of_lt_of_le L1.out.lt M.out.mfar
        have ap4 : w.heap.size + 1 < gr := Nat.lt_of_lt_of_le L1.out.lt M.out.rfar
        have ap5 := M.out.mfar
        have ap6 := M.out.rfar
        have S0 := Lib.hid (L0.out.below M.out.below)
        have s0 := S0.out.three
        have SM := Lib.hid M.out.mat
        have SR := Lib.hid M.out.row
        have SB := Lib.hid M.out.below
        clear M
        go_wp2_with fail
        go_loopw [61] (fun v61 wr => ∃ (i : Nat), i ≤ n ∧ v61 = .int .i64 i ∧ Blk wr gm [.int .i64 W, .int .i64 H, .slice (some ⟨gr, 0, none⟩) n n] 35 ∧ Ow wr gr n (fun j => .bool (if j < i then lcl p W H r pc j else false)) 4 ∧ Below w1.heap.size w1 wr) (fun v61 _ => n - (intOf v61).toNat)
        case atStart => exact ⟨0, by omega, rfl, SM.out, SR.out.congr (fun j hj => by rw [if_neg (by omega)]), SB.out⟩
        case round =>
          clear S0 SM SR SB s0
          obtain ⟨i, hii, rfl, r1, r2, r3⟩ := hrel
          have SM := Lib.hid r1
          have SR := Lib.hid r2
          have SB := Lib.hid r3
          have sm := r1.three
          clear r1 r2 r3
          by_cases hlt : i < n
          · have S0 := Lib.hid (L0.out.below SB.out)
            have s0 := S0.out.three
            obtain ⟨b, off, rfl, hs, hc⟩ := HA.out (by omega)
            have c1 := ((bthen LB.out SB.out).cell (p := ⟨b, off + i, none⟩) hs).trans (hc i hlt)
            have hP := HP.out i
            have c2 := SR.out.cell i hlt
            have f2 := SR.out.frozen i
            dsimp only at c1 c2
            obtain ⟨q, hq⟩ : ∃ q, p i = q := ⟨_, rfl⟩
            rw [hq] at c1 hP
            clear hc
            have hWp : 0 < (W : Int) := by omega
            have hiW : i < H * W := by
              have h2 : ((H * W : Nat) : Int) = n := by rw [HNM.out, Nat.mul_comm]; simp
              omega
            obtain ⟨a, ha⟩ : ∃ a, i % W = a := ⟨_, rfl⟩
            obtain ⟨v, hv⟩ : ∃ v, i / W = v := ⟨_, rfl⟩
            have haW : a < W := by rw [← ha]; exact Nat.mod_lt _ (by omega)
            have hvH : v < H := by rw [← hv]; exact Nat.div_lt_of_lt_mul (by rw [Nat.mul_comm]; exact hiW)
            have hai : (i : Int) % (W : Int) = (a : Int) := by rw [← ha]; rfl
            have hvi : (i : Int) / (W : Int) = (v : Int) := by rw [← hv]; rfl
            obtain ⟨hL, hL2⟩ := lo_eq a r hr1
            obtain ⟨hT, hT2⟩ := lo_eq v r hr1
            obtain ⟨hR, hR2, hR3⟩ := hi_eq a W r hr1 haW
            obtain ⟨hB, hB2, hB3⟩ := hi_eq v H r hr1 hvH
            have hlc : lcl p W H r pc i = decide (100 * (((hi a W r : Int) - lo a r) * ((hi v H r : Int) - lo v r)) * p i < pc * win p W (lo a r) (hi a W r) (lo v r) (hi v H r)) := by rw [← ha, ← hv]; rfl
            obtain ⟨L, eL⟩ : ∃ L, lo a r = L := ⟨_, rfl⟩
            obtain ⟨T, eT⟩ : ∃ T, lo v r = T := ⟨_, rfl⟩
            obtain ⟨R, eR⟩ : ∃ R, B.hi a W r = R := ⟨_, rfl⟩
            obtain ⟨O, eO⟩ : ∃ O, B.hi v H r = O := ⟨_, rfl⟩
            rw [eL] at hL hL2 hlc
            rw [eT] at hT hT2 hlc
            rw [eR] at hR hR2 hR3 hlc
            rw [eO] at hB hB2 hB3 hlc
            obtain ⟨OD, eOD⟩ : ∃ OD, O * D = OD := ⟨_, rfl⟩
            obtain ⟨TD, eTD⟩ : ∃ TD, T * D = TD := ⟨_, rfl⟩
            have hOD : (O : Int) * (D : Int) = (OD : Int) := by rw [← eOD]; simp
            have hTD : (T : Int) * (D : Int) = (TD : Int) := by rw [← eTD]; simp
            have hODN : OD + D ≤ N := by
              have h1 : (O + 1) * D ≤ (H + 1) * D := Nat.mul_le_mul_right D (by omega)
              rw [← HN.out, Nat.mul_comm D, ← eOD]
              rwa [Nat.add_mul, Nat.one_mul] at h1
            have hTDO : TD ≤ OD := by rw [← eOD, ← eTD]; exact Nat.mul_le_mul_right D (by omega)
            obtain ⟨b2, off2, rfl, hs2, hc2⟩ := HS.out (by omega)
            have hDW := HD.out
            have d1 := ((SB.out).cell (p := ⟨b2, off2 + (OD + R), none⟩) hs2).trans (hc2 (OD + R) (by omega))
            have d2 := ((SB.out).cell (p := ⟨b2, off2 + (TD + R), none⟩) hs2).trans (hc2 (TD + R) (by omega))
            have d3 := ((SB.out).cell (p := ⟨b2, off2 + (OD + L), none⟩) hs2).trans (hc2 (OD + L) (by omega))
            have d4 := ((SB.out).cell (p := ⟨b2, off2 + (TD + L), none⟩) hs2).trans (hc2 (TD + L) (by omega))
            dsimp only at d1 d2 d3 d4
            rw [← eOD, ← hDW, sumf_at p W O R (by omega), hDW, eOD] at d1
            rw [← eTD, ← hDW, sumf_at p W T R (by omega), hDW, eTD] at d2
            rw [← eOD, ← hDW, sumf_at p W O L (by omega), hDW, eOD] at d3
            rw [← eTD, ← hDW, sumf_at p W T L (by omega), hDW, eTD] at d4
            have b1 := ig_bd p HP.out W R (by omega) O
            have b3 := ig_bd p HP.out W R (by omega) T
            have b4 := ig_bd p HP.out W L (by omega) O
            have b5 := ig_bd p HP.out W L (by omega) T
            unfold win at hlc
            obtain ⟨I1, e1⟩ : ∃ I, ig p W O R = I := ⟨_, rfl⟩
            obtain ⟨I2, e2⟩ : ∃ I, ig p W T R = I := ⟨_, rfl⟩
            obtain ⟨I3, e3⟩ : ∃ I, ig p W O L = I := ⟨_, rfl⟩
            obtain ⟨I4, e4⟩ : ∃ I, ig p W T L = I := ⟨_, rfl⟩
            rw [e1] at d1 b1 hlc
            rw [e2] at d2 b3 hlc
            rw [e3] at d3 b4 hlc
            rw [e4] at d4 b5 hlc
            rw [hq] at hlc
            obtain ⟨NN, eNN⟩ : ∃ NN, ((R : Int) - (L : Int)) * ((O : Int) - (T : Int)) = NN := ⟨_, rfl⟩
            have bNN : 0 ≤ NN ∧ NN ≤ 4096 * 4096 := by
              rw [← eNN]
              exact ⟨Int.mul_nonneg (by omega) (by omega), Int.mul_le_mul (by omega) (by omega) (by omega) (by omega)⟩
            rw [eNN] at hlc
            have bX : 0 ≤ 100 * NN * q ∧ 100 * NN * q ≤ 100 * (4096 * 4096) * 255 := ⟨Int.mul_nonneg (by omega) hP.1, Int.mul_le_mul (by omega) (by omega) hP.1 (by omega)⟩
            have bY : -(200 * 17112760320) ≤ pc * (I1 - I2 - I3 + I4) ∧ pc * (I1 - I2 - I3 + I4) ≤ 200 * 17112760320 := by
              have h5 : pc * (I1 - I2 - I3 + I4) ≤ pc * 17112760320 := Int.mul_le_mul_of_nonneg_left (by omega) hc1
              have h6 : pc * (-17112760320) ≤ pc * (I1 - I2 - I3 + I4) := Int.mul_le_mul_of_nonneg_left (by omega) hc1
              omega
            have HLC := Lib.hid hlc
            clear ha hv eL eT eR eO hlc hiW eOD eTD hc2 e1 e2 e3 e4 hq
            have hWz : ((W : Int) == 0) = false := by simp; omega
            go_wp2_with fail
            go_quiet (fail)
            go_wp2_with fail
            go_region
            go_wp2_with fail
            go_region
            go_wp2_with fail
            go_quiet (fail)
            go_wp2_with fail
            have hbl := fun k => below_drewN SB.out k
            exact ⟨⟨i + 1, by omega, by go_num, (show Blk (wr.drewN _) _ _ _ from SM.out).far ap _ _, ((show Ow (wr.drewN _) _ _ _ _ from SR.out).set i _).congr (fun j hj => by
              unfold upd
              by_cases hji : j = i
              · subst hji; rw [if_pos rfl, if_pos (by omega), HLC.out]
              · rw [if_neg hji]
                dsimp only
                by_cases hj2 : j < i
                · rw [if_pos hj2, if_pos (by omega)]
                · rw [if_neg hj2, if_neg (by omega)]), (hbl _).setCell (p := ⟨gr, i, none⟩) (by simp; omega) _⟩, by simp [intOf]; omega⟩
          · obtain rfl : i = n := by omega
            have S1 := Lib.hid (L1.out.below SB.out)
            have s1 := S1.out.three
            go_wp2_with fail
            exact bodyPost_ret (res_mat rfl _ _ (w.heap.size + 1) _ _ _ rfl (S1.out.store3 _ _ _)) rfl ⟨_, _, rfl, Nat.le_refl _, by
              have hr := ((((SR.out.far (b := w.heap.size + 1) (by omega) 0 (.int .i64 W)).far (b := w.heap.size + 1) (by omega) 1 (.int .i64 H)).far (b := w.heap.size + 1) (by omega) 2 (.slice (some ⟨gr, 0, none⟩) i i))).ro
              exact hr.congr (fun j hj => by rw [if_pos hj]), OnlyAbove.store3 (bthen LB.out SB.out) (by omega) _ _ _⟩
end Go.Proofs.Ytjhdjmlaidpjfaa.B
