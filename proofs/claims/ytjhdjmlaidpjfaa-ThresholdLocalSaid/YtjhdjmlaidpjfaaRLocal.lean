/- The reference's Local. -/
import Derived.Test.YtjhdjmlaidpjfaaLocal
import Derived.Test.YtjhdjmlaidpjfaaRIntegral
import Derived.Test.YtjhdjmlaidpjfaaApp2
import Derived.Deep.RegionLaw
import Derived.Deep.RegionHeld3
import Derived.Test.YtjhdjmlaidpjfaaLast
import Derived.Lib.MinMax
set_option linter.unusedVariables false
namespace Go.Proofs.Ytjhdjmlaidpjfaa.B
open Go.RowKit
set_option maxHeartbeats 4000000 in
set_option maxRecDepth 100000 in
theorem rlocal_any (x y r pc : Int) (A : Option Addr) (n c : Nat) (p : Nat → Int) (w : World) (hA : Ro w A n (fun i => .int .u8 (p i))) (hp : ∀ i, 0 ≤ p i ∧ p i < 256) (hn : n ≤ c) :
    Calls Try.prog 27 #[.agg #[.int .i64 x, .int .i64 y, .slice A n c], .int .i64 r, .int .i64 pc] w
      (MatIf (sound x y n && lok r pc) x y n (lcl p x.toNat y.toNat r pc) (if sound x y n then 3 else 1) w) := by
  have hu := Try.underlying24
  have hu2 := Try.underlying35
  have HI := Lib.hid (fun w1 h => rintegral_any x y A n c p w1 h hp hn)
  have K0 := Lib.hid ((Blk.new w [.int .i64 x, .int .i64 y, .slice A n c] 24).alloc (.cells #[.int .i64 0, .int .i64 0, .slice none 0 0] 35))
  have K1 := Lib.hid (Blk.new1 w (.cells #[.int .i64 x, .int .i64 y, .slice A n c] 24) [.int .i64 0, .int .i64 0, .slice none 0 0] 35)
  have HB := Lib.hid (balloc (bbox (w := w) (.cells #[.int .i64 x, .int .i64 y, .slice A n c] 24)) (.cells #[.int .i64 0, .int .i64 0, .slice none 0 0] 35))
  have HA := Lib.hid hA
  cases hs : sound x y n with
  | false =>
    rw [hs] at HI
    rw [Bool.false_and]
    unfold MatIf
    unfold IntsIf at HI
    simp only [Bool.false_eq_true, if_false] at HI ⊢
    clear hA hp hs
    go_enter Try.func27, Try.ntmps27
    go_wp2_with fail
    refine (HI.out _ ((HA.out.alloc _).alloc _)).mono ?_
    rintro e w1 ⟨A2, c2, rfl, _, _, h1⟩
    have L1 := Lib.hid (K1.out.below h1)
    have LB := Lib.hid (bthen HB.out h1)
    clear h1
    have l1 := L1.out.three
    go_wp2_with fail
    exact bodyPost_ret (res_mat rfl _ _ (w.heap.size + 1) _ _ _ rfl (L1.out.store3 _ _ _)) rfl ⟨none, 0, rfl, Nat.le_refl _, Ro.nil _ _ _, OnlyAbove.store3 LB.out (by omega) _ _ _⟩
  | true =>
    rw [hs] at HI
    unfold IntsIf at HI
    simp only [if_true] at HI
    cases hl : lok r pc with
    | false =>
      simp only [Bool.and_false, if_true]
      unfold MatIf
      simp only [Bool.false_eq_true, if_false]
      have hl2 : ¬ (0 ≤ r ∧ r ≤ 4096 ∧ 0 ≤ pc ∧ pc ≤ 200) := of_decide_eq_false hl
      clear hA hp hs hl
      by_cases q1 : r < 0
      · clear hl2
        go_enter Try.func27, Try.ntmps27
        go_wp2_with fail
        refine (HI.out _ ((HA.out.alloc _).alloc _)).mono ?_
        rintro e w1 ⟨A2, c2, rfl, _, _, h1⟩
        have L1 := Lib.hid (K1.out.below h1)
        have LB := Lib.hid (bthen HB.out h1)
        clear h1
        have l1 := L1.out.three
        go_wp2_with fail
        exact bodyPost_ret (res_mat rfl _ _ (w.heap.size + 1) _ _ _ rfl (L1.out.store3 _ _ _)) rfl ⟨none, 0, rfl, Nat.le_refl _, Ro.nil _ _ _, OnlyAbove.store3 LB.out (by omega) _ _ _⟩
      · by_cases q2 : 4096 < r
        · clear hl2
          go_enter Try.func27, Try.ntmps27
          go_wp2_with fail
          refine (HI.out _ ((HA.out.alloc _).alloc _)).mono ?_
          rintro e w1 ⟨A2, c2, rfl, _, _, h1⟩
          have L1 := Lib.hid (K1.out.below h1)
          have LB := Lib.hid (bthen HB.out h1)
          clear h1
          have l1 := L1.out.three
          go_wp2_with fail
          exact bodyPost_ret (res_mat rfl _ _ (w.heap.size + 1) _ _ _ rfl (L1.out.store3 _ _ _)) rfl ⟨none, 0, rfl, Nat.le_refl _, Ro.nil _ _ _, OnlyAbove.store3 LB.out (by omega) _ _ _⟩
        · by_cases q3 : pc < 0
          · clear hl2
            go_enter Try.func27, Try.ntmps27
            go_wp2_with fail
            refine (HI.out _ ((HA.out.alloc _).alloc _)).mono ?_
            rintro e w1 ⟨A2, c2, rfl, _, _, h1⟩
            have L1 := Lib.hid (K1.out.below h1)
            have LB := Lib.hid (bthen HB.out h1)
            clear h1
            have l1 := L1.out.three
            go_wp2_with fail
            exact bodyPost_ret (res_mat rfl _ _ (w.heap.size + 1) _ _ _ rfl (L1.out.store3 _ _ _)) rfl ⟨none, 0, rfl, Nat.le_refl _, Ro.nil _ _ _, OnlyAbove.store3 LB.out (by omega) _ _ _⟩
          · have q4 : 200 < pc := by omega
            clear hl2
            go_enter Try.func27, Try.ntmps27
            go_wp2_with fail
            refine (HI.out _ ((HA.out.alloc _).alloc _)).mono ?_
            rintro e w1 ⟨A2, c2, rfl, _, _, h1⟩
            have L1 := Lib.hid (K1.out.below h1)
            have LB := Lib.hid (bthen HB.out h1)
            clear h1
            have l1 := L1.out.three
            go_wp2_with fail
            exact bodyPost_ret (res_mat rfl _ _ (w.heap.size + 1) _ _ _ rfl (L1.out.store3 _ _ _)) rfl ⟨none, 0, rfl, Nat.le_refl _, Ro.nil _ _ _, OnlyAbove.store3 LB.out (by omega) _ _ _⟩
    | true =>
      have hl2 : 0 ≤ r ∧ r ≤ 4096 ∧ 0 ≤ pc ∧ pc ≤ 200 := of_decide_eq_true hl
      obtain ⟨hr1, hr2, hc1, hc2⟩ := hl2
      have hb : (errB true != 0) = false := rfl
      have hb0 : ((0 : Int) != 0) = false := rfl
      have q1 : decide (r < 0) = false := decide_eq_false (by omega)
      have q2 : decide (4096 < r) = false := decide_eq_false (by omega)
      have q3 : decide (pc < 0) = false := decide_eq_false (by omega)
      have q4 : decide (200 < pc) = false := decide_eq_false (by omega)
      have hsd := sound_bd hs
      obtain ⟨W, rfl⟩ : ∃ W : Nat, x = W := ⟨x.toNat, by omega⟩
      obtain ⟨H, rfl⟩ : ∃ H : Nat, y = H := ⟨y.toNat, by omega⟩
      obtain ⟨hw1, hw2, hh1, hh2, hnm, hn1, hn2⟩ := hsd
      rw [show (W : Int).toNat = W from rfl, show (H : Int).toNat = H from rfl]
      rw [show (W : Int).toNat = W from rfl, show (H : Int).toNat = H from rfl] at HI
      simp only [Bool.and_self]
      unfold MatIf
      simp only [if_true]
      obtain ⟨D, hD⟩ : ∃ D, W + 1 = D := ⟨_, rfl⟩
      have hDi : (W : Int) + 1 = (D : Int) := by omega
      obtain ⟨N, hN⟩ : ∃ N, D * (H + 1) = N := ⟨_, rfl⟩
      have hNb : N ≤ 4097 * 4097 := by rw [← hN]; exact Nat.mul_le_mul (by omega) (by omega)
      rw [hD, hN] at HI
      have HP := Lib.hid hp
      have HD := Lib.hid hD
      have HN := Lib.hid hN
      have HNM := Lib.hid hnm
      clear hA hp hs hN hnm hl
      go_enter Try.func27, Try.ntmps27
      go_wp2_with fail
      refine (HI.out _ ((HA.out.alloc _).alloc _)).mono ?_
      rintro e w1 ⟨A2, c2, rfl, hN2, g1, h1⟩
      have L0 := Lib.hid (K0.out.below h1)
      have L1 := Lib.hid (K1.out.below h1)
      have LB := Lib.hid (bthen HB.out h1)
      have HS := Lib.hid g1
      clear h1 g1
      have l0 := L0.out.three
      have apx : w.heap.size + 1 < w1.heap.size := L1.out.lt
      go_wp2_with fail
      have hHW : H * W = n := by
        have h2 : ((H * W : Nat) : Int) = n := by rw [HNM.out, Nat.mul_comm]; simp
        omega
      have HHW := Lib.hid hHW
      have KI0 := Lib.hid (Blk.new w1 [.int .i64 W, .int .i64 H, .slice none 0 0] 35)
      have LB0 := Lib.hid (bbox (w := w1) (.cells #[.int .i64 W, .int .i64 H, .slice none 0 0] 35))
      have HG0 := Lib.hid (Gw.nil (w1.alloc (.cells #[.int .i64 W, .int .i64 H, .slice none 0 0] 35)) (w1.heap.size + 1) 4 (fun j => .bool (lcl p W H r pc j)))
      clear K0 K1 HB HI l0 hHW
      go_loopw [12] (fun v12 wr => ∃ (Y : Nat) (V : Value), Y ≤ H ∧ v12 = .int .i64 Y ∧ Blk wr w1.heap.size [.int .i64 W, .int .i64 H, V] 35 ∧ Gw wr (w1.heap.size + 1) 4 V (Y * W) (fun j => .bool (lcl p W H r pc j)) ∧ w1.heap.size + 1 ≤ wr.heap.size ∧ Below w1.heap.size w1 wr) (fun v12 _ => H - (intOf v12).toNat)
      case atStart => exact ⟨0, _, by omega, rfl, KI0.out, by rw [Nat.zero_mul]; exact HG0.out, by rw [World.size_alloc]; omega, LB0.out⟩
      case round =>
        clear KI0 LB0 HG0
        obtain ⟨Y, V, hY, rfl, r1, r2, r3, r4⟩ := hrel
        have KI := Lib.hid r1
        have HG := Lib.hid r2
        have HZ := Lib.hid r3
        have SB := Lib.hid r4
        have S0 := Lib.hid (L0.out.below r4)
        have S1 := Lib.hid (L1.out.below r4)
        have s0 := S0.out.three
        clear r1 r2 r3 r4
        by_cases hlt : Y < H
        · go_wp2_with fail
          go_loopw [13] (fun v13 wr => ∃ (X : Nat) (V : Value), X ≤ W ∧ v13 = .int .i64 X ∧ Blk wr w1.heap.size [.int .i64 W, .int .i64 H, V] 35 ∧ Gw wr (w1.heap.size + 1) 4 V (Y * W + X) (fun j => .bool (lcl p W H r pc j)) ∧ w1.heap.size + 1 ≤ wr.heap.size ∧ Below w1.heap.size w1 wr) (fun v13 _ => W - (intOf v13).toNat)
          case atStart => exact ⟨0, _, by omega, rfl, KI.out, HG.out, HZ.out, SB.out⟩
          case round =>
            clear KI HG HZ SB S0 S1 s0
            obtain ⟨X, V, hX, rfl, r1, r2, r3, r4⟩ := hrel
            obtain ⟨A9, c9, hV9, hc9, hR9⟩ := r2.shape
            subst hV9
            have KI := Lib.hid r1
            have HG := Lib.hid r2
            have HZ := Lib.hid r3
            have SB := Lib.hid r4
            have S0 := Lib.hid (L0.out.below r4)
            have s0 := S0.out.three
            have ki := r1.three
            clear r1 r2 r3 r4 hR9
            by_cases hltx : X < W
            · obtain ⟨P, eP⟩ : ∃ P, Y * W = P := ⟨_, rfl⟩
              have hPi : (Y : Int) * (W : Int) = (P : Int) := by rw [← eP]; simp
              have hPn : P + W ≤ n := by
                have h1 : (Y + 1) * W ≤ H * W := Nat.mul_le_mul_right W hlt
                rw [HHW.out, Nat.add_mul] at h1
                omega
              rw [eP] at HG KI ki
              have hmod : (P + X) % W = X := by rw [← eP, Nat.mul_comm, Nat.mul_add_mod, Nat.mod_eq_of_lt hltx]
              have hdiv : (P + X) / W = Y := by rw [← eP, Nat.mul_comm, Nat.mul_add_div (by omega), Nat.div_eq_of_lt hltx]; rfl
              obtain ⟨b, off, rfl, hs, hc⟩ := HA.out (by omega)
              have hcc : ∀ i, i < n → w.cell? ⟨b, off + i, none⟩ = some (.int .u8 (p i)) := hc
              have c1 := ((bthen LB.out SB.out).cell (p := ⟨b, off + (P + X), none⟩) hs).trans (hc (P + X) (by omega))
              have hP := HP.out (P + X)
              dsimp only at c1
              obtain ⟨q, hq⟩ : ∃ q, p (P + X) = q := ⟨_, rfl⟩
              rw [hq] at c1 hP
              have HCC : Hid (w.cell? ⟨b, off + (P + X), none⟩ = some (.int .u8 q)) := Lib.hid (by rw [← hq]; exact hcc (P + X) (by omega))
              clear hc hcc
              obtain ⟨hL, hL2⟩ := lo_eq X r hr1
              obtain ⟨hT, hT2⟩ := lo_eq Y r hr1
              obtain ⟨hR, hR2, hR3⟩ := hi_eq X W r hr1 hltx
              obtain ⟨hB, hB2, hB3⟩ := hi_eq Y H r hr1 hlt
              have hlc : lcl p W H r pc (P + X) = decide (100 * (((hi X W r : Int) - lo X r) * ((hi Y H r : Int) - lo Y r)) * p (P + X) < pc * win p W (lo X r) (hi X W r) (lo Y r) (hi Y H r)) := by unfold lcl; rw [hmod, hdiv]
              obtain ⟨L, eL⟩ : ∃ L, lo X r = L := ⟨_, rfl⟩
              obtain ⟨T, eT⟩ : ∃ T, lo Y r = T := ⟨_, rfl⟩
              obtain ⟨R, eR⟩ : ∃ R, B.hi X W r = R := ⟨_, rfl⟩
              obtain ⟨O, eO⟩ : ∃ O, B.hi Y H r = O := ⟨_, rfl⟩
              rw [eL] at hL hL2 hlc
              rw [eT] at hT hT2 hlc
              rw [eR] at hR hR2 hR3 hlc
              rw [eO] at hB hB2 hB3 hlc
              obtain ⟨OD, eOD⟩ : ∃ OD, O * D = OD := ⟨_, rfl⟩
              obtain ⟨TD, eTD⟩ : ∃ TD, T * D = TD := ⟨_, rfl⟩
              have hOD : (O : Int) * (D : Int) = (OD : Int) := by rw [← eOD]; simp
              have hTD : (T : Int) * (D : Int) = (TD : Int) := by rw [← eTD]; simp
              have hODN : OD + D ≤ N := by
                have h1 : (O + 1) * D ≤ (H + 1) * D := Nat.mul_le_mul_right D (by omega)
                rw [← HN.out, Nat.mul_comm D, ← eOD]
                rwa [Nat.add_mul, Nat.one_mul] at h1
              have hTDO : TD ≤ OD := by rw [← eOD, ← eTD]; exact Nat.mul_le_mul_right D (by omega)
              obtain ⟨b2, off2, rfl, hs2, hc2⟩ := HS.out (by omega)
              have hDW := HD.out
              have d1 := ((SB.out).cell (p := ⟨b2, off2 + (OD + R), none⟩) hs2).trans (hc2 (OD + R) (by omega))
              have d2 := ((SB.out).cell (p := ⟨b2, off2 + (TD + R), none⟩) hs2).trans (hc2 (TD + R) (by omega))
              have d3 := ((SB.out).cell (p := ⟨b2, off2 + (OD + L), none⟩) hs2).trans (hc2 (OD + L) (by omega))
              have d4 := ((SB.out).cell (p := ⟨b2, off2 + (TD + L), none⟩) hs2).trans (hc2 (TD + L) (by omega))
              dsimp only at d1 d2 d3 d4
              rw [← eOD, ← hDW, sumf_at p W O R (by omega), hDW, eOD] at d1
              rw [← eTD, ← hDW, sumf_at p W T R (by omega), hDW, eTD] at d2
              rw [← eOD, ← hDW, sumf_at p W O L (by omega), hDW, eOD] at d3
              rw [← eTD, ← hDW, sumf_at p W T L (by omega), hDW, eTD] at d4
              have b1 := ig_bd p HP.out W R (by omega) O
              have b3 := ig_bd p HP.out W R (by omega) T
              have b4 := ig_bd p HP.out W L (by omega) O
              have b5 := ig_bd p HP.out W L (by omega) T
              unfold win at hlc
              obtain ⟨I1, e1⟩ : ∃ I, ig p W O R = I := ⟨_, rfl⟩
              obtain ⟨I2, e2⟩ : ∃ I, ig p W T R = I := ⟨_, rfl⟩
              obtain ⟨I3, e3⟩ : ∃ I, ig p W O L = I := ⟨_, rfl⟩
              obtain ⟨I4, e4⟩ : ∃ I, ig p W T L = I := ⟨_, rfl⟩
              rw [e1] at d1 b1 hlc
              rw [e2] at d2 b3 hlc
              rw [e3] at d3 b4 hlc
              rw [e4] at d4 b5 hlc
              rw [hq] at hlc
              obtain ⟨NN, eNN⟩ : ∃ NN, 100 * ((R : Int) - (L : Int)) * ((O : Int) - (T : Int)) = NN := ⟨_, rfl⟩
              have bNN : 0 ≤ NN ∧ NN ≤ 100 * 4096 * 4096 := by
                rw [← eNN]
                exact ⟨Int.mul_nonneg (by omega) (by omega), Int.mul_le_mul (by omega) (by omega) (by omega) (by omega)⟩
              rw [← Int.mul_assoc, eNN, show I1 - I2 - I3 + I4 = I1 - I3 - I2 + I4 by omega] at hlc
              have bX : 0 ≤ NN * q ∧ NN * q ≤ 100 * 4096 * 4096 * 255 := ⟨Int.mul_nonneg (by omega) hP.1, Int.mul_le_mul (by omega) (by omega) hP.1 (by omega)⟩
              have bY : -(200 * 17112760320) ≤ pc * (I1 - I3 - I2 + I4) ∧ pc * (I1 - I3 - I2 + I4) ≤ 200 * 17112760320 := by
                have h5 : pc * (I1 - I3 - I2 + I4) ≤ pc * 17112760320 := Int.mul_le_mul_of_nonneg_left (by omega) hc1
                have h6 : pc * (-17112760320) ≤ pc * (I1 - I3 - I2 + I4) := Int.mul_le_mul_of_nonneg_left (by omega) hc1
                omega
              have HNEW : Hid (∀ W9 : World, W9.heap = (wr.alloc (.cells #[.bool (decide (NN * q < pc * (I1 - I3 - I2 + I4)))] 4)).heap → W9.cell? ⟨wr.heap.size, 0, none⟩ = some ((fun j => Value.bool (lcl p W H r pc j)) (P + X))) := Lib.hid (fun W9 h9 => by
                have h8 := (Blk.new wr [.bool (decide (NN * q < pc * (I1 - I3 - I2 + I4)))] 4).cell 0 _ rfl
                unfold World.cell? at h8 ⊢
                rw [h9]
                dsimp only
                rw [hlc]
                exact h8)
              have HGA : Hid (∀ W9 : World, W9.heap = (wr.alloc (.cells #[.bool (decide (NN * q < pc * (I1 - I3 - I2 + I4)))] 4)).heap → Gw W9 (w1.heap.size + 1) 4 (.slice A9 (P + X) c9) (P + X) (fun j => .bool (lcl p W H r pc j))) := Lib.hid (fun W9 h9 => by
                have h8 := HG.out.alloc (.cells #[.bool (decide (NN * q < pc * (I1 - I3 - I2 + I4)))] 4)
                unfold Gw World.ownsRow at h8 ⊢
                rw [h9]
                exact h8)
              have HZA : Hid (∀ W9 : World, W9.heap = (wr.alloc (.cells #[.bool (decide (NN * q < pc * (I1 - I3 - I2 + I4)))] 4)).heap → w1.heap.size + 1 ≤ W9.heap.size) := Lib.hid (fun W9 h9 => by rw [h9, World.size_alloc]; exact Nat.le_succ_of_le HZ.out)
              have HLT : Hid (∀ k, (Value.slice A9 (P + X) c9).ownBlock = some k → w1.heap.size + 1 ≤ k) := Lib.hid (fun k hk => (HG.out.lt k hk).1)
              have KIA : Hid (∀ (W9 w2 : World) (row : Option Nat), W9.grownBy w2 row → (∀ k, row = some k → w1.heap.size + 1 ≤ k) → W9.heap = (wr.alloc (.cells #[.bool (decide (NN * q < pc * (I1 - I3 - I2 + I4)))] 4)).heap → Blk w2 w1.heap.size [.int .i64 W, .int .i64 H, .slice A9 (P + X) c9] 35) := Lib.hid (fun W9 w2 row g hr h9 => by
                have h8 := KI.out.alloc (.cells #[.bool (decide (NN * q < pc * (I1 - I3 - I2 + I4)))] 4)
                have h7 : Blk W9 w1.heap.size [.int .i64 W, .int .i64 H, .slice A9 (P + X) c9] 35 := by
                  unfold Blk at h8 ⊢
                  rw [h9]; exact h8
                exact h7.grown g hr (by omega))
              have SBA : Hid (∀ (W9 w2 : World) (row : Option Nat), W9.grownBy w2 row → (∀ k, row = some k → w1.heap.size + 1 ≤ k) → W9.heap = (wr.alloc (.cells #[.bool (decide (NN * q < pc * (I1 - I3 - I2 + I4)))] 4)).heap → W9.os = w1.os ∧ W9.tape = w1.tape ∧ W9.output = w1.output → Below w1.heap.size w1 w2) := Lib.hid (fun W9 w2 row g hr h9 h8 => by
                have h7 := balloc SB.out (.cells #[.bool (decide (NN * q < pc * (I1 - I3 - I2 + I4)))] 4)
                have h6 : Below w1.heap.size w1 W9 := ⟨h8.1, h8.2.1, h8.2.2, by rw [h9]; exact h7.size, fun k hk => by rw [h9]; exact h7.block k hk⟩
                exact h6.grown g h6.size (fun k hk => by have := hr k hk; omega))
              have HOS : Hid (wr.os = w1.os ∧ wr.tape = w1.tape ∧ wr.output = w1.output) := Lib.hid ⟨SB.out.os, SB.out.tape, SB.out.output⟩
              have HSK : Hid (∀ w' : World, Below w1.heap.size w1 w' → w'.cell? ⟨w.heap.size, 2, none⟩ = some (.slice (some ⟨b, off, none⟩) n c) ∧ w'.cell? ⟨w.heap.size, 0, none⟩ = some (.int .i64 W) ∧ w'.cell? ⟨b, off + (P + X), none⟩ = some (.int .u8 q)) := Lib.hid (fun w' h => ⟨(L0.out.below h).cell 2 _ rfl, (L0.out.below h).cell 0 _ rfl, ((bthen LB.out h).cell (p := ⟨b, off + (P + X), none⟩) hs).trans HCC.out⟩)
              have HEP := Lib.hid eP
              clear eL eT eR eO hlc eOD eTD hc2 e1 e2 e3 e4 hq hmod hdiv eP
              go_wp2_with fail
              go_region
              go_wp2_with fail
              go_region
              go_wp2_with fail
              go_quiet (fail)
              have hw1 : IntKind.i64.wrap (P : Int) = P := by simp only [IntKind.wrap, IntKind.bits, IntKind.signed]; simp; omega
              have hw2 : IntKind.i64.wrap ((P : Int) + X) = ((P + X : Nat) : Int) := by simp only [IntKind.wrap, IntKind.bits, IntKind.signed]; simp; omega
              have hw3 : IntKind.i64.wrap ((R : Int) - L) = (R : Int) - L := by simp only [IntKind.wrap, IntKind.bits, IntKind.signed]; simp; omega
              have hw4 : IntKind.i64.wrap (100 * ((R : Int) - L)) = 100 * ((R : Int) - L) := by simp only [IntKind.wrap, IntKind.bits, IntKind.signed]; simp; omega
              have hw5 : IntKind.i64.wrap ((O : Int) - T) = (O : Int) - T := by simp only [IntKind.wrap, IntKind.bits, IntKind.signed]; simp; omega
              have hw6 : IntKind.i64.wrap NN = NN := by simp only [IntKind.wrap, IntKind.bits, IntKind.signed]; simp; omega
              have hw7 : IntKind.i64.wrap q = q := by simp only [IntKind.wrap, IntKind.bits, IntKind.signed]; simp; omega
              have hw8 : IntKind.i64.wrap (NN * q) = NN * q := by simp only [IntKind.wrap, IntKind.bits, IntKind.signed]; simp; omega
              have hw9 : IntKind.i64.wrap (pc * (I1 - I3 - I2 + I4)) = pc * (I1 - I3 - I2 + I4) := by simp only [IntKind.wrap, IntKind.bits, IntKind.signed]; simp; omega
              have hmr : w1.heap.size < wr.heap.size := HZ.out
              have hbw : b < wr.heap.size := by have := LB.out.size; have := SB.out.size; omega
              have hx1 : 0 ≤ (P : Int) + (X : Int) := by omega
              have hx2 : (P : Int) + (X : Int) < (n : Int) := by omega
              have hx3 : ((P : Int) + (X : Int)).toNat = P + X := by omega
              have hka : ∀ k, ((wr.drewN k).alloc (.cells #[.bool (decide (NN * q < pc * (I1 - I3 - I2 + I4)))] 4)).cell? ⟨w1.heap.size, 2, none⟩ = some (.slice A9 (P + X) c9) := fun k => (Blk.alloc (show Blk (wr.drewN k) _ _ _ from KI.out) _).cell 2 _ rfl
              go_upto_region 17 with fail
              have hPX : P + X ≤ 10000000 := by omega
              have HLX := Lib.hid hltx
              clear d1 d2 d3 d4 b1 b3 b4 b5 hL hL2 hT hT2 hR hR2 hR3 hB hB2 hB3 hOD hTD hODN hTDO hDW bNN bX bY hPn hX hY hlt hltx
              refine wp_region_last 29 (fun w' => w'.cell? ⟨w.heap.size, 2, none⟩ = some (.slice (some ⟨b, off, none⟩) n c) ∧ w'.cell? ⟨w.heap.size, 0, none⟩ = some (.int .i64 W) ∧ w'.cell? ⟨b, off + (P + X), none⟩ = some (.int .u8 q) ∧ w'.cell? ⟨w1.heap.size, 2, none⟩ = some (.slice A9 (P + X) c9)) (by kernel_rfl) ?_ ?_
              · exact ⟨(HSK.out wr SB.out).1, (HSK.out wr SB.out).2.1, (HSK.out wr SB.out).2.2, KI.out.cell 2 _ rfl⟩
              intro Q9 hQ9 hN9 hS9
              refine wpAnyL_take (i := 0) (oi := _) (v := ?_) rfl (by kernel_rfl) (by kernel_rfl) hQ9 ?_ hS9 ?_
              rotate_left
              · intro w9 h9; (try dsimp only at h9); go_simp; with_reducible rfl
              try simp only [Act.put, List.setIfInBounds_toArray, List.set_cons_zero, List.set_cons_succ]
              refine wpAnyL_take (i := 1) (oi := _) (v := ?_) rfl (by kernel_rfl) (by kernel_rfl) hQ9 ?_ hS9 ?_
              rotate_left
              · intro w9 h9; (try dsimp only at h9); go_simp; with_reducible rfl
              try simp only [Act.put, List.setIfInBounds_toArray, List.set_cons_zero, List.set_cons_succ]
              refine wpAnyL_take (i := 2) (oi := _) (v := ?_) rfl (by kernel_rfl) (by kernel_rfl) hQ9 ?_ hS9 ?_
              rotate_left
              · intro w9 h9; (try dsimp only at h9); go_simp; with_reducible rfl
              try simp only [Act.put, List.setIfInBounds_toArray, List.set_cons_zero, List.set_cons_succ]
              refine wpAnyL_take (i := 3) (oi := _) (v := ?_) rfl (by kernel_rfl) (by kernel_rfl) hQ9 ?_ hS9 ?_
              rotate_left
              · intro w9 h9; (try dsimp only at h9); go_simp; with_reducible rfl
              try simp only [Act.put, List.setIfInBounds_toArray, List.set_cons_zero, List.set_cons_succ]
              refine wpAnyL_take (i := 4) (oi := _) (v := ?_) rfl (by kernel_rfl) (by kernel_rfl) hQ9 ?_ hS9 ?_
              rotate_left
              · intro w9 h9; (try dsimp only at h9); go_simp; with_reducible rfl
              try simp only [Act.put, List.setIfInBounds_toArray, List.set_cons_zero, List.set_cons_succ]
              refine wpAnyL_take (i := 5) (oi := _) (v := ?_) rfl (by kernel_rfl) (by kernel_rfl) hQ9 ?_ hS9 ?_
              rotate_left
              · intro w9 h9; (try dsimp only at h9); go_simp; with_reducible rfl
              try simp only [Act.put, List.setIfInBounds_toArray, List.set_cons_zero, List.set_cons_succ]
              refine wpAnyL_take (i := 6) (oi := _) (v := ?_) rfl (by kernel_rfl) (by kernel_rfl) hQ9 ?_ hS9 ?_
              rotate_left
              · intro w9 h9; (try dsimp only at h9); go_simp; with_reducible rfl
              try simp only [Act.put, List.setIfInBounds_toArray, List.set_cons_zero, List.set_cons_succ]
              refine wpAnyL_take (i := 7) (oi := _) (v := ?_) rfl (by kernel_rfl) (by kernel_rfl) hQ9 ?_ hS9 ?_
              rotate_left
              · intro w9 h9; (try dsimp only at h9); go_simp; with_reducible rfl
              try simp only [Act.put, List.setIfInBounds_toArray, List.set_cons_zero, List.set_cons_succ]
              refine wpAnyL_take (i := 8) (oi := _) (v := ?_) rfl (by kernel_rfl) (by kernel_rfl) hQ9 ?_ hS9 ?_
              rotate_left
              · intro w9 h9; (try dsimp only at h9); go_simp; with_reducible rfl
              try simp only [Act.put, List.setIfInBounds_toArray, List.set_cons_zero, List.set_cons_succ]
              refine wpAnyL_take (i := 9) (oi := _) (v := ?_) rfl (by kernel_rfl) (by kernel_rfl) hQ9 ?_ hS9 ?_
              rotate_left
              · intro w9 h9; (try dsimp only at h9); go_simp; with_reducible rfl
              try simp only [Act.put, List.setIfInBounds_toArray, List.set_cons_zero, List.set_cons_succ]
              refine wpAnyL_take (i := 10) (oi := _) (v := ?_) rfl (by kernel_rfl) (by kernel_rfl) hQ9 ?_ hS9 ?_
              rotate_left
              · intro w9 h9; (try dsimp only at h9); go_simp; with_reducible rfl
              try simp only [Act.put, List.setIfInBounds_toArray, List.set_cons_zero, List.set_cons_succ]
              refine wpAnyL_take (i := 11) (oi := _) (v := ?_) rfl (by kernel_rfl) (by kernel_rfl) hQ9 ?_ hS9 ?_
              rotate_left
              · intro w9 h9; (try dsimp only at h9); go_simp; with_reducible rfl
              try simp only [Act.put, List.setIfInBounds_toArray, List.set_cons_zero, List.set_cons_succ]
              refine wpAnyL_take (i := 12) (oi := _) (v := ?_) rfl (by kernel_rfl) (by kernel_rfl) hQ9 ?_ hS9 ?_
              rotate_left
              · intro w9 h9; (try dsimp only at h9); go_simp; with_reducible rfl
              try simp only [Act.put, List.setIfInBounds_toArray, List.set_cons_zero, List.set_cons_succ]
              refine wpAnyL_take (i := 13) (oi := _) (v := ?_) rfl (by kernel_rfl) (by kernel_rfl) hQ9 ?_ hS9 ?_
              rotate_left
              · intro w9 h9; (try dsimp only at h9); go_simp; with_reducible rfl
              try simp only [Act.put, List.setIfInBounds_toArray, List.set_cons_zero, List.set_cons_succ]
              refine wpAnyL_take (i := 14) (oi := _) (v := ?_) rfl (by kernel_rfl) (by kernel_rfl) hQ9 ?_ hS9 ?_
              rotate_left
              · intro w9 h9; (try dsimp only at h9); go_simp; with_reducible rfl
              try simp only [Act.put, List.setIfInBounds_toArray, List.set_cons_zero, List.set_cons_succ]
              refine wpAnyL_take (i := 15) (oi := _) (v := ?_) rfl (by kernel_rfl) (by kernel_rfl) hQ9 ?_ hS9 ?_
              rotate_left
              · intro w9 h9; (try dsimp only at h9); go_simp; with_reducible rfl
              try simp only [Act.put, List.setIfInBounds_toArray, List.set_cons_zero, List.set_cons_succ]
              refine wpAnyL_take (i := 16) (oi := _) (v := ?_) rfl (by kernel_rfl) (by kernel_rfl) hQ9 ?_ hS9 ?_
              rotate_left
              · intro w9 h9; (try dsimp only at h9); go_simp; with_reducible rfl
              try simp only [Act.put, List.setIfInBounds_toArray, List.set_cons_zero, List.set_cons_succ]
              refine wpAnyL_take (i := 17) (oi := _) (v := ?_) rfl (by kernel_rfl) (by kernel_rfl) hQ9 ?_ hS9 ?_
              rotate_left
              · intro w9 h9; (try dsimp only at h9); go_simp; with_reducible rfl
              try simp only [Act.put, List.setIfInBounds_toArray, List.set_cons_zero, List.set_cons_succ]
              refine wpAnyL_take (i := 18) (oi := _) (v := ?_) rfl (by kernel_rfl) (by kernel_rfl) hQ9 ?_ hS9 ?_
              rotate_left
              · intro w9 h9; (try dsimp only at h9); go_simp; with_reducible rfl
              try simp only [Act.put, List.setIfInBounds_toArray, List.set_cons_zero, List.set_cons_succ]
              refine wpAnyL_take (i := 19) (oi := _) (v := ?_) rfl (by kernel_rfl) (by kernel_rfl) hQ9 ?_ hS9 ?_
              rotate_left
              · intro w9 h9; (try dsimp only at h9); go_simp; with_reducible rfl
              try simp only [Act.put, List.setIfInBounds_toArray, List.set_cons_zero, List.set_cons_succ]
              refine wpAnyL_take (i := 20) (oi := _) (v := ?_) rfl (by kernel_rfl) (by kernel_rfl) hQ9 ?_ hS9 ?_
              rotate_left
              · intro w9 h9; (try dsimp only at h9); go_simp; with_reducible rfl
              try simp only [Act.put, List.setIfInBounds_toArray, List.set_cons_zero, List.set_cons_succ]
              refine wpAnyL_take (i := 21) (oi := _) (v := ?_) rfl (by kernel_rfl) (by kernel_rfl) hQ9 ?_ hS9 ?_
              rotate_left
              · intro w9 h9; (try dsimp only at h9); go_simp; with_reducible rfl
              try simp only [Act.put, List.setIfInBounds_toArray, List.set_cons_zero, List.set_cons_succ]
              refine wpAnyL_take (i := 22) (oi := _) (v := ?_) rfl (by kernel_rfl) (by kernel_rfl) hQ9 ?_ hS9 ?_
              rotate_left
              · intro w9 h9; (try dsimp only at h9); go_simp; with_reducible rfl
              try simp only [Act.put, List.setIfInBounds_toArray, List.set_cons_zero, List.set_cons_succ]
              refine wpAnyL_take (i := 23) (oi := _) (v := ?_) rfl (by kernel_rfl) (by kernel_rfl) hQ9 ?_ hS9 ?_
              rotate_left
              · intro w9 h9; (try dsimp only at h9); go_simp; with_reducible rfl
              try simp only [Act.put, List.setIfInBounds_toArray, List.set_cons_zero, List.set_cons_succ]
              refine wpAnyL_take (i := 24) (oi := _) (v := ?_) rfl (by kernel_rfl) (by kernel_rfl) hQ9 ?_ hS9 ?_
              rotate_left
              · intro w9 h9; (try dsimp only at h9); go_simp; with_reducible rfl
              try simp only [Act.put, List.setIfInBounds_toArray, List.set_cons_zero, List.set_cons_succ]
              refine wpAnyL_take (i := 25) (oi := _) (v := ?_) rfl (by kernel_rfl) (by kernel_rfl) hQ9 ?_ hS9 ?_
              rotate_left
              · intro w9 h9; (try dsimp only at h9); go_simp; with_reducible rfl
              try simp only [Act.put, List.setIfInBounds_toArray, List.set_cons_zero, List.set_cons_succ]
              refine wpAnyL_one (i := 26) (oi := _) rfl (by kernel_rfl) (fun K hK => ?_)
              go_simp
              refine hK.out _ _ ?_ (fun hT9 => ?_)
              · exact ⟨(HSK.out (wr.alloc (.cells #[.bool (decide (NN * q < pc * (I1 - I3 - I2 + I4)))] 4)) (balloc SB.out (.cells #[.bool (decide (NN * q < pc * (I1 - I3 - I2 + I4)))] 4))).1, (HSK.out (wr.alloc (.cells #[.bool (decide (NN * q < pc * (I1 - I3 - I2 + I4)))] 4)) (balloc SB.out (.cells #[.bool (decide (NN * q < pc * (I1 - I3 - I2 + I4)))] 4))).2.1, (HSK.out (wr.alloc (.cells #[.bool (decide (NN * q < pc * (I1 - I3 - I2 + I4)))] 4)) (balloc SB.out (.cells #[.bool (decide (NN * q < pc * (I1 - I3 - I2 + I4)))] 4))).2.2, (Blk.alloc KI.out (.cells #[.bool (decide (NN * q < pc * (I1 - I3 - I2 + I4)))] 4)).cell 2 _ rfl⟩
              clear hK K hS9
              have hS9 := hT9
              clear hT9
              try simp only [Act.put, List.setIfInBounds_toArray, List.set_cons_zero, List.set_cons_succ]
              refine wpAnyL_one (i := 27) (oi := _) rfl (by kernel_rfl) (fun K hK => ?_)
              refine step_app_bool (by rfl) _ _ (by rfl) (w1.heap.size + 1) (.slice A9 (P + X) c9) (P + X) (fun j => .bool (lcl p W H r pc j)) (by rfl) ?_ wr.heap.size 1 (by rfl) ?_ (by rfl) ?_ ?_ ?_
              · exact HGA.out _ rfl
              · exact HNEW.out _ rfl
              · exact hPX
              · exact HZA.out _ rfl
              intro V2 w2 g1 g2
              obtain ⟨A8, c8, hV8, _, _⟩ := g1.shape
              subst hV8
              have kiw := KIA.out _ _ _ g2 HLT.out rfl
              have ki2 := kiw.three
              have hzz := g2.size
              have hSB2 := SBA.out _ _ _ g2 HLT.out rfl HOS.out
              have hSB3 := hSB2.setCell (p := ⟨w1.heap.size, 2, none⟩) (Nat.le_refl _) (.slice A8 (P + X + 1) c8)
              refine hK.out _ _ ?_ (fun hT9 => ?_)
              · exact ⟨(HSK.out _ hSB2).1, (HSK.out _ hSB2).2.1, (HSK.out _ hSB2).2.2, kiw.cell 2 _ rfl⟩
              clear hK K hS9
              have hS9 := hT9
              clear hT9
              try simp only [Act.put, List.setIfInBounds_toArray, List.set_cons_zero, List.set_cons_succ]
              refine wpAnyL_take (i := 28) (oi := _) (v := ?_) rfl (by kernel_rfl) (by kernel_rfl) hQ9 ?_ hS9 ?_
              rotate_left
              · intro w9 h9; (try dsimp only at h9); go_simp; with_reducible rfl
              try simp only [Act.put, List.setIfInBounds_toArray, List.set_cons_zero, List.set_cons_succ]
              refine wpAnyL_last (oi := _) rfl (by kernel_rfl) (fun K hK => ?_)
              go_simp
              refine hK.out _ _ ?_
              clear hK K
              try simp only [Act.put, List.setIfInBounds_toArray, List.set_cons_zero, List.set_cons_succ]
              refine wpAnyL_done (by kernel_rfl) (hN9 _ _ ?_) _
              clear hS9 hN9 hQ9 Q9 ki ki2 hka HSK HNEW HLT hw1 hw2 hw3 hw4 hw5 hw6 hw7 hw8 hw9 hx1 hx2 hx3 s0 S0 c1 hs hs2 HCC hzz hbw
              go_wp2_with fail
              have hKN := kiw.set 2 (.slice A8 (P + X + 1) c8)
              have hlt9 := kiw.lt
              have hltx := HLX.out
              exact ⟨⟨X + 1, .slice A8 (P + X + 1) c8, by omega, by go_num, hKN, by have h9 := g1.setCell (Nat.lt_succ_self w1.heap.size) 2 (.slice A8 (P + X + 1) c8); rw [HEP.out]; exact h9, Nat.succ_le_of_lt (by simpa [World.setCell] using hlt9), hSB3⟩, by simp [intOf]; omega⟩
            · obtain rfl : X = W := by omega
              go_wp2_with fail
              exact ⟨⟨Y + 1, _, by omega, by go_num, KI.out, by rw [Nat.add_mul, Nat.one_mul]; exact HG.out, HZ.out, SB.out⟩, by simp [intOf]; omega⟩
        · obtain rfl : Y = H := by omega
          rw [HHW.out] at HG
          obtain ⟨A9, c9, hV9, hc9, hR9⟩ := HG.out.shape
          subst hV9
          have ki := KI.out.three
          have s1 := S1.out.three
          go_upto_region 18 with fail
          repeat go_step
          exact bodyPost_ret (res_mat rfl _ _ (w.heap.size + 1) _ _ _ rfl (S1.out.store3 _ _ _)) rfl ⟨A9, c9, rfl, hc9, hR9.store3b S1.out _ _ _ _ _, OnlyAbove.store3 (bthen LB.out SB.out) (by omega) _ _ _⟩
end Go.Proofs.Ytjhdjmlaidpjfaa.B
