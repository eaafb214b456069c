/- The reference's Otsu: Otsu's threshold. -/
import Derived.Test.YtjhdjmlaidpjfaaRGreater
import Derived.Test.YtjhdjmlaidpjfaaHistR
import Derived.Test.YtjhdjmlaidpjfaaOtsu
set_option linter.unusedVariables false
namespace Go.Proofs.Ytjhdjmlaidpjfaa.B
open Go.RowKit
theorem ots_yes (h : Nat → Int) (n s : Int) (k : Nat) (a b : Int) (t : Nat) (e : ots h n s k = (t, a, b)) (hq : 0 < qF h n (k + 1)) (hc : a * a * qF h n (k + 1) < dF h n s (k + 1) * dF h n s (k + 1) * b) : ots h n s (k + 1) = (k + 1, dF h n s (k + 1), qF h n (k + 1)) := by
  rw [ots, e]; exact if_pos ⟨hq, hc⟩
theorem ots_no (h : Nat → Int) (n s : Int) (k : Nat) (a b : Int) (t : Nat) (e : ots h n s k = (t, a, b)) (hc : ¬(0 < qF h n (k + 1) ∧ a * a * qF h n (k + 1) < dF h n s (k + 1) * dF h n s (k + 1) * b)) : ots h n s (k + 1) = (t, a, b) := by
  rw [ots, e]; exact if_neg hc
theorem dF_bd2 (p : Nat → Int) (hp : ∀ i, 0 ≤ p i ∧ p i < 256) (n : Nat) (hn : n ≤ 4194304) (k : Nat) (hk : k ≤ 256) :
    (dF (cnt p n) n (SS (cnt p n) 256) k).natAbs ≤ 4486007441326080 := by
  obtain ⟨a, b, c, d, e, f⟩ := sums_bd p hp n hn k hk
  unfold dF
  have m1 : 0 ≤ (n - SN (cnt p n) k) * SS (cnt p n) k ∧ (n - SN (cnt p n) k) * SS (cnt p n) k ≤ 4194304 * 1069547520 := ⟨Int.mul_nonneg (by omega) c, Int.mul_le_mul (by omega) d c (by omega)⟩
  have m2 : 0 ≤ SN (cnt p n) k * (SS (cnt p n) 256 - SS (cnt p n) k) ∧ SN (cnt p n) k * (SS (cnt p n) 256 - SS (cnt p n) k) ≤ 4194304 * 1069547520 := ⟨Int.mul_nonneg a (by omega), Int.mul_le_mul (by omega) (by omega) (by omega) (by omega)⟩
  omega
theorem ots_bd2 (p : Nat → Int) (hp : ∀ i, 0 ≤ p i ∧ p i < 256) (n : Nat) (hn : n ≤ 4194304) : ∀ k, k ≤ 255 → (ots (cnt p n) n (SS (cnt p n) 256) k).2.1.natAbs ≤ 4486007441326080
  | 0, _ => by simp [ots]
  | k + 1, hk => by
    have h1 := ots_bd2 p hp n hn k (by omega)
    have h2 := dF_bd2 p hp n hn (k + 1) (by omega)
    rw [ots]
    split
    · exact h2
    · exact h1
/-- The second loop's head. -/
def ORel (h : Nat → Int) (n : Nat) (S : Int) (g : Nat) (w : World) (v9 v10 v11 v12 v13 v14 : Value) (wr : World) : Prop :=
  ∃ (k t : Nat) (a b : Int), k ≤ 255 ∧ v14 = .int .i64 ((k : Int) + 1) ∧ v9 = .int .i64 t ∧ v10 = .int .i64 a ∧ v11 = .int .i64 b ∧ v12 = .int .i64 (SN h k) ∧ v13 = .int .i64 (SS h k) ∧ ots h n S k = (t, a, b) ∧
            Ow wr g 256 (hrow h) 27 ∧ Below w.heap.size w wr
set_option maxHeartbeats 4000000 in
set_option maxRecDepth 100000 in
theorem rotsu_any (x y : Int) (A : Option Addr) (n c : Nat) (p : Nat → Int) (w : World) (hA : Ro w A n (fun i => .int .u8 (p i))) (hp : ∀ i, 0 ≤ p i ∧ p i < 256) (hn : n ≤ c) :
    Calls Try.prog 18 #[.agg #[.int .i64 x, .int .i64 y, .slice A n c]] w fun e w' => e = .returned (.tuple #[.int .i64 (if sound x y n then (otsu p n : Int) else 0), .int .i64 (errB (sound x y n))]) ∧ Below w.heap.size w w' := by
  have hu := Try.underlying24
  have HH := Lib.hid (fun w1 h => histR_any x y A n c p w1 h hp hn)
  have K0 := Lib.hid (Blk.new w [.int .i64 x, .int .i64 y, .slice A n c] 24)
  have HB := Lib.hid (bbox (w := w) (.cells #[.int .i64 x, .int .i64 y, .slice A n c] 24))
  have HA := Lib.hid hA
  cases hs : sound x y n with
  | false =>
    rw [hs] at HH
    have hb : (errB false != 0) = true := rfl
    have HP := Lib.hid hp
    clear hA hp hs
    go_enter Try.func18, Try.ntmps18
    go_wp2_with fail
    refine (HH.out _ (HA.out.alloc _)).mono ?_
    rintro e w1 ⟨rfl, h1⟩
    have KH := Lib.hid (Ow.zero w1)
    go_wp2_with (first
      | (refine wpList_store_row rfl 27 _ _ rfl (w1.heap.size) (Rof 256 (hrow fun _ => 0)) rfl rfl _ _ KH.out (size256 _) (by simp only [Rof_size]) (one256 _ _) ?_))
    go_ret2
    exact ⟨rfl, below_setRow (balloc (bthen HB.out h1) _) (by have := (bthen HB.out h1).size; omega) _⟩
  | true =>
    rw [hs] at HH
    have hnb := (sound_bd hs).2.2.2.2.2.2
    have hb : (errB true != 0) = false := rfl
    have HSB := Lib.hid (sums_bd p hp n hnb)
    have HOB := Lib.hid (fun k hk => And.intro (ots_bd p hp n hnb k hk) (ots_bd2 p hp n hnb k hk))
    have HDB := Lib.hid (dF_bd p hp n hnb)
    have HAL := Lib.hid (SN_all p hp n)
    have HCB := Lib.hid (fun v => cnt_bd p v n)
    have HP := Lib.hid hp
    clear hA hp hs
    simp only [if_true] at HH
    obtain ⟨h, eh⟩ : ∃ h, cnt p n = h := ⟨_, rfl⟩
    obtain ⟨r, er⟩ : ∃ r : Nat, otsu p n = r := ⟨_, rfl⟩
    have ER := Lib.hid er
    rw [er]
    unfold otsu at ER
    rw [eh] at HSB HOB HDB HAL ER
    have HH2 : Hid (∀ w1, Ro w1 A n (fun i => .int .u8 (p i)) → Calls Try.prog 16 #[.agg #[.int .i64 x, .int .i64 y, .slice A n c]] w1 fun e w' => e = .returned (.tuple #[.agg (Rof 256 (hrow h)), .int .i64 (errB true)]) ∧ Below w1.heap.size w1 w') := Lib.hid (by intro w1 h1; rw [← eh]; exact HH.out w1 h1)
    have HCB2 : Hid (∀ v, 0 ≤ h v ∧ h v ≤ n) := Lib.hid (by intro v; rw [← eh]; exact HCB.out v)
    clear HH HCB eh er
    go_enter Try.func18, Try.ntmps18
    go_wp2_with fail
    refine (HH2.out _ (HA.out.alloc _)).mono ?_
    rintro e w1 ⟨rfl, h1⟩
    have KH := Lib.hid (Ow.zero w1)
    have KS := Lib.hid (KH.out.setRow (hrow h))
    have hsw := (bthen HB.out h1).size
    have LB := Lib.hid (below_setRow (balloc (bthen HB.out h1) (.cells Try.zeroCells27 27)) (by omega) (Rof 256 (hrow h)) (g := w1.heap.size))
    clear h1
    go_wp2_with (first
      | (refine wpList_store_row rfl 27 _ _ rfl (w1.heap.size) (Rof 256 (hrow h)) rfl rfl _ _ KH.out (size256 _) (by simp only [Rof_size]) (one256 _ _) ?_))
    obtain ⟨W2, hW2⟩ : ∃ W2, (w1.alloc (.cells Try.zeroCells27 27)).setRow w1.heap.size (Rof 256 (hrow h)) = W2 := ⟨_, rfl⟩
    rw [hW2] at KS LB ⊢
    clear hW2 KH HH2 K0 HB
    go_loopw [6, 7, 8] (fun v6 v7 v8 wr => ∃ (i : Nat), i ≤ 256 ∧ v8 = .int .i64 i ∧ v6 = .int .i64 (SN h i) ∧ v7 = .int .i64 (SS h i) ∧ wr = W2) (fun _ _ v8 _ => 256 - (intOf v8).toNat)
    case atStart => exact ⟨0, by omega, rfl, rfl, rfl, rfl⟩
    case round =>
      obtain ⟨i, hi, rfl, rfl, rfl, rfl⟩ := hrel
      by_cases hlt : i < 256
      · have b1 := HSB.out i (by omega)
        have b2 := HSB.out (i + 1) (by omega)
        have b3 := HCB2.out i
        have b4 : SS h (i + 1) = SS h i + i * h i := rfl
        have b6 : SN h (i + 1) = SN h i + h i := rfl
        have b5 : 0 ≤ (i : Int) * h i := Int.mul_nonneg (by omega) b3.1
        have cC := KS.out.cell i hlt
        unfold hrow at cC
        obtain ⟨C, eC⟩ : ∃ C, h i = C := ⟨_, rfl⟩
        obtain ⟨M, eM⟩ : ∃ M, SS h i = M := ⟨_, rfl⟩
        obtain ⟨N, eN⟩ : ∃ N, SN h i = N := ⟨_, rfl⟩
        rw [eC] at cC b3 b4 b5 b6
        rw [eM] at b1 b4 ⊢
        rw [eN] at b1 b6 ⊢
        rw [b4, b6] at b2
        have hi3 : (i : Int) < 256 := by omega
        have B4 := Lib.hid b4
        have B6 := Lib.hid b6
        clear b4 b6 eC eM eN
        go_wp2_with fail
        exact ⟨⟨i + 1, by omega, by go_num, by rw [B6.out], by rw [B4.out], trivial⟩, by simp [intOf]; omega⟩
      · obtain rfl : i = 256 := by omega
        have b1 := HSB.out 256 (Nat.le_refl _)
        rw [HAL.out]
        obtain ⟨S, eS⟩ : ∃ S, SS h 256 = S := ⟨_, rfl⟩
        have HSB2 : Hid (∀ k, k ≤ 256 → 0 ≤ SN h k ∧ SN h k ≤ n ∧ 0 ≤ SS h k ∧ SS h k ≤ 1069547520 ∧ SS h k ≤ S ∧ S ≤ 1069547520) := Lib.hid (by rw [← eS]; exact HSB.out)
        rw [eS] at b1 HOB ER HDB ⊢
        clear HSB b1 eS
        go_wp2_with fail
        go_loopw [9, 10, 11, 12, 13, 14] (fun v9 v10 v11 v12 v13 v14 wr => ORel h n S w1.heap.size w v9 v10 v11 v12 v13 v14 wr)
          (fun _ _ _ _ _ v14 _ => 256 - (intOf v14).toNat)
        case atStart => exact ⟨0, 0, 0, 1, by omega, rfl, rfl, rfl, rfl, rfl, rfl, rfl, KS.out, LB.out⟩
        case round =>
          clear KS LB
          obtain ⟨k, t, a, b, hk, rfl, rfl, rfl, rfl, rfl, rfl, ho, r4, r6⟩ := hrel
          have HO := Lib.hid ho
          have KS := Lib.hid r4
          have LB := Lib.hid r6
          clear ho r4 r6
          by_cases hlt : k < 255
          · have cC := KS.out.cell k (by omega)
            have b1 := HSB2.out k (by omega)
            have b2 := HSB2.out (k + 1) (by omega)
            have b3 := HCB2.out k
            have HQD := Lib.hid (HDB.out (k + 1) (by omega))
            have HOK := Lib.hid (HOB.out k (by omega))
            have e1 : SN h (k + 1) = SN h k + h k := rfl
            have e2 : SS h (k + 1) = SS h k + k * h k := rfl
            unfold hrow at cC
            obtain ⟨N1, eN1⟩ : ∃ N, SN h (k + 1) = N := ⟨_, rfl⟩
            obtain ⟨M1, eM1⟩ : ∃ M, SS h (k + 1) = M := ⟨_, rfl⟩
            have hq : qF h n (k + 1) = N1 * (n - N1) := by unfold qF; rw [eN1]
            have hd : dF h n S (k + 1) = (n - N1) * M1 - N1 * (S - M1) := by unfold dF; rw [eN1, eM1]
            obtain ⟨C, eC⟩ : ∃ C, h k = C := ⟨_, rfl⟩
            obtain ⟨M, eM⟩ : ∃ M, SS h k = M := ⟨_, rfl⟩
            obtain ⟨N, eN⟩ : ∃ N, SN h k = N := ⟨_, rfl⟩
            rw [eC] at cC b3 e1 e2
            rw [eM] at b1 e2 ⊢
            rw [eN] at b1 e1 ⊢
            rw [eN1] at b2 e1
            rw [eM1] at b2 e2
            have hX : 0 ≤ (k : Int) * C := Int.mul_nonneg (by omega) b3.1
            have hN1 : N + C = N1 := e1.symm
            have hM1 : M + (k : Int) * C = M1 := e2.symm
            have m1 : 0 ≤ (n - N1) * M1 ∧ (n - N1) * M1 ≤ 4194304 * 1069547520 := ⟨Int.mul_nonneg (by omega) b2.2.2.1, Int.mul_le_mul (by omega) b2.2.2.2.1 b2.2.2.1 (by omega)⟩
            have m2 : 0 ≤ N1 * (S - M1) ∧ N1 * (S - M1) ≤ 4194304 * 1069547520 := ⟨Int.mul_nonneg b2.1 (by omega), Int.mul_le_mul (by omega) (by omega) (by omega) (by omega)⟩
            have m3 : 0 ≤ N1 * (n - N1) ∧ N1 * (n - N1) ≤ 4194304 * 4194304 := ⟨Int.mul_nonneg b2.1 (by omega), Int.mul_le_mul (by omega) (by omega) (by omega) (by omega)⟩
            have HNE := Lib.hid eN1
            have HME := Lib.hid eM1
            have HQ := Lib.hid hq
            have HD := Lib.hid hd
            have HKP : Hid ((k : Int) + 1 - 1 = k) := Lib.hid (by omega)
            clear eC eM eN e1 e2 HDB HOB eN1 eM1 hq hd
            by_cases hq0 : 0 < N1 * (n - N1)
            · have hqd : decide (0 < N1 * ((n : Int) - N1)) = true := decide_eq_true hq0
              have hok := HOK.out
              rw [HO.out] at hok
              dsimp only at hok
              obtain ⟨⟨hok1, hok2, hok3, hok4⟩, hok5⟩ := hok
              have HGR := Lib.hid (fun w9 h1 h2 => rgreater_ok ((n - N1) * M1 - N1 * (S - M1)) (N1 * (n - N1)) a b w9 (by omega) (by omega) h1 h2)
              go_wp2_with fail
              refine (HGR.out _ (by omega) (by omega)).mono ?_
              rintro e w4 ⟨rfl, h3⟩
              have KS1 := Lib.hid (KS.out.below h3)
              have LB1 := Lib.hid (bthen LB.out h3)
              clear h3 HGR
              by_cases hc : a * a * (N1 * (n - N1)) < ((n - N1) * M1 - N1 * (S - M1)) * ((n - N1) * M1 - N1 * (S - M1)) * b
              · have hcd := decide_eq_true hc
                have HO2 := Lib.hid (ots_yes h n S k a b t HO.out (by rw [HQ.out]; exact hq0) (by rw [HQ.out, HD.out]; exact hc))
                rw [HQ.out, HD.out] at HO2
                rw [hcd]
                clear hc hcd
                go_wp2_with fail
                refine ⟨?_, ?_⟩
                · (repeat apply Exists.intro)
                  refine ⟨?_, rfl⟩
                  exact ⟨k + 1, k + 1, _, _, by omega, by go_num, by go_num, rfl, rfl, by rw [HNE.out], by rw [HME.out], HO2.out, KS1.out, LB1.out⟩
                · simp [intOf]; omega
              · have hcd := decide_eq_false hc
                have HO2 := Lib.hid (ots_no h n S k a b t HO.out (by rw [HQ.out, HD.out]; exact fun h => hc h.2))
                rw [hcd]
                clear hc hcd
                go_wp2_with fail
                refine ⟨?_, ?_⟩
                · (repeat apply Exists.intro)
                  refine ⟨?_, rfl⟩
                  exact ⟨k + 1, t, a, b, by omega, by go_num, rfl, rfl, rfl, by rw [HNE.out], by rw [HME.out], HO2.out, KS1.out, LB1.out⟩
                · simp [intOf]; omega
            · have hqd : decide (0 < N1 * ((n : Int) - N1)) = false := decide_eq_false hq0
              have HO2 := Lib.hid (ots_no h n S k a b t HO.out (by rw [HQ.out]; omega))
              go_wp2_with fail
              exact ⟨⟨k + 1, t, a, b, by omega, by go_num, rfl, rfl, rfl, by rw [HNE.out], by rw [HME.out], HO2.out, KS.out, LB.out⟩, by simp [intOf]; omega⟩
          · obtain rfl : k = 255 := by omega
            go_wp2_with fail
            go_ret2
            exact ⟨by rw [← ER.out, HO.out]; rfl, LB.out⟩
end Go.Proofs.Ytjhdjmlaidpjfaa.B
