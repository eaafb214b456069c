/- threshold.Integral: the sums of the values of all pixels above and to the left. -/
import Derived.Test.YtjhdjmlaidpjfaaSums
import Derived.Test.YtjhdjmlaidpjfaaGlobal
set_option linter.unusedVariables false
namespace Go.Proofs.Ytjhdjmlaidpjfaa.B
open Go.RowKit
/-- A call's end: a row of numbers, and an error. -/
def IntsPost (n : Nat) (f : Nat → Int) (err : Int) (w : World) (e : Ending) (w' : World) : Prop :=
  ∃ A c, e = .returned (.tuple #[.slice A n c, .int .i64 err]) ∧ n ≤ c ∧ Ro w' A n (fun i => .int .i64 (f i)) ∧ Below w.heap.size w w'
def IntsIf (ok : Bool) (n : Nat) (f : Nat → Int) (err : Int) (w : World) : Ending → World → Prop :=
  if ok then IntsPost n f 0 w else IntsPost 0 f err w
set_option maxHeartbeats 4000000 in
set_option maxRecDepth 100000 in
theorem integral_any (x y : Int) (A : Option Addr) (n c : Nat) (p : Nat → Int) (w : World) (hA : Ro w A n (fun i => .int .u8 (p i))) (hp : ∀ i, 0 ≤ p i ∧ p i < 256) (hn : n ≤ c) :
    Calls Try.prog 24 #[.agg #[.int .i64 x, .int .i64 y, .slice A n c]] w (IntsIf (sound x y n) ((x.toNat + 1) * (y.toNat + 1)) (sumf p x.toNat) 1 w) := by
  have hu := Try.underlying24
  have HC := Lib.hid (fun w1 => checkImage_any x y A n c w1)
  have K0 := Lib.hid (Blk.new w [.int .i64 x, .int .i64 y, .slice A n c] 24)
  have HB := Lib.hid (bbox (w := w) (.cells #[.int .i64 x, .int .i64 y, .slice A n c] 24))
  cases hs : sound x y n with
  | false =>
    rw [hs] at HC
    unfold IntsIf
    have hb : (errB false != 0) = true := rfl
    simp only [Bool.false_eq_true, if_false]
    clear hA hp hs
    go_enter Try.func24, Try.ntmps24
    go_wp2_with fail
    refine (HC.out _).mono ?_
    rintro e w1 ⟨rfl, h1⟩
    have LB := Lib.hid (bthen HB.out h1)
    clear h1
    go_wp2_with fail
    go_ret2
    exact ⟨none, 0, rfl, Nat.le_refl _, Ro.nil _ _ _, LB.out⟩
  | true =>
    rw [hs] at HC
    have hb : (errB true != 0) = false := rfl
    have hsd := sound_bd hs
    obtain ⟨W, rfl⟩ : ∃ W : Nat, x = W := ⟨x.toNat, by omega⟩
    obtain ⟨H, rfl⟩ : ∃ H : Nat, y = H := ⟨y.toNat, by omega⟩
    obtain ⟨hw1, hw2, hh1, hh2, hnm, hn1, hn2⟩ := hsd
    rw [show (W : Int).toNat = W from rfl, show (H : Int).toNat = H from rfl]
    unfold IntsIf
    simp only [if_true]
    obtain ⟨D, hD⟩ : ∃ D, W + 1 = D := ⟨_, rfl⟩
    have hDi : (W : Int) + 1 = (D : Int) := by omega
    obtain ⟨N, hN⟩ : ∃ N, D * (H + 1) = N := ⟨_, rfl⟩
    have hNi : (D : Int) * ((H : Int) + 1) = (N : Int) := by rw [← hN]; simp
    have hNb : N ≤ 4097 * 4097 := by rw [← hN]; exact Nat.mul_le_mul (by omega) (by omega)
    have hmk := fun w9 => run_make_int w9 N N (by omega) rfl
    have HP := Lib.hid hp
    have HA := Lib.hid hA
    have HD := Lib.hid hD
    have HN := Lib.hid hN
    have HNM := Lib.hid hnm
    rw [hD, hN]
    clear hA hp hs hN hnm
    go_enter Try.func24, Try.ntmps24
    go_wp2_with fail
    refine (HC.out _).mono ?_
    rintro e w1 ⟨rfl, h1⟩
    have L0 := Lib.hid (K0.out.below h1)
    have LB := Lib.hid (bthen HB.out h1)
    clear h1
    have l0 := L0.out.three
    go_wp2_with fail
    have M0 := Lib.hid (L0.out.alloc (.cells (madeCells #[.int .i64 0] N) 3))
    have MR := Lib.hid (Ow.made w1 (.int .i64 0) N 3)
    have MB := Lib.hid (balloc LB.out (.cells (madeCells #[.int .i64 0] N) 3))
    have ap0 : w.heap.size < w1.heap.size := L0.out.lt
    clear L0 LB l0 hmk
    go_loopw [26] (fun v26 wr => ∃ (Y : Nat), Y ≤ H ∧ v26 = .int .i64 Y ∧ Blk wr w.heap.size [.int .i64 W, .int .i64 H, .slice A n c] 24 ∧ Ow wr w1.heap.size N (fun j => .int .i64 (tab p W ((Y + 1) * D) j)) 3 ∧ Below w.heap.size w wr) (fun v26 _ => H - (intOf v26).toNat)
    case atStart => exact ⟨0, by omega, rfl, M0.out, MR.out.congr (fun j hj => by rw [Nat.zero_add, Nat.one_mul, ← HD.out, tab_zero]), MB.out⟩
    case round =>
      clear M0 MR MB
      obtain ⟨Y, hY, rfl, r1, r2, r3⟩ := hrel
      have S0 := Lib.hid r1
      have SR := Lib.hid r2
      have SB := Lib.hid r3
      have s0 := r1.three
      clear r1 r2 r3
      by_cases hlt : Y < H
      · go_wp2_with fail
        go_loopw [8, 31] (fun v8 v31 wr => ∃ (X : Nat), X ≤ W ∧ v8 = .int .i64 (rs p W Y X) ∧ v31 = .int .i64 X ∧ Blk wr w.heap.size [.int .i64 W, .int .i64 H, .slice A n c] 24 ∧ Ow wr w1.heap.size N (fun j => .int .i64 (tab p W ((Y + 1) * D + X + 1) j)) 3 ∧ Below w.heap.size w wr) (fun _ v31 _ => W - (intOf v31).toNat)
        case atStart => exact ⟨0, by omega, rfl, rfl, S0.out, SR.out.congr (fun j hj => by rw [← HD.out, Nat.add_zero, tab_col]), SB.out⟩
        case round =>
          clear S0 SR SB s0
          obtain ⟨X, hX, rfl, rfl, r1, r2, r3⟩ := hrel
          have S0 := Lib.hid r1
          have SR := Lib.hid r2
          have SB := Lib.hid r3
          have s0 := r1.three
          clear r1 r2 r3
          by_cases hltx : X < W
          · obtain ⟨P, eP⟩ : ∃ P, Y * W = P := ⟨_, rfl⟩
            have hPi : (Y : Int) * (W : Int) = (P : Int) := by rw [← eP]; simp
            have hPn : P + W ≤ n := by
              have h1 : (Y + 1) * W ≤ H * W := Nat.mul_le_mul_right W hlt
              have h2 : ((H * W : Nat) : Int) = n := by rw [HNM.out, Nat.mul_comm]; simp
              rw [Nat.add_mul] at h1
              omega
            obtain ⟨Q, eQ⟩ : ∃ Q, Y * D = Q := ⟨_, rfl⟩
            have hQi : (Y : Int) * (D : Int) = (Q : Int) := by rw [← eQ]; simp
            have hQi2 : ((Y : Int) + 1) * (D : Int) = (Q : Int) + D := by rw [Int.add_mul, hQi]; omega
            have eQ2 : (Y + 1) * D = Q + D := by rw [Nat.add_mul, eQ, Nat.one_mul]
            have hQn : Q + D + D ≤ N := by
              have h1 : (Y + 2) * D ≤ (H + 1) * D := Nat.mul_le_mul_right D (by omega)
              rw [← HN.out, Nat.mul_comm D]
              rw [Nat.add_mul, eQ] at h1
              omega
            obtain ⟨b, off, rfl, hs, hc⟩ := HA.out (by omega)
            have c1 := (SB.out.cell (p := ⟨b, off + (P + X), none⟩) hs).trans (hc (P + X) (by omega))
            have hV := HP.out (P + X)
            have c2 := SR.out.cell (Q + X + 1) (by omega)
            have f2 := SR.out.frozen (Q + D + X + 1)
            have c3 := SR.out.cell (Q + D + X + 1) (by omega)
            dsimp only at c1 c2 c3
            obtain ⟨Z, eZ⟩ : ∃ Z, tab p W ((Y + 1) * D + X + 1) (Q + D + X + 1) = Z := ⟨_, rfl⟩
            rw [eZ] at c3
            clear eZ
            have hup := tab_up p W Y (X + 1) ((Y + 1) * D + X + 1) (by omega) (by rw [← HD.out]; omega)
            have e1 : Y * (W + 1) + (X + 1) = Q + X + 1 := by rw [HD.out, eQ]; omega
            rw [e1] at hup
            rw [hup] at c2
            have b1 := rs_bd p HP.out W Y X
            have b2 := ig_bd p HP.out W (X + 1) (by omega) Y
            have e2 : rs p W Y (X + 1) = rs p W Y X + p (P + X) := by rw [rs, eP]
            obtain ⟨V, eV⟩ : ∃ V, p (P + X) = V := ⟨_, rfl⟩
            obtain ⟨R, eR⟩ : ∃ R, rs p W Y X = R := ⟨_, rfl⟩
            obtain ⟨I, eI⟩ : ∃ I, ig p W Y (X + 1) = I := ⟨_, rfl⟩
            rw [eV] at c1 hV
            rw [eI] at c2 b2
            rw [eR] at b1 ⊢
            rw [eV, eR] at e2
            have HE2 := Lib.hid e2
            have HEI := Lib.hid eI
            have HEQ := Lib.hid eQ2
            clear hc hup e1 e2 eV eR eI eQ2
            go_wp2_with fail
            exact ⟨⟨X + 1, by omega, by rw [HE2.out], by go_num, S0.out.far (by omega) _ _, (SR.out.set (Q + D + X + 1) _).congr (fun j hj => by
              have hts := tab_step p W Y X hltx j
              rw [HD.out, HEQ.out, HEI.out, HE2.out] at hts
              unfold upd
              dsimp only
              rw [HEQ.out, hts]
              by_cases h : j = Q + D + X + 1
              · rw [if_pos h, if_pos (by omega)]
              · rw [if_neg h, if_neg (by omega)]), SB.out.setCell (p := ⟨w1.heap.size, Q + D + X + 1, none⟩) (by simp; omega) _⟩, by simp [intOf]; omega⟩
          · obtain rfl : X = W := by omega
            go_wp2_with fail
            exact ⟨⟨Y + 1, by omega, by go_num, S0.out, SR.out.congr (fun j hj => by
              rw [show (Y + 1 + 1) * D = (Y + 1) * D + X + 1 by rw [Nat.add_mul (Y + 1) 1 D, ← HD.out]; omega]), SB.out⟩, by simp [intOf]; omega⟩
      · obtain rfl : Y = H := by omega
        go_wp2_with fail
        go_ret2
        exact ⟨_, _, rfl, Nat.le_refl _, SR.out.ro.congr (fun j hj => by
          unfold tab
          rw [if_pos (by rw [Nat.mul_comm, HN.out]; exact hj)]), SB.out⟩
end Go.Proofs.Ytjhdjmlaidpjfaa.B
