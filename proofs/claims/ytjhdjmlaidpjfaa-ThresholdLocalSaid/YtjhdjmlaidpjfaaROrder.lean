/- The reference's limb and order: magnitudes are compared by their values. -/
import Derived.Test.YtjhdjmlaidpjfaaRTrim
import Derived.Lib.MinMax
set_option linter.unusedVariables false
namespace Go.Proofs.Ytjhdjmlaidpjfaa.B
open Go.RowKit
set_option maxRecDepth 100000 in
theorem rlimb_any (A : Option Addr) (m c : Nat) (xs : List Int) (i : Nat) (w : World) (hA : Rd w A xs) (hm : xs.length = m) (hl : m ≤ c) (hb : m ≤ 1000000000000) (hi : i ≤ 1000000000000) :
    Calls Try.prog 127 #[.slice A m c, .int .i64 i] w fun e w' => e = .returned (.int .u64 (xs.getD i 0)) ∧ w' = w := by
  by_cases h : i < m
  · obtain ⟨b, off, rfl, hs, hc⟩ := hA.2 (by omega)
    have hcell := hc i (by omega)
    have hX := hA.1 i
    obtain ⟨x, hx⟩ : ∃ x, xs.getD i 0 = x := ⟨_, rfl⟩
    rw [hx] at hcell hX ⊢
    clear hA hc hx hm
    go_enter Try.func127, Try.ntmps127
    go_wp2_with fail
    go_ret
    exact ⟨rfl, rfl⟩
  · rw [getD_out xs i (by omega)]
    clear hA hm
    go_enter Try.func127, Try.ntmps127
    go_wp2_with fail
    go_ret
    exact ⟨rfl, rfl⟩
theorem ord_less {xs ys : List Int} (hx : Dig xs) (hy : Dig ys) {k : Nat} (h : ∀ j, k + 1 ≤ j → xs.getD j 0 = ys.getD j 0) (hl : xs.getD k 0 < ys.getD k 0) : val xs < val ys := by
  have h1 := (CInv.mk h : CInv xs ys 0 (k + 1)).sub (xs.length + ys.length)
  rw [val_of_le xs (k + 1 + (xs.length + ys.length)) (by omega), val_of_le ys (k + 1 + (xs.length + ys.length)) (by omega), V_succ, V_succ] at h1
  have h2 := V_lt xs hx k
  have h3 := V_nonneg ys hy k
  have h4 := Int.mul_le_mul_of_nonneg_right (show xs.getD k 0 + 1 ≤ ys.getD k 0 by omega) (Int.le_of_lt (Bs_pow_pos k))
  rw [Int.add_mul] at h4
  omega
theorem ord_eq {xs ys : List Int} (h : ∀ j, xs.getD j 0 = ys.getD j 0) : val xs = val ys := by
  rw [← val_of_le xs (xs.length + ys.length) (by omega), ← val_of_le ys (xs.length + ys.length) (by omega)]
  exact V_congr _ _ _ (fun j _ => h j)
set_option maxHeartbeats 1000000 in
set_option maxRecDepth 100000 in
theorem rorder_any (A B : Option Addr) (n m ca cb : Nat) (xs ys : List Int) (w : World) (hA : Rd w A xs) (hn : xs.length = n) (hca : n ≤ ca) (hB : Rd w B ys) (hm : ys.length = m) (hcb : m ≤ cb) (hx : n ≤ 100000000000) (hy : m ≤ 100000000000) :
    Calls Try.prog 110 #[.slice A n ca, .slice B m cb] w fun e w' => e = .returned (.int .i64 (sgn3 (val xs) (val ys))) ∧ w' = w := by
  obtain ⟨N, hN⟩ : ∃ N, max n m = N := ⟨_, rfl⟩
  have hNb : N ≤ 100000000000 := by omega
  have HA := Lib.hid hA
  have HB := Lib.hid hB
  have HNN : Hid (xs.length ≤ N ∧ ys.length ≤ N) := Lib.hid ⟨by omega, by omega⟩
  have HL1 := Lib.hid (fun w1 (i : Nat) h hi => rlimb_any A n ca xs i w1 h hn hca (by omega) hi)
  have HL2 := Lib.hid (fun w1 (i : Nat) h hi => rlimb_any B m cb ys i w1 h hm hcb (by omega) hi)
  obtain ⟨s, es⟩ : ∃ s, sgn3 (val xs) (val ys) = s := ⟨_, rfl⟩
  have HS := Lib.hid es
  rw [es]
  have hNi : max (n : Int) (m : Int) = (N : Int) := by omega
  clear hA hB es hn hm
  go_enter Try.func110, Try.ntmps110
  go_wp2_with fail
  go_loopw [6] (fun v6 wr => ∃ k : Nat, k ≤ N ∧ v6 = .int .i64 ((k : Int) - 1) ∧ Hid (∀ j, k ≤ j → xs.getD j 0 = ys.getD j 0) ∧ wr = w) (fun v6 _ => (intOf v6 + 1).toNat)
  case atStart => exact ⟨N, Nat.le_refl _, by go_num, Lib.hid (fun j hj => by rw [getD_out xs j (by have := HNN.out; omega), getD_out ys j (by have := HNN.out; omega)]), rfl⟩
  case round =>
    obtain ⟨k, hk, rfl, HC, rfl⟩ := hrel
    cases k with
    | zero =>
      rw [show ((0 : Nat) : Int) - 1 = -1 by rfl]
      go_wp2_with fail
      go_ret
      refine ⟨ret1 ?_, rfl⟩
      rw [← HS.out, ord_eq (fun j => HC.out j (Nat.zero_le _))]; unfold sgn3; rw [if_neg (by omega), if_pos rfl]
    | succ k =>
      rw [show ((k + 1 : Nat) : Int) - 1 = k by omega]
      have HL1k := Lib.hid (HL1.out _ k HA.out (by omega))
      have HL2k := Lib.hid (HL2.out _ k HB.out (by omega))
      have hX := HA.out.1 k
      have hY := HB.out.1 k
      obtain ⟨X, eX⟩ : ∃ X, xs.getD k 0 = X := ⟨_, rfl⟩
      obtain ⟨Y, eY⟩ : ∃ Y, ys.getD k 0 = Y := ⟨_, rfl⟩
      rw [eX] at HL1k hX
      rw [eY] at HL2k hY
      have EX := Lib.hid eX
      have EY := Lib.hid eY
      clear eX eY
      go_wp2_with fail
      refine HL1k.out.mono ?_
      rintro e w1 ⟨rfl, rfl⟩
      go_wp2_with fail
      refine HL2k.out.mono ?_
      rintro e w1 ⟨rfl, rfl⟩
      by_cases hl : X < Y
      · have h3 : decide (X < Y) = true := decide_eq_true hl
        go_wp2_with fail
        go_ret
        refine ⟨ret1 ?_, rfl⟩
        rw [← HS.out]; unfold sgn3; rw [if_pos (ord_less HA.out.1 HB.out.1 HC.out (by rw [EX.out, EY.out]; exact hl))]
      · have h3 : decide (X < Y) = false := decide_eq_false hl
        go_wp2_with fail
        refine HL1k.out.mono ?_
        rintro e w1 ⟨rfl, rfl⟩
        go_wp2_with fail
        refine HL2k.out.mono ?_
        rintro e w1 ⟨rfl, rfl⟩
        by_cases hg : Y < X
        · have h4 : decide (Y < X) = true := decide_eq_true hg
          go_wp2_with fail
          go_ret
          refine ⟨ret1 ?_, rfl⟩
          have := ord_less HB.out.1 HA.out.1 (fun j hj => (HC.out j hj).symm) (by rw [EX.out, EY.out]; exact hg)
          rw [← HS.out]; unfold sgn3; rw [if_neg (by omega), if_neg (by omega)]
        · have h4 : decide (Y < X) = false := decide_eq_false hg
          have he : X = Y := by omega
          go_wp2_with fail
          exact ⟨⟨k, by omega, rfl, Lib.hid (fun j hj => by
            by_cases h : j = k
            · rw [h, EX.out, EY.out]; exact he
            · exact HC.out j (by omega)), trivial⟩, by simp [intOf] <;> omega⟩
end Go.Proofs.Ytjhdjmlaidpjfaa.B
