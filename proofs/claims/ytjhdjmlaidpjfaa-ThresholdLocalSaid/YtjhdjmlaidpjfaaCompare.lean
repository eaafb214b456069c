/- limbs.Compare compares two trimmed magnitudes by their values; only draws of orders pass. Condition: at most 10^11 limbs each. -/
import Derived.Test.YtjhdjmlaidpjfaaTrim
import Derived.Test.YtjhdjmlaidpjfaaBits
set_option linter.unusedVariables false
namespace Go.Proofs.Ytjhdjmlaidpjfaa.B
open Go.RowKit
/-- -1, 0 or 1. -/
def sgn3 (a b : Int) : Int := if a < b then -1 else if a = b then 0 else 1
theorem trm_ge {xs : List Int} (hd : Dig xs) (ht : Trm xs) (n : Nat) (h : xs.length = n + 1) : Bs ^ n ≤ val xs := by
  rw [val, h, V_succ]
  have h1 := V_nonneg xs hd n
  have h2 : 1 ≤ xs.getD n 0 := by
    rcases ht with h0 | h0
    · omega
    · rw [h] at h0; simp at h0
      have := (hd n).1
      have h3 : xs.getD n 0 ≠ 0 := by simpa using h0
      omega
  have h3 := Int.mul_le_mul_of_nonneg_right h2 (Int.le_of_lt (Bs_pow_pos n))
  omega
theorem val_lt_of_len {xs ys : List Int} (hx : Dig xs) (hy : Dig ys) (ht : Trm ys) (h : xs.length < ys.length) : val xs < val ys := by
  obtain ⟨n, hn⟩ : ∃ n, ys.length = n + 1 := ⟨ys.length - 1, by omega⟩
  have h1 := trm_ge hy ht n hn
  have h2 := V_lt xs hx n
  rw [val_of_le xs n (by omega)] at h2
  omega
/-- From limb number k on the two agree. -/
structure CInv (xs ys : List Int) (n k : Nat) : Prop where
  eq : ∀ j, k ≤ j → xs.getD j 0 = ys.getD j 0
theorem CInv.sub {xs ys : List Int} {n k : Nat} (h : CInv xs ys n k) : ∀ m, V xs (k + m) - V ys (k + m) = V xs k - V ys k
  | 0 => rfl
  | m + 1 => by rw [← Nat.add_assoc, V_succ, V_succ, h.eq (k + m) (by omega)]; have := h.sub m; omega
theorem CInv.less {xs ys : List Int} {n k : Nat} (hx : Dig xs) (hy : Dig ys) (h : CInv xs ys n (k + 1)) (hn : xs.length = n) (hm : ys.length = n) (hk : k < n) (hl : xs.getD k 0 < ys.getD k 0) : val xs < val ys := by
  have h1 := h.sub (n - (k + 1))
  rw [show k + 1 + (n - (k + 1)) = n by omega, val_of_le xs n (by omega), val_of_le ys n (by omega), V_succ, V_succ] at h1
  have h2 := V_lt xs hx k
  have h3 := V_nonneg ys hy k
  have h4 := Int.mul_le_mul_of_nonneg_right (show xs.getD k 0 + 1 ≤ ys.getD k 0 by omega) (Int.le_of_lt (Bs_pow_pos k))
  rw [Int.add_mul] at h4
  omega
theorem CInv.swap {xs ys : List Int} {n k : Nat} (h : CInv xs ys n k) : CInv ys xs n k := ⟨fun j hj => (h.eq j hj).symm⟩
theorem CInv.all {xs ys : List Int} {n : Nat} (h : CInv xs ys n 0) (hn : xs.length = n) (hm : ys.length = n) : val xs = val ys := by
  unfold val; rw [hn, hm]; exact V_congr _ _ _ (fun j _ => h.eq j (Nat.zero_le _))
/-- The world after some draws. -/
def Drn (w w' : World) : Prop := ∃ n, w' = w.drewN n
theorem Drn.refl (w : World) : Drn w w := ⟨0, rfl⟩
theorem Drn.drewN {w w' : World} (h : Drn w w') (n : Nat) : Drn w (w'.drewN n) := by
  obtain ⟨m, rfl⟩ := h
  exact ⟨m + n, World.drewN_drewN ..⟩
theorem Drn.below {w w' : World} (h : Drn w w') : Below w.heap.size w w' := by
  obtain ⟨n, rfl⟩ := h
  exact below_drewN (Below.refl _ _) n
set_option maxHeartbeats 1000000 in
theorem compare_any (A B : Option Addr) (ca cb : Nat) (xs ys : List Int) (w : World) (hA : Rd w A xs) (hca : xs.length ≤ ca) (hB : Rd w B ys) (hcb : ys.length ≤ cb) (hx : xs.length ≤ 100000000000) (hy : ys.length ≤ 100000000000) (tx : Trm xs) (ty : Trm ys) :
    Calls Try.prog 99 #[.slice A xs.length ca, .slice B ys.length cb] w fun e w' => e = .returned (.int .i64 (sgn3 (val xs) (val ys))) ∧ Drn w w' := by
  obtain ⟨n, hn⟩ : ∃ n, xs.length = n := ⟨_, rfl⟩
  obtain ⟨m, hmm⟩ : ∃ m, ys.length = m := ⟨_, rfl⟩
  by_cases hlt : n < m
  · have hv := val_lt_of_len hA.1 hB.1 ty (by omega)
    have hs : sgn3 (val xs) (val ys) = -1 := by unfold sgn3; rw [if_pos hv]
    rw [hs]
    rw [hn] at hca hx ⊢
    rw [hmm] at hcb hy ⊢
    clear hA hB tx ty hn hmm hv hs
    have h1 : ((n : Int) != m) = true := by rw [bne_iff_ne]; omega
    have h1' : (n != m) = true := by rw [bne_iff_ne]; omega
    go_enter Try.func99, Try.ntmps99
    go_wp2_with fail
    go_ret
    exact ⟨ret1 (by omega), Drn.refl _⟩
  by_cases hgt : m < n
  · have hv := val_lt_of_len hB.1 hA.1 tx (by omega)
    have hs : sgn3 (val xs) (val ys) = 1 := by unfold sgn3; rw [if_neg (by omega), if_neg (by omega)]
    rw [hs]
    rw [hn] at hca hx ⊢
    rw [hmm] at hcb hy ⊢
    clear hA hB tx ty hn hmm hv hs
    have h1 : ((n : Int) != m) = true := by rw [bne_iff_ne]; omega
    have h1' : (n != m) = true := by rw [bne_iff_ne]; omega
    go_enter Try.func99, Try.ntmps99
    go_wp2_with fail
    go_ret
    exact ⟨ret1 (by omega), Drn.refl _⟩
  obtain rfl : n = m := by omega
  have HA := Lib.hid hA
  have HB := Lib.hid hB
  have HN := Lib.hid hn
  have HM := Lib.hid hmm
  obtain ⟨s, es⟩ : ∃ s, sgn3 (val xs) (val ys) = s := ⟨_, rfl⟩
  have HS := Lib.hid es
  rw [es]
  rw [hn] at hca hx ⊢
  rw [hmm] at hcb hy ⊢
  clear hA hB tx ty hn hmm es hlt hgt
  have h1 : ((n : Int) != n) = false := by simp
  have h1' : (n != n) = false := by simp
  go_enter Try.func99, Try.ntmps99
  go_wp2_with fail
  go_loopw [5] (fun v5 wr => ∃ k : Nat, k ≤ n ∧ v5 = .int .i64 ((k : Int) - 1) ∧ CInv xs ys n k ∧ Drn w wr) (fun v5 _ => (intOf v5 + 1).toNat)
  case atStart => exact ⟨n, Nat.le_refl _, by go_num, ⟨fun j hj => by rw [getD_out xs j (by rw [HN.out]; omega), getD_out ys j (by rw [HM.out]; omega)]⟩, Drn.refl _⟩
  case round =>
    obtain ⟨k, hk, rfl, hC, hdr⟩ := hrel
    cases k with
    | zero =>
      rw [show ((0 : Nat) : Int) - 1 = -1 by rfl]
      go_wp2_with fail
      go_ret
      refine ⟨ret1 ?_, hdr⟩
      rw [← HS.out, hC.all HN.out HM.out]; unfold sgn3; rw [if_neg (by omega), if_pos rfl]
    | succ k =>
      obtain ⟨b, off, rfl, hs, hc⟩ := HA.out.2 (by rw [HN.out]; omega)
      obtain ⟨b2, off2, rfl, hs2, hc2⟩ := HB.out.2 (by rw [HM.out]; omega)
      have hcell := (hdr.below.cell (p := ⟨b, off + k, none⟩) hs).trans (hc k (by rw [HN.out]; omega))
      have hcell2 := (hdr.below.cell (p := ⟨b2, off2 + k, none⟩) hs2).trans (hc2 k (by rw [HM.out]; omega))
      have hX := HA.out.1 k
      have hY := HB.out.1 k
      obtain ⟨X, eX⟩ : ∃ X, xs.getD k 0 = X := ⟨_, rfl⟩
      obtain ⟨Y, eY⟩ : ∃ Y, ys.getD k 0 = Y := ⟨_, rfl⟩
      rw [eX] at hcell hX
      rw [eY] at hcell2 hY
      have EX := Lib.hid eX
      have EY := Lib.hid eY
      have HD := Lib.hid hdr
      rw [show ((k + 1 : Nat) : Int) - 1 = k by omega]
      clear hc hc2 eX eY hdr
      by_cases he : X = Y
      · subst he
        have h2 : (X != X) = false := by simp
        go_wp2_with fail
        go_quiet (fail)
        go_wp2_with fail
        exact ⟨⟨k, by omega, rfl, ⟨fun j hj => by
          by_cases h : j = k
          · rw [h, EX.out, EY.out]
          · exact hC.eq j (by omega)⟩, HD.out.drewN _⟩, by simp [intOf] <;> omega⟩
      · have h2 : (X != Y) = true := by rw [bne_iff_ne]; exact he
        by_cases hl : X < Y
        · have h3 : decide (X < Y) = true := decide_eq_true hl
          go_wp2_with fail
          go_quiet (fail)
          go_wp2_with fail
          go_quiet (fail)
          go_wp2_with fail
          go_ret
          refine ⟨ret1 ?_, (HD.out.drewN _).drewN _⟩
          rw [← HS.out]; unfold sgn3; rw [if_pos (hC.less HA.out.1 HB.out.1 HN.out HM.out (by omega) (by rw [EX.out, EY.out]; exact hl))]
        · have h3 : decide (X < Y) = false := decide_eq_false hl
          go_wp2_with fail
          go_quiet (fail)
          go_wp2_with fail
          go_quiet (fail)
          go_wp2_with fail
          go_ret
          refine ⟨ret1 ?_, (HD.out.drewN _).drewN _⟩
          have := hC.swap.less HB.out.1 HA.out.1 HM.out HN.out (by omega) (by rw [EX.out, EY.out]; omega)
          rw [← HS.out]; unfold sgn3; rw [if_neg (by omega), if_neg (by omega)]
end Go.Proofs.Ytjhdjmlaidpjfaa.B
