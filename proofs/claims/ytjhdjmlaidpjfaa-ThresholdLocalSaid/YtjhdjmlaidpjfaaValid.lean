/- bigint.Valid reports whether a sign and a magnitude are an integer in normal form. Condition: less than 2^46 limbs. -/
import Derived.Test.YtjhdjmlaidpjfaaInt
import Derived.Test.YtjhdjmlaidpjfaaBits
set_option linter.unusedVariables false
namespace Go.Proofs.Ytjhdjmlaidpjfaa.B
open Go.RowKit
/-- Is it in normal form? -/
def vldB (n : Bool) (l : List Int) : Bool := decide (l.length ≤ 512) && ((decide (l.length = 0) && !n) || (decide (0 < l.length) && decide (l.getD (l.length - 1) 0 ≠ 0)))
theorem vldB_int {n : Bool} {l : List Int} (hd : Dig l) (h : vldB n l = true) : ∃ z, n = sg z ∧ l = mg z ∧ sz z ≤ 512 := by
  unfold vldB at h
  simp only [Bool.and_eq_true, Bool.or_eq_true, decide_eq_true_eq, Bool.not_eq_true'] at h
  obtain ⟨hl, h⟩ := h
  have ht : Trm l := by rcases h with h | h; exact .inl h.1; exact .inr h.2
  have h0 := val_nonneg hd
  have hz : l.length = 0 → n = false := fun h1 => by rcases h with h | h; exact h.2; omega
  have hp : 0 < l.length → 0 < val l := fun h1 => by
    obtain ⟨m, hm⟩ : ∃ m, l.length = m + 1 := ⟨l.length - 1, by omega⟩
    have := trm_ge hd ht m hm
    have := Bs_pow_pos m
    omega
  cases n with
  | false =>
    have e : l = mg (val l) := mg_unique hd ht (by omega)
    exact ⟨val l, by unfold sg; simp; omega, e, by unfold sz; rw [← e]; exact hl⟩
  | true =>
    have e : l = mg (-val l) := mg_unique hd ht (by omega)
    have hlp : 0 < l.length := by
      refine Nat.pos_of_ne_zero fun h1 => ?_
      have := hz h1; cases this
    refine ⟨-val l, by unfold sg; simp; exact hp hlp, e, by unfold sz; rw [← e]; exact hl⟩
theorem vldB_of_int {z : Int} (h : sz z ≤ 512) : vldB (sg z) (mg z) = true := by
  unfold vldB
  simp only [Bool.and_eq_true, Bool.or_eq_true, decide_eq_true_eq, Bool.not_eq_true']
  refine ⟨h, ?_⟩
  by_cases h0 : (mg z).length = 0
  · left
    refine ⟨h0, ?_⟩
    have : z = 0 := sz_eq_zero.1 h0
    rw [this]; rfl
  · right
    refine ⟨by omega, ?_⟩
    rcases mg_trm z with h1 | h1
    · exact absurd h1 h0
    · exact h1
set_option maxHeartbeats 1000000 in
set_option maxRecDepth 100000 in
theorem valid_raw (A : Option Addr) (c : Nat) (n : Bool) (l : List Int) (w : World) (hA : Rd w A l) (hc : l.length ≤ c) (hl : l.length ≤ 70368744177664) :
    Calls Try.prog 96 #[.agg #[.bool n, .slice A l.length c]] w fun e w' => e = .returned (.bool (vldB n l)) ∧ Below w.heap.size w w' := by
  obtain ⟨v, hv⟩ : ∃ v, vldB n l = v := ⟨_, rfl⟩
  rw [hv]
  unfold vldB at hv
  obtain ⟨m, hm⟩ : ∃ m, l.length = m := ⟨_, rfl⟩
  rw [hm] at hc hl hv ⊢
  have hu := Try.underlying52
  have hbel := Lib.hid ((Below.refl w.heap.size w).alloc (Nat.le_refl _) (.cells #[.bool n, .slice A m c] 52))
  by_cases h1 : m ≤ 512
  · by_cases h0 : m = 0
    · subst h0
      cases n with
      | false =>
        have : v = true := by simpa using hv.symm
        subst this
        clear hv hA hm
        go_enter Try.func96, Try.ntmps96
        go_wp2_with fail
        go_ret
        exact ⟨rfl, hbel.out⟩
      | true =>
        have : v = false := by simpa using hv.symm
        subst this
        clear hv hA hm
        go_enter Try.func96, Try.ntmps96
        go_wp2_with fail
        go_ret
        exact ⟨rfl, hbel.out⟩
    · obtain ⟨b, off, rfl, hb, hcell⟩ := hA.2 (by omega)
      have hcl := hcell (m - 1) (by omega)
      have hbl : b ≠ w.heap.size := by omega
      obtain ⟨x, hx⟩ : ∃ x, l.getD (m - 1) 0 = x := ⟨_, rfl⟩
      rw [hx] at hcl hv
      have e0 : decide (m = 0) = false := decide_eq_false h0
      have e1 : decide (m ≤ 512) = true := decide_eq_true h1
      have e2 : decide (0 < m) = true := decide_eq_true (by omega)
      rw [e0, e1, e2] at hv
      have hne : ((m : Int) == 0) = false := beq_eq_false_iff_ne.2 (by omega)
      have hne' : (m == 0) = false := beq_eq_false_iff_ne.2 (by omega)
      have hpos : 0 < m := by omega
      by_cases hx0 : x = 0
      · subst hx0
        have : v = false := by simpa using hv.symm
        subst this
        clear hv hA hcell hx e0 e1 e2 hm h0
        go_enter Try.func96, Try.ntmps96
        go_wp2_with fail
        go_ret
        exact ⟨rfl, hbel.out⟩
      · have : v = true := by simpa [hx0] using hv.symm
        subst this
        have hxn : (x != 0) = true := by rw [bne_iff_ne]; exact hx0
        clear hv hA hcell hx e0 e1 e2 hm h0 hx0
        go_enter Try.func96, Try.ntmps96
        go_wp2_with fail
        go_ret
        exact ⟨rfl, hbel.out⟩
  · have e1 : decide (m ≤ 512) = false := decide_eq_false h1
    rw [e1] at hv
    have : v = false := by simpa using hv.symm
    subst this
    clear hv hA hm
    have h2 : decide ((m : Int) ≤ 512) = false := decide_eq_false (by omega)
    go_enter Try.func96, Try.ntmps96
    go_wp2_with fail
    go_ret
    exact ⟨rfl, hbel.out⟩
/-- bigint.Valid of an integer. -/
theorem valid_ok (A : Option Addr) (c : Nat) (z : Int) (w : World) (hA : At w A c z) (hz : sz z ≤ 512) :
    Calls Try.prog 96 #[.agg #[.bool (sg z), .slice A (sz z) c]] w fun e w' => e = .returned (.bool true) ∧ Below w.heap.size w w' :=
  (valid_raw A c (sg z) (mg z) w hA.1 hA.2 (by have : (mg z).length = sz z := rfl; omega)).mono fun e w' ⟨h1, h2⟩ => ⟨by rw [h1, vldB_of_int hz], h2⟩
end Go.Proofs.Ytjhdjmlaidpjfaa.B
