/- slices.Clone of limbs, bigint.made and bigint.result: an integer out of a sign and a magnitude. -/
import Derived.Test.YtjhdjmlaidpjfaaValid
import Derived.Test.YtjhdjmlaidpjfaaProduct
import Derived.Test.YtjhdjmlaidpjfaaShelf
import Derived.WalkSpells
set_option linter.unusedVariables false
namespace Go.Proofs.Ytjhdjmlaidpjfaa.B
open Go.RowKit
def ClonePost (xs : List Int) (w : World) (e : Ending) (w' : World) : Prop := ∃ A c, e = .returned (.slice A xs.length c) ∧ xs.length ≤ c ∧ Rd w' A xs ∧ Below w.heap.size w w'
set_option maxRecDepth 100000 in
theorem clone_any (A : Option Addr) (c : Nat) (xs : List Int) (w : World) (hA : Rd w A xs) (hc : xs.length ≤ c) (hl : xs.length ≤ 1000000000000) :
    Calls Try.prog 120 #[.slice A xs.length c] w (ClonePost xs w) := by
  by_cases h0 : xs.length = 0
  · obtain rfl : xs = [] := List.length_eq_zero_iff.1 h0
    cases A with
    | none => exact (slices_Clone_nil 0 c w).mono fun e w' ⟨h1, h2⟩ => ⟨none, 0, h1, Nat.le_refl _, Rd.nil _ _, by rw [h2]; exact Below.refl _ _⟩
    | some ad =>
      clear hA h0
      have hq := fun w1 => Lib.run_eql_slice_nil (P := Try.prog) w1 50 137 (some ad) 0 c 0 0 Try.underlying50
      go_enter Try.func120, Try.ntmps120
      go_wp2_with fail
      go_ret
      exact ⟨some ⟨w.heap.size, 0, none⟩, 0, rfl, Nat.le_refl _, Rd.nil _ _, (Below.refl _ _).alloc (Nat.le_refl _) _⟩
  · obtain ⟨b, off, rfl, hb, hcell⟩ := hA.2 (by omega)
    obtain ⟨i0, hi, hzz⟩ := Option.map_eq_some_iff.1 info_u32
    simp only [Prod.mk.injEq] at hzz
    obtain ⟨hz0, hz1, hz2⟩ := hzz
    refine (slices_Clone i0 (.int .u32 0) 1 4 hi hz0 hz1 hz2 rfl (by omega) (fun w => by kernel_rfl) b off xs.length c (xs.map (.int .u32)) w (by simp) (by unfold maxLen; omega) (by omega) ?_ ?_).mono ?_
    · intro j u hj
      rw [List.getElem?_map] at hj
      obtain ⟨x, hx, rfl⟩ := Option.map_eq_some_iff.1 hj
      have hjl : j < xs.length := (List.getElem?_eq_some_iff.1 hx).1
      rw [hcell j hjl, List.getD_eq_getElem?_getD, hx]; rfl
    · intro u hu
      obtain ⟨x, _, rfl⟩ := List.mem_map.1 hu
      rfl
    · rintro e w' ⟨v', rfl, hown, hne, hbel⟩
      obtain ⟨h1, h2⟩ := hown
      rcases h2 with ⟨h2, h3⟩ | ⟨g, cap, cur, rfl, hg, hh, hcap, _, hs, ht⟩
      · omega
      · refine ⟨some ⟨g, 0, none⟩, cap, rfl, hcap, ⟨hA.1, fun _ => ⟨g, 0, rfl, (Array.getElem?_eq_some_iff.1 hh).1, fun i hi => ?_⟩⟩, hbel⟩
        rw [Nat.zero_add]
        unfold World.cell?
        rw [hh]
        have e := congrArg (fun l => l[i]?) ht
        simp only [Nat.mul_one, List.getElem?_take, if_pos hi, List.getElem?_map] at e
        have e2 : cur[i]? = some (.int .u32 (xs.getD i 0)) := by
          rw [← Array.getElem?_toList, e, List.getElem?_eq_getElem hi]
          simp [hi, List.getD_eq_getElem?_getD]
        simpa using e2
/-- The integer with a sign and a magnitude. -/
def signed (neg : Bool) (v : Int) : Int := if neg then -v else v
theorem signed_mg (neg : Bool) {l : List Int} (hd : Dig l) (ht : Trm l) : mg (signed neg (val l)) = l := by
  have := val_nonneg hd
  refine (mg_unique hd ht ?_).symm
  unfold signed; split <;> omega
theorem signed_sg (neg : Bool) {l : List Int} (hd : Dig l) (ht : Trm l) : sg (signed neg (val l)) = (neg && decide (0 < l.length)) := by
  have h0 := val_nonneg hd
  have hp : 0 < l.length ↔ 0 < val l := by
    constructor
    · intro h1
      obtain ⟨m, hm⟩ : ∃ m, l.length = m + 1 := ⟨l.length - 1, by omega⟩
      have := trm_ge hd ht m hm
      have := Bs_pow_pos m
      omega
    · intro h1
      refine Nat.pos_of_ne_zero fun h2 => ?_
      rw [val, h2] at h1; simp [V] at h1
  unfold sg signed
  cases neg with
  | false => simp; exact h0
  | true => simp [hp]
set_option maxHeartbeats 1000000 in
set_option maxRecDepth 100000 in
theorem made_any (neg : Bool) (A : Option Addr) (c : Nat) (xs : List Int) (w : World) (hA : Rd w A xs) (hc : xs.length ≤ c) (hl : xs.length ≤ 1000000000000) :
    Calls Try.prog 100 #[.bool neg, .slice A xs.length c] w (IntPost (signed neg (val xs)) w) := by
  have hu := Try.underlying52
  obtain ⟨l, hle⟩ : ∃ l, trim xs = l := ⟨_, rfl⟩
  have htl : l.length ≤ xs.length := by rw [← hle, trim_len]; exact trimN_le _ _
  have htd : Dig l := by rw [← hle]; exact trim_dig hA.1
  have htt : Trm l := by rw [← hle]; exact trim_trm xs
  have htv : val l = val xs := by rw [← hle]; exact trim_val xs
  have htr := fun w1 h => trim_any A c xs w1 h hc hl
  rw [hle] at htr
  have hcl := fun w1 h => clone_any A c l w1 h (by omega) (by omega)
  obtain ⟨z, hz⟩ : ∃ z, signed neg (val xs) = z := ⟨_, rfl⟩
  have hmg : mg z = l := by rw [← hz, ← htv]; exact signed_mg neg htd htt
  have hsg : sg z = (neg && decide (0 < l.length)) := by rw [← hz, ← htv]; exact signed_sg neg htd htt
  rw [hz]
  have HTR := Lib.hid htr
  have HCL := Lib.hid hcl
  have HR := Lib.hid hA
  have HRT : Hid (∀ w1, Rd w1 A xs → Rd w1 A l) := fun w1 h => by rw [← hle]; exact h.trim
  obtain ⟨n, hn⟩ : ∃ n, l.length = n := ⟨_, rfl⟩
  have hsz : sz z = n := by unfold sz; rw [hmg, hn]
  rw [hn] at hsg HTR HCL
  have HMG := Lib.hid hmg
  have HSG := Lib.hid hsg
  have HSZ := Lib.hid hsz
  obtain ⟨m, hm⟩ : ∃ m, xs.length = m := ⟨_, rfl⟩
  rw [hm] at hc hl HTR ⊢
  have HN := Lib.hid hn
  clear hle htl htd htt htv htr hcl hz hmg hsg hA hn hsz hm
  go_enter Try.func100, Try.ntmps100
  go_wp2_with fail
  refine (HTR.out _ (HR.out.below ((Below.refl _ _).alloc (Nat.le_refl _) _))).mono ?_
  rintro e w1 ⟨rfl, rfl⟩
  go_wp2_with fail
  refine (HCL.out _ (HRT.out _ (HR.out.below ((Below.refl _ _).alloc (Nat.le_refl _) _)))).mono ?_
  rintro e w2 ⟨A2, c2, rfl, h1, h2, h3⟩
  have HK := Lib.hid ((Blk.new w [.bool false, .slice none 0 0] 52).below h3)
  have hbl := HK.out.lt
  have hc0 := HK.out.cell 0 _ rfl
  have hc1 := HK.out.cell 1 _ rfl
  have hf0 := HK.out.frozen 0
  have hf1 := HK.out.frozen 1
  have HB := Lib.hid (((Below.refl w.heap.size w).alloc (Nat.le_refl _) _).trans (h3.mono (by simp)))
  have H1 := Lib.hid h1
  have H2 := Lib.hid h2
  clear h1 h2 h3
  rw [HN.out]
  have HAt : Hid (At w2 A2 c2 z) := ⟨by rw [HMG.out]; exact H2.out, by rw [HSZ.out, ← HN.out]; exact H1.out⟩
  have HBS := Lib.hid (fun u v => below_store2 HB.out (Nat.le_refl _) u v)
  have HKS := Lib.hid (fun b1 A1 n1 c1 => HK.out.store2 b1 A1 n1 c1)
  have HAS := Lib.hid (fun b1 A1 n1 c1 => HAt.out.store2 HK.out b1 A1 n1 c1)
  cases neg with
  | false =>
    have hs : sg z = false := HSG.out
    go_wp2_with fail
    exact bodyPost_ret (res_int rfl _ _ w.heap.size _ _ _ _ rfl (HKS.out _ _ _ _)) rfl ⟨A2, c2, by rw [hs, HSZ.out], HAS.out _ _ _ _, HBS.out _ _⟩
  | true =>
    by_cases h0 : 0 < n
    · have hs : sg z = true := by rw [HSG.out]; simp [h0]
      have hd : decide ((0 : Int) < n) = true := decide_eq_true (by omega)
      go_wp2_with fail
      exact bodyPost_ret (res_int rfl _ _ w.heap.size _ _ _ _ rfl (HKS.out _ _ _ _)) rfl ⟨A2, c2, by rw [hs, HSZ.out], HAS.out _ _ _ _, HBS.out _ _⟩
    · have hs : sg z = false := by rw [HSG.out]; simp [h0]
      have hd : decide ((0 : Int) < n) = false := decide_eq_false (by omega)
      have hd2 : decide (0 < n) = false := decide_eq_false (by omega)
      go_wp2_with fail
      exact bodyPost_ret (res_int rfl _ _ w.heap.size _ _ _ _ rfl (HKS.out _ _ _ _)) rfl ⟨A2, c2, by rw [hs, HSZ.out], HAS.out _ _ _ _, HBS.out _ _⟩
end Go.Proofs.Ytjhdjmlaidpjfaa.B
