/- The reference's Valid, signed, limit, FromInt, Mul and Cmp of integers. -/
import Derived.Test.YtjhdjmlaidpjfaaRTimes
import Derived.Test.YtjhdjmlaidpjfaaFromInt
import Derived.Test.YtjhdjmlaidpjfaaMul
import Derived.Test.YtjhdjmlaidpjfaaCmp
set_option linter.unusedVariables false
namespace Go.Proofs.Ytjhdjmlaidpjfaa.B
open Go.RowKit
set_option maxHeartbeats 1000000 in
set_option maxRecDepth 100000 in
theorem rvalid_raw (A : Option Addr) (c : Nat) (n : Bool) (l : List Int) (w : World) (hA : Rd w A l) (hc : l.length ≤ c) (hl : l.length ≤ 70368744177664) :
    Calls Try.prog 107 #[.agg #[.bool n, .slice A l.length c]] w fun e w' => e = .returned (.bool (vldB n l)) ∧ Below w.heap.size w w' := by
  obtain ⟨v, hv⟩ : ∃ v, vldB n l = v := ⟨_, rfl⟩
  rw [hv]
  unfold vldB at hv
  obtain ⟨m, hm⟩ : ∃ m, l.length = m := ⟨_, rfl⟩
  rw [hm] at hc hl hv ⊢
  have hu := Try.underlying52
  have hbel := Lib.hid ((Below.refl w.heap.size w).alloc (Nat.le_refl _) (.cells #[.bool n, .slice A m c] 52))
  by_cases h1 : m ≤ 512
  · by_cases h0 : m = 0
    · subst h0
      cases n with
      | false =>
        have : v = true := by simpa using hv.symm
        subst this
        clear hv hA hm
        go_enter Try.func107, Try.ntmps107
        go_wp2_with fail
        go_ret
        exact ⟨rfl, hbel.out⟩
      | true =>
        have : v = false := by simpa using hv.symm
        subst this
        clear hv hA hm
        go_enter Try.func107, Try.ntmps107
        go_wp2_with fail
        go_ret
        exact ⟨rfl, hbel.out⟩
    · obtain ⟨b, off, rfl, hb, hcell⟩ := hA.2 (by omega)
      have hcl := hcell (m - 1) (by omega)
      have hbl : b ≠ w.heap.size := by omega
      obtain ⟨x, hx⟩ : ∃ x, l.getD (m - 1) 0 = x := ⟨_, rfl⟩
      rw [hx] at hcl hv
      have e0 : decide (m = 0) = false := decide_eq_false h0
      have e1 : decide (m ≤ 512) = true := decide_eq_true h1
      have e2 : decide (0 < m) = true := decide_eq_true (by omega)
      rw [e0, e1, e2] at hv
      have hne : ((m : Int) == 0) = false := beq_eq_false_iff_ne.2 (by omega)
      have hne' : (m == 0) = false := beq_eq_false_iff_ne.2 (by omega)
      have hpos : 0 < m := by omega
      by_cases hx0 : x = 0
      · subst hx0
        have : v = false := by simpa using hv.symm
        subst this
        clear hv hA hcell hx e0 e1 e2 hm h0
        go_enter Try.func107, Try.ntmps107
        go_wp2_with fail
        go_ret
        exact ⟨rfl, hbel.out⟩
      · have : v = true := by simpa [hx0] using hv.symm
        subst this
        have hxn : (x != 0) = true := by rw [bne_iff_ne]; exact hx0
        clear hv hA hcell hx e0 e1 e2 hm h0 hx0
        go_enter Try.func107, Try.ntmps107
        go_wp2_with fail
        go_ret
        exact ⟨rfl, hbel.out⟩
  · have e1 : decide (m ≤ 512) = false := decide_eq_false h1
    rw [e1] at hv
    have : v = false := by simpa using hv.symm
    subst this
    clear hv hA hm
    have h2 : decide ((m : Int) ≤ 512) = false := decide_eq_false (by omega)
    go_enter Try.func107, Try.ntmps107
    go_wp2_with fail
    go_ret
    exact ⟨rfl, hbel.out⟩
/-- The reference's Valid of an integer. -/
theorem rvalid_ok (A : Option Addr) (c : Nat) (z : Int) (w : World) (hA : At w A c z) (hz : sz z ≤ 512) :
    Calls Try.prog 107 #[.agg #[.bool (sg z), .slice A (sz z) c]] w fun e w' => e = .returned (.bool true) ∧ Below w.heap.size w w' :=
  (rvalid_raw A c (sg z) (mg z) w hA.1 hA.2 (by have : (mg z).length = sz z := rfl; omega)).mono fun e w' ⟨h1, h2⟩ => ⟨by rw [h1, vldB_of_int hz], h2⟩
set_option maxHeartbeats 1000000 in
set_option maxRecDepth 100000 in
theorem rsigned_any (neg : Bool) (A : Option Addr) (c : Nat) (xs : List Int) (w : World) (hA : Rd w A xs) (hc : xs.length ≤ c) (hl : xs.length ≤ 10000000) :
    Calls Try.prog 106 #[.bool neg, .slice A xs.length c] w (IntPost (signed neg (val xs)) w) := by
  have hu := Try.underlying52
  have HTR := Lib.hid (fun w1 h => rtrim_any A c xs w1 h hc hl)
  obtain ⟨v, hv⟩ : ∃ v, val xs = v := ⟨_, rfl⟩
  rw [hv] at HTR ⊢
  obtain ⟨z, hz⟩ : ∃ z, signed neg v = z := ⟨_, rfl⟩
  rw [hz]
  have HZ := Lib.hid hz
  have HR := Lib.hid hA
  obtain ⟨m, hm⟩ : ∃ m, xs.length = m := ⟨_, rfl⟩
  rw [hm] at hc hl HTR ⊢
  clear hA hv hm hz
  go_enter Try.func106, Try.ntmps106
  go_wp2_with fail
  refine (HTR.out _ (HR.out.below ((Below.refl _ _).alloc (Nat.le_refl _) _))).mono ?_
  rintro e w2 ⟨A2, c2, l, rfl, h1, h2, h3, h4, h5⟩
  have HK := Lib.hid ((Blk.new w [.bool false, .slice none 0 0] 52).below h5)
  have hbl := HK.out.lt
  have hc0 := HK.out.cell 0 _ rfl
  have hc1 := HK.out.cell 1 _ rfl
  have hf0 := HK.out.frozen 0
  have hf1 := HK.out.frozen 1
  have HB := Lib.hid (bthen (bbox _) h5)
  have hmg : mg z = l := by rw [← HZ.out, ← h4]; exact signed_mg neg h2.1 h3
  have hsg : sg z = (neg && decide (0 < l.length)) := by rw [← HZ.out, ← h4]; exact signed_sg neg h2.1 h3
  obtain ⟨n, hn⟩ : ∃ n, l.length = n := ⟨_, rfl⟩
  have hsz : sz z = n := by unfold sz; rw [hmg, hn]
  have HAt : Hid (At w2 A2 c2 z) := Lib.hid ⟨by rw [hmg]; exact h2, by rw [hsz, ← hn]; exact h1⟩
  rw [hn] at hsg ⊢
  have HSG := Lib.hid hsg
  have HSZ := Lib.hid hsz
  clear h1 h2 h3 h4 h5 hmg hsg hn hsz
  have HBS := Lib.hid (fun u v => below_store2 HB.out (Nat.le_refl _) u v)
  have HKS := Lib.hid (fun b1 A1 n1 c1 => HK.out.store2 b1 A1 n1 c1)
  have HAS := Lib.hid (fun b1 A1 n1 c1 => HAt.out.store2 HK.out b1 A1 n1 c1)
  cases neg with
  | false =>
    have hs : sg z = false := HSG.out
    go_wp2_with fail
    exact bodyPost_ret (res_int rfl _ _ w.heap.size _ _ _ _ rfl (HKS.out _ _ _ _)) rfl ⟨A2, c2, by rw [hs, HSZ.out], HAS.out _ _ _ _, HBS.out _ _⟩
  | true =>
    by_cases h0 : 0 < n
    · have hs : sg z = true := by rw [HSG.out]; simp [h0]
      have hd : decide ((0 : Int) < n) = true := decide_eq_true (by omega)
      go_wp2_with fail
      exact bodyPost_ret (res_int rfl _ _ w.heap.size _ _ _ _ rfl (HKS.out _ _ _ _)) rfl ⟨A2, c2, by rw [hs, HSZ.out], HAS.out _ _ _ _, HBS.out _ _⟩
    · have hs : sg z = false := by rw [HSG.out]; simp [h0]
      have hd : decide ((0 : Int) < n) = false := decide_eq_false (by omega)
      have hd2 : decide (0 < n) = false := decide_eq_false (by omega)
      go_wp2_with fail
      exact bodyPost_ret (res_int rfl _ _ w.heap.size _ _ _ _ rfl (HKS.out _ _ _ _)) rfl ⟨A2, c2, by rw [hs, HSZ.out], HAS.out _ _ _ _, HBS.out _ _⟩
set_option maxHeartbeats 1000000 in
set_option maxRecDepth 100000 in
theorem rlimit_ok (neg : Bool) (A : Option Addr) (c : Nat) (xs : List Int) (w : World) (hA : Rd w A xs) (hc : xs.length ≤ c) (hl : xs.length ≤ 10000000) (z : Int) (hz : signed neg (val xs) = z) (hs : sz z ≤ 512) :
    Calls Try.prog 108 #[.bool neg, .slice A xs.length c] w (IntOkPost z w) := by
  have hu := Try.underlying52
  have hm := fun w1 h => rsigned_any neg A c xs w1 h hc hl
  rw [hz] at hm
  have HM := Lib.hid hm
  have HR := Lib.hid hA
  clear hm hA hz
  have HK0 := Lib.hid (Blk.new w [.bool false, .slice none 0 0] 52)
  go_enter Try.func108, Try.ntmps108
  go_wp2_with fail
  refine (HM.out _ (HR.out.below ((Below.refl _ _).alloc (Nat.le_refl _) _))).mono ?_
  rintro e w1 ⟨A1, c1, rfl, h1, h2⟩
  have HK := Lib.hid (HK0.out.below h2)
  have HB := Lib.hid (((Below.refl w.heap.size w).alloc (Nat.le_refl _) _).trans (h2.mono (by simp)))
  have H1 := Lib.hid h1
  have hbl := HK.out.lt
  have hc0 := HK.out.cell 0 _ rfl
  have hc1 := HK.out.cell 1 _ rfl
  have hf0 := HK.out.frozen 0
  have hf1 := HK.out.frozen 1
  have hcap := h1.2
  have hd : decide (512 < sz z) = false := decide_eq_false (by omega)
  have hd2 : decide ((512 : Int) < sz z) = false := decide_eq_false (by omega)
  clear h1 h2
  go_wp2_with fail
  refine bodyPost_ret (res_int2 rfl _ _ w.heap.size _ _ _ _ rfl ((HK.out.store2 _ _ _ _).alloc _)) rfl ⟨A1, c1, rfl, (H1.out.store2 HK.out _ _ _ _).alloc _, balloc (below_store2 HB.out (Nat.le_refl _) _ _) _⟩
set_option maxHeartbeats 1000000 in
set_option maxRecDepth 100000 in
theorem rfromInt_ok (n : Int) (w : World) (hn : -9223372036854775808 ≤ n ∧ n ≤ 9223372036854775807) :
    Calls Try.prog 76 #[.int .i64 n] w (IntPost n w) := by
  have hu := Try.underlying52
  obtain ⟨m, hm⟩ : ∃ m : Nat, n.natAbs = m := ⟨_, rfl⟩
  have hmb : m ≤ 9223372036854775808 := by omega
  have HM := Lib.hid (fun neg A c w1 h => rsigned_any neg A c [(m : Int) % 4294967296, (m : Int) / 4294967296] w1 h)
  have hdg := two_dig (x := (m : Int) % 4294967296) (y := (m : Int) / 4294967296) (by omega) (by omega)
  have hv := two_val ((m : Int) % 4294967296) ((m : Int) / 4294967296)
  have HV : Hid (val [(m : Int) % 4294967296, (m : Int) / 4294967296] = m) := by rw [hv]; exact (by omega : (m : Int) % 4294967296 + 4294967296 * ((m : Int) / 4294967296) = m)
  by_cases h0 : n < 0
  · have hz : signed true (m : Int) = n := by unfold signed; simp; omega
    have hd : decide (n < 0) = true := decide_eq_true h0
    have hmb2 : (m : Int) ≤ 9223372036854775808 := by omega
    have hdv1 : 0 ≤ (m : Int) / 4294967296 := by omega
    have hdv2 : (m : Int) / 4294967296 < 4294967296 := by omega
    have HZ := Lib.hid hz
    have HD := Lib.hid hdg
    have HK0 := Lib.hid (Blk.new w [.bool false, .slice none 0 0] 52)
    have hu9 : -(n + 1) + 1 = (m : Int) := by omega
    rw [← hu9] at HM HV HZ HD hdv1 hdv2
    clear hz hdg hv hm hu9
    go_enter Try.func76, Try.ntmps76
    go_wp2_with fail
    have hrd := Blk.rd2 (Blk.new1 w (.cells #[.bool false, .slice none 0 0] 52) [.int .u32 ((-(n + 1) + 1) % 4294967296), .int .u32 ((-(n + 1) + 1) / 4294967296)] 137) HD.out
    refine (HM.out true _ 2 _ hrd (by simp) (by simp)).mono ?_
    rw [HV.out, HZ.out]
    rintro e w1 ⟨A, c, rfl, h1, h2⟩
    have K := Lib.hid ((HK0.out.alloc _).below h2)
    have HB := Lib.hid (bthen (balloc (balloc (Below.refl w.heap.size w) _) _) h2)
    have H1 := Lib.hid h1
    have k := K.out.two
    clear h1 h2 hrd
    go_wp2_with fail
    exact bodyPost_ret (res_int rfl _ _ w.heap.size _ _ _ _ rfl (K.out.store2 _ _ _ _)) rfl ⟨A, c, rfl, H1.out.store2 K.out _ _ _ _, below_store2 HB.out (Nat.le_refl _) _ _⟩
  · have hz : signed false (m : Int) = n := by unfold signed; simp; omega
    have hd : decide (n < 0) = false := decide_eq_false h0
    have hnm : n = m := by omega
    subst hnm
    have hmb2 : (m : Int) ≤ 9223372036854775807 := by omega
    have hdv1 : 0 ≤ (m : Int) / 4294967296 := by omega
    have hdv2 : (m : Int) / 4294967296 < 4294967296 := by omega
    have HZ := Lib.hid hz
    have HD := Lib.hid hdg
    have HK0 := Lib.hid (Blk.new w [.bool false, .slice none 0 0] 52)
    clear hz hdg hv hm
    go_enter Try.func76, Try.ntmps76
    go_wp2_with fail
    have hrd := Blk.rd2 (Blk.new1 w (.cells #[.bool false, .slice none 0 0] 52) [.int .u32 ((m : Int) % 4294967296), .int .u32 ((m : Int) / 4294967296)] 137) HD.out
    refine (HM.out false _ 2 _ hrd (by simp) (by simp)).mono ?_
    rw [HV.out, HZ.out]
    rintro e w1 ⟨A, c, rfl, h1, h2⟩
    have K := Lib.hid ((HK0.out.alloc _).below h2)
    have HB := Lib.hid (bthen (balloc (balloc (Below.refl w.heap.size w) _) _) h2)
    have H1 := Lib.hid h1
    have k := K.out.two
    clear h1 h2 hrd
    go_wp2_with fail
    exact bodyPost_ret (res_int rfl _ _ w.heap.size _ _ _ _ rfl (K.out.store2 _ _ _ _)) rfl ⟨A, c, rfl, H1.out.store2 K.out _ _ _ _, below_store2 HB.out (Nat.le_refl _) _ _⟩
set_option maxHeartbeats 1000000 in
set_option maxRecDepth 100000 in
theorem rmul_ok (x y : Int) (A : Option Addr) (c : Nat) (B : Option Addr) (d : Nat) (w : World) (hx : At w A c x) (hy : At w B d y) (sx : sz x ≤ 512) (sy : sz y ≤ 512) (sxy : sz (x * y) ≤ 512) :
    Calls Try.prog 77 #[.agg #[.bool (sg x), .slice A (sz x) c], .agg #[.bool (sg y), .slice B (sz y) d]] w (IntOkPost (x * y) w) := by
  have hu := Try.underlying52
  have HVX := Lib.hid (fun w1 h => rvalid_ok A c x w1 h sx)
  have HVY := Lib.hid (fun w1 h => rvalid_ok B d y w1 h sy)
  have HX := Lib.hid hx
  have HY := Lib.hid hy
  have HSX := Lib.hid sxy
  have HP := Lib.hid (fun w1 h1 h2 => rtimes_any A B (sz x) (sz y) c d (mg x) (mg y) w1 h1 rfl hx.2 h2 rfl hy.2 (by omega) (by omega))
  have HSZ : Hid ((mg x).length = sz x ∧ (mg y).length = sz y) := ⟨rfl, rfl⟩
  obtain ⟨a, ha⟩ : ∃ a, sg x = a := ⟨_, rfl⟩
  obtain ⟨b, hb⟩ : ∃ b, sg y = b := ⟨_, rfl⟩
  have HSG : Hid (signed (a != b) (val (mg x) * val (mg y)) = x * y) := by rw [← ha, ← hb]; exact signed_mul x y
  rw [ha] at HVX ⊢
  rw [hb] at HVY ⊢
  clear hx hy ha hb sxy
  go_enter Try.func77, Try.ntmps77
  go_wp2_with fail
  refine (HVX.out _ (((HX.out.alloc _).alloc _).alloc _)).mono ?_
  rintro e w1 ⟨rfl, h1⟩
  have K1 := Lib.hid ((((Blk.new w [.bool a, .slice A (sz x) c] 52).alloc (.cells #[.bool b, .slice B (sz y) d] 52)).alloc (.cells #[.bool false, .slice none 0 0] 52)).below h1)
  have K2 := Lib.hid (((Blk.new1 w (.cells #[.bool a, .slice A (sz x) c] 52) [.bool b, .slice B (sz y) d] 52).alloc (.cells #[.bool false, .slice none 0 0] 52)).below h1)
  have K3 := Lib.hid ((Blk.new2 w (.cells #[.bool a, .slice A (sz x) c] 52) (.cells #[.bool b, .slice B (sz y) d] 52) [.bool false, .slice none 0 0] 52).below h1)
  have HB := Lib.hid (bthen (balloc (balloc (balloc (Below.refl w.heap.size w) _) _) _) h1)
  clear h1
  have k2 := K2.out.two
  go_wp2_with fail
  refine (HVY.out _ (HY.out.below HB.out)).mono ?_
  rintro e w2 ⟨rfl, h2⟩
  replace K1 := Lib.hid (K1.out.below h2)
  replace K2 := Lib.hid (K2.out.below h2)
  replace K3 := Lib.hid (K3.out.below h2)
  replace HB := Lib.hid (bthen HB.out h2)
  clear h2 k2
  have k1 := K1.out.two
  have k2 := K2.out.two
  have k3 := K3.out.two
  go_wp2_with fail
  go_region_held3 (fun w' => w'.cell? ⟨w.heap.size, 0, none⟩ = some (.bool a) ∧ w'.cell? ⟨w.heap.size, 1, none⟩ = some (.slice A (sz x) c) ∧ w'.cell? ⟨w.heap.size + 1, 0, none⟩ = some (.bool b) ∧ w'.cell? ⟨w.heap.size + 1, 1, none⟩ = some (.slice B (sz y) d))
    (first
      | (go_keep; done)
      | exact ⟨(K1.out.drew.below (by assumption)).cell 0 _ rfl, (K1.out.drew.below (by assumption)).cell 1 _ rfl, (K2.out.drew.below (by assumption)).cell 0 _ rfl, (K2.out.drew.below (by assumption)).cell 1 _ rfl⟩
      | exact ⟨((Q1.out.far (by omega) _ _).far (by omega) _ _).cell 0 _ rfl, ((Q1.out.far (by omega) _ _).far (by omega) _ _).cell 1 _ rfl, ((Q2.out.far (by omega) _ _).far (by omega) _ _).cell 0 _ rfl, ((Q2.out.far (by omega) _ _).far (by omega) _ _).cell 1 _ rfl⟩)
    ((first
      | (go_at_call 109; refine (HP.out _ (HX.out.below HB.out.drew).1 (HY.out.below HB.out.drew).1).mono ?_; rintro e w3 ⟨A3, c3, l, rfl, hl, hr, ht, hv, hb3⟩)
      | (go_at_call 108; refine (rlimit_ok _ _ _ _ _ hr hl (by have := mag_len (z := x * y) hr.1 ht (by rw [hv, mg_val, mg_val, Int.natAbs_mul, Int.natCast_mul]); have := HSX.out; omega) (x * y) (by rw [hv]; exact HSG.out) HSX.out).mono ?_; rintro e w4 ⟨A4, c4, rfl, hat, hb4⟩; have hb5 := bthen hb3 hb4; have k5 := (K3.out.drew.below hb5).two; have Q1 := Lib.hid (K1.out.drew.below hb5); have Q2 := Lib.hid (K2.out.drew.below hb5))))
  go_wp2_with fail
  refine bodyPost_ret (res_int2 rfl _ _ (w.heap.size + 1 + 1) _ _ _ _ rfl ((K3.out.drew.below hb5).store2 _ _ _ _)) rfl ⟨A4, c4, rfl, hat.store2 (K3.out.drew.below hb5) _ _ _ _, below_store2 (bthen HB.out.drew hb5) (by omega) _ _⟩
set_option maxHeartbeats 2000000 in
set_option maxRecDepth 100000 in
theorem rcmp_ok (x y : Int) (A : Option Addr) (c : Nat) (B : Option Addr) (d : Nat) (w : World) (hx : At w A c x) (hy : At w B d y) (sx : sz x ≤ 512) (sy : sz y ≤ 512) :
    Calls Try.prog 78 #[.agg #[.bool (sg x), .slice A (sz x) c], .agg #[.bool (sg y), .slice B (sz y) d]] w fun e w' => e = .returned (.int .i64 (sgn3 x y)) ∧ Below w.heap.size w w' := by
  have hu := Try.underlying52
  have HVX := Lib.hid (fun w1 h => rvalid_ok A c x w1 h sx)
  have HVY := Lib.hid (fun w1 h => rvalid_ok B d y w1 h sy)
  have HX := Lib.hid hx
  have HY := Lib.hid hy
  have HC := Lib.hid (fun w1 h1 h2 => rorder_any A B (sz x) (sz y) c d (mg x) (mg y) w1 h1 rfl hx.2 h2 rfl hy.2 (by omega) (by omega))
  have HC2 := Lib.hid (fun w1 h1 h2 => rorder_any B A (sz y) (sz x) d c (mg y) (mg x) w1 h1 rfl hy.2 h2 rfl hx.2 (by omega) (by omega))
  rw [mg_val, mg_val] at HC HC2
  obtain ⟨a, ha⟩ : ∃ a, sg x = a := ⟨_, rfl⟩
  obtain ⟨b, hb⟩ : ∃ b, sg y = b := ⟨_, rfl⟩
  have HSA : Hid (decide (x < 0) = a) := ha
  have HSB : Hid (decide (y < 0) = b) := hb
  obtain ⟨r, hr⟩ : ∃ r, sgn3 x y = r := ⟨_, rfl⟩
  have HRR := Lib.hid hr
  rw [ha] at HVX ⊢
  rw [hb] at HVY ⊢
  rw [hr]
  clear hx hy ha hb hr
  go_enter Try.func78, Try.ntmps78
  go_wp2_with fail
  refine (HVX.out _ ((HX.out.alloc _).alloc _)).mono ?_
  rintro e w1 ⟨rfl, h1⟩
  have K1 := Lib.hid (((Blk.new w [.bool a, .slice A (sz x) c] 52).alloc (.cells #[.bool b, .slice B (sz y) d] 52)).below h1)
  have K2 := Lib.hid ((Blk.new1 w (.cells #[.bool a, .slice A (sz x) c] 52) [.bool b, .slice B (sz y) d] 52).below h1)
  have HB := Lib.hid (bthen (balloc (balloc (Below.refl w.heap.size w) _) _) h1)
  clear h1
  have k2 := K2.out.two
  go_wp2_with fail
  refine (HVY.out _ (HY.out.below HB.out)).mono ?_
  rintro e w2 ⟨rfl, h2⟩
  replace K1 := Lib.hid (K1.out.below h2)
  replace K2 := Lib.hid (K2.out.below h2)
  replace HB := Lib.hid (bthen HB.out h2)
  clear h2 k2
  have k1 := K1.out.two
  have k2 := K2.out.two
  have HXR := Lib.hid (HX.out.below HB.out).1
  have HYR := Lib.hid (HY.out.below HB.out).1
  cases a with
  | true =>
    have hx0 : x < 0 := of_decide_eq_true HSA.out
    cases b with
    | true =>
      have hy0 : y < 0 := of_decide_eq_true HSB.out
      have HS := Lib.hid (sgn3_neg x y hx0 hy0)
      clear hx0 hy0
      go_wp2_with fail
      refine (HC2.out _ HYR.out HXR.out).mono ?_
      rintro e w3 ⟨rfl, rfl⟩
      have HB3 := HB
      go_wp2_with fail
      go_ret
      exact ⟨ret1 (HS.out.trans HRR.out), HB3.out⟩
    | false =>
      have hy0 : ¬ y < 0 := of_decide_eq_false HSB.out
      have HS : Hid (sgn3 x y = -1) := by unfold sgn3; exact if_pos (by omega)
      clear hx0 hy0
      go_wp2_with fail
      go_ret
      exact ⟨ret1 (HS.out.symm.trans HRR.out), HB.out⟩
  | false =>
    have hx0 : ¬ x < 0 := of_decide_eq_false HSA.out
    cases b with
    | true =>
      have hy0 : y < 0 := of_decide_eq_true HSB.out
      have HS : Hid (sgn3 x y = 1) := by unfold sgn3; rw [if_neg (by omega)]; exact if_neg (by omega)
      clear hx0 hy0
      go_wp2_with fail
      go_ret
      exact ⟨ret1 (HS.out.symm.trans HRR.out), HB.out⟩
    | false =>
      have hy0 : ¬ y < 0 := of_decide_eq_false HSB.out
      have HS : Hid (sgn3 (x.natAbs : Int) y.natAbs = sgn3 x y) := by rw [show (x.natAbs : Int) = x by omega, show (y.natAbs : Int) = y by omega]; rfl
      clear hx0 hy0
      go_wp2_with fail
      refine (HC.out _ HXR.out HYR.out).mono ?_
      rintro e w3 ⟨rfl, rfl⟩
      have HB3 := HB
      go_wp2_with fail
      go_ret
      exact ⟨ret1 (HS.out.trans HRR.out), HB3.out⟩
end Go.Proofs.Ytjhdjmlaidpjfaa.B
