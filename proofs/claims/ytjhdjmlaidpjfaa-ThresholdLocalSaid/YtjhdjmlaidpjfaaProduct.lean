/- limbs.Product returns the product of two magnitudes, trimmed; old memory is as it was. Condition: at most 10^11 limbs each. -/
import Derived.Test.YtjhdjmlaidpjfaaTrim
set_option linter.unusedVariables false
namespace Go.Proofs.Ytjhdjmlaidpjfaa.B
open Go.RowKit
theorem info_u32 : (Try.prog.info? 137).map (fun i => (i.zero, i.size, i.bytes)) = some (some (.int .u32 0), 1, 4) := by kernel_rfl
/-- A call's end: a magnitude in trimmed form. -/
def MagPost (z : Int) (w : World) (e : Ending) (w' : World) : Prop := ∃ A c l, e = .returned (.slice A l.length c) ∧ l.length ≤ c ∧ Rd w' A l ∧ Trm l ∧ val l = z ∧ Below w.heap.size w w'
/-- make([]uint32, n). -/
theorem run_make_u32 (w : World) (n : Nat) (z : Int) (hn : n ≤ 1000000000000) (hz : z = n) : (Instr.makeSlice 50 (.int .i64 z) (.int .i64 z)).run Try.prog w = .ok (.slice (some ⟨w.heap.size, 0, none⟩) n n) (w.alloc (.cells (madeCells #[.int .u32 0] n) 137)) := by
  subst hz
  obtain ⟨i0, hi, hzz⟩ := Option.map_eq_some_iff.1 info_u32
  simp only [Prod.mk.injEq] at hzz
  obtain ⟨hz0, hz1, hz2⟩ := hzz
  have hr := run_make (P := Try.prog) w 50 137 i0 (.int .u32 0) Try.underlying50 hi hz0 .i64 .i64 (n : Int) (n : Int) (by omega) (by omega) (by rw [hz2]; omega) (by omega)
  rw [hz1] at hr
  simpa [Value.cells] using hr
/-- One step of the inner loop. -/
theorem prod_step (X Y c P Q R Z x y o s lo c' : Int) (h1 : X + c * P = Y + Q * x * Z) (hs : s = x * y + o + c) (hlo : lo = s % 4294967296) (hc : c' = s / 4294967296) (hP : P = Q * R) :
   (X + lo * P) + c' * (P * Bs) = (Y + o * P) + Q * x * (Z + y * R) := by
  have : lo + 4294967296 * c' = s := by omega
  unfold Bs
  grind
theorem prod_bound (x y o c : Int) (hx : 0 ≤ x ∧ x < 4294967296) (hy : 0 ≤ y ∧ y < 4294967296) (ho : 0 ≤ o ∧ o < 4294967296) (hc : 0 ≤ c ∧ c < 4294967296) : 0 ≤ x * y ∧ x * y + o + c < 18446744073709551616 := by
  have h0 := Int.mul_nonneg hx.1 hy.1
  have h1 : x * y ≤ 4294967295 * 4294967295 := Int.mul_le_mul (by omega) (by omega) hy.1 (by omega)
  omega
/-- What holds at the outer loop's head: i limbs of xs are done. -/
structure PInv (xs ys : List Int) (n m i : Nat) (zs : List Int) : Prop where
  len : zs.length = n + m
  dig : Dig zs
  eq : V zs (i + m) = V xs i * V ys m
  zero : ∀ j, i + m ≤ j → zs.getD j 0 = 0
/-- At the inner loop's head: of the limb number i, k products are done. -/
structure QInv (xs ys : List Int) (n m i k : Nat) (c : Int) (zs : List Int) : Prop where
  len : zs.length = n + m
  dig : Dig zs
  c0 : 0 ≤ c
  c1 : c < 4294967296
  eq : ∃ os : List Int, PInv xs ys n m i os ∧ (∀ j, i + k ≤ j → zs.getD j 0 = os.getD j 0) ∧ V zs (i + k) + c * Bs ^ (i + k) = V os (i + k) + Bs ^ i * xs.getD i 0 * V ys k
theorem PInv.start (xs ys : List Int) (n m : Nat) : PInv xs ys n m 0 (List.replicate (n + m) 0) := by
  have hz : ∀ j, (List.replicate (n + m) (0 : Int)).getD j 0 = 0 := fun j => by grind
  refine ⟨by simp, fun j => by rw [hz]; omega, ?_, fun j _ => hz j⟩
  rw [V_zeros _ 0 _ (by omega) (fun j _ _ => hz j)]; simp [V]
theorem PInv.inner {xs ys : List Int} {n m i : Nat} {zs : List Int} (h : PInv xs ys n m i zs) : QInv xs ys n m i 0 0 zs :=
  ⟨h.len, h.dig, by omega, by omega, zs, h, fun _ _ => rfl, by simp [V]⟩
theorem QInv.step {xs ys : List Int} {n m i k : Nat} {c : Int} {zs : List Int} (h : QInv xs ys n m i k c zs) (hx : Dig xs) (hy : Dig ys) (hi : i < n) (hk : k < m) (s : Int)
    (hs : s = xs.getD i 0 * ys.getD k 0 + zs.getD (i + k) 0 + c) : QInv xs ys n m i (k + 1) (s / 4294967296) (zs.set (i + k) (s % 4294967296)) := by
  obtain ⟨hl, hd, h0, h1, os, ho, hsame, he⟩ := h
  have hb := prod_bound _ _ _ _ (hx i) (hy k) (hd (i + k)) ⟨h0, h1⟩
  have ho' := hd (i + k)
  refine ⟨by simp [hl], hd.set _ _ (by omega) (by omega), by omega, by omega, os, ho, fun j hj => ?_, ?_⟩
  · rw [getD_set, if_neg (by omega)]; exact hsame j (by omega)
  · rw [show i + (k + 1) = i + k + 1 by omega, V_set_succ _ _ _ (by omega), V_succ os, V_succ ys, Int.pow_succ, ← hsame (i + k) (Nat.le_refl _)]
    exact prod_step _ _ _ _ (Bs ^ i) (Bs ^ k) _ _ _ _ s _ _ he hs rfl rfl (by rw [Int.pow_add])
theorem QInv.close {xs ys : List Int} {n m i : Nat} {c : Int} {zs : List Int} (h : QInv xs ys n m i m c zs) (hi : i < n) : PInv xs ys n m (i + 1) (zs.set (i + m) c) := by
  obtain ⟨hl, hd, h0, h1, os, ho, hsame, he⟩ := h
  refine ⟨by simp [hl], hd.set _ _ h0 h1, ?_, fun j hj => ?_⟩
  · rw [show i + 1 + m = i + m + 1 by omega, V_set_succ _ _ _ (by omega), he, ho.eq, V_succ xs]; grind
  · rw [getD_set, if_neg (by omega), hsame j (by omega)]; exact ho.zero j (by omega)
theorem PInv.val {xs ys : List Int} {zs : List Int} (h : PInv xs ys xs.length ys.length xs.length zs) : val zs = val xs * val ys := by
  have := h.eq
  unfold B.val
  rw [h.len, this]
set_option maxHeartbeats 1000000 in
theorem product_any (A B : Option Addr) (ca cb : Nat) (xs ys : List Int) (w : World) (hA : Rd w A xs) (hca : xs.length ≤ ca) (hB : Rd w B ys) (hcb : ys.length ≤ cb) (hx : xs.length ≤ 100000000000) (hy : ys.length ≤ 100000000000) :
    Calls Try.prog 124 #[.slice A xs.length ca, .slice B ys.length cb] w (MagPost (val xs * val ys) w) := by
  obtain ⟨n, hn⟩ : ∃ n, xs.length = n := ⟨_, rfl⟩
  obtain ⟨m, hmm⟩ : ∃ m, ys.length = m := ⟨_, rfl⟩
  have HA := Lib.hid hA
  have HB := Lib.hid hB
  clear hA hB
  have HN := Lib.hid hn
  have HM := Lib.hid hmm
  rw [hn] at hca hx ⊢
  rw [hmm] at hcb hy ⊢
  clear hn hmm
  have hmk := run_make_u32 w (n + m) ((n : Int) + m) (by omega) (by omega)
  go_enter Try.func124, Try.ntmps124
  go_wp2_with fail
  have hrow := Row.made w (n + m)
  go_loopw [19] (fun v19 wr => ∃ (i : Nat) (zs : List Int), i ≤ n ∧ v19 = .int .i64 i ∧ PInv xs ys n m i zs ∧ Row wr w.heap.size zs ∧ Below w.heap.size w wr) (fun v19 _ => n - (intOf v19).toNat)
  case atStart => exact ⟨0, _, by omega, rfl, PInv.start _ _ _ _, hrow, (Below.refl _ _).alloc (Nat.le_refl _) _⟩
  case round =>
    clear hrow hmk
    obtain ⟨i, zs, hi, rfl, hP, hR, hb⟩ := hrel
    by_cases hlt : i < n
    · obtain ⟨b, off, rfl, hs, hc⟩ := HA.out.2 (by rw [HN.out]; omega)
      have hcell := (hb.cell (p := ⟨b, off + i, none⟩) hs).trans (hc i (by rw [HN.out]; omega))
      have hX := HA.out.1 i
      obtain ⟨X, eX⟩ : ∃ X, xs.getD i 0 = X := ⟨_, rfl⟩
      rw [eX] at hcell hX
      have EX := Lib.hid eX
      clear hc eX
      go_wp2_with fail
      go_loopw [8, 26] (fun v8 v26 wr => ∃ (k : Nat) (c : Int) (zs : List Int), k ≤ m ∧ v8 = .int .u64 c ∧ v26 = .int .i64 k ∧ QInv xs ys n m i k c zs ∧ Row wr w.heap.size zs ∧ Below w.heap.size w wr) (fun _ v26 _ => m - (intOf v26).toNat)
      case atStart => exact ⟨0, 0, zs, by omega, rfl, rfl, hP.inner, hR, hb⟩
      case round =>
        clear hP hR hb hcell
        obtain ⟨k, c, zs, hk, rfl, rfl, hQ, hR, hb⟩ := hrel
        by_cases hlk : k < m
        · obtain ⟨b2, off2, rfl, hs2, hc2⟩ := HB.out.2 (by rw [HM.out]; omega)
          have hcell2 := (hb.cell (p := ⟨b2, off2 + k, none⟩) hs2).trans (hc2 k (by rw [HM.out]; omega))
          have hY := HB.out.1 k
          have hO := hQ.dig (i + k)
          have hcell3 := hR.cell (i + k) (by rw [hQ.len]; omega)
          have hfz := hR.frozen (i + k)
          have hc0 := hQ.c0
          have hc1 := hQ.c1
          have hst := hQ.step HA.out.1 HB.out.1 hlt hlk (c + (xs.getD i 0 * ys.getD k 0 + zs.getD (i + k) 0)) (by omega)
          obtain ⟨Y, eY⟩ : ∃ Y, ys.getD k 0 = Y := ⟨_, rfl⟩
          obtain ⟨O, eO⟩ : ∃ O, zs.getD (i + k) 0 = O := ⟨_, rfl⟩
          rw [EX.out, eY, eO] at hst
          rw [eY] at hcell2 hY
          rw [eO] at hcell3 hO
          have hpb := prod_bound X Y O c hX hY hO ⟨hc0, hc1⟩
          have hrs := hR.set (i + k) ((c + (X * Y + O)) % 4294967296)
          have hbs := below_set hb (Nat.le_refl _) (i + k) (.int .u32 ((c + (X * Y + O)) % 4294967296))
          have HST := Lib.hid hst
          have HRS := Lib.hid hrs
          have HBS := Lib.hid hbs
          clear hc2 eY eO hst hQ hR hb hrs hbs
          go_wp2_with fail
          exact ⟨⟨k + 1, _, _, by omega, rfl, by go_num, HST.out, HRS.out, HBS.out⟩, by simp [intOf]; omega⟩
        · obtain rfl : k = m := by omega
          have hcell3 := hR.cell (i + k) (by rw [hQ.len]; omega)
          have hfz := hR.frozen (i + k)
          have hc0 := hQ.c0
          have hc1 := hQ.c1
          have hrs := hR.set (i + k) c
          have hbs := below_set hb (Nat.le_refl _) (i + k) (.int .u32 c)
          have HST := Lib.hid (hQ.close hlt)
          have HRS := Lib.hid hrs
          have HBS := Lib.hid hbs
          clear hQ hR hb hrs hbs
          go_wp2_with fail
          exact ⟨⟨i + 1, _, by omega, by go_num, HST.out, HRS.out, HBS.out⟩, by simp [intOf]; omega⟩
    · obtain rfl : i = n := by omega
      have hd := hP.dig
      have hlen := hP.len
      have HP := Lib.hid hP
      have HB2 := Lib.hid hb
      have hm1 : zs.length ≤ 1000000000000 := by omega
      have hrd := Lib.hid (hR.rd hd)
      obtain ⟨z, hz⟩ : ∃ z, zs.length = z := ⟨_, rfl⟩
      have HZ := Lib.hid hz
      have HL := Lib.hid hlen
      clear hP hb hd hR hz hlen
      go_wp2_with fail
      refine (show Calls _ _ _ _ _ from by rw [← HL.out]; exact trim_any _ _ zs _ hrd.out (Nat.le_refl _) hm1).mono ?_
      rintro e w' ⟨rfl, rfl⟩
      go_wp2_with fail
      go_ret
      refine ⟨_, _, _, rfl, ?_, hrd.out.trim, trim_trm _, ?_, HB2.out⟩
      · rw [trim_len]; have := trimN_le zs zs.length; have := HL.out; omega
      · rw [trim_val]; exact PInv.val (by rw [HN.out, HM.out]; exact HP.out)
end Go.Proofs.Ytjhdjmlaidpjfaa.B
