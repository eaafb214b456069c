/- The reference's times: the product of two magnitudes, trimmed. Condition: at most 10^6 limbs each. -/
import Derived.Test.YtjhdjmlaidpjfaaROrder
set_option linter.unusedVariables false
namespace Go.Proofs.Ytjhdjmlaidpjfaa.B
open Go.RowKit
set_option maxHeartbeats 2000000 in
set_option maxRecDepth 100000 in
theorem rtimes_any (A B : Option Addr) (n m ca cb : Nat) (xs ys : List Int) (w : World) (hA : Rd w A xs) (hn : xs.length = n) (hca : n ≤ ca) (hB : Rd w B ys) (hmm : ys.length = m) (hcb : m ≤ cb) (hx : n ≤ 1000000) (hy : m ≤ 1000000) :
    Calls Try.prog 109 #[.slice A n ca, .slice B m cb] w (MagPost (val xs * val ys) w) := by
  have HA := Lib.hid hA
  have HB := Lib.hid hB
  clear hA hB
  have HN := Lib.hid hn
  have HM := Lib.hid hmm
  clear hn hmm
  have hmk := run_make_u32 w (n + m) ((n : Int) + m) (by omega) (by omega)
  go_enter Try.func109, Try.ntmps109
  go_wp2_with fail
  have hrow := Row.made w (n + m)
  go_loopw [6] (fun v6 wr => ∃ (i : Nat) (zs : List Int), i ≤ n ∧ v6 = .int .i64 i ∧ PInv xs ys n m i zs ∧ Row wr w.heap.size zs ∧ Below w.heap.size w wr) (fun v6 _ => n - (intOf v6).toNat)
  case atStart => exact ⟨0, _, by omega, rfl, PInv.start _ _ _ _, hrow, (Below.refl _ _).alloc (Nat.le_refl _) _⟩
  case round =>
    clear hrow hmk
    obtain ⟨i, zs, hi, rfl, hP, hR, hb⟩ := hrel
    by_cases hlt : i < n
    · obtain ⟨b, off, rfl, hs, hc⟩ := HA.out.2 (by rw [HN.out]; omega)
      have HCX := Lib.hid (hc i (by rw [HN.out]; omega))
      have hX := HA.out.1 i
      obtain ⟨X, eX⟩ : ∃ X, xs.getD i 0 = X := ⟨_, rfl⟩
      rw [eX] at HCX hX
      have EX := Lib.hid eX
      clear hc eX
      go_wp2_with fail
      go_loopw [7, 8] (fun v7 v8 wr => ∃ (k : Nat) (c : Int) (zs : List Int), k ≤ m ∧ v7 = .int .u64 c ∧ v8 = .int .i64 k ∧ QInv xs ys n m i k c zs ∧ Row wr w.heap.size zs ∧ Below w.heap.size w wr) (fun _ v8 _ => m - (intOf v8).toNat)
      case atStart => exact ⟨0, 0, zs, by omega, rfl, rfl, hP.inner, hR, hb⟩
      case round =>
        clear hP hR hb
        obtain ⟨k, c, zs, hk, rfl, rfl, hQ, hR, hb⟩ := hrel
        by_cases hlk : k < m
        · obtain ⟨b2, off2, rfl, hs2, hc2⟩ := HB.out.2 (by rw [HM.out]; omega)
          have hcell := (hb.cell (p := ⟨b, off + i, none⟩) hs).trans HCX.out
          have hcell2 := (hb.cell (p := ⟨b2, off2 + k, none⟩) hs2).trans (hc2 k (by rw [HM.out]; omega))
          have hY := HB.out.1 k
          have hO := hQ.dig (i + k)
          have hcell3 := hR.cell (i + k) (by rw [hQ.len]; omega)
          have hfz := hR.frozen (i + k)
          have hc0 := hQ.c0
          have hc1 := hQ.c1
          have hst := hQ.step HA.out.1 HB.out.1 hlt hlk (xs.getD i 0 * ys.getD k 0 + zs.getD (i + k) 0 + c) rfl
          obtain ⟨Y, eY⟩ : ∃ Y, ys.getD k 0 = Y := ⟨_, rfl⟩
          obtain ⟨O, eO⟩ : ∃ O, zs.getD (i + k) 0 = O := ⟨_, rfl⟩
          rw [EX.out, eY, eO] at hst
          rw [eY] at hcell2 hY
          rw [eO] at hcell3 hO
          have hpb := prod_bound X Y O c hX hY hO ⟨hc0, hc1⟩
          have HRS := Lib.hid (fun nq => (hR.drewN nq).set (i + k) ((X * Y + O + c) % 4294967296))
          have HBS := Lib.hid (fun nq => below_set (below_drewN hb nq) (Nat.le_refl _) (i + k) (.int .u32 ((X * Y + O + c) % 4294967296)))
          have HST := Lib.hid hst
          clear hc2 eY eO hst hQ hR hb
          go_wp2_with fail
          go_quiet (fail)
          go_wp2_with fail
          exact ⟨⟨k + 1, _, _, by omega, rfl, by go_num, HST.out, HRS.out _, HBS.out _⟩, by simp [intOf]; omega⟩
        · obtain rfl : k = m := by omega
          have hcell3 := hR.cell (i + k) (by rw [hQ.len]; omega)
          have hfz := hR.frozen (i + k)
          have hc0 := hQ.c0
          have hc1 := hQ.c1
          have hrs := hR.set (i + k) c
          have hbs := below_set hb (Nat.le_refl _) (i + k) (.int .u32 c)
          have HST := Lib.hid (hQ.close hlt)
          have HRS := Lib.hid hrs
          have HBS := Lib.hid hbs
          clear hQ hR hb hrs hbs
          go_wp2_with fail
          exact ⟨⟨i + 1, _, by omega, by go_num, HST.out, HRS.out, HBS.out⟩, by simp [intOf]; omega⟩
    · obtain rfl : i = n := by omega
      have hd := hP.dig
      have hlen := hP.len
      have HP := Lib.hid hP
      have HB2 := Lib.hid hb
      have hm1 : zs.length ≤ 10000000 := by omega
      have hrd := Lib.hid (hR.rd hd)
      have HL := Lib.hid hlen
      clear hP hb hd hR hlen
      go_wp2_with fail
      refine (show Calls _ _ _ _ _ from by rw [← HL.out]; exact rtrim_any _ _ zs _ hrd.out (Nat.le_refl _) hm1).mono ?_
      rintro e w' ⟨A9, c9, l9, rfl, g1, g2, g3, g4, g5⟩
      go_wp2_with fail
      go_ret
      refine ⟨A9, c9, l9, rfl, g1, g2, g3, ?_, bthen HB2.out g5⟩
      rw [g4]; exact PInv.val (by rw [HN.out, HM.out]; exact HP.out)
end Go.Proofs.Ytjhdjmlaidpjfaa.B
