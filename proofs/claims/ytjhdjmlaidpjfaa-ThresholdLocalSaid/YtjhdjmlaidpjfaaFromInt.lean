/- bigint.FromInt returns the integer with the value of an int. -/
import Derived.Test.YtjhdjmlaidpjfaaMade
set_option linter.unusedVariables false
namespace Go.Proofs.Ytjhdjmlaidpjfaa.B
open Go.RowKit
theorem Blk.rd2 {w : World} {g t : Nat} {x y : Int} (h : Blk w g [.int .u32 x, .int .u32 y] t) (hd : Dig [x, y]) : Rd w (some ⟨g, 0, none⟩) [x, y] :=
  ⟨hd, fun _ => ⟨g, 0, rfl, h.lt, fun i hi => by
    match i, hi with
    | 0, _ => exact h.cell 0 _ rfl
    | 1, _ => exact h.cell 1 _ rfl⟩⟩
theorem two_val (x y : Int) : val [x, y] = x + 4294967296 * y := by
  simp [val, V, Bs]; omega
theorem two_dig {x y : Int} (hx : 0 ≤ x ∧ x < 4294967296) (hy : 0 ≤ y ∧ y < 4294967296) : Dig [x, y] := Dig.cons hx.1 hx.2 (Dig.cons hy.1 hy.2 Dig.nil)
def InI64 (n : Int) : Prop := -9223372036854775808 ≤ n ∧ n ≤ 9223372036854775807
set_option maxHeartbeats 1000000 in
set_option maxRecDepth 100000 in
theorem fromInt_ok (n : Int) (w : World) (hn : -9223372036854775808 ≤ n ∧ n ≤ 9223372036854775807) :
    Calls Try.prog 71 #[.int .i64 n] w (IntPost n w) := by
  have hu := Try.underlying52
  obtain ⟨m, hm⟩ : ∃ m : Nat, n.natAbs = m := ⟨_, rfl⟩
  have hmb : m ≤ 9223372036854775808 := by omega
  have HM := Lib.hid (fun neg A c w1 h => made_any neg A c [(m : Int) % 4294967296, (m : Int) / 4294967296] w1 h)
  have hdg := two_dig (x := (m : Int) % 4294967296) (y := (m : Int) / 4294967296) (by omega) (by omega)
  have hv := two_val ((m : Int) % 4294967296) ((m : Int) / 4294967296)
  have HV : Hid (val [(m : Int) % 4294967296, (m : Int) / 4294967296] = m) := by rw [hv]; exact (by omega : (m : Int) % 4294967296 + 4294967296 * ((m : Int) / 4294967296) = m)
  by_cases h0 : n < 0
  · have hz : signed true (m : Int) = n := by unfold signed; simp; omega
    have hd : decide (n < 0) = true := decide_eq_true h0
    obtain ⟨u, hu1⟩ : ∃ u, IntKind.u64.wrap n = u := ⟨_, rfl⟩
    have hu2 : IntKind.u64.wrap (-u) = m := by
      rw [← hu1]
      simp only [IntKind.wrap, IntKind.bits, IntKind.signed]
      simp
      omega
    have hmb2 : (m : Int) ≤ 9223372036854775808 := by omega
    have hdv1 : 0 ≤ (m : Int) / 4294967296 := by omega
    have hdv2 : (m : Int) / 4294967296 < 4294967296 := by omega
    have HZ := Lib.hid hz
    have HD := Lib.hid hdg
    have HK0 := Lib.hid (Blk.new w [.bool false, .slice none 0 0] 52)
    clear hz hdg hv hm
    go_enter Try.func71, Try.ntmps71
    go_wp2_with fail
    have hrd := Blk.rd2 (Blk.new1 w (.cells #[.bool false, .slice none 0 0] 52) [.int .u32 ((m : Int) % 4294967296), .int .u32 ((m : Int) / 4294967296)] 139) HD.out
    refine (HM.out true _ 2 _ hrd (by simp) (by simp)).mono ?_
    rw [HV.out, HZ.out]
    rintro e w1 ⟨A, c, rfl, h1, h2⟩
    have K := Lib.hid ((HK0.out.alloc _).below h2)
    have HB := Lib.hid (bthen (balloc (balloc (Below.refl w.heap.size w) _) _) h2)
    have H1 := Lib.hid h1
    have k := K.out.two
    clear h1 h2 hrd
    go_wp2_with fail
    exact bodyPost_ret (res_int rfl _ _ w.heap.size _ _ _ _ rfl (K.out.store2 _ _ _ _)) rfl ⟨A, c, rfl, H1.out.store2 K.out _ _ _ _, below_store2 HB.out (Nat.le_refl _) _ _⟩
  · have hz : signed false (m : Int) = n := by unfold signed; simp; omega
    have hd : decide (n < 0) = false := decide_eq_false h0
    have hnm : n = m := by omega
    subst hnm
    have hmb2 : (m : Int) ≤ 9223372036854775807 := by omega
    have hdv1 : 0 ≤ (m : Int) / 4294967296 := by omega
    have hdv2 : (m : Int) / 4294967296 < 4294967296 := by omega
    have HZ := Lib.hid hz
    have HD := Lib.hid hdg
    have HK0 := Lib.hid (Blk.new w [.bool false, .slice none 0 0] 52)
    clear hz hdg hv hm
    go_enter Try.func71, Try.ntmps71
    go_wp2_with fail
    have hrd := Blk.rd2 (Blk.new1 w (.cells #[.bool false, .slice none 0 0] 52) [.int .u32 ((m : Int) % 4294967296), .int .u32 ((m : Int) / 4294967296)] 139) HD.out
    refine (HM.out false _ 2 _ hrd (by simp) (by simp)).mono ?_
    rw [HV.out, HZ.out]
    rintro e w1 ⟨A, c, rfl, h1, h2⟩
    have K := Lib.hid ((HK0.out.alloc _).below h2)
    have HB := Lib.hid (bthen (balloc (balloc (Below.refl w.heap.size w) _) _) h2)
    have H1 := Lib.hid h1
    have k := K.out.two
    clear h1 h2 hrd
    go_wp2_with fail
    exact bodyPost_ret (res_int rfl _ _ w.heap.size _ _ _ _ rfl (K.out.store2 _ _ _ _)) rfl ⟨A, c, rfl, H1.out.store2 K.out _ _ _ _, below_store2 HB.out (Nat.le_refl _) _ _⟩
end Go.Proofs.Ytjhdjmlaidpjfaa.B
