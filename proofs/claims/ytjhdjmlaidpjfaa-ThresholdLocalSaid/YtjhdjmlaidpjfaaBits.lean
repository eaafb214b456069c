/- limbs.limb and the functions of math/bits that the limbs use: what each returns; memory is as it was. -/
import Derived.Test.YtjhdjmlaidpjfaaTrim
import Derived.Test.YtjhdjmlaidpjfaaShelf
set_option linter.unusedVariables false
namespace Go.Proofs.Ytjhdjmlaidpjfaa.B
open Go.RowKit
theorem limb_any (A : Option Addr) (c : Nat) (xs : List Int) (i : Nat) (w : World) (h : Rd w A xs) (hl : xs.length ≤ c) (hm : xs.length ≤ 1000000000000) (hi : i ≤ 1000000000000) :
    Calls Try.prog 136 #[.slice A xs.length c, .int .i64 i] w fun e w' => e = .returned (.int .u32 (xs.getD i 0)) ∧ w = w' := by
  obtain ⟨n, hn⟩ : ∃ n, xs.length = n := ⟨_, rfl⟩
  have HN := Lib.hid hn
  rw [hn] at hl hm ⊢
  clear hn
  by_cases hlt : i < n
  · obtain ⟨b, off, rfl, hs, hc⟩ := h.2 (by rw [HN.out]; omega)
    have hcell := hc i (by rw [HN.out]; omega)
    obtain ⟨x, hx⟩ : ∃ x, xs.getD i 0 = x := ⟨_, rfl⟩
    rw [hx] at hcell ⊢
    clear hc hx h
    go_enter Try.func136, Try.ntmps136
    go_wp2_with fail
    go_ret
    exact ⟨rfl, rfl⟩
  · have h0 := getD_out xs i (by rw [HN.out]; omega)
    rw [h0]
    clear h h0
    go_enter Try.func136, Try.ntmps136
    go_wp2_with fail
    go_ret
    exact ⟨rfl, rfl⟩
theorem add32_any (x y c : Int) (w : World) (hx : 0 ≤ x ∧ x < 4294967296) (hy : 0 ≤ y ∧ y < 4294967296) (hc : 0 ≤ c ∧ c < 2) :
    Calls Try.prog 135 #[.int .u32 x, .int .u32 y, .int .u32 c] w fun e w' => e = .returned (.tuple #[.int .u32 ((x + y + c) % 4294967296), .int .u32 ((x + y + c) / 4294967296)]) ∧ w = w' := by
  go_enter Try.func135, Try.ntmps135
  go_wp2_with fail
  go_ret2
  exact ⟨rfl, rfl⟩
theorem top_bit (n : Nat) (h : n < 4294967296) : n / 2147483648 = (n.testBit 31).toNat := by
  rw [Nat.testBit_eq_decide_div_mod_eq]
  have : n / 2 ^ 31 < 2 := by omega
  by_cases h1 : n / 2 ^ 31 % 2 = 1
  · simp [h1]; omega
  · simp [h1]; omega
def brw (x y c : Int) : Int := if x < y + c then 1 else 0
theorem sub_borrow (x y c d : Int) (hx : 0 ≤ x ∧ x < 4294967296) (hy : 0 ≤ y ∧ y < 4294967296) (hc : 0 ≤ c ∧ c < 2) (hd : d = (x - y - c) % 4294967296) :
   bits BinOp.or IntKind.u32 (bits BinOp.and IntKind.u32 (bits BinOp.xor IntKind.u32 IntKind.u32.max x) y)
                (bits BinOp.and IntKind.u32 (bits BinOp.xor IntKind.u32 IntKind.u32.max (bits BinOp.xor IntKind.u32 x y)) d) / 2147483648 = brw x y c := by
  obtain ⟨a, rfl⟩ := Int.eq_ofNat_of_zero_le hx.1
  obtain ⟨b, rfl⟩ := Int.eq_ofNat_of_zero_le hy.1
  obtain ⟨e, rfl⟩ := Int.eq_ofNat_of_zero_le (show 0 ≤ d by omega)
  have hm : IntKind.u32.max = ((4294967295 : Nat) : Int) := by decide
  rw [hm]
  have ha : a < 4294967296 := by omega
  have hb : b < 4294967296 := by omega
  have he : e < 4294967296 := by omega
  rw [u32_xor_nat _ _ (by omega) ha, u32_and_nat _ _ (Nat.xor_lt_two_pow (n := 32) (by omega) ha) hb, u32_xor_nat _ _ ha hb,
   u32_xor_nat _ _ (by omega) (Nat.xor_lt_two_pow (n := 32) ha hb), u32_and_nat _ _ (Nat.xor_lt_two_pow (n := 32) (by omega) (Nat.xor_lt_two_pow (n := 32) ha hb)) he,
   u32_or_nat _ _ (Nat.and_lt_two_pow (n := 32) _ hb) (Nat.and_lt_two_pow (n := 32) _ he)]
  have hlt := Nat.or_lt_two_pow (n := 32) (Nat.and_lt_two_pow (n := 32) (4294967295 ^^^ a) hb) (Nat.and_lt_two_pow (n := 32) (4294967295 ^^^ (a ^^^ b)) he)
  have ht := top_bit _ hlt
  rw [show (2147483648 : Int) = ((2147483648 : Nat) : Int) from rfl, ← Int.natCast_ediv, ht]
  simp only [Nat.testBit_or, Nat.testBit_and, Nat.testBit_xor]
  have h1 : (4294967295 : Nat).testBit 31 = true := by decide
  have tb : ∀ n, n < 4294967296 → n.testBit 31 = decide (2147483648 ≤ n) := fun n hn => by
    rw [Nat.testBit_eq_decide_div_mod_eq]; congr 1; apply propext; omega
  rw [h1, tb a ha, tb b hb, tb e he]
  unfold brw
  by_cases h2 : 2147483648 ≤ a <;> by_cases h3 : 2147483648 ≤ b <;> by_cases h4 : 2147483648 ≤ e <;> by_cases h5 : (a : Int) < b + c <;> simp [h2, h3, h4, h5] <;> omega
theorem ret2 {k k' : IntKind} {a b a' b' : Int} (h : a = a') (h' : b = b') : Ending.returned (.tuple #[.int k a, .int k' b]) = .returned (.tuple #[.int k a', .int k' b']) := by rw [h, h']
theorem ret1 {k : IntKind} {a a' : Int} (h : a = a') : Ending.returned (.int k a) = .returned (.int k a') := by rw [h]
theorem sub32_any (x y c : Int) (w : World) (hx : 0 ≤ x ∧ x < 4294967296) (hy : 0 ≤ y ∧ y < 4294967296) (hc : 0 ≤ c ∧ c < 2) :
    Calls Try.prog 137 #[.int .u32 x, .int .u32 y, .int .u32 c] w fun e w' => e = .returned (.tuple #[.int .u32 ((x - y - c) % 4294967296), .int .u32 (brw x y c)]) ∧ w = w' := by
  have hsg : IntKind.u32.signed = false := rfl
  have hb := Lib.hid (sub_borrow x y c _ hx hy hc rfl)
  go_enter Try.func137, Try.ntmps137
  go_wp2_with fail
  go_ret2
  exact ⟨ret2 (by omega) hb.out, rfl⟩
theorem or_join (a b : Int) (ha : 0 ≤ a ∧ a < 4294967296) (hb : 0 ≤ b ∧ b < 4294967296) : bits .or .u64 (a * 4294967296) b = a * 4294967296 + b := by
  obtain ⟨m, rfl⟩ := Int.eq_ofNat_of_zero_le ha.1
  obtain ⟨n, rfl⟩ := Int.eq_ofNat_of_zero_le hb.1
  rw [show (m : Int) * 4294967296 = ((m * 4294967296 : Nat) : Int) by simp, u64_or_nat _ _ (by omega) (by omega), nat_join 32 _ _ (by omega) (by omega)]
  simp
theorem div32_any (hi lo y : Int) (w : World) (hh : 0 ≤ hi ∧ hi < y) (hl : 0 ≤ lo ∧ lo < 4294967296) (hy : y < 4294967296) :
    Calls Try.prog 140 #[.int .u32 hi, .int .u32 lo, .int .u32 y] w fun e w' => e = .returned (.tuple #[.int .u32 ((hi * 4294967296 + lo) / y), .int .u32 ((hi * 4294967296 + lo) % y)]) ∧ ∃ n, w' = w.drewN n := by
  have h1 : (y != 0) = true := by rw [bne_iff_ne]; omega
  have h2 : decide (y ≤ hi) = false := decide_eq_false (by omega)
  obtain ⟨z, hz⟩ : ∃ z, bits .or .u64 (hi * 4294967296) lo = z := ⟨_, rfl⟩
  have hj := or_join hi lo ⟨hh.1, by omega⟩ hl
  rw [hz] at hj
  have hz0 : 0 ≤ z := by omega
  have hy1 : 1 ≤ y := by omega
  have hq : 0 ≤ z / y := Int.ediv_nonneg hz0 (by omega)
  have hq1 : z / y < 4294967296 := Int.ediv_lt_of_lt_mul (by omega) (by
    have h3 : hi + 1 ≤ y := by omega
    have h4 := Int.mul_le_mul_of_nonneg_right h3 (show (0 : Int) ≤ 4294967296 by omega)
    rw [Int.mul_comm]; omega)
  have hr := Int.emod_nonneg z (show y ≠ 0 by omega)
  have hr1 := Int.emod_lt_of_pos z (show 0 < y by omega)
  have HJ := Lib.hid hj
  clear hj
  go_enter Try.func140, Try.ntmps140
  go_wp2_with fail
  go_quiet (fail)
  go_wp2_with fail
  go_ret2
  exact ⟨ret2 (by rw [← HJ.out, Int.tdiv_eq_ediv_of_nonneg hz0, IntWalk.u64_in _ (by omega)]; omega) (by rw [← HJ.out]), _, rfl⟩
theorem bitLen_spec : ∀ f x : Nat, x < 2 ^ f → x < 2 ^ Lib.bitLenAux f x ∧ (0 < x → 2 ^ Lib.bitLenAux f x ≤ 2 * x)
  | 0, x, h => ⟨by simpa [Lib.bitLenAux] using h, fun h0 => by simp at h; omega⟩
  | f + 1, x, h => by
    rw [Lib.bitLenAux]
    by_cases h0 : x = 0
    · rw [if_pos h0]; exact ⟨by simp [h0], fun h1 => by omega⟩
    · rw [if_neg h0]
      obtain ⟨h1, h2⟩ := bitLen_spec f (x / 2) (by rw [Nat.pow_succ] at h; omega)
      rw [Nat.add_comm, Nat.pow_succ]
      refine ⟨by omega, fun _ => ?_⟩
      by_cases h3 : 0 < x / 2
      · have := h2 h3; omega
      · have h4 : x / 2 = 0 := by omega
        have h5 : Lib.bitLenAux f (x / 2) = 0 := by rw [h4]; cases f <;> simp [Lib.bitLenAux]
        rw [h5]; omega
/-- The number of leading zeros. -/
def lz (x : Int) : Nat := 32 - Lib.bitLen x.toNat
theorem lz_spec (x : Int) (hx : 0 < x ∧ x < 4294967296) : lz x < 32 ∧ 2147483648 ≤ x * 2 ^ lz x ∧ x * 2 ^ lz x < 4294967296 := by
  obtain ⟨n, rfl⟩ := Int.eq_ofNat_of_zero_le (Int.le_of_lt hx.1)
  unfold lz
  simp only [Int.toNat_natCast]
  obtain ⟨h1, h2⟩ := bitLen_spec 64 n (by omega)
  have h2 := h2 (by omega)
  change n < 2 ^ Lib.bitLen n at h1
  change 2 ^ Lib.bitLen n ≤ 2 * n at h2
  generalize Lib.bitLen n = k at h1 h2
  have hk : k ≤ 32 := by
    refine Nat.le_of_not_lt fun h => ?_
    have := Nat.pow_le_pow_right (show 0 < 2 by omega) (show 33 ≤ k from h)
    omega
  have hk0 : 0 < k := by
    refine Nat.pos_of_ne_zero fun h => ?_
    rw [h] at h1; omega
  have e : (2 : Nat) ^ k * 2 ^ (32 - k) = 4294967296 := by rw [← Nat.pow_add, show k + (32 - k) = 32 by omega]
  have p := Nat.pow_pos (n := 32 - k) (show 0 < 2 by omega)
  have a1 : n * 2 ^ (32 - k) < 4294967296 := by rw [← e]; exact Nat.mul_lt_mul_of_pos_right h1 p
  have a2 : 4294967296 ≤ 2 * n * 2 ^ (32 - k) := by rw [← e]; exact Nat.mul_le_mul_right _ h2
  have a3 : 2147483648 ≤ n * 2 ^ (32 - k) := by rw [Nat.mul_assoc] at a2; omega
  have c : ((n * 2 ^ (32 - k) : Nat) : Int) = (n : Int) * 2 ^ (32 - k) := by simp
  rw [← c]
  omega
theorem lz32_any (x : Int) (w : World) (hx : 0 < x ∧ x < 4294967296) :
    Calls Try.prog 129 #[.int .u32 x] w fun e w' => e = .returned (.int .i64 (lz x)) ∧ w = w' :=
  (bits_LeadingZeros32 x w (by omega) (by omega)).mono fun e w' ⟨h1, h2⟩ => ⟨by
    rw [h1]
    have := (lz_spec x hx).1
    refine ret1 ?_
    unfold lz
    obtain ⟨h3, h4⟩ := bitLen_spec 64 x.toNat (by omega)
    have h4 := h4 (by omega)
    change 2 ^ Lib.bitLen x.toNat ≤ _ at h4
    have : Lib.bitLen x.toNat ≤ 32 := by
      refine Nat.le_of_not_lt fun h => ?_
      have := Nat.pow_le_pow_right (show 0 < 2 by omega) (show 33 ≤ Lib.bitLen x.toNat from h)
      omega
    omega, h2.symm⟩
end Go.Proofs.Ytjhdjmlaidpjfaa.B
