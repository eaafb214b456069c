/- barscanlaw36.ThresholdLocal returns true for every image and all numbers: the walk. -/
import Derived.Test.YtjhdjmlaidpjfaaAlive
import Derived.Test.YtjhdjmlaidpjfaaRLocal
import Derived.Test.YtjhdjmlaidpjfaaGlobals
set_option linter.unusedVariables false
namespace Go.Proofs.Ytjhdjmlaidpjfaa.B
open Go.RowKit
theorem IntsIf_eq (ok : Bool) (n : Nat) (f : Nat → Int) (err : Int) (w : World) : IntsIf ok n f err w = IntsPost (if ok then n else 0) f (if ok then 0 else err) w := by
  unfold IntsIf
  cases ok <;> rfl
theorem agree_self (f : Nat → Int) (n : Nat) : agree f f n = true := by
  rw [agree_true]; exact fun j _ => rfl
set_option maxHeartbeats 4000000 in
set_option maxRecDepth 100000 in
theorem locals_any (x y r pc : Int) (A : Option Addr) (n c : Nat) (p : Nat → Int) (w : World) (hA : Ro w A n (fun i => .int .u8 (p i))) (hp : ∀ i, 0 ≤ p i ∧ p i < 256) (hn : n ≤ c) :
    Calls Try.prog 5 #[.agg #[.int .i64 x, .int .i64 y, .slice A n c], .int .i64 r, .int .i64 pc] w fun e w' => e = .returned (.bool true) ∧ Below w.heap.size w w' := by
  have hu := Try.underlying24
  have hu2 := Try.underlying35
  have HF := Lib.hid (fun w1 => few_any x y A n c w1)
  have K0 := Lib.hid (Blk.new w [.int .i64 x, .int .i64 y, .slice A n c] 24)
  have HB := Lib.hid (bbox (w := w) (.cells #[.int .i64 x, .int .i64 y, .slice A n c] 24))
  by_cases hf : (n : Int) ≤ 2000
  · rw [decide_eq_true hf] at HF
    have H1 := Lib.hid (fun w1 h => integral_any x y A n c p w1 h hp hn)
    have H2 := Lib.hid (fun w1 h => rintegral_any x y A n c p w1 h hp hn)
    have H3 := Lib.hid (fun w1 h => local_any x y r pc A n c p w1 h hp hn)
    have H4 := Lib.hid (fun w1 h => rlocal_any x y r pc A n c p w1 h hp hn)
    have HA := Lib.hid hA
    have hN0 : (if sound x y n then (x.toNat + 1) * (y.toNat + 1) else 0) ≤ 1000000000000 := by
      cases hs : sound x y n with
      | false => simp
      | true =>
        have hsd := sound_bd hs
        simp only [if_true]
        exact Nat.le_trans (Nat.mul_le_mul (show x.toNat + 1 ≤ 4097 by omega) (show y.toNat + 1 ≤ 4097 by omega)) (by omega)
    simp only [IntsIf_eq] at H1 H2
    simp only [MatIf_eq] at H3 H4
    obtain ⟨o1, eo1⟩ : ∃ o, (sound x y n && lok r pc) = o := ⟨_, rfl⟩
    obtain ⟨o2, eo2⟩ : ∃ o, sound x y n = o := ⟨_, rfl⟩
    obtain ⟨f1, ef1⟩ : ∃ f : Nat → Int, sumf p x.toNat = f := ⟨_, rfl⟩
    obtain ⟨f2, ef2⟩ : ∃ f : Nat → Bool, lcl p x.toNat y.toNat r pc = f := ⟨_, rfl⟩
    rw [eo2, ef1] at H1 H2
    rw [eo1, ef2] at H3 H4
    rw [eo2] at H3 H4 hN0
    obtain ⟨N1, e3⟩ : ∃ X : Nat, (if o2 = true then (x.toNat + 1) * (y.toNat + 1) else 0) = X := ⟨_, rfl⟩
    obtain ⟨E1, e4⟩ : ∃ X : Int, (if o2 = true then 0 else 1) = X := ⟨_, rfl⟩
    obtain ⟨X2, e5⟩ : ∃ X : Int, (if o1 = true then x else 0) = X := ⟨_, rfl⟩
    obtain ⟨Y2, e6⟩ : ∃ X : Int, (if o1 = true then y else 0) = X := ⟨_, rfl⟩
    obtain ⟨N2, e7⟩ : ∃ X : Nat, (if o1 = true then n else 0) = X := ⟨_, rfl⟩
    obtain ⟨E2, e8⟩ : ∃ X : Int, (if o1 = true then 0 else if o2 = true then 3 else 1) = X := ⟨_, rfl⟩
    rw [e3, e4] at H1 H2
    rw [e5, e6, e7, e8] at H3 H4
    rw [e3] at hN0
    have hN2 : N2 ≤ 2000 := by rw [← e7]; split <;> omega
    clear e3 e4 e5 e6 e7 e8 eo1 eo2 ef1 ef2 hA hp hf
    have q1 : (E1 == E1) = true := by simp
    have q2 : (E2 == E2) = true := by simp
    go_enter Try.func5, Try.ntmps5
    go_wp2_with fail
    refine (HF.out _).mono ?_
    rintro e w1 ⟨rfl, g1⟩
    replace HB := Lib.hid (bthen HB.out g1)
    replace K0 := Lib.hid (K0.out.below g1)
    clear g1
    have k0 := K0.out.three
    go_wp2_with fail
    refine (H1.out _ (HA.out.below HB.out)).mono ?_
    rintro e w2 ⟨A1, c1, rfl, a1, a2, g⟩
    replace HB := Lib.hid (bthen HB.out g)
    replace K0 := Lib.hid (K0.out.below g)
    have RA := Lib.hid a2
    clear g a2 k0
    have k0 := K0.out.three
    go_wp2_with fail
    refine (H2.out _ (HA.out.below HB.out)).mono ?_
    rintro e w3 ⟨A2, c2, rfl, a2, a3, g⟩
    replace HB := Lib.hid (bthen HB.out g)
    replace K0 := Lib.hid (K0.out.below g)
    replace RA := Lib.hid (RA.out.below g)
    have RB := Lib.hid a3
    clear g a3 k0
    have k0 := K0.out.three
    go_wp2_with fail
    refine (H3.out _ (HA.out.below HB.out)).mono ?_
    rintro e w4 ⟨A3, c3, rfl, a3, a4, g⟩
    replace HB := Lib.hid (balloc (bthen HB.out g) (.cells #[.int .i64 X2, .int .i64 Y2, .slice A3 N2 c3] 35))
    replace K0 := Lib.hid ((K0.out.below g).alloc (.cells #[.int .i64 X2, .int .i64 Y2, .slice A3 N2 c3] 35))
    replace RA := Lib.hid ((RA.out.below g).alloc (.cells #[.int .i64 X2, .int .i64 Y2, .slice A3 N2 c3] 35))
    replace RB := Lib.hid ((RB.out.below g).alloc (.cells #[.int .i64 X2, .int .i64 Y2, .slice A3 N2 c3] 35))
    have KC := Lib.hid (Blk.new w4 [.int .i64 X2, .int .i64 Y2, .slice A3 N2 c3] 35)
    have RC := Lib.hid (a4.alloc (.cells #[.int .i64 X2, .int .i64 Y2, .slice A3 N2 c3] 35))
    clear g a4 k0
    have k0 := K0.out.three
    go_wp2_with fail
    refine (H4.out _ (HA.out.below HB.out)).mono ?_
    rintro e w5 ⟨A4, c4, rfl, a4, a5, g⟩
    replace HB := Lib.hid (balloc (bthen HB.out g) (.cells #[.int .i64 X2, .int .i64 Y2, .slice A4 N2 c4] 35))
    replace RA := Lib.hid ((RA.out.below g).alloc (.cells #[.int .i64 X2, .int .i64 Y2, .slice A4 N2 c4] 35))
    replace RB := Lib.hid ((RB.out.below g).alloc (.cells #[.int .i64 X2, .int .i64 Y2, .slice A4 N2 c4] 35))
    replace KC := Lib.hid ((KC.out.below g).alloc (.cells #[.int .i64 X2, .int .i64 Y2, .slice A4 N2 c4] 35))
    replace RC := Lib.hid ((RC.out.below g).alloc (.cells #[.int .i64 X2, .int .i64 Y2, .slice A4 N2 c4] 35))
    have KD := Lib.hid (Blk.new w5 [.int .i64 X2, .int .i64 Y2, .slice A4 N2 c4] 35)
    have RD := Lib.hid (a5.alloc (.cells #[.int .i64 X2, .int .i64 Y2, .slice A4 N2 c4] 35))
    clear g a5 k0 K0
    go_wp2_with fail
    refine (ints_any A1 A2 N1 N1 c1 c2 f1 f1 _ RA.out RB.out a1 a2 hN0).mono ?_
    rw [agree_self, decide_eq_true rfl]
    rintro e w6 ⟨rfl, g⟩
    replace HB := Lib.hid (bthen HB.out g.below)
    replace KC := Lib.hid (KC.out.below g.below)
    replace RC := Lib.hid (RC.out.below g.below)
    replace KD := Lib.hid (KD.out.below g.below)
    replace RD := Lib.hid (RD.out.below g.below)
    clear g RA RB
    have kc := KC.out.three
    have kd := KD.out.three
    go_wp2_with fail
    refine (sameM_any X2 Y2 X2 Y2 A3 A4 N2 N2 c3 c4 f2 f2 _ RC.out RD.out a3 a4 (by omega)).mono ?_
    rw [sameM_self]
    rintro e w7 ⟨rfl, g⟩
    replace HB := Lib.hid (bthen HB.out g)
    clear g kc kd KC KD RC RD
    go_wp2_with fail
    refine (alive_ok _).mono ?_
    rintro e w8 ⟨rfl, g⟩
    replace HB := Lib.hid (bthen HB.out g)
    clear g
    go_wp2_with fail
    go_ret
    exact ⟨rfl, HB.out⟩
  · rw [decide_eq_false hf] at HF
    clear hA hp hf
    go_enter Try.func5, Try.ntmps5
    go_wp2_with fail
    refine (HF.out _).mono ?_
    rintro e w1 ⟨rfl, g1⟩
    replace HB := Lib.hid (bthen HB.out g1)
    clear g1
    go_wp2_with fail
    refine (alive_ok _).mono ?_
    rintro e w3 ⟨rfl, g1⟩
    replace HB := Lib.hid (bthen HB.out g1)
    clear g1
    go_wp2_with fail
    go_ret
    exact ⟨rfl, HB.out⟩
end Go.Proofs.Ytjhdjmlaidpjfaa.B
