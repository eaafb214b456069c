/- The references' Same and Ints: are two rows of bools, of numbers, equal? Matrices likewise. The references' Sound; the law's few. -/
import Derived.Test.YtjhdjmlaidpjfaaCells
import Derived.Test.YtjhdjmlaidpjfaaRaster
set_option linter.unusedVariables false
namespace Go.Proofs.Ytjhdjmlaidpjfaa.B
open Go.RowKit
/-- Do two functions agree below n? -/
def agree {α : Type} [BEq α] (f g : Nat → α) : Nat → Bool
  | 0 => true
  | n + 1 => agree f g n && (f n == g n)
theorem agree_true {α : Type} [BEq α] [LawfulBEq α] {f g : Nat → α} : ∀ {n : Nat}, agree f g n = true ↔ ∀ i, i < n → f i = g i
  | 0 => by simp [agree]
  | n + 1 => by
    rw [agree, Bool.and_eq_true, agree_true, beq_iff_eq]
    constructor
    · intro h i hi
      by_cases e : i = n
      · rw [e]; exact h.2
      · exact h.1 i (by omega)
    · intro h
      exact ⟨fun i hi => h i (by omega), h n (by omega)⟩
theorem agree_stop {α : Type} [BEq α] [LawfulBEq α] {f g : Nat → α} {n k : Nat} (hk : k < n) (h : f k ≠ g k) : agree f g n = false := by
  cases e : agree f g n with
  | false => rfl
  | true => exact absurd (agree_true.1 e k hk) h
set_option maxHeartbeats 1000000 in
set_option maxRecDepth 100000 in
theorem same_any (A B : Option Addr) (n m ca cb : Nat) (f g : Nat → Bool) (w : World) (hA : Ro w A n (fun i => .bool (f i))) (hB : Ro w B m (fun i => .bool (g i))) (hn : n ≤ ca) (hm : m ≤ cb) (hl : n ≤ 1000000000000) :
    Calls Try.prog 43 #[.slice A n ca, .slice B m cb] w fun e w' => e = .returned (.bool (decide (n = m) && agree f g n)) ∧ Drn w w' := by
  by_cases hnm : n = m
  · subst hnm
    rw [decide_eq_true rfl, Bool.true_and]
    have HA := Lib.hid hA
    have HB := Lib.hid hB
    clear hA hB
    go_enter Try.func43, Try.ntmps43
    go_wp2_with fail
    go_loopw [5] (fun v5 wr => ∃ (i : Nat), i ≤ n ∧ v5 = .int .i64 i ∧ agree f g i = true ∧ Drn w wr) (fun v5 _ => n - (intOf v5).toNat)
    case atStart => exact ⟨0, by omega, rfl, rfl, Drn.refl _⟩
    case round =>
      obtain ⟨i, hi, rfl, hag, hd⟩ := hrel
      by_cases hlt : i < n
      · obtain ⟨b, off, rfl, hs, hc⟩ := HA.out (by omega)
        obtain ⟨b2, off2, rfl, hs2, hc2⟩ := HB.out (by omega)
        have c1 := (hd.below.cell (p := ⟨b, off + i, none⟩) hs).trans (hc i hlt)
        have c2 := (hd.below.cell (p := ⟨b2, off2 + i, none⟩) hs2).trans (hc2 i hlt)
        obtain ⟨X, eX⟩ : ∃ X, f i = X := ⟨_, rfl⟩
        obtain ⟨Y, eY⟩ : ∃ Y, g i = Y := ⟨_, rfl⟩
        dsimp only at c1 c2
        rw [eX] at c1
        rw [eY] at c2
        have EX := Lib.hid eX
        have EY := Lib.hid eY
        have HD := Lib.hid hd
        have HG := Lib.hid hag
        clear hc hc2 eX eY hd hag
        by_cases he : X = Y
        · subst he
          have hb : (!X == X) = false := by simp
          go_wp2_with fail
          go_quiet (fail)
          go_wp2_with fail
          exact ⟨⟨i + 1, by omega, by go_num, by rw [agree, HG.out, EX.out, EY.out]; simp, HD.out.drewN _⟩, by simp [intOf]; omega⟩
        · have hb : (!X == Y) = true := by simpa using he
          have hF := Lib.hid (agree_stop (f := f) (g := g) hlt (by rw [EX.out, EY.out]; exact he))
          clear he
          go_wp2_with fail
          go_quiet (fail)
          go_wp2_with fail
          go_ret
          exact ⟨by rw [hF.out]; rfl, HD.out.drewN _⟩
      · obtain rfl : i = n := by omega
        have HD := Lib.hid hd
        have HG := Lib.hid hag
        clear hd hag
        go_wp2_with fail
        go_ret
        exact ⟨by rw [HG.out]; rfl, HD.out⟩
  · have hb : ((n : Int) != m) = true := by simp; omega
    rw [decide_eq_false hnm, Bool.false_and]
    clear hnm
    go_enter Try.func43, Try.ntmps43
    go_wp2_with fail
    go_ret
    exact ⟨rfl, Drn.refl _⟩
set_option maxHeartbeats 1000000 in
set_option maxRecDepth 100000 in
theorem ints_any (A B : Option Addr) (n m ca cb : Nat) (f g : Nat → Int) (w : World) (hA : Ro w A n (fun i => .int .i64 (f i))) (hB : Ro w B m (fun i => .int .i64 (g i))) (hn : n ≤ ca) (hm : m ≤ cb) (hl : n ≤ 1000000000000) :
    Calls Try.prog 28 #[.slice A n ca, .slice B m cb] w fun e w' => e = .returned (.bool (decide (n = m) && agree f g n)) ∧ Drn w w' := by
  by_cases hnm : n = m
  · subst hnm
    rw [decide_eq_true rfl, Bool.true_and]
    have HA := Lib.hid hA
    have HB := Lib.hid hB
    clear hA hB
    go_enter Try.func28, Try.ntmps28
    go_wp2_with fail
    go_loopw [5] (fun v5 wr => ∃ (i : Nat), i ≤ n ∧ v5 = .int .i64 i ∧ agree f g i = true ∧ Drn w wr) (fun v5 _ => n - (intOf v5).toNat)
    case atStart => exact ⟨0, by omega, rfl, rfl, Drn.refl _⟩
    case round =>
      obtain ⟨i, hi, rfl, hag, hd⟩ := hrel
      by_cases hlt : i < n
      · obtain ⟨b, off, rfl, hs, hc⟩ := HA.out (by omega)
        obtain ⟨b2, off2, rfl, hs2, hc2⟩ := HB.out (by omega)
        have c1 := (hd.below.cell (p := ⟨b, off + i, none⟩) hs).trans (hc i hlt)
        have c2 := (hd.below.cell (p := ⟨b2, off2 + i, none⟩) hs2).trans (hc2 i hlt)
        obtain ⟨X, eX⟩ : ∃ X, f i = X := ⟨_, rfl⟩
        obtain ⟨Y, eY⟩ : ∃ Y, g i = Y := ⟨_, rfl⟩
        dsimp only at c1 c2
        rw [eX] at c1
        rw [eY] at c2
        have EX := Lib.hid eX
        have EY := Lib.hid eY
        have HD := Lib.hid hd
        have HG := Lib.hid hag
        clear hc hc2 eX eY hd hag
        by_cases he : X = Y
        · subst he
          have hb : (X != X) = false := by simp
          go_wp2_with fail
          go_quiet (fail)
          go_wp2_with fail
          exact ⟨⟨i + 1, by omega, by go_num, by rw [agree, HG.out, EX.out, EY.out]; simp, HD.out.drewN _⟩, by simp [intOf]; omega⟩
        · have hb : (X != Y) = true := by simpa using he
          have hF := Lib.hid (agree_stop (f := f) (g := g) hlt (by rw [EX.out, EY.out]; exact he))
          clear he
          go_wp2_with fail
          go_quiet (fail)
          go_wp2_with fail
          go_ret
          exact ⟨by rw [hF.out]; rfl, HD.out.drewN _⟩
      · obtain rfl : i = n := by omega
        have HD := Lib.hid hd
        have HG := Lib.hid hag
        clear hd hag
        go_wp2_with fail
        go_ret
        exact ⟨by rw [HG.out]; rfl, HD.out⟩
  · have hb : ((n : Int) != m) = true := by simp; omega
    rw [decide_eq_false hnm, Bool.false_and]
    clear hnm
    go_enter Try.func28, Try.ntmps28
    go_wp2_with fail
    go_ret
    exact ⟨rfl, Drn.refl _⟩
/-- Are two matrices the same? -/
def sameM (x y : Int) (n : Nat) (f : Nat → Bool) (x2 y2 : Int) (m : Nat) (g : Nat → Bool) : Bool := decide (x = x2) && (decide (y = y2) && (decide (n = m) && agree f g n))
set_option maxRecDepth 100000 in
theorem sameM_any (x y x2 y2 : Int) (A B : Option Addr) (n m ca cb : Nat) (f g : Nat → Bool) (w : World) (hA : Ro w A n (fun i => .bool (f i))) (hB : Ro w B m (fun i => .bool (g i))) (hn : n ≤ ca) (hm : m ≤ cb) (hl : n ≤ 1000000000000) :
    Calls Try.prog 23 #[.agg #[.int .i64 x, .int .i64 y, .slice A n ca], .agg #[.int .i64 x2, .int .i64 y2, .slice B m cb]] w fun e w' => e = .returned (.bool (sameM x y n f x2 y2 m g)) ∧ Below w.heap.size w w' := by
  have hu := Try.underlying35
  have HB := Lib.hid (balloc (bbox (w := w) (.cells #[.int .i64 x, .int .i64 y, .slice A n ca] 35)) (.cells #[.int .i64 x2, .int .i64 y2, .slice B m cb] 35))
  have k1 := ((Blk.new w [.int .i64 x, .int .i64 y, .slice A n ca] 35).alloc (.cells #[.int .i64 x2, .int .i64 y2, .slice B m cb] 35)).three
  have k2 := (Blk.new1 w (.cells #[.int .i64 x, .int .i64 y, .slice A n ca] 35) [.int .i64 x2, .int .i64 y2, .slice B m cb] 35).three
  by_cases hx : x = x2
  · have hb : (x == x2) = true := by simpa using hx
    by_cases hy : y = y2
    · have hb2 : (y == y2) = true := by simpa using hy
      have he : sameM x y n f x2 y2 m g = (decide (n = m) && agree f g n) := by unfold sameM; simp [hx, hy]
      have HS := Lib.hid (fun w1 h1 h2 => same_any A B n m ca cb f g w1 h1 h2 hn hm hl)
      have HA := Lib.hid hA
      have HC := Lib.hid hB
      rw [he]
      clear hx hy he hA hB
      go_enter Try.func23, Try.ntmps23
      go_wp2_with fail
      refine (HS.out _ ((HA.out.alloc _).alloc _) ((HC.out.alloc _).alloc _)).mono ?_
      rintro e w1 ⟨rfl, h1⟩
      have HB2 := Lib.hid (bthen HB.out h1.below)
      clear h1
      go_wp2_with fail
      go_ret
      exact ⟨rfl, HB2.out⟩
    · have hb2 : (y == y2) = false := by simpa using hy
      have he : sameM x y n f x2 y2 m g = false := by unfold sameM; simp [hy]
      rw [he]
      clear hx hy he hA hB
      go_enter Try.func23, Try.ntmps23
      go_wp2_with fail
      go_ret
      exact ⟨rfl, HB.out⟩
  · have hb : (x == x2) = false := by simpa using hx
    have he : sameM x y n f x2 y2 m g = false := by unfold sameM; simp [hx]
    rw [he]
    clear hx he hA hB
    go_enter Try.func23, Try.ntmps23
    go_wp2_with fail
    go_ret
    exact ⟨rfl, HB.out⟩
set_option maxRecDepth 100000 in
theorem sound20_any (x y : Int) (A : Option Addr) (n c : Nat) (w : World) :
    Calls Try.prog 30 #[.agg #[.int .i64 x, .int .i64 y, .slice A n c]] w fun e w' => e = .returned (.bool (sound x y n)) ∧ Below w.heap.size w w' := by
  have hu := Try.underlying35
  have hbel := Lib.hid (bbox (w := w) (.cells #[.int .i64 x, .int .i64 y, .slice A n c] 35))
  have k := (Blk.new w [.int .i64 x, .int .i64 y, .slice A n c] 35).three
  by_cases h : 1 ≤ x ∧ x ≤ 4096 ∧ 1 ≤ y ∧ y ≤ 4096
  · obtain ⟨p, hp⟩ : ∃ p, x * y = p := ⟨_, rfl⟩
    have hb := mul_bd h
    rw [hp] at hb
    obtain ⟨a, b, c0, d⟩ := h
    have he : sound x y n = (decide (p ≤ 4194304) && decide ((n : Int) = p)) := by unfold sound poss; rw [hp]; simp [a, b, c0, d]
    rw [he]
    clear he
    by_cases hq : p ≤ 4194304
    · rw [decide_eq_true hq, Bool.true_and]
      go_enter Try.func30, Try.ntmps30
      go_wp2_with fail
      go_ret
      exact ⟨rfl, hbel.out⟩
    · rw [decide_eq_false hq, Bool.false_and]
      go_enter Try.func30, Try.ntmps30
      go_wp2_with fail
      go_ret
      exact ⟨rfl, hbel.out⟩
  · have he : sound x y n = false := by unfold sound poss; rw [decide_eq_false (fun k => h ⟨k.1, k.2.1, k.2.2.1, k.2.2.2.1⟩), Bool.false_and]
    rw [he]
    by_cases a : 1 ≤ x
    · by_cases b : x ≤ 4096
      · by_cases c0 : 1 ≤ y
        · have d : ¬ y ≤ 4096 := fun d => h ⟨a, b, c0, d⟩
          clear h he
          go_enter Try.func30, Try.ntmps30
          go_wp2_with fail
          go_ret
          exact ⟨rfl, hbel.out⟩
        · clear h he
          go_enter Try.func30, Try.ntmps30
          go_wp2_with fail
          go_ret
          exact ⟨rfl, hbel.out⟩
      · clear h he
        go_enter Try.func30, Try.ntmps30
        go_wp2_with fail
        go_ret
        exact ⟨rfl, hbel.out⟩
    · clear h he
      go_enter Try.func30, Try.ntmps30
      go_wp2_with fail
      go_ret
      exact ⟨rfl, hbel.out⟩
end Go.Proofs.Ytjhdjmlaidpjfaa.B
