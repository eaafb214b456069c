/- threshold.Global: the bitmap of the pixels whose values are less than a threshold. -/
import Derived.Test.YtjhdjmlaidpjfaaSound
import Derived.BigRegion
set_option linter.unusedVariables false
namespace Go.Proofs.Ytjhdjmlaidpjfaa.B
open Go.RowKit
theorem info_bool : (Try.prog.info? 4).map (fun i => (i.zero, i.size, i.bytes)) = some (some (.bool false), 1, 1) := by kernel_rfl
theorem info_int : (Try.prog.info? 3).map (fun i => (i.zero, i.size, i.bytes)) = some (some (.int .i64 0), 1, 8) := by kernel_rfl
theorem run_make_bool (w : World) (n : Nat) (z : Int) (hn : n ≤ 1000000000000) (hz : z = n) : (Instr.makeSlice 33 (.int .i64 z) (.int .i64 z)).run Try.prog w = .ok (.slice (some ⟨w.heap.size, 0, none⟩) n n) (w.alloc (.cells (madeCells #[.bool false] n) 4)) := by
  subst hz
  obtain ⟨i0, hi, hzz⟩ := Option.map_eq_some_iff.1 info_bool
  simp only [Prod.mk.injEq] at hzz
  obtain ⟨hz0, hz1, hz2⟩ := hzz
  have hr := run_make (P := Try.prog) w 33 4 i0 (.bool false) Try.underlying33 hi hz0 .i64 .i64 (n : Int) (n : Int) (by omega) (by omega) (by rw [hz2]; omega) (by omega)
  rw [hz1] at hr
  simpa [Value.cells] using hr
theorem run_make_int (w : World) (n : Nat) (z : Int) (hn : n ≤ 1000000000000) (hz : z = n) : (Instr.makeSlice 41 (.int .i64 z) (.int .i64 z)).run Try.prog w = .ok (.slice (some ⟨w.heap.size, 0, none⟩) n n) (w.alloc (.cells (madeCells #[.int .i64 0] n) 3)) := by
  subst hz
  obtain ⟨i0, hi, hzz⟩ := Option.map_eq_some_iff.1 info_int
  simp only [Prod.mk.injEq] at hzz
  obtain ⟨hz0, hz1, hz2⟩ := hzz
  have hr := run_make (P := Try.prog) w 41 3 i0 (.int .i64 0) Try.underlying41 hi hz0 .i64 .i64 (n : Int) (n : Int) (by omega) (by omega) (by rw [hz2]; omega) (by omega)
  rw [hz1] at hr
  simpa [Value.cells] using hr
/-- A bitmap's variable and its row, made one behind the other. -/
structure MadeTwo (w1 W : World) (gm gr n : Nat) (x y : Int) : Prop where
  mat : Blk W gm [.int .i64 x, .int .i64 y, .slice (some ⟨gr, 0, none⟩) n n] 35
  row : Ow W gr n (fun _ => .bool false) 4
  apart : gm ≠ gr
  mfar : w1.heap.size ≤ gm
  rfar : w1.heap.size ≤ gr
  below : Below w1.heap.size w1 W
theorem madeA (w1 : World) (n : Nat) (x y : Int) : MadeTwo w1 ((w1.alloc (.cells #[.int .i64 x, .int .i64 y, .slice (some ⟨w1.heap.size + 1, 0, none⟩) n n] 35)).alloc (.cells (madeCells #[.bool false] n) 4)).drew w1.heap.size (w1.heap.size + 1) n x y :=
  ⟨((Blk.new _ _ _).alloc _).drew, by
    have := (Ow.made (w1.alloc (.cells #[.int .i64 x, .int .i64 y, .slice (some ⟨w1.heap.size + 1, 0, none⟩) n n] 35)) (.bool false) n 4).drew
    rwa [World.size_alloc] at this, by omega, by omega, by omega, (balloc (bbox _) _).drew⟩
theorem madeB (w1 : World) (n : Nat) (x y : Int) : MadeTwo w1 ((w1.alloc (.cells (madeCells #[.bool false] n) 4)).alloc (.cells #[.int .i64 x, .int .i64 y, .slice (some ⟨w1.heap.size, 0, none⟩) n n] 35)).drew (w1.heap.size + 1) w1.heap.size n x y :=
  ⟨(Blk.new1 _ _ _ _).drew, ((Ow.made w1 (.bool false) n 4).alloc _).drew, by omega, by omega, by omega, (balloc (bbox _) _).drew⟩
/-- A call's end: a bitmap, and an error. -/
def MatPost (x y : Int) (n : Nat) (f : Nat → Bool) (err : Int) (w : World) (e : Ending) (w' : World) : Prop :=
  ∃ A c, e = .returned (.tuple #[.agg #[.int .i64 x, .int .i64 y, .slice A n c], .int .i64 err]) ∧ n ≤ c ∧ Ro w' A n (fun i => .bool (f i)) ∧ Below w.heap.size w w'
/-- A bitmap, or an error. -/
def MatIf (ok : Bool) (x y : Int) (n : Nat) (f : Nat → Bool) (err : Int) (w : World) : Ending → World → Prop :=
  if ok then MatPost x y n f 0 w else MatPost 0 0 0 f err w
theorem res_mat {fn : Func} {p u : Tmp} (h : fn.results = #[.cell p 35, .tmp u]) (tmps : Array Value) (w : World) (g : Nat) (x y z : Value) (hp : tmps.getD p undef = .pointer (some ⟨g, 0, none⟩)) (hg : Blk w g [x, y, z] 35) :
    (results fn tmps).run Try.prog w = .ok (.tuple #[.agg #[x, y, z], tmps.getD u undef]) w :=
  results_ct h tmps w g 35 _ (0, 0) _ hp hg Try.underlying35 rfl (by simp only [List.size_toArray, List.length_cons, List.length_nil]; kernel_rfl)
set_option maxHeartbeats 4000000 in
set_option maxRecDepth 100000 in
theorem global_any (x y t : Int) (A : Option Addr) (n c : Nat) (p : Nat → Int) (w : World) (hA : Ro w A n (fun i => .int .u8 (p i))) (hp : ∀ i, 0 ≤ p i ∧ p i < 256) (hn : n ≤ c) :
    Calls Try.prog 19 #[.agg #[.int .i64 x, .int .i64 y, .slice A n c], .int .i64 t] w
      (MatIf (sound x y n && decide (0 ≤ t ∧ t ≤ 256)) x y n (fun i => decide (p i < t)) (if sound x y n then 3 else 1) w) := by
  have hu := Try.underlying24
  have hu2 := Try.underlying35
  have HC := Lib.hid (fun w1 => checkImage_any x y A n c w1)
  have K0 := Lib.hid ((Blk.new w [.int .i64 x, .int .i64 y, .slice A n c] 24).alloc (.cells #[.int .i64 0, .int .i64 0, .slice none 0 0] 35))
  have K1 := Lib.hid (Blk.new1 w (.cells #[.int .i64 x, .int .i64 y, .slice A n c] 24) [.int .i64 0, .int .i64 0, .slice none 0 0] 35)
  have HB := Lib.hid (balloc (bbox (w := w) (.cells #[.int .i64 x, .int .i64 y, .slice A n c] 24)) (.cells #[.int .i64 0, .int .i64 0, .slice none 0 0] 35))
  cases hs : sound x y n with
  | false =>
    rw [Bool.false_and]
    rw [hs] at HC
    unfold MatIf
    have hb : (errB false != 0) = true := rfl
    simp only [Bool.false_eq_true, if_false]
    clear hA hp hs
    go_enter Try.func19, Try.ntmps19
    go_wp2_with fail
    refine (HC.out _).mono ?_
    rintro e w1 ⟨rfl, h1⟩
    have L1 := Lib.hid (K1.out.below h1)
    have LB := Lib.hid (bthen HB.out h1)
    clear h1
    have l1 := L1.out.three
    go_wp2_with fail
    exact bodyPost_ret (res_mat rfl _ _ (w.heap.size + 1) _ _ _ rfl (L1.out.store3 _ _ _)) rfl ⟨none, 0, rfl, Nat.le_refl _, Ro.nil _ _ _, OnlyAbove.store3 LB.out (by omega) _ _ _⟩
  | true =>
    rw [Bool.true_and]
    rw [hs] at HC
    have hb : (errB true != 0) = false := rfl
    have hnb := (sound_bd hs).2.2.2.2.2.2
    by_cases ht : 0 ≤ t ∧ t ≤ 256
    · rw [decide_eq_true ht]
      unfold MatIf
      simp only [if_true]
      have hmk := fun w9 => run_make_bool w9 n n (by omega) rfl
      have ht0 : decide (t < 0) = false := decide_eq_false (by omega)
      have ht1 : decide (256 < t) = false := decide_eq_false (by omega)
      have HP := Lib.hid hp
      have HA := Lib.hid hA
      clear hA hp hs
      go_enter Try.func19, Try.ntmps19
      go_wp2_with fail
      refine (HC.out _).mono ?_
      rintro e w1 ⟨rfl, h1⟩
      have L0 := Lib.hid (K0.out.below h1)
      have L1 := Lib.hid (K1.out.below h1)
      have LB := Lib.hid (bthen HB.out h1)
      clear h1
      have l0 := L0.out.three
      go_upto_region 6 with fail
      go_cut [7] (fun s7 wx => ∃ gm gr, s7 = .pointer (some ⟨gm, 0, none⟩) ∧ Hid (MadeTwo w1 wx gm gr n x y))
      case first =>
        go_region
        all_goals go_wp2_with fail
        all_goals go_meet
        all_goals first
          | exact ⟨_, _, rfl, Lib.hid (madeA w1 n x y)⟩
          | exact ⟨_, _, rfl, Lib.hid (madeB w1 n x y)⟩
      case rest =>
        clear hmk l0
        obtain ⟨gm, gr, rfl, M⟩ := hcut
        have ap := M.out.apart
        have hmf := LB.out.size
        have ap1 : w.heap.size < gm := Nat.lt_of_lt_of_le L0.out.lt M.out.mfar
        have ap2 : w.heap.size < gr := Nat.lt_of_lt_of_le L0.out.lt M.out.rfar
        have ap3 : w.heap.size + 1 < gm := Nat.lt_of_lt_of_le L1.out.lt M.out.mfar
        have ap4 : w.heap.size + 1 < gr := Nat.lt_of_lt_of_le L1.out.lt M.out.rfar
        have S0 := Lib.hid (L0.out.below M.out.below)
        have S1 := Lib.hid (L1.out.below M.out.below)
        have SM := Lib.hid M.out.mat
        have SR := Lib.hid M.out.row
        have SB := Lib.hid (bthen LB.out M.out.below)
        clear M L0 L1 LB
        have s0 := S0.out.three
        go_wp2_with fail
        go_loopw [35] (fun v35 wr => ∃ (i : Nat), i ≤ n ∧ v35 = .int .i64 i ∧ Blk wr (w.heap.size + 1) [.int .i64 0, .int .i64 0, .slice none 0 0] 35 ∧ Blk wr gm [.int .i64 x, .int .i64 y, .slice (some ⟨gr, 0, none⟩) n n] 35 ∧ Ow wr gr n (fun j => .bool (if j < i then decide (p j < t) else false)) 4 ∧ Below w.heap.size w wr) (fun v35 _ => n - (intOf v35).toNat)
        case atStart => exact ⟨0, by omega, rfl, S1.out, SM.out, SR.out.congr (fun j hj => by rw [if_neg (by omega)]), SB.out⟩
        case round =>
          clear S0 S1 SM SR SB s0
          obtain ⟨i, hi, rfl, r1, r2, r3, r4⟩ := hrel
          have S1 := Lib.hid r1
          have SM := Lib.hid r2
          have SR := Lib.hid r3
          have SB := Lib.hid r4
          have s1 := r1.three
          have sm := r2.three
          clear r1 r2 r3 r4
          by_cases hlt : i < n
          · obtain ⟨b, off, rfl, hs, hc⟩ := HA.out (by omega)
            have c1 := (SB.out.cell (p := ⟨b, off + i, none⟩) hs).trans (hc i hlt)
            have hP := HP.out i
            have c2 := SR.out.cell i hlt
            have f2 := SR.out.frozen i
            dsimp only at c1 c2
            obtain ⟨q, hq⟩ : ∃ q, p i = q := ⟨_, rfl⟩
            rw [hq] at c1 hP
            have HQ := Lib.hid hq
            clear hc hq
            go_wp2_with fail
            exact ⟨⟨i + 1, by omega, by go_num, S1.out.far (by omega) _ _, SM.out.far ap _ _, (SR.out.set i _).congr (fun j hj => by
              unfold upd
              by_cases hji : j = i
              · subst hji; rw [if_pos rfl, if_pos (by omega), HQ.out]
              · rw [if_neg hji]
                dsimp only
                by_cases hj2 : j < i
                · rw [if_pos hj2, if_pos (by omega)]
                · rw [if_neg hj2, if_neg (by omega)]), SB.out.setCell (p := ⟨gr, i, none⟩) (by simp; omega) _⟩, by simp [intOf]; omega⟩
          · obtain rfl : i = n := by omega
            go_wp2_with fail
            exact bodyPost_ret (res_mat rfl _ _ (w.heap.size + 1) _ _ _ rfl (S1.out.store3 _ _ _)) rfl ⟨_, _, rfl, Nat.le_refl _, by
              have hr := ((((SR.out.far (b := w.heap.size + 1) (by omega) 0 (.int .i64 x)).far (b := w.heap.size + 1) (by omega) 1 (.int .i64 y)).far (b := w.heap.size + 1) (by omega) 2 (.slice (some ⟨gr, 0, none⟩) i i))).ro
              exact hr.congr (fun j hj => by rw [if_pos hj]), OnlyAbove.store3 SB.out (by omega) _ _ _⟩
    · rw [decide_eq_false ht]
      unfold MatIf
      simp only [Bool.false_eq_true, if_false, if_true]
      clear hA hp hs
      by_cases ht0 : t < 0
      · clear ht
        go_enter Try.func19, Try.ntmps19
        go_wp2_with fail
        refine (HC.out _).mono ?_
        rintro e w1 ⟨rfl, h1⟩
        have L1 := Lib.hid (K1.out.below h1)
        have LB := Lib.hid (bthen HB.out h1)
        clear h1
        have l1 := L1.out.three
        go_wp2_with fail
        exact bodyPost_ret (res_mat rfl _ _ (w.heap.size + 1) _ _ _ rfl (L1.out.store3 _ _ _)) rfl ⟨none, 0, rfl, Nat.le_refl _, Ro.nil _ _ _, OnlyAbove.store3 LB.out (by omega) _ _ _⟩
      · have ht1 : 256 < t := by omega
        clear ht
        go_enter Try.func19, Try.ntmps19
        go_wp2_with fail
        refine (HC.out _).mono ?_
        rintro e w1 ⟨rfl, h1⟩
        have L1 := Lib.hid (K1.out.below h1)
        have LB := Lib.hid (bthen HB.out h1)
        clear h1
        have l1 := L1.out.three
        go_wp2_with fail
        exact bodyPost_ret (res_mat rfl _ _ (w.heap.size + 1) _ _ _ rfl (L1.out.store3 _ _ _)) rfl ⟨none, 0, rfl, Nat.le_refl _, Ro.nil _ _ _, OnlyAbove.store3 LB.out (by omega) _ _ _⟩
end Go.Proofs.Ytjhdjmlaidpjfaa.B
