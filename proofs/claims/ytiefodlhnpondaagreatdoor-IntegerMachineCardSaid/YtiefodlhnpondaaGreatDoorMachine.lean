/-
  The law IntegerMachine: integers calculate as the numbers that they are, as long as these are not too great for a machine.
-/
import Derived.Test.YtiefodlhnpondaaGreatDoorTextLaw
namespace Go.Proofs.YtiefodlhnpondaaGreatDoor
open Go.RowKit Go.Shelf
attribute [local go_sem] Oper.semAt_some

theorem prod_bd {a b : Int} (a1 : -2147483648 ≤ a) (a2 : a ≤ 2147483647) (b1 : -2147483648 ≤ b) (b2 : b ≤ 2147483647) : -4611686018427387904 ≤ a * b ∧ a * b ≤ 4611686018427387904 := by
  have h : (a * b).natAbs ≤ 2147483648 * 2147483648 := by
    rw [Int.natAbs_mul]
    exact Nat.mul_le_mul (by omega) (by omega)
  omega
theorem FromInt_e {w : World} (hG : Glob w) {z : Int} {s : ByteArray} (h0 : -9223372036854775808 ≤ z) (h1 : z ≤ 9223372036854775807) (es : s = str z) (i : Int) (hi : i = z) (W : World) (hk : Below w.heap.size w W) :
    Calls Tryz.prog 35 #[.int .i64 i] W fun e W' => e = .returned (.string s) ∧ Below w.heap.size w W' := by
  subst hi
  exact FromInt_s hG h0 h1 es W hk
theorem tmod_bd {a b : Int} (b1 : -2147483648 ≤ b) (b2 : b ≤ 2147483647) (hb : b ≠ 0) : -2147483647 ≤ Int.tmod a b ∧ Int.tmod a b ≤ 2147483647 := by
  have h := Int.natAbs_tmod a b
  have h2 := Nat.mod_lt a.natAbs (show 0 < b.natAbs by omega)
  omega
theorem tmod_up {a b : Int} (hb : b ≠ 0) (hp : 0 < b) : 0 ≤ Int.tmod a b + b := by
  have h := Int.natAbs_tmod a b
  have h2 := Nat.mod_lt a.natAbs (show 0 < b.natAbs by omega)
  omega
theorem tdiv_bd {a b : Int} (a1 : -2147483648 ≤ a) (a2 : a ≤ 2147483647) : -2147483648 ≤ Int.tdiv a b ∧ Int.tdiv a b ≤ 2147483648 := by
  have h : (Int.tdiv a b).natAbs ≤ a.natAbs := by rw [Int.natAbs_tdiv]; exact Nat.div_le_self _ _
  omega
theorem ediv_of {a b : Int} (hb : b ≠ 0) : a / b = (if Int.tmod a b < 0 then (if 0 < b then Int.tdiv a b - 1 else Int.tdiv a b + 1) else Int.tdiv a b) ∧ a % b = (if Int.tmod a b < 0 then (if 0 < b then Int.tmod a b + b else Int.tmod a b - b) else Int.tmod a b) := by
  have e := Int.mul_tdiv_add_tmod a b
  have h := Int.natAbs_tmod a b
  have h2 := Nat.mod_lt a.natAbs (show 0 < b.natAbs by omega)
  generalize Int.tmod a b = r at *
  generalize Int.tdiv a b = q at *
  have hr : r.natAbs < b.natAbs := by omega
  have key : ∀ q' r' : Int, b * q' + r' = a → 0 ≤ r' → r' < b.natAbs → a / b = q' ∧ a % b = r' := by
    intro q' r' e0 h0 h1
    have hs : b * q' = (b.natAbs : Int) * (if b < 0 then -q' else q') := by
      split
      · rw [Int.mul_neg, ← Int.neg_mul, show (-(b.natAbs : Int)) = b from by omega]
      · rw [show (b.natAbs : Int) = b from by omega]
    have := div_any_uniq (x := a) (y := b) (q := if b < 0 then -q' else q') (r := r') (by rw [← hs]; omega) h0 h1
    refine ⟨?_, this.2⟩
    rw [this.1]
    split
    · rw [Int.neg_neg]
    · rfl
  by_cases h0 : r < 0
  · rw [if_pos h0, if_pos h0]
    by_cases hp : 0 < b
    · rw [if_pos hp, if_pos hp]
      exact key _ _ (by rw [Int.mul_sub, Int.mul_one]; omega) (by omega) (by omega)
    · rw [if_neg hp, if_neg hp]
      exact key _ _ (by rw [Int.mul_add, Int.mul_one]; omega) (by omega) (by omega)
  · rw [if_neg h0, if_neg h0]
    exact key _ _ e (by omega) (by omega)

set_option maxHeartbeats 8000000 in
set_option maxRecDepth 100000 in
theorem Machine_lt_z (a b : Int) (a1 : -2147483648 ≤ a) (a2 : a ≤ 2147483647) (b1 : -2147483648 ≤ b) (b2 : b ≤ 2147483647) (w : World) (hG : Glob w) (ho : a < b) (hy : b = 0) :
    Calls Tryz.prog 10 #[.int .i32 a, .int .i32 b] w fun e w' => e = .returned (.bool true) ∧ Below w.heap.size w w' := by
  have hk0 := Below.refl w.heap.size w
  have s0 := Lib.hid (sane_s hG)
  obtain ⟨p1, p2⟩ := prod_bd a1 a2 b1 b2
  obtain ⟨s, hs⟩ : ∃ s, s = str a := ⟨_, rfl⟩
  obtain ⟨t, ht⟩ : ∃ t, t = str b := ⟨_, rfl⟩
  obtain ⟨u1, h1⟩ : ∃ s, s = str (a + b) := ⟨_, rfl⟩
  obtain ⟨u2, h2⟩ : ∃ s, s = str (a - b) := ⟨_, rfl⟩
  obtain ⟨u3, h3⟩ : ∃ s, s = str (a * b) := ⟨_, rfl⟩
  have sa := small_i64 (z := a) (by omega) (by omega)
  have sb := small_i64 (z := b) (by omega) (by omega)
  have f1 := Lib.hid (FromInt_s hG (by omega) (by omega) hs)
  have f2 := Lib.hid (FromInt_s hG (by omega) (by omega) ht)
  have c1 := Lib.hid (ToInt_s (w := w) sa (inInt_iff.2 (by omega)) hs)
  have c2 := Lib.hid (Add_s hG sa sb hs ht (small_i64 (by omega) (by omega)) h1)
  have c3 := Lib.hid (Sub_s hG sa sb hs ht (small_i64 (by omega) (by omega)) h2)
  have c4 := Lib.hid (Mul_s hG sa sb hs ht (small_i64 (by omega) (by omega)) h3)
  have g1 := Lib.hid (FromInt_s hG (by omega) (by omega) h1)
  have g2 := Lib.hid (FromInt_s hG (by omega) (by omega) h2)
  have g3 := Lib.hid (FromInt_s hG (by omega) (by omega) h3)
  have k1 := Lib.hid (Compare_v (k := -1) (w := w) sa sb hs ht (by unfold cmpI; rw [if_pos ho]))
  have ho2 : decide (b < a) = false := decide_eq_false (by omega)
  have d1 := Lib.hid (Div_z (w := w) (sy := t) hG sa hs (by rw [ht, hy]))
  have hy0 : (b == 0) = true := by rw [beq_iff_eq]; exact hy
  clear hs ht h1 h2 h3 sa sb hy
  go_enter Tryz.func10, Tryz.ntmps10
  go_wp2_with (first
    | (go_at_call 12; with_reducible refine (s0.out _ hk0).mono ?_; rintro e w' ⟨rfl, hk1⟩)
    | (go_at_call 35; with_reducible refine (f1.out _ hk1).mono ?_; rintro e w' ⟨rfl, hk2⟩)
    | (go_at_call 35; with_reducible refine (f2.out _ hk2).mono ?_; rintro e w' ⟨rfl, hk3⟩)
    | (go_at_call 31; with_reducible refine (c1.out _ hk3).mono ?_; rintro e w' ⟨rfl, hk4⟩)
    | (go_at_call 14; with_reducible refine (c2.out _ hk4).mono ?_; rintro e w' ⟨rfl, hk5⟩)
    | (go_at_call 16; with_reducible refine (c3.out _ hk5).mono ?_; rintro e w' ⟨rfl, hk6⟩)
    | (go_at_call 15; with_reducible refine (c4.out _ hk6).mono ?_; rintro e w' ⟨rfl, hk7⟩)
    | (go_at_call 35; with_reducible refine (g1.out _ hk7).mono ?_; rintro e w' ⟨rfl, hk8⟩)
    | (go_at_call 35; with_reducible refine (g2.out _ hk8).mono ?_; rintro e w' ⟨rfl, hk9⟩)
    | (go_at_call 35; with_reducible refine (g3.out _ hk9).mono ?_; rintro e w' ⟨rfl, hk10⟩)
    | (go_at_call 18; with_reducible refine (k1.out _ hk10).mono ?_; rintro e w' ⟨rfl, hk11⟩)
    | (go_at_call 17; with_reducible refine (d1.out _ hk11).mono ?_; rintro e w' ⟨rfl, hk12⟩))
  go_ret
  exact ⟨rfl, hk12⟩

set_option maxHeartbeats 8000000 in
set_option maxRecDepth 100000 in
theorem Machine_lt_p (a b : Int) (a1 : -2147483648 ≤ a) (a2 : a ≤ 2147483647) (b1 : -2147483648 ≤ b) (b2 : b ≤ 2147483647) (w : World) (hG : Glob w) (ho : a < b) (hy : b ≠ 0) (hr : 0 ≤ Int.tmod a b) :
    Calls Tryz.prog 10 #[.int .i32 a, .int .i32 b] w fun e w' => e = .returned (.bool true) ∧ Below w.heap.size w w' := by
  have hk0 := Below.refl w.heap.size w
  have s0 := Lib.hid (sane_s hG)
  obtain ⟨p1, p2⟩ := prod_bd a1 a2 b1 b2
  obtain ⟨s, hs⟩ : ∃ s, s = str a := ⟨_, rfl⟩
  obtain ⟨t, ht⟩ : ∃ t, t = str b := ⟨_, rfl⟩
  obtain ⟨u1, h1⟩ : ∃ s, s = str (a + b) := ⟨_, rfl⟩
  obtain ⟨u2, h2⟩ : ∃ s, s = str (a - b) := ⟨_, rfl⟩
  obtain ⟨u3, h3⟩ : ∃ s, s = str (a * b) := ⟨_, rfl⟩
  have sa := small_i64 (z := a) (by omega) (by omega)
  have sb := small_i64 (z := b) (by omega) (by omega)
  have f1 := Lib.hid (FromInt_s hG (by omega) (by omega) hs)
  have f2 := Lib.hid (FromInt_s hG (by omega) (by omega) ht)
  have c1 := Lib.hid (ToInt_s (w := w) sa (inInt_iff.2 (by omega)) hs)
  have c2 := Lib.hid (Add_s hG sa sb hs ht (small_i64 (by omega) (by omega)) h1)
  have c3 := Lib.hid (Sub_s hG sa sb hs ht (small_i64 (by omega) (by omega)) h2)
  have c4 := Lib.hid (Mul_s hG sa sb hs ht (small_i64 (by omega) (by omega)) h3)
  have g1 := Lib.hid (FromInt_s hG (by omega) (by omega) h1)
  have g2 := Lib.hid (FromInt_s hG (by omega) (by omega) h2)
  have g3 := Lib.hid (FromInt_s hG (by omega) (by omega) h3)
  have k1 := Lib.hid (Compare_v (k := -1) (w := w) sa sb hs ht (by unfold cmpI; rw [if_pos ho]))
  have ho2 : decide (b < a) = false := decide_eq_false (by omega)
  obtain ⟨sq, hsq⟩ : ∃ s, s = str (a / b) := ⟨_, rfl⟩
  obtain ⟨sr, hsr⟩ : ∃ s, s = str (a % b) := ⟨_, rfl⟩
  have d1 := Lib.hid (Div_s hG sa sb hs ht hy hsq hsr)
  have hy0 : (b == 0) = false := by rw [beq_eq_false_iff_ne]; exact hy
  have hy1 : ¬ b = 0 := hy
  obtain ⟨e1, e2⟩ := ediv_of (a := a) hy
  obtain ⟨r1, r2⟩ := tmod_bd (a := a) b1 b2 hy
  obtain ⟨q1, q2⟩ := tdiv_bd (b := b) a1 a2
  rw [if_neg (by omega)] at e1 e2
  rw [e1] at hsq
  rw [e2] at hsr
  have g4 := Lib.hid (FromInt_s hG (by omega) (by omega) hsq)
  have g5 := Lib.hid (FromInt_s hG (by omega) (by omega) hsr)
  clear hs ht h1 h2 h3 sa sb e1 e2 hsq hsr hy
  go_enter Tryz.func10, Tryz.ntmps10
  go_wp2_with (first
    | (go_at_call 12; with_reducible refine (s0.out _ hk0).mono ?_; rintro e w' ⟨rfl, hk1⟩)
    | (go_at_call 35; with_reducible refine (f1.out _ hk1).mono ?_; rintro e w' ⟨rfl, hk2⟩)
    | (go_at_call 35; with_reducible refine (f2.out _ hk2).mono ?_; rintro e w' ⟨rfl, hk3⟩)
    | (go_at_call 31; with_reducible refine (c1.out _ hk3).mono ?_; rintro e w' ⟨rfl, hk4⟩)
    | (go_at_call 14; with_reducible refine (c2.out _ hk4).mono ?_; rintro e w' ⟨rfl, hk5⟩)
    | (go_at_call 16; with_reducible refine (c3.out _ hk5).mono ?_; rintro e w' ⟨rfl, hk6⟩)
    | (go_at_call 15; with_reducible refine (c4.out _ hk6).mono ?_; rintro e w' ⟨rfl, hk7⟩)
    | (go_at_call 35; with_reducible refine (g1.out _ hk7).mono ?_; rintro e w' ⟨rfl, hk8⟩)
    | (go_at_call 35; with_reducible refine (g2.out _ hk8).mono ?_; rintro e w' ⟨rfl, hk9⟩)
    | (go_at_call 35; with_reducible refine (g3.out _ hk9).mono ?_; rintro e w' ⟨rfl, hk10⟩)
    | (go_at_call 18; with_reducible refine (k1.out _ hk10).mono ?_; rintro e w' ⟨rfl, hk11⟩)
    | (go_at_call 17; with_reducible refine (d1.out _ hk11).mono ?_; rintro e w' ⟨rfl, hk12⟩)
    | (go_at_call 35; with_reducible refine (g4.out _ hk12).mono ?_; rintro e w' ⟨rfl, hk13⟩)
    | (go_at_call 35; with_reducible refine (g5.out _ hk13).mono ?_; rintro e w' ⟨rfl, hk14⟩))
  go_ret
  exact ⟨rfl, hk14⟩

set_option maxHeartbeats 8000000 in
set_option maxRecDepth 100000 in
theorem Machine_lt_np (a b : Int) (a1 : -2147483648 ≤ a) (a2 : a ≤ 2147483647) (b1 : -2147483648 ≤ b) (b2 : b ≤ 2147483647) (w : World) (hG : Glob w) (ho : a < b) (hy : b ≠ 0) (hr : Int.tmod a b < 0) (hp : 0 < b) :
    Calls Tryz.prog 10 #[.int .i32 a, .int .i32 b] w fun e w' => e = .returned (.bool true) ∧ Below w.heap.size w w' := by
  have hk0 := Below.refl w.heap.size w
  have s0 := Lib.hid (sane_s hG)
  obtain ⟨p1, p2⟩ := prod_bd a1 a2 b1 b2
  obtain ⟨s, hs⟩ : ∃ s, s = str a := ⟨_, rfl⟩
  obtain ⟨t, ht⟩ : ∃ t, t = str b := ⟨_, rfl⟩
  obtain ⟨u1, h1⟩ : ∃ s, s = str (a + b) := ⟨_, rfl⟩
  obtain ⟨u2, h2⟩ : ∃ s, s = str (a - b) := ⟨_, rfl⟩
  obtain ⟨u3, h3⟩ : ∃ s, s = str (a * b) := ⟨_, rfl⟩
  have sa := small_i64 (z := a) (by omega) (by omega)
  have sb := small_i64 (z := b) (by omega) (by omega)
  have f1 := Lib.hid (FromInt_s hG (by omega) (by omega) hs)
  have f2 := Lib.hid (FromInt_s hG (by omega) (by omega) ht)
  have c1 := Lib.hid (ToInt_s (w := w) sa (inInt_iff.2 (by omega)) hs)
  have c2 := Lib.hid (Add_s hG sa sb hs ht (small_i64 (by omega) (by omega)) h1)
  have c3 := Lib.hid (Sub_s hG sa sb hs ht (small_i64 (by omega) (by omega)) h2)
  have c4 := Lib.hid (Mul_s hG sa sb hs ht (small_i64 (by omega) (by omega)) h3)
  have g1 := Lib.hid (FromInt_s hG (by omega) (by omega) h1)
  have g2 := Lib.hid (FromInt_s hG (by omega) (by omega) h2)
  have g3 := Lib.hid (FromInt_s hG (by omega) (by omega) h3)
  have k1 := Lib.hid (Compare_v (k := -1) (w := w) sa sb hs ht (by unfold cmpI; rw [if_pos ho]))
  have ho2 : decide (b < a) = false := decide_eq_false (by omega)
  obtain ⟨sq, hsq⟩ : ∃ s, s = str (a / b) := ⟨_, rfl⟩
  obtain ⟨sr, hsr⟩ : ∃ s, s = str (a % b) := ⟨_, rfl⟩
  have d1 := Lib.hid (Div_s hG sa sb hs ht hy hsq hsr)
  have hy0 : (b == 0) = false := by rw [beq_eq_false_iff_ne]; exact hy
  have hy1 : ¬ b = 0 := hy
  obtain ⟨e1, e2⟩ := ediv_of (a := a) hy
  obtain ⟨r1, r2⟩ := tmod_bd (a := a) b1 b2 hy
  obtain ⟨q1, q2⟩ := tdiv_bd (b := b) a1 a2
  have hrb := tmod_up (a := a) hy hp
  rw [if_pos hr, if_pos hp] at e1 e2
  rw [e1] at hsq
  rw [e2] at hsr
  have g4 := Lib.hid (FromInt_s hG (by omega) (by omega) hsq)
  have g5 := Lib.hid (FromInt_s hG (by omega) (by omega) hsr)
  clear hs ht h1 h2 h3 sa sb e1 e2 hsq hsr hy
  go_enter Tryz.func10, Tryz.ntmps10
  go_wp2_with (first
    | (go_at_call 12; with_reducible refine (s0.out _ hk0).mono ?_; rintro e w' ⟨rfl, hk1⟩)
    | (go_at_call 35; with_reducible refine (f1.out _ hk1).mono ?_; rintro e w' ⟨rfl, hk2⟩)
    | (go_at_call 35; with_reducible refine (f2.out _ hk2).mono ?_; rintro e w' ⟨rfl, hk3⟩)
    | (go_at_call 31; with_reducible refine (c1.out _ hk3).mono ?_; rintro e w' ⟨rfl, hk4⟩)
    | (go_at_call 14; with_reducible refine (c2.out _ hk4).mono ?_; rintro e w' ⟨rfl, hk5⟩)
    | (go_at_call 16; with_reducible refine (c3.out _ hk5).mono ?_; rintro e w' ⟨rfl, hk6⟩)
    | (go_at_call 15; with_reducible refine (c4.out _ hk6).mono ?_; rintro e w' ⟨rfl, hk7⟩)
    | (go_at_call 35; with_reducible refine (g1.out _ hk7).mono ?_; rintro e w' ⟨rfl, hk8⟩)
    | (go_at_call 35; with_reducible refine (g2.out _ hk8).mono ?_; rintro e w' ⟨rfl, hk9⟩)
    | (go_at_call 35; with_reducible refine (g3.out _ hk9).mono ?_; rintro e w' ⟨rfl, hk10⟩)
    | (go_at_call 18; with_reducible refine (k1.out _ hk10).mono ?_; rintro e w' ⟨rfl, hk11⟩)
    | (go_at_call 17; with_reducible refine (d1.out _ hk11).mono ?_; rintro e w' ⟨rfl, hk12⟩)
    | (go_at_call 35; with_reducible refine (g4.out _ hk12).mono ?_; rintro e w' ⟨rfl, hk13⟩)
    | (go_at_call 35; with_reducible refine (g5.out _ hk13).mono ?_; rintro e w' ⟨rfl, hk14⟩))
  go_ret
  exact ⟨rfl, hk14⟩

set_option maxHeartbeats 8000000 in
set_option maxRecDepth 100000 in
theorem Machine_lt_nn (a b : Int) (a1 : -2147483648 ≤ a) (a2 : a ≤ 2147483647) (b1 : -2147483648 ≤ b) (b2 : b ≤ 2147483647) (w : World) (hG : Glob w) (ho : a < b) (hy : b ≠ 0) (hr : Int.tmod a b < 0) (hp : b < 0) :
    Calls Tryz.prog 10 #[.int .i32 a, .int .i32 b] w fun e w' => e = .returned (.bool true) ∧ Below w.heap.size w w' := by
  have hk0 := Below.refl w.heap.size w
  have s0 := Lib.hid (sane_s hG)
  obtain ⟨p1, p2⟩ := prod_bd a1 a2 b1 b2
  obtain ⟨s, hs⟩ : ∃ s, s = str a := ⟨_, rfl⟩
  obtain ⟨t, ht⟩ : ∃ t, t = str b := ⟨_, rfl⟩
  obtain ⟨u1, h1⟩ : ∃ s, s = str (a + b) := ⟨_, rfl⟩
  obtain ⟨u2, h2⟩ : ∃ s, s = str (a - b) := ⟨_, rfl⟩
  obtain ⟨u3, h3⟩ : ∃ s, s = str (a * b) := ⟨_, rfl⟩
  have sa := small_i64 (z := a) (by omega) (by omega)
  have sb := small_i64 (z := b) (by omega) (by omega)
  have f1 := Lib.hid (FromInt_s hG (by omega) (by omega) hs)
  have f2 := Lib.hid (FromInt_s hG (by omega) (by omega) ht)
  have c1 := Lib.hid (ToInt_s (w := w) sa (inInt_iff.2 (by omega)) hs)
  have c2 := Lib.hid (Add_s hG sa sb hs ht (small_i64 (by omega) (by omega)) h1)
  have c3 := Lib.hid (Sub_s hG sa sb hs ht (small_i64 (by omega) (by omega)) h2)
  have c4 := Lib.hid (Mul_s hG sa sb hs ht (small_i64 (by omega) (by omega)) h3)
  have g1 := Lib.hid (FromInt_s hG (by omega) (by omega) h1)
  have g2 := Lib.hid (FromInt_s hG (by omega) (by omega) h2)
  have g3 := Lib.hid (FromInt_s hG (by omega) (by omega) h3)
  have k1 := Lib.hid (Compare_v (k := -1) (w := w) sa sb hs ht (by unfold cmpI; rw [if_pos ho]))
  have ho2 : decide (b < a) = false := decide_eq_false (by omega)
  obtain ⟨sq, hsq⟩ : ∃ s, s = str (a / b) := ⟨_, rfl⟩
  obtain ⟨sr, hsr⟩ : ∃ s, s = str (a % b) := ⟨_, rfl⟩
  have d1 := Lib.hid (Div_s hG sa sb hs ht hy hsq hsr)
  have hy0 : (b == 0) = false := by rw [beq_eq_false_iff_ne]; exact hy
  have hy1 : ¬ b = 0 := hy
  obtain ⟨e1, e2⟩ := ediv_of (a := a) hy
  obtain ⟨r1, r2⟩ := tmod_bd (a := a) b1 b2 hy
  obtain ⟨q1, q2⟩ := tdiv_bd (b := b) a1 a2
  rw [if_pos hr, if_neg (by omega)] at e1 e2
  rw [e1] at hsq
  rw [e2] at hsr
  have g4 := Lib.hid (FromInt_s hG (by omega) (by omega) hsq)
  have g5 := Lib.hid (FromInt_s hG (by omega) (by omega) hsr)
  clear hs ht h1 h2 h3 sa sb e1 e2 hsq hsr hy
  go_enter Tryz.func10, Tryz.ntmps10
  go_wp2_with (first
    | (go_at_call 12; with_reducible refine (s0.out _ hk0).mono ?_; rintro e w' ⟨rfl, hk1⟩)
    | (go_at_call 35; with_reducible refine (f1.out _ hk1).mono ?_; rintro e w' ⟨rfl, hk2⟩)
    | (go_at_call 35; with_reducible refine (f2.out _ hk2).mono ?_; rintro e w' ⟨rfl, hk3⟩)
    | (go_at_call 31; with_reducible refine (c1.out _ hk3).mono ?_; rintro e w' ⟨rfl, hk4⟩)
    | (go_at_call 14; with_reducible refine (c2.out _ hk4).mono ?_; rintro e w' ⟨rfl, hk5⟩)
    | (go_at_call 16; with_reducible refine (c3.out _ hk5).mono ?_; rintro e w' ⟨rfl, hk6⟩)
    | (go_at_call 15; with_reducible refine (c4.out _ hk6).mono ?_; rintro e w' ⟨rfl, hk7⟩)
    | (go_at_call 35; with_reducible refine (g1.out _ hk7).mono ?_; rintro e w' ⟨rfl, hk8⟩)
    | (go_at_call 35; with_reducible refine (g2.out _ hk8).mono ?_; rintro e w' ⟨rfl, hk9⟩)
    | (go_at_call 35; with_reducible refine (g3.out _ hk9).mono ?_; rintro e w' ⟨rfl, hk10⟩)
    | (go_at_call 18; with_reducible refine (k1.out _ hk10).mono ?_; rintro e w' ⟨rfl, hk11⟩)
    | (go_at_call 17; with_reducible refine (d1.out _ hk11).mono ?_; rintro e w' ⟨rfl, hk12⟩)
    | (go_at_call 35; with_reducible refine (g4.out _ hk12).mono ?_; rintro e w' ⟨rfl, hk13⟩)
    | (go_at_call 35; with_reducible refine (g5.out _ hk13).mono ?_; rintro e w' ⟨rfl, hk14⟩))
  go_ret
  exact ⟨rfl, hk14⟩

set_option maxHeartbeats 8000000 in
set_option maxRecDepth 100000 in
theorem Machine_eq_z (a b : Int) (a1 : -2147483648 ≤ a) (a2 : a ≤ 2147483647) (b1 : -2147483648 ≤ b) (b2 : b ≤ 2147483647) (w : World) (hG : Glob w) (ho : a = b) (hy : b = 0) :
    Calls Tryz.prog 10 #[.int .i32 a, .int .i32 b] w fun e w' => e = .returned (.bool true) ∧ Below w.heap.size w w' := by
  have hk0 := Below.refl w.heap.size w
  have s0 := Lib.hid (sane_s hG)
  obtain ⟨p1, p2⟩ := prod_bd a1 a2 b1 b2
  obtain ⟨s, hs⟩ : ∃ s, s = str a := ⟨_, rfl⟩
  obtain ⟨t, ht⟩ : ∃ t, t = str b := ⟨_, rfl⟩
  obtain ⟨u1, h1⟩ : ∃ s, s = str (a + b) := ⟨_, rfl⟩
  obtain ⟨u2, h2⟩ : ∃ s, s = str (a - b) := ⟨_, rfl⟩
  obtain ⟨u3, h3⟩ : ∃ s, s = str (a * b) := ⟨_, rfl⟩
  have sa := small_i64 (z := a) (by omega) (by omega)
  have sb := small_i64 (z := b) (by omega) (by omega)
  have f1 := Lib.hid (FromInt_s hG (by omega) (by omega) hs)
  have f2 := Lib.hid (FromInt_s hG (by omega) (by omega) ht)
  have c1 := Lib.hid (ToInt_s (w := w) sa (inInt_iff.2 (by omega)) hs)
  have c2 := Lib.hid (Add_s hG sa sb hs ht (small_i64 (by omega) (by omega)) h1)
  have c3 := Lib.hid (Sub_s hG sa sb hs ht (small_i64 (by omega) (by omega)) h2)
  have c4 := Lib.hid (Mul_s hG sa sb hs ht (small_i64 (by omega) (by omega)) h3)
  have g1 := Lib.hid (FromInt_s hG (by omega) (by omega) h1)
  have g2 := Lib.hid (FromInt_s hG (by omega) (by omega) h2)
  have g3 := Lib.hid (FromInt_s hG (by omega) (by omega) h3)
  have k1 := Lib.hid (Compare_v (k := 0) (w := w) sa sb hs ht (by unfold cmpI; rw [if_neg (by omega), if_neg (by omega)]))
  have ho1 : decide (a < b) = false := decide_eq_false (by omega)
  have ho2 : decide (b < a) = false := decide_eq_false (by omega)
  have d1 := Lib.hid (Div_z (w := w) (sy := t) hG sa hs (by rw [ht, hy]))
  have hy0 : (b == 0) = true := by rw [beq_iff_eq]; exact hy
  clear hs ht h1 h2 h3 sa sb hy ho
  go_enter Tryz.func10, Tryz.ntmps10
  go_wp2_with (first
    | (go_at_call 12; with_reducible refine (s0.out _ hk0).mono ?_; rintro e w' ⟨rfl, hk1⟩)
    | (go_at_call 35; with_reducible refine (f1.out _ hk1).mono ?_; rintro e w' ⟨rfl, hk2⟩)
    | (go_at_call 35; with_reducible refine (f2.out _ hk2).mono ?_; rintro e w' ⟨rfl, hk3⟩)
    | (go_at_call 31; with_reducible refine (c1.out _ hk3).mono ?_; rintro e w' ⟨rfl, hk4⟩)
    | (go_at_call 14; with_reducible refine (c2.out _ hk4).mono ?_; rintro e w' ⟨rfl, hk5⟩)
    | (go_at_call 16; with_reducible refine (c3.out _ hk5).mono ?_; rintro e w' ⟨rfl, hk6⟩)
    | (go_at_call 15; with_reducible refine (c4.out _ hk6).mono ?_; rintro e w' ⟨rfl, hk7⟩)
    | (go_at_call 35; with_reducible refine (g1.out _ hk7).mono ?_; rintro e w' ⟨rfl, hk8⟩)
    | (go_at_call 35; with_reducible refine (g2.out _ hk8).mono ?_; rintro e w' ⟨rfl, hk9⟩)
    | (go_at_call 35; with_reducible refine (g3.out _ hk9).mono ?_; rintro e w' ⟨rfl, hk10⟩)
    | (go_at_call 18; with_reducible refine (k1.out _ hk10).mono ?_; rintro e w' ⟨rfl, hk11⟩)
    | (go_at_call 17; with_reducible refine (d1.out _ hk11).mono ?_; rintro e w' ⟨rfl, hk12⟩))
  go_ret
  exact ⟨rfl, hk12⟩

set_option maxHeartbeats 8000000 in
set_option maxRecDepth 100000 in
theorem Machine_eq_p (a b : Int) (a1 : -2147483648 ≤ a) (a2 : a ≤ 2147483647) (b1 : -2147483648 ≤ b) (b2 : b ≤ 2147483647) (w : World) (hG : Glob w) (ho : a = b) (hy : b ≠ 0) (hr : 0 ≤ Int.tmod a b) :
    Calls Tryz.prog 10 #[.int .i32 a, .int .i32 b] w fun e w' => e = .returned (.bool true) ∧ Below w.heap.size w w' := by
  have hk0 := Below.refl w.heap.size w
  have s0 := Lib.hid (sane_s hG)
  obtain ⟨p1, p2⟩ := prod_bd a1 a2 b1 b2
  obtain ⟨s, hs⟩ : ∃ s, s = str a := ⟨_, rfl⟩
  obtain ⟨t, ht⟩ : ∃ t, t = str b := ⟨_, rfl⟩
  obtain ⟨u1, h1⟩ : ∃ s, s = str (a + b) := ⟨_, rfl⟩
  obtain ⟨u2, h2⟩ : ∃ s, s = str (a - b) := ⟨_, rfl⟩
  obtain ⟨u3, h3⟩ : ∃ s, s = str (a * b) := ⟨_, rfl⟩
  have sa := small_i64 (z := a) (by omega) (by omega)
  have sb := small_i64 (z := b) (by omega) (by omega)
  have f1 := Lib.hid (FromInt_s hG (by omega) (by omega) hs)
  have f2 := Lib.hid (FromInt_s hG (by omega) (by omega) ht)
  have c1 := Lib.hid (ToInt_s (w := w) sa (inInt_iff.2 (by omega)) hs)
  have c2 := Lib.hid (Add_s hG sa sb hs ht (small_i64 (by omega) (by omega)) h1)
  have c3 := Lib.hid (Sub_s hG sa sb hs ht (small_i64 (by omega) (by omega)) h2)
  have c4 := Lib.hid (Mul_s hG sa sb hs ht (small_i64 (by omega) (by omega)) h3)
  have g1 := Lib.hid (FromInt_s hG (by omega) (by omega) h1)
  have g2 := Lib.hid (FromInt_s hG (by omega) (by omega) h2)
  have g3 := Lib.hid (FromInt_s hG (by omega) (by omega) h3)
  have k1 := Lib.hid (Compare_v (k := 0) (w := w) sa sb hs ht (by unfold cmpI; rw [if_neg (by omega), if_neg (by omega)]))
  have ho1 : decide (a < b) = false := decide_eq_false (by omega)
  have ho2 : decide (b < a) = false := decide_eq_false (by omega)
  obtain ⟨sq, hsq⟩ : ∃ s, s = str (a / b) := ⟨_, rfl⟩
  obtain ⟨sr, hsr⟩ : ∃ s, s = str (a % b) := ⟨_, rfl⟩
  have d1 := Lib.hid (Div_s hG sa sb hs ht hy hsq hsr)
  have hy0 : (b == 0) = false := by rw [beq_eq_false_iff_ne]; exact hy
  have hy1 : ¬ b = 0 := hy
  obtain ⟨e1, e2⟩ := ediv_of (a := a) hy
  obtain ⟨r1, r2⟩ := tmod_bd (a := a) b1 b2 hy
  obtain ⟨q1, q2⟩ := tdiv_bd (b := b) a1 a2
  rw [if_neg (by omega)] at e1 e2
  rw [e1] at hsq
  rw [e2] at hsr
  have g4 := Lib.hid (FromInt_s hG (by omega) (by omega) hsq)
  have g5 := Lib.hid (FromInt_s hG (by omega) (by omega) hsr)
  clear hs ht h1 h2 h3 sa sb e1 e2 hsq hsr hy ho
  go_enter Tryz.func10, Tryz.ntmps10
  go_wp2_with (first
    | (go_at_call 12; with_reducible refine (s0.out _ hk0).mono ?_; rintro e w' ⟨rfl, hk1⟩)
    | (go_at_call 35; with_reducible refine (f1.out _ hk1).mono ?_; rintro e w' ⟨rfl, hk2⟩)
    | (go_at_call 35; with_reducible refine (f2.out _ hk2).mono ?_; rintro e w' ⟨rfl, hk3⟩)
    | (go_at_call 31; with_reducible refine (c1.out _ hk3).mono ?_; rintro e w' ⟨rfl, hk4⟩)
    | (go_at_call 14; with_reducible refine (c2.out _ hk4).mono ?_; rintro e w' ⟨rfl, hk5⟩)
    | (go_at_call 16; with_reducible refine (c3.out _ hk5).mono ?_; rintro e w' ⟨rfl, hk6⟩)
    | (go_at_call 15; with_reducible refine (c4.out _ hk6).mono ?_; rintro e w' ⟨rfl, hk7⟩)
    | (go_at_call 35; with_reducible refine (g1.out _ hk7).mono ?_; rintro e w' ⟨rfl, hk8⟩)
    | (go_at_call 35; with_reducible refine (g2.out _ hk8).mono ?_; rintro e w' ⟨rfl, hk9⟩)
    | (go_at_call 35; with_reducible refine (g3.out _ hk9).mono ?_; rintro e w' ⟨rfl, hk10⟩)
    | (go_at_call 18; with_reducible refine (k1.out _ hk10).mono ?_; rintro e w' ⟨rfl, hk11⟩)
    | (go_at_call 17; with_reducible refine (d1.out _ hk11).mono ?_; rintro e w' ⟨rfl, hk12⟩)
    | (go_at_call 35; with_reducible refine (g4.out _ hk12).mono ?_; rintro e w' ⟨rfl, hk13⟩)
    | (go_at_call 35; with_reducible refine (g5.out _ hk13).mono ?_; rintro e w' ⟨rfl, hk14⟩))
  go_ret
  exact ⟨rfl, hk14⟩

set_option maxHeartbeats 8000000 in
set_option maxRecDepth 100000 in
theorem Machine_gt_z (a b : Int) (a1 : -2147483648 ≤ a) (a2 : a ≤ 2147483647) (b1 : -2147483648 ≤ b) (b2 : b ≤ 2147483647) (w : World) (hG : Glob w) (ho : b < a) (hy : b = 0) :
    Calls Tryz.prog 10 #[.int .i32 a, .int .i32 b] w fun e w' => e = .returned (.bool true) ∧ Below w.heap.size w w' := by
  have hk0 := Below.refl w.heap.size w
  have s0 := Lib.hid (sane_s hG)
  obtain ⟨p1, p2⟩ := prod_bd a1 a2 b1 b2
  obtain ⟨s, hs⟩ : ∃ s, s = str a := ⟨_, rfl⟩
  obtain ⟨t, ht⟩ : ∃ t, t = str b := ⟨_, rfl⟩
  obtain ⟨u1, h1⟩ : ∃ s, s = str (a + b) := ⟨_, rfl⟩
  obtain ⟨u2, h2⟩ : ∃ s, s = str (a - b) := ⟨_, rfl⟩
  obtain ⟨u3, h3⟩ : ∃ s, s = str (a * b) := ⟨_, rfl⟩
  have sa := small_i64 (z := a) (by omega) (by omega)
  have sb := small_i64 (z := b) (by omega) (by omega)
  have f1 := Lib.hid (FromInt_s hG (by omega) (by omega) hs)
  have f2 := Lib.hid (FromInt_s hG (by omega) (by omega) ht)
  have c1 := Lib.hid (ToInt_s (w := w) sa (inInt_iff.2 (by omega)) hs)
  have c2 := Lib.hid (Add_s hG sa sb hs ht (small_i64 (by omega) (by omega)) h1)
  have c3 := Lib.hid (Sub_s hG sa sb hs ht (small_i64 (by omega) (by omega)) h2)
  have c4 := Lib.hid (Mul_s hG sa sb hs ht (small_i64 (by omega) (by omega)) h3)
  have g1 := Lib.hid (FromInt_s hG (by omega) (by omega) h1)
  have g2 := Lib.hid (FromInt_s hG (by omega) (by omega) h2)
  have g3 := Lib.hid (FromInt_s hG (by omega) (by omega) h3)
  have k1 := Lib.hid (Compare_v (k := 1) (w := w) sa sb hs ht (by unfold cmpI; rw [if_neg (by omega), if_pos ho]))
  have ho1 : decide (a < b) = false := decide_eq_false (by omega)
  have d1 := Lib.hid (Div_z (w := w) (sy := t) hG sa hs (by rw [ht, hy]))
  have hy0 : (b == 0) = true := by rw [beq_iff_eq]; exact hy
  clear hs ht h1 h2 h3 sa sb hy
  go_enter Tryz.func10, Tryz.ntmps10
  go_wp2_with (first
    | (go_at_call 12; with_reducible refine (s0.out _ hk0).mono ?_; rintro e w' ⟨rfl, hk1⟩)
    | (go_at_call 35; with_reducible refine (f1.out _ hk1).mono ?_; rintro e w' ⟨rfl, hk2⟩)
    | (go_at_call 35; with_reducible refine (f2.out _ hk2).mono ?_; rintro e w' ⟨rfl, hk3⟩)
    | (go_at_call 31; with_reducible refine (c1.out _ hk3).mono ?_; rintro e w' ⟨rfl, hk4⟩)
    | (go_at_call 14; with_reducible refine (c2.out _ hk4).mono ?_; rintro e w' ⟨rfl, hk5⟩)
    | (go_at_call 16; with_reducible refine (c3.out _ hk5).mono ?_; rintro e w' ⟨rfl, hk6⟩)
    | (go_at_call 15; with_reducible refine (c4.out _ hk6).mono ?_; rintro e w' ⟨rfl, hk7⟩)
    | (go_at_call 35; with_reducible refine (g1.out _ hk7).mono ?_; rintro e w' ⟨rfl, hk8⟩)
    | (go_at_call 35; with_reducible refine (g2.out _ hk8).mono ?_; rintro e w' ⟨rfl, hk9⟩)
    | (go_at_call 35; with_reducible refine (g3.out _ hk9).mono ?_; rintro e w' ⟨rfl, hk10⟩)
    | (go_at_call 18; with_reducible refine (k1.out _ hk10).mono ?_; rintro e w' ⟨rfl, hk11⟩)
    | (go_at_call 17; with_reducible refine (d1.out _ hk11).mono ?_; rintro e w' ⟨rfl, hk12⟩))
  go_ret
  exact ⟨rfl, hk12⟩

set_option maxHeartbeats 8000000 in
set_option maxRecDepth 100000 in
theorem Machine_gt_p (a b : Int) (a1 : -2147483648 ≤ a) (a2 : a ≤ 2147483647) (b1 : -2147483648 ≤ b) (b2 : b ≤ 2147483647) (w : World) (hG : Glob w) (ho : b < a) (hy : b ≠ 0) (hr : 0 ≤ Int.tmod a b) :
    Calls Tryz.prog 10 #[.int .i32 a, .int .i32 b] w fun e w' => e = .returned (.bool true) ∧ Below w.heap.size w w' := by
  have hk0 := Below.refl w.heap.size w
  have s0 := Lib.hid (sane_s hG)
  obtain ⟨p1, p2⟩ := prod_bd a1 a2 b1 b2
  obtain ⟨s, hs⟩ : ∃ s, s = str a := ⟨_, rfl⟩
  obtain ⟨t, ht⟩ : ∃ t, t = str b := ⟨_, rfl⟩
  obtain ⟨u1, h1⟩ : ∃ s, s = str (a + b) := ⟨_, rfl⟩
  obtain ⟨u2, h2⟩ : ∃ s, s = str (a - b) := ⟨_, rfl⟩
  obtain ⟨u3, h3⟩ : ∃ s, s = str (a * b) := ⟨_, rfl⟩
  have sa := small_i64 (z := a) (by omega) (by omega)
  have sb := small_i64 (z := b) (by omega) (by omega)
  have f1 := Lib.hid (FromInt_s hG (by omega) (by omega) hs)
  have f2 := Lib.hid (FromInt_s hG (by omega) (by omega) ht)
  have c1 := Lib.hid (ToInt_s (w := w) sa (inInt_iff.2 (by omega)) hs)
  have c2 := Lib.hid (Add_s hG sa sb hs ht (small_i64 (by omega) (by omega)) h1)
  have c3 := Lib.hid (Sub_s hG sa sb hs ht (small_i64 (by omega) (by omega)) h2)
  have c4 := Lib.hid (Mul_s hG sa sb hs ht (small_i64 (by omega) (by omega)) h3)
  have g1 := Lib.hid (FromInt_s hG (by omega) (by omega) h1)
  have g2 := Lib.hid (FromInt_s hG (by omega) (by omega) h2)
  have g3 := Lib.hid (FromInt_s hG (by omega) (by omega) h3)
  have k1 := Lib.hid (Compare_v (k := 1) (w := w) sa sb hs ht (by unfold cmpI; rw [if_neg (by omega), if_pos ho]))
  have ho1 : decide (a < b) = false := decide_eq_false (by omega)
  obtain ⟨sq, hsq⟩ : ∃ s, s = str (a / b) := ⟨_, rfl⟩
  obtain ⟨sr, hsr⟩ : ∃ s, s = str (a % b) := ⟨_, rfl⟩
  have d1 := Lib.hid (Div_s hG sa sb hs ht hy hsq hsr)
  have hy0 : (b == 0) = false := by rw [beq_eq_false_iff_ne]; exact hy
  have hy1 : ¬ b = 0 := hy
  obtain ⟨e1, e2⟩ := ediv_of (a := a) hy
  obtain ⟨r1, r2⟩ := tmod_bd (a := a) b1 b2 hy
  obtain ⟨q1, q2⟩ := tdiv_bd (b := b) a1 a2
  rw [if_neg (by omega)] at e1 e2
  rw [e1] at hsq
  rw [e2] at hsr
  have g4 := Lib.hid (FromInt_s hG (by omega) (by omega) hsq)
  have g5 := Lib.hid (FromInt_s hG (by omega) (by omega) hsr)
  clear hs ht h1 h2 h3 sa sb e1 e2 hsq hsr hy
  go_enter Tryz.func10, Tryz.ntmps10
  go_wp2_with (first
    | (go_at_call 12; with_reducible refine (s0.out _ hk0).mono ?_; rintro e w' ⟨rfl, hk1⟩)
    | (go_at_call 35; with_reducible refine (f1.out _ hk1).mono ?_; rintro e w' ⟨rfl, hk2⟩)
    | (go_at_call 35; with_reducible refine (f2.out _ hk2).mono ?_; rintro e w' ⟨rfl, hk3⟩)
    | (go_at_call 31; with_reducible refine (c1.out _ hk3).mono ?_; rintro e w' ⟨rfl, hk4⟩)
    | (go_at_call 14; with_reducible refine (c2.out _ hk4).mono ?_; rintro e w' ⟨rfl, hk5⟩)
    | (go_at_call 16; with_reducible refine (c3.out _ hk5).mono ?_; rintro e w' ⟨rfl, hk6⟩)
    | (go_at_call 15; with_reducible refine (c4.out _ hk6).mono ?_; rintro e w' ⟨rfl, hk7⟩)
    | (go_at_call 35; with_reducible refine (g1.out _ hk7).mono ?_; rintro e w' ⟨rfl, hk8⟩)
    | (go_at_call 35; with_reducible refine (g2.out _ hk8).mono ?_; rintro e w' ⟨rfl, hk9⟩)
    | (go_at_call 35; with_reducible refine (g3.out _ hk9).mono ?_; rintro e w' ⟨rfl, hk10⟩)
    | (go_at_call 18; with_reducible refine (k1.out _ hk10).mono ?_; rintro e w' ⟨rfl, hk11⟩)
    | (go_at_call 17; with_reducible refine (d1.out _ hk11).mono ?_; rintro e w' ⟨rfl, hk12⟩)
    | (go_at_call 35; with_reducible refine (g4.out _ hk12).mono ?_; rintro e w' ⟨rfl, hk13⟩)
    | (go_at_call 35; with_reducible refine (g5.out _ hk13).mono ?_; rintro e w' ⟨rfl, hk14⟩))
  go_ret
  exact ⟨rfl, hk14⟩

set_option maxHeartbeats 8000000 in
set_option maxRecDepth 100000 in
theorem Machine_gt_nn (a b : Int) (a1 : -2147483648 ≤ a) (a2 : a ≤ 2147483647) (b1 : -2147483648 ≤ b) (b2 : b ≤ 2147483647) (w : World) (hG : Glob w) (ho : b < a) (hy : b ≠ 0) (hr : Int.tmod a b < 0) (hp : b < 0) :
    Calls Tryz.prog 10 #[.int .i32 a, .int .i32 b] w fun e w' => e = .returned (.bool true) ∧ Below w.heap.size w w' := by
  have hk0 := Below.refl w.heap.size w
  have s0 := Lib.hid (sane_s hG)
  obtain ⟨p1, p2⟩ := prod_bd a1 a2 b1 b2
  obtain ⟨s, hs⟩ : ∃ s, s = str a := ⟨_, rfl⟩
  obtain ⟨t, ht⟩ : ∃ t, t = str b := ⟨_, rfl⟩
  obtain ⟨u1, h1⟩ : ∃ s, s = str (a + b) := ⟨_, rfl⟩
  obtain ⟨u2, h2⟩ : ∃ s, s = str (a - b) := ⟨_, rfl⟩
  obtain ⟨u3, h3⟩ : ∃ s, s = str (a * b) := ⟨_, rfl⟩
  have sa := small_i64 (z := a) (by omega) (by omega)
  have sb := small_i64 (z := b) (by omega) (by omega)
  have f1 := Lib.hid (FromInt_s hG (by omega) (by omega) hs)
  have f2 := Lib.hid (FromInt_s hG (by omega) (by omega) ht)
  have c1 := Lib.hid (ToInt_s (w := w) sa (inInt_iff.2 (by omega)) hs)
  have c2 := Lib.hid (Add_s hG sa sb hs ht (small_i64 (by omega) (by omega)) h1)
  have c3 := Lib.hid (Sub_s hG sa sb hs ht (small_i64 (by omega) (by omega)) h2)
  have c4 := Lib.hid (Mul_s hG sa sb hs ht (small_i64 (by omega) (by omega)) h3)
  have g1 := Lib.hid (FromInt_s hG (by omega) (by omega) h1)
  have g2 := Lib.hid (FromInt_s hG (by omega) (by omega) h2)
  have g3 := Lib.hid (FromInt_s hG (by omega) (by omega) h3)
  have k1 := Lib.hid (Compare_v (k := 1) (w := w) sa sb hs ht (by unfold cmpI; rw [if_neg (by omega), if_pos ho]))
  have ho1 : decide (a < b) = false := decide_eq_false (by omega)
  obtain ⟨sq, hsq⟩ : ∃ s, s = str (a / b) := ⟨_, rfl⟩
  obtain ⟨sr, hsr⟩ : ∃ s, s = str (a % b) := ⟨_, rfl⟩
  have d1 := Lib.hid (Div_s hG sa sb hs ht hy hsq hsr)
  have hy0 : (b == 0) = false := by rw [beq_eq_false_iff_ne]; exact hy
  have hy1 : ¬ b = 0 := hy
  obtain ⟨e1, e2⟩ := ediv_of (a := a) hy
  obtain ⟨r1, r2⟩ := tmod_bd (a := a) b1 b2 hy
  obtain ⟨q1, q2⟩ := tdiv_bd (b := b) a1 a2
  rw [if_pos hr, if_neg (by omega)] at e1 e2
  rw [e1] at hsq
  rw [e2] at hsr
  have g4 := Lib.hid (FromInt_s hG (by omega) (by omega) hsq)
  have g5 := Lib.hid (FromInt_s hG (by omega) (by omega) hsr)
  clear hs ht h1 h2 h3 sa sb e1 e2 hsq hsr hy
  go_enter Tryz.func10, Tryz.ntmps10
  go_wp2_with (first
    | (go_at_call 12; with_reducible refine (s0.out _ hk0).mono ?_; rintro e w' ⟨rfl, hk1⟩)
    | (go_at_call 35; with_reducible refine (f1.out _ hk1).mono ?_; rintro e w' ⟨rfl, hk2⟩)
    | (go_at_call 35; with_reducible refine (f2.out _ hk2).mono ?_; rintro e w' ⟨rfl, hk3⟩)
    | (go_at_call 31; with_reducible refine (c1.out _ hk3).mono ?_; rintro e w' ⟨rfl, hk4⟩)
    | (go_at_call 14; with_reducible refine (c2.out _ hk4).mono ?_; rintro e w' ⟨rfl, hk5⟩)
    | (go_at_call 16; with_reducible refine (c3.out _ hk5).mono ?_; rintro e w' ⟨rfl, hk6⟩)
    | (go_at_call 15; with_reducible refine (c4.out _ hk6).mono ?_; rintro e w' ⟨rfl, hk7⟩)
    | (go_at_call 35; with_reducible refine (g1.out _ hk7).mono ?_; rintro e w' ⟨rfl, hk8⟩)
    | (go_at_call 35; with_reducible refine (g2.out _ hk8).mono ?_; rintro e w' ⟨rfl, hk9⟩)
    | (go_at_call 35; with_reducible refine (g3.out _ hk9).mono ?_; rintro e w' ⟨rfl, hk10⟩)
    | (go_at_call 18; with_reducible refine (k1.out _ hk10).mono ?_; rintro e w' ⟨rfl, hk11⟩)
    | (go_at_call 17; with_reducible refine (d1.out _ hk11).mono ?_; rintro e w' ⟨rfl, hk12⟩)
    | (go_at_call 35; with_reducible refine (g4.out _ hk12).mono ?_; rintro e w' ⟨rfl, hk13⟩)
    | (go_at_call 35; with_reducible refine (g5.out _ hk13).mono ?_; rintro e w' ⟨rfl, hk14⟩))
  go_ret
  exact ⟨rfl, hk14⟩

theorem IntegerMachine_law (a b : Int) (ha : -2147483648 ≤ a ∧ a ≤ 2147483647) (hb : -2147483648 ≤ b ∧ b ≤ 2147483647) (w : World) (hG : Glob w) :
    Calls Tryz.prog 10 #[.int .i32 a, .int .i32 b] w fun e w' => e = .returned (.bool true) ∧ Below w.heap.size w w' := by
  obtain ⟨a1, a2⟩ := ha
  obtain ⟨b1, b2⟩ := hb
  by_cases hy : b = 0
  · rcases Int.lt_trichotomy a b with ho | ho | ho
    · exact Machine_lt_z a b a1 a2 b1 b2 w hG ho hy
    · exact Machine_eq_z a b a1 a2 b1 b2 w hG ho hy
    · exact Machine_gt_z a b a1 a2 b1 b2 w hG ho hy
  · by_cases hr : 0 ≤ Int.tmod a b
    · rcases Int.lt_trichotomy a b with ho | ho | ho
      · exact Machine_lt_p a b a1 a2 b1 b2 w hG ho hy hr
      · exact Machine_eq_p a b a1 a2 b1 b2 w hG ho hy hr
      · exact Machine_gt_p a b a1 a2 b1 b2 w hG ho hy hr
    · by_cases hp : 0 < b
      · rcases Int.lt_trichotomy a b with ho | ho | ho
        · exact Machine_lt_np a b a1 a2 b1 b2 w hG ho hy (by omega) hp
        · exfalso; subst ho; rw [Int.tmod_self] at hr; omega
        · exfalso
          have := Int.tmod_nonneg b (show 0 ≤ a by omega)
          omega
      · rcases Int.lt_trichotomy a b with ho | ho | ho
        · exact Machine_lt_nn a b a1 a2 b1 b2 w hG ho hy (by omega) (by omega)
        · exfalso; subst ho; rw [Int.tmod_self] at hr; omega
        · exact Machine_gt_nn a b a1 a2 b1 b2 w hG ho hy (by omega) (by omega)
end Go.Proofs.YtiefodlhnpondaaGreatDoor
