/-
  The functions that package integer exports, second part: at texts that are not valid, and Compare, Div, Gcd at valid ones.
-/
import Derived.Test.YtiefodlhnpondaaGreatDoorOut
namespace Go.Proofs.YtiefodlhnpondaaGreatDoor
open Go.RowKit Go.Shelf
attribute [local go_sem] Oper.semAt_some

theorem cmp_sign {x y : Int} {n1 n2 b1 b2 : Bool} {m1 m2 : Nat} (h1 : n1 = decide (x < 0) ∧ m1 = x.natAbs) (h2 : n2 = decide (y < 0) ∧ m2 = y.natAbs) (k1 : n1 = b1) (k2 : n2 = b2) :
    (if b1 = true then (if b2 = true then cmpI m2 m1 else -1) else if b2 = true then 1 else cmpI m1 m2) = cmpI x y := by
  obtain ⟨h1, rfl⟩ := h1
  obtain ⟨h2, rfl⟩ := h2
  subst k1 k2
  unfold cmpI
  by_cases e1 : x < 0 <;> by_cases e2 : y < 0
  · have f1 : n1 = true := by rw [h1]; exact decide_eq_true e1
    have f2 : n2 = true := by rw [h2]; exact decide_eq_true e2
    rw [if_pos f1, if_pos f2]
    rcases Int.lt_trichotomy x y with h | h | h
    · rw [if_pos h, if_pos (by omega)]
    · rw [if_neg (by omega), if_neg (by omega), if_neg (by omega), if_neg (by omega)]
    · rw [if_neg (by omega), if_pos (by omega), if_neg (by omega), if_pos (by omega)]
  · have f1 : n1 = true := by rw [h1]; exact decide_eq_true e1
    have f2 : n2 = false := by rw [h2]; exact decide_eq_false e2
    rw [if_pos f1, if_neg (by rw [f2]; simp), if_pos (by omega)]
  · have f1 : n1 = false := by rw [h1]; exact decide_eq_false e1
    have f2 : n2 = true := by rw [h2]; exact decide_eq_true e2
    rw [if_neg (by rw [f1]; simp), if_pos f2, if_neg (by omega), if_pos (by omega)]
  · have f1 : n1 = false := by rw [h1]; exact decide_eq_false e1
    have f2 : n2 = false := by rw [h2]; exact decide_eq_false e2
    rw [if_neg (by rw [f1]; simp), if_neg (by rw [f2]; simp)]
    rcases Int.lt_trichotomy x y with h | h | h
    · rw [if_pos h, if_pos (by omega)]
    · rw [if_neg (by omega), if_neg (by omega), if_neg (by omega), if_neg (by omega)]
    · rw [if_neg (by omega), if_pos (by omega), if_neg (by omega), if_pos (by omega)]

set_option maxHeartbeats 4000000 in
set_option maxRecDepth 100000 in
theorem Add_no (a b : ByteArray) (w : World) (ha : a.size ≤ 9223372036854775807) (hb : b.size ≤ 9223372036854775807) (hn : (validL a.data.toList && validL b.data.toList) = false) :
    Calls Tryz.prog 14 #[.string a, .string b] w fun e w' => e = .returned (.tuple #[.string ⟨#[]⟩, .int .i64 30]) ∧ Below w.heap.size w w' := by
  have hB := fun W => both_no a b W ha hb hn
  go_enter Tryz.func14, Tryz.ntmps14
  go_wp2_with (go_at_call 38; with_reducible refine (hB _).mono ?_; rintro e w1 ⟨rfl, hb1⟩)
  refine bodyPost_ret (v := .tuple #[.string ⟨#[]⟩, .int .i64 30]) ?_ rfl ⟨rfl, hb1.trans ((B2 w1 _ _).mono hb1.size)⟩
  simp [results, Tryz.results14, go_sem]

set_option maxHeartbeats 4000000 in
set_option maxRecDepth 100000 in
theorem Sub_no (a b : ByteArray) (w : World) (ha : a.size ≤ 9223372036854775807) (hb : b.size ≤ 9223372036854775807) (hn : (validL a.data.toList && validL b.data.toList) = false) :
    Calls Tryz.prog 16 #[.string a, .string b] w fun e w' => e = .returned (.tuple #[.string ⟨#[]⟩, .int .i64 30]) ∧ Below w.heap.size w w' := by
  have hB := fun W => both_no a b W ha hb hn
  go_enter Tryz.func16, Tryz.ntmps16
  go_wp2_with (go_at_call 38; with_reducible refine (hB _).mono ?_; rintro e w1 ⟨rfl, hb1⟩)
  refine bodyPost_ret (v := .tuple #[.string ⟨#[]⟩, .int .i64 30]) ?_ rfl ⟨rfl, hb1.trans ((B2 w1 _ _).mono hb1.size)⟩
  simp [results, Tryz.results16, go_sem]

set_option maxHeartbeats 4000000 in
set_option maxRecDepth 100000 in
theorem Mul_no (a b : ByteArray) (w : World) (ha : a.size ≤ 9223372036854775807) (hb : b.size ≤ 9223372036854775807) (hn : (validL a.data.toList && validL b.data.toList) = false) :
    Calls Tryz.prog 15 #[.string a, .string b] w fun e w' => e = .returned (.tuple #[.string ⟨#[]⟩, .int .i64 30]) ∧ Below w.heap.size w w' := by
  have hB := fun W => both_no a b W ha hb hn
  go_enter Tryz.func15, Tryz.ntmps15
  go_wp2_with (go_at_call 38; with_reducible refine (hB _).mono ?_; rintro e w1 ⟨rfl, hb1⟩)
  refine bodyPost_ret (v := .tuple #[.string ⟨#[]⟩, .int .i64 30]) ?_ rfl ⟨rfl, hb1.trans ((B2 w1 _ _).mono hb1.size)⟩
  simp [results, Tryz.results15, go_sem]

set_option maxHeartbeats 4000000 in
set_option maxRecDepth 100000 in
theorem Gcd_no (a b : ByteArray) (w : World) (ha : a.size ≤ 9223372036854775807) (hb : b.size ≤ 9223372036854775807) (hn : (validL a.data.toList && validL b.data.toList) = false) :
    Calls Tryz.prog 20 #[.string a, .string b] w fun e w' => e = .returned (.tuple #[.string ⟨#[]⟩, .int .i64 30]) ∧ Below w.heap.size w w' := by
  have hB := fun W => both_no a b W ha hb hn
  go_enter Tryz.func20, Tryz.ntmps20
  go_wp2_with (go_at_call 38; with_reducible refine (hB _).mono ?_; rintro e w1 ⟨rfl, hb1⟩)
  refine bodyPost_ret (v := .tuple #[.string ⟨#[]⟩, .int .i64 30]) ?_ rfl ⟨rfl, hb1.trans ((B2 w1 _ _).mono hb1.size)⟩
  simp [results, Tryz.results20, go_sem]

set_option maxHeartbeats 4000000 in
set_option maxRecDepth 100000 in
theorem Div_no (a b : ByteArray) (w : World) (ha : a.size ≤ 9223372036854775807) (hb : b.size ≤ 9223372036854775807) (hn : (validL a.data.toList && validL b.data.toList) = false) :
    Calls Tryz.prog 17 #[.string a, .string b] w fun e w' => e = .returned (.tuple #[.string ⟨#[]⟩, .string ⟨#[]⟩, .int .i64 30]) ∧ Below w.heap.size w w' := by
  have hB := fun W => both_no a b W ha hb hn
  go_enter Tryz.func17, Tryz.ntmps17
  go_wp2_with (go_at_call 38; with_reducible refine (hB _).mono ?_; rintro e w1 ⟨rfl, hb1⟩)
  refine bodyPost_ret (v := .tuple #[.string ⟨#[]⟩, .string ⟨#[]⟩, .int .i64 30]) ?_ rfl ⟨rfl, hb1.trans ((B2 w1 _ _).mono hb1.size)⟩
  simp [results, Tryz.results17, go_sem]

set_option maxHeartbeats 4000000 in
set_option maxRecDepth 100000 in
theorem Compare_no (a b : ByteArray) (w : World) (ha : a.size ≤ 9223372036854775807) (hb : b.size ≤ 9223372036854775807) (hn : (validL a.data.toList && validL b.data.toList) = false) :
    Calls Tryz.prog 18 #[.string a, .string b] w fun e w' => e = .returned (.int .i64 0) ∧ Below w.heap.size w w' := by
  have hB := fun W => both_no a b W ha hb hn
  go_enter Tryz.func18, Tryz.ntmps18
  go_wp2_with (go_at_call 38; with_reducible refine (hB _).mono ?_; rintro e w1 ⟨rfl, hb1⟩)
  refine bodyPost_ret (v := .int .i64 0) ?_ rfl ⟨rfl, hb1.trans ((B2 w1 _ _).mono hb1.size)⟩
  simp [results, Tryz.results18, go_sem]

set_option maxHeartbeats 8000000 in
set_option maxRecDepth 100000 in
theorem Compare_ok (x y : Int) (w : World) (hx : small x = true) (hy : small y = true) :
    Calls Tryz.prog 18 #[.string (str x), .string (str y)] w fun e w' => e = .returned (.int .i64 (cmpI x y)) ∧ Below w.heap.size w w' := by
  have hB := fun W => both_ok x y W (by simpa [small] using hx) (by simpa [small] using hy)
  generalize str x = sx at hB ⊢
  generalize str y = sy at hB ⊢
  go_enter Tryz.func18, Tryz.ntmps18
  go_wp2_with (first
    | (go_at_call 38; with_reducible refine (hB _).mono ?_; rintro e w1 ⟨⟨va, vb, rfl, ha, hb⟩, hb1⟩; obtain ⟨n1, m1, a1, c1, rfl, hna, hza⟩ := ha.form; obtain ⟨n2, m2, a2, c2, rfl, hnb, hzb⟩ := hb.form; have HA := Lib.hid ha.zg; have HB := Lib.hid hb.zg; have HNA := Lib.hid hna; have HNB := Lib.hid hnb; have HZA := Lib.hid (zs_eq hza); have HZB := Lib.hid (zs_eq hzb); have HSA := Lib.hid hza; have HSB := Lib.hid hzb; clear ha hb hna hnb hza hzb)
    | (go_at_call 46; refine (compare_any _ _ m1 m2 _ _ _ _ _ (by exact HNA.out.below (B2 w1 _ _) (Nat.le_refl _)) (by exact HNB.out.below (B2 w1 _ _) (Nat.le_refl _)) (by exact (B2 w1 _ _).size) (by exact (B2 w1 _ _).size)).mono ?_; rintro e w2 ⟨rfl, hb2⟩)
    | (go_at_call 46; refine (compare_any _ _ m2 m1 _ _ _ _ _ (by exact HNB.out.below (B2 w1 _ _) (Nat.le_refl _)) (by exact HNA.out.below (B2 w1 _ _) (Nat.le_refl _)) (by exact (B2 w1 _ _).size) (by exact (B2 w1 _ _).size)).mono ?_; rintro e w2 ⟨rfl, hb2⟩))
  all_goals
    have hc := cmp_sign (b1 := true) (b2 := true) HSA.out HSB.out
    have hc2 := cmp_sign (b1 := true) (b2 := false) HSA.out HSB.out
    have hc3 := cmp_sign (b1 := false) (b2 := true) HSA.out HSB.out
    have hc4 := cmp_sign (b1 := false) (b2 := false) HSA.out HSB.out
  · refine bodyPost_ret (v := .int .i64 (cmpI m2 m1)) (by simp [results, Tryz.results18, go_sem]) rfl ⟨ret_int (by simpa using hc (by first | assumption | (cases n1 <;> simp_all; done)) (by assumption)), hb1.trans (((B2 w1 _ _).trans (hb2.mono (B2 w1 _ _).size)).mono hb1.size)⟩
  · refine bodyPost_ret (v := .int .i64 (-1)) (by simp [results, Tryz.results18, go_sem]) rfl ⟨ret_int (by simpa using hc2 (by first | assumption | (cases n1 <;> simp_all; done)) (by assumption)), hb1.trans ((B2 w1 _ _).mono hb1.size)⟩
  · refine bodyPost_ret (v := .int .i64 1) (by simp [results, Tryz.results18, go_sem]) rfl ⟨ret_int (by simpa using hc3 (by first | assumption | (cases n1 <;> simp_all; done)) (by assumption)), hb1.trans ((B2 w1 _ _).mono hb1.size)⟩
  · refine bodyPost_ret (v := .int .i64 (cmpI m1 m2)) (by simp [results, Tryz.results18, go_sem]) rfl ⟨ret_int (by simpa using hc4 (by first | assumption | (cases n1 <;> simp_all; done)) (by assumption)), hb1.trans (((B2 w1 _ _).trans (hb2.mono (B2 w1 _ _).size)).mono hb1.size)⟩
end Go.Proofs.YtiefodlhnpondaaGreatDoor
