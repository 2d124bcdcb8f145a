/-
  Plain facts on the square of the distance of a place from a segment. No code of the program is named here.
  Package plane: the square of the distance of a place from a segment.
-/
import Derived.Test.YtgngepbemgbbeaaGreatDoorZNum
import Derived.Test.YtgngepbemgbbeaaGreatDoorZLimQP
import Derived.Test.YtgngepbemgbbeaaGreatDoorZPl1
import Derived.Test.YtgngepbemgbbeaaGreatDoorZPl6
namespace Go.Proofs.YtgngepbemgbbeaaGreatDoor

def sqP (a b : Pl) : Int := (a.x - b.x) * (a.x - b.x) + (a.y - b.y) * (a.y - b.y)
def alP (p a b : Pl) : Int := (p.x - a.x) * (b.x - a.x) + (p.y - a.y) * (b.y - a.y)
def dNum (p a b : Pl) : Int := if alP p a b ≤ 0 then sqP p a else if sqP a b ≤ alP p a b then sqP p b else turnP a b p * turnP a b p
def dDen (p a b : Pl) : Int := if alP p a b ≤ 0 then 1 else if sqP a b ≤ alP p a b then 1 else sqP a b
def dRat (p a b : Pl) : Rat := Rat.divInt (dNum p a b) (dDen p a b)
theorem sq_self (x : Int) : 0 ≤ x * x := by
  rcases Int.le_total 0 x with h | h
  · exact Int.mul_nonneg h h
  · have := Int.mul_nonneg (a := -x) (b := -x) (by omega) (by omega)
    rwa [Int.neg_mul_neg] at this
theorem sq_pos {x : Int} (h : x ≠ 0) : 0 < x * x := by
  rcases Int.lt_or_gt_of_ne h with h | h
  · have := Int.mul_pos (a := -x) (b := -x) (by omega) (by omega)
    rwa [Int.neg_mul_neg] at this
  · exact Int.mul_pos h h
theorem sqP_nonneg (a b : Pl) : 0 ≤ sqP a b := by
  have := sq_self (a.x - b.x)
  have := sq_self (a.y - b.y)
  unfold sqP
  omega
theorem sqP_comm (a b : Pl) : sqP a b = sqP b a := by unfold sqP; grind
theorem sqP_zero {a b : Pl} (h : sqP a b = 0) : a = b := by
  have h1 := sq_self (a.x - b.x)
  have h2 := sq_self (a.y - b.y)
  unfold sqP at h
  have e1 : a.x = b.x := by
    apply Classical.byContradiction
    intro hn
    have := sq_pos (x := a.x - b.x) (by omega)
    omega
  have e2 : a.y = b.y := by
    apply Classical.byContradiction
    intro hn
    have := sq_pos (x := a.y - b.y) (by omega)
    omega
  cases a
  cases b
  simp_all
theorem sqP_self (a : Pl) : sqP a a = 0 := by unfold sqP; simp
theorem al_back (p a b : Pl) : alP p b a = sqP a b - alP p a b := by unfold alP sqP; grind
theorem dDen_pos (p a b : Pl) : 0 < dDen p a b := by
  unfold dDen
  have := sqP_nonneg a b
  split
  · decide
  · split
    · decide
    · omega
theorem dNum_nonneg (p a b : Pl) : 0 ≤ dNum p a b := by
  unfold dNum
  split
  · exact sqP_nonneg _ _
  · split
    · exact sqP_nonneg _ _
    · exact sq_self _
theorem d_back (p a b : Pl) : dNum p b a = dNum p a b ∧ dDen p b a = dDen p a b := by
  have h1 := al_back p a b
  have h2 := sqP_comm b a
  have h3 := sqP_nonneg a b
  have h4 := turn_swap a b p
  unfold dNum dDen
  rw [h1, h2, h4, Int.neg_mul_neg]
  by_cases c1 : alP p a b ≤ 0
  · by_cases c2 : sqP a b = 0
    · obtain rfl := sqP_zero c2
      constructor <;> (repeat' split) <;> first | rfl | omega
    · rw [if_neg (by omega), if_pos (by omega), if_pos c1, if_neg (by omega), if_pos (by omega), if_pos c1]
      exact ⟨rfl, rfl⟩
  · by_cases c2 : sqP a b ≤ alP p a b
    · rw [if_pos (by omega), if_neg c1, if_pos c2, if_pos (by omega), if_neg c1, if_pos c2]
      exact ⟨rfl, rfl⟩
    · rw [if_neg (by omega), if_neg (by omega), if_neg c1, if_neg c2, if_neg (by omega), if_neg (by omega), if_neg c1, if_neg c2]
      exact ⟨rfl, rfl⟩
theorem d_mv (p a b : Pl) (dx dy : Int) : dNum (p.mv dx dy) (a.mv dx dy) (b.mv dx dy) = dNum p a b ∧ dDen (p.mv dx dy) (a.mv dx dy) (b.mv dx dy) = dDen p a b := by
  have h1 : ∀ u v : Pl, sqP (u.mv dx dy) (v.mv dx dy) = sqP u v := fun u v => by unfold sqP Pl.mv; grind
  have h2 : alP (p.mv dx dy) (a.mv dx dy) (b.mv dx dy) = alP p a b := by unfold alP Pl.mv; grind
  unfold dNum dDen
  rw [h1, h1, h1, h2, turn_mv]
  exact ⟨rfl, rfl⟩
theorem al_same (p a : Pl) : alP p a a = 0 := by unfold alP; simp
theorem d_same (p a : Pl) : dNum p a a = sqP p a ∧ dDen p a a = 1 := by
  unfold dNum dDen
  rw [al_same, if_pos (Int.le_refl 0), if_pos (Int.le_refl 0)]
  exact ⟨rfl, rfl⟩
theorem lagrange (p a b : Pl) : turnP a b p * turnP a b p = sqP p a * sqP a b - alP p a b * alP p a b := by unfold turnP sqP alP; grind
theorem sq_diff (p a b : Pl) : sqP p b = sqP p a - 2 * alP p a b + sqP a b := by unfold sqP alP; grind
/-- It is at most the square of the distance from an end. -/
theorem d_le (p a b : Pl) : dNum p a b ≤ sqP p a * dDen p a b := by
  have h1 := lagrange p a b
  have h2 := sq_diff p a b
  have h3 := sqP_nonneg a b
  have h4 := sq_self (alP p a b)
  unfold dNum dDen
  split
  · omega
  · split
    · omega
    · omega
theorem d_le2 (p a b : Pl) : dNum p a b ≤ sqP p b * dDen p a b := by
  have h := d_le p b a
  obtain ⟨e1, e2⟩ := d_back p a b
  rwa [e1, e2] at h
theorem on_x (p a b : Pl) : (p.x - a.x) * sqP a b - alP p a b * (b.x - a.x) = turnP a b p * (a.y - b.y) := by unfold turnP sqP alP; grind
theorem on_y (p a b : Pl) : (p.y - a.y) * sqP a b - alP p a b * (b.y - a.y) = turnP a b p * (b.x - a.x) := by unfold turnP sqP alP; grind
theorem ovl_pp {p a b : Int} : ovl p p a b = true ↔ min a b ≤ p ∧ p ≤ max a b := by
  unfold ovl
  rw [decide_eq_true_iff]
  omega
theorem between {q D A L : Int} (hA : 0 < A) (hL : A < L) (e : q * L = A * D) : (0 ≤ D ∧ 0 ≤ q ∧ q ≤ D) ∨ (D ≤ 0 ∧ D ≤ q ∧ q ≤ 0) := by
  have hL0 : 0 < L := by omega
  rcases Int.le_total 0 D with h | h
  · left
    have h1 : 0 ≤ A * D := Int.mul_nonneg (by omega) h
    have h2 : A * D ≤ L * D := Int.mul_le_mul_of_nonneg_right (by omega) h
    refine ⟨h, ?_, ?_⟩
    · refine Int.le_of_mul_le_mul_right (a := L) (b := 0) (c := q) ?_ hL0
      rw [Int.zero_mul, e]
      exact h1
    · refine Int.le_of_mul_le_mul_right (a := L) (b := q) (c := D) ?_ hL0
      rw [e, Int.mul_comm D L]
      exact h2
  · right
    have h1 : A * D ≤ 0 := by
      have := Int.mul_nonneg (a := A) (b := -D) (by omega) (by omega)
      rw [Int.mul_neg] at this
      omega
    have h2 : L * D ≤ A * D := by
      have := Int.mul_le_mul_of_nonneg_right (a := A) (b := L) (c := -D) (by omega) (by omega)
      rw [Int.mul_neg, Int.mul_neg] at this
      omega
    refine ⟨h, ?_, ?_⟩
    · refine Int.le_of_mul_le_mul_right (a := L) (b := D) (c := q) ?_ hL0
      rw [e, Int.mul_comm D L]
      exact h2
    · refine Int.le_of_mul_le_mul_right (a := L) (b := q) (c := 0) ?_ hL0
      rw [Int.zero_mul, e]
      exact h1
theorem prod_in {p a b : Int} (h1 : min a b ≤ p) (h2 : p ≤ max a b) : 0 ≤ (p - a) * (b - a) := by
  rcases Int.le_total a b with h | h
  · exact Int.mul_nonneg (by omega) (by omega)
  · have := Int.mul_nonneg (a := a - p) (b := a - b) (by omega) (by omega)
    have e : (a - p) * (a - b) = (p - a) * (b - a) := by grind
    omega
theorem prod_zero {p a b : Int} (h1 : min a b ≤ p) (h2 : p ≤ max a b) (h : (p - a) * (b - a) = 0) : p = a := by
  rcases Int.mul_eq_zero.1 h with h | h <;> omega
/-- In the box of a segment, on its line, and not ahead of its beginning: that is the beginning. -/
theorem at_end {p a b : Pl} (hx : min a.x b.x ≤ p.x ∧ p.x ≤ max a.x b.x) (hy : min a.y b.y ≤ p.y ∧ p.y ≤ max a.y b.y) (h : alP p a b ≤ 0) : p = a := by
  have h1 := prod_in hx.1 hx.2
  have h2 := prod_in hy.1 hy.2
  unfold alP at h
  have e1 := prod_zero hx.1 hx.2 (by omega)
  have e2 := prod_zero hy.1 hy.2 (by omega)
  cases p
  cases a
  simp_all
/-- The distance is 0 exactly if the place is on the segment. -/
theorem d_zero (p a b : Pl) : dNum p a b = 0 ↔ (min a.x b.x ≤ p.x ∧ p.x ≤ max a.x b.x) ∧ (min a.y b.y ≤ p.y ∧ p.y ≤ max a.y b.y) ∧ turnP a b p = 0 := by
  by_cases c1 : alP p a b ≤ 0
  · have e : dNum p a b = sqP p a := by unfold dNum; rw [if_pos c1]
    rw [e]
    constructor
    · intro h
      obtain rfl := sqP_zero h
      exact ⟨by omega, by omega, by unfold turnP; grind⟩
    · rintro ⟨hx, hy, _⟩
      rw [at_end hx hy c1]
      exact sqP_self _
  · by_cases c2 : sqP a b ≤ alP p a b
    · have e : dNum p a b = sqP p b := by unfold dNum; rw [if_neg c1, if_pos c2]
      rw [e]
      constructor
      · intro h
        obtain rfl := sqP_zero h
        exact ⟨by omega, by omega, by unfold turnP; grind⟩
      · rintro ⟨hx, hy, _⟩
        have := al_back p a b
        rw [at_end (p := p) (a := b) (b := a) ⟨by omega, by omega⟩ ⟨by omega, by omega⟩ (by omega)]
        exact sqP_self _
    · have e : dNum p a b = turnP a b p * turnP a b p := by unfold dNum; rw [if_neg c1, if_neg c2]
      rw [e]
      constructor
      · intro h
        have ht : turnP a b p = 0 := by rcases Int.mul_eq_zero.1 h with h | h <;> exact h
        have ex := on_x p a b
        have ey := on_y p a b
        rw [ht, Int.zero_mul] at ex ey
        have bx := between (q := p.x - a.x) (D := b.x - a.x) (A := alP p a b) (L := sqP a b) (by omega) (by omega) (by omega)
        have bY := between (q := p.y - a.y) (D := b.y - a.y) (A := alP p a b) (L := sqP a b) (by omega) (by omega) (by omega)
        exact ⟨by omega, by omega, ht⟩
      · rintro ⟨_, _, ht⟩
        rw [ht]
        rfl
theorem cross_pp {p a b : Pl} (hp : vP p = true) (ha : vP a = true) (hb : vP b = true) : crossP p p a b = decide (dNum p a b = 0) := by
  rw [Bool.eq_iff_iff, decide_eq_true_iff, d_zero]
  unfold crossP
  rw [side_aab, hp, ha, hb, Int.zero_mul, side_valid (by simp [hp, ha, hb])]
  simp only [Bool.and_eq_true, ovl_pp, decide_eq_true_eq, Bool.true_and]
  rcases cmpI_sign (turnP a b p) with ⟨h, e⟩ | ⟨h, e⟩ | ⟨h, e⟩ <;> rw [e] <;> simp <;> omega
end Go.Proofs.YtgngepbemgbbeaaGreatDoor

namespace Go.Proofs.YtgngepbemgbbeaaGreatDoor
open Go.RowKit Go.Shelf
attribute [local go_sem] Oper.semAt_some

theorem prod_big {u v : Int} (hu : -40000000 ≤ u ∧ u ≤ 40000000) (hv : -40000000 ≤ v ∧ v ≤ 40000000) : -1600000000000000 ≤ u * v ∧ u * v ≤ 1600000000000000 := by
  have h : (u * v).natAbs ≤ 40000000 * 40000000 := by
    rw [Int.natAbs_mul]
    exact Nat.mul_le_mul (by omega) (by omega)
  omega
theorem sqP_b {a b : Pl} (ha : vP a = true) (hb : vP b = true) : 0 ≤ sqP a b ∧ sqP a b ≤ 33538050 := by
  obtain ⟨⟨a1, a2⟩, a3, a4⟩ := vP_b ha
  obtain ⟨⟨b1, b2⟩, b3, b4⟩ := vP_b hb
  have p1 := prod_bd (u := a.x - b.x) (v := a.x - b.x) (by omega) (by omega)
  have p2 := prod_bd (u := a.y - b.y) (v := a.y - b.y) (by omega) (by omega)
  refine ⟨sqP_nonneg a b, ?_⟩
  unfold sqP
  omega
theorem turn_b {a b c : Pl} (ha : vP a = true) (hb : vP b = true) (hc : vP c = true) : -33538050 ≤ turnP a b c ∧ turnP a b c ≤ 33538050 := by
  obtain ⟨⟨a1, a2⟩, a3, a4⟩ := vP_b ha
  obtain ⟨⟨b1, b2⟩, b3, b4⟩ := vP_b hb
  obtain ⟨⟨c1, c2⟩, c3, c4⟩ := vP_b hc
  have p1 := prod_bd (u := b.x - a.x) (v := c.y - a.y) (by omega) (by omega)
  have p2 := prod_bd (u := b.y - a.y) (v := c.x - a.x) (by omega) (by omega)
  unfold turnP
  omega
set_option maxHeartbeats 1000000 in
theorem square_s {a b : Pl} (ha : vP a = true) (hb : vP b = true) (w : World) :
    Calls Tryz.prog 76 #[.agg #[.int .i64 a.x, .int .i64 a.y], .agg #[.int .i64 b.x, .int .i64 b.y]] w fun e W' => e = .returned (.int .i64 (sqP a b)) ∧ Below w.heap.size w W' := by
  obtain ⟨⟨a1, a2⟩, a3, a4⟩ := vP_b ha
  obtain ⟨⟨b1, b2⟩, b3, b4⟩ := vP_b hb
  clear ha hb
  unfold sqP
  obtain ⟨ax, ay⟩ := a
  obtain ⟨bx, by'⟩ := b
  simp only at *
  obtain ⟨p3, p4⟩ := prod_bd (u := ax - bx) (v := ax - bx) (by omega) (by omega)
  obtain ⟨p5, p6⟩ := prod_bd (u := ay - by') (v := ay - by') (by omega) (by omega)
  have w1 : IntKind.i64.wrap ((ax - bx) * (ax - bx)) = (ax - bx) * (ax - bx) := IntWalk.i64_in _ (by omega)
  have w2 : IntKind.i64.wrap ((ay - by') * (ay - by')) = (ay - by') * (ay - by') := IntWalk.i64_in _ (by omega)
  have w3 : IntKind.i64.wrap ((ax - bx) * (ax - bx) + (ay - by') * (ay - by')) = (ax - bx) * (ax - bx) + (ay - by') * (ay - by') := IntWalk.i64_in _ (by omega)
  go_enter Tryz.func76, Tryz.ntmps76
  go_wp2
  go_ret
  exact ⟨rfl, ((Below.refl _ _).alloc (Nat.le_refl _) _).alloc (by simp) _⟩
set_option maxHeartbeats 4000000 in
set_option maxRecDepth 100000 in
theorem dist_no {p a b : Pl} (hv : [p, a, b].all vP = false) (w : World) :
    Calls Tryz.prog 29 #[.agg #[.int .i64 p.x, .int .i64 p.y], .agg #[.int .i64 a.x, .int .i64 a.y], .agg #[.int .i64 b.x, .int .i64 b.y]] w fun e W' => e = .returned (.tuple #[.agg #[.string ⟨#[]⟩, .string ⟨#[]⟩], .int .i64 70]) ∧ Below w.heap.size w W' := by
  have H0 := Lib.hid (show AzAt [(w.heap.size + 1 + 1 + 1 + 1, [.int .i64 p.x, .int .i64 p.y, .int .i64 a.x, .int .i64 a.y, .int .i64 b.x, .int .i64 b.y]), (w.heap.size + 1 + 1 + 1, [.string ⟨#[]⟩, .string ⟨#[]⟩]), (w.heap.size + 1 + 1, [.int .i64 b.x, .int .i64 b.y]), (w.heap.size + 1, [.int .i64 a.x, .int .i64 a.y]), (w.heap.size, [.int .i64 p.x, .int .i64 p.y])] w _ from by have hp := ((((((AzAt.start w).push [.int .i64 p.x, .int .i64 p.y] 26).push [.int .i64 a.x, .int .i64 a.y] 26).push [.int .i64 b.x, .int .i64 b.y] 26).push [.string ⟨#[]⟩, .string ⟨#[]⟩] 47).push [.int .i64 p.x, .int .i64 p.y, .int .i64 a.x, .int .i64 a.y, .int .i64 b.x, .int .i64 b.y] 26); simp only [World.size_alloc] at hp; exact hp)
  have K := Lib.hid (fun W (h : PsAt (w.heap.size + 1 + 1 + 1 + 1) [p, a, b] W) => valid_s (n := 3) (cap := 3) rfl (by decide) W h)
  have HS := Lib.hid (PsAt.of (ps := [p, a, b]) (H0.out.at (B := w.heap.size + 1 + 1 + 1 + 1) (l := [.int .i64 p.x, .int .i64 p.y, .int .i64 a.x, .int .i64 a.y, .int .i64 b.x, .int .i64 b.y]) (by simp)))
  rw [hv] at K
  clear hv
  go_enter Tryz.func29, Tryz.ntmps29
  go_wp2_with (first
    | (go_at_call 75; (with_reducible refine (K.out _ HS.out).mono ?_); rintro e w1 ⟨rfl, hb⟩; have hp := H0.out.below hb; have q1 := (hp.row (w.heap.size + 1 + 1 + 1, [.string ⟨#[]⟩, .string ⟨#[]⟩]) (by simp)).row 0 _ rfl; have q2 := (hp.row (w.heap.size + 1 + 1 + 1, [.string ⟨#[]⟩, .string ⟨#[]⟩]) (by simp)).row 1 _ rfl; have z3 := (hp.row (w.heap.size + 1 + 1 + 1, [.string ⟨#[]⟩, .string ⟨#[]⟩]) (by simp)).fz 0 (by simp); have z4 := (hp.row (w.heap.size + 1 + 1 + 1, [.string ⟨#[]⟩, .string ⟨#[]⟩]) (by simp)).fz 1 (by simp); have H1 := Lib.hid hp; clear hb hp)
    | fail)
  have hp := H1.out
  have q0 := (hp.row (w.heap.size + 1 + 1 + 1, [.string ⟨#[]⟩, .string ⟨#[]⟩]) (by simp)).row 0 _ rfl
  have q1 := (hp.row (w.heap.size + 1 + 1 + 1, [.string ⟨#[]⟩, .string ⟨#[]⟩]) (by simp)).row 1 _ rfl
  refine bodyPost_ret (v := .tuple #[.agg #[.string ⟨#[]⟩, .string ⟨#[]⟩], .int .i64 70]) ?_ rfl ⟨rfl, ?_⟩
  · simp [results, Tryz.results29, go_sem, Result.andThen, q0, q1]
  · repeat (first | with_reducible exact hp.bw | with_reducible refine Below.setCell ?_ (by simp; omega) _)
set_option maxHeartbeats 8000000 in
set_option maxRecDepth 100000 in
theorem dist_yes {p a b : Pl} (hp : vP p = true) (ha : vP a = true) (hb : vP b = true) {w : World} (hi : IOps w) (hf : FrOp w) :
    Calls Tryz.prog 29 #[.agg #[.int .i64 p.x, .int .i64 p.y], .agg #[.int .i64 a.x, .int .i64 a.y], .agg #[.int .i64 b.x, .int .i64 b.y]] w fun e W' => e = .returned (.tuple #[.agg #[.string (qN (some (dRat p a b))), .string (qD (some (dRat p a b)))], .int .i64 0]) ∧ Below w.heap.size w W' := by
  have H0 := Lib.hid (show AzAt [(w.heap.size + 1 + 1 + 1 + 1, [.int .i64 p.x, .int .i64 p.y, .int .i64 a.x, .int .i64 a.y, .int .i64 b.x, .int .i64 b.y]), (w.heap.size + 1 + 1 + 1, [.string ⟨#[]⟩, .string ⟨#[]⟩]), (w.heap.size + 1 + 1, [.int .i64 b.x, .int .i64 b.y]), (w.heap.size + 1, [.int .i64 a.x, .int .i64 a.y]), (w.heap.size, [.int .i64 p.x, .int .i64 p.y])] w _ from by have hp := ((((((AzAt.start w).push [.int .i64 p.x, .int .i64 p.y] 26).push [.int .i64 a.x, .int .i64 a.y] 26).push [.int .i64 b.x, .int .i64 b.y] 26).push [.string ⟨#[]⟩, .string ⟨#[]⟩] 47).push [.int .i64 p.x, .int .i64 p.y, .int .i64 a.x, .int .i64 a.y, .int .i64 b.x, .int .i64 b.y] 26); simp only [World.size_alloc] at hp; exact hp)
  have K := Lib.hid (fun W (h : PsAt (w.heap.size + 1 + 1 + 1 + 1) [p, a, b] W) => valid_s (n := 3) (cap := 3) rfl (by decide) W h)
  have HS := Lib.hid (PsAt.of (ps := [p, a, b]) (H0.out.at (B := w.heap.size + 1 + 1 + 1 + 1) (l := [.int .i64 p.x, .int .i64 p.y, .int .i64 a.x, .int .i64 a.y, .int .i64 b.x, .int .i64 b.y]) (by simp)))
  rw [show [p, a, b].all vP = true by simp [hp, ha, hb]] at K
  obtain ⟨⟨a1, a2⟩, a3, a4⟩ := vP_b ha
  obtain ⟨⟨b1, b2⟩, b3, b4⟩ := vP_b hb
  obtain ⟨⟨c1, c2⟩, c3, c4⟩ := vP_b hp
  obtain ⟨l1, l2⟩ := sqP_b ha hb
  obtain ⟨m1, m2⟩ := sqP_b hp ha
  obtain ⟨n1, n2⟩ := sqP_b hp hb
  obtain ⟨t1, t2⟩ := turn_b ha hb hp
  obtain ⟨p3, p4⟩ := prod_bd (u := p.x - a.x) (v := b.x - a.x) (by omega) (by omega)
  obtain ⟨p5, p6⟩ := prod_bd (u := p.y - a.y) (v := b.y - a.y) (by omega) (by omega)
  have w1 : IntKind.i64.wrap ((p.x - a.x) * (b.x - a.x)) = (p.x - a.x) * (b.x - a.x) := IntWalk.i64_in _ (by omega)
  have w2 : IntKind.i64.wrap ((p.y - a.y) * (b.y - a.y)) = (p.y - a.y) * (b.y - a.y) := IntWalk.i64_in _ (by omega)
  have w3 : IntKind.i64.wrap ((p.x - a.x) * (b.x - a.x) + (p.y - a.y) * (b.y - a.y)) = (p.x - a.x) * (b.x - a.x) + (p.y - a.y) * (b.y - a.y) := IntWalk.i64_in _ (by omega)
  have KL := Lib.hid (fun W => square_s ha hb W)
  have KA := Lib.hid (fun W => square_s hp ha W)
  have KB := Lib.hid (fun W => square_s hp hb W)
  have KT := Lib.hid (fun W => turn_s ha hb hp W)
  by_cases d1 : (p.x - a.x) * (b.x - a.x) + (p.y - a.y) * (b.y - a.y) ≤ 0
  · have eR : dRat p a b = Rat.divInt (sqP p a) 1 := by unfold dRat dNum dDen alP; rw [if_pos d1, if_pos d1]
    clear hp ha hb
    have KO := Lib.hid (fun (W : World) (h : Below w.heap.size w W) => Of_q (n := sqP p a) (d := 1) (hi.below h) (hf.below h) (by omega) (by omega) (by omega) (by omega))
    rw [show makeR (sqP p a) (1) = some (Rat.divInt (sqP p a) (1)) from if_neg (by omega)] at KO
    rw [eR]
    generalize qN (some (Rat.divInt (sqP p a) (1))) = rn at KO ⊢
    generalize qD (some (Rat.divInt (sqP p a) (1))) = rd at KO ⊢
    rw [show qE (some (Rat.divInt (sqP p a) (1))) = 0 from rfl] at KO
    clear eR hi hf
    go_enter Tryz.func29, Tryz.ntmps29
    go_wp2_with (first
      | (have _ := H3; go_at_call 76; (with_reducible refine (KA.out _).mono ?_); rintro e w4 ⟨rfl, hb⟩; have hp := H3.out.below hb; have H4 := Lib.hid hp; clear hb hp)
      | (go_at_call 75; (with_reducible refine (K.out _ HS.out).mono ?_); rintro e w1 ⟨rfl, hb⟩; have hp := H0.out.below hb; have q5 := (hp.row (w.heap.size, [.int .i64 p.x, .int .i64 p.y]) (by simp)).row 0 _ rfl; have q6 := (hp.row (w.heap.size, [.int .i64 p.x, .int .i64 p.y]) (by simp)).row 1 _ rfl; have q7 := (hp.row (w.heap.size + 1, [.int .i64 a.x, .int .i64 a.y]) (by simp)).row 0 _ rfl; have q8 := (hp.row (w.heap.size + 1, [.int .i64 a.x, .int .i64 a.y]) (by simp)).row 1 _ rfl; have q9 := (hp.row (w.heap.size + 1 + 1, [.int .i64 b.x, .int .i64 b.y]) (by simp)).row 0 _ rfl; have q10 := (hp.row (w.heap.size + 1 + 1, [.int .i64 b.x, .int .i64 b.y]) (by simp)).row 1 _ rfl; have H1 := Lib.hid hp; clear hb hp)
      | (go_at_call 76; (with_reducible refine (KL.out _).mono ?_); rintro e w2 ⟨rfl, hb⟩; have hp := H1.out.below hb; have q11 := (hp.row (w.heap.size, [.int .i64 p.x, .int .i64 p.y]) (by simp)).row 0 _ rfl; have q12 := (hp.row (w.heap.size, [.int .i64 p.x, .int .i64 p.y]) (by simp)).row 1 _ rfl; have q13 := (hp.row (w.heap.size + 1, [.int .i64 a.x, .int .i64 a.y]) (by simp)).row 0 _ rfl; have q14 := (hp.row (w.heap.size + 1, [.int .i64 a.x, .int .i64 a.y]) (by simp)).row 1 _ rfl; have q15 := (hp.row (w.heap.size + 1 + 1, [.int .i64 b.x, .int .i64 b.y]) (by simp)).row 0 _ rfl; have q16 := (hp.row (w.heap.size + 1 + 1, [.int .i64 b.x, .int .i64 b.y]) (by simp)).row 1 _ rfl; have H2 := Lib.hid hp; clear hb hp)
      | (go_at_call 55; (with_reducible refine (KT.out _).mono ?_); rintro e w3 ⟨rfl, hb⟩; have hp := H2.out.below hb; have q17 := (hp.row (w.heap.size, [.int .i64 p.x, .int .i64 p.y]) (by simp)).row 0 _ rfl; have q18 := (hp.row (w.heap.size, [.int .i64 p.x, .int .i64 p.y]) (by simp)).row 1 _ rfl; have q19 := (hp.row (w.heap.size + 1, [.int .i64 a.x, .int .i64 a.y]) (by simp)).row 0 _ rfl; have q20 := (hp.row (w.heap.size + 1, [.int .i64 a.x, .int .i64 a.y]) (by simp)).row 1 _ rfl; have q21 := (hp.row (w.heap.size + 1 + 1, [.int .i64 b.x, .int .i64 b.y]) (by simp)).row 0 _ rfl; have q22 := (hp.row (w.heap.size + 1 + 1, [.int .i64 b.x, .int .i64 b.y]) (by simp)).row 1 _ rfl; have H3 := Lib.hid hp; clear hb hp)
      | (go_at_call 77; (with_reducible refine (KO.out _ H4.out.bw).mono ?_); rintro e w5 ⟨rfl, hb⟩; have hp := AzAt.al (H4.out.below hb) (.cells #[.string rn, .string rd] 47); have q23 := (hp.row (w.heap.size + 1 + 1 + 1, [.string ⟨#[]⟩, .string ⟨#[]⟩]) (by simp)).row 0 _ rfl; have q24 := (hp.row (w.heap.size + 1 + 1 + 1, [.string ⟨#[]⟩, .string ⟨#[]⟩]) (by simp)).row 1 _ rfl; have z25 := (hp.row (w.heap.size + 1 + 1 + 1, [.string ⟨#[]⟩, .string ⟨#[]⟩]) (by simp)).fz 0 (by simp); have z26 := (hp.row (w.heap.size + 1 + 1 + 1, [.string ⟨#[]⟩, .string ⟨#[]⟩]) (by simp)).fz 1 (by simp); have H5 := Lib.hid hp; clear hb hp)
      | fail)
    have hp := (H5.out.swap).set2 (by omega) (by simp <;> omega) (.string rn) (.string rd)
    generalize ((w5.alloc (.cells #[.string rn, .string rd] 47)).setCell ⟨w.heap.size + 1 + 1 + 1, 0, none⟩ (.string rn)).setCell ⟨w.heap.size + 1 + 1 + 1, 1, none⟩ (.string rd) = WF at hp ⊢
    have q0 := (hp.row (w.heap.size + 1 + 1 + 1, [.string rn, .string rd]) (by simp)).row 0 _ rfl
    have q1 := (hp.row (w.heap.size + 1 + 1 + 1, [.string rn, .string rd]) (by simp)).row 1 _ rfl
    refine bodyPost_ret (v := .tuple #[.agg #[.string rn, .string rd], .int .i64 0]) ?_ rfl ⟨rfl, hp.bw⟩
    simp [results, Tryz.results29, go_sem, Result.andThen, q0, q1]
  · have d2 := decide_eq_false d1
    by_cases d3 : sqP a b ≤ (p.x - a.x) * (b.x - a.x) + (p.y - a.y) * (b.y - a.y)
    · have eR : dRat p a b = Rat.divInt (sqP p b) 1 := by unfold dRat dNum dDen alP; rw [if_neg d1, if_pos d3, if_neg d1, if_pos d3]
      clear hp ha hb
      have KO := Lib.hid (fun (W : World) (h : Below w.heap.size w W) => Of_q (n := sqP p b) (d := 1) (hi.below h) (hf.below h) (by omega) (by omega) (by omega) (by omega))
      rw [show makeR (sqP p b) (1) = some (Rat.divInt (sqP p b) (1)) from if_neg (by omega)] at KO
      rw [eR]
      generalize qN (some (Rat.divInt (sqP p b) (1))) = rn at KO ⊢
      generalize qD (some (Rat.divInt (sqP p b) (1))) = rd at KO ⊢
      rw [show qE (some (Rat.divInt (sqP p b) (1))) = 0 from rfl] at KO
      clear eR hi hf
      go_enter Tryz.func29, Tryz.ntmps29
      go_wp2_with (first
        | (have _ := H3; go_at_call 76; (with_reducible refine (KB.out _).mono ?_); rintro e w4 ⟨rfl, hb⟩; have hp := H3.out.below hb; have H4 := Lib.hid hp; clear hb hp)
        | (go_at_call 75; (with_reducible refine (K.out _ HS.out).mono ?_); rintro e w1 ⟨rfl, hb⟩; have hp := H0.out.below hb; have q27 := (hp.row (w.heap.size, [.int .i64 p.x, .int .i64 p.y]) (by simp)).row 0 _ rfl; have q28 := (hp.row (w.heap.size, [.int .i64 p.x, .int .i64 p.y]) (by simp)).row 1 _ rfl; have q29 := (hp.row (w.heap.size + 1, [.int .i64 a.x, .int .i64 a.y]) (by simp)).row 0 _ rfl; have q30 := (hp.row (w.heap.size + 1, [.int .i64 a.x, .int .i64 a.y]) (by simp)).row 1 _ rfl; have q31 := (hp.row (w.heap.size + 1 + 1, [.int .i64 b.x, .int .i64 b.y]) (by simp)).row 0 _ rfl; have q32 := (hp.row (w.heap.size + 1 + 1, [.int .i64 b.x, .int .i64 b.y]) (by simp)).row 1 _ rfl; have H1 := Lib.hid hp; clear hb hp)
        | (go_at_call 76; (with_reducible refine (KL.out _).mono ?_); rintro e w2 ⟨rfl, hb⟩; have hp := H1.out.below hb; have q33 := (hp.row (w.heap.size, [.int .i64 p.x, .int .i64 p.y]) (by simp)).row 0 _ rfl; have q34 := (hp.row (w.heap.size, [.int .i64 p.x, .int .i64 p.y]) (by simp)).row 1 _ rfl; have q35 := (hp.row (w.heap.size + 1, [.int .i64 a.x, .int .i64 a.y]) (by simp)).row 0 _ rfl; have q36 := (hp.row (w.heap.size + 1, [.int .i64 a.x, .int .i64 a.y]) (by simp)).row 1 _ rfl; have q37 := (hp.row (w.heap.size + 1 + 1, [.int .i64 b.x, .int .i64 b.y]) (by simp)).row 0 _ rfl; have q38 := (hp.row (w.heap.size + 1 + 1, [.int .i64 b.x, .int .i64 b.y]) (by simp)).row 1 _ rfl; have H2 := Lib.hid hp; clear hb hp)
        | (go_at_call 55; (with_reducible refine (KT.out _).mono ?_); rintro e w3 ⟨rfl, hb⟩; have hp := H2.out.below hb; have q39 := (hp.row (w.heap.size, [.int .i64 p.x, .int .i64 p.y]) (by simp)).row 0 _ rfl; have q40 := (hp.row (w.heap.size, [.int .i64 p.x, .int .i64 p.y]) (by simp)).row 1 _ rfl; have q41 := (hp.row (w.heap.size + 1, [.int .i64 a.x, .int .i64 a.y]) (by simp)).row 0 _ rfl; have q42 := (hp.row (w.heap.size + 1, [.int .i64 a.x, .int .i64 a.y]) (by simp)).row 1 _ rfl; have q43 := (hp.row (w.heap.size + 1 + 1, [.int .i64 b.x, .int .i64 b.y]) (by simp)).row 0 _ rfl; have q44 := (hp.row (w.heap.size + 1 + 1, [.int .i64 b.x, .int .i64 b.y]) (by simp)).row 1 _ rfl; have H3 := Lib.hid hp; clear hb hp)
        | (go_at_call 77; (with_reducible refine (KO.out _ H4.out.bw).mono ?_); rintro e w5 ⟨rfl, hb⟩; have hp := AzAt.al (H4.out.below hb) (.cells #[.string rn, .string rd] 47); have q45 := (hp.row (w.heap.size + 1 + 1 + 1, [.string ⟨#[]⟩, .string ⟨#[]⟩]) (by simp)).row 0 _ rfl; have q46 := (hp.row (w.heap.size + 1 + 1 + 1, [.string ⟨#[]⟩, .string ⟨#[]⟩]) (by simp)).row 1 _ rfl; have z47 := (hp.row (w.heap.size + 1 + 1 + 1, [.string ⟨#[]⟩, .string ⟨#[]⟩]) (by simp)).fz 0 (by simp); have z48 := (hp.row (w.heap.size + 1 + 1 + 1, [.string ⟨#[]⟩, .string ⟨#[]⟩]) (by simp)).fz 1 (by simp); have H5 := Lib.hid hp; clear hb hp)
        | fail)
      have hp := (H5.out.swap).set2 (by omega) (by simp <;> omega) (.string rn) (.string rd)
      generalize ((w5.alloc (.cells #[.string rn, .string rd] 47)).setCell ⟨w.heap.size + 1 + 1 + 1, 0, none⟩ (.string rn)).setCell ⟨w.heap.size + 1 + 1 + 1, 1, none⟩ (.string rd) = WF at hp ⊢
      have q0 := (hp.row (w.heap.size + 1 + 1 + 1, [.string rn, .string rd]) (by simp)).row 0 _ rfl
      have q1 := (hp.row (w.heap.size + 1 + 1 + 1, [.string rn, .string rd]) (by simp)).row 1 _ rfl
      refine bodyPost_ret (v := .tuple #[.agg #[.string rn, .string rd], .int .i64 0]) ?_ rfl ⟨rfl, hp.bw⟩
      simp [results, Tryz.results29, go_sem, Result.andThen, q0, q1]
    · have d4 := decide_eq_false d3
      obtain ⟨p7, p8⟩ := prod_big (u := turnP a b p) (v := turnP a b p) (by omega) (by omega)
      have w4 : IntKind.i64.wrap (turnP a b p * turnP a b p) = turnP a b p * turnP a b p := IntWalk.i64_in _ (by omega)
      have eR : dRat p a b = Rat.divInt (turnP a b p * turnP a b p) (sqP a b) := by unfold dRat dNum dDen alP; rw [if_neg d1, if_neg d3, if_neg d1, if_neg d3]
      clear hp ha hb
      have KO := Lib.hid (fun (W : World) (h : Below w.heap.size w W) => Of_q (n := turnP a b p * turnP a b p) (d := sqP a b) (hi.below h) (hf.below h) (by omega) (by omega) (by omega) (by omega))
      rw [show makeR (turnP a b p * turnP a b p) (sqP a b) = some (Rat.divInt (turnP a b p * turnP a b p) (sqP a b)) from if_neg (by omega)] at KO
      rw [eR]
      generalize qN (some (Rat.divInt (turnP a b p * turnP a b p) (sqP a b))) = rn at KO ⊢
      generalize qD (some (Rat.divInt (turnP a b p * turnP a b p) (sqP a b))) = rd at KO ⊢
      rw [show qE (some (Rat.divInt (turnP a b p * turnP a b p) (sqP a b))) = 0 from rfl] at KO
      clear eR hi hf
      go_enter Tryz.func29, Tryz.ntmps29
      go_wp2_with (first
        | (go_at_call 75; (with_reducible refine (K.out _ HS.out).mono ?_); rintro e w1 ⟨rfl, hb⟩; have hp := H0.out.below hb; have q49 := (hp.row (w.heap.size, [.int .i64 p.x, .int .i64 p.y]) (by simp)).row 0 _ rfl; have q50 := (hp.row (w.heap.size, [.int .i64 p.x, .int .i64 p.y]) (by simp)).row 1 _ rfl; have q51 := (hp.row (w.heap.size + 1, [.int .i64 a.x, .int .i64 a.y]) (by simp)).row 0 _ rfl; have q52 := (hp.row (w.heap.size + 1, [.int .i64 a.x, .int .i64 a.y]) (by simp)).row 1 _ rfl; have q53 := (hp.row (w.heap.size + 1 + 1, [.int .i64 b.x, .int .i64 b.y]) (by simp)).row 0 _ rfl; have q54 := (hp.row (w.heap.size + 1 + 1, [.int .i64 b.x, .int .i64 b.y]) (by simp)).row 1 _ rfl; have H1 := Lib.hid hp; clear hb hp)
        | (go_at_call 76; (with_reducible refine (KL.out _).mono ?_); rintro e w2 ⟨rfl, hb⟩; have hp := H1.out.below hb; have q55 := (hp.row (w.heap.size, [.int .i64 p.x, .int .i64 p.y]) (by simp)).row 0 _ rfl; have q56 := (hp.row (w.heap.size, [.int .i64 p.x, .int .i64 p.y]) (by simp)).row 1 _ rfl; have q57 := (hp.row (w.heap.size + 1, [.int .i64 a.x, .int .i64 a.y]) (by simp)).row 0 _ rfl; have q58 := (hp.row (w.heap.size + 1, [.int .i64 a.x, .int .i64 a.y]) (by simp)).row 1 _ rfl; have q59 := (hp.row (w.heap.size + 1 + 1, [.int .i64 b.x, .int .i64 b.y]) (by simp)).row 0 _ rfl; have q60 := (hp.row (w.heap.size + 1 + 1, [.int .i64 b.x, .int .i64 b.y]) (by simp)).row 1 _ rfl; have H2 := Lib.hid hp; clear hb hp)
        | (go_at_call 55; (with_reducible refine (KT.out _).mono ?_); rintro e w3 ⟨rfl, hb⟩; have hp := H2.out.below hb; have q61 := (hp.row (w.heap.size, [.int .i64 p.x, .int .i64 p.y]) (by simp)).row 0 _ rfl; have q62 := (hp.row (w.heap.size, [.int .i64 p.x, .int .i64 p.y]) (by simp)).row 1 _ rfl; have q63 := (hp.row (w.heap.size + 1, [.int .i64 a.x, .int .i64 a.y]) (by simp)).row 0 _ rfl; have q64 := (hp.row (w.heap.size + 1, [.int .i64 a.x, .int .i64 a.y]) (by simp)).row 1 _ rfl; have q65 := (hp.row (w.heap.size + 1 + 1, [.int .i64 b.x, .int .i64 b.y]) (by simp)).row 0 _ rfl; have q66 := (hp.row (w.heap.size + 1 + 1, [.int .i64 b.x, .int .i64 b.y]) (by simp)).row 1 _ rfl; have H3 := Lib.hid hp; clear hb hp)
        | (go_at_call 77; (with_reducible refine (KO.out _ H3.out.bw).mono ?_); rintro e w5 ⟨rfl, hb⟩; have hp := AzAt.al (H3.out.below hb) (.cells #[.string rn, .string rd] 47); have q67 := (hp.row (w.heap.size + 1 + 1 + 1, [.string ⟨#[]⟩, .string ⟨#[]⟩]) (by simp)).row 0 _ rfl; have q68 := (hp.row (w.heap.size + 1 + 1 + 1, [.string ⟨#[]⟩, .string ⟨#[]⟩]) (by simp)).row 1 _ rfl; have z69 := (hp.row (w.heap.size + 1 + 1 + 1, [.string ⟨#[]⟩, .string ⟨#[]⟩]) (by simp)).fz 0 (by simp); have z70 := (hp.row (w.heap.size + 1 + 1 + 1, [.string ⟨#[]⟩, .string ⟨#[]⟩]) (by simp)).fz 1 (by simp); have H5 := Lib.hid hp; clear hb hp)
        | fail)
      have hp := (H5.out.swap).set2 (by omega) (by simp <;> omega) (.string rn) (.string rd)
      generalize ((w5.alloc (.cells #[.string rn, .string rd] 47)).setCell ⟨w.heap.size + 1 + 1 + 1, 0, none⟩ (.string rn)).setCell ⟨w.heap.size + 1 + 1 + 1, 1, none⟩ (.string rd) = WF at hp ⊢
      have q0 := (hp.row (w.heap.size + 1 + 1 + 1, [.string rn, .string rd]) (by simp)).row 0 _ rfl
      have q1 := (hp.row (w.heap.size + 1 + 1 + 1, [.string rn, .string rd]) (by simp)).row 1 _ rfl
      refine bodyPost_ret (v := .tuple #[.agg #[.string rn, .string rd], .int .i64 0]) ?_ rfl ⟨rfl, hp.bw⟩
      simp [results, Tryz.results29, go_sem, Result.andThen, q0, q1]
end Go.Proofs.YtgngepbemgbbeaaGreatDoor

