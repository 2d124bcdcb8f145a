/-
  Package plane: rectangles, and crossings of segments.
  Package plane: few.
  Package plane: Around: the rectangle around places.
-/
import Derived.Test.YtgngepbemgbbeaaGreatDoorZPl1
import Derived.Test.YtgngepbemgbbeaaGreatDoorZNum
namespace Go.Proofs.YtgngepbemgbbeaaGreatDoor
open Go.RowKit Go.Shelf
attribute [local go_sem] Oper.semAt_some

set_option maxHeartbeats 1000000 in
theorem vRect_s (r : Rc) (w : World) :
    Calls Tryz.prog 14 #[.agg #[.int .i64 r.x, .int .i64 r.y, .int .i64 r.w, .int .i64 r.h]] w fun e W' => e = .returned (.bool (vRc r)) ∧ Below w.heap.size w W' := by
  have KP := Lib.hid (show ∀ W, Calls Tryz.prog 35 #[.agg #[.int .i64 r.x, .int .i64 r.y]] W fun e W' => e = .returned (.bool (vP ⟨r.x, r.y⟩)) ∧ Below W.heap.size W W' from fun W => vPlace_s ⟨r.x, r.y⟩ W)
  have H0 := Lib.hid (show AzAt [(w.heap.size, [.int .i64 r.x, .int .i64 r.y, .int .i64 r.w, .int .i64 r.h])] w _ from by have hp := (AzAt.start w).push [.int .i64 r.x, .int .i64 r.y, .int .i64 r.w, .int .i64 r.h] 29; (try simp only [World.size_alloc] at hp); exact hp)
  unfold vRc
  cases hv : vP ⟨r.x, r.y⟩ with
  | false =>
    rw [hv] at KP
    clear hv
    simp only [Bool.false_and]
    go_enter Tryz.func14, Tryz.ntmps14
    go_wp2_with (first
      | (go_at_call 35; (with_reducible refine (KP.out _).mono ?_); rintro e w1 ⟨rfl, hb⟩; have hp := H0.out.below hb; have q1 := (hp.row (w.heap.size, [.int .i64 r.x, .int .i64 r.y, .int .i64 r.w, .int .i64 r.h]) (by simp)).row 0 _ rfl; have q2 := (hp.row (w.heap.size, [.int .i64 r.x, .int .i64 r.y, .int .i64 r.w, .int .i64 r.h]) (by simp)).row 1 _ rfl; have q3 := (hp.row (w.heap.size, [.int .i64 r.x, .int .i64 r.y, .int .i64 r.w, .int .i64 r.h]) (by simp)).row 2 _ rfl; have q4 := (hp.row (w.heap.size, [.int .i64 r.x, .int .i64 r.y, .int .i64 r.w, .int .i64 r.h]) (by simp)).row 3 _ rfl; have H1 := Lib.hid hp; clear hb hp)
      | fail)
    go_ret
    exact ⟨rfl, H1.out.bw⟩
  | true =>
    rw [hv] at KP
    obtain ⟨⟨b1, b2⟩, b3, b4⟩ := vP_b hv
    simp only at b1 b2 b3 b4
    clear hv
    by_cases hw : 0 ≤ r.w ∧ r.w ≤ 4095 - r.x
    · have KW := Lib.hid (fun W => in_t hw.1 hw.2 W)
      rw [decide_eq_true hw.1, decide_eq_true hw.2]
      clear hw
      by_cases hh : 0 ≤ r.h ∧ r.h ≤ 4095 - r.y
      · have KH := Lib.hid (fun W => in_t hh.1 hh.2 W)
        rw [decide_eq_true hh.1, decide_eq_true hh.2]
        clear hh
        go_enter Tryz.func14, Tryz.ntmps14
        go_wp2_with (first
          | (go_at_call 35; (with_reducible refine (KP.out _).mono ?_); rintro e w1 ⟨rfl, hb⟩; have hp := H0.out.below hb; have q5 := (hp.row (w.heap.size, [.int .i64 r.x, .int .i64 r.y, .int .i64 r.w, .int .i64 r.h]) (by simp)).row 0 _ rfl; have q6 := (hp.row (w.heap.size, [.int .i64 r.x, .int .i64 r.y, .int .i64 r.w, .int .i64 r.h]) (by simp)).row 1 _ rfl; have q7 := (hp.row (w.heap.size, [.int .i64 r.x, .int .i64 r.y, .int .i64 r.w, .int .i64 r.h]) (by simp)).row 2 _ rfl; have q8 := (hp.row (w.heap.size, [.int .i64 r.x, .int .i64 r.y, .int .i64 r.w, .int .i64 r.h]) (by simp)).row 3 _ rfl; have H1 := Lib.hid hp; clear hb hp)
          | (go_at_call 44; (with_reducible refine (KW.out _).mono ?_); rintro e w' ⟨rfl, rfl⟩)
          | (go_at_call 44; (with_reducible refine (KH.out _).mono ?_); rintro e w' ⟨rfl, rfl⟩)
          | fail)
        go_ret
        exact ⟨rfl, H1.out.bw⟩
      · have KH := Lib.hid (fun W => in_f (n := r.h) (lo := 0) (hi := 4095 - r.y) (by omega) W)
        rw [show (true && true && true && decide (0 ≤ r.h) && decide (r.h ≤ 4095 - r.y)) = false by simp; omega]
        clear hh
        go_enter Tryz.func14, Tryz.ntmps14
        go_wp2_with (first
          | (go_at_call 35; (with_reducible refine (KP.out _).mono ?_); rintro e w1 ⟨rfl, hb⟩; have hp := H0.out.below hb; have q9 := (hp.row (w.heap.size, [.int .i64 r.x, .int .i64 r.y, .int .i64 r.w, .int .i64 r.h]) (by simp)).row 0 _ rfl; have q10 := (hp.row (w.heap.size, [.int .i64 r.x, .int .i64 r.y, .int .i64 r.w, .int .i64 r.h]) (by simp)).row 1 _ rfl; have q11 := (hp.row (w.heap.size, [.int .i64 r.x, .int .i64 r.y, .int .i64 r.w, .int .i64 r.h]) (by simp)).row 2 _ rfl; have q12 := (hp.row (w.heap.size, [.int .i64 r.x, .int .i64 r.y, .int .i64 r.w, .int .i64 r.h]) (by simp)).row 3 _ rfl; have H1 := Lib.hid hp; clear hb hp)
          | (go_at_call 44; (with_reducible refine (KW.out _).mono ?_); rintro e w' ⟨rfl, rfl⟩)
          | (go_at_call 44; (with_reducible refine (KH.out _).mono ?_); rintro e w' ⟨rfl, rfl⟩)
          | fail)
        go_ret
        exact ⟨rfl, H1.out.bw⟩
    · have KW := Lib.hid (fun W => in_f (n := r.w) (lo := 0) (hi := 4095 - r.x) (by omega) W)
      rw [show (true && decide (0 ≤ r.w) && decide (r.w ≤ 4095 - r.x) && decide (0 ≤ r.h) && decide (r.h ≤ 4095 - r.y)) = false by simp; omega]
      clear hw
      go_enter Tryz.func14, Tryz.ntmps14
      go_wp2_with (first
        | (go_at_call 35; (with_reducible refine (KP.out _).mono ?_); rintro e w1 ⟨rfl, hb⟩; have hp := H0.out.below hb; have q13 := (hp.row (w.heap.size, [.int .i64 r.x, .int .i64 r.y, .int .i64 r.w, .int .i64 r.h]) (by simp)).row 0 _ rfl; have q14 := (hp.row (w.heap.size, [.int .i64 r.x, .int .i64 r.y, .int .i64 r.w, .int .i64 r.h]) (by simp)).row 1 _ rfl; have q15 := (hp.row (w.heap.size, [.int .i64 r.x, .int .i64 r.y, .int .i64 r.w, .int .i64 r.h]) (by simp)).row 2 _ rfl; have q16 := (hp.row (w.heap.size, [.int .i64 r.x, .int .i64 r.y, .int .i64 r.w, .int .i64 r.h]) (by simp)).row 3 _ rfl; have H1 := Lib.hid hp; clear hb hp)
        | (go_at_call 44; (with_reducible refine (KW.out _).mono ?_); rintro e w' ⟨rfl, rfl⟩)
        | fail)
      go_ret
      exact ⟨rfl, H1.out.bw⟩
theorem within_s (a l b m : Int) (ha : 0 ≤ a ∧ a ≤ 4095) (hl : 0 ≤ l ∧ l ≤ 4095) (hb : 0 ≤ b ∧ b ≤ 4095) (hm : 0 ≤ m ∧ m ≤ 4095) (w : World) :
    Calls Tryz.prog 47 #[.int .i64 a, .int .i64 l, .int .i64 b, .int .i64 m] w fun e w' => e = .returned (.bool (decide (b ≤ a) && decide (a + l ≤ b + m))) ∧ w = w' := by
  obtain ⟨a1, a2⟩ := ha
  obtain ⟨l1, l2⟩ := hl
  obtain ⟨b1, b2⟩ := hb
  obtain ⟨m1, m2⟩ := hm
  by_cases h : b ≤ a
  · rw [decide_eq_true h]
    go_enter Tryz.func47, Tryz.ntmps47
    go_wp2
    go_ret
    exact ⟨rfl, rfl⟩
  · have h2 := decide_eq_false h
    rw [h2]
    go_enter Tryz.func47, Tryz.ntmps47
    go_wp2
    go_ret
    exact ⟨rfl, rfl⟩
theorem vRc_b {r : Rc} (h : vRc r = true) : (0 ≤ r.x ∧ r.x ≤ 4095) ∧ (0 ≤ r.y ∧ r.y ≤ 4095) ∧ (0 ≤ r.w ∧ r.w ≤ 4095) ∧ (0 ≤ r.h ∧ r.h ≤ 4095) ∧ r.x + r.w ≤ 4095 ∧ r.y + r.h ≤ 4095 := by
  have := vRc_iff.1 h
  omega
set_option maxHeartbeats 4000000 in
set_option maxRecDepth 100000 in
theorem touch_s (a b : Rc) (w : World) :
    Calls Tryz.prog 16 #[.agg #[.int .i64 a.x, .int .i64 a.y, .int .i64 a.w, .int .i64 a.h], .agg #[.int .i64 b.x, .int .i64 b.y, .int .i64 b.w, .int .i64 b.h]] w fun e W' => e = .returned (.bool (touchR a b)) ∧ Below w.heap.size w W' := by
  have KA := Lib.hid (fun W => vRect_s a W)
  have KB := Lib.hid (fun W => vRect_s b W)
  have H0 := Lib.hid (show AzAt [(w.heap.size + 1, [.int .i64 b.x, .int .i64 b.y, .int .i64 b.w, .int .i64 b.h]), (w.heap.size, [.int .i64 a.x, .int .i64 a.y, .int .i64 a.w, .int .i64 a.h])] w _ from by have hp := ((AzAt.start w).push [.int .i64 a.x, .int .i64 a.y, .int .i64 a.w, .int .i64 a.h] 29).push [.int .i64 b.x, .int .i64 b.y, .int .i64 b.w, .int .i64 b.h] 29; (try simp only [World.size_alloc] at hp); exact hp)
  unfold touchR
  cases hva : vRc a with
  | false =>
    rw [hva] at KA
    clear hva
    simp only [Bool.false_and]
    go_enter Tryz.func16, Tryz.ntmps16
    go_wp2_with (first
      | (go_at_call 14; (with_reducible refine (KA.out _).mono ?_); rintro e w1 ⟨rfl, hb⟩; have hp := H0.out.below hb; have q17 := (hp.row (w.heap.size, [.int .i64 a.x, .int .i64 a.y, .int .i64 a.w, .int .i64 a.h]) (by simp)).row 0 _ rfl; have q18 := (hp.row (w.heap.size, [.int .i64 a.x, .int .i64 a.y, .int .i64 a.w, .int .i64 a.h]) (by simp)).row 1 _ rfl; have q19 := (hp.row (w.heap.size, [.int .i64 a.x, .int .i64 a.y, .int .i64 a.w, .int .i64 a.h]) (by simp)).row 2 _ rfl; have q20 := (hp.row (w.heap.size, [.int .i64 a.x, .int .i64 a.y, .int .i64 a.w, .int .i64 a.h]) (by simp)).row 3 _ rfl; have q21 := (hp.row (w.heap.size + 1, [.int .i64 b.x, .int .i64 b.y, .int .i64 b.w, .int .i64 b.h]) (by simp)).row 0 _ rfl; have q22 := (hp.row (w.heap.size + 1, [.int .i64 b.x, .int .i64 b.y, .int .i64 b.w, .int .i64 b.h]) (by simp)).row 1 _ rfl; have q23 := (hp.row (w.heap.size + 1, [.int .i64 b.x, .int .i64 b.y, .int .i64 b.w, .int .i64 b.h]) (by simp)).row 2 _ rfl; have q24 := (hp.row (w.heap.size + 1, [.int .i64 b.x, .int .i64 b.y, .int .i64 b.w, .int .i64 b.h]) (by simp)).row 3 _ rfl; have H1 := Lib.hid hp; clear hb hp)
      | fail)
    go_ret
    exact ⟨rfl, H1.out.bw⟩
  | true =>
    rw [hva] at KA
    cases hvb : vRc b with
    | false =>
      rw [hvb] at KB
      clear hva hvb
      simp only [Bool.and_false, Bool.false_and]
      go_enter Tryz.func16, Tryz.ntmps16
      go_wp2_with (first
        | (go_at_call 14; (with_reducible refine (KA.out _).mono ?_); rintro e w1 ⟨rfl, hb⟩; have hp := H0.out.below hb; have q25 := (hp.row (w.heap.size, [.int .i64 a.x, .int .i64 a.y, .int .i64 a.w, .int .i64 a.h]) (by simp)).row 0 _ rfl; have q26 := (hp.row (w.heap.size, [.int .i64 a.x, .int .i64 a.y, .int .i64 a.w, .int .i64 a.h]) (by simp)).row 1 _ rfl; have q27 := (hp.row (w.heap.size, [.int .i64 a.x, .int .i64 a.y, .int .i64 a.w, .int .i64 a.h]) (by simp)).row 2 _ rfl; have q28 := (hp.row (w.heap.size, [.int .i64 a.x, .int .i64 a.y, .int .i64 a.w, .int .i64 a.h]) (by simp)).row 3 _ rfl; have q29 := (hp.row (w.heap.size + 1, [.int .i64 b.x, .int .i64 b.y, .int .i64 b.w, .int .i64 b.h]) (by simp)).row 0 _ rfl; have q30 := (hp.row (w.heap.size + 1, [.int .i64 b.x, .int .i64 b.y, .int .i64 b.w, .int .i64 b.h]) (by simp)).row 1 _ rfl; have q31 := (hp.row (w.heap.size + 1, [.int .i64 b.x, .int .i64 b.y, .int .i64 b.w, .int .i64 b.h]) (by simp)).row 2 _ rfl; have q32 := (hp.row (w.heap.size + 1, [.int .i64 b.x, .int .i64 b.y, .int .i64 b.w, .int .i64 b.h]) (by simp)).row 3 _ rfl; have H1 := Lib.hid hp; clear hb hp)
        | (go_at_call 14; (with_reducible refine (KB.out _).mono ?_); rintro e w2 ⟨rfl, hb⟩; have hp := H1.out.below hb; have q33 := (hp.row (w.heap.size, [.int .i64 a.x, .int .i64 a.y, .int .i64 a.w, .int .i64 a.h]) (by simp)).row 0 _ rfl; have q34 := (hp.row (w.heap.size, [.int .i64 a.x, .int .i64 a.y, .int .i64 a.w, .int .i64 a.h]) (by simp)).row 1 _ rfl; have q35 := (hp.row (w.heap.size, [.int .i64 a.x, .int .i64 a.y, .int .i64 a.w, .int .i64 a.h]) (by simp)).row 2 _ rfl; have q36 := (hp.row (w.heap.size, [.int .i64 a.x, .int .i64 a.y, .int .i64 a.w, .int .i64 a.h]) (by simp)).row 3 _ rfl; have q37 := (hp.row (w.heap.size + 1, [.int .i64 b.x, .int .i64 b.y, .int .i64 b.w, .int .i64 b.h]) (by simp)).row 0 _ rfl; have q38 := (hp.row (w.heap.size + 1, [.int .i64 b.x, .int .i64 b.y, .int .i64 b.w, .int .i64 b.h]) (by simp)).row 1 _ rfl; have q39 := (hp.row (w.heap.size + 1, [.int .i64 b.x, .int .i64 b.y, .int .i64 b.w, .int .i64 b.h]) (by simp)).row 2 _ rfl; have q40 := (hp.row (w.heap.size + 1, [.int .i64 b.x, .int .i64 b.y, .int .i64 b.w, .int .i64 b.h]) (by simp)).row 3 _ rfl; have H2 := Lib.hid hp; clear hb hp)
        | fail)
      go_ret
      exact ⟨rfl, H2.out.bw⟩
    | true =>
      rw [hvb] at KB
      obtain ⟨⟨a1, a2⟩, ⟨a3, a4⟩, ⟨a5, a6⟩, ⟨a7, a8⟩, a9, a10⟩ := vRc_b hva
      obtain ⟨⟨b1, b2⟩, ⟨b3, b4⟩, ⟨b5, b6⟩, ⟨b7, b8⟩, b9, b10⟩ := vRc_b hvb
      have K1 := Lib.hid (fun W => overlap_s a.x (a.x + a.w) b.x (b.x + b.w) W)
      have K2 := Lib.hid (fun W => overlap_s a.y (a.y + a.h) b.y (b.y + b.h) W)
      clear hva hvb
      simp only [Bool.true_and]
      generalize ovl a.x (a.x + a.w) b.x (b.x + b.w) = o1 at K1 ⊢
      generalize ovl a.y (a.y + a.h) b.y (b.y + b.h) = o2 at K2 ⊢
      cases o1 <;> cases o2
      all_goals
        go_enter Tryz.func16, Tryz.ntmps16
        go_wp2_with (first
          | (go_at_call 14; (with_reducible refine (KA.out _).mono ?_); rintro e w1 ⟨rfl, hb⟩; have hp := H0.out.below hb; have q41 := (hp.row (w.heap.size, [.int .i64 a.x, .int .i64 a.y, .int .i64 a.w, .int .i64 a.h]) (by simp)).row 0 _ rfl; have q42 := (hp.row (w.heap.size, [.int .i64 a.x, .int .i64 a.y, .int .i64 a.w, .int .i64 a.h]) (by simp)).row 1 _ rfl; have q43 := (hp.row (w.heap.size, [.int .i64 a.x, .int .i64 a.y, .int .i64 a.w, .int .i64 a.h]) (by simp)).row 2 _ rfl; have q44 := (hp.row (w.heap.size, [.int .i64 a.x, .int .i64 a.y, .int .i64 a.w, .int .i64 a.h]) (by simp)).row 3 _ rfl; have q45 := (hp.row (w.heap.size + 1, [.int .i64 b.x, .int .i64 b.y, .int .i64 b.w, .int .i64 b.h]) (by simp)).row 0 _ rfl; have q46 := (hp.row (w.heap.size + 1, [.int .i64 b.x, .int .i64 b.y, .int .i64 b.w, .int .i64 b.h]) (by simp)).row 1 _ rfl; have q47 := (hp.row (w.heap.size + 1, [.int .i64 b.x, .int .i64 b.y, .int .i64 b.w, .int .i64 b.h]) (by simp)).row 2 _ rfl; have q48 := (hp.row (w.heap.size + 1, [.int .i64 b.x, .int .i64 b.y, .int .i64 b.w, .int .i64 b.h]) (by simp)).row 3 _ rfl; have H1 := Lib.hid hp; clear hb hp)
          | (go_at_call 14; (with_reducible refine (KB.out _).mono ?_); rintro e w2 ⟨rfl, hb⟩; have hp := H1.out.below hb; have q49 := (hp.row (w.heap.size, [.int .i64 a.x, .int .i64 a.y, .int .i64 a.w, .int .i64 a.h]) (by simp)).row 0 _ rfl; have q50 := (hp.row (w.heap.size, [.int .i64 a.x, .int .i64 a.y, .int .i64 a.w, .int .i64 a.h]) (by simp)).row 1 _ rfl; have q51 := (hp.row (w.heap.size, [.int .i64 a.x, .int .i64 a.y, .int .i64 a.w, .int .i64 a.h]) (by simp)).row 2 _ rfl; have q52 := (hp.row (w.heap.size, [.int .i64 a.x, .int .i64 a.y, .int .i64 a.w, .int .i64 a.h]) (by simp)).row 3 _ rfl; have q53 := (hp.row (w.heap.size + 1, [.int .i64 b.x, .int .i64 b.y, .int .i64 b.w, .int .i64 b.h]) (by simp)).row 0 _ rfl; have q54 := (hp.row (w.heap.size + 1, [.int .i64 b.x, .int .i64 b.y, .int .i64 b.w, .int .i64 b.h]) (by simp)).row 1 _ rfl; have q55 := (hp.row (w.heap.size + 1, [.int .i64 b.x, .int .i64 b.y, .int .i64 b.w, .int .i64 b.h]) (by simp)).row 2 _ rfl; have q56 := (hp.row (w.heap.size + 1, [.int .i64 b.x, .int .i64 b.y, .int .i64 b.w, .int .i64 b.h]) (by simp)).row 3 _ rfl; have H2 := Lib.hid hp; clear hb hp)
          | (go_at_call 46; (with_reducible refine (K1.out _).mono ?_); rintro e w' ⟨rfl, rfl⟩)
          | (go_at_call 46; (with_reducible refine (K2.out _).mono ?_); rintro e w' ⟨rfl, rfl⟩)
          | fail)
      all_goals
        go_ret
        exact ⟨rfl, H2.out.bw⟩
set_option maxHeartbeats 4000000 in
set_option maxRecDepth 100000 in
theorem inside_s (a b : Rc) (w : World) :
    Calls Tryz.prog 18 #[.agg #[.int .i64 a.x, .int .i64 a.y, .int .i64 a.w, .int .i64 a.h], .agg #[.int .i64 b.x, .int .i64 b.y, .int .i64 b.w, .int .i64 b.h]] w fun e W' => e = .returned (.bool (insideR a b)) ∧ Below w.heap.size w W' := by
  have KA := Lib.hid (fun W => vRect_s a W)
  have KB := Lib.hid (fun W => vRect_s b W)
  have H0 := Lib.hid (show AzAt [(w.heap.size + 1, [.int .i64 b.x, .int .i64 b.y, .int .i64 b.w, .int .i64 b.h]), (w.heap.size, [.int .i64 a.x, .int .i64 a.y, .int .i64 a.w, .int .i64 a.h])] w _ from by have hp := ((AzAt.start w).push [.int .i64 a.x, .int .i64 a.y, .int .i64 a.w, .int .i64 a.h] 29).push [.int .i64 b.x, .int .i64 b.y, .int .i64 b.w, .int .i64 b.h] 29; (try simp only [World.size_alloc] at hp); exact hp)
  unfold insideR
  cases hva : vRc a with
  | false =>
    rw [hva] at KA
    clear hva
    simp only [Bool.false_and]
    go_enter Tryz.func18, Tryz.ntmps18
    go_wp2_with (first
      | (go_at_call 14; (with_reducible refine (KA.out _).mono ?_); rintro e w1 ⟨rfl, hb⟩; have hp := H0.out.below hb; have q57 := (hp.row (w.heap.size, [.int .i64 a.x, .int .i64 a.y, .int .i64 a.w, .int .i64 a.h]) (by simp)).row 0 _ rfl; have q58 := (hp.row (w.heap.size, [.int .i64 a.x, .int .i64 a.y, .int .i64 a.w, .int .i64 a.h]) (by simp)).row 1 _ rfl; have q59 := (hp.row (w.heap.size, [.int .i64 a.x, .int .i64 a.y, .int .i64 a.w, .int .i64 a.h]) (by simp)).row 2 _ rfl; have q60 := (hp.row (w.heap.size, [.int .i64 a.x, .int .i64 a.y, .int .i64 a.w, .int .i64 a.h]) (by simp)).row 3 _ rfl; have q61 := (hp.row (w.heap.size + 1, [.int .i64 b.x, .int .i64 b.y, .int .i64 b.w, .int .i64 b.h]) (by simp)).row 0 _ rfl; have q62 := (hp.row (w.heap.size + 1, [.int .i64 b.x, .int .i64 b.y, .int .i64 b.w, .int .i64 b.h]) (by simp)).row 1 _ rfl; have q63 := (hp.row (w.heap.size + 1, [.int .i64 b.x, .int .i64 b.y, .int .i64 b.w, .int .i64 b.h]) (by simp)).row 2 _ rfl; have q64 := (hp.row (w.heap.size + 1, [.int .i64 b.x, .int .i64 b.y, .int .i64 b.w, .int .i64 b.h]) (by simp)).row 3 _ rfl; have H1 := Lib.hid hp; clear hb hp)
      | fail)
    go_ret
    exact ⟨rfl, H1.out.bw⟩
  | true =>
    rw [hva] at KA
    cases hvb : vRc b with
    | false =>
      rw [hvb] at KB
      clear hva hvb
      simp only [Bool.and_false, Bool.false_and]
      go_enter Tryz.func18, Tryz.ntmps18
      go_wp2_with (first
        | (go_at_call 14; (with_reducible refine (KA.out _).mono ?_); rintro e w1 ⟨rfl, hb⟩; have hp := H0.out.below hb; have q65 := (hp.row (w.heap.size, [.int .i64 a.x, .int .i64 a.y, .int .i64 a.w, .int .i64 a.h]) (by simp)).row 0 _ rfl; have q66 := (hp.row (w.heap.size, [.int .i64 a.x, .int .i64 a.y, .int .i64 a.w, .int .i64 a.h]) (by simp)).row 1 _ rfl; have q67 := (hp.row (w.heap.size, [.int .i64 a.x, .int .i64 a.y, .int .i64 a.w, .int .i64 a.h]) (by simp)).row 2 _ rfl; have q68 := (hp.row (w.heap.size, [.int .i64 a.x, .int .i64 a.y, .int .i64 a.w, .int .i64 a.h]) (by simp)).row 3 _ rfl; have q69 := (hp.row (w.heap.size + 1, [.int .i64 b.x, .int .i64 b.y, .int .i64 b.w, .int .i64 b.h]) (by simp)).row 0 _ rfl; have q70 := (hp.row (w.heap.size + 1, [.int .i64 b.x, .int .i64 b.y, .int .i64 b.w, .int .i64 b.h]) (by simp)).row 1 _ rfl; have q71 := (hp.row (w.heap.size + 1, [.int .i64 b.x, .int .i64 b.y, .int .i64 b.w, .int .i64 b.h]) (by simp)).row 2 _ rfl; have q72 := (hp.row (w.heap.size + 1, [.int .i64 b.x, .int .i64 b.y, .int .i64 b.w, .int .i64 b.h]) (by simp)).row 3 _ rfl; have H1 := Lib.hid hp; clear hb hp)
        | (go_at_call 14; (with_reducible refine (KB.out _).mono ?_); rintro e w2 ⟨rfl, hb⟩; have hp := H1.out.below hb; have q73 := (hp.row (w.heap.size, [.int .i64 a.x, .int .i64 a.y, .int .i64 a.w, .int .i64 a.h]) (by simp)).row 0 _ rfl; have q74 := (hp.row (w.heap.size, [.int .i64 a.x, .int .i64 a.y, .int .i64 a.w, .int .i64 a.h]) (by simp)).row 1 _ rfl; have q75 := (hp.row (w.heap.size, [.int .i64 a.x, .int .i64 a.y, .int .i64 a.w, .int .i64 a.h]) (by simp)).row 2 _ rfl; have q76 := (hp.row (w.heap.size, [.int .i64 a.x, .int .i64 a.y, .int .i64 a.w, .int .i64 a.h]) (by simp)).row 3 _ rfl; have q77 := (hp.row (w.heap.size + 1, [.int .i64 b.x, .int .i64 b.y, .int .i64 b.w, .int .i64 b.h]) (by simp)).row 0 _ rfl; have q78 := (hp.row (w.heap.size + 1, [.int .i64 b.x, .int .i64 b.y, .int .i64 b.w, .int .i64 b.h]) (by simp)).row 1 _ rfl; have q79 := (hp.row (w.heap.size + 1, [.int .i64 b.x, .int .i64 b.y, .int .i64 b.w, .int .i64 b.h]) (by simp)).row 2 _ rfl; have q80 := (hp.row (w.heap.size + 1, [.int .i64 b.x, .int .i64 b.y, .int .i64 b.w, .int .i64 b.h]) (by simp)).row 3 _ rfl; have H2 := Lib.hid hp; clear hb hp)
        | fail)
      go_ret
      exact ⟨rfl, H2.out.bw⟩
    | true =>
      rw [hvb] at KB
      obtain ⟨⟨a1, a2⟩, ⟨a3, a4⟩, ⟨a5, a6⟩, ⟨a7, a8⟩, a9, a10⟩ := vRc_b hva
      obtain ⟨⟨b1, b2⟩, ⟨b3, b4⟩, ⟨b5, b6⟩, ⟨b7, b8⟩, b9, b10⟩ := vRc_b hvb
      have K1 := Lib.hid (fun W => within_s a.x a.w b.x b.w ⟨a1, a2⟩ ⟨a5, a6⟩ ⟨b1, b2⟩ ⟨b5, b6⟩ W)
      have K2 := Lib.hid (fun W => within_s a.y a.h b.y b.h ⟨a3, a4⟩ ⟨a7, a8⟩ ⟨b3, b4⟩ ⟨b7, b8⟩ W)
      clear hva hvb
      simp only [Bool.true_and]
      generalize (decide (b.x ≤ a.x) && decide (a.x + a.w ≤ b.x + b.w)) = o1 at K1 ⊢
      generalize (decide (b.y ≤ a.y) && decide (a.y + a.h ≤ b.y + b.h)) = o2 at K2 ⊢
      cases o1 <;> cases o2
      all_goals
        go_enter Tryz.func18, Tryz.ntmps18
        go_wp2_with (first
          | (go_at_call 14; (with_reducible refine (KA.out _).mono ?_); rintro e w1 ⟨rfl, hb⟩; have hp := H0.out.below hb; have q81 := (hp.row (w.heap.size, [.int .i64 a.x, .int .i64 a.y, .int .i64 a.w, .int .i64 a.h]) (by simp)).row 0 _ rfl; have q82 := (hp.row (w.heap.size, [.int .i64 a.x, .int .i64 a.y, .int .i64 a.w, .int .i64 a.h]) (by simp)).row 1 _ rfl; have q83 := (hp.row (w.heap.size, [.int .i64 a.x, .int .i64 a.y, .int .i64 a.w, .int .i64 a.h]) (by simp)).row 2 _ rfl; have q84 := (hp.row (w.heap.size, [.int .i64 a.x, .int .i64 a.y, .int .i64 a.w, .int .i64 a.h]) (by simp)).row 3 _ rfl; have q85 := (hp.row (w.heap.size + 1, [.int .i64 b.x, .int .i64 b.y, .int .i64 b.w, .int .i64 b.h]) (by simp)).row 0 _ rfl; have q86 := (hp.row (w.heap.size + 1, [.int .i64 b.x, .int .i64 b.y, .int .i64 b.w, .int .i64 b.h]) (by simp)).row 1 _ rfl; have q87 := (hp.row (w.heap.size + 1, [.int .i64 b.x, .int .i64 b.y, .int .i64 b.w, .int .i64 b.h]) (by simp)).row 2 _ rfl; have q88 := (hp.row (w.heap.size + 1, [.int .i64 b.x, .int .i64 b.y, .int .i64 b.w, .int .i64 b.h]) (by simp)).row 3 _ rfl; have H1 := Lib.hid hp; clear hb hp)
          | (go_at_call 14; (with_reducible refine (KB.out _).mono ?_); rintro e w2 ⟨rfl, hb⟩; have hp := H1.out.below hb; have q89 := (hp.row (w.heap.size, [.int .i64 a.x, .int .i64 a.y, .int .i64 a.w, .int .i64 a.h]) (by simp)).row 0 _ rfl; have q90 := (hp.row (w.heap.size, [.int .i64 a.x, .int .i64 a.y, .int .i64 a.w, .int .i64 a.h]) (by simp)).row 1 _ rfl; have q91 := (hp.row (w.heap.size, [.int .i64 a.x, .int .i64 a.y, .int .i64 a.w, .int .i64 a.h]) (by simp)).row 2 _ rfl; have q92 := (hp.row (w.heap.size, [.int .i64 a.x, .int .i64 a.y, .int .i64 a.w, .int .i64 a.h]) (by simp)).row 3 _ rfl; have q93 := (hp.row (w.heap.size + 1, [.int .i64 b.x, .int .i64 b.y, .int .i64 b.w, .int .i64 b.h]) (by simp)).row 0 _ rfl; have q94 := (hp.row (w.heap.size + 1, [.int .i64 b.x, .int .i64 b.y, .int .i64 b.w, .int .i64 b.h]) (by simp)).row 1 _ rfl; have q95 := (hp.row (w.heap.size + 1, [.int .i64 b.x, .int .i64 b.y, .int .i64 b.w, .int .i64 b.h]) (by simp)).row 2 _ rfl; have q96 := (hp.row (w.heap.size + 1, [.int .i64 b.x, .int .i64 b.y, .int .i64 b.w, .int .i64 b.h]) (by simp)).row 3 _ rfl; have H2 := Lib.hid hp; clear hb hp)
          | (go_at_call 47; (with_reducible refine (K1.out _).mono ?_); rintro e w' ⟨rfl, rfl⟩)
          | (go_at_call 47; (with_reducible refine (K2.out _).mono ?_); rintro e w' ⟨rfl, rfl⟩)
          | fail)
      all_goals
        go_ret
        exact ⟨rfl, H2.out.bw⟩
end Go.Proofs.YtgngepbemgbbeaaGreatDoor

namespace Go.Proofs.YtgngepbemgbbeaaGreatDoor
open Go.RowKit Go.Shelf
attribute [local go_sem] Oper.semAt_some

def fewB (ps : List Pl) : Bool := decide (1 ≤ ps.length) && decide (ps.length ≤ 40) && ps.all vP
set_option maxHeartbeats 1000000 in
theorem few_s {B cap n : Nat} {ps : List Pl} (hl : ps.length = n) (hn : n ≤ 1000000) (w : World) (h : PsAt B ps w) :
    Calls Tryz.prog 48 #[.slice (some ⟨B, 0, none⟩) n cap] w fun e W' => e = .returned (.bool (fewB ps)) ∧ Below w.heap.size w W' := by
  have KV := Lib.hid (valid_s (cap := cap) hl hn w h)
  unfold fewB
  rw [hl]
  by_cases h1 : 1 ≤ n ∧ n ≤ 40
  · have KI := Lib.hid (fun W => in_t (n := (n : Int)) (lo := 1) (hi := 40) (by omega) (by omega) W)
    rw [decide_eq_true h1.1, decide_eq_true h1.2, Bool.true_and, Bool.true_and]
    clear h1 hl h
    generalize ps.all vP = v at KV ⊢
    go_enter Tryz.func48, Tryz.ntmps48
    go_wp2_with (first
      | (go_at_call 44; (with_reducible refine (KI.out _).mono ?_); rintro e w' ⟨rfl, rfl⟩)
      | (go_at_call 75; (with_reducible refine (KV.out).mono ?_); rintro e w1 ⟨rfl, hb⟩)
      | fail)
    go_ret
    exact ⟨rfl, hb⟩
  · have KI := Lib.hid (fun W => in_f (n := (n : Int)) (lo := 1) (hi := 40) (by omega) W)
    rw [show (decide (1 ≤ n) && decide (n ≤ 40) && ps.all vP) = false by rw [show (decide (1 ≤ n) && decide (n ≤ 40)) = false by simp; omega]; rfl]
    clear h1 hl h KV
    go_enter Tryz.func48, Tryz.ntmps48
    go_wp2_with (go_at_call 44; (with_reducible refine (KI.out _).mono ?_); rintro e w' ⟨rfl, rfl⟩)
    go_ret
    exact ⟨rfl, Below.refl _ _⟩
end Go.Proofs.YtgngepbemgbbeaaGreatDoor

namespace Go.Proofs.YtgngepbemgbbeaaGreatDoor
open Go.RowKit Go.Shelf
attribute [local go_sem] Oper.semAt_some

def rcC (r : Rc) : List Value := [.int .i64 r.x, .int .i64 r.y, .int .i64 r.w, .int .i64 r.h]
theorem aroundS_self (p : Pl) : aroundS ⟨p.x, p.y, 0, 0⟩ p = ⟨p.x, p.y, 0, 0⟩ := by
  unfold aroundS
  simp only [Rc.mk.injEq]
  refine ⟨?_, ?_, ?_, ?_⟩ <;> omega
theorem around_take (p : Pl) (l : List Pl) (hp : vP p = true) (hl : ∀ q ∈ l, vP q = true) (k : Nat) : vRc (((p :: l).take k).foldl aroundS ⟨p.x, p.y, 0, 0⟩) = true := by
  cases k with
  | zero => exact pt_valid hp
  | succ k =>
    rw [List.take_succ_cons, List.foldl_cons, aroundS_self]
    exact around_valid p (l.take k) hp (fun q hq => hl q (List.mem_of_mem_take hq))
set_option maxHeartbeats 4000000 in
theorem around_s {B cap n : Nat} {p : Pl} {l : List Pl} (hl : (p :: l).length = n) (hv : fewB (p :: l) = true) (w : World) (h : PsAt B (p :: l) w) :
    Calls Tryz.prog 20 #[.slice (some ⟨B, 0, none⟩) n cap] w fun e W' => e = .returned (.tuple #[.agg #[.int .i64 (aroundL p l).x, .int .i64 (aroundL p l).y, .int .i64 (aroundL p l).w, .int .i64 (aroundL p l).h], .int .i64 0]) ∧ Below w.heap.size w W' := by
  have hn : n ≤ 40 ∧ 1 ≤ n := by
    unfold fewB at hv
    simp only [Bool.and_eq_true, decide_eq_true_eq] at hv
    omega
  have hall : vP p = true ∧ ∀ q ∈ l, vP q = true := by
    unfold fewB at hv
    simp only [Bool.and_eq_true] at hv
    have := List.all_eq_true.1 hv.2
    exact ⟨this p (by simp), fun q hq => this q (by simp [hq])⟩
  have H0 := Lib.hid (show AzAt [(w.heap.size, [.int .i64 0, .int .i64 0, .int .i64 0, .int .i64 0])] w _ from (AzAt.start w).push [.int .i64 0, .int .i64 0, .int .i64 0, .int .i64 0] 29)
  have KF := Lib.hid (fun W (hb : Below w.heap.size w W) => few_s (cap := cap) hl (by omega) W (h.below hb))
  rw [hv] at KF
  have HP := Lib.hid h
  have HA := Lib.hid hall
  have HL := Lib.hid hl
  have hB := h.sz
  obtain ⟨rf, hrf⟩ : ∃ rf, rf = aroundL p l := ⟨_, rfl⟩
  rw [← hrf]
  have HRF := Lib.hid hrf
  clear h hall hv hl hrf
  go_enter Tryz.func20, Tryz.ntmps20
  go_wp2_with (first
    | (go_at_call 48; (with_reducible refine (KF.out _ H0.out.bw).mono ?_); rintro e w1 ⟨rfl, hb⟩; have H1 := Lib.hid (H0.out.below hb); have c0 := (HP.out.below H1.out.bw).row 0 p rfl; have q0 := c0.1; have q1 := c0.2; clear hb c0)
    | fail)
  simp only [Nat.zero_mul, Nat.zero_add] at q0 q1
  have hn2 : 0 < n := hn.2
  have hs1 : B < w1.heap.size := Nat.lt_of_lt_of_le hB H1.out.bw.size
  have H2 := Lib.hid (show AzAt [(w1.heap.size, [.int .i64 p.x, .int .i64 p.y, .int .i64 0, .int .i64 0]), (w.heap.size, [.int .i64 0, .int .i64 0, .int .i64 0, .int .i64 0])] w _ from (H1.out.push [.int .i64 p.x, .int .i64 p.y, .int .i64 0, .int .i64 0] 29).drew)
  have hs2 : w.heap.size ≤ w1.heap.size := H1.out.bw.size
  have hs3 : w.heap.size < w1.heap.size := (H1.out.row (w.heap.size, [.int .i64 0, .int .i64 0, .int .i64 0, .int .i64 0]) (by simp)).sz
  obtain ⟨R, hR⟩ : ∃ R, R = w1.heap.size := ⟨_, rfl⟩
  go_region
  rw [← hR] at H2 hs2 hs3 ⊢
  obtain ⟨W2, hW2⟩ : ∃ W2, W2 = (w1.alloc (Obj.cells #[Value.int IntKind.i64 p.x, Value.int IntKind.i64 p.y, Value.int IntKind.i64 0, Value.int IntKind.i64 0] 29)).drew := ⟨_, rfl⟩
  rw [← hW2] at H2
  rw [← hW2]
  clear hR hW2 q0 q1 hs1 H1
  go_wp2
  go_loopw [24] (fun i wr => ∃ k : Nat, k ≤ n ∧ i = .int .i64 (k : Int) ∧ AzAt [(R, rcC (((p :: l).take k).foldl aroundS ⟨p.x, p.y, 0, 0⟩)), (w.heap.size, [.int .i64 0, .int .i64 0, .int .i64 0, .int .i64 0])] w wr) (fun i _ => n - (intOf i).toNat)
  case atStart => exact ⟨0, Nat.zero_le _, rfl, H2.out⟩
  case round =>
    obtain ⟨k, hk, rfl, hA⟩ := hrel
    by_cases hlt : k < n
    · obtain ⟨q, hq⟩ : ∃ q, (p :: l)[k]? = some q := ⟨(p :: l)[k]'(by have := HL.out; omega), List.getElem?_eq_getElem _⟩
      obtain ⟨c0, c1⟩ := ((HP.out.below hA.bw).row k q hq)
      obtain ⟨r, hr⟩ : ∃ r, r = ((p :: l).take k).foldl aroundS ⟨p.x, p.y, 0, 0⟩ := ⟨_, rfl⟩
      rw [← hr] at hA
      have HE := Lib.hid (show ((p :: l).take (k + 1)).foldl aroundS ⟨p.x, p.y, 0, 0⟩ = aroundS r q by rw [List.take_add_one, hq, hr, List.foldl_append]; rfl)
      have hvr : vRc r = true := by rw [hr]; exact around_take p l HA.out.1 HA.out.2 k
      have hvq : vP q = true := by
        rcases List.mem_cons.1 (List.mem_of_getElem? hq) with rfl | h
        · exact HA.out.1
        · exact HA.out.2 q h
      have b1 := vRc_iff.1 hvr
      have b2 := vP_iff.1 hvq
      have a0 := (hA.row (R, rcC r) (by simp)).row 0 _ rfl
      have a1 := (hA.row (R, rcC r) (by simp)).row 1 _ rfl
      have a2 := (hA.row (R, rcC r) (by simp)).row 2 _ rfl
      have a3 := (hA.row (R, rcC r) (by simp)).row 3 _ rfl
      have f0 := (hA.row (R, rcC r) (by simp)).fz 0 (by simp [rcC])
      have f1 := (hA.row (R, rcC r) (by simp)).fz 1 (by simp [rcC])
      have f2 := (hA.row (R, rcC r) (by simp)).fz 2 (by simp [rcC])
      have f3 := (hA.row (R, rcC r) (by simp)).fz 3 (by simp [rcC])
      have sR := (hA.row (R, rcC r) (by simp)).sz
      have sB : B < wr.heap.size := Nat.lt_of_lt_of_le hB hA.bw.size
      have HH := Lib.hid hA
      have HR := Lib.hid hr
      have HQ := Lib.hid hq
      clear hA hr hq hvr hvq
      go_wp2
      go_region
      go_wp2
      refine ⟨⟨k + 1, by omega, by go_num, ?_⟩, by simp only [intOf]; omega⟩
      rw [HE.out]
      rw [show rcC (aroundS r q) = [.int .i64 (if q.x < r.x then q.x else r.x), .int .i64 (if q.y < r.y then q.y else r.y), .int .i64 ((if r.x + r.w < q.x then q.x else r.x + r.w) - if q.x < r.x then q.x else r.x), .int .i64 ((if r.y + r.h < q.y then q.y else r.y + r.h) - if q.y < r.y then q.y else r.y)] by
        unfold rcC aroundS
        simp only [List.cons.injEq, Value.int.injEq, true_and, and_true]
        refine ⟨?_, ?_, ?_, ?_⟩ <;> (repeat' split) <;> omega]
      exact ((((((HH.out.set hs2 (by simp <;> omega) (i := 0) rfl _).set hs2 (by simp <;> omega) (i := 1) rfl _).set hs2 (by simp <;> omega) (i := 2) rfl _).set hs2 (by simp <;> omega) (i := 3) rfl _).al _).drew)
    · obtain rfl : k = n := by omega
      have e : ((p :: l).take k).foldl aroundS ⟨p.x, p.y, 0, 0⟩ = aroundL p l := by
        rw [← HL.out, List.take_length, List.foldl_cons, aroundS_self]
        rfl
      rw [e] at hA
      clear e
      rw [← HRF.out] at hA
      have a0 := (hA.row (R, rcC rf) (by simp)).row 0 _ rfl
      have a1 := (hA.row (R, rcC rf) (by simp)).row 1 _ rfl
      have a2 := (hA.row (R, rcC rf) (by simp)).row 2 _ rfl
      have a3 := (hA.row (R, rcC rf) (by simp)).row 3 _ rfl
      have d0 := (hA.row (w.heap.size, [.int .i64 0, .int .i64 0, .int .i64 0, .int .i64 0]) (by simp)).row 0 _ rfl
      have d1 := (hA.row (w.heap.size, [.int .i64 0, .int .i64 0, .int .i64 0, .int .i64 0]) (by simp)).row 1 _ rfl
      have d2 := (hA.row (w.heap.size, [.int .i64 0, .int .i64 0, .int .i64 0, .int .i64 0]) (by simp)).row 2 _ rfl
      have d3 := (hA.row (w.heap.size, [.int .i64 0, .int .i64 0, .int .i64 0, .int .i64 0]) (by simp)).row 3 _ rfl
      have f0 := (hA.row (w.heap.size, [.int .i64 0, .int .i64 0, .int .i64 0, .int .i64 0]) (by simp)).fz 0 (by simp)
      have f1 := (hA.row (w.heap.size, [.int .i64 0, .int .i64 0, .int .i64 0, .int .i64 0]) (by simp)).fz 1 (by simp)
      have f2 := (hA.row (w.heap.size, [.int .i64 0, .int .i64 0, .int .i64 0, .int .i64 0]) (by simp)).fz 2 (by simp)
      have f3 := (hA.row (w.heap.size, [.int .i64 0, .int .i64 0, .int .i64 0, .int .i64 0]) (by simp)).fz 3 (by simp)
      have HH := Lib.hid (AzAt.swap hA)
      clear hA
      go_wp2
      have hp := (((HH.out.set (Nat.le_refl _) (by simp <;> omega) (i := 0) rfl (.int .i64 rf.x)).set (Nat.le_refl _) (by simp <;> omega) (i := 1) rfl (.int .i64 rf.y)).set (Nat.le_refl _) (by simp <;> omega) (i := 2) rfl (.int .i64 rf.w)).set (Nat.le_refl _) (by simp <;> omega) (i := 3) rfl (.int .i64 rf.h)
      generalize (((wr.setCell ⟨w.heap.size, 0, none⟩ (.int .i64 rf.x)).setCell ⟨w.heap.size, 1, none⟩ (.int .i64 rf.y)).setCell ⟨w.heap.size, 2, none⟩ (.int .i64 rf.w)).setCell ⟨w.heap.size, 3, none⟩ (.int .i64 rf.h) = WF at hp ⊢
      have q0 := (hp.row (w.heap.size, [.int .i64 rf.x, .int .i64 rf.y, .int .i64 rf.w, .int .i64 rf.h]) (by simp)).row 0 _ rfl
      have q1 := (hp.row (w.heap.size, [.int .i64 rf.x, .int .i64 rf.y, .int .i64 rf.w, .int .i64 rf.h]) (by simp)).row 1 _ rfl
      have q2 := (hp.row (w.heap.size, [.int .i64 rf.x, .int .i64 rf.y, .int .i64 rf.w, .int .i64 rf.h]) (by simp)).row 2 _ rfl
      have q3 := (hp.row (w.heap.size, [.int .i64 rf.x, .int .i64 rf.y, .int .i64 rf.w, .int .i64 rf.h]) (by simp)).row 3 _ rfl
      refine bodyPost_ret (v := .tuple #[.agg #[.int .i64 rf.x, .int .i64 rf.y, .int .i64 rf.w, .int .i64 rf.h], .int .i64 0]) ?_ rfl ⟨rfl, hp.bw⟩
      simp [results, Tryz.results20, go_sem, Result.andThen, q0, q1, q2, q3]
end Go.Proofs.YtgngepbemgbbeaaGreatDoor

