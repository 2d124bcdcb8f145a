/-
  PlaneCrosses, walked: the law answers true.
-/
import Derived.Test.YtgngepbemgbbeaaGreatDoorMPa1
namespace Go.Proofs.YtgngepbemgbbeaaGreatDoor
open Go.RowKit Go.Shelf Go.Sort
attribute [local go_sem] Oper.semAt_some

theorem sign3 (n : Int) : (decide (n < 0) = true ∧ decide (0 < n) = false) ∨ (decide (n < 0) = false ∧ decide (0 < n) = false) ∨ (decide (n < 0) = false ∧ decide (0 < n) = true) := by
  rcases Int.lt_trichotomy n 0 with h | h | h
  · exact .inl ⟨decide_eq_true h, decide_eq_false (by omega)⟩
  · exact .inr (.inl ⟨decide_eq_false (by omega), decide_eq_false (by omega)⟩)
  · exact .inr (.inr ⟨decide_eq_false (by omega), decide_eq_true h⟩)
theorem mul_unit {a b : Int} (ha : -1 ≤ a ∧ a ≤ 1) (hb : -1 ≤ b ∧ b ≤ 1) : -1 ≤ a * b ∧ a * b ≤ 1 := by
  rcases (by omega : a = -1 ∨ a = 0 ∨ a = 1) with rfl | rfl | rfl <;> omega
set_option maxHeartbeats 16000000 in
set_option maxRecDepth 100000 in
theorem PlaneCrosses_law (a0 a1 b0 b1 c0 c1 d0 d1 : Int) (ha0 : -9223372036854775808 ≤ a0 ∧ a0 ≤ 9223372036854775807) (ha1 : -9223372036854775808 ≤ a1 ∧ a1 ≤ 9223372036854775807) (hb0 : -9223372036854775808 ≤ b0 ∧ b0 ≤ 9223372036854775807) (hb1 : -9223372036854775808 ≤ b1 ∧ b1 ≤ 9223372036854775807) (hc0 : -9223372036854775808 ≤ c0 ∧ c0 ≤ 9223372036854775807) (hc1 : -9223372036854775808 ≤ c1 ∧ c1 ≤ 9223372036854775807) (hd0 : -9223372036854775808 ≤ d0 ∧ d0 ≤ 9223372036854775807) (hd1 : -9223372036854775808 ≤ d1 ∧ d1 ≤ 9223372036854775807) (w : World) (hq : IOps w ∧ FrOp w) :
    Calls Tryz.prog 5 #[.agg #[.int .i64 a0, .int .i64 a1, .int .i64 b0, .int .i64 b1, .int .i64 c0, .int .i64 c1, .int .i64 d0, .int .i64 d1]] w fun e W' => e = .returned (.bool true) ∧ Below w.heap.size w W' := by
  have KS := Lib.hid (fun (W : World) (hb : Below w.heap.size w W) => sane7_s (hq.1.below hb) (hq.2.below hb))
  have Kp := Lib.hid (fun (W : World) => plN_s ha0 ha1 W)
  have vp := plN_v a0 a1
  have Kq := Lib.hid (fun (W : World) => plN_s hb0 hb1 W)
  have vq := plN_v b0 b1
  have Kr := Lib.hid (fun (W : World) => plN_s hc0 hc1 W)
  have vr := plN_v c0 c1
  have Ks := Lib.hid (fun (W : World) => plN_s hd0 hd1 W)
  have vs := plN_v d0 d1
  generalize plN a0 a1 = p at Kp vp
  generalize plN b0 b1 = q at Kq vq
  generalize plN c0 c1 = r at Kr vr
  generalize plN d0 d1 = s at Ks vs
  have X1 := Lib.hid (fun (W : World) => cross_s p q r s W)
  have X2 := Lib.hid (fun (W : World) => cross_s r s p q W)
  rw [cross_comm] at X2
  have X3 := Lib.hid (fun (W : World) => cross_s q p r s W)
  rw [cross_left] at X3
  have X4 := Lib.hid (fun (W : World) => cross_s p q s r W)
  rw [cross_right] at X4
  have X5 := Lib.hid (fun (W : World) => cross_s p q p s W)
  rw [cross_abad vp vq vs] at X5
  have X6 := Lib.hid (fun (W : World) => cross_s p q q q W)
  rw [cross_abbb vp vq] at X6
  have S1 := Lib.hid (fun (W : World) => side_s p q r W)
  have S2 := Lib.hid (fun (W : World) => side_s p q s W)
  have S3 := Lib.hid (fun (W : World) => side_s r s p W)
  have S4 := Lib.hid (fun (W : World) => side_s r s q W)
  have h1 : sideP p q r * sideP p q s < 0 ∧ sideP r s p * sideP r s q < 0 → crossP p q r s = true := fun h => cross_strict vp vq vr vs h.1 h.2
  have h2 : 0 < sideP p q r * sideP p q s ∨ 0 < sideP r s p * sideP r s q → crossP p q r s = false := fun h => cross_off h
  have g1 := side_range p q r
  have g2 := side_range p q s
  have g3 := side_range r s p
  have g4 := side_range r s q
  generalize crossP p q r s = X at X1 X2 X3 X4 h1 h2
  generalize sideP p q r = n1 at S1 h1 h2 g1
  generalize sideP p q s = n2 at S2 h1 h2 g2
  generalize sideP r s p = n3 at S3 h1 h2 g3
  generalize sideP r s q = n4 at S4 h1 h2 g4
  have m1 : -1 ≤ n1 * n2 ∧ n1 * n2 ≤ 1 := mul_unit g1 g2
  have m2 : -1 ≤ n3 * n4 ∧ n3 * n4 ≤ 1 := mul_unit g3 g4
  obtain ⟨one, hone⟩ : ∃ one, n1 * n2 = one := ⟨_, rfl⟩
  obtain ⟨two, htwo⟩ : ∃ two, n3 * n4 = two := ⟨_, rfl⟩
  have e1 : IntKind.i64.wrap (n1 * n2) = one := by rw [hone]; exact IntWalk.i64_in _ (by omega)
  have e2 : IntKind.i64.wrap (n3 * n4) = two := by rw [htwo]; exact IntWalk.i64_in _ (by omega)
  rw [hone] at h1 h2
  rw [htwo] at h1 h2
  have HH := Lib.hid (And.intro h1 h2)
  clear h1 h2 hone htwo g1 g2 g3 g4 m1 m2 vp vq vr vs
  have HC := Lib.hid (show AzAt [(w.heap.size, [.int .i64 a0, .int .i64 a1, .int .i64 b0, .int .i64 b1, .int .i64 c0, .int .i64 c1, .int .i64 d0, .int .i64 d1])] w _ from (AzAt.start w).push [.int .i64 a0, .int .i64 a1, .int .i64 b0, .int .i64 b1, .int .i64 c0, .int .i64 c1, .int .i64 d0, .int .i64 d1] 60)
  clear ha0 ha1 hb0 hb1 hc0 hc1 hd0 hd1 hq
  go_enter Tryz.func5, Tryz.ntmps5
  go_wp2_with (first
    | (go_at_call 10; (with_reducible refine (KS.out _ HC.out.bw).mono ?_); rintro e w1 ⟨rfl, hb⟩; replace HC := Lib.hid (HC.out.below hb); clear hb; have x0 := ((HC.out.at (B := w.heap.size) (l := [.int .i64 a0, .int .i64 a1, .int .i64 b0, .int .i64 b1, .int .i64 c0, .int .i64 c1, .int .i64 d0, .int .i64 d1]) (by simp)).row 0 _ rfl); have x1 := ((HC.out.at (B := w.heap.size) (l := [.int .i64 a0, .int .i64 a1, .int .i64 b0, .int .i64 b1, .int .i64 c0, .int .i64 c1, .int .i64 d0, .int .i64 d1]) (by simp)).row 1 _ rfl))
    | (go_at_call 37; (with_reducible refine (Kp.out _).mono ?_); rintro e wP ⟨rfl, hb⟩; replace HC := Lib.hid ((HC.out.below hb).push [.int .i64 p.x, .int .i64 p.y] 26); clear hb x0 x1; have x2 := ((HC.out.at (B := w.heap.size) (l := [.int .i64 a0, .int .i64 a1, .int .i64 b0, .int .i64 b1, .int .i64 c0, .int .i64 c1, .int .i64 d0, .int .i64 d1]) (by simp)).row 2 _ rfl); have x3 := ((HC.out.at (B := w.heap.size) (l := [.int .i64 a0, .int .i64 a1, .int .i64 b0, .int .i64 b1, .int .i64 c0, .int .i64 c1, .int .i64 d0, .int .i64 d1]) (by simp)).row 3 _ rfl))
    | (go_at_call 37; (with_reducible refine (Kq.out _).mono ?_); rintro e wQ ⟨rfl, hb⟩; replace HC := Lib.hid ((HC.out.below hb).push [.int .i64 q.x, .int .i64 q.y] 26); clear hb x2 x3; have x4 := ((HC.out.at (B := w.heap.size) (l := [.int .i64 a0, .int .i64 a1, .int .i64 b0, .int .i64 b1, .int .i64 c0, .int .i64 c1, .int .i64 d0, .int .i64 d1]) (by simp)).row 4 _ rfl); have x5 := ((HC.out.at (B := w.heap.size) (l := [.int .i64 a0, .int .i64 a1, .int .i64 b0, .int .i64 b1, .int .i64 c0, .int .i64 c1, .int .i64 d0, .int .i64 d1]) (by simp)).row 5 _ rfl))
    | (go_at_call 37; (with_reducible refine (Kr.out _).mono ?_); rintro e wR ⟨rfl, hb⟩; replace HC := Lib.hid ((HC.out.below hb).push [.int .i64 r.x, .int .i64 r.y] 26); clear hb x4 x5; have x6 := ((HC.out.at (B := w.heap.size) (l := [.int .i64 a0, .int .i64 a1, .int .i64 b0, .int .i64 b1, .int .i64 c0, .int .i64 c1, .int .i64 d0, .int .i64 d1]) (by simp)).row 6 _ rfl); have x7 := ((HC.out.at (B := w.heap.size) (l := [.int .i64 a0, .int .i64 a1, .int .i64 b0, .int .i64 b1, .int .i64 c0, .int .i64 c1, .int .i64 d0, .int .i64 d1]) (by simp)).row 7 _ rfl))
    | (go_at_call 37; (with_reducible refine (Ks.out _).mono ?_); rintro e wS ⟨rfl, hb⟩; replace HC := Lib.hid ((HC.out.below hb).push [.int .i64 s.x, .int .i64 s.y] 26); clear hb x6 x7; have y0 := ((HC.out.at (B := wP.heap.size) (l := [.int .i64 p.x, .int .i64 p.y]) (by simp)).row 0 _ rfl); have y1 := ((HC.out.at (B := wP.heap.size) (l := [.int .i64 p.x, .int .i64 p.y]) (by simp)).row 1 _ rfl); have y2 := ((HC.out.at (B := wQ.heap.size) (l := [.int .i64 q.x, .int .i64 q.y]) (by simp)).row 0 _ rfl); have y3 := ((HC.out.at (B := wQ.heap.size) (l := [.int .i64 q.x, .int .i64 q.y]) (by simp)).row 1 _ rfl); have y4 := ((HC.out.at (B := wR.heap.size) (l := [.int .i64 r.x, .int .i64 r.y]) (by simp)).row 0 _ rfl); have y5 := ((HC.out.at (B := wR.heap.size) (l := [.int .i64 r.x, .int .i64 r.y]) (by simp)).row 1 _ rfl); have y6 := ((HC.out.at (B := wS.heap.size) (l := [.int .i64 s.x, .int .i64 s.y]) (by simp)).row 0 _ rfl); have y7 := ((HC.out.at (B := wS.heap.size) (l := [.int .i64 s.x, .int .i64 s.y]) (by simp)).row 1 _ rfl))
    | (go_at_call 33; (with_reducible refine (X1.out _).mono ?_); rintro e w2 ⟨rfl, hb⟩; replace HC := Lib.hid (HC.out.below hb); clear hb; clear y0 y1 y2 y3 y4 y5 y6 y7; have y0 := ((HC.out.at (B := wP.heap.size) (l := [.int .i64 p.x, .int .i64 p.y]) (by simp)).row 0 _ rfl); have y1 := ((HC.out.at (B := wP.heap.size) (l := [.int .i64 p.x, .int .i64 p.y]) (by simp)).row 1 _ rfl); have y2 := ((HC.out.at (B := wQ.heap.size) (l := [.int .i64 q.x, .int .i64 q.y]) (by simp)).row 0 _ rfl); have y3 := ((HC.out.at (B := wQ.heap.size) (l := [.int .i64 q.x, .int .i64 q.y]) (by simp)).row 1 _ rfl); have y4 := ((HC.out.at (B := wR.heap.size) (l := [.int .i64 r.x, .int .i64 r.y]) (by simp)).row 0 _ rfl); have y5 := ((HC.out.at (B := wR.heap.size) (l := [.int .i64 r.x, .int .i64 r.y]) (by simp)).row 1 _ rfl); have y6 := ((HC.out.at (B := wS.heap.size) (l := [.int .i64 s.x, .int .i64 s.y]) (by simp)).row 0 _ rfl); have y7 := ((HC.out.at (B := wS.heap.size) (l := [.int .i64 s.x, .int .i64 s.y]) (by simp)).row 1 _ rfl))
    | (go_at_call 33; (with_reducible refine (X2.out _).mono ?_); rintro e w2 ⟨rfl, hb⟩; replace HC := Lib.hid (HC.out.below hb); clear hb; clear y0 y1 y2 y3 y4 y5 y6 y7; have y0 := ((HC.out.at (B := wP.heap.size) (l := [.int .i64 p.x, .int .i64 p.y]) (by simp)).row 0 _ rfl); have y1 := ((HC.out.at (B := wP.heap.size) (l := [.int .i64 p.x, .int .i64 p.y]) (by simp)).row 1 _ rfl); have y2 := ((HC.out.at (B := wQ.heap.size) (l := [.int .i64 q.x, .int .i64 q.y]) (by simp)).row 0 _ rfl); have y3 := ((HC.out.at (B := wQ.heap.size) (l := [.int .i64 q.x, .int .i64 q.y]) (by simp)).row 1 _ rfl); have y4 := ((HC.out.at (B := wR.heap.size) (l := [.int .i64 r.x, .int .i64 r.y]) (by simp)).row 0 _ rfl); have y5 := ((HC.out.at (B := wR.heap.size) (l := [.int .i64 r.x, .int .i64 r.y]) (by simp)).row 1 _ rfl); have y6 := ((HC.out.at (B := wS.heap.size) (l := [.int .i64 s.x, .int .i64 s.y]) (by simp)).row 0 _ rfl); have y7 := ((HC.out.at (B := wS.heap.size) (l := [.int .i64 s.x, .int .i64 s.y]) (by simp)).row 1 _ rfl))
    | (go_at_call 33; (with_reducible refine (X3.out _).mono ?_); rintro e w2 ⟨rfl, hb⟩; replace HC := Lib.hid (HC.out.below hb); clear hb; clear y0 y1 y2 y3 y4 y5 y6 y7; have y0 := ((HC.out.at (B := wP.heap.size) (l := [.int .i64 p.x, .int .i64 p.y]) (by simp)).row 0 _ rfl); have y1 := ((HC.out.at (B := wP.heap.size) (l := [.int .i64 p.x, .int .i64 p.y]) (by simp)).row 1 _ rfl); have y2 := ((HC.out.at (B := wQ.heap.size) (l := [.int .i64 q.x, .int .i64 q.y]) (by simp)).row 0 _ rfl); have y3 := ((HC.out.at (B := wQ.heap.size) (l := [.int .i64 q.x, .int .i64 q.y]) (by simp)).row 1 _ rfl); have y4 := ((HC.out.at (B := wR.heap.size) (l := [.int .i64 r.x, .int .i64 r.y]) (by simp)).row 0 _ rfl); have y5 := ((HC.out.at (B := wR.heap.size) (l := [.int .i64 r.x, .int .i64 r.y]) (by simp)).row 1 _ rfl); have y6 := ((HC.out.at (B := wS.heap.size) (l := [.int .i64 s.x, .int .i64 s.y]) (by simp)).row 0 _ rfl); have y7 := ((HC.out.at (B := wS.heap.size) (l := [.int .i64 s.x, .int .i64 s.y]) (by simp)).row 1 _ rfl))
    | (go_at_call 33; (with_reducible refine (X4.out _).mono ?_); rintro e w2 ⟨rfl, hb⟩; replace HC := Lib.hid (HC.out.below hb); clear hb; clear y0 y1 y2 y3 y4 y5 y6 y7; have y0 := ((HC.out.at (B := wP.heap.size) (l := [.int .i64 p.x, .int .i64 p.y]) (by simp)).row 0 _ rfl); have y1 := ((HC.out.at (B := wP.heap.size) (l := [.int .i64 p.x, .int .i64 p.y]) (by simp)).row 1 _ rfl); have y2 := ((HC.out.at (B := wQ.heap.size) (l := [.int .i64 q.x, .int .i64 q.y]) (by simp)).row 0 _ rfl); have y3 := ((HC.out.at (B := wQ.heap.size) (l := [.int .i64 q.x, .int .i64 q.y]) (by simp)).row 1 _ rfl); have y4 := ((HC.out.at (B := wR.heap.size) (l := [.int .i64 r.x, .int .i64 r.y]) (by simp)).row 0 _ rfl); have y5 := ((HC.out.at (B := wR.heap.size) (l := [.int .i64 r.x, .int .i64 r.y]) (by simp)).row 1 _ rfl); have y6 := ((HC.out.at (B := wS.heap.size) (l := [.int .i64 s.x, .int .i64 s.y]) (by simp)).row 0 _ rfl); have y7 := ((HC.out.at (B := wS.heap.size) (l := [.int .i64 s.x, .int .i64 s.y]) (by simp)).row 1 _ rfl))
    | fail)
  clear y0 y1 y2 y3 y4 y5 y6 y7
  have z0 := cell_regrown ((HC.out.at (B := wP.heap.size) (l := [.int .i64 p.x, .int .i64 p.y]) (by simp)).row 0 _ rfl)
  have z1 := cell_regrown ((HC.out.at (B := wP.heap.size) (l := [.int .i64 p.x, .int .i64 p.y]) (by simp)).row 1 _ rfl)
  have z2 := cell_regrown ((HC.out.at (B := wQ.heap.size) (l := [.int .i64 q.x, .int .i64 q.y]) (by simp)).row 0 _ rfl)
  have z3 := cell_regrown ((HC.out.at (B := wQ.heap.size) (l := [.int .i64 q.x, .int .i64 q.y]) (by simp)).row 1 _ rfl)
  have z4 := cell_regrown ((HC.out.at (B := wR.heap.size) (l := [.int .i64 r.x, .int .i64 r.y]) (by simp)).row 0 _ rfl)
  have z5 := cell_regrown ((HC.out.at (B := wR.heap.size) (l := [.int .i64 r.x, .int .i64 r.y]) (by simp)).row 1 _ rfl)
  have z6 := cell_regrown ((HC.out.at (B := wS.heap.size) (l := [.int .i64 s.x, .int .i64 s.y]) (by simp)).row 0 _ rfl)
  have z7 := cell_regrown ((HC.out.at (B := wS.heap.size) (l := [.int .i64 s.x, .int .i64 s.y]) (by simp)).row 1 _ rfl)
  have c0 := fun d os => Calls.regrown_of (d := d) (os := os) (S1.out (grow (redrawn w2 d) os))
  have c1 := fun d os => Calls.regrown_of (d := d) (os := os) (S2.out (grow (redrawn w2 d) os))
  refine wp_region_quiet_below (by kernel_rfl) (by kernel_rfl) ?_
  repeat (go_big_quiet_step (first | with_reducible exact c0 _ _ | with_reducible exact c1 _ _))
  refine wpQuiet_nil ?_
  intro W2 hw'
  have hb1 : Below w2.heap.size w2 W2 := by obtain ⟨⟨dq, osq⟩, hw''⟩ := hw'; rw [hw'']; exact below_regrown w2 dq osq
  have H2 := Lib.hid (HC.out.below hb1)
  clear hw' hb1 c0 c1
  clear z0 z1 z2 z3 z4 z5 z6 z7
  go_wp2
  have z0 := cell_regrown ((H2.out.at (B := wP.heap.size) (l := [.int .i64 p.x, .int .i64 p.y]) (by simp)).row 0 _ rfl)
  have z1 := cell_regrown ((H2.out.at (B := wP.heap.size) (l := [.int .i64 p.x, .int .i64 p.y]) (by simp)).row 1 _ rfl)
  have z2 := cell_regrown ((H2.out.at (B := wQ.heap.size) (l := [.int .i64 q.x, .int .i64 q.y]) (by simp)).row 0 _ rfl)
  have z3 := cell_regrown ((H2.out.at (B := wQ.heap.size) (l := [.int .i64 q.x, .int .i64 q.y]) (by simp)).row 1 _ rfl)
  have z4 := cell_regrown ((H2.out.at (B := wR.heap.size) (l := [.int .i64 r.x, .int .i64 r.y]) (by simp)).row 0 _ rfl)
  have z5 := cell_regrown ((H2.out.at (B := wR.heap.size) (l := [.int .i64 r.x, .int .i64 r.y]) (by simp)).row 1 _ rfl)
  have z6 := cell_regrown ((H2.out.at (B := wS.heap.size) (l := [.int .i64 s.x, .int .i64 s.y]) (by simp)).row 0 _ rfl)
  have z7 := cell_regrown ((H2.out.at (B := wS.heap.size) (l := [.int .i64 s.x, .int .i64 s.y]) (by simp)).row 1 _ rfl)
  have c0 := fun d os => Calls.regrown_of (d := d) (os := os) (S3.out (grow (redrawn W2 d) os))
  have c1 := fun d os => Calls.regrown_of (d := d) (os := os) (S4.out (grow (redrawn W2 d) os))
  refine wp_region_quiet_below (by kernel_rfl) (by kernel_rfl) ?_
  repeat (go_big_quiet_step (first | with_reducible exact c0 _ _ | with_reducible exact c1 _ _))
  refine wpQuiet_nil ?_
  intro W3 hw'
  have hb1 : Below W2.heap.size W2 W3 := by obtain ⟨⟨dq, osq⟩, hw''⟩ := hw'; rw [hw'']; exact below_regrown W2 dq osq
  have H3 := Lib.hid (H2.out.below hb1)
  clear hw' hb1 c0 c1
  clear z0 z1 z2 z3 z4 z5 z6 z7
  have y0 := ((H3.out.at (B := wP.heap.size) (l := [.int .i64 p.x, .int .i64 p.y]) (by simp)).row 0 _ rfl)
  have y1 := ((H3.out.at (B := wP.heap.size) (l := [.int .i64 p.x, .int .i64 p.y]) (by simp)).row 1 _ rfl)
  have y2 := ((H3.out.at (B := wQ.heap.size) (l := [.int .i64 q.x, .int .i64 q.y]) (by simp)).row 0 _ rfl)
  have y3 := ((H3.out.at (B := wQ.heap.size) (l := [.int .i64 q.x, .int .i64 q.y]) (by simp)).row 1 _ rfl)
  have y4 := ((H3.out.at (B := wR.heap.size) (l := [.int .i64 r.x, .int .i64 r.y]) (by simp)).row 0 _ rfl)
  have y5 := ((H3.out.at (B := wR.heap.size) (l := [.int .i64 r.x, .int .i64 r.y]) (by simp)).row 1 _ rfl)
  have y6 := ((H3.out.at (B := wS.heap.size) (l := [.int .i64 s.x, .int .i64 s.y]) (by simp)).row 0 _ rfl)
  have y7 := ((H3.out.at (B := wS.heap.size) (l := [.int .i64 s.x, .int .i64 s.y]) (by simp)).row 1 _ rfl)
  clear S1 S2 S3 S4 X1 X2 X3 X4 KS Kp Kq Kr Ks HC H2 e1 e2
  have hs1 : (decide (one < 0) = true ∧ decide (0 < one) = false) ∨ (decide (one < 0) = false ∧ decide (0 < one) = false) ∨ (decide (one < 0) = false ∧ decide (0 < one) = true) := sign3 one
  have hs2 : (decide (two < 0) = true ∧ decide (0 < two) = false) ∨ (decide (two < 0) = false ∧ decide (0 < two) = false) ∨ (decide (two < 0) = false ∧ decide (0 < two) = true) := sign3 two
  have hx : (decide (one < 0) = true → decide (two < 0) = true → X = true) ∧ (decide (0 < one) = true → X = false) ∧ (decide (0 < two) = true → X = false) :=
    ⟨fun a b => HH.out.1 ⟨of_decide_eq_true a, of_decide_eq_true b⟩, fun a => HH.out.2 (.inl (of_decide_eq_true a)), fun a => HH.out.2 (.inr (of_decide_eq_true a))⟩
  have HX := Lib.hid hx
  clear hx HH
  rcases hs1 with ⟨o1, o2⟩ | ⟨o1, o2⟩ | ⟨o1, o2⟩ <;> rcases hs2 with ⟨p1, p2⟩ | ⟨p1, p2⟩ | ⟨p1, p2⟩ <;> cases X
  all_goals
    first
      | (exfalso; have := HX.out.1 o1 p1; cases this; done)
      | (exfalso; have := HX.out.2.1 o2; cases this; done)
      | (exfalso; have := HX.out.2.2 p2; cases this; done)
      | (clear HX
         go_wp2_with (first
           | (go_at_call 33; (with_reducible refine (X5.out _).mono ?_); rintro e w4 ⟨rfl, hb⟩; replace H3 := Lib.hid (H3.out.below hb); clear hb; clear y0 y1 y2 y3 y4 y5 y6 y7; have y0 := ((H3.out.at (B := wP.heap.size) (l := [.int .i64 p.x, .int .i64 p.y]) (by simp)).row 0 _ rfl); have y1 := ((H3.out.at (B := wP.heap.size) (l := [.int .i64 p.x, .int .i64 p.y]) (by simp)).row 1 _ rfl); have y2 := ((H3.out.at (B := wQ.heap.size) (l := [.int .i64 q.x, .int .i64 q.y]) (by simp)).row 0 _ rfl); have y3 := ((H3.out.at (B := wQ.heap.size) (l := [.int .i64 q.x, .int .i64 q.y]) (by simp)).row 1 _ rfl); have y4 := ((H3.out.at (B := wR.heap.size) (l := [.int .i64 r.x, .int .i64 r.y]) (by simp)).row 0 _ rfl); have y5 := ((H3.out.at (B := wR.heap.size) (l := [.int .i64 r.x, .int .i64 r.y]) (by simp)).row 1 _ rfl); have y6 := ((H3.out.at (B := wS.heap.size) (l := [.int .i64 s.x, .int .i64 s.y]) (by simp)).row 0 _ rfl); have y7 := ((H3.out.at (B := wS.heap.size) (l := [.int .i64 s.x, .int .i64 s.y]) (by simp)).row 1 _ rfl))
           | (go_at_call 33; (with_reducible refine (X6.out _).mono ?_); rintro e w5 ⟨rfl, hb⟩; replace H3 := Lib.hid (H3.out.below hb); clear hb)
           | fail)
         go_ret
         exact ⟨rfl, H3.out.bw⟩)
end Go.Proofs.YtgngepbemgbbeaaGreatDoor
