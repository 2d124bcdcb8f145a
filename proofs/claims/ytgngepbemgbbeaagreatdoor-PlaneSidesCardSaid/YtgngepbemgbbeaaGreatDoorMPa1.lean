/-
  PlaneSides, walked: the law answers true.
-/
import Derived.Test.YtgngepbemgbbeaaGreatDoorZPw
namespace Go.Proofs.YtgngepbemgbbeaaGreatDoor
open Go.RowKit Go.Shelf Go.Sort
attribute [local go_sem] Oper.semAt_some

/-- The place that two integers determine. -/
def plN (x y : Int) : Pl := ⟨(pickN x 40 : Nat), (pickN y 40 : Nat)⟩
theorem plN_b (x y : Int) : (0 ≤ (plN x y).x ∧ (plN x y).x ≤ 39) ∧ (0 ≤ (plN x y).y ∧ (plN x y).y ≤ 39) := by
  have h1 := pickN_lt x (n := 40) (by decide)
  have h2 := pickN_lt y (n := 40) (by decide)
  unfold plN
  simp only
  omega
theorem vP_of {p : Pl} (h : (0 ≤ p.x ∧ p.x ≤ 4095) ∧ (0 ≤ p.y ∧ p.y ≤ 4095)) : vP p = true := by
  unfold vP
  simp only [Bool.and_eq_true, decide_eq_true_eq]
  omega
theorem plN_v (x y : Int) : vP (plN x y) = true := vP_of (by have := plN_b x y; omega)
theorem plN_s {x y : Int} (hx : -9223372036854775808 ≤ x ∧ x ≤ 9223372036854775807) (hy : -9223372036854775808 ≤ y ∧ y ≤ 9223372036854775807) (w : World) :
    Calls Tryz.prog 37 #[.agg #[.int .i64 x, .int .i64 y]] w fun e W' => e = .returned (.agg #[.int .i64 (plN x y).x, .int .i64 (plN x y).y]) ∧ Below w.heap.size w W' := place_s hx.1 hx.2 hy.1 hy.2 w
/-- What a place is moved to. -/
def mvN (p : Pl) (x y : Int) : Pl := p.mv (pickN x 1000 : Nat) (pickN y 1000 : Nat)
theorem mvN_v {p : Pl} (h : (0 ≤ p.x ∧ p.x ≤ 39) ∧ (0 ≤ p.y ∧ p.y ≤ 39)) (x y : Int) : vP (mvN p x y) = true := vP_of (by
  have h1 := pickN_lt x (n := 1000) (by decide)
  have h2 := pickN_lt y (n := 1000) (by decide)
  unfold mvN Pl.mv
  simp only
  omega)
theorem mvN_s {p : Pl} {x y : Int} (hv : vP p = true) (hx : -9223372036854775808 ≤ x ∧ x ≤ 9223372036854775807) (hy : -9223372036854775808 ≤ y ∧ y ≤ 9223372036854775807) (w : World) :
    Calls Tryz.prog 38 #[.agg #[.int .i64 p.x, .int .i64 p.y], .agg #[.int .i64 x, .int .i64 y]] w fun e W' => e = .returned (.agg #[.int .i64 (mvN p x y).x, .int .i64 (mvN p x y).y]) ∧ Below w.heap.size w W' := moved_s hv hx.1 hx.2 hy.1 hy.2 w
set_option maxHeartbeats 8000000 in
set_option maxRecDepth 100000 in
theorem PlaneSides_law (a0 a1 b0 b1 c0 c1 m0 m1 : Int) (ha0 : -9223372036854775808 ≤ a0 ∧ a0 ≤ 9223372036854775807) (ha1 : -9223372036854775808 ≤ a1 ∧ a1 ≤ 9223372036854775807) (hb0 : -9223372036854775808 ≤ b0 ∧ b0 ≤ 9223372036854775807) (hb1 : -9223372036854775808 ≤ b1 ∧ b1 ≤ 9223372036854775807) (hc0 : -9223372036854775808 ≤ c0 ∧ c0 ≤ 9223372036854775807) (hc1 : -9223372036854775808 ≤ c1 ∧ c1 ≤ 9223372036854775807) (hm0 : -9223372036854775808 ≤ m0 ∧ m0 ≤ 9223372036854775807) (hm1 : -9223372036854775808 ≤ m1 ∧ m1 ≤ 9223372036854775807) (w : World) (hq : IOps w ∧ FrOp w) :
    Calls Tryz.prog 4 #[.agg #[.int .i64 a0, .int .i64 a1, .int .i64 b0, .int .i64 b1, .int .i64 c0, .int .i64 c1], .agg #[.int .i64 m0, .int .i64 m1]] w fun e W' => e = .returned (.bool true) ∧ Below w.heap.size w W' := by
  have KS := Lib.hid (fun (W : World) (hb : Below w.heap.size w W) => sane7_s (hq.1.below hb) (hq.2.below hb))
  have KP := Lib.hid (fun (W : World) => plN_s ha0 ha1 W)
  have KQ := Lib.hid (fun (W : World) => plN_s hb0 hb1 W)
  have KR := Lib.hid (fun (W : World) => plN_s hc0 hc1 W)
  have bp := plN_b a0 a1
  have bq := plN_b b0 b1
  have br := plN_b c0 c1
  generalize plN a0 a1 = p at KP bp
  generalize plN b0 b1 = q at KQ bq
  generalize plN c0 c1 = r at KR br
  have vp : vP p = true := vP_of (by omega)
  have vq : vP q = true := vP_of (by omega)
  have vr : vP r = true := vP_of (by omega)
  have MP := Lib.hid (fun (W : World) => mvN_s vp hm0 hm1 W)
  have MQ := Lib.hid (fun (W : World) => mvN_s vq hm0 hm1 W)
  have MR := Lib.hid (fun (W : World) => mvN_s vr hm0 hm1 W)
  have S1 := Lib.hid (fun (W : World) => side_s p q r W)
  have S2 := Lib.hid (fun (W : World) => side_s q p r W)
  rw [side_swap] at S2
  have S3 := Lib.hid (fun (W : World) => side_s p r q W)
  rw [side_swap2] at S3
  have S4 := Lib.hid (fun (W : World) => side_s q r p W)
  rw [side_cyc] at S4
  have S5 := Lib.hid (fun (W : World) => side_s (mvN p m0 m1) (mvN q m0 m1) (mvN r m0 m1) W)
  rw [show sideP (mvN p m0 m1) (mvN q m0 m1) (mvN r m0 m1) = sideP p q r from side_mv (by simp [vp, vq, vr]) (by
    have h1 := mvN_v bp m0 m1
    have h2 := mvN_v bq m0 m1
    have h3 := mvN_v br m0 m1
    unfold mvN at h1 h2 h3
    simp [h1, h2, h3])] at S5
  obtain ⟨n1, n2⟩ := side_range p q r
  generalize sideP p q r = n at S1 S2 S3 S4 S5 n1 n2
  generalize mvN p m0 m1 = p' at MP S5
  generalize mvN q m0 m1 = q' at MQ S5
  generalize mvN r m0 m1 = r' at MR S5
  have hwn : IntKind.i64.wrap (-n) = -n := IntWalk.i64_in _ (by omega)
  have t1 : decide ((-1 : Int) ≤ n) = true := decide_eq_true n1
  have t2 : decide (n ≤ 1) = true := decide_eq_true n2
  have HC := Lib.hid (show AzAt [(w.heap.size + 1, [.int .i64 m0, .int .i64 m1]), (w.heap.size, [.int .i64 a0, .int .i64 a1, .int .i64 b0, .int .i64 b1, .int .i64 c0, .int .i64 c1])] w _ from by
    have hp := ((AzAt.start w).push [.int .i64 a0, .int .i64 a1, .int .i64 b0, .int .i64 b1, .int .i64 c0, .int .i64 c1] 56).push [.int .i64 m0, .int .i64 m1] 55
    simp only [World.size_alloc] at hp
    exact hp)
  clear ha0 ha1 hb0 hb1 hc0 hc1 hm0 hm1 bp bq br vp vq vr hq
  go_enter Tryz.func4, Tryz.ntmps4
  go_wp2_with (first
    | (go_at_call 10; (with_reducible refine (KS.out _ HC.out.bw).mono ?_); rintro e w1 ⟨rfl, hb⟩; replace HC := Lib.hid (HC.out.below hb); clear hb; have x0 := ((HC.out.at (B := w.heap.size) (l := [.int .i64 a0, .int .i64 a1, .int .i64 b0, .int .i64 b1, .int .i64 c0, .int .i64 c1]) (by simp)).row 0 _ rfl); have x1 := ((HC.out.at (B := w.heap.size) (l := [.int .i64 a0, .int .i64 a1, .int .i64 b0, .int .i64 b1, .int .i64 c0, .int .i64 c1]) (by simp)).row 1 _ rfl))
    | (go_at_call 37; (with_reducible refine (KP.out _).mono ?_); rintro e wP ⟨rfl, hb⟩; replace HC := Lib.hid ((HC.out.below hb).push [.int .i64 p.x, .int .i64 p.y] 26); clear hb x0 x1; have x2 := ((HC.out.at (B := w.heap.size) (l := [.int .i64 a0, .int .i64 a1, .int .i64 b0, .int .i64 b1, .int .i64 c0, .int .i64 c1]) (by simp)).row 2 _ rfl); have x3 := ((HC.out.at (B := w.heap.size) (l := [.int .i64 a0, .int .i64 a1, .int .i64 b0, .int .i64 b1, .int .i64 c0, .int .i64 c1]) (by simp)).row 3 _ rfl))
    | (go_at_call 37; (with_reducible refine (KQ.out _).mono ?_); rintro e wQ ⟨rfl, hb⟩; replace HC := Lib.hid ((HC.out.below hb).push [.int .i64 q.x, .int .i64 q.y] 26); clear hb x2 x3; have x4 := ((HC.out.at (B := w.heap.size) (l := [.int .i64 a0, .int .i64 a1, .int .i64 b0, .int .i64 b1, .int .i64 c0, .int .i64 c1]) (by simp)).row 4 _ rfl); have x5 := ((HC.out.at (B := w.heap.size) (l := [.int .i64 a0, .int .i64 a1, .int .i64 b0, .int .i64 b1, .int .i64 c0, .int .i64 c1]) (by simp)).row 5 _ rfl))
    | (go_at_call 37; (with_reducible refine (KR.out _).mono ?_); rintro e wR ⟨rfl, hb⟩; replace HC := Lib.hid ((HC.out.below hb).push [.int .i64 r.x, .int .i64 r.y] 26); clear hb x4 x5; have y0 := ((HC.out.at (B := wP.heap.size) (l := [.int .i64 p.x, .int .i64 p.y]) (by simp)).row 0 _ rfl); have y1 := ((HC.out.at (B := wP.heap.size) (l := [.int .i64 p.x, .int .i64 p.y]) (by simp)).row 1 _ rfl); have y2 := ((HC.out.at (B := wQ.heap.size) (l := [.int .i64 q.x, .int .i64 q.y]) (by simp)).row 0 _ rfl); have y3 := ((HC.out.at (B := wQ.heap.size) (l := [.int .i64 q.x, .int .i64 q.y]) (by simp)).row 1 _ rfl); have y4 := ((HC.out.at (B := wR.heap.size) (l := [.int .i64 r.x, .int .i64 r.y]) (by simp)).row 0 _ rfl); have y5 := ((HC.out.at (B := wR.heap.size) (l := [.int .i64 r.x, .int .i64 r.y]) (by simp)).row 1 _ rfl))
    | (go_at_call 31; (with_reducible refine (S1.out _).mono ?_); rintro e w2 ⟨rfl, hb⟩; replace HC := Lib.hid (HC.out.below hb); clear hb y0 y1 y2 y3 y4 y5)
    | fail)
  have z0 := cell_regrown ((HC.out.at (B := wP.heap.size) (l := [.int .i64 p.x, .int .i64 p.y]) (by simp)).row 0 _ rfl)
  have z1 := cell_regrown ((HC.out.at (B := wP.heap.size) (l := [.int .i64 p.x, .int .i64 p.y]) (by simp)).row 1 _ rfl)
  have z2 := cell_regrown ((HC.out.at (B := wQ.heap.size) (l := [.int .i64 q.x, .int .i64 q.y]) (by simp)).row 0 _ rfl)
  have z3 := cell_regrown ((HC.out.at (B := wQ.heap.size) (l := [.int .i64 q.x, .int .i64 q.y]) (by simp)).row 1 _ rfl)
  have z4 := cell_regrown ((HC.out.at (B := wR.heap.size) (l := [.int .i64 r.x, .int .i64 r.y]) (by simp)).row 0 _ rfl)
  have z5 := cell_regrown ((HC.out.at (B := wR.heap.size) (l := [.int .i64 r.x, .int .i64 r.y]) (by simp)).row 1 _ rfl)
  have z6 := cell_regrown ((HC.out.at (B := w.heap.size + 1) (l := [.int .i64 m0, .int .i64 m1]) (by simp)).row 0 _ rfl)
  have z7 := cell_regrown ((HC.out.at (B := w.heap.size + 1) (l := [.int .i64 m0, .int .i64 m1]) (by simp)).row 1 _ rfl)
  have c0 := fun d os => Calls.regrown_of (d := d) (os := os) (S2.out (grow (redrawn w2 d) os))
  have c1 := fun d os => Calls.regrown_of (d := d) (os := os) (S3.out (grow (redrawn w2 d) os))
  have c2 := fun d os => Calls.regrown_of (d := d) (os := os) (S4.out (grow (redrawn w2 d) os))
  have c3 := fun d os => Calls.regrown_of (d := d) (os := os) (MP.out (grow (redrawn w2 d) os))
  have c4 := fun d os => Calls.regrown_of (d := d) (os := os) (MQ.out (grow (redrawn w2 d) os))
  have c5 := fun d os => Calls.regrown_of (d := d) (os := os) (MR.out (grow (redrawn w2 d) os))
  have c6 := fun d os => Calls.regrown_of (d := d) (os := os) (S5.out (grow (redrawn w2 d) os))
  clear S1 S2 S3 S4 S5 MP MQ MR KS KP KQ KR
  refine wp_region_quiet_below (by kernel_rfl) (by kernel_rfl) ?_
  repeat (go_big_quiet_step (first | with_reducible exact c0 _ _ | with_reducible exact c1 _ _ | with_reducible exact c2 _ _ | with_reducible exact c3 _ _ | with_reducible exact c4 _ _ | with_reducible exact c5 _ _ | with_reducible exact c6 _ _))
  refine wpQuiet_nil ?_
  intro W1 hw'
  have hb1 : Below w2.heap.size w2 W1 := by obtain ⟨⟨dq, osq⟩, hw''⟩ := hw'; rw [hw'']; exact below_regrown w2 dq osq
  have H1 := Lib.hid (HC.out.bw.trans (hb1.mono HC.out.bw.size))
  clear hw' hb1
  go_wp2
  go_ret
  exact ⟨rfl, H1.out⟩
end Go.Proofs.YtgngepbemgbbeaaGreatDoor
