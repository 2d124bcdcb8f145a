/-
  PlaneSides, walked: the law answers true.
  What the reference makes of integers: rectangles, lists of places; what the law calls at.
  Arguments of the laws of chapter 07 that lie in memory: slices of pairs of integers; rectangles; what lies in places reads behind the call as it did.
  PlaneRects, walked: the law answers true.
-/
import Derived.Carry
import Derived.Deep.Slices
import Derived.Deep.CutRange
import Derived.Test.YtgngepbemgbbeaaGreatDoorZPw
import Derived.Test.YtgngepbemgbbeaaGreatDoorZQOps
namespace Go.Proofs.YtgngepbemgbbeaaGreatDoor
open Go.RowKit Go.Shelf Go.Sort
attribute [local go_sem] Oper.semAt_some

/-- The place that two integers determine. -/
def plN (x y : Int) : Pl := ⟨(pickN x 40 : Nat), (pickN y 40 : Nat)⟩
theorem plN_b (x y : Int) : (0 ≤ (plN x y).x ∧ (plN x y).x ≤ 39) ∧ (0 ≤ (plN x y).y ∧ (plN x y).y ≤ 39) := by
  have h1 := pickN_lt x (n := 40) (by decide)
  have h2 := pickN_lt y (n := 40) (by decide)
  unfold plN
  simp only
  omega
theorem vP_of {p : Pl} (h : (0 ≤ p.x ∧ p.x ≤ 4095) ∧ (0 ≤ p.y ∧ p.y ≤ 4095)) : vP p = true := by
  unfold vP
  simp only [Bool.and_eq_true, decide_eq_true_eq]
  omega
theorem plN_v (x y : Int) : vP (plN x y) = true := vP_of (by have := plN_b x y; omega)
theorem plN_s {x y : Int} (hx : -9223372036854775808 ≤ x ∧ x ≤ 9223372036854775807) (hy : -9223372036854775808 ≤ y ∧ y ≤ 9223372036854775807) (w : World) :
    Calls Tryz.prog 37 #[.agg #[.int .i64 x, .int .i64 y]] w fun e W' => e = .returned (.agg #[.int .i64 (plN x y).x, .int .i64 (plN x y).y]) ∧ Below w.heap.size w W' := place_s hx.1 hx.2 hy.1 hy.2 w
/-- What a place is moved to. -/
def mvN (p : Pl) (x y : Int) : Pl := p.mv (pickN x 1000 : Nat) (pickN y 1000 : Nat)
theorem mvN_v {p : Pl} (h : (0 ≤ p.x ∧ p.x ≤ 39) ∧ (0 ≤ p.y ∧ p.y ≤ 39)) (x y : Int) : vP (mvN p x y) = true := vP_of (by
  have h1 := pickN_lt x (n := 1000) (by decide)
  have h2 := pickN_lt y (n := 1000) (by decide)
  unfold mvN Pl.mv
  simp only
  omega)
theorem mvN_s {p : Pl} {x y : Int} (hv : vP p = true) (hx : -9223372036854775808 ≤ x ∧ x ≤ 9223372036854775807) (hy : -9223372036854775808 ≤ y ∧ y ≤ 9223372036854775807) (w : World) :
    Calls Tryz.prog 38 #[.agg #[.int .i64 p.x, .int .i64 p.y], .agg #[.int .i64 x, .int .i64 y]] w fun e W' => e = .returned (.agg #[.int .i64 (mvN p x y).x, .int .i64 (mvN p x y).y]) ∧ Below w.heap.size w W' := moved_s hv hx.1 hx.2 hy.1 hy.2 w
set_option maxHeartbeats 8000000 in
set_option maxRecDepth 100000 in
theorem PlaneSides_law (a0 a1 b0 b1 c0 c1 m0 m1 : Int) (ha0 : -9223372036854775808 ≤ a0 ∧ a0 ≤ 9223372036854775807) (ha1 : -9223372036854775808 ≤ a1 ∧ a1 ≤ 9223372036854775807) (hb0 : -9223372036854775808 ≤ b0 ∧ b0 ≤ 9223372036854775807) (hb1 : -9223372036854775808 ≤ b1 ∧ b1 ≤ 9223372036854775807) (hc0 : -9223372036854775808 ≤ c0 ∧ c0 ≤ 9223372036854775807) (hc1 : -9223372036854775808 ≤ c1 ∧ c1 ≤ 9223372036854775807) (hm0 : -9223372036854775808 ≤ m0 ∧ m0 ≤ 9223372036854775807) (hm1 : -9223372036854775808 ≤ m1 ∧ m1 ≤ 9223372036854775807) (w : World) (hq : IOps w ∧ FrOp w) :
    Calls Tryz.prog 4 #[.agg #[.int .i64 a0, .int .i64 a1, .int .i64 b0, .int .i64 b1, .int .i64 c0, .int .i64 c1], .agg #[.int .i64 m0, .int .i64 m1]] w fun e W' => e = .returned (.bool true) ∧ Below w.heap.size w W' := by
  have KS := Lib.hid (fun (W : World) (hb : Below w.heap.size w W) => sane7_s (hq.1.below hb) (hq.2.below hb))
  have KP := Lib.hid (fun (W : World) => plN_s ha0 ha1 W)
  have KQ := Lib.hid (fun (W : World) => plN_s hb0 hb1 W)
  have KR := Lib.hid (fun (W : World) => plN_s hc0 hc1 W)
  have bp := plN_b a0 a1
  have bq := plN_b b0 b1
  have br := plN_b c0 c1
  generalize plN a0 a1 = p at KP bp
  generalize plN b0 b1 = q at KQ bq
  generalize plN c0 c1 = r at KR br
  have vp : vP p = true := vP_of (by omega)
  have vq : vP q = true := vP_of (by omega)
  have vr : vP r = true := vP_of (by omega)
  have MP := Lib.hid (fun (W : World) => mvN_s vp hm0 hm1 W)
  have MQ := Lib.hid (fun (W : World) => mvN_s vq hm0 hm1 W)
  have MR := Lib.hid (fun (W : World) => mvN_s vr hm0 hm1 W)
  have S1 := Lib.hid (fun (W : World) => side_s p q r W)
  have S2 := Lib.hid (fun (W : World) => side_s q p r W)
  rw [side_swap] at S2
  have S3 := Lib.hid (fun (W : World) => side_s p r q W)
  rw [side_swap2] at S3
  have S4 := Lib.hid (fun (W : World) => side_s q r p W)
  rw [side_cyc] at S4
  have S5 := Lib.hid (fun (W : World) => side_s (mvN p m0 m1) (mvN q m0 m1) (mvN r m0 m1) W)
  rw [show sideP (mvN p m0 m1) (mvN q m0 m1) (mvN r m0 m1) = sideP p q r from side_mv (by simp [vp, vq, vr]) (by
    have h1 := mvN_v bp m0 m1
    have h2 := mvN_v bq m0 m1
    have h3 := mvN_v br m0 m1
    unfold mvN at h1 h2 h3
    simp [h1, h2, h3])] at S5
  obtain ⟨n1, n2⟩ := side_range p q r
  generalize sideP p q r = n at S1 S2 S3 S4 S5 n1 n2
  generalize mvN p m0 m1 = p' at MP S5
  generalize mvN q m0 m1 = q' at MQ S5
  generalize mvN r m0 m1 = r' at MR S5
  have hwn : IntKind.i64.wrap (-n) = -n := IntWalk.i64_in _ (by omega)
  have t1 : decide ((-1 : Int) ≤ n) = true := decide_eq_true n1
  have t2 : decide (n ≤ 1) = true := decide_eq_true n2
  have HC := Lib.hid (show AzAt [(w.heap.size + 1, [.int .i64 m0, .int .i64 m1]), (w.heap.size, [.int .i64 a0, .int .i64 a1, .int .i64 b0, .int .i64 b1, .int .i64 c0, .int .i64 c1])] w _ from by
    have hp := ((AzAt.start w).push [.int .i64 a0, .int .i64 a1, .int .i64 b0, .int .i64 b1, .int .i64 c0, .int .i64 c1] 56).push [.int .i64 m0, .int .i64 m1] 55
    simp only [World.size_alloc] at hp
    exact hp)
  clear ha0 ha1 hb0 hb1 hc0 hc1 hm0 hm1 bp bq br vp vq vr hq
  go_enter Tryz.func4, Tryz.ntmps4
  go_wp2_with (first
    | (go_at_call 10; (with_reducible refine (KS.out _ HC.out.bw).mono ?_); rintro e w1 ⟨rfl, hb⟩; replace HC := Lib.hid (HC.out.below hb); clear hb; have x0 := ((HC.out.at (B := w.heap.size) (l := [.int .i64 a0, .int .i64 a1, .int .i64 b0, .int .i64 b1, .int .i64 c0, .int .i64 c1]) (by simp)).row 0 _ rfl); have x1 := ((HC.out.at (B := w.heap.size) (l := [.int .i64 a0, .int .i64 a1, .int .i64 b0, .int .i64 b1, .int .i64 c0, .int .i64 c1]) (by simp)).row 1 _ rfl))
    | (go_at_call 37; (with_reducible refine (KP.out _).mono ?_); rintro e wP ⟨rfl, hb⟩; replace HC := Lib.hid ((HC.out.below hb).push [.int .i64 p.x, .int .i64 p.y] 26); clear hb x0 x1; have x2 := ((HC.out.at (B := w.heap.size) (l := [.int .i64 a0, .int .i64 a1, .int .i64 b0, .int .i64 b1, .int .i64 c0, .int .i64 c1]) (by simp)).row 2 _ rfl); have x3 := ((HC.out.at (B := w.heap.size) (l := [.int .i64 a0, .int .i64 a1, .int .i64 b0, .int .i64 b1, .int .i64 c0, .int .i64 c1]) (by simp)).row 3 _ rfl))
    | (go_at_call 37; (with_reducible refine (KQ.out _).mono ?_); rintro e wQ ⟨rfl, hb⟩; replace HC := Lib.hid ((HC.out.below hb).push [.int .i64 q.x, .int .i64 q.y] 26); clear hb x2 x3; have x4 := ((HC.out.at (B := w.heap.size) (l := [.int .i64 a0, .int .i64 a1, .int .i64 b0, .int .i64 b1, .int .i64 c0, .int .i64 c1]) (by simp)).row 4 _ rfl); have x5 := ((HC.out.at (B := w.heap.size) (l := [.int .i64 a0, .int .i64 a1, .int .i64 b0, .int .i64 b1, .int .i64 c0, .int .i64 c1]) (by simp)).row 5 _ rfl))
    | (go_at_call 37; (with_reducible refine (KR.out _).mono ?_); rintro e wR ⟨rfl, hb⟩; replace HC := Lib.hid ((HC.out.below hb).push [.int .i64 r.x, .int .i64 r.y] 26); clear hb x4 x5; have y0 := ((HC.out.at (B := wP.heap.size) (l := [.int .i64 p.x, .int .i64 p.y]) (by simp)).row 0 _ rfl); have y1 := ((HC.out.at (B := wP.heap.size) (l := [.int .i64 p.x, .int .i64 p.y]) (by simp)).row 1 _ rfl); have y2 := ((HC.out.at (B := wQ.heap.size) (l := [.int .i64 q.x, .int .i64 q.y]) (by simp)).row 0 _ rfl); have y3 := ((HC.out.at (B := wQ.heap.size) (l := [.int .i64 q.x, .int .i64 q.y]) (by simp)).row 1 _ rfl); have y4 := ((HC.out.at (B := wR.heap.size) (l := [.int .i64 r.x, .int .i64 r.y]) (by simp)).row 0 _ rfl); have y5 := ((HC.out.at (B := wR.heap.size) (l := [.int .i64 r.x, .int .i64 r.y]) (by simp)).row 1 _ rfl))
    | (go_at_call 31; (with_reducible refine (S1.out _).mono ?_); rintro e w2 ⟨rfl, hb⟩; replace HC := Lib.hid (HC.out.below hb); clear hb y0 y1 y2 y3 y4 y5)
    | fail)
  have z0 := cell_regrown ((HC.out.at (B := wP.heap.size) (l := [.int .i64 p.x, .int .i64 p.y]) (by simp)).row 0 _ rfl)
  have z1 := cell_regrown ((HC.out.at (B := wP.heap.size) (l := [.int .i64 p.x, .int .i64 p.y]) (by simp)).row 1 _ rfl)
  have z2 := cell_regrown ((HC.out.at (B := wQ.heap.size) (l := [.int .i64 q.x, .int .i64 q.y]) (by simp)).row 0 _ rfl)
  have z3 := cell_regrown ((HC.out.at (B := wQ.heap.size) (l := [.int .i64 q.x, .int .i64 q.y]) (by simp)).row 1 _ rfl)
  have z4 := cell_regrown ((HC.out.at (B := wR.heap.size) (l := [.int .i64 r.x, .int .i64 r.y]) (by simp)).row 0 _ rfl)
  have z5 := cell_regrown ((HC.out.at (B := wR.heap.size) (l := [.int .i64 r.x, .int .i64 r.y]) (by simp)).row 1 _ rfl)
  have z6 := cell_regrown ((HC.out.at (B := w.heap.size + 1) (l := [.int .i64 m0, .int .i64 m1]) (by simp)).row 0 _ rfl)
  have z7 := cell_regrown ((HC.out.at (B := w.heap.size + 1) (l := [.int .i64 m0, .int .i64 m1]) (by simp)).row 1 _ rfl)
  have c0 := fun d os => Calls.regrown_of (d := d) (os := os) (S2.out (grow (redrawn w2 d) os))
  have c1 := fun d os => Calls.regrown_of (d := d) (os := os) (S3.out (grow (redrawn w2 d) os))
  have c2 := fun d os => Calls.regrown_of (d := d) (os := os) (S4.out (grow (redrawn w2 d) os))
  have c3 := fun d os => Calls.regrown_of (d := d) (os := os) (MP.out (grow (redrawn w2 d) os))
  have c4 := fun d os => Calls.regrown_of (d := d) (os := os) (MQ.out (grow (redrawn w2 d) os))
  have c5 := fun d os => Calls.regrown_of (d := d) (os := os) (MR.out (grow (redrawn w2 d) os))
  have c6 := fun d os => Calls.regrown_of (d := d) (os := os) (S5.out (grow (redrawn w2 d) os))
  clear S1 S2 S3 S4 S5 MP MQ MR KS KP KQ KR
  refine wp_region_quiet_below (by kernel_rfl) (by kernel_rfl) ?_
  repeat (go_big_quiet_step (first | with_reducible exact c0 _ _ | with_reducible exact c1 _ _ | with_reducible exact c2 _ _ | with_reducible exact c3 _ _ | with_reducible exact c4 _ _ | with_reducible exact c5 _ _ | with_reducible exact c6 _ _))
  refine wpQuiet_nil ?_
  intro W1 hw'
  have hb1 : Below w2.heap.size w2 W1 := by obtain ⟨⟨dq, osq⟩, hw''⟩ := hw'; rw [hw'']; exact below_regrown w2 dq osq
  have H1 := Lib.hid (HC.out.bw.trans (hb1.mono HC.out.bw.size))
  clear hw' hb1
  go_wp2
  go_ret
  exact ⟨rfl, H1.out⟩
end Go.Proofs.YtgngepbemgbbeaaGreatDoor

namespace Go.Proofs.YtgngepbemgbbeaaGreatDoor
open Go.RowKit Go.Shelf Go.Sort
attribute [local go_sem] Oper.semAt_some

/-- The rectangle that four integers determine. -/
def rcN (x y u v : Int) : Rc := ⟨(pickN x 40 : Nat), (pickN y 40 : Nat), (pickN u 30 : Nat), (pickN v 30 : Nat)⟩
theorem rcN_v (x y u v : Int) : vRc (rcN x y u v) = true := by
  have h1 := pickN_lt x (n := 40) (by decide)
  have h2 := pickN_lt y (n := 40) (by decide)
  have h3 := pickN_lt u (n := 30) (by decide)
  have h4 := pickN_lt v (n := 30) (by decide)
  rw [vRc_iff]
  unfold rcN
  simp only
  omega
set_option maxRecDepth 100000 in
theorem rect_s {x y u v : Int} (hx : -9223372036854775808 ≤ x ∧ x ≤ 9223372036854775807) (hy : -9223372036854775808 ≤ y ∧ y ≤ 9223372036854775807) (hu : -9223372036854775808 ≤ u ∧ u ≤ 9223372036854775807) (hv : -9223372036854775808 ≤ v ∧ v ≤ 9223372036854775807) (w : World) :
    Calls Tryz.prog 13 #[.agg #[.int .i64 x, .int .i64 y, .int .i64 u, .int .i64 v]] w fun e W' => e = .returned (.agg #[.int .i64 (rcN x y u v).x, .int .i64 (rcN x y u v).y, .int .i64 (rcN x y u v).w, .int .i64 (rcN x y u v).h]) ∧ Below w.heap.size w W' := by
  have hmx : Tryz.prog.follows .mixedOrders = true := by kernel_rfl
  have K0 := Lib.hid (show ∀ W : World, Calls Tryz.prog 43 #[.int .i64 x, .int .i64 40] W fun e W' => e = .returned (.int .i64 (pickN x 40 : Nat)) ∧ Below W.heap.size W W' from fun W => (pick_f x 40 hx.1 hx.2 (by decide) (by decide) W).mono fun e W' h => ⟨h.1, h.2 ▸ Below.refl _ _⟩)
  have K1 := Lib.hid (show ∀ W : World, Calls Tryz.prog 43 #[.int .i64 y, .int .i64 40] W fun e W' => e = .returned (.int .i64 (pickN y 40 : Nat)) ∧ Below W.heap.size W W' from fun W => (pick_f y 40 hy.1 hy.2 (by decide) (by decide) W).mono fun e W' h => ⟨h.1, h.2 ▸ Below.refl _ _⟩)
  have K2 := Lib.hid (show ∀ W : World, Calls Tryz.prog 43 #[.int .i64 u, .int .i64 30] W fun e W' => e = .returned (.int .i64 (pickN u 30 : Nat)) ∧ Below W.heap.size W W' from fun W => (pick_f u 30 hu.1 hu.2 (by decide) (by decide) W).mono fun e W' h => ⟨h.1, h.2 ▸ Below.refl _ _⟩)
  have K3 := Lib.hid (show ∀ W : World, Calls Tryz.prog 43 #[.int .i64 v, .int .i64 30] W fun e W' => e = .returned (.int .i64 (pickN v 30 : Nat)) ∧ Below W.heap.size W W' from fun W => (pick_f v 30 hv.1 hv.2 (by decide) (by decide) W).mono fun e W' h => ⟨h.1, h.2 ▸ Below.refl _ _⟩)
  show Calls _ _ _ _ fun e W' => e = .returned (.agg #[.int .i64 (pickN x 40 : Nat), .int .i64 (pickN y 40 : Nat), .int .i64 (pickN u 30 : Nat), .int .i64 (pickN v 30 : Nat)]) ∧ _
  generalize pickN x 40 = n0 at K0 ⊢
  generalize pickN y 40 = n1 at K1 ⊢
  generalize pickN u 30 = n2 at K2 ⊢
  generalize pickN v 30 = n3 at K3 ⊢
  have H0 := Lib.hid (show AzAt [(w.heap.size + 1, [.int .i64 0, .int .i64 0, .int .i64 0, .int .i64 0]), (w.heap.size, [.int .i64 x, .int .i64 y, .int .i64 u, .int .i64 v])] w _ from by
    have hp := ((AzAt.start w).push [.int .i64 x, .int .i64 y, .int .i64 u, .int .i64 v] 23).push [.int .i64 0, .int .i64 0, .int .i64 0, .int .i64 0] 29
    simp only [World.size_alloc] at hp
    exact hp)
  clear hx hy hu hv
  go_enter Tryz.func13, Tryz.ntmps13
  go_wp2
  obtain ⟨W0, hW0⟩ : ∃ W0, W0 = (w.alloc (.cells #[.int .i64 x, .int .i64 y, .int .i64 u, .int .i64 v] 23)).alloc (.cells #[.int .i64 0, .int .i64 0, .int .i64 0, .int .i64 0] 29) := ⟨_, rfl⟩
  have H1 := Lib.hid H0.out
  rw [← hW0] at H1 ⊢
  clear hW0 H0
  refine wp_region_qt0 (A := ?fr) 13 hmx (by kernel_rfl) ?h ?ht
  case h =>
    intro U hU
    have hp := H1.out.below hU
    have z0 := cell_regrown ((hp.at (B := w.heap.size) (l := [.int .i64 x, .int .i64 y, .int .i64 u, .int .i64 v]) (by simp)).row 0 _ rfl)
    have z1 := cell_regrown ((hp.at (B := w.heap.size) (l := [.int .i64 x, .int .i64 y, .int .i64 u, .int .i64 v]) (by simp)).row 1 _ rfl)
    have z2 := cell_regrown ((hp.at (B := w.heap.size) (l := [.int .i64 x, .int .i64 y, .int .i64 u, .int .i64 v]) (by simp)).row 2 _ rfl)
    have z3 := cell_regrown ((hp.at (B := w.heap.size) (l := [.int .i64 x, .int .i64 y, .int .i64 u, .int .i64 v]) (by simp)).row 3 _ rfl)
    have c0 := fun d os => Calls.regrown_of (d := d) (os := os) (K0.out (grow (redrawn U d) os))
    have c1 := fun d os => Calls.regrown_of (d := d) (os := os) (K1.out (grow (redrawn U d) os))
    have c2 := fun d os => Calls.regrown_of (d := d) (os := os) (K2.out (grow (redrawn U d) os))
    have c3 := fun d os => Calls.regrown_of (d := d) (os := os) (K3.out (grow (redrawn U d) os))
    clear hp
    simp only [List.take_succ_cons, List.take_zero]
    repeat (go_big_quiet_step (first | with_reducible exact c0 _ _ | with_reducible exact c1 _ _ | with_reducible exact c2 _ _ | with_reducible exact c3 _ _))
    refine wpQuiet_nil ?_
    rfl
  case ht =>
    intro WM hW
    have H2 := Lib.hid (H1.out.below hW)
    clear hW H1
    have z0 := ((H2.out.at (B := w.heap.size + 1) (l := [.int .i64 0, .int .i64 0, .int .i64 0, .int .i64 0]) (by simp)).row 0 _ rfl)
    have z1 := ((H2.out.at (B := w.heap.size + 1) (l := [.int .i64 0, .int .i64 0, .int .i64 0, .int .i64 0]) (by simp)).row 1 _ rfl)
    have z2 := ((H2.out.at (B := w.heap.size + 1) (l := [.int .i64 0, .int .i64 0, .int .i64 0, .int .i64 0]) (by simp)).row 2 _ rfl)
    have z3 := ((H2.out.at (B := w.heap.size + 1) (l := [.int .i64 0, .int .i64 0, .int .i64 0, .int .i64 0]) (by simp)).row 3 _ rfl)
    have f0 := (H2.out.at (B := w.heap.size + 1) (l := [.int .i64 0, .int .i64 0, .int .i64 0, .int .i64 0]) (by simp)).fz 0 (by simp)
    have f1 := (H2.out.at (B := w.heap.size + 1) (l := [.int .i64 0, .int .i64 0, .int .i64 0, .int .i64 0]) (by simp)).fz 1 (by simp)
    have f2 := (H2.out.at (B := w.heap.size + 1) (l := [.int .i64 0, .int .i64 0, .int .i64 0, .int .i64 0]) (by simp)).fz 2 (by simp)
    have f3 := (H2.out.at (B := w.heap.size + 1) (l := [.int .i64 0, .int .i64 0, .int .i64 0, .int .i64 0]) (by simp)).fz 3 (by simp)
    simp only [List.drop_succ_cons, List.drop_zero]
    go_wp2
    refine bodyPost_ret (v := .agg #[.int .i64 (n0 : Int), .int .i64 (n1 : Int), .int .i64 (n2 : Int), .int .i64 (n3 : Int)]) ?_ rfl ⟨rfl, ?_⟩
    · simp [results, Tryz.results13, go_sem, Result.andThen, z0, z1, z2, z3]
    · exact (((H2.out.bw.setCell (show w.heap.size ≤ w.heap.size + 1 by omega) _).setCell (show w.heap.size ≤ w.heap.size + 1 by omega) _).setCell (show w.heap.size ≤ w.heap.size + 1 by omega) _).setCell (show w.heap.size ≤ w.heap.size + 1 by omega) _
/-- A slice of pairs of integers, as an argument brings it. -/
structure XsAt (a : Option Addr) (xs : List (Int × Int)) (W : World) : Prop where
  row : ∀ (k : Nat) (x : Int × Int), xs[k]? = some x → ∃ b o : Nat, a = some ⟨b, o, none⟩ ∧ b < W.heap.size ∧ W.cell? ⟨b, o + k * 2, none⟩ = some (.int .i64 x.1) ∧ W.cell? ⟨b, o + k * 2 + 1, none⟩ = some (.int .i64 x.2)
  lo : ∀ x ∈ xs, (-9223372036854775808 ≤ x.1 ∧ x.1 ≤ 9223372036854775807) ∧ (-9223372036854775808 ≤ x.2 ∧ x.2 ≤ 9223372036854775807)
theorem XsAt.below {a : Option Addr} {xs : List (Int × Int)} {W W' : World} (h : XsAt a xs W) (hb : Below W.heap.size W W') : XsAt a xs W' :=
  ⟨fun k x hx => by
    obtain ⟨b, o, e, h1, h2, h3⟩ := h.row k x hx
    exact ⟨b, o, e, Nat.lt_of_lt_of_le h1 hb.size, (World.cell?_of_block (w := W) (hb.block b h1)).trans h2, (World.cell?_of_block (w := W) (hb.block b h1)).trans h3⟩, h.lo⟩
/-- The places that pairs determine: the first twelve, and one where there is none. -/
def plsK (xs : List (Int × Int)) (k : Nat) : List Pl := if k = 0 then [⟨3, 4⟩] else (xs.take k).map fun x => plN x.1 x.2
def plsN (xs : List (Int × Int)) : List Pl := plsK xs (min xs.length 12)
theorem plsK_len {xs : List (Int × Int)} {k : Nat} (h : k ≤ xs.length) : (plsK xs k).length = max k 1 := by
  unfold plsK
  split
  · rename_i h0; subst h0; rfl
  · rw [List.length_map, List.length_take]; omega
theorem plsK_succ {xs : List (Int × Int)} {k : Nat} {x : Int × Int} (h : xs[k]? = some x) : plsK xs (k + 1) = (if k = 0 then [] else plsK xs k) ++ [plN x.1 x.2] := by
  unfold plsK
  rw [if_neg (by omega), List.take_add_one, h]
  by_cases h0 : k = 0
  · subst h0; rfl
  · rw [if_neg h0, if_neg h0]; simp
set_option maxHeartbeats 8000000 in
set_option maxRecDepth 100000 in
theorem places_s {a : Option Addr} {n cap : Nat} {xs : List (Int × Int)} (hn : xs.length = n) {W : World} (h : XsAt a xs W) :
    Calls Tryz.prog 11 #[.slice a n cap] W fun e W' => ∃ g m c, e = .returned (.slice (some ⟨g, 0, none⟩) m c) ∧ m = (plsN xs).length ∧ OzAt 26 (.slice (some ⟨g, 0, none⟩) m c) m (plC (plsN xs)) [] W W' := by
  have HN := Lib.hid hn
  have HX := Lib.hid h
  clear h hn
  obtain ⟨i0, hi0, hz0, hz1, hz2⟩ := info_parts info_place
  have H0 := Lib.hid (OzAt.lit (AzAt.start W) [.int .i64 3, .int .i64 4] 26 1 rfl (by decide))
  go_enter Tryz.func11, Tryz.ntmps11
  go_wp2
  go_loopw [3, 4] (fun v3 v4 wr => ∃ (k m g c : Nat), k ≤ n ∧ k ≤ 12 ∧ v4 = .int .i64 (k : Int) ∧ v3 = .slice (some ⟨g, 0, none⟩) m c ∧ m = (plsK xs k).length ∧ OzAt 26 (.slice (some ⟨g, 0, none⟩) m c) m (plC (plsK xs k)) [] W wr) (fun _ v4 _ => 12 - (intOf v4).toNat)
  case atStart => exact ⟨0, 1, _, _, by omega, by omega, rfl, rfl, rfl, H0.out⟩
  case round =>
    obtain ⟨k, m, g, c, hk, hk2, rfl, rfl, hm, hZ⟩ := hrel
    have HZ := Lib.hid hZ
    have HM := Lib.hid hm
    clear hZ hm
    by_cases hlt : k < n ∧ k < 12
    · obtain ⟨hlt1, hlt2⟩ := hlt
      obtain ⟨x, hx⟩ : ∃ x, xs[k]? = some x := ⟨xs[k]'(by have := HN.out; omega), List.getElem?_eq_getElem _⟩
      obtain ⟨b, o, rfl, hb, c0, c1⟩ := HX.out.row k x hx
      have hlo := HX.out.lo x (List.mem_of_getElem? hx)
      have KX := Lib.hid (fun (W : World) => plN_s hlo.1 hlo.2 W)
      have HS := Lib.hid (plsK_succ hx)
      generalize plN x.1 x.2 = p at KX HS
      have d0 := (World.cell?_of_block (w := W) (HZ.out.az.bw.block b hb)).trans c0
      have d1 := (World.cell?_of_block (w := W) (HZ.out.az.bw.block b hb)).trans c1
      obtain ⟨x1, x2⟩ := x
      simp only at d0 d1 KX
      clear c0 c1 hlo hx hb
      have hg1 : decide ((k : Int) < (n : Int)) = true := decide_eq_true (by omega)
      have hg2 : decide ((k : Int) < 12) = true := decide_eq_true (by omega)
      by_cases hk0 : k = 0
      · subst hk0
        simp only [Nat.zero_mul, Nat.add_zero] at d0 d1
        have H1' := Lib.hid (OzAt.nil HZ.out.az 26)
        go_wp2_with (first
          | (go_at_call 37; (with_reducible refine (KX.out _).mono ?_); rintro e w1 ⟨rfl, hb1⟩; have H1 := Lib.hid (H1'.out.below hb1); have hs1 := H1.out.az.bw.size; clear hb1)
          | (at_builtin; refine wpList_append_own_at _ rfl _ _ 27 rfl W.heap.size 26 i0 (.agg #[.int .i64 0, .int .i64 0]) 2 16 Tryz.underlying27 hi0 hz0 hz1 hz2 rfl (by decide) (.slice none 0 0) 0 []  rfl (H1.out.own.alloc _) ⟨w1.heap.size, 0, none⟩ 1 1 [.int .i64 p.x, .int .i64 p.y] rfl rfl (two_new _ _ _ _) (by simp [Value.oneCell']) (by unfold maxLen; omega) (by omega) (by simp; omega) ?_; intro v' w7 hown' hgrow _ hat; have HZ7 := Lib.hid (H1.out.append hown' hgrow hat); clear hown' hgrow hat)
          | fail)
        obtain ⟨g7, c7, rfl⟩ := ownsRow_succ HZ7.out.own
        have e := HS.out
        simp only [if_true, List.nil_append, Nat.zero_add] at e
        refine ⟨⟨1, 1, g7, c7, by omega, by omega, rfl, rfl, by rw [e]; rfl, ?_⟩, by simp only [intOf]; omega⟩
        rw [e]
        exact HZ7.out
      · have hm12 : m ≤ 12 := by rw [HM.out, plsK_len (by have := HN.out; omega)]; omega
        have hk1 : ((k : Int) == 0) = false := by simpa using hk0
        have hk2 : ¬ (k : Int) = 0 := by omega
        go_wp2_with (first
          | (go_at_call 37; (with_reducible refine (KX.out _).mono ?_); rintro e w1 ⟨rfl, hb1⟩; have H1 := Lib.hid (HZ.out.below hb1); have hs1 := H1.out.az.bw.size; clear hb1)
          | (at_builtin; refine wpList_append_own_at _ rfl _ _ 27 rfl W.heap.size 26 i0 (.agg #[.int .i64 0, .int .i64 0]) 2 16 Tryz.underlying27 hi0 hz0 hz1 hz2 rfl (by decide) (.slice (some ⟨g, 0, none⟩) m c) m (plC (plsK xs k)) rfl (H1.out.own.alloc _) ⟨w1.heap.size, 0, none⟩ 1 1 [.int .i64 p.x, .int .i64 p.y] rfl rfl (two_new _ _ _ _) (by simp [Value.oneCell']) (by unfold maxLen; omega) (by omega) (by simp; omega) ?_; intro v' w7 hown' hgrow _ hat; have HZ7 := Lib.hid (H1.out.append hown' hgrow hat); clear hown' hgrow hat)
          | fail)
        obtain ⟨g7, c7, rfl⟩ := ownsRow_succ HZ7.out.own
        have e := HS.out
        rw [if_neg hk0] at e
        refine ⟨⟨k + 1, m + 1, g7, c7, by omega, by omega, by go_num, rfl, by rw [e, HM.out]; simp, ?_⟩, by simp only [intOf]; omega⟩
        rw [e, plC_append]
        exact HZ7.out
    · have hk' : k = min n 12 := by omega
      have HR := Lib.hid (show plsN xs = plsK xs k by unfold plsN; rw [HN.out, ← hk'])
      clear hk'
      by_cases hlt1 : k < n
      · have hg1 : decide ((k : Int) < (n : Int)) = true := decide_eq_true (by omega)
        have hg2 : decide ((k : Int) < 12) = false := decide_eq_false (by omega)
        go_wp2
        go_ret
        refine ⟨g, m, c, rfl, by rw [HR.out]; exact HM.out, by rw [HR.out]; exact HZ.out⟩
      · have hg1 : decide ((k : Int) < (n : Int)) = false := decide_eq_false (by omega)
        go_wp2
        go_ret
        refine ⟨g, m, c, rfl, by rw [HR.out]; exact HM.out, by rw [HR.out]; exact HZ.out⟩
end Go.Proofs.YtgngepbemgbbeaaGreatDoor

namespace Go.Proofs.YtgngepbemgbbeaaGreatDoor
open Go.ChangeShapes Go.WideShapes Go.ChangeAt Go.RowKit
open Go.ChangeMaps (open_string shut_string)

theorem laidOut7 : laidOutB Tryz.prog = true := by kernel_rfl
/-- A call that leaves what lay; its arguments lie in places, or in none. -/
theorem post_mem {H : Type} {enc : TypeId × Value → H} {P : Program} {f : Func} {s : ChangeSpec} {apart fresh handsOn : Bool} {W W' : World} {args : Array Value} {v : Value} {ds gs : List (DataW H)} {before pa : List MemPlace}
    (hW : DataW.Whole enc P f.params.toList s.vars apart W args.toList ds gs before)
    (hres : ∀ (b : Nat) (sp : Nat → Bool) (hd : Bool), DataW.TrodAll enc P W' b sp hd f.resultTypes.toList (v.resultList f.resultTypes.size) (s.fn H (ds ++ gs)).results [])
    (hargs : DataW.TrodAll enc P W' 0 (fun b => decide (b < W.heap.size)) true f.params.toList args.toList (s.fn H (ds ++ gs)).args pa)
    (hvars : DataW.TrodVars enc P W' (fun b => decide (b < W.heap.size)) s.vars (s.fn H (ds ++ gs)).vars [])
    (hb : Below W.heap.size W W') :
    s.post enc P f apart fresh handsOn false W args v W' :=
  ⟨ds, gs, before, [], pa, [], hW, hres _ _ _, hargs, hvars, hb.frame _, fun h => by cases h⟩
theorem cell_blk {W : World} {a : Addr} {v : Value} (h : W.cell? a = some v) : a.block < W.heap.size := by
  rcases Nat.lt_or_ge a.block W.heap.size with h' | h'
  · exact h'
  · simp [World.cell?, Array.getElem?_eq_none h'] at h
set_option maxRecDepth 100000 in
theorem open_xs {H : Type} {enc : TypeId × Value → H} {W : World} {b0 base : Nat} {sp : Nat → Bool} {hd : Bool} {v : Value} {d : DataW H} {p : List MemPlace} (hv : Value.okWide Tryz.prog W .any b0 22 v) (h : DataW.Trod enc Tryz.prog W base sp hd 22 v d p) :
    ∃ (a : Option Addr) (n cap : Nat) (xs : List (Int × Int)), v = .slice a n cap ∧ xs.length = n ∧ XsAt a xs W := by
  obtain ⟨a, len, cap, rfl⟩ := okWide_slice Tryz.underlying22 hv
  obtain ⟨fuel, hf⟩ := h
  rcases Go.Deep.open_slice Tryz.underlying22 hf with ⟨hcs, _⟩ | ⟨b, len', cap', m, n, D, Pl, hcs, _, hl, hmx, hm, hx, hall⟩
  · simp [Value.cells] at hcs
    obtain ⟨rfl, rfl, rfl⟩ := hcs
    exact ⟨none, 0, 0, [], rfl, rfl, fun k x hk => by simp at hk, fun x hx => by cases hx⟩
  · simp [Value.cells] at hcs
    obtain ⟨rfl, rfl, rfl⟩ := hcs
    have hlm : len ≤ m := by rw [hm]; split <;> omega
    have each : ∀ i, i < len → ∃ q : Int × Int, (W.cell? (b.add (i * 2)) = some (.int .i64 q.1) ∧ W.cell? (b.add (i * 2 + 1)) = some (.int .i64 q.2)) ∧ (Lit.int .i64 q.1).wf = true ∧ (Lit.int .i64 q.2).wf = true := by
      intro i hi
      obtain ⟨cs', h1, h2⟩ := hall i (by omega)
      rw [cells_two] at h1
      obtain ⟨_, hlen, hcell⟩ := World.cells?_some h1
      match cs', hlen with
      | [c0, c1], _ =>
        obtain ⟨xa, xb, ⟨e0, e1⟩, _, w0, w1⟩ := trod_pair (c0 := c0) (c1 := c1) h2
        have g0 := hcell 0 (by omega)
        have g1 := hcell 1 (by omega)
        rw [Go.Deep.add_add] at g0 g1
        subst e0 e1
        exact ⟨(xa, xb), ⟨by simpa using g0, by simpa using g1⟩, w0, w1⟩
    obtain ⟨q, hq⟩ := Go.Deep.choose_lt each
    refine ⟨some b, len, cap, (List.range len).map q, rfl, by simp, fun k x hk => ?_, fun x hx => ?_⟩
    · have hk2 : k < len := by have := (List.getElem?_eq_some_iff.1 hk).1; simpa using this
      have hxe : x = q k := by
        rw [List.getElem?_map, List.getElem?_range hk2] at hk
        exact (Option.some.inj hk).symm
      obtain ⟨⟨c0, c1⟩, _⟩ := hq k hk2
      have s0 := World.cell?_spot (hq 0 (by omega)).1.1
      obtain ⟨blk, off, spot⟩ := b
      have hs : spot = none := by simpa [Addr.add] using s0
      subst hs
      rw [add_plain] at c0 c1
      rw [hxe]
      exact ⟨blk, off, rfl, cell_blk c0, c0, by rw [Nat.add_assoc]; exact c1⟩
    · obtain ⟨i, hi, rfl⟩ := List.mem_map.1 hx
      obtain ⟨_, w0, w1⟩ := hq i (List.mem_range.1 hi)
      exact ⟨bounds_i64 w0, bounds_i64 w1⟩
theorem cells_34 : Tryz.prog.cellsOf 67 = 12 := by kernel_rfl
theorem cells_four : Tryz.prog.cellsOf 23 = 4 := by kernel_rfl
set_option maxRecDepth 100000 in
theorem trod_four {H : Type} {enc : TypeId × Value → H} {W : World} {base : Nat} {sp : Nat → Bool} {hd : Bool} {m : Nat} {cs : List Value} {c0 c1 c2 c3 : Value} {y : DataW H × List MemPlace} (h : DataW.trod enc Tryz.prog W base sp hd m 23 cs = some y) (hc : cs = [c0, c1, c2, c3] := by rfl) :
    ∃ a b c d : Int, (c0 = .int .i64 a ∧ c1 = .int .i64 b ∧ c2 = .int .i64 c ∧ c3 = .int .i64 d) ∧ (Lit.int .i64 a).wf = true ∧ (Lit.int .i64 b).wf = true ∧ (Lit.int .i64 c).wf = true ∧ (Lit.int .i64 d).wf = true := by
  subst hc
  obtain ⟨ys, m', _, hx, _, hl, hy⟩ := DataW.trod_array Tryz.underlying23 h
  match ys, hl with
  | [y0, y1, y2, y3], _ =>
  have hy0 := hy 0 (by decide)
  have hy1 := hy 1 (by decide)
  have hy2 := hy 2 (by decide)
  have hy3 := hy 3 (by decide)
  simp [cells_int] at hy0 hy1 hy2 hy3
  obtain ⟨xa, e0, _, w0⟩ := DataW.trod_int Tryz.underlying3 hy0
  obtain ⟨xb, e1, _, w1⟩ := DataW.trod_int Tryz.underlying3 hy1
  obtain ⟨xc, e2, _, w2⟩ := DataW.trod_int Tryz.underlying3 hy2
  obtain ⟨xd, e3, _, w3⟩ := DataW.trod_int Tryz.underlying3 hy3
  simp at e0 e1 e2 e3
  exact ⟨xa, xb, xc, xd, ⟨e0, e1, e2, e3⟩, w0, w1, w2, w3⟩
set_option maxRecDepth 100000 in
theorem open_four {H : Type} {enc : TypeId × Value → H} {W : World} {b0 base : Nat} {sp : Nat → Bool} {hd : Bool} {v : Value} {d : DataW H} {p : List MemPlace} (hv : Value.okWide Tryz.prog W .any b0 23 v) (h : DataW.Trod enc Tryz.prog W base sp hd 23 v d p) :
    ∃ a0 a1 a2 a3 : Int, v = .agg #[.int .i64 a0, .int .i64 a1, .int .i64 a2, .int .i64 a3] ∧ (Lit.int .i64 a0).wf = true ∧ (Lit.int .i64 a1).wf = true ∧ (Lit.int .i64 a2).wf = true ∧ (Lit.int .i64 a3).wf = true := by
  obtain ⟨cs, rfl, hsz⟩ := okWide_array Tryz.underlying23 hv
  rw [cells_four] at hsz
  obtain ⟨l⟩ := cs
  match l, hsz with
  | [c0, c1, c2, c3], _ =>
  obtain ⟨fuel, hf⟩ := h
  obtain ⟨a0, a1, a2, a3, ⟨rfl, rfl, rfl, rfl⟩, w⟩ := trod_four (c0 := c0) (c1 := c1) (c2 := c2) (c3 := c3) hf
  exact ⟨a0, a1, a2, a3, rfl, w⟩
set_option maxRecDepth 100000 in
theorem open_fours3 {H : Type} {enc : TypeId × Value → H} {W : World} {b0 base : Nat} {sp : Nat → Bool} {hd : Bool} {v : Value} {d : DataW H} {p : List MemPlace} (hv : Value.okWide Tryz.prog W .any b0 67 v) (h : DataW.Trod enc Tryz.prog W base sp hd 67 v d p) :
    ∃ a0 a1 a2 a3 b0 b1 b2 b3 c0 c1 c2 c3 : Int, v = .agg #[.int .i64 a0, .int .i64 a1, .int .i64 a2, .int .i64 a3, .int .i64 b0, .int .i64 b1, .int .i64 b2, .int .i64 b3, .int .i64 c0, .int .i64 c1, .int .i64 c2, .int .i64 c3] ∧ ((Lit.int .i64 a0).wf = true ∧ (Lit.int .i64 a1).wf = true ∧ (Lit.int .i64 a2).wf = true ∧ (Lit.int .i64 a3).wf = true) ∧ ((Lit.int .i64 b0).wf = true ∧ (Lit.int .i64 b1).wf = true ∧ (Lit.int .i64 b2).wf = true ∧ (Lit.int .i64 b3).wf = true) ∧ ((Lit.int .i64 c0).wf = true ∧ (Lit.int .i64 c1).wf = true ∧ (Lit.int .i64 c2).wf = true ∧ (Lit.int .i64 c3).wf = true) := by
  obtain ⟨cs, rfl, hsz⟩ := okWide_array Tryz.underlying67 hv
  rw [cells_34] at hsz
  obtain ⟨l⟩ := cs
  match l, hsz with
  | [c0, c1, c2, c3, c4, c5, c6, c7, c8, c9, c10, c11], _ =>
  obtain ⟨fuel, hf⟩ := h
  obtain ⟨ys, m, _, hx, _, hl, hy⟩ := DataW.trod_array Tryz.underlying67 hf
  match ys, hl with
  | [y0, y1, y2], _ =>
  have hy0 := hy 0 (by decide)
  have hy1 := hy 1 (by decide)
  have hy2 := hy 2 (by decide)
  rw [cells_four] at hy0 hy1 hy2
  obtain ⟨a0, a1, a2, a3, ⟨rfl, rfl, rfl, rfl⟩, wa⟩ := trod_four (c0 := c0) (c1 := c1) (c2 := c2) (c3 := c3) hy0
  obtain ⟨b0, b1, b2, b3, ⟨rfl, rfl, rfl, rfl⟩, wb⟩ := trod_four (c0 := c4) (c1 := c5) (c2 := c6) (c3 := c7) hy1
  obtain ⟨d0, d1, d2, d3, ⟨rfl, rfl, rfl, rfl⟩, wd⟩ := trod_four (c0 := c8) (c1 := c9) (c2 := c10) (c3 := c11) hy2
  exact ⟨a0, a1, a2, a3, b0, b1, b2, b3, d0, d1, d2, d3, rfl, wa, wb, wd⟩
end Go.Proofs.YtgngepbemgbbeaaGreatDoor

namespace Go.Proofs.YtgngepbemgbbeaaGreatDoor
open Go.RowKit Go.Shelf Go.Sort
attribute [local go_sem] Oper.semAt_some

theorem lowL_snoc (q : Pl) : ∀ (l : List Pl) (p : Pl), lowL p (l ++ [q]) = ⟨min (lowL p l).x q.x, min (lowL p l).y q.y⟩
  | [], _ => rfl
  | _ :: l, _ => lowL_snoc q l _
theorem highL_snoc (q : Pl) : ∀ (l : List Pl) (p : Pl), highL p (l ++ [q]) = ⟨max (highL p l).x q.x, max (highL p l).y q.y⟩
  | [], _ => rfl
  | _ :: l, _ => highL_snoc q l _
theorem lowL_head (p : Pl) (l : List Pl) : lowL p (p :: l) = lowL p l := by
  show lowL ⟨min p.x p.x, min p.y p.y⟩ l = _
  simp
theorem highL_head (p : Pl) (l : List Pl) : highL p (p :: l) = highL p l := by
  show highL ⟨max p.x p.x, max p.y p.y⟩ l = _
  simp
theorem plsN_len (xs : List (Int × Int)) : (plsN xs).length = max (min xs.length 12) 1 := plsK_len (by omega)
theorem plsN_v (xs : List (Int × Int)) : ∀ q ∈ plsN xs, vP q = true := by
  intro q hq
  unfold plsN plsK at hq
  split at hq
  · simp only [List.mem_singleton] at hq
    subst hq
    decide
  · obtain ⟨x, _, rfl⟩ := List.mem_map.1 hq
    exact plN_v _ _
theorem plsN_few (xs : List (Int × Int)) : fewB (plsN xs) = true := by
  unfold fewB
  simp only [Bool.and_eq_true, decide_eq_true_eq]
  have := plsN_len xs
  exact ⟨by omega, List.all_eq_true.2 (plsN_v xs)⟩
theorem plsN_cons (xs : List (Int × Int)) : ∃ p l, plsN xs = p :: l := by
  have := plsN_len xs
  match h : plsN xs with
  | [] => rw [h] at this; simp at this; omega
  | p :: l => exact ⟨p, l, rfl⟩

set_option maxHeartbeats 16000000 in
set_option maxRecDepth 100000 in
theorem PlaneRects_law (a0 a1 a2 a3 b0 b1 b2 b3 c0 c1 c2 c3 z0 z1 : Int) {a : Option Addr} {n cap : Nat} {xs : List (Int × Int)} (ha0 : -9223372036854775808 ≤ a0 ∧ a0 ≤ 9223372036854775807) (ha1 : -9223372036854775808 ≤ a1 ∧ a1 ≤ 9223372036854775807) (ha2 : -9223372036854775808 ≤ a2 ∧ a2 ≤ 9223372036854775807) (ha3 : -9223372036854775808 ≤ a3 ∧ a3 ≤ 9223372036854775807) (hb0 : -9223372036854775808 ≤ b0 ∧ b0 ≤ 9223372036854775807) (hb1 : -9223372036854775808 ≤ b1 ∧ b1 ≤ 9223372036854775807) (hb2 : -9223372036854775808 ≤ b2 ∧ b2 ≤ 9223372036854775807) (hb3 : -9223372036854775808 ≤ b3 ∧ b3 ≤ 9223372036854775807) (hc0 : -9223372036854775808 ≤ c0 ∧ c0 ≤ 9223372036854775807) (hc1 : -9223372036854775808 ≤ c1 ∧ c1 ≤ 9223372036854775807) (hc2 : -9223372036854775808 ≤ c2 ∧ c2 ≤ 9223372036854775807) (hc3 : -9223372036854775808 ≤ c3 ∧ c3 ≤ 9223372036854775807) (hz0 : -9223372036854775808 ≤ z0 ∧ z0 ≤ 9223372036854775807) (hz1 : -9223372036854775808 ≤ z1 ∧ z1 ≤ 9223372036854775807) (hn : xs.length = n) (w : World) (hX : XsAt a xs w) (hq : IOps w ∧ FrOp w) :
    Calls Tryz.prog 9 #[.agg #[.int .i64 a0, .int .i64 a1, .int .i64 a2, .int .i64 a3, .int .i64 b0, .int .i64 b1, .int .i64 b2, .int .i64 b3, .int .i64 c0, .int .i64 c1, .int .i64 c2, .int .i64 c3], .slice a n cap, .agg #[.int .i64 z0, .int .i64 z1]] w fun e W' => e = .returned (.bool true) ∧ Below w.heap.size w W' := by
  have hmx : Tryz.prog.follows .mixedOrders = true := by kernel_rfl
  have KS := Lib.hid (fun (W : World) (hb : Below w.heap.size w W) => sane7_s (hq.1.below hb) (hq.2.below hb))
  have KA := Lib.hid (fun (W : World) => rect_s ha0 ha1 ha2 ha3 W)
  have vA := rcN_v a0 a1 a2 a3
  generalize rcN a0 a1 a2 a3 = A at KA vA
  have KB := Lib.hid (fun (W : World) => rect_s hb0 hb1 hb2 hb3 W)
  have vB := rcN_v b0 b1 b2 b3
  generalize rcN b0 b1 b2 b3 = B at KB vB
  have KC := Lib.hid (fun (W : World) => rect_s hc0 hc1 hc2 hc3 W)
  have vC := rcN_v c0 c1 c2 c3
  generalize rcN c0 c1 c2 c3 = C at KC vC
  have KP := Lib.hid (fun (W : World) => plN_s hz0 hz1 W)
  have vp := plN_v z0 z1
  generalize plN z0 z1 = p at KP vp
  have KL := Lib.hid (fun (W : World) (hb : Below w.heap.size w W) => places_s (cap := cap) hn (hX.below hb))
  have IAA := Lib.hid (fun (W : World) => inside_s A A W)
  have IAB := Lib.hid (fun (W : World) => inside_s A B W)
  have IBC := Lib.hid (fun (W : World) => inside_s B C W)
  have IAC := Lib.hid (fun (W : World) => inside_s A C W)
  have IBA := Lib.hid (fun (W : World) => inside_s B A W)
  have TAA := Lib.hid (fun (W : World) => touch_s A A W)
  have TAB := Lib.hid (fun (W : World) => touch_s A B W)
  have TBA := Lib.hid (fun (W : World) => touch_s B A W)
  have TAC := Lib.hid (fun (W : World) => touch_s A C W)
  have TBC := Lib.hid (fun (W : World) => touch_s B C W)
  rw [inside_self vA] at IAA
  rw [touch_self vA] at TAA
  rw [touch_comm A B] at TBA
  have h1 : insideR A B = true → insideR B C = true → insideR A C = true := inside_trans
  have h2 : insideR A B = true → insideR B A = true → A = B := inside_anti
  have h3 : insideR A B = true → touchR A B = true := inside_touch
  have h4 : insideR A B = true → touchR A C = true → touchR B C = true := inside_touch2
  generalize insideR A B = i12 at IAB h1 h2 h3 h4
  generalize insideR B C = i23 at IBC h1
  generalize insideR A C = i13 at IAC h1
  generalize insideR B A = i21 at IBA h2
  generalize touchR A B = t12 at TAB TBA h3
  generalize touchR A C = t13 at TAC h4
  generalize touchR B C = t23 at TBC h4
  have G := Lib.hid (And.intro h1 (And.intro h2 (And.intro h3 h4)))
  have HP := Lib.hid vp
  have HC := Lib.hid (show AzAt [(w.heap.size + 1, [.int .i64 z0, .int .i64 z1]), (w.heap.size, [.int .i64 a0, .int .i64 a1, .int .i64 a2, .int .i64 a3, .int .i64 b0, .int .i64 b1, .int .i64 b2, .int .i64 b3, .int .i64 c0, .int .i64 c1, .int .i64 c2, .int .i64 c3])] w _ from by
    have hp := ((AzAt.start w).push [.int .i64 a0, .int .i64 a1, .int .i64 a2, .int .i64 a3, .int .i64 b0, .int .i64 b1, .int .i64 b2, .int .i64 b3, .int .i64 c0, .int .i64 c1, .int .i64 c2, .int .i64 c3] 67).push [.int .i64 z0, .int .i64 z1] 55
    simp only [World.size_alloc] at hp
    exact hp)
  clear hX hq hn vA vB vC vp h1 h2 h3 h4 ha0 ha1 ha2 ha3 hb0 hb1 hb2 hb3 hc0 hc1 hc2 hc3 hz0 hz1
  go_enter Tryz.func9, Tryz.ntmps9
  go_upto_region 6 with (first
    | (go_at_call 10; (with_reducible refine (KS.out _ HC.out.bw).mono ?_); rintro e w1 ⟨rfl, hb⟩; replace HC := Lib.hid (HC.out.below hb); clear hb; have x0 := ((HC.out.at (B := w.heap.size) (l := [.int .i64 a0, .int .i64 a1, .int .i64 a2, .int .i64 a3, .int .i64 b0, .int .i64 b1, .int .i64 b2, .int .i64 b3, .int .i64 c0, .int .i64 c1, .int .i64 c2, .int .i64 c3]) (by simp)).row 0 _ rfl); have x1 := ((HC.out.at (B := w.heap.size) (l := [.int .i64 a0, .int .i64 a1, .int .i64 a2, .int .i64 a3, .int .i64 b0, .int .i64 b1, .int .i64 b2, .int .i64 b3, .int .i64 c0, .int .i64 c1, .int .i64 c2, .int .i64 c3]) (by simp)).row 1 _ rfl); have x2 := ((HC.out.at (B := w.heap.size) (l := [.int .i64 a0, .int .i64 a1, .int .i64 a2, .int .i64 a3, .int .i64 b0, .int .i64 b1, .int .i64 b2, .int .i64 b3, .int .i64 c0, .int .i64 c1, .int .i64 c2, .int .i64 c3]) (by simp)).row 2 _ rfl); have x3 := ((HC.out.at (B := w.heap.size) (l := [.int .i64 a0, .int .i64 a1, .int .i64 a2, .int .i64 a3, .int .i64 b0, .int .i64 b1, .int .i64 b2, .int .i64 b3, .int .i64 c0, .int .i64 c1, .int .i64 c2, .int .i64 c3]) (by simp)).row 3 _ rfl))
    | (go_at_call 13; (with_reducible refine (KA.out _).mono ?_); rintro e wA ⟨rfl, hb⟩; replace HC := Lib.hid ((HC.out.below hb).push [.int .i64 A.x, .int .i64 A.y, .int .i64 A.w, .int .i64 A.h] 29); clear hb x0 x1 x2 x3; have x4 := ((HC.out.at (B := w.heap.size) (l := [.int .i64 a0, .int .i64 a1, .int .i64 a2, .int .i64 a3, .int .i64 b0, .int .i64 b1, .int .i64 b2, .int .i64 b3, .int .i64 c0, .int .i64 c1, .int .i64 c2, .int .i64 c3]) (by simp)).row 4 _ rfl); have x5 := ((HC.out.at (B := w.heap.size) (l := [.int .i64 a0, .int .i64 a1, .int .i64 a2, .int .i64 a3, .int .i64 b0, .int .i64 b1, .int .i64 b2, .int .i64 b3, .int .i64 c0, .int .i64 c1, .int .i64 c2, .int .i64 c3]) (by simp)).row 5 _ rfl); have x6 := ((HC.out.at (B := w.heap.size) (l := [.int .i64 a0, .int .i64 a1, .int .i64 a2, .int .i64 a3, .int .i64 b0, .int .i64 b1, .int .i64 b2, .int .i64 b3, .int .i64 c0, .int .i64 c1, .int .i64 c2, .int .i64 c3]) (by simp)).row 6 _ rfl); have x7 := ((HC.out.at (B := w.heap.size) (l := [.int .i64 a0, .int .i64 a1, .int .i64 a2, .int .i64 a3, .int .i64 b0, .int .i64 b1, .int .i64 b2, .int .i64 b3, .int .i64 c0, .int .i64 c1, .int .i64 c2, .int .i64 c3]) (by simp)).row 7 _ rfl))
    | (go_at_call 13; (with_reducible refine (KB.out _).mono ?_); rintro e wB ⟨rfl, hb⟩; replace HC := Lib.hid ((HC.out.below hb).push [.int .i64 B.x, .int .i64 B.y, .int .i64 B.w, .int .i64 B.h] 29); clear hb x4 x5 x6 x7; have x8 := ((HC.out.at (B := w.heap.size) (l := [.int .i64 a0, .int .i64 a1, .int .i64 a2, .int .i64 a3, .int .i64 b0, .int .i64 b1, .int .i64 b2, .int .i64 b3, .int .i64 c0, .int .i64 c1, .int .i64 c2, .int .i64 c3]) (by simp)).row 8 _ rfl); have x9 := ((HC.out.at (B := w.heap.size) (l := [.int .i64 a0, .int .i64 a1, .int .i64 a2, .int .i64 a3, .int .i64 b0, .int .i64 b1, .int .i64 b2, .int .i64 b3, .int .i64 c0, .int .i64 c1, .int .i64 c2, .int .i64 c3]) (by simp)).row 9 _ rfl); have x10 := ((HC.out.at (B := w.heap.size) (l := [.int .i64 a0, .int .i64 a1, .int .i64 a2, .int .i64 a3, .int .i64 b0, .int .i64 b1, .int .i64 b2, .int .i64 b3, .int .i64 c0, .int .i64 c1, .int .i64 c2, .int .i64 c3]) (by simp)).row 10 _ rfl); have x11 := ((HC.out.at (B := w.heap.size) (l := [.int .i64 a0, .int .i64 a1, .int .i64 a2, .int .i64 a3, .int .i64 b0, .int .i64 b1, .int .i64 b2, .int .i64 b3, .int .i64 c0, .int .i64 c1, .int .i64 c2, .int .i64 c3]) (by simp)).row 11 _ rfl))
    | (go_at_call 13; (with_reducible refine (KC.out _).mono ?_); rintro e wC ⟨rfl, hb⟩; replace HC := Lib.hid ((HC.out.below hb).push [.int .i64 C.x, .int .i64 C.y, .int .i64 C.w, .int .i64 C.h] 29); clear hb x8 x9 x10 x11)
    | fail)
  obtain ⟨W2, hW2⟩ : ∃ W2, W2 = wC.alloc (.cells #[.int .i64 C.x, .int .i64 C.y, .int .i64 C.w, .int .i64 C.h] 29) := ⟨_, rfl⟩
  rw [← hW2] at HC ⊢
  clear hW2
  go_cut [78] from 29 to 77 (fun v wX => v = .bool false ∧ AzAt [(wC.heap.size, [.int .i64 C.x, .int .i64 C.y, .int .i64 C.w, .int .i64 C.h]), (wB.heap.size, [.int .i64 B.x, .int .i64 B.y, .int .i64 B.w, .int .i64 B.h]), (wA.heap.size, [.int .i64 A.x, .int .i64 A.y, .int .i64 A.w, .int .i64 A.h]), (w.heap.size + 1, [.int .i64 z0, .int .i64 z1]), (w.heap.size, [.int .i64 a0, .int .i64 a1, .int .i64 a2, .int .i64 a3, .int .i64 b0, .int .i64 b1, .int .i64 b2, .int .i64 b3, .int .i64 c0, .int .i64 c1, .int .i64 c2, .int .i64 c3])] w wX)
  case first =>
    have z0 := cell_regrown ((HC.out.at (B := wA.heap.size) (l := [.int .i64 A.x, .int .i64 A.y, .int .i64 A.w, .int .i64 A.h]) (by simp)).row 0 _ rfl)
    have z1 := cell_regrown ((HC.out.at (B := wA.heap.size) (l := [.int .i64 A.x, .int .i64 A.y, .int .i64 A.w, .int .i64 A.h]) (by simp)).row 1 _ rfl)
    have z2 := cell_regrown ((HC.out.at (B := wA.heap.size) (l := [.int .i64 A.x, .int .i64 A.y, .int .i64 A.w, .int .i64 A.h]) (by simp)).row 2 _ rfl)
    have z3 := cell_regrown ((HC.out.at (B := wA.heap.size) (l := [.int .i64 A.x, .int .i64 A.y, .int .i64 A.w, .int .i64 A.h]) (by simp)).row 3 _ rfl)
    have z4 := cell_regrown ((HC.out.at (B := wB.heap.size) (l := [.int .i64 B.x, .int .i64 B.y, .int .i64 B.w, .int .i64 B.h]) (by simp)).row 0 _ rfl)
    have z5 := cell_regrown ((HC.out.at (B := wB.heap.size) (l := [.int .i64 B.x, .int .i64 B.y, .int .i64 B.w, .int .i64 B.h]) (by simp)).row 1 _ rfl)
    have z6 := cell_regrown ((HC.out.at (B := wB.heap.size) (l := [.int .i64 B.x, .int .i64 B.y, .int .i64 B.w, .int .i64 B.h]) (by simp)).row 2 _ rfl)
    have z7 := cell_regrown ((HC.out.at (B := wB.heap.size) (l := [.int .i64 B.x, .int .i64 B.y, .int .i64 B.w, .int .i64 B.h]) (by simp)).row 3 _ rfl)
    have z8 := cell_regrown ((HC.out.at (B := wC.heap.size) (l := [.int .i64 C.x, .int .i64 C.y, .int .i64 C.w, .int .i64 C.h]) (by simp)).row 0 _ rfl)
    have z9 := cell_regrown ((HC.out.at (B := wC.heap.size) (l := [.int .i64 C.x, .int .i64 C.y, .int .i64 C.w, .int .i64 C.h]) (by simp)).row 1 _ rfl)
    have z10 := cell_regrown ((HC.out.at (B := wC.heap.size) (l := [.int .i64 C.x, .int .i64 C.y, .int .i64 C.w, .int .i64 C.h]) (by simp)).row 2 _ rfl)
    have z11 := cell_regrown ((HC.out.at (B := wC.heap.size) (l := [.int .i64 C.x, .int .i64 C.y, .int .i64 C.w, .int .i64 C.h]) (by simp)).row 3 _ rfl)
    have c0 := fun d os => Calls.regrown_of (d := d) (os := os) (IAA.out (grow (redrawn W2 d) os))
    have c1 := fun d os => Calls.regrown_of (d := d) (os := os) (TAA.out (grow (redrawn W2 d) os))
    have c2 := fun d os => Calls.regrown_of (d := d) (os := os) (TAB.out (grow (redrawn W2 d) os))
    have c3 := fun d os => Calls.regrown_of (d := d) (os := os) (TBA.out (grow (redrawn W2 d) os))
    have c4 := fun d os => Calls.regrown_of (d := d) (os := os) (IAB.out (grow (redrawn W2 d) os))
    have c5 := fun d os => Calls.regrown_of (d := d) (os := os) (IBC.out (grow (redrawn W2 d) os))
    have c6 := fun d os => Calls.regrown_of (d := d) (os := os) (IAC.out (grow (redrawn W2 d) os))
    have c7 := fun d os => Calls.regrown_of (d := d) (os := os) (IBA.out (grow (redrawn W2 d) os))
    clear KA KB KC KS KP KL IAA TAA TAB TBA IAB IBC IAC IBA TAC TBC
    cases i12 with
    | false =>
      refine wp_region_quiet_below (by kernel_rfl) (by kernel_rfl) ?_
      repeat (go_big_quiet_step (first | with_reducible exact c0 _ _ | with_reducible exact c1 _ _ | with_reducible exact c2 _ _ | with_reducible exact c3 _ _ | with_reducible exact c4 _ _ | with_reducible exact c5 _ _ | with_reducible exact c6 _ _ | with_reducible exact c7 _ _))
      refine wpQuiet_nil ?_
      intro W1 hw'
      have hb1 : Below W2.heap.size W2 W1 := by obtain ⟨⟨dq, osq⟩, hw''⟩ := hw'; rw [hw'']; exact below_regrown W2 dq osq
      have H1 := Lib.hid (HC.out.below hb1)
      clear hw' hb1
      go_wp2
      go_meet
      exact ⟨rfl, H1.out⟩
    | true =>
      cases i23 with
      | false =>
        cases i21 with
        | false =>
          refine wp_region_quiet_below (by kernel_rfl) (by kernel_rfl) ?_
          repeat (go_big_quiet_step (first | with_reducible exact c0 _ _ | with_reducible exact c1 _ _ | with_reducible exact c2 _ _ | with_reducible exact c3 _ _ | with_reducible exact c4 _ _ | with_reducible exact c5 _ _ | with_reducible exact c6 _ _ | with_reducible exact c7 _ _))
          refine wpQuiet_nil ?_
          intro W1 hw'
          have hb1 : Below W2.heap.size W2 W1 := by obtain ⟨⟨dq, osq⟩, hw''⟩ := hw'; rw [hw'']; exact below_regrown W2 dq osq
          have H1 := Lib.hid (HC.out.below hb1)
          clear hw' hb1
          go_wp2
          go_meet
          exact ⟨rfl, H1.out⟩
        | true =>
          have hAB := G.out.2.1 rfl rfl
          subst hAB
          refine wp_region_quiet_below (by kernel_rfl) (by kernel_rfl) ?_
          repeat (go_big_quiet_step (first | with_reducible exact c0 _ _ | with_reducible exact c1 _ _ | with_reducible exact c2 _ _ | with_reducible exact c3 _ _ | with_reducible exact c4 _ _ | with_reducible exact c5 _ _ | with_reducible exact c6 _ _ | with_reducible exact c7 _ _))
          refine wpQuiet_nil ?_
          intro W1 hw'
          have hb1 : Below W2.heap.size W2 W1 := by obtain ⟨⟨dq, osq⟩, hw''⟩ := hw'; rw [hw'']; exact below_regrown W2 dq osq
          have H1 := Lib.hid (HC.out.below hb1)
          clear hw' hb1
          go_wp2
          go_meet
          exact ⟨rfl, H1.out⟩
      | true =>
        have h13 := G.out.1 rfl rfl
        subst h13
        cases i21 with
        | false =>
          refine wp_region_quiet_below (by kernel_rfl) (by kernel_rfl) ?_
          repeat (go_big_quiet_step (first | with_reducible exact c0 _ _ | with_reducible exact c1 _ _ | with_reducible exact c2 _ _ | with_reducible exact c3 _ _ | with_reducible exact c4 _ _ | with_reducible exact c5 _ _ | with_reducible exact c6 _ _ | with_reducible exact c7 _ _))
          refine wpQuiet_nil ?_
          intro W1 hw'
          have hb1 : Below W2.heap.size W2 W1 := by obtain ⟨⟨dq, osq⟩, hw''⟩ := hw'; rw [hw'']; exact below_regrown W2 dq osq
          have H1 := Lib.hid (HC.out.below hb1)
          clear hw' hb1
          go_wp2
          go_meet
          exact ⟨rfl, H1.out⟩
        | true =>
          have hAB := G.out.2.1 rfl rfl
          subst hAB
          refine wp_region_quiet_below (by kernel_rfl) (by kernel_rfl) ?_
          repeat (go_big_quiet_step (first | with_reducible exact c0 _ _ | with_reducible exact c1 _ _ | with_reducible exact c2 _ _ | with_reducible exact c3 _ _ | with_reducible exact c4 _ _ | with_reducible exact c5 _ _ | with_reducible exact c6 _ _ | with_reducible exact c7 _ _))
          refine wpQuiet_nil ?_
          intro W1 hw'
          have hb1 : Below W2.heap.size W2 W1 := by obtain ⟨⟨dq, osq⟩, hw''⟩ := hw'; rw [hw'']; exact below_regrown W2 dq osq
          have H1 := Lib.hid (HC.out.below hb1)
          clear hw' hb1
          go_wp2
          go_meet
          exact ⟨rfl, H1.out⟩
  case rest =>
    obtain ⟨rfl, hX⟩ := hcut
    clear HC
    have HC := Lib.hid hX
    clear hX IAA TAA TBA IBC IAC IBA
    go_upto_region 8 with fail
    go_cut [98] from 79 to 97 (fun v wX => v = .bool false ∧ AzAt [(wC.heap.size, [.int .i64 C.x, .int .i64 C.y, .int .i64 C.w, .int .i64 C.h]), (wB.heap.size, [.int .i64 B.x, .int .i64 B.y, .int .i64 B.w, .int .i64 B.h]), (wA.heap.size, [.int .i64 A.x, .int .i64 A.y, .int .i64 A.w, .int .i64 A.h]), (w.heap.size + 1, [.int .i64 z0, .int .i64 z1]), (w.heap.size, [.int .i64 a0, .int .i64 a1, .int .i64 a2, .int .i64 a3, .int .i64 b0, .int .i64 b1, .int .i64 b2, .int .i64 b3, .int .i64 c0, .int .i64 c1, .int .i64 c2, .int .i64 c3])] w wX)
    case first =>
      clear KA KB KC KS KP KL
      have z0 := ((HC.out.at (B := wA.heap.size) (l := [.int .i64 A.x, .int .i64 A.y, .int .i64 A.w, .int .i64 A.h]) (by simp)).row 0 _ rfl)
      have z1 := ((HC.out.at (B := wA.heap.size) (l := [.int .i64 A.x, .int .i64 A.y, .int .i64 A.w, .int .i64 A.h]) (by simp)).row 1 _ rfl)
      have z2 := ((HC.out.at (B := wA.heap.size) (l := [.int .i64 A.x, .int .i64 A.y, .int .i64 A.w, .int .i64 A.h]) (by simp)).row 2 _ rfl)
      have z3 := ((HC.out.at (B := wA.heap.size) (l := [.int .i64 A.x, .int .i64 A.y, .int .i64 A.w, .int .i64 A.h]) (by simp)).row 3 _ rfl)
      have z4 := ((HC.out.at (B := wB.heap.size) (l := [.int .i64 B.x, .int .i64 B.y, .int .i64 B.w, .int .i64 B.h]) (by simp)).row 0 _ rfl)
      have z5 := ((HC.out.at (B := wB.heap.size) (l := [.int .i64 B.x, .int .i64 B.y, .int .i64 B.w, .int .i64 B.h]) (by simp)).row 1 _ rfl)
      have z6 := ((HC.out.at (B := wB.heap.size) (l := [.int .i64 B.x, .int .i64 B.y, .int .i64 B.w, .int .i64 B.h]) (by simp)).row 2 _ rfl)
      have z7 := ((HC.out.at (B := wB.heap.size) (l := [.int .i64 B.x, .int .i64 B.y, .int .i64 B.w, .int .i64 B.h]) (by simp)).row 3 _ rfl)
      cases i12 with
      | false =>
        go_wp2_with (first
          | (go_at_call 18; (with_reducible refine (IAB.out _).mono ?_); rintro e wq ⟨rfl, hb⟩; replace HC := Lib.hid (HC.out.below hb); clear hb z0 z1 z2 z3 z4 z5 z6 z7; have z0 := ((HC.out.at (B := wA.heap.size) (l := [.int .i64 A.x, .int .i64 A.y, .int .i64 A.w, .int .i64 A.h]) (by simp)).row 0 _ rfl); have z1 := ((HC.out.at (B := wA.heap.size) (l := [.int .i64 A.x, .int .i64 A.y, .int .i64 A.w, .int .i64 A.h]) (by simp)).row 1 _ rfl); have z2 := ((HC.out.at (B := wA.heap.size) (l := [.int .i64 A.x, .int .i64 A.y, .int .i64 A.w, .int .i64 A.h]) (by simp)).row 2 _ rfl); have z3 := ((HC.out.at (B := wA.heap.size) (l := [.int .i64 A.x, .int .i64 A.y, .int .i64 A.w, .int .i64 A.h]) (by simp)).row 3 _ rfl); have z4 := ((HC.out.at (B := wB.heap.size) (l := [.int .i64 B.x, .int .i64 B.y, .int .i64 B.w, .int .i64 B.h]) (by simp)).row 0 _ rfl); have z5 := ((HC.out.at (B := wB.heap.size) (l := [.int .i64 B.x, .int .i64 B.y, .int .i64 B.w, .int .i64 B.h]) (by simp)).row 1 _ rfl); have z6 := ((HC.out.at (B := wB.heap.size) (l := [.int .i64 B.x, .int .i64 B.y, .int .i64 B.w, .int .i64 B.h]) (by simp)).row 2 _ rfl); have z7 := ((HC.out.at (B := wB.heap.size) (l := [.int .i64 B.x, .int .i64 B.y, .int .i64 B.w, .int .i64 B.h]) (by simp)).row 3 _ rfl))
          | (go_at_call 16; (with_reducible refine (TAB.out _).mono ?_); rintro e wq ⟨rfl, hb⟩; replace HC := Lib.hid (HC.out.below hb); clear hb z0 z1 z2 z3 z4 z5 z6 z7; have z0 := ((HC.out.at (B := wA.heap.size) (l := [.int .i64 A.x, .int .i64 A.y, .int .i64 A.w, .int .i64 A.h]) (by simp)).row 0 _ rfl); have z1 := ((HC.out.at (B := wA.heap.size) (l := [.int .i64 A.x, .int .i64 A.y, .int .i64 A.w, .int .i64 A.h]) (by simp)).row 1 _ rfl); have z2 := ((HC.out.at (B := wA.heap.size) (l := [.int .i64 A.x, .int .i64 A.y, .int .i64 A.w, .int .i64 A.h]) (by simp)).row 2 _ rfl); have z3 := ((HC.out.at (B := wA.heap.size) (l := [.int .i64 A.x, .int .i64 A.y, .int .i64 A.w, .int .i64 A.h]) (by simp)).row 3 _ rfl); have z8 := ((HC.out.at (B := wC.heap.size) (l := [.int .i64 C.x, .int .i64 C.y, .int .i64 C.w, .int .i64 C.h]) (by simp)).row 0 _ rfl); have z9 := ((HC.out.at (B := wC.heap.size) (l := [.int .i64 C.x, .int .i64 C.y, .int .i64 C.w, .int .i64 C.h]) (by simp)).row 1 _ rfl); have z10 := ((HC.out.at (B := wC.heap.size) (l := [.int .i64 C.x, .int .i64 C.y, .int .i64 C.w, .int .i64 C.h]) (by simp)).row 2 _ rfl); have z11 := ((HC.out.at (B := wC.heap.size) (l := [.int .i64 C.x, .int .i64 C.y, .int .i64 C.w, .int .i64 C.h]) (by simp)).row 3 _ rfl))
          | (go_at_call 16; (with_reducible refine (TAC.out _).mono ?_); rintro e wq ⟨rfl, hb⟩; replace HC := Lib.hid (HC.out.below hb); clear hb z0 z1 z2 z3 z8 z9 z10 z11; have z4 := ((HC.out.at (B := wB.heap.size) (l := [.int .i64 B.x, .int .i64 B.y, .int .i64 B.w, .int .i64 B.h]) (by simp)).row 0 _ rfl); have z5 := ((HC.out.at (B := wB.heap.size) (l := [.int .i64 B.x, .int .i64 B.y, .int .i64 B.w, .int .i64 B.h]) (by simp)).row 1 _ rfl); have z6 := ((HC.out.at (B := wB.heap.size) (l := [.int .i64 B.x, .int .i64 B.y, .int .i64 B.w, .int .i64 B.h]) (by simp)).row 2 _ rfl); have z7 := ((HC.out.at (B := wB.heap.size) (l := [.int .i64 B.x, .int .i64 B.y, .int .i64 B.w, .int .i64 B.h]) (by simp)).row 3 _ rfl); have z8 := ((HC.out.at (B := wC.heap.size) (l := [.int .i64 C.x, .int .i64 C.y, .int .i64 C.w, .int .i64 C.h]) (by simp)).row 0 _ rfl); have z9 := ((HC.out.at (B := wC.heap.size) (l := [.int .i64 C.x, .int .i64 C.y, .int .i64 C.w, .int .i64 C.h]) (by simp)).row 1 _ rfl); have z10 := ((HC.out.at (B := wC.heap.size) (l := [.int .i64 C.x, .int .i64 C.y, .int .i64 C.w, .int .i64 C.h]) (by simp)).row 2 _ rfl); have z11 := ((HC.out.at (B := wC.heap.size) (l := [.int .i64 C.x, .int .i64 C.y, .int .i64 C.w, .int .i64 C.h]) (by simp)).row 3 _ rfl))
          | (go_at_call 16; (with_reducible refine (TBC.out _).mono ?_); rintro e wq ⟨rfl, hb⟩; replace HC := Lib.hid (HC.out.below hb); clear hb z4 z5 z6 z7 z8 z9 z10 z11)
          | fail)
        go_meet
        exact ⟨rfl, HC.out⟩
      | true =>
        have h12 := G.out.2.2.1 rfl
        subst h12
        cases t13 with
        | false =>
          go_wp2_with (first
            | (go_at_call 18; (with_reducible refine (IAB.out _).mono ?_); rintro e wq ⟨rfl, hb⟩; replace HC := Lib.hid (HC.out.below hb); clear hb z0 z1 z2 z3 z4 z5 z6 z7; have z0 := ((HC.out.at (B := wA.heap.size) (l := [.int .i64 A.x, .int .i64 A.y, .int .i64 A.w, .int .i64 A.h]) (by simp)).row 0 _ rfl); have z1 := ((HC.out.at (B := wA.heap.size) (l := [.int .i64 A.x, .int .i64 A.y, .int .i64 A.w, .int .i64 A.h]) (by simp)).row 1 _ rfl); have z2 := ((HC.out.at (B := wA.heap.size) (l := [.int .i64 A.x, .int .i64 A.y, .int .i64 A.w, .int .i64 A.h]) (by simp)).row 2 _ rfl); have z3 := ((HC.out.at (B := wA.heap.size) (l := [.int .i64 A.x, .int .i64 A.y, .int .i64 A.w, .int .i64 A.h]) (by simp)).row 3 _ rfl); have z4 := ((HC.out.at (B := wB.heap.size) (l := [.int .i64 B.x, .int .i64 B.y, .int .i64 B.w, .int .i64 B.h]) (by simp)).row 0 _ rfl); have z5 := ((HC.out.at (B := wB.heap.size) (l := [.int .i64 B.x, .int .i64 B.y, .int .i64 B.w, .int .i64 B.h]) (by simp)).row 1 _ rfl); have z6 := ((HC.out.at (B := wB.heap.size) (l := [.int .i64 B.x, .int .i64 B.y, .int .i64 B.w, .int .i64 B.h]) (by simp)).row 2 _ rfl); have z7 := ((HC.out.at (B := wB.heap.size) (l := [.int .i64 B.x, .int .i64 B.y, .int .i64 B.w, .int .i64 B.h]) (by simp)).row 3 _ rfl))
            | (go_at_call 16; (with_reducible refine (TAB.out _).mono ?_); rintro e wq ⟨rfl, hb⟩; replace HC := Lib.hid (HC.out.below hb); clear hb z0 z1 z2 z3 z4 z5 z6 z7; have z0 := ((HC.out.at (B := wA.heap.size) (l := [.int .i64 A.x, .int .i64 A.y, .int .i64 A.w, .int .i64 A.h]) (by simp)).row 0 _ rfl); have z1 := ((HC.out.at (B := wA.heap.size) (l := [.int .i64 A.x, .int .i64 A.y, .int .i64 A.w, .int .i64 A.h]) (by simp)).row 1 _ rfl); have z2 := ((HC.out.at (B := wA.heap.size) (l := [.int .i64 A.x, .int .i64 A.y, .int .i64 A.w, .int .i64 A.h]) (by simp)).row 2 _ rfl); have z3 := ((HC.out.at (B := wA.heap.size) (l := [.int .i64 A.x, .int .i64 A.y, .int .i64 A.w, .int .i64 A.h]) (by simp)).row 3 _ rfl); have z8 := ((HC.out.at (B := wC.heap.size) (l := [.int .i64 C.x, .int .i64 C.y, .int .i64 C.w, .int .i64 C.h]) (by simp)).row 0 _ rfl); have z9 := ((HC.out.at (B := wC.heap.size) (l := [.int .i64 C.x, .int .i64 C.y, .int .i64 C.w, .int .i64 C.h]) (by simp)).row 1 _ rfl); have z10 := ((HC.out.at (B := wC.heap.size) (l := [.int .i64 C.x, .int .i64 C.y, .int .i64 C.w, .int .i64 C.h]) (by simp)).row 2 _ rfl); have z11 := ((HC.out.at (B := wC.heap.size) (l := [.int .i64 C.x, .int .i64 C.y, .int .i64 C.w, .int .i64 C.h]) (by simp)).row 3 _ rfl))
            | (go_at_call 16; (with_reducible refine (TAC.out _).mono ?_); rintro e wq ⟨rfl, hb⟩; replace HC := Lib.hid (HC.out.below hb); clear hb z0 z1 z2 z3 z8 z9 z10 z11; have z4 := ((HC.out.at (B := wB.heap.size) (l := [.int .i64 B.x, .int .i64 B.y, .int .i64 B.w, .int .i64 B.h]) (by simp)).row 0 _ rfl); have z5 := ((HC.out.at (B := wB.heap.size) (l := [.int .i64 B.x, .int .i64 B.y, .int .i64 B.w, .int .i64 B.h]) (by simp)).row 1 _ rfl); have z6 := ((HC.out.at (B := wB.heap.size) (l := [.int .i64 B.x, .int .i64 B.y, .int .i64 B.w, .int .i64 B.h]) (by simp)).row 2 _ rfl); have z7 := ((HC.out.at (B := wB.heap.size) (l := [.int .i64 B.x, .int .i64 B.y, .int .i64 B.w, .int .i64 B.h]) (by simp)).row 3 _ rfl); have z8 := ((HC.out.at (B := wC.heap.size) (l := [.int .i64 C.x, .int .i64 C.y, .int .i64 C.w, .int .i64 C.h]) (by simp)).row 0 _ rfl); have z9 := ((HC.out.at (B := wC.heap.size) (l := [.int .i64 C.x, .int .i64 C.y, .int .i64 C.w, .int .i64 C.h]) (by simp)).row 1 _ rfl); have z10 := ((HC.out.at (B := wC.heap.size) (l := [.int .i64 C.x, .int .i64 C.y, .int .i64 C.w, .int .i64 C.h]) (by simp)).row 2 _ rfl); have z11 := ((HC.out.at (B := wC.heap.size) (l := [.int .i64 C.x, .int .i64 C.y, .int .i64 C.w, .int .i64 C.h]) (by simp)).row 3 _ rfl))
            | (go_at_call 16; (with_reducible refine (TBC.out _).mono ?_); rintro e wq ⟨rfl, hb⟩; replace HC := Lib.hid (HC.out.below hb); clear hb z4 z5 z6 z7 z8 z9 z10 z11)
            | fail)
          go_meet
          exact ⟨rfl, HC.out⟩
        | true =>
          have h23 := G.out.2.2.2 rfl rfl
          subst h23
          go_wp2_with (first
            | (go_at_call 18; (with_reducible refine (IAB.out _).mono ?_); rintro e wq ⟨rfl, hb⟩; replace HC := Lib.hid (HC.out.below hb); clear hb z0 z1 z2 z3 z4 z5 z6 z7; have z0 := ((HC.out.at (B := wA.heap.size) (l := [.int .i64 A.x, .int .i64 A.y, .int .i64 A.w, .int .i64 A.h]) (by simp)).row 0 _ rfl); have z1 := ((HC.out.at (B := wA.heap.size) (l := [.int .i64 A.x, .int .i64 A.y, .int .i64 A.w, .int .i64 A.h]) (by simp)).row 1 _ rfl); have z2 := ((HC.out.at (B := wA.heap.size) (l := [.int .i64 A.x, .int .i64 A.y, .int .i64 A.w, .int .i64 A.h]) (by simp)).row 2 _ rfl); have z3 := ((HC.out.at (B := wA.heap.size) (l := [.int .i64 A.x, .int .i64 A.y, .int .i64 A.w, .int .i64 A.h]) (by simp)).row 3 _ rfl); have z4 := ((HC.out.at (B := wB.heap.size) (l := [.int .i64 B.x, .int .i64 B.y, .int .i64 B.w, .int .i64 B.h]) (by simp)).row 0 _ rfl); have z5 := ((HC.out.at (B := wB.heap.size) (l := [.int .i64 B.x, .int .i64 B.y, .int .i64 B.w, .int .i64 B.h]) (by simp)).row 1 _ rfl); have z6 := ((HC.out.at (B := wB.heap.size) (l := [.int .i64 B.x, .int .i64 B.y, .int .i64 B.w, .int .i64 B.h]) (by simp)).row 2 _ rfl); have z7 := ((HC.out.at (B := wB.heap.size) (l := [.int .i64 B.x, .int .i64 B.y, .int .i64 B.w, .int .i64 B.h]) (by simp)).row 3 _ rfl))
            | (go_at_call 16; (with_reducible refine (TAB.out _).mono ?_); rintro e wq ⟨rfl, hb⟩; replace HC := Lib.hid (HC.out.below hb); clear hb z0 z1 z2 z3 z4 z5 z6 z7; have z0 := ((HC.out.at (B := wA.heap.size) (l := [.int .i64 A.x, .int .i64 A.y, .int .i64 A.w, .int .i64 A.h]) (by simp)).row 0 _ rfl); have z1 := ((HC.out.at (B := wA.heap.size) (l := [.int .i64 A.x, .int .i64 A.y, .int .i64 A.w, .int .i64 A.h]) (by simp)).row 1 _ rfl); have z2 := ((HC.out.at (B := wA.heap.size) (l := [.int .i64 A.x, .int .i64 A.y, .int .i64 A.w, .int .i64 A.h]) (by simp)).row 2 _ rfl); have z3 := ((HC.out.at (B := wA.heap.size) (l := [.int .i64 A.x, .int .i64 A.y, .int .i64 A.w, .int .i64 A.h]) (by simp)).row 3 _ rfl); have z8 := ((HC.out.at (B := wC.heap.size) (l := [.int .i64 C.x, .int .i64 C.y, .int .i64 C.w, .int .i64 C.h]) (by simp)).row 0 _ rfl); have z9 := ((HC.out.at (B := wC.heap.size) (l := [.int .i64 C.x, .int .i64 C.y, .int .i64 C.w, .int .i64 C.h]) (by simp)).row 1 _ rfl); have z10 := ((HC.out.at (B := wC.heap.size) (l := [.int .i64 C.x, .int .i64 C.y, .int .i64 C.w, .int .i64 C.h]) (by simp)).row 2 _ rfl); have z11 := ((HC.out.at (B := wC.heap.size) (l := [.int .i64 C.x, .int .i64 C.y, .int .i64 C.w, .int .i64 C.h]) (by simp)).row 3 _ rfl))
            | (go_at_call 16; (with_reducible refine (TAC.out _).mono ?_); rintro e wq ⟨rfl, hb⟩; replace HC := Lib.hid (HC.out.below hb); clear hb z0 z1 z2 z3 z8 z9 z10 z11; have z4 := ((HC.out.at (B := wB.heap.size) (l := [.int .i64 B.x, .int .i64 B.y, .int .i64 B.w, .int .i64 B.h]) (by simp)).row 0 _ rfl); have z5 := ((HC.out.at (B := wB.heap.size) (l := [.int .i64 B.x, .int .i64 B.y, .int .i64 B.w, .int .i64 B.h]) (by simp)).row 1 _ rfl); have z6 := ((HC.out.at (B := wB.heap.size) (l := [.int .i64 B.x, .int .i64 B.y, .int .i64 B.w, .int .i64 B.h]) (by simp)).row 2 _ rfl); have z7 := ((HC.out.at (B := wB.heap.size) (l := [.int .i64 B.x, .int .i64 B.y, .int .i64 B.w, .int .i64 B.h]) (by simp)).row 3 _ rfl); have z8 := ((HC.out.at (B := wC.heap.size) (l := [.int .i64 C.x, .int .i64 C.y, .int .i64 C.w, .int .i64 C.h]) (by simp)).row 0 _ rfl); have z9 := ((HC.out.at (B := wC.heap.size) (l := [.int .i64 C.x, .int .i64 C.y, .int .i64 C.w, .int .i64 C.h]) (by simp)).row 1 _ rfl); have z10 := ((HC.out.at (B := wC.heap.size) (l := [.int .i64 C.x, .int .i64 C.y, .int .i64 C.w, .int .i64 C.h]) (by simp)).row 2 _ rfl); have z11 := ((HC.out.at (B := wC.heap.size) (l := [.int .i64 C.x, .int .i64 C.y, .int .i64 C.w, .int .i64 C.h]) (by simp)).row 3 _ rfl))
            | (go_at_call 16; (with_reducible refine (TBC.out _).mono ?_); rintro e wq ⟨rfl, hb⟩; replace HC := Lib.hid (HC.out.below hb); clear hb z4 z5 z6 z7 z8 z9 z10 z11)
            | fail)
          go_meet
          exact ⟨rfl, HC.out⟩
    case rest =>
      obtain ⟨rfl, hX⟩ := hcut
      clear HC
      have HC := Lib.hid (hX.sub (L' := [(w.heap.size + 1, [.int .i64 z0, .int .i64 z1])]) (by simp))
      clear hX IAB TAB TAC TBC G
      go_upto_region 11 with (first
        | (go_at_call 11; (with_reducible refine (KL.out _ HC.out.bw).mono ?_); rintro e wL ⟨g, m, c, rfl, hm, hZ⟩; replace HC := Lib.hid ((HC.out.below hZ.az.bw).cons (hZ.ar.at (B := g) (l := plC (plsN xs)) (by simp))); have HM := Lib.hid hm; clear hZ hm)
        | fail)
      have hfew := plsN_few xs
      have hval := plsN_v xs
      obtain ⟨p0, l0, hpl⟩ := plsN_cons xs
      have hm12 : m ≤ 12 := by have h1 := HM.out; have h2 := plsN_len xs; omega
      rw [hpl] at HC HM hfew hval
      have hm := HM.out
      have vp := HP.out
      have KR := Lib.hid (fun (W : World) (h : PsAt g (p0 :: l0) W) => around_s (cap := c) hm.symm hfew W h)
      have v0 : vP p0 = true := hval p0 (by simp)
      have vl : ∀ q ∈ l0, vP q = true := fun q hq => hval q (by simp [hq])
      have hin : ∀ q ∈ p0 :: l0, insideR ⟨q.x, q.y, 0, 0⟩ (aroundL p0 l0) = true := fun q hq => by
        have h := around_inside p0 (p0 :: l0) v0 hval q hq
        rwa [aroundL_low, lowL_head, highL_head, ← aroundL_low] at h
      have htch := around_touch p0 l0 v0 vl p vp
      generalize aroundL p0 l0 = r at KR hin htch
      have KT := Lib.hid (fun (W : World) => touch_s ⟨p.x, p.y, 0, 0⟩ r W)
      rw [htch] at KT
      have HI := Lib.hid hin
      clear KL hpl hfew hval vp v0 vl hin htch hm HP
      go_upto_region 13 with (first
        | (go_at_call 20; (with_reducible refine (KR.out _ (PsAt.of (HC.out.at (B := g) (l := plC (p0 :: l0)) (by simp)))).mono ?_); rintro e wR ⟨rfl, hb⟩; replace HC := Lib.hid ((HC.out.below hb).push [.int .i64 r.x, .int .i64 r.y, .int .i64 r.w, .int .i64 r.h] 29); clear hb; have x0 := ((HC.out.at (B := w.heap.size + 1) (l := [.int .i64 z0, .int .i64 z1]) (by simp)).row 0 _ rfl); have x1 := ((HC.out.at (B := w.heap.size + 1) (l := [.int .i64 z0, .int .i64 z1]) (by simp)).row 1 _ rfl))
        | (go_at_call 37; (with_reducible refine (KP.out _).mono ?_); rintro e wP ⟨rfl, hb⟩; replace HC := Lib.hid ((HC.out.below hb).push [.int .i64 p.x, .int .i64 p.y] 26); clear hb x0 x1)
        | fail)
      obtain ⟨WP, hWP⟩ : ∃ WP, WP = wP.alloc (.cells #[.int .i64 p.x, .int .i64 p.y] 26) := ⟨_, rfl⟩
      rw [← hWP] at HC ⊢
      clear hWP
      have hm1 : 0 < m := by have := HM.out; simp at this; omega
      have y0 := ((HC.out.at (B := g) (l := plC (p0 :: l0)) (by simp)).row 0 _ rfl)
      have y1 := ((HC.out.at (B := g) (l := plC (p0 :: l0)) (by simp)).row 1 _ rfl)
      go_upto_region 14 with fail
      clear y0 y1
      have HD := HC
      replace HC := Lib.hid (HC.out.push [.int .i64 p0.x, .int .i64 p0.y] 26)
      obtain ⟨WL, hWL⟩ : ∃ WL, WL = WP.alloc (.cells #[.int .i64 p0.x, .int .i64 p0.y] 26) := ⟨_, rfl⟩
      rw [← hWL] at HC ⊢
      clear hWL
      have y0 := ((HC.out.at (B := g) (l := plC (p0 :: l0)) (by simp)).row 0 _ rfl)
      have y1 := ((HC.out.at (B := g) (l := plC (p0 :: l0)) (by simp)).row 1 _ rfl)
      go_upto_region 15 with fail
      clear y0 y1
      have HE := HC
      replace HC := Lib.hid (HC.out.push [.int .i64 p0.x, .int .i64 p0.y] 26)
      obtain ⟨WH, hWH⟩ : ∃ WH, WH = WL.alloc (.cells #[.int .i64 p0.x, .int .i64 p0.y] 26) := ⟨_, rfl⟩
      rw [← hWH] at HC ⊢
      clear hWH
      obtain ⟨L, hL⟩ : ∃ L, L = WP.heap.size := ⟨_, rfl⟩
      obtain ⟨H, hH⟩ : ∃ H, H = WL.heap.size := ⟨_, rfl⟩
      obtain ⟨P, hP⟩ : ∃ P, P = wP.heap.size := ⟨_, rfl⟩
      obtain ⟨R, hR⟩ : ∃ R, R = wR.heap.size := ⟨_, rfl⟩
      rw [← hL, ← hH, ← hP, ← hR] at HC ⊢
      rw [← hP, ← hR] at HD
      rw [← hL, ← hP, ← hR] at HE
      have hLo : w.heap.size ≤ L := by have := HD.out.bw.size; omega
      have hHo : w.heap.size ≤ H := by have := HE.out.bw.size; omega
      have hd : (L ≠ H ∧ L ≠ P ∧ L ≠ R ∧ L ≠ g) ∧ (H ≠ P ∧ H ≠ R ∧ H ≠ g) := by
        have a1 := (HD.out.at (B := P) (l := [.int .i64 p.x, .int .i64 p.y]) (by simp)).sz
        have a2 := (HD.out.at (B := R) (l := [.int .i64 r.x, .int .i64 r.y, .int .i64 r.w, .int .i64 r.h]) (by simp)).sz
        have a3 := (HD.out.at (B := g) (l := plC (p0 :: l0)) (by simp)).sz
        have b1 := (HE.out.at (B := P) (l := [.int .i64 p.x, .int .i64 p.y]) (by simp)).sz
        have b2 := (HE.out.at (B := R) (l := [.int .i64 r.x, .int .i64 r.y, .int .i64 r.w, .int .i64 r.h]) (by simp)).sz
        have b3 := (HE.out.at (B := g) (l := plC (p0 :: l0)) (by simp)).sz
        have b4 := (HE.out.at (B := L) (l := [.int .i64 p0.x, .int .i64 p0.y]) (by simp)).sz
        omega
      have HO := Lib.hid (And.intro (And.intro hLo hHo) hd)
      have H0 := Lib.hid (show AzAt [(L, [.int .i64 p0.x, .int .i64 p0.y]), (H, [.int .i64 p0.x, .int .i64 p0.y]), (P, [.int .i64 p.x, .int .i64 p.y]), (R, rcC r), (g, plC (p0 :: l0))] w WH from HC.out.sub (fun x hx => by
        simp only [List.mem_cons, List.not_mem_nil, or_false] at hx
        rcases hx with rfl | rfl | rfl | rfl | rfl <;> simp [rcC]))
      have hg : g < w.heap.size ∨ True := .inr trivial
      clear hL hH hP hR hLo hHo hd HC HD HE hg
      go_wp2
      go_loopw [16] (fun v16 wr => ∃ k : Nat, k ≤ m ∧ v16 = .int .i64 (k : Int) ∧ AzAt [(L, [.int .i64 (lowL p0 ((p0 :: l0).take k)).x, .int .i64 (lowL p0 ((p0 :: l0).take k)).y]), (H, [.int .i64 (highL p0 ((p0 :: l0).take k)).x, .int .i64 (highL p0 ((p0 :: l0).take k)).y]), (P, [.int .i64 p.x, .int .i64 p.y]), (R, rcC r), (g, plC (p0 :: l0))] w wr) (fun v16 _ => m - (intOf v16).toNat)
      case atStart => exact ⟨0, Nat.zero_le _, rfl, H0.out⟩
      case round =>
        obtain ⟨k, hk, rfl, hA⟩ := hrel
        obtain ⟨lo, hlo⟩ : ∃ lo, lo = lowL p0 ((p0 :: l0).take k) := ⟨_, rfl⟩
        obtain ⟨hi, hhi⟩ : ∃ hi, hi = highL p0 ((p0 :: l0).take k) := ⟨_, rfl⟩
        rw [← hlo, ← hhi] at hA
        have HA := Lib.hid hA
        have HLH := Lib.hid (And.intro hlo hhi)
        clear hA hlo hhi
        by_cases hlt : k < m
        · obtain ⟨q, hq⟩ : ∃ q, (p0 :: l0)[k]? = some q := ⟨(p0 :: l0)[k]'(by have := HM.out; omega), List.getElem?_eq_getElem _⟩
          have HN := Lib.hid (show lowL p0 ((p0 :: l0).take (k + 1)) = ⟨min lo.x q.x, min lo.y q.y⟩ ∧ highL p0 ((p0 :: l0).take (k + 1)) = ⟨max hi.x q.x, max hi.y q.y⟩ from by
            rw [List.take_add_one, hq, HLH.out.1, HLH.out.2]
            exact ⟨lowL_snoc q _ p0, highL_snoc q _ p0⟩)
          have HIN := Lib.hid (HI.out q (List.mem_of_getElem? hq))
          have HQ := Lib.hid hq
          clear hq
          obtain ⟨mx, hmx1⟩ : ∃ mx, mx = min lo.x q.x := ⟨_, rfl⟩
          obtain ⟨my, hmy1⟩ : ∃ my, my = min lo.y q.y := ⟨_, rfl⟩
          obtain ⟨nx, hnx1⟩ : ∃ nx, nx = max hi.x q.x := ⟨_, rfl⟩
          obtain ⟨ny, hny1⟩ : ∃ ny, ny = max hi.y q.y := ⟨_, rfl⟩
          rw [← hmx1, ← hmy1, ← hnx1, ← hny1] at HN
          have e1 : min lo.x q.x = mx := hmx1.symm
          have e2 : min lo.y q.y = my := hmy1.symm
          have e3 : max hi.x q.x = nx := hnx1.symm
          have e4 : max hi.y q.y = ny := hny1.symm
          have HE1 := Lib.hid (And.intro e1 e2)
          have HE2 := Lib.hid (And.intro e3 e4)
          clear hmx1 hmy1 hnx1 hny1 e1 e2 e3 e4
          have hg1 : decide ((k : Int) < (m : Int)) = true := decide_eq_true (by omega)
          have hg2 : (k : Int) < (m : Int) := by omega
          have hg0 : (0 : Int) ≤ (k : Int) := by omega
          go_wp2
          have KAT := Lib.hid (fun (x y : Int) (W : World) => at_s x y W)
          refine wp_region_qt0 (A := ?fr1) 17 hmx (by kernel_rfl) ?h1 ?ht1
          case h1 =>
            intro U hU
            have hp := HA.out.below hU
            have z0 := cell_regrown ((hp.at (B := L) (l := [.int .i64 lo.x, .int .i64 lo.y]) (by simp)).row 0 _ rfl)
            have z1 := cell_regrown ((hp.at (B := L) (l := [.int .i64 lo.x, .int .i64 lo.y]) (by simp)).row 1 _ rfl)
            have hrw := (PsAt.of (hp.at (B := g) (l := plC (p0 :: l0)) (by simp))).row k q HQ.out
            have y0 := cell_regrown hrw.1
            have y1 := cell_regrown hrw.2
            have c0 := fun d os x y => Calls.regrown_of (d := d) (os := os) (KAT.out x y (grow (redrawn U d) os))
            clear hp hrw
            simp only [List.take_succ_cons, List.take_zero]
            repeat (go_big_quiet_step (first | with_reducible exact c0 _ _ _ _))
            refine wpQuiet_nil ?_
            rfl
          case ht1 =>
            intro WM hW
            have HM1 := Lib.hid (HA.out.below hW)
            clear hW HA
            have z0 := ((HM1.out.at (B := L) (l := [.int .i64 lo.x, .int .i64 lo.y]) (by simp)).row 0 _ rfl)
            have z1 := ((HM1.out.at (B := L) (l := [.int .i64 lo.x, .int .i64 lo.y]) (by simp)).row 1 _ rfl)
            have f0 := (HM1.out.at (B := L) (l := [.int .i64 lo.x, .int .i64 lo.y]) (by simp)).fz 0 (by simp)
            have f1 := (HM1.out.at (B := L) (l := [.int .i64 lo.x, .int .i64 lo.y]) (by simp)).fz 1 (by simp)
            simp only [List.drop_succ_cons, List.drop_zero]
            rw [HE1.out.1, HE1.out.2]
            go_wp2
            have H2 := Lib.hid (AzAt.swap (HM1.out.set2 HO.out.1.1 (fun x hx => by
              have ho := HO.out.2
              simp only [List.mem_cons, List.not_mem_nil, or_false] at hx
              rcases hx with rfl | rfl | rfl | rfl <;> simp only <;> omega) (.int .i64 mx) (.int .i64 my)))
            generalize (WM.setCell ⟨L, 0, none⟩ (.int .i64 mx)).setCell ⟨L, 1, none⟩ (.int .i64 my) = W2' at H2 ⊢
            clear HM1 z0 z1 f0 f1
            refine wp_region_qt0 (A := ?fr2) 17 hmx (by kernel_rfl) ?h2 ?ht2
            case h2 =>
              intro U hU
              have hp := H2.out.below hU
              have z0 := cell_regrown ((hp.at (B := H) (l := [.int .i64 hi.x, .int .i64 hi.y]) (by simp)).row 0 _ rfl)
              have z1 := cell_regrown ((hp.at (B := H) (l := [.int .i64 hi.x, .int .i64 hi.y]) (by simp)).row 1 _ rfl)
              have hrw := (PsAt.of (hp.at (B := g) (l := plC (p0 :: l0)) (by simp))).row k q HQ.out
              have y0 := cell_regrown hrw.1
              have y1 := cell_regrown hrw.2
              have c0 := fun d os x y => Calls.regrown_of (d := d) (os := os) (KAT.out x y (grow (redrawn U d) os))
              clear hp hrw
              simp only [List.take_succ_cons, List.take_zero]
              repeat (go_big_quiet_step (first | with_reducible exact c0 _ _ _ _))
              refine wpQuiet_nil ?_
              rfl
            case ht2 =>
              intro WN hW
              have HM2 := Lib.hid (H2.out.below hW)
              clear hW H2
              have z0 := ((HM2.out.at (B := H) (l := [.int .i64 hi.x, .int .i64 hi.y]) (by simp)).row 0 _ rfl)
              have z1 := ((HM2.out.at (B := H) (l := [.int .i64 hi.x, .int .i64 hi.y]) (by simp)).row 1 _ rfl)
              have f0 := (HM2.out.at (B := H) (l := [.int .i64 hi.x, .int .i64 hi.y]) (by simp)).fz 0 (by simp)
              have f1 := (HM2.out.at (B := H) (l := [.int .i64 hi.x, .int .i64 hi.y]) (by simp)).fz 1 (by simp)
              simp only [List.drop_succ_cons, List.drop_zero]
              rw [HE2.out.1, HE2.out.2]
              go_wp2
              have H3 := Lib.hid (AzAt.swap (HM2.out.set2 HO.out.1.2 (fun x hx => by
                have ho := HO.out.2
                simp only [List.mem_cons, List.not_mem_nil, or_false] at hx
                rcases hx with rfl | rfl | rfl | rfl <;> simp only <;> omega) (.int .i64 nx) (.int .i64 ny)))
              generalize (WN.setCell ⟨H, 0, none⟩ (.int .i64 nx)).setCell ⟨H, 1, none⟩ (.int .i64 ny) = W3' at H3 ⊢
              clear HM2 z0 z1 f0 f1
              have hrw := (PsAt.of (H3.out.at (B := g) (l := plC (p0 :: l0)) (by simp))).row k q HQ.out
              have y0 := cell_regrown hrw.1
              have y1 := cell_regrown hrw.2
              have x0 := cell_regrown ((H3.out.at (B := R) (l := rcC r) (by simp)).row 0 _ rfl)
              have x1 := cell_regrown ((H3.out.at (B := R) (l := rcC r) (by simp)).row 1 _ rfl)
              have x2 := cell_regrown ((H3.out.at (B := R) (l := rcC r) (by simp)).row 2 _ rfl)
              have x3 := cell_regrown ((H3.out.at (B := R) (l := rcC r) (by simp)).row 3 _ rfl)
              have KI := Lib.hid (fun (W : World) => by have := inside_s ⟨q.x, q.y, 0, 0⟩ r W; rw [HIN.out] at this; exact this)
              have c0 := fun d os => Calls.regrown_of (d := d) (os := os) (KI.out (grow (redrawn W3' d) os))
              clear hrw
              refine wp_region_quiet_below (by kernel_rfl) (by kernel_rfl) ?_
              repeat (go_big_quiet_step (first | with_reducible exact c0 _ _))
              refine wpQuiet_nil ?_
              intro W1 hw'
              have hb1 : Below W3'.heap.size W3' W1 := by obtain ⟨⟨dq, osq⟩, hw''⟩ := hw'; rw [hw'']; exact below_regrown W3' dq osq
              have H4 := Lib.hid (H3.out.below hb1)
              clear hw' hb1 H3 y0 y1 x0 x1 x2 x3 c0 KI
              go_wp2
              refine ⟨⟨k + 1, by omega, by go_num, ?_⟩, by simp only [intOf]; omega⟩
              rw [HN.out.1, HN.out.2]
              exact H4.out
        · have hlo : lo = lowL p0 l0 := by rw [HLH.out.1, List.take_of_length_le (by have := HM.out; omega), lowL_head]
          have hhi : hi = highL p0 l0 := by rw [HLH.out.2, List.take_of_length_le (by have := HM.out; omega), highL_head]
          rw [← hlo, ← hhi] at KT
          have hg1 : decide ((k : Int) < (m : Int)) = false := decide_eq_false (by omega)
          have hg2 : ¬ (k : Int) < (m : Int) := by omega
          have z0 := ((HA.out.at (B := L) (l := [.int .i64 lo.x, .int .i64 lo.y]) (by simp)).row 0 _ rfl)
          have z1 := ((HA.out.at (B := L) (l := [.int .i64 lo.x, .int .i64 lo.y]) (by simp)).row 1 _ rfl)
          have z2 := ((HA.out.at (B := H) (l := [.int .i64 hi.x, .int .i64 hi.y]) (by simp)).row 0 _ rfl)
          have z3 := ((HA.out.at (B := H) (l := [.int .i64 hi.x, .int .i64 hi.y]) (by simp)).row 1 _ rfl)
          have y0 := ((HA.out.at (B := P) (l := [.int .i64 p.x, .int .i64 p.y]) (by simp)).row 0 _ rfl)
          have y1 := ((HA.out.at (B := P) (l := [.int .i64 p.x, .int .i64 p.y]) (by simp)).row 1 _ rfl)
          have x0 := ((HA.out.at (B := R) (l := rcC r) (by simp)).row 0 _ rfl)
          have x1 := ((HA.out.at (B := R) (l := rcC r) (by simp)).row 1 _ rfl)
          have x2 := ((HA.out.at (B := R) (l := rcC r) (by simp)).row 2 _ rfl)
          have x3 := ((HA.out.at (B := R) (l := rcC r) (by simp)).row 3 _ rfl)
          clear hlo hhi HLH H0 HI HO HM hk hlt
          have h5 := True.intro
          cases k0 : decide (lo.x ≤ p.x) with
          | false =>
            rw [k0] at KT
            have KT2 := Lib.hid (show ∀ W : World, Calls Tryz.prog 16 #[.agg #[.int .i64 p.x, .int .i64 p.y, .int .i64 0, .int .i64 0], .agg #[.int .i64 r.x, .int .i64 r.y, .int .i64 r.w, .int .i64 r.h]] W fun e W' => e = .returned (.bool false) ∧ Below W.heap.size W W' from KT.out)
            clear KT
            go_wp2_with (first | (go_at_call 16; (with_reducible refine (KT2.out _).mono ?_); rintro e wT ⟨rfl, hb⟩; have HT := Lib.hid (HA.out.below hb); clear hb) | fail)
            go_ret
            exact ⟨rfl, HT.out.bw⟩
          | true =>
            cases k1 : decide (p.x ≤ hi.x) with
            | false =>
              rw [k0, k1] at KT
              have KT2 := Lib.hid (show ∀ W : World, Calls Tryz.prog 16 #[.agg #[.int .i64 p.x, .int .i64 p.y, .int .i64 0, .int .i64 0], .agg #[.int .i64 r.x, .int .i64 r.y, .int .i64 r.w, .int .i64 r.h]] W fun e W' => e = .returned (.bool false) ∧ Below W.heap.size W W' from KT.out)
              clear KT
              go_wp2_with (first | (go_at_call 16; (with_reducible refine (KT2.out _).mono ?_); rintro e wT ⟨rfl, hb⟩; have HT := Lib.hid (HA.out.below hb); clear hb) | fail)
              go_ret
              exact ⟨rfl, HT.out.bw⟩
            | true =>
              cases k2 : decide (lo.y ≤ p.y) with
              | false =>
                rw [k0, k1, k2] at KT
                have KT2 := Lib.hid (show ∀ W : World, Calls Tryz.prog 16 #[.agg #[.int .i64 p.x, .int .i64 p.y, .int .i64 0, .int .i64 0], .agg #[.int .i64 r.x, .int .i64 r.y, .int .i64 r.w, .int .i64 r.h]] W fun e W' => e = .returned (.bool false) ∧ Below W.heap.size W W' from KT.out)
                clear KT
                go_wp2_with (first | (go_at_call 16; (with_reducible refine (KT2.out _).mono ?_); rintro e wT ⟨rfl, hb⟩; have HT := Lib.hid (HA.out.below hb); clear hb) | fail)
                go_ret
                exact ⟨rfl, HT.out.bw⟩
              | true =>
                cases k3 : decide (p.y ≤ hi.y) with
                | false =>
                  rw [k0, k1, k2, k3] at KT
                  have KT2 := Lib.hid (show ∀ W : World, Calls Tryz.prog 16 #[.agg #[.int .i64 p.x, .int .i64 p.y, .int .i64 0, .int .i64 0], .agg #[.int .i64 r.x, .int .i64 r.y, .int .i64 r.w, .int .i64 r.h]] W fun e W' => e = .returned (.bool false) ∧ Below W.heap.size W W' from KT.out)
                  clear KT
                  go_wp2_with (first | (go_at_call 16; (with_reducible refine (KT2.out _).mono ?_); rintro e wT ⟨rfl, hb⟩; have HT := Lib.hid (HA.out.below hb); clear hb) | fail)
                  go_ret
                  exact ⟨rfl, HT.out.bw⟩
                | true =>
                  rw [k0, k1, k2, k3] at KT
                  have KT2 := Lib.hid (show ∀ W : World, Calls Tryz.prog 16 #[.agg #[.int .i64 p.x, .int .i64 p.y, .int .i64 0, .int .i64 0], .agg #[.int .i64 r.x, .int .i64 r.y, .int .i64 r.w, .int .i64 r.h]] W fun e W' => e = .returned (.bool true) ∧ Below W.heap.size W W' from KT.out)
                  clear KT
                  go_wp2_with (first | (go_at_call 16; (with_reducible refine (KT2.out _).mono ?_); rintro e wT ⟨rfl, hb⟩; have HT := Lib.hid (HA.out.below hb); clear hb) | fail)
                  go_ret
                  exact ⟨rfl, HT.out.bw⟩

end Go.Proofs.YtgngepbemgbbeaaGreatDoor

