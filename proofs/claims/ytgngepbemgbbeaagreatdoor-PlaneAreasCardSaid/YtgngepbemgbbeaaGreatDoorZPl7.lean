/-
  Package plane: few; the closures of under.
  Package plane: the closure within of under.
-/
import Derived.Lib.QuietBelow
import Derived.BigQuiet
import Derived.Test.YtgngepbemgbbeaaGreatDoorZPl3
import Derived.Test.YtgngepbemgbbeaaGreatDoorZPl6
import Derived.Test.YtgngepbemgbbeaaGreatDoorZTextLaw
namespace Go.Proofs.YtgngepbemgbbeaaGreatDoor
open Go.RowKit Go.Shelf
attribute [local go_sem] Oper.semAt_some

theorem whO_FO {n : Int} (h1 : -9223372036854775808 ≤ n) (h2 : n ≤ 9223372036854775807) : FO (whO n) := fun _ hr => make_fits (small_i64 h1 h2) (by decide) hr
set_option maxHeartbeats 4000000 in
set_option maxRecDepth 100000 in
/-- The height of an edge over a place of its. -/
theorem height_s {a : Pl} {s x : Option Rat} {A S : Nat} (ha : vP a = true) (fs : FO s) (fx : FO x) {w : World} (hi : IOps w) (hf : FrOp w) (cA : ArAt A [.int .i64 a.x, .int .i64 a.y] w) (cS : ArAt S [.string (qN s), .string (qD s)] w) :
    Calls Tryz.prog 95 #[.agg #[.string (qN x), .string (qD x)], .pointer (some ⟨A, 0, none⟩), .pointer (some ⟨S, 0, none⟩)] w fun e W' => e = .returned (.agg #[.string (qN (plO (whO a.y) (tiO s (miO x (whO a.x))))), .string (qD (plO (whO a.y) (tiO s (miO x (whO a.x)))))]) ∧ Below w.heap.size w W' := by
  obtain ⟨⟨a1, a2⟩, a3, a4⟩ := vP_b ha
  have f1 : FO (whO a.y) := whO_FO (by omega) (by omega)
  have f2 : FO (whO a.x) := whO_FO (by omega) (by omega)
  have f3 : FO (miO x (whO a.x)) := FO.sub _ _
  have f4 : FO (tiO s (miO x (whO a.x))) := FO.mul _ _
  have K1 := Lib.hid (fun (W : World) (h : Below w.heap.size w W) => whole_s (n := a.y) (by omega) (by omega) (hi.below h) (hf.below h))
  have K2 := Lib.hid (fun (W : World) (h : Below w.heap.size w W) => whole_s (n := a.x) (by omega) (by omega) (hi.below h) (hf.below h))
  have K3 := Lib.hid (fun (W : World) (h : Below w.heap.size w W) => minus_s fx f2 (hi.below h))
  have K4 := Lib.hid (fun (W : World) (h : Below w.heap.size w W) => times_s fs f3 (hi.below h))
  have K5 := Lib.hid (fun (W : World) (h : Below w.heap.size w W) => plus_s f1 f4 (hi.below h))
  have H0 := Lib.hid (show AzAt [(w.heap.size + 1, [.string ⟨#[]⟩, .string ⟨#[]⟩]), (w.heap.size, [.string (qN x), .string (qD x)]), (A, [.int .i64 a.x, .int .i64 a.y]), (S, [.string (qN s), .string (qD s)])] w _ from by have hp := ((AzAt.mk (L := [(A, [.int .i64 a.x, .int .i64 a.y]), (S, [.string (qN s), .string (qD s)])]) (Below.refl _ w) (fun y hy => by rcases List.mem_cons.1 hy with rfl | hy; exact cA; rcases List.mem_cons.1 hy with rfl | hy; exact cS; cases hy)).push [.string (qN x), .string (qD x)] 85).push [.string ⟨#[]⟩, .string ⟨#[]⟩] 85; simp only [World.size_alloc] at hp; exact hp)
  have sA := cA.sz
  have sS := cS.sz
  clear ha fs fx f1 f2 f3 f4 hi hf cA cS
  generalize qN (plO (whO a.y) (tiO s (miO x (whO a.x)))) = rn at K5 ⊢
  generalize qD (plO (whO a.y) (tiO s (miO x (whO a.x)))) = rd at K5 ⊢
  generalize qN (tiO s (miO x (whO a.x))) = n4 at K4 K5
  generalize qD (tiO s (miO x (whO a.x))) = d4 at K4 K5
  generalize qN (miO x (whO a.x)) = n3 at K3 K4
  generalize qD (miO x (whO a.x)) = d3 at K3 K4
  generalize qN (whO a.x) = n2 at K2 K3
  generalize qD (whO a.x) = d2 at K2 K3
  generalize qN (whO a.y) = n1 at K1 K5
  generalize qD (whO a.y) = d1 at K1 K5
  generalize qN s = sn at K4 H0
  generalize qD s = sd at K4 H0
  generalize qN x = xn at K3 H0 ⊢
  generalize qD x = xd at K3 H0 ⊢
  go_enter Tryz.func95, Tryz.ntmps95
  go_wp2
  go_region_held3 (fun W => W.cell? ⟨w.heap.size, 0, none⟩ = some (.string xn) ∧ W.cell? ⟨w.heap.size, 1, none⟩ = some (.string xd) ∧ W.cell? ⟨A, 0, none⟩ = some (.int .i64 a.x) ∧ W.cell? ⟨A, 1, none⟩ = some (.int .i64 a.y) ∧ W.cell? ⟨S, 0, none⟩ = some (.string sn) ∧ W.cell? ⟨S, 1, none⟩ = some (.string sd)) (first | with_reducible exact ⟨((W5.out.set2 (by omega) (by simp <;> omega) (.string rn) (.string rd)).row (w.heap.size, [.string xn, .string xd]) (by simp)).row 0 _ rfl, ((W5.out.set2 (by omega) (by simp <;> omega) (.string rn) (.string rd)).row (w.heap.size, [.string xn, .string xd]) (by simp)).row 1 _ rfl, ((W5.out.set2 (by omega) (by simp <;> omega) (.string rn) (.string rd)).row (A, [.int .i64 a.x, .int .i64 a.y]) (by simp)).row 0 _ rfl, ((W5.out.set2 (by omega) (by simp <;> omega) (.string rn) (.string rd)).row (A, [.int .i64 a.x, .int .i64 a.y]) (by simp)).row 1 _ rfl, ((W5.out.set2 (by omega) (by simp <;> omega) (.string rn) (.string rd)).row (S, [.string sn, .string sd]) (by simp)).row 0 _ rfl, ((W5.out.set2 (by omega) (by simp <;> omega) (.string rn) (.string rd)).row (S, [.string sn, .string sd]) (by simp)).row 1 _ rfl⟩ | with_reducible exact ⟨(W5.out.row (w.heap.size, [.string xn, .string xd]) (by simp)).row 0 _ rfl, (W5.out.row (w.heap.size, [.string xn, .string xd]) (by simp)).row 1 _ rfl, (W5.out.row (A, [.int .i64 a.x, .int .i64 a.y]) (by simp)).row 0 _ rfl, (W5.out.row (A, [.int .i64 a.x, .int .i64 a.y]) (by simp)).row 1 _ rfl, (W5.out.row (S, [.string sn, .string sd]) (by simp)).row 0 _ rfl, (W5.out.row (S, [.string sn, .string sd]) (by simp)).row 1 _ rfl⟩ | with_reducible exact ⟨(W4.out.row (w.heap.size, [.string xn, .string xd]) (by simp)).row 0 _ rfl, (W4.out.row (w.heap.size, [.string xn, .string xd]) (by simp)).row 1 _ rfl, (W4.out.row (A, [.int .i64 a.x, .int .i64 a.y]) (by simp)).row 0 _ rfl, (W4.out.row (A, [.int .i64 a.x, .int .i64 a.y]) (by simp)).row 1 _ rfl, (W4.out.row (S, [.string sn, .string sd]) (by simp)).row 0 _ rfl, (W4.out.row (S, [.string sn, .string sd]) (by simp)).row 1 _ rfl⟩ | with_reducible exact ⟨(W3.out.row (w.heap.size, [.string xn, .string xd]) (by simp)).row 0 _ rfl, (W3.out.row (w.heap.size, [.string xn, .string xd]) (by simp)).row 1 _ rfl, (W3.out.row (A, [.int .i64 a.x, .int .i64 a.y]) (by simp)).row 0 _ rfl, (W3.out.row (A, [.int .i64 a.x, .int .i64 a.y]) (by simp)).row 1 _ rfl, (W3.out.row (S, [.string sn, .string sd]) (by simp)).row 0 _ rfl, (W3.out.row (S, [.string sn, .string sd]) (by simp)).row 1 _ rfl⟩ | with_reducible exact ⟨(W2.out.row (w.heap.size, [.string xn, .string xd]) (by simp)).row 0 _ rfl, (W2.out.row (w.heap.size, [.string xn, .string xd]) (by simp)).row 1 _ rfl, (W2.out.row (A, [.int .i64 a.x, .int .i64 a.y]) (by simp)).row 0 _ rfl, (W2.out.row (A, [.int .i64 a.x, .int .i64 a.y]) (by simp)).row 1 _ rfl, (W2.out.row (S, [.string sn, .string sd]) (by simp)).row 0 _ rfl, (W2.out.row (S, [.string sn, .string sd]) (by simp)).row 1 _ rfl⟩ | with_reducible exact ⟨(W1.out.row (w.heap.size, [.string xn, .string xd]) (by simp)).row 0 _ rfl, (W1.out.row (w.heap.size, [.string xn, .string xd]) (by simp)).row 1 _ rfl, (W1.out.row (A, [.int .i64 a.x, .int .i64 a.y]) (by simp)).row 0 _ rfl, (W1.out.row (A, [.int .i64 a.x, .int .i64 a.y]) (by simp)).row 1 _ rfl, (W1.out.row (S, [.string sn, .string sd]) (by simp)).row 0 _ rfl, (W1.out.row (S, [.string sn, .string sd]) (by simp)).row 1 _ rfl⟩ | with_reducible exact ⟨(H0.out.drew.row (w.heap.size, [.string xn, .string xd]) (by simp)).row 0 _ rfl, (H0.out.drew.row (w.heap.size, [.string xn, .string xd]) (by simp)).row 1 _ rfl, (H0.out.drew.row (A, [.int .i64 a.x, .int .i64 a.y]) (by simp)).row 0 _ rfl, (H0.out.drew.row (A, [.int .i64 a.x, .int .i64 a.y]) (by simp)).row 1 _ rfl, (H0.out.drew.row (S, [.string sn, .string sd]) (by simp)).row 0 _ rfl, (H0.out.drew.row (S, [.string sn, .string sd]) (by simp)).row 1 _ rfl⟩) (first
    | (go_at_call 64; (with_reducible refine (K1.out _ (by first | with_reducible exact W5.out.bw | with_reducible exact W4.out.bw | with_reducible exact W3.out.bw | with_reducible exact W2.out.bw | with_reducible exact W1.out.bw | with_reducible exact H0.out.drew.bw)).mono ?_); rintro e u1 ⟨rfl, hb⟩; have W1 := Lib.hid (show AzAt [(w.heap.size + 1, [.string ⟨#[]⟩, .string ⟨#[]⟩]), (w.heap.size, [.string xn, .string xd]), (A, [.int .i64 a.x, .int .i64 a.y]), (S, [.string sn, .string sd])] w _ from by first | with_reducible exact AzAt.below W5.out hb | with_reducible exact AzAt.below W4.out hb | with_reducible exact AzAt.below W3.out hb | with_reducible exact AzAt.below W2.out hb | with_reducible exact AzAt.below W1.out hb | with_reducible exact AzAt.below H0.out.drew hb); clear hb)
    | (go_at_call 64; (with_reducible refine (K2.out _ (by first | with_reducible exact W5.out.bw | with_reducible exact W4.out.bw | with_reducible exact W3.out.bw | with_reducible exact W2.out.bw | with_reducible exact W1.out.bw | with_reducible exact H0.out.drew.bw)).mono ?_); rintro e u2 ⟨rfl, hb⟩; have W2 := Lib.hid (show AzAt [(w.heap.size + 1, [.string ⟨#[]⟩, .string ⟨#[]⟩]), (w.heap.size, [.string xn, .string xd]), (A, [.int .i64 a.x, .int .i64 a.y]), (S, [.string sn, .string sd])] w _ from by first | with_reducible exact AzAt.below W5.out hb | with_reducible exact AzAt.below W4.out hb | with_reducible exact AzAt.below W3.out hb | with_reducible exact AzAt.below W2.out hb | with_reducible exact AzAt.below W1.out hb | with_reducible exact AzAt.below H0.out.drew hb); clear hb)
    | (go_at_call 65; (with_reducible refine (K3.out _ (by first | with_reducible exact W5.out.bw | with_reducible exact W4.out.bw | with_reducible exact W3.out.bw | with_reducible exact W2.out.bw | with_reducible exact W1.out.bw | with_reducible exact H0.out.drew.bw)).mono ?_); rintro e u3 ⟨rfl, hb⟩; have W3 := Lib.hid (show AzAt [(w.heap.size + 1, [.string ⟨#[]⟩, .string ⟨#[]⟩]), (w.heap.size, [.string xn, .string xd]), (A, [.int .i64 a.x, .int .i64 a.y]), (S, [.string sn, .string sd])] w _ from by first | with_reducible exact AzAt.below W5.out hb | with_reducible exact AzAt.below W4.out hb | with_reducible exact AzAt.below W3.out hb | with_reducible exact AzAt.below W2.out hb | with_reducible exact AzAt.below W1.out hb | with_reducible exact AzAt.below H0.out.drew hb); clear hb)
    | (go_at_call 96; (with_reducible refine (K4.out _ (by first | with_reducible exact W5.out.bw | with_reducible exact W4.out.bw | with_reducible exact W3.out.bw | with_reducible exact W2.out.bw | with_reducible exact W1.out.bw | with_reducible exact H0.out.drew.bw)).mono ?_); rintro e u4 ⟨rfl, hb⟩; have W4 := Lib.hid (show AzAt [(w.heap.size + 1, [.string ⟨#[]⟩, .string ⟨#[]⟩]), (w.heap.size, [.string xn, .string xd]), (A, [.int .i64 a.x, .int .i64 a.y]), (S, [.string sn, .string sd])] w _ from by first | with_reducible exact AzAt.below W5.out hb | with_reducible exact AzAt.below W4.out hb | with_reducible exact AzAt.below W3.out hb | with_reducible exact AzAt.below W2.out hb | with_reducible exact AzAt.below W1.out hb | with_reducible exact AzAt.below H0.out.drew hb); clear hb)
    | (go_at_call 67; (with_reducible refine (K5.out _ (by first | with_reducible exact W5.out.bw | with_reducible exact W4.out.bw | with_reducible exact W3.out.bw | with_reducible exact W2.out.bw | with_reducible exact W1.out.bw | with_reducible exact H0.out.drew.bw)).mono ?_); rintro e u5 ⟨rfl, hb⟩; have W5 := Lib.hid (show AzAt [(w.heap.size + 1, [.string ⟨#[]⟩, .string ⟨#[]⟩]), (w.heap.size, [.string xn, .string xd]), (A, [.int .i64 a.x, .int .i64 a.y]), (S, [.string sn, .string sd])] w _ from by first | with_reducible exact AzAt.below W5.out hb | with_reducible exact AzAt.below W4.out hb | with_reducible exact AzAt.below W3.out hb | with_reducible exact AzAt.below W2.out hb | with_reducible exact AzAt.below W1.out hb | with_reducible exact AzAt.below H0.out.drew hb); have zq0 := (W5.out.row (w.heap.size + 1, [.string ⟨#[]⟩, .string ⟨#[]⟩]) (by simp)).row 0 _ rfl; have zf0 := (W5.out.row (w.heap.size + 1, [.string ⟨#[]⟩, .string ⟨#[]⟩]) (by simp)).fz 0 (by simp); have zq1 := (W5.out.row (w.heap.size + 1, [.string ⟨#[]⟩, .string ⟨#[]⟩]) (by simp)).row 1 _ rfl; have zf1 := (W5.out.row (w.heap.size + 1, [.string ⟨#[]⟩, .string ⟨#[]⟩]) (by simp)).fz 1 (by simp); clear hb)
    | fail)
  all_goals
    go_wp2
    have hp := W5.out.set2 (by omega) (by simp <;> omega) (.string rn) (.string rd)
    generalize ((u5.setCell ⟨w.heap.size + 1, 0, none⟩ (.string rn)).setCell ⟨w.heap.size + 1, 1, none⟩ (.string rd)) = WF at hp ⊢
    have q0 := (hp.row (w.heap.size + 1, [.string rn, .string rd]) (by simp)).row 0 _ rfl
    have q1 := (hp.row (w.heap.size + 1, [.string rn, .string rd]) (by simp)).row 1 _ rfl
    refine bodyPost_ret (v := .agg #[.string rn, .string rd]) ?_ rfl ⟨rfl, hp.bw⟩
    simp [results, Tryz.results95, go_sem, Result.andThen, q0, q1]
end Go.Proofs.YtgngepbemgbbeaaGreatDoor

namespace Go.Proofs.YtgngepbemgbbeaaGreatDoor
open Go.RowKit Go.Shelf
attribute [local go_sem] Oper.semAt_some

set_option maxHeartbeats 4000000 in
set_option maxRecDepth 100000 in
/-- What is above a rectangle counts as on its upper side, what is below as on its lower side. -/
theorem within3_s {r : Rc} {y : Option Rat} {R : Nat} (hr : vRc r = true) (fy : FO y) {w : World} (hi : IOps w) (hf : FrOp w) (cR : ArAt R [.int .i64 r.x, .int .i64 r.y, .int .i64 r.w, .int .i64 r.h] w) :
    Calls Tryz.prog 99 #[.agg #[.string (qN y), .string (qD y)], .pointer (some ⟨R, 0, none⟩)] w fun e W' => e = .returned (.agg #[.string (qN (withinO r y)), .string (qD (withinO r y))]) ∧ Below w.heap.size w W' := by
  obtain ⟨⟨r1, r2⟩, ⟨r3, r4⟩, ⟨r5, r6⟩, ⟨r7, r8⟩, r9, r10⟩ := vRc_b hr
  have f1 : FO (whO r.y) := whO_FO (by omega) (by omega)
  have f2 : FO (miO y (whO r.y)) := FO.sub _ _
  have f3 : FO (whO 0) := whO_FO (by decide) (by decide)
  have f4 : FO (whO r.h) := whO_FO (by omega) (by omega)
  have K1 := Lib.hid (fun (W : World) (h : Below w.heap.size w W) => whole_s (n := r.y) (by omega) (by omega) (hi.below h) (hf.below h))
  have K2 := Lib.hid (fun (W : World) (h : Below w.heap.size w W) => minus_s fy f1 (hi.below h))
  have K3 := Lib.hid (fun (W : World) (h : Below w.heap.size w W) => whole_s (n := 0) (by decide) (by decide) (hi.below h) (hf.below h))
  have K4 := Lib.hid (fun (W : World) (h : Below w.heap.size w W) => less_s f2 f3 (hi.below h))
  have K5 := Lib.hid (fun (W : World) (h : Below w.heap.size w W) => whole_s (n := r.h) (by omega) (by omega) (hi.below h) (hf.below h))
  have K6 := Lib.hid (fun (W : World) (h : Below w.heap.size w W) => less_s f4 f2 (hi.below h))
  have H0 := Lib.hid (show AzAt [(w.heap.size, [.string (qN y), .string (qD y)]), (w.heap.size + 1, [.string ⟨#[]⟩, .string ⟨#[]⟩]), (R, [.int .i64 r.x, .int .i64 r.y, .int .i64 r.w, .int .i64 r.h])] w _ from by have hp := ((AzAt.mk (L := [(R, [.int .i64 r.x, .int .i64 r.y, .int .i64 r.w, .int .i64 r.h])]) (Below.refl _ w) (fun u hu => by rcases List.mem_cons.1 hu with rfl | hu; exact cR; cases hu)).push [.string (qN y), .string (qD y)] 85).push [.string ⟨#[]⟩, .string ⟨#[]⟩] 85; simp only [World.size_alloc] at hp; exact hp.swap)
  have sR := cR.sz
  clear hr fy f1 f2 f3 f4 hi hf cR
  unfold withinO
  simp only
  generalize hz : miO y (whO r.y) = z at *
  clear hz
  generalize leO z (whO 0) = b1 at K4 ⊢
  generalize leO (whO r.h) z = b2 at K6 ⊢
  cases b1
  · cases b2
    · simp only [Bool.false_eq_true, if_false]
      generalize qN z = zn at *
      generalize qD z = zd at *
      generalize qN (whO 0) = on at *
      generalize qD (whO 0) = od at *
      generalize qN (whO r.h) = hn at *
      generalize qD (whO r.h) = hd at *
      generalize qN (whO r.y) = vn at *
      generalize qD (whO r.y) = vd at *
      generalize qN y = yn at *
      generalize qD y = yd at *
      clear z y
      go_enter Tryz.func99, Tryz.ntmps99
      go_wp2
      go_cut [2] from 4 to 8 (fun v2 wX => v2 = .pointer (some ⟨w.heap.size, 0, none⟩) ∧ AzAt [(w.heap.size, [.string zn, .string zd]), (w.heap.size + 1, [.string ⟨#[]⟩, .string ⟨#[]⟩]), (R, [.int .i64 r.x, .int .i64 r.y, .int .i64 r.w, .int .i64 r.h])] w wX)
      case first =>
        have hp := H0.out
        have x0 := (hp.row (w.heap.size, [.string yn, .string yd]) (by simp)).row 0 _ rfl
        have x1 := (hp.row (w.heap.size, [.string yn, .string yd]) (by simp)).row 1 _ rfl
        have x2 := (hp.row (R, [.int .i64 r.x, .int .i64 r.y, .int .i64 r.w, .int .i64 r.h]) (by simp)).row 1 _ rfl
        clear hp
        go_region_with (first
          | (go_at_call 64; (with_reducible refine (K1.out _ (by first | with_reducible exact H0.out.drew.bw)).mono ?_); rintro e u1 ⟨rfl, hb⟩; have H1 := Lib.hid (show AzAt [(w.heap.size, [.string yn, .string yd]), (w.heap.size + 1, [.string ⟨#[]⟩, .string ⟨#[]⟩]), (R, [.int .i64 r.x, .int .i64 r.y, .int .i64 r.w, .int .i64 r.h])] w _ from by with_reducible exact AzAt.below H0.out.drew hb); have x3 := (H1.out.row (w.heap.size, [.string yn, .string yd]) (by simp)).row 0 _ rfl; have x4 := (H1.out.row (w.heap.size, [.string yn, .string yd]) (by simp)).row 1 _ rfl; clear hb)
          | (go_at_call 65; (with_reducible refine (K2.out _ H1.out.bw).mono ?_); rintro e u2 ⟨rfl, hb⟩; have H2 := Lib.hid (AzAt.below H1.out hb); have zx0 := (H2.out.row (w.heap.size, [.string yn, .string yd]) (by simp)).row 0 _ rfl; have zy0 := (H2.out.row (w.heap.size, [.string yn, .string yd]) (by simp)).fz 0 (by simp); have zx1 := (H2.out.row (w.heap.size, [.string yn, .string yd]) (by simp)).row 1 _ rfl; have zy1 := (H2.out.row (w.heap.size, [.string yn, .string yd]) (by simp)).fz 1 (by simp); clear hb)
          | fail)
        all_goals
          go_wp2
          go_meet
          exact ⟨rfl, H2.out.set2 (by omega) (by simp <;> omega) (.string zn) (.string zd)⟩
      case rest =>
        obtain ⟨rfl, hX⟩ := hcut
        have HX := Lib.hid hX
        clear hX H0 K1 K2
        go_wp2
        have k10 := cell_regrown ((HX.out.row (w.heap.size, [.string zn, .string zd]) (by simp)).row 0 _ rfl)
        have k11 := cell_regrown ((HX.out.row (w.heap.size, [.string zn, .string zd]) (by simp)).row 1 _ rfl)
        have c10 := fun d os => Calls.regrown_of (d := d) (os := os) (K3.out _ (HX.out.bw.trans ((below_regrown wc d os).mono HX.out.bw.size)))
        have c11 := fun d os => Calls.regrown_of (d := d) (os := os) (K4.out _ (HX.out.bw.trans ((below_regrown wc d os).mono HX.out.bw.size)))
        refine wp_region_quiet_below (by kernel_rfl) (by kernel_rfl) ?_
        repeat (go_big_quiet_step ((first | with_reducible exact c10 _ _ | with_reducible exact c11 _ _)))
        refine wpQuiet_nil ?_
        intro W1 hw'
        have hb1 : Below wc.heap.size wc W1 := by obtain ⟨⟨dq, osq⟩, hw''⟩ := hw'; rw [hw'']; exact below_regrown wc dq osq
        clear hw' k10 k11 c10 c11
        have hp := HX.out.below hb1
        have y0 := (hp.row (w.heap.size, [.string zn, .string zd]) (by simp)).row 0 _ rfl
        have y1 := (hp.row (w.heap.size, [.string zn, .string zd]) (by simp)).row 1 _ rfl
        have y2 := (hp.row (R, [.int .i64 r.x, .int .i64 r.y, .int .i64 r.w, .int .i64 r.h]) (by simp)).row 3 _ rfl
        have H3 := Lib.hid hp
        clear hp hb1
        go_wp2
        have k20 := cell_regrown ((H3.out.row (w.heap.size, [.string zn, .string zd]) (by simp)).row 0 _ rfl)
        have k21 := cell_regrown ((H3.out.row (w.heap.size, [.string zn, .string zd]) (by simp)).row 1 _ rfl)
        have k22 := cell_regrown ((H3.out.row (R, [.int .i64 r.x, .int .i64 r.y, .int .i64 r.w, .int .i64 r.h]) (by simp)).row 3 _ rfl)
        have c20 := fun d os => Calls.regrown_of (d := d) (os := os) (K5.out _ (H3.out.bw.trans ((below_regrown W1 d os).mono H3.out.bw.size)))
        have c21 := fun d os => Calls.regrown_of (d := d) (os := os) (K6.out _ (H3.out.bw.trans ((below_regrown W1 d os).mono H3.out.bw.size)))
        refine wp_region_quiet_below (by kernel_rfl) (by kernel_rfl) ?_
        repeat (go_big_quiet_step ((first | with_reducible exact c20 _ _ | with_reducible exact c21 _ _)))
        refine wpQuiet_nil ?_
        intro W2 hw'
        have hb2 : Below W1.heap.size W1 W2 := by obtain ⟨⟨dq, osq⟩, hw''⟩ := hw'; rw [hw'']; exact below_regrown W1 dq osq
        clear hw' k20 k21 k22 c20 c21
        have hp := H3.out.below hb2
        have e0 := (hp.row (w.heap.size, [.string zn, .string zd]) (by simp)).row 0 _ rfl
        have e1 := (hp.row (w.heap.size, [.string zn, .string zd]) (by simp)).row 1 _ rfl
        have e2 := (hp.row (R, [.int .i64 r.x, .int .i64 r.y, .int .i64 r.w, .int .i64 r.h]) (by simp)).row 3 _ rfl
        have zq0 := (hp.row (w.heap.size + 1, [.string ⟨#[]⟩, .string ⟨#[]⟩]) (by simp)).row 0 _ rfl
        have zf0 := (hp.row (w.heap.size + 1, [.string ⟨#[]⟩, .string ⟨#[]⟩]) (by simp)).fz 0 (by simp)
        have zq1 := (hp.row (w.heap.size + 1, [.string ⟨#[]⟩, .string ⟨#[]⟩]) (by simp)).row 1 _ rfl
        have zf1 := (hp.row (w.heap.size + 1, [.string ⟨#[]⟩, .string ⟨#[]⟩]) (by simp)).fz 1 (by simp)
        have H4 := Lib.hid hp
        clear hp hb2
        go_wp2
        have hp := (AzAt.swap H4.out).set2 (by omega) (by simp <;> omega) (.string zn) (.string zd)
        generalize ((W2.setCell ⟨w.heap.size + 1, 0, none⟩ (.string zn)).setCell ⟨w.heap.size + 1, 1, none⟩ (.string zd)) = WF at hp ⊢
        have q0 := (hp.row (w.heap.size + 1, [.string zn, .string zd]) (by simp)).row 0 _ rfl
        have q1 := (hp.row (w.heap.size + 1, [.string zn, .string zd]) (by simp)).row 1 _ rfl
        refine bodyPost_ret (v := .agg #[.string zn, .string zd]) ?_ rfl ⟨rfl, hp.bw⟩
        simp [results, Tryz.results99, go_sem, Result.andThen, q0, q1]
    · simp only [Bool.false_eq_true, if_false, if_true]
      generalize qN z = zn at *
      generalize qD z = zd at *
      generalize qN (whO 0) = on at *
      generalize qD (whO 0) = od at *
      generalize qN (whO r.h) = hn at *
      generalize qD (whO r.h) = hd at *
      generalize qN (whO r.y) = vn at *
      generalize qD (whO r.y) = vd at *
      generalize qN y = yn at *
      generalize qD y = yd at *
      clear z y
      go_enter Tryz.func99, Tryz.ntmps99
      go_wp2
      go_cut [2] from 4 to 8 (fun v2 wX => v2 = .pointer (some ⟨w.heap.size, 0, none⟩) ∧ AzAt [(w.heap.size, [.string zn, .string zd]), (w.heap.size + 1, [.string ⟨#[]⟩, .string ⟨#[]⟩]), (R, [.int .i64 r.x, .int .i64 r.y, .int .i64 r.w, .int .i64 r.h])] w wX)
      case first =>
        have hp := H0.out
        have x0 := (hp.row (w.heap.size, [.string yn, .string yd]) (by simp)).row 0 _ rfl
        have x1 := (hp.row (w.heap.size, [.string yn, .string yd]) (by simp)).row 1 _ rfl
        have x2 := (hp.row (R, [.int .i64 r.x, .int .i64 r.y, .int .i64 r.w, .int .i64 r.h]) (by simp)).row 1 _ rfl
        clear hp
        go_region_with (first
          | (go_at_call 64; (with_reducible refine (K1.out _ (by first | with_reducible exact H0.out.drew.bw)).mono ?_); rintro e u1 ⟨rfl, hb⟩; have H1 := Lib.hid (show AzAt [(w.heap.size, [.string yn, .string yd]), (w.heap.size + 1, [.string ⟨#[]⟩, .string ⟨#[]⟩]), (R, [.int .i64 r.x, .int .i64 r.y, .int .i64 r.w, .int .i64 r.h])] w _ from by with_reducible exact AzAt.below H0.out.drew hb); have x3 := (H1.out.row (w.heap.size, [.string yn, .string yd]) (by simp)).row 0 _ rfl; have x4 := (H1.out.row (w.heap.size, [.string yn, .string yd]) (by simp)).row 1 _ rfl; clear hb)
          | (go_at_call 65; (with_reducible refine (K2.out _ H1.out.bw).mono ?_); rintro e u2 ⟨rfl, hb⟩; have H2 := Lib.hid (AzAt.below H1.out hb); have zx0 := (H2.out.row (w.heap.size, [.string yn, .string yd]) (by simp)).row 0 _ rfl; have zy0 := (H2.out.row (w.heap.size, [.string yn, .string yd]) (by simp)).fz 0 (by simp); have zx1 := (H2.out.row (w.heap.size, [.string yn, .string yd]) (by simp)).row 1 _ rfl; have zy1 := (H2.out.row (w.heap.size, [.string yn, .string yd]) (by simp)).fz 1 (by simp); clear hb)
          | fail)
        all_goals
          go_wp2
          go_meet
          exact ⟨rfl, H2.out.set2 (by omega) (by simp <;> omega) (.string zn) (.string zd)⟩
      case rest =>
        obtain ⟨rfl, hX⟩ := hcut
        have HX := Lib.hid hX
        clear hX H0 K1 K2
        go_wp2
        have k10 := cell_regrown ((HX.out.row (w.heap.size, [.string zn, .string zd]) (by simp)).row 0 _ rfl)
        have k11 := cell_regrown ((HX.out.row (w.heap.size, [.string zn, .string zd]) (by simp)).row 1 _ rfl)
        have c10 := fun d os => Calls.regrown_of (d := d) (os := os) (K3.out _ (HX.out.bw.trans ((below_regrown wc d os).mono HX.out.bw.size)))
        have c11 := fun d os => Calls.regrown_of (d := d) (os := os) (K4.out _ (HX.out.bw.trans ((below_regrown wc d os).mono HX.out.bw.size)))
        refine wp_region_quiet_below (by kernel_rfl) (by kernel_rfl) ?_
        repeat (go_big_quiet_step ((first | with_reducible exact c10 _ _ | with_reducible exact c11 _ _)))
        refine wpQuiet_nil ?_
        intro W1 hw'
        have hb1 : Below wc.heap.size wc W1 := by obtain ⟨⟨dq, osq⟩, hw''⟩ := hw'; rw [hw'']; exact below_regrown wc dq osq
        clear hw' k10 k11 c10 c11
        have hp := HX.out.below hb1
        have y0 := (hp.row (w.heap.size, [.string zn, .string zd]) (by simp)).row 0 _ rfl
        have y1 := (hp.row (w.heap.size, [.string zn, .string zd]) (by simp)).row 1 _ rfl
        have y2 := (hp.row (R, [.int .i64 r.x, .int .i64 r.y, .int .i64 r.w, .int .i64 r.h]) (by simp)).row 3 _ rfl
        have H3 := Lib.hid hp
        clear hp hb1
        go_wp2
        have k20 := cell_regrown ((H3.out.row (w.heap.size, [.string zn, .string zd]) (by simp)).row 0 _ rfl)
        have k21 := cell_regrown ((H3.out.row (w.heap.size, [.string zn, .string zd]) (by simp)).row 1 _ rfl)
        have k22 := cell_regrown ((H3.out.row (R, [.int .i64 r.x, .int .i64 r.y, .int .i64 r.w, .int .i64 r.h]) (by simp)).row 3 _ rfl)
        have c20 := fun d os => Calls.regrown_of (d := d) (os := os) (K5.out _ (H3.out.bw.trans ((below_regrown W1 d os).mono H3.out.bw.size)))
        have c21 := fun d os => Calls.regrown_of (d := d) (os := os) (K6.out _ (H3.out.bw.trans ((below_regrown W1 d os).mono H3.out.bw.size)))
        refine wp_region_quiet_below (by kernel_rfl) (by kernel_rfl) ?_
        repeat (go_big_quiet_step ((first | with_reducible exact c20 _ _ | with_reducible exact c21 _ _)))
        refine wpQuiet_nil ?_
        intro W2 hw'
        have hb2 : Below W1.heap.size W1 W2 := by obtain ⟨⟨dq, osq⟩, hw''⟩ := hw'; rw [hw'']; exact below_regrown W1 dq osq
        clear hw' k20 k21 k22 c20 c21
        have hp := H3.out.below hb2
        have e0 := (hp.row (w.heap.size, [.string zn, .string zd]) (by simp)).row 0 _ rfl
        have e1 := (hp.row (w.heap.size, [.string zn, .string zd]) (by simp)).row 1 _ rfl
        have e2 := (hp.row (R, [.int .i64 r.x, .int .i64 r.y, .int .i64 r.w, .int .i64 r.h]) (by simp)).row 3 _ rfl
        have zq0 := (hp.row (w.heap.size + 1, [.string ⟨#[]⟩, .string ⟨#[]⟩]) (by simp)).row 0 _ rfl
        have zf0 := (hp.row (w.heap.size + 1, [.string ⟨#[]⟩, .string ⟨#[]⟩]) (by simp)).fz 0 (by simp)
        have zq1 := (hp.row (w.heap.size + 1, [.string ⟨#[]⟩, .string ⟨#[]⟩]) (by simp)).row 1 _ rfl
        have zf1 := (hp.row (w.heap.size + 1, [.string ⟨#[]⟩, .string ⟨#[]⟩]) (by simp)).fz 1 (by simp)
        have H4 := Lib.hid hp
        clear hp hb2
        go_wp2_with (first
          | (go_at_call 64; (with_reducible refine (K5.out _ H4.out.bw).mono ?_); rintro e u5 ⟨rfl, hb⟩; have hp := H4.out.below hb; have zq0 := (hp.row (w.heap.size + 1, [.string ⟨#[]⟩, .string ⟨#[]⟩]) (by simp)).row 0 _ rfl; have zf0 := (hp.row (w.heap.size + 1, [.string ⟨#[]⟩, .string ⟨#[]⟩]) (by simp)).fz 0 (by simp); have zq1 := (hp.row (w.heap.size + 1, [.string ⟨#[]⟩, .string ⟨#[]⟩]) (by simp)).row 1 _ rfl; have zf1 := (hp.row (w.heap.size + 1, [.string ⟨#[]⟩, .string ⟨#[]⟩]) (by simp)).fz 1 (by simp); have H5 := Lib.hid hp; clear hb hp)
          | fail)
        have hp := (AzAt.swap H5.out).set2 (by omega) (by simp <;> omega) (.string hn) (.string hd)
        generalize ((u5.setCell ⟨w.heap.size + 1, 0, none⟩ (.string hn)).setCell ⟨w.heap.size + 1, 1, none⟩ (.string hd)) = WF at hp ⊢
        have q0 := (hp.row (w.heap.size + 1, [.string hn, .string hd]) (by simp)).row 0 _ rfl
        have q1 := (hp.row (w.heap.size + 1, [.string hn, .string hd]) (by simp)).row 1 _ rfl
        refine bodyPost_ret (v := .agg #[.string hn, .string hd]) ?_ rfl ⟨rfl, hp.bw⟩
        simp [results, Tryz.results99, go_sem, Result.andThen, q0, q1]
  · simp only [if_true]
    generalize qN z = zn at *
    generalize qD z = zd at *
    generalize qN (whO 0) = on at *
    generalize qD (whO 0) = od at *
    generalize qN (whO r.h) = hn at *
    generalize qD (whO r.h) = hd at *
    generalize qN (whO r.y) = vn at *
    generalize qD (whO r.y) = vd at *
    generalize qN y = yn at *
    generalize qD y = yd at *
    clear z y
    go_enter Tryz.func99, Tryz.ntmps99
    go_wp2
    go_cut [2] from 4 to 8 (fun v2 wX => v2 = .pointer (some ⟨w.heap.size, 0, none⟩) ∧ AzAt [(w.heap.size, [.string zn, .string zd]), (w.heap.size + 1, [.string ⟨#[]⟩, .string ⟨#[]⟩]), (R, [.int .i64 r.x, .int .i64 r.y, .int .i64 r.w, .int .i64 r.h])] w wX)
    case first =>
      have hp := H0.out
      have x0 := (hp.row (w.heap.size, [.string yn, .string yd]) (by simp)).row 0 _ rfl
      have x1 := (hp.row (w.heap.size, [.string yn, .string yd]) (by simp)).row 1 _ rfl
      have x2 := (hp.row (R, [.int .i64 r.x, .int .i64 r.y, .int .i64 r.w, .int .i64 r.h]) (by simp)).row 1 _ rfl
      clear hp
      go_region_with (first
        | (go_at_call 64; (with_reducible refine (K1.out _ (by first | with_reducible exact H0.out.drew.bw)).mono ?_); rintro e u1 ⟨rfl, hb⟩; have H1 := Lib.hid (show AzAt [(w.heap.size, [.string yn, .string yd]), (w.heap.size + 1, [.string ⟨#[]⟩, .string ⟨#[]⟩]), (R, [.int .i64 r.x, .int .i64 r.y, .int .i64 r.w, .int .i64 r.h])] w _ from by with_reducible exact AzAt.below H0.out.drew hb); have x3 := (H1.out.row (w.heap.size, [.string yn, .string yd]) (by simp)).row 0 _ rfl; have x4 := (H1.out.row (w.heap.size, [.string yn, .string yd]) (by simp)).row 1 _ rfl; clear hb)
        | (go_at_call 65; (with_reducible refine (K2.out _ H1.out.bw).mono ?_); rintro e u2 ⟨rfl, hb⟩; have H2 := Lib.hid (AzAt.below H1.out hb); have zx0 := (H2.out.row (w.heap.size, [.string yn, .string yd]) (by simp)).row 0 _ rfl; have zy0 := (H2.out.row (w.heap.size, [.string yn, .string yd]) (by simp)).fz 0 (by simp); have zx1 := (H2.out.row (w.heap.size, [.string yn, .string yd]) (by simp)).row 1 _ rfl; have zy1 := (H2.out.row (w.heap.size, [.string yn, .string yd]) (by simp)).fz 1 (by simp); clear hb)
        | fail)
      all_goals
        go_wp2
        go_meet
        exact ⟨rfl, H2.out.set2 (by omega) (by simp <;> omega) (.string zn) (.string zd)⟩
    case rest =>
      obtain ⟨rfl, hX⟩ := hcut
      have HX := Lib.hid hX
      clear hX H0 K1 K2
      go_wp2
      have k10 := cell_regrown ((HX.out.row (w.heap.size, [.string zn, .string zd]) (by simp)).row 0 _ rfl)
      have k11 := cell_regrown ((HX.out.row (w.heap.size, [.string zn, .string zd]) (by simp)).row 1 _ rfl)
      have c10 := fun d os => Calls.regrown_of (d := d) (os := os) (K3.out _ (HX.out.bw.trans ((below_regrown wc d os).mono HX.out.bw.size)))
      have c11 := fun d os => Calls.regrown_of (d := d) (os := os) (K4.out _ (HX.out.bw.trans ((below_regrown wc d os).mono HX.out.bw.size)))
      refine wp_region_quiet_below (by kernel_rfl) (by kernel_rfl) ?_
      repeat (go_big_quiet_step ((first | with_reducible exact c10 _ _ | with_reducible exact c11 _ _)))
      refine wpQuiet_nil ?_
      intro W1 hw'
      have hb1 : Below wc.heap.size wc W1 := by obtain ⟨⟨dq, osq⟩, hw''⟩ := hw'; rw [hw'']; exact below_regrown wc dq osq
      clear hw' k10 k11 c10 c11
      have hp := HX.out.below hb1
      have y0 := (hp.row (w.heap.size, [.string zn, .string zd]) (by simp)).row 0 _ rfl
      have y1 := (hp.row (w.heap.size, [.string zn, .string zd]) (by simp)).row 1 _ rfl
      have y2 := (hp.row (R, [.int .i64 r.x, .int .i64 r.y, .int .i64 r.w, .int .i64 r.h]) (by simp)).row 3 _ rfl
      have H3 := Lib.hid hp
      clear hp hb1
      go_wp2_with (first
        | (go_at_call 64; (with_reducible refine (K3.out _ H3.out.bw).mono ?_); rintro e u3 ⟨rfl, hb⟩; have hp := H3.out.below hb; have zq0 := (hp.row (w.heap.size + 1, [.string ⟨#[]⟩, .string ⟨#[]⟩]) (by simp)).row 0 _ rfl; have zf0 := (hp.row (w.heap.size + 1, [.string ⟨#[]⟩, .string ⟨#[]⟩]) (by simp)).fz 0 (by simp); have zq1 := (hp.row (w.heap.size + 1, [.string ⟨#[]⟩, .string ⟨#[]⟩]) (by simp)).row 1 _ rfl; have zf1 := (hp.row (w.heap.size + 1, [.string ⟨#[]⟩, .string ⟨#[]⟩]) (by simp)).fz 1 (by simp); have H4 := Lib.hid hp; clear hb hp)
        | fail)
      have hp := (AzAt.swap H4.out).set2 (by omega) (by simp <;> omega) (.string on) (.string od)
      generalize ((u3.setCell ⟨w.heap.size + 1, 0, none⟩ (.string on)).setCell ⟨w.heap.size + 1, 1, none⟩ (.string od)) = WF at hp ⊢
      have q0 := (hp.row (w.heap.size + 1, [.string on, .string od]) (by simp)).row 0 _ rfl
      have q1 := (hp.row (w.heap.size + 1, [.string on, .string od]) (by simp)).row 1 _ rfl
      refine bodyPost_ret (v := .agg #[.string on, .string od]) ?_ rfl ⟨rfl, hp.bw⟩
      simp [results, Tryz.results99, go_sem, Result.andThen, q0, q1]
end Go.Proofs.YtgngepbemgbbeaaGreatDoor

