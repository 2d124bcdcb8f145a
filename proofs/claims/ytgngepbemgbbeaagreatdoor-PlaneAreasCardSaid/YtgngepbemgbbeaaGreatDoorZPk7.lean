/-
  An index below n that an integer determines: the law's and the reference's pick.
  Chapter 07: the law's and the reference's small functions.
-/
import Derived.Deep.RegionHeld3
import Derived.IntWalk
import Derived.Test.YtgngepbemgbbeaaGreatDoorZNum
import Derived.Test.YtgngepbemgbbeaaGreatDoorZAr
import Derived.Test.YtgngepbemgbbeaaGreatDoorZFqV
namespace Go.Proofs.YtgngepbemgbbeaaGreatDoor
open Go.RowKit Go.Shelf
attribute [local go_sem] Oper.semAt_some

def pickN (c : Int) (n : Nat) : Nat := (if c < 0 then (-(c + 1)).toNat else c.toNat) % n
theorem pickN_lt (c : Int) {n : Nat} (h : 0 < n) : pickN c n < n := Nat.mod_lt _ h
theorem pick_val {x : Int} (k : Nat) (h : 0 ≤ x) : x.tmod (k : Int) = ((x.toNat % k : Nat) : Int) := by
  rw [Int.tmod_eq_emod_of_nonneg h, Int.natCast_emod, Int.toNat_of_nonneg h]

set_option maxHeartbeats 4000000 in
theorem pick_l (c : Int) (k : Nat) (h0 : -9223372036854775808 ≤ c) (h1 : c ≤ 9223372036854775807) (hk : 0 < k) (hk2 : k ≤ 4294967296) (w : World) :
    Calls Tryz.prog 12 #[.int .i64 c, .int .i64 (k : Int)] w fun e w' => e = .returned (.int .i64 (pickN c k : Nat)) ∧ w = w' := by
  unfold pickN
  have hk0 : ¬ (k : Int) = 0 := by omega
  by_cases hc : c < 0
  · rw [if_pos hc, ← pick_val k (x := -(c + 1)) (by omega)]
    go_enter Tryz.func12, Tryz.ntmps12
    go_wp2
    go_ret
    exact ⟨ret_int (by rw [Int.neg_tmod]), rfl⟩
  · rw [if_neg hc, ← pick_val k (x := c) (by omega)]
    go_enter Tryz.func12, Tryz.ntmps12
    go_wp2
    go_ret
    exact ⟨ret_int (Int.tmod_eq_emod_of_nonneg (by omega)).symm, rfl⟩
set_option maxHeartbeats 4000000 in
theorem pick_f (c : Int) (k : Nat) (h0 : -9223372036854775808 ≤ c) (h1 : c ≤ 9223372036854775807) (hk : 0 < k) (hk2 : k ≤ 4294967296) (w : World) :
    Calls Tryz.prog 43 #[.int .i64 c, .int .i64 (k : Int)] w fun e w' => e = .returned (.int .i64 (pickN c k : Nat)) ∧ w = w' := by
  unfold pickN
  have hk0 : ¬ (k : Int) = 0 := by omega
  by_cases hc : c < 0
  · rw [if_pos hc, ← pick_val k (x := -(c + 1)) (by omega)]
    go_enter Tryz.func43, Tryz.ntmps43
    go_wp2
    go_ret
    exact ⟨ret_int (by rw [Int.neg_tmod]), rfl⟩
  · rw [if_neg hc, ← pick_val k (x := c) (by omega)]
    go_enter Tryz.func43, Tryz.ntmps43
    go_wp2
    go_ret
    exact ⟨ret_int (Int.tmod_eq_emod_of_nonneg (by omega)).symm, rfl⟩
end Go.Proofs.YtgngepbemgbbeaaGreatDoor

namespace Go.Proofs.YtgngepbemgbbeaaGreatDoor
open Go.RowKit Go.Shelf
attribute [local go_sem] Oper.semAt_some

theorem at_s (x y : Int) (w : World) : Calls Tryz.prog 42 #[.int .i64 x, .int .i64 y] w fun e W' => e = .returned (.agg #[.int .i64 x, .int .i64 y]) ∧ Below w.heap.size w W' := by
  go_enter Tryz.func42, Tryz.ntmps42
  go_wp2
  refine bodyPost_ret (v := .agg #[.int .i64 x, .int .i64 y]) ?_ rfl ⟨rfl, (Below.refl _ _).alloc (Nat.le_refl _) _⟩
  simp [results, Tryz.results42, go_sem, Result.andThen]
set_option maxHeartbeats 2000000 in
theorem place_s {x y : Int} (x1 : -9223372036854775808 ≤ x) (x2 : x ≤ 9223372036854775807) (y1 : -9223372036854775808 ≤ y) (y2 : y ≤ 9223372036854775807) (w : World) :
    Calls Tryz.prog 37 #[.agg #[.int .i64 x, .int .i64 y]] w fun e W' => e = .returned (.agg #[.int .i64 (pickN x 40 : Nat), .int .i64 (pickN y 40 : Nat)]) ∧ Below w.heap.size w W' := by
  have KX := Lib.hid (show ∀ W, Calls Tryz.prog 43 #[.int .i64 x, .int .i64 40] W fun e w' => e = .returned (.int .i64 (pickN x 40 : Nat)) ∧ W = w' from fun W => pick_f x 40 x1 x2 (by decide) (by decide) W)
  have KY := Lib.hid (show ∀ W, Calls Tryz.prog 43 #[.int .i64 y, .int .i64 40] W fun e w' => e = .returned (.int .i64 (pickN y 40 : Nat)) ∧ W = w' from fun W => pick_f y 40 y1 y2 (by decide) (by decide) W)
  have H0 := Lib.hid (show AzAt [(w.heap.size + 1, [.int .i64 0, .int .i64 0]), (w.heap.size, [.int .i64 x, .int .i64 y])] w _ from by have hp := ((AzAt.start w).push [.int .i64 x, .int .i64 y] 55).push [.int .i64 0, .int .i64 0] 26; simp only [World.size_alloc] at hp; exact hp)
  have HB := Lib.hid ((AzAt.start w).push [.int .i64 x, .int .i64 y] 55)
  generalize ((pickN x 40 : Nat) : Int) = u at KX ⊢
  generalize ((pickN y 40 : Nat) : Int) = v at KY ⊢
  clear x1 x2 y1 y2
  go_enter Tryz.func37, Tryz.ntmps37
  go_wp2
  go_region_held3 (fun W => W.cell? ⟨w.heap.size, 0, none⟩ = some (.int .i64 x) ∧ W.cell? ⟨w.heap.size, 1, none⟩ = some (.int .i64 y)) (first | with_reducible exact ⟨(H0.out.drew.row (w.heap.size, [.int .i64 x, .int .i64 y]) (by simp)).row 0 _ rfl, (H0.out.drew.row (w.heap.size, [.int .i64 x, .int .i64 y]) (by simp)).row 1 _ rfl⟩ | with_reducible exact ⟨(((HB.out.push [.int .i64 u, .int .i64 v] 26).drew).row (w.heap.size, [.int .i64 x, .int .i64 y]) (by simp)).row 0 _ rfl, (((HB.out.push [.int .i64 u, .int .i64 v] 26).drew).row (w.heap.size, [.int .i64 x, .int .i64 y]) (by simp)).row 1 _ rfl⟩) (first
    | (go_at_call 43; (with_reducible refine (KX.out _).mono ?_); rintro e w' ⟨rfl, rfl⟩)
    | (go_at_call 43; (with_reducible refine (KY.out _).mono ?_); rintro e w' ⟨rfl, rfl⟩)
    | fail)
  all_goals
    go_wp2
    refine bodyPost_ret (v := .agg #[.int .i64 u, .int .i64 v]) ?_ rfl ⟨rfl, ((HB.out.push [.int .i64 u, .int .i64 v] 26).drew).bw⟩
    simp [results, Tryz.results37, go_sem, Result.andThen]
set_option maxHeartbeats 2000000 in
theorem moved_s {p : Pl} {x y : Int} (hv : vP p = true) (x1 : -9223372036854775808 ≤ x) (x2 : x ≤ 9223372036854775807) (y1 : -9223372036854775808 ≤ y) (y2 : y ≤ 9223372036854775807) (w : World) :
    Calls Tryz.prog 38 #[.agg #[.int .i64 p.x, .int .i64 p.y], .agg #[.int .i64 x, .int .i64 y]] w fun e W' => e = .returned (.agg #[.int .i64 (p.x + (pickN x 1000 : Nat)), .int .i64 (p.y + (pickN y 1000 : Nat))]) ∧ Below w.heap.size w W' := by
  obtain ⟨⟨p1, p2⟩, p3, p4⟩ : (0 ≤ p.x ∧ p.x ≤ 4095) ∧ (0 ≤ p.y ∧ p.y ≤ 4095) := by
    unfold vP at hv
    simp only [Bool.and_eq_true, decide_eq_true_eq] at hv
    omega
  clear hv
  have KX := Lib.hid (show ∀ W, Calls Tryz.prog 12 #[.int .i64 x, .int .i64 1000] W fun e w' => e = .returned (.int .i64 (pickN x 1000 : Nat)) ∧ W = w' from fun W => pick_l x 1000 x1 x2 (by decide) (by decide) W)
  have KY := Lib.hid (show ∀ W, Calls Tryz.prog 12 #[.int .i64 y, .int .i64 1000] W fun e w' => e = .returned (.int .i64 (pickN y 1000 : Nat)) ∧ W = w' from fun W => pick_l y 1000 y1 y2 (by decide) (by decide) W)
  have HB := Lib.hid (show AzAt [(w.heap.size + 1, [.int .i64 x, .int .i64 y]), (w.heap.size, [.int .i64 p.x, .int .i64 p.y])] w _ from by have hp := ((AzAt.start w).push [.int .i64 p.x, .int .i64 p.y] 26).push [.int .i64 x, .int .i64 y] 55; simp only [World.size_alloc] at hp; exact hp)
  have u1 := pickN_lt x (n := 1000) (by decide)
  have v1 := pickN_lt y (n := 1000) (by decide)
  obtain ⟨u, hu⟩ : ∃ u : Int, ((pickN x 1000 : Nat) : Int) = u := ⟨_, rfl⟩
  obtain ⟨v, hv⟩ : ∃ v : Int, ((pickN y 1000 : Nat) : Int) = v := ⟨_, rfl⟩
  have u2 : 0 ≤ u := by omega
  have u3 : u ≤ 999 := by omega
  have v2 : 0 ≤ v := by omega
  have v3 : v ≤ 999 := by omega
  rw [hu] at KX ⊢
  rw [hv] at KY ⊢
  have w1 : IntKind.i64.wrap (p.x + u) = p.x + u := IntWalk.i64_in _ (by omega)
  have w2 : IntKind.i64.wrap (p.y + v) = p.y + v := IntWalk.i64_in _ (by omega)
  clear x1 x2 y1 y2 u1 v1 hu hv
  go_enter Tryz.func38, Tryz.ntmps38
  go_wp2
  go_region_held3 (fun W => W.cell? ⟨w.heap.size, 0, none⟩ = some (.int .i64 p.x) ∧ W.cell? ⟨w.heap.size, 1, none⟩ = some (.int .i64 p.y) ∧ W.cell? ⟨w.heap.size + 1, 0, none⟩ = some (.int .i64 x) ∧ W.cell? ⟨w.heap.size + 1, 1, none⟩ = some (.int .i64 y)) (first | with_reducible exact ⟨(((HB.out.al (.cells #[.int .i64 0, .int .i64 0] 26)).drew).row (w.heap.size, [.int .i64 p.x, .int .i64 p.y]) (by simp)).row 0 _ rfl, (((HB.out.al (.cells #[.int .i64 0, .int .i64 0] 26)).drew).row (w.heap.size, [.int .i64 p.x, .int .i64 p.y]) (by simp)).row 1 _ rfl, (((HB.out.al (.cells #[.int .i64 0, .int .i64 0] 26)).drew).row (w.heap.size + 1, [.int .i64 x, .int .i64 y]) (by simp)).row 0 _ rfl, (((HB.out.al (.cells #[.int .i64 0, .int .i64 0] 26)).drew).row (w.heap.size + 1, [.int .i64 x, .int .i64 y]) (by simp)).row 1 _ rfl⟩ | with_reducible exact ⟨(((HB.out.push [.int .i64 (p.x + u), .int .i64 (p.y + v)] 26).drew).row (w.heap.size, [.int .i64 p.x, .int .i64 p.y]) (by simp)).row 0 _ rfl, (((HB.out.push [.int .i64 (p.x + u), .int .i64 (p.y + v)] 26).drew).row (w.heap.size, [.int .i64 p.x, .int .i64 p.y]) (by simp)).row 1 _ rfl, (((HB.out.push [.int .i64 (p.x + u), .int .i64 (p.y + v)] 26).drew).row (w.heap.size + 1, [.int .i64 x, .int .i64 y]) (by simp)).row 0 _ rfl, (((HB.out.push [.int .i64 (p.x + u), .int .i64 (p.y + v)] 26).drew).row (w.heap.size + 1, [.int .i64 x, .int .i64 y]) (by simp)).row 1 _ rfl⟩) (first
    | (go_at_call 12; (with_reducible refine (KX.out _).mono ?_); rintro e w' ⟨rfl, rfl⟩)
    | (go_at_call 12; (with_reducible refine (KY.out _).mono ?_); rintro e w' ⟨rfl, rfl⟩)
    | fail)
  all_goals
    go_wp2
    refine bodyPost_ret (v := .agg #[.int .i64 (p.x + u), .int .i64 (p.y + v)]) ?_ rfl ⟨rfl, ((HB.out.push [.int .i64 (p.x + u), .int .i64 (p.y + v)] 26).drew).bw⟩
    simp [results, Tryz.results38, go_sem, Result.andThen]
set_option maxHeartbeats 2000000 in
theorem ratio_s {n d : Int} (hd : d ≠ 0) (n1 : -9223372036854775808 ≤ n) (n2 : n ≤ 9223372036854775807) (d1 : -9223372036854775808 ≤ d) (d2 : d ≤ 9223372036854775807) (w : World) :
    Calls Tryz.prog 39 #[.int .i64 n, .int .i64 d] w fun e W' => e = .returned (.agg #[.string (qN (makeR n d)), .string (qD (makeR n d))]) ∧ Below w.heap.size w W' := by
  have K := Lib.hid (fun W => Of_f n1 n2 d1 d2 W)
  rw [show qE (makeR n d) = 0 by unfold makeR; rw [if_neg hd]; rfl] at K
  generalize qN (makeR n d) = rn at K ⊢
  generalize qD (makeR n d) = rd at K ⊢
  clear hd n1 n2 d1 d2
  have H0 := Lib.hid ((AzAt.start w).push [.string ⟨#[]⟩, .string ⟨#[]⟩] 47)
  go_enter Tryz.func39, Tryz.ntmps39
  go_wp2_with (first
    | (go_at_call 78; (with_reducible refine (K.out _).mono ?_); rintro e w1 ⟨rfl, hb⟩; have hp := AzAt.al (H0.out.below hb) (.cells #[.string rn, .string rd] 47); have q0 := (hp.row (w.heap.size, [.string ⟨#[]⟩, .string ⟨#[]⟩]) (by simp)).row 0 _ rfl; have z0 := (hp.row (w.heap.size, [.string ⟨#[]⟩, .string ⟨#[]⟩]) (by simp)).fz 0 (by simp); have q1 := (hp.row (w.heap.size, [.string ⟨#[]⟩, .string ⟨#[]⟩]) (by simp)).row 1 _ rfl; have z1 := (hp.row (w.heap.size, [.string ⟨#[]⟩, .string ⟨#[]⟩]) (by simp)).fz 1 (by simp); have H2 := Lib.hid hp; clear hb hp)
    | fail)
  have hp := (H2.out).set2 (by omega) (by simp <;> omega) (.string rn) (.string rd)
  generalize (((w1.alloc (.cells #[.string rn, .string rd] 47)).setCell ⟨w.heap.size, 0, none⟩ (.string rn)).setCell ⟨w.heap.size, 1, none⟩ (.string rd)) = WF at hp ⊢
  have q0 := (hp.row (w.heap.size, [.string rn, .string rd]) (by simp)).row 0 _ rfl
  have q1 := (hp.row (w.heap.size, [.string rn, .string rd]) (by simp)).row 1 _ rfl
  refine bodyPost_ret (v := .agg #[.string rn, .string rd]) ?_ rfl ⟨rfl, hp.bw⟩
  simp [results, Tryz.results39, go_sem, Result.andThen, q0, q1]
end Go.Proofs.YtgngepbemgbbeaaGreatDoor

