/-
  Package plane's numbers: fractions that may be there.
  Package plane: under's comparison of fractions.
  Package plane: the sort of a few fractions (the library's insertion sort).
  A slice of elements of two cells that the call itself made, beside blocks that may be written; append.
-/
import Derived.Lib.QuietBelow
import Derived.BigQuiet
import Derived.IntWalk
import Derived.Maps.AppendAt
import Derived.OwnWalk
import Derived.Laws.OwnMore
import Derived.Test.YtgngepbemgbbeaaGreatDoorZAr
import Derived.Test.YtgngepbemgbbeaaGreatDoorZRat
import Derived.Test.YtgngepbemgbbeaaGreatDoorZRCmp
import Derived.Test.YtgngepbemgbbeaaGreatDoorZLimQP
namespace Go.Proofs.YtgngepbemgbbeaaGreatDoor
open Go.RowKit Go.Shelf
attribute [local go_sem] Oper.semAt_some

theorem FrOp.below {w w' : World} (h : FrOp w) (hb : Below w.heap.size w w') : FrOp w' := fun n h1 h2 W hk => h n h1 h2 W (hb.trans (hk.mono hb.size))
set_option maxHeartbeats 1000000 in
theorem whole_s {n : Int} (h1 : -9223372036854775808 ≤ n) (h2 : n ≤ 9223372036854775807) {w : World} (hi : IOps w) (hf : FrOp w) :
    Calls Tryz.prog 64 #[.int .i64 n] w fun e W' => e = .returned (.agg #[.string (qN (whO n)), .string (qD (whO n))]) ∧ Below w.heap.size w W' := by
  have H0 := Lib.hid ((AzAt.start w).push [.string ⟨#[]⟩, .string ⟨#[]⟩] 85)
  have K := Lib.hid (fun (W : World) (h : Below w.heap.size w W) => Of_q (n := n) (d := 1) (hi.below h) (hf.below h) h1 h2 (by decide) (by decide))
  unfold whO
  generalize qN (makeR n 1) = rn at K ⊢
  generalize qD (makeR n 1) = rd at K ⊢
  generalize qE (makeR n 1) = re at K
  clear hi hf
  go_enter Tryz.func64, Tryz.ntmps64
  go_wp2_with (first
    | (go_at_call 77; (with_reducible refine (K.out _ H0.out.bw).mono ?_); rintro e w1 ⟨rfl, hb⟩; have hp := AzAt.al (H0.out.below hb) (.cells #[.string rn, .string rd] 47); have q1 := (hp.row (w.heap.size, [.string ⟨#[]⟩, .string ⟨#[]⟩]) (by simp)).row 0 _ rfl; have z1 := (hp.row (w.heap.size, [.string ⟨#[]⟩, .string ⟨#[]⟩]) (by simp)).fz 0 (by simp); have q2 := (hp.row (w.heap.size, [.string ⟨#[]⟩, .string ⟨#[]⟩]) (by simp)).row 1 _ rfl; have z2 := (hp.row (w.heap.size, [.string ⟨#[]⟩, .string ⟨#[]⟩]) (by simp)).fz 1 (by simp); have H2 := Lib.hid hp; clear hb hp)
    | fail)
  have hp := H2.out.set2 (by omega) (by simp <;> omega) (.string rn) (.string rd)
  generalize ((w1.alloc (.cells #[.string rn, .string rd] 47)).setCell ⟨w.heap.size, 0, none⟩ (.string rn)).setCell ⟨w.heap.size, 1, none⟩ (.string rd) = WF at hp ⊢
  have q0 := (hp.row (w.heap.size, [.string rn, .string rd]) (by simp)).row 0 _ rfl
  have q1 := (hp.row (w.heap.size, [.string rn, .string rd]) (by simp)).row 1 _ rfl
  refine bodyPost_ret (v := .agg #[.string rn, .string rd]) ?_ rfl ⟨rfl, hp.bw⟩
  simp [results, Tryz.results64, go_sem, Result.andThen, q0, q1]
set_option maxHeartbeats 1000000 in
theorem plus_s {x y : Option Rat} (fx : FO x) (fy : FO y) {w : World} (hi : IOps w) :
    Calls Tryz.prog 67 #[.agg #[.string (qN x), .string (qD x)], .agg #[.string (qN y), .string (qD y)]] w fun e W' => e = .returned (.agg #[.string (qN (plO x y)), .string (qD (plO x y))]) ∧ Below w.heap.size w W' := by
  have K := Lib.hid (fun (W : World) (h : Below w.heap.size w W) => by have := Add_q (hi.below h) (qN_sz _ fx) (qD_sz _ fx) (qN_sz _ fy) (qD_sz _ fy); rw [op2_q fx fy] at this; exact this)
  unfold plO
  generalize qN (lift2 addR x y) = rn at K ⊢
  generalize qD (lift2 addR x y) = rd at K ⊢
  generalize qE (lift2 addR x y) = re at K
  clear fx fy hi
  generalize qN x = xn at K ⊢
  generalize qD x = xd at K ⊢
  generalize qN y = yn at K ⊢
  generalize qD y = yd at K ⊢
  have H0 := Lib.hid (show AzAt [(w.heap.size + 1 + 1, [.string ⟨#[]⟩, .string ⟨#[]⟩]), (w.heap.size + 1, [.string yn, .string yd]), (w.heap.size, [.string xn, .string xd])] w _ from by have hp := (((AzAt.start w).push [.string xn, .string xd] 85).push [.string yn, .string yd] 85).push [.string ⟨#[]⟩, .string ⟨#[]⟩] 85; simp only [World.size_alloc] at hp; exact hp)
  go_enter Tryz.func67, Tryz.ntmps67
  go_wp2_with (first
    | (go_at_call 41; (with_reducible refine (K.out _ H0.out.bw).mono ?_); rintro e w1 ⟨rfl, hb⟩; have hp := AzAt.al (H0.out.below hb) (.cells #[.string rn, .string rd] 47); have q3 := (hp.row (w.heap.size + 1 + 1, [.string ⟨#[]⟩, .string ⟨#[]⟩]) (by simp)).row 0 _ rfl; have z3 := (hp.row (w.heap.size + 1 + 1, [.string ⟨#[]⟩, .string ⟨#[]⟩]) (by simp)).fz 0 (by simp); have q4 := (hp.row (w.heap.size + 1 + 1, [.string ⟨#[]⟩, .string ⟨#[]⟩]) (by simp)).row 1 _ rfl; have z4 := (hp.row (w.heap.size + 1 + 1, [.string ⟨#[]⟩, .string ⟨#[]⟩]) (by simp)).fz 1 (by simp); have H2 := Lib.hid hp; clear hb hp)
    | fail)
  have hp := H2.out.set2 (by omega) (by simp <;> omega) (.string rn) (.string rd)
  generalize ((w1.alloc (.cells #[.string rn, .string rd] 47)).setCell ⟨w.heap.size + 1 + 1, 0, none⟩ (.string rn)).setCell ⟨w.heap.size + 1 + 1, 1, none⟩ (.string rd) = WF at hp ⊢
  have q0 := (hp.row (w.heap.size + 1 + 1, [.string rn, .string rd]) (by simp)).row 0 _ rfl
  have q1 := (hp.row (w.heap.size + 1 + 1, [.string rn, .string rd]) (by simp)).row 1 _ rfl
  refine bodyPost_ret (v := .agg #[.string rn, .string rd]) ?_ rfl ⟨rfl, hp.bw⟩
  simp [results, Tryz.results67, go_sem, Result.andThen, q0, q1]
set_option maxHeartbeats 1000000 in
theorem minus_s {x y : Option Rat} (fx : FO x) (fy : FO y) {w : World} (hi : IOps w) :
    Calls Tryz.prog 65 #[.agg #[.string (qN x), .string (qD x)], .agg #[.string (qN y), .string (qD y)]] w fun e W' => e = .returned (.agg #[.string (qN (miO x y)), .string (qD (miO x y))]) ∧ Below w.heap.size w W' := by
  have K := Lib.hid (fun (W : World) (h : Below w.heap.size w W) => by have := Sub_q (hi.below h) (qN_sz _ fx) (qD_sz _ fx) (qN_sz _ fy) (qD_sz _ fy); rw [op2_q fx fy] at this; exact this)
  unfold miO
  generalize qN (lift2 subR x y) = rn at K ⊢
  generalize qD (lift2 subR x y) = rd at K ⊢
  generalize qE (lift2 subR x y) = re at K
  clear fx fy hi
  generalize qN x = xn at K ⊢
  generalize qD x = xd at K ⊢
  generalize qN y = yn at K ⊢
  generalize qD y = yd at K ⊢
  have H0 := Lib.hid (show AzAt [(w.heap.size + 1 + 1, [.string ⟨#[]⟩, .string ⟨#[]⟩]), (w.heap.size + 1, [.string yn, .string yd]), (w.heap.size, [.string xn, .string xd])] w _ from by have hp := (((AzAt.start w).push [.string xn, .string xd] 85).push [.string yn, .string yd] 85).push [.string ⟨#[]⟩, .string ⟨#[]⟩] 85; simp only [World.size_alloc] at hp; exact hp)
  go_enter Tryz.func65, Tryz.ntmps65
  go_wp2_with (first
    | (go_at_call 92; (with_reducible refine (K.out _ H0.out.bw).mono ?_); rintro e w1 ⟨rfl, hb⟩; have hp := AzAt.al (H0.out.below hb) (.cells #[.string rn, .string rd] 47); have q5 := (hp.row (w.heap.size + 1 + 1, [.string ⟨#[]⟩, .string ⟨#[]⟩]) (by simp)).row 0 _ rfl; have z5 := (hp.row (w.heap.size + 1 + 1, [.string ⟨#[]⟩, .string ⟨#[]⟩]) (by simp)).fz 0 (by simp); have q6 := (hp.row (w.heap.size + 1 + 1, [.string ⟨#[]⟩, .string ⟨#[]⟩]) (by simp)).row 1 _ rfl; have z6 := (hp.row (w.heap.size + 1 + 1, [.string ⟨#[]⟩, .string ⟨#[]⟩]) (by simp)).fz 1 (by simp); have H2 := Lib.hid hp; clear hb hp)
    | fail)
  have hp := H2.out.set2 (by omega) (by simp <;> omega) (.string rn) (.string rd)
  generalize ((w1.alloc (.cells #[.string rn, .string rd] 47)).setCell ⟨w.heap.size + 1 + 1, 0, none⟩ (.string rn)).setCell ⟨w.heap.size + 1 + 1, 1, none⟩ (.string rd) = WF at hp ⊢
  have q0 := (hp.row (w.heap.size + 1 + 1, [.string rn, .string rd]) (by simp)).row 0 _ rfl
  have q1 := (hp.row (w.heap.size + 1 + 1, [.string rn, .string rd]) (by simp)).row 1 _ rfl
  refine bodyPost_ret (v := .agg #[.string rn, .string rd]) ?_ rfl ⟨rfl, hp.bw⟩
  simp [results, Tryz.results65, go_sem, Result.andThen, q0, q1]
set_option maxHeartbeats 1000000 in
theorem times_s {x y : Option Rat} (fx : FO x) (fy : FO y) {w : World} (hi : IOps w) :
    Calls Tryz.prog 96 #[.agg #[.string (qN x), .string (qD x)], .agg #[.string (qN y), .string (qD y)]] w fun e W' => e = .returned (.agg #[.string (qN (tiO x y)), .string (qD (tiO x y))]) ∧ Below w.heap.size w W' := by
  have K := Lib.hid (fun (W : World) (h : Below w.heap.size w W) => by have := Mul_q (hi.below h) (qN_sz _ fx) (qD_sz _ fx) (qN_sz _ fy) (qD_sz _ fy); rw [op2_q fx fy] at this; exact this)
  unfold tiO
  generalize qN (lift2 mulR x y) = rn at K ⊢
  generalize qD (lift2 mulR x y) = rd at K ⊢
  generalize qE (lift2 mulR x y) = re at K
  clear fx fy hi
  generalize qN x = xn at K ⊢
  generalize qD x = xd at K ⊢
  generalize qN y = yn at K ⊢
  generalize qD y = yd at K ⊢
  have H0 := Lib.hid (show AzAt [(w.heap.size + 1 + 1, [.string ⟨#[]⟩, .string ⟨#[]⟩]), (w.heap.size + 1, [.string yn, .string yd]), (w.heap.size, [.string xn, .string xd])] w _ from by have hp := (((AzAt.start w).push [.string xn, .string xd] 85).push [.string yn, .string yd] 85).push [.string ⟨#[]⟩, .string ⟨#[]⟩] 85; simp only [World.size_alloc] at hp; exact hp)
  go_enter Tryz.func96, Tryz.ntmps96
  go_wp2_with (first
    | (go_at_call 141; (with_reducible refine (K.out _ H0.out.bw).mono ?_); rintro e w1 ⟨rfl, hb⟩; have hp := AzAt.al (H0.out.below hb) (.cells #[.string rn, .string rd] 47); have q7 := (hp.row (w.heap.size + 1 + 1, [.string ⟨#[]⟩, .string ⟨#[]⟩]) (by simp)).row 0 _ rfl; have z7 := (hp.row (w.heap.size + 1 + 1, [.string ⟨#[]⟩, .string ⟨#[]⟩]) (by simp)).fz 0 (by simp); have q8 := (hp.row (w.heap.size + 1 + 1, [.string ⟨#[]⟩, .string ⟨#[]⟩]) (by simp)).row 1 _ rfl; have z8 := (hp.row (w.heap.size + 1 + 1, [.string ⟨#[]⟩, .string ⟨#[]⟩]) (by simp)).fz 1 (by simp); have H2 := Lib.hid hp; clear hb hp)
    | fail)
  have hp := H2.out.set2 (by omega) (by simp <;> omega) (.string rn) (.string rd)
  generalize ((w1.alloc (.cells #[.string rn, .string rd] 47)).setCell ⟨w.heap.size + 1 + 1, 0, none⟩ (.string rn)).setCell ⟨w.heap.size + 1 + 1, 1, none⟩ (.string rd) = WF at hp ⊢
  have q0 := (hp.row (w.heap.size + 1 + 1, [.string rn, .string rd]) (by simp)).row 0 _ rfl
  have q1 := (hp.row (w.heap.size + 1 + 1, [.string rn, .string rd]) (by simp)).row 1 _ rfl
  refine bodyPost_ret (v := .agg #[.string rn, .string rd]) ?_ rfl ⟨rfl, hp.bw⟩
  simp [results, Tryz.results96, go_sem, Result.andThen, q0, q1]
set_option maxHeartbeats 1000000 in
theorem over_s {x y : Option Rat} (fx : FO x) (fy : FO y) {w : World} (hi : IOps w) :
    Calls Tryz.prog 94 #[.agg #[.string (qN x), .string (qD x)], .agg #[.string (qN y), .string (qD y)]] w fun e W' => e = .returned (.agg #[.string (qN (ovO x y)), .string (qD (ovO x y))]) ∧ Below w.heap.size w W' := by
  have K := Lib.hid (fun (W : World) (h : Below w.heap.size w W) => by have := Div_q (hi.below h) (qN_sz _ fx) (qD_sz _ fx) (qN_sz _ fy) (qD_sz _ fy); rw [op2_q fx fy] at this; exact this)
  unfold ovO
  generalize qN (lift2 divR x y) = rn at K ⊢
  generalize qD (lift2 divR x y) = rd at K ⊢
  generalize qE (lift2 divR x y) = re at K
  clear fx fy hi
  generalize qN x = xn at K ⊢
  generalize qD x = xd at K ⊢
  generalize qN y = yn at K ⊢
  generalize qD y = yd at K ⊢
  have H0 := Lib.hid (show AzAt [(w.heap.size + 1 + 1, [.string ⟨#[]⟩, .string ⟨#[]⟩]), (w.heap.size + 1, [.string yn, .string yd]), (w.heap.size, [.string xn, .string xd])] w _ from by have hp := (((AzAt.start w).push [.string xn, .string xd] 85).push [.string yn, .string yd] 85).push [.string ⟨#[]⟩, .string ⟨#[]⟩] 85; simp only [World.size_alloc] at hp; exact hp)
  go_enter Tryz.func94, Tryz.ntmps94
  go_wp2_with (first
    | (go_at_call 140; (with_reducible refine (K.out _ H0.out.bw).mono ?_); rintro e w1 ⟨rfl, hb⟩; have hp := AzAt.al (H0.out.below hb) (.cells #[.string rn, .string rd] 47); have q9 := (hp.row (w.heap.size + 1 + 1, [.string ⟨#[]⟩, .string ⟨#[]⟩]) (by simp)).row 0 _ rfl; have z9 := (hp.row (w.heap.size + 1 + 1, [.string ⟨#[]⟩, .string ⟨#[]⟩]) (by simp)).fz 0 (by simp); have q10 := (hp.row (w.heap.size + 1 + 1, [.string ⟨#[]⟩, .string ⟨#[]⟩]) (by simp)).row 1 _ rfl; have z10 := (hp.row (w.heap.size + 1 + 1, [.string ⟨#[]⟩, .string ⟨#[]⟩]) (by simp)).fz 1 (by simp); have H2 := Lib.hid hp; clear hb hp)
    | fail)
  have hp := H2.out.set2 (by omega) (by simp <;> omega) (.string rn) (.string rd)
  generalize ((w1.alloc (.cells #[.string rn, .string rd] 47)).setCell ⟨w.heap.size + 1 + 1, 0, none⟩ (.string rn)).setCell ⟨w.heap.size + 1 + 1, 1, none⟩ (.string rd) = WF at hp ⊢
  have q0 := (hp.row (w.heap.size + 1 + 1, [.string rn, .string rd]) (by simp)).row 0 _ rfl
  have q1 := (hp.row (w.heap.size + 1 + 1, [.string rn, .string rd]) (by simp)).row 1 _ rfl
  refine bodyPost_ret (v := .agg #[.string rn, .string rd]) ?_ rfl ⟨rfl, hp.bw⟩
  simp [results, Tryz.results94, go_sem, Result.andThen, q0, q1]
set_option maxHeartbeats 1000000 in
theorem less_s {x y : Option Rat} (fx : FO x) (fy : FO y) {w : World} (hi : IOps w) :
    Calls Tryz.prog 93 #[.agg #[.string (qN x), .string (qD x)], .agg #[.string (qN y), .string (qD y)]] w fun e W' => e = .returned (.bool (leO x y)) ∧ Below w.heap.size w W' := by
  have K := Lib.hid (fun (W : World) (h : Below w.heap.size w W) => by have := RCompare_q (hi.below h) (qN_sz _ fx) (qD_sz _ fx) (qN_sz _ fy) (qD_sz _ fy); rw [cmpS_q fx fy] at this; exact this)
  unfold leO
  generalize cmpOO x y = c at K ⊢
  clear fx fy hi
  generalize qN x = xn at K ⊢
  generalize qD x = xd at K ⊢
  generalize qN y = yn at K ⊢
  generalize qD y = yd at K ⊢
  have H0 := Lib.hid (show AzAt [(w.heap.size + 1, [.string yn, .string yd]), (w.heap.size, [.string xn, .string xd])] w _ from by have hp := ((AzAt.start w).push [.string xn, .string xd] 85).push [.string yn, .string yd] 85; simp only [World.size_alloc] at hp; exact hp)
  go_enter Tryz.func93, Tryz.ntmps93
  go_wp2_with (first
    | (go_at_call 40; (with_reducible refine (K.out _ H0.out.bw).mono ?_); rintro e w1 ⟨rfl, hb⟩; have H2 := Lib.hid (H0.out.below hb).bw; clear hb)
    | fail)
  go_ret
  exact ⟨rfl, H2.out⟩
end Go.Proofs.YtgngepbemgbbeaaGreatDoor

namespace Go.Proofs.YtgngepbemgbbeaaGreatDoor
open Go.RowKit Go.Shelf
attribute [local go_sem] Oper.semAt_some

set_option maxHeartbeats 1000000 in
theorem ucmp_s {x y : Option Rat} (fx : FO x) (fy : FO y) {w : World} (hi : IOps w) :
    Calls Tryz.prog 98 #[.agg #[.string (qN x), .string (qD x)], .agg #[.string (qN y), .string (qD y)]] w fun e W' => e = .returned (.int .i64 (cmpOO x y)) ∧ Below w.heap.size w W' := by
  have K := Lib.hid (fun (W : World) (h : Below w.heap.size w W) => by have := RCompare_q (hi.below h) (qN_sz _ fx) (qD_sz _ fx) (qN_sz _ fy) (qD_sz _ fy); rw [cmpS_q fx fy] at this; exact this)
  generalize cmpOO x y = c at K ⊢
  clear fx fy hi
  generalize qN x = xn at K ⊢
  generalize qD x = xd at K ⊢
  generalize qN y = yn at K ⊢
  generalize qD y = yd at K ⊢
  have H0 := Lib.hid (show AzAt [(w.heap.size + 1, [.string yn, .string yd]), (w.heap.size, [.string xn, .string xd])] w _ from by have hp := ((AzAt.start w).push [.string xn, .string xd] 85).push [.string yn, .string yd] 85; simp only [World.size_alloc] at hp; exact hp)
  go_enter Tryz.func98, Tryz.ntmps98
  go_wp2_with (first
    | (go_at_call 40; (with_reducible refine (K.out _ H0.out.bw).mono ?_); rintro e w1 ⟨rfl, hb⟩; have H2 := Lib.hid (H0.out.below hb).bw; clear hb)
    | fail)
  go_ret
  exact ⟨rfl, H2.out⟩
end Go.Proofs.YtgngepbemgbbeaaGreatDoor

namespace Go.Proofs.YtgngepbemgbbeaaGreatDoor
open Go.RowKit Go.Shelf
attribute [local go_sem] Oper.semAt_some

/-- Pairs of texts in a row. -/
structure NsAt (B : Nat) (l : List (Option Rat)) (W : World) : Prop where
  row : ∀ (k : Nat) (x : Option Rat), l[k]? = some x → W.cell? ⟨B, k * 2, none⟩ = some (.string (qN x)) ∧ W.cell? ⟨B, k * 2 + 1, none⟩ = some (.string (qD x))
  fz : ∀ o, o < l.length * 2 → W.frozen? ⟨B, o, none⟩ = false
  sz : B < W.heap.size
theorem NsAt.below {B : Nat} {l : List (Option Rat)} {W W' : World} (h : NsAt B l W) (hb : Below W.heap.size W W') : NsAt B l W' :=
  ⟨fun k x hx => ⟨(hb.cell (p := ⟨B, k * 2, none⟩) h.sz).trans (h.row k x hx).1, (hb.cell (p := ⟨B, k * 2 + 1, none⟩) h.sz).trans (h.row k x hx).2⟩, fun o ho => (hb.frozen (p := ⟨B, o, none⟩) h.sz).trans (h.fz o ho), Nat.lt_of_lt_of_le h.sz hb.size⟩
theorem NsAt.drew {B : Nat} {l : List (Option Rat)} {W : World} (h : NsAt B l W) : NsAt B l W.drew := ⟨h.row, h.fz, h.sz⟩
theorem NsAt.set {B : Nat} {l : List (Option Rat)} {W : World} (h : NsAt B l W) {k : Nat} (hk : k < l.length) (x : Option Rat) : NsAt B (l.set k x) ((W.setCell ⟨B, k * 2, none⟩ (.string (qN x))).setCell ⟨B, k * 2 + 1, none⟩ (.string (qD x))) := by
  obtain ⟨y, hy⟩ : ∃ y, l[k]? = some y := ⟨l[k], List.getElem?_eq_getElem hk⟩
  obtain ⟨y0, y1⟩ := h.row k y hy
  have n1 : (⟨B, k * 2, none⟩ : Addr) ≠ ⟨B, k * 2 + 1, none⟩ := fun e => by have := congrArg Addr.off e; simp at this
  refine ⟨fun j z hz => ?_, fun o ho => ?_, by simpa using h.sz⟩
  · by_cases hj : k = j
    · subst hj
      rw [List.getElem?_set_self hk] at hz
      cases hz
      refine ⟨?_, ?_⟩
      · rw [World.cell?_setCell_other _ _ _ _ n1.symm]
        exact World.cell?_setCell_same _ _ _ y0
      · exact World.cell?_setCell_same _ _ _ ((World.cell?_setCell_other _ _ _ _ n1).trans y1)
    · rw [List.getElem?_set_ne hj] at hz
      obtain ⟨z0, z1⟩ := h.row j z hz
      refine ⟨?_, ?_⟩
      · rw [World.cell?_setCell_other _ _ _ _ (fun e => by have := congrArg Addr.off e; simp at this; omega), World.cell?_setCell_other _ _ _ _ (fun e => by have := congrArg Addr.off e; simp at this; omega)]
        exact z0
      · rw [World.cell?_setCell_other _ _ _ _ (fun e => by have := congrArg Addr.off e; simp at this; omega), World.cell?_setCell_other _ _ _ _ (fun e => by have := congrArg Addr.off e; simp at this; omega)]
        exact z1
  · have := h.fz o (by simpa using ho)
    simpa [go_sem] using this
/-- Pairs of texts in a row of its own, beside blocks that may be written. -/
structure NzAt (B : Nat) (l : List (Option Rat)) (R : List (Nat × List Value)) (w W : World) : Prop where
  az : AzAt R w W
  ns : NsAt B l W
  hB : w.heap.size ≤ B
  ne : ∀ x ∈ R, B ≠ x.1
theorem NzAt.below {B : Nat} {l : List (Option Rat)} {R : List (Nat × List Value)} {w W W' : World} (h : NzAt B l R w W) (hb : Below W.heap.size W W') : NzAt B l R w W' := ⟨h.az.below hb, h.ns.below hb, h.hB, h.ne⟩
theorem NzAt.drew {B : Nat} {l : List (Option Rat)} {R : List (Nat × List Value)} {w W : World} (h : NzAt B l R w W) : NzAt B l R w W.drew := ⟨h.az.drew, h.ns.drew, h.hB, h.ne⟩
theorem NzAt.set {B : Nat} {l : List (Option Rat)} {R : List (Nat × List Value)} {w W : World} (h : NzAt B l R w W) {k : Nat} (hk : k < l.length) (x : Option Rat) : NzAt B (l.set k x) R w ((W.setCell ⟨B, k * 2, none⟩ (.string (qN x))).setCell ⟨B, k * 2 + 1, none⟩ (.string (qD x))) :=
  ⟨⟨(h.az.bw.setCell h.hB _).setCell h.hB _, fun x hx => ((h.az.row x hx).other (h.ne x hx) _ _).other (h.ne x hx) _ _⟩, h.ns.set hk x, h.hB, h.ne⟩
set_option maxHeartbeats 4000000 in
set_option maxRecDepth 100000 in
theorem insN_s {B cap n : Nat} {l : List (Option Rat)} {R : List (Nat × List Value)} {w W : World} (hl : l.length = n) (hn : n ≤ 1000000) (hf : ∀ x ∈ l, FO x) (hi : IOps w) (h : NzAt B l R w W) :
    Calls Tryz.prog 177 #[.slice (some ⟨B, 0, none⟩) n cap, .int .i64 0, .int .i64 n, .func (.func 98) #[] #[]] W fun e W' => e = .returned (.tuple #[]) ∧ NzAt B (sortN leO l) R w W' := by
  obtain ⟨S, hS⟩ : ∃ S, S = sortN leO l := ⟨_, rfl⟩
  rw [← hS]
  have HS := Lib.hid (show outN leO l 1 (n - 1) = S by rw [hS, ← hl]; rfl)
  have H0 := Lib.hid h
  have HL := Lib.hid hl
  have HF := Lib.hid hf
  have HI := Lib.hid hi
  clear h hl hf hi hS
  go_enter Tryz.func177, Tryz.ntmps177
  go_wp2
  go_loopw [8] (fun vi wr => ∃ (i : Nat) (L : List (Option Rat)), vi = .int .i64 (i : Int) ∧ 1 ≤ i ∧ i ≤ n + 1 ∧ L.length = n ∧ (∀ x ∈ L, FO x) ∧ NzAt B L R w wr ∧ outN leO L i (n - i) = S) (fun i _ => n + 1 - (intOf i).toNat)
  case atStart => exact ⟨1, l, by go_num, by omega, by omega, HL.out, HF.out, H0.out, HS.out⟩
  case round =>
    obtain ⟨i, L, rfl, hi1, hi2, hLl, hLf, hA, hO⟩ := hrel
    have HLl := Lib.hid hLl
    have HLf := Lib.hid hLf
    have HA := Lib.hid hA
    have HO := Lib.hid hO
    clear hLl hLf hA hO
    by_cases hlt : i < n
    · have hltz : (i : Int) < (n : Int) := by omega
      go_wp2
      go_loopw [9] (fun vj wq => ∃ (j : Nat) (M : List (Option Rat)), vj = .int .i64 (j : Int) ∧ j ≤ i ∧ M.length = n ∧ (∀ x ∈ M, FO x) ∧ NzAt B M R w wq ∧ innerN leO M j = innerN leO L i) (fun j _ => (intOf j).toNat)
      case atStart => exact ⟨i, L, rfl, Nat.le_refl _, HLl.out, HLf.out, HA.out, rfl⟩
      case round =>
        obtain ⟨j, M, rfl, hj, hMl, hMf, hM, hIn⟩ := hrel
        have HMl := Lib.hid hMl
        have HMf := Lib.hid hMf
        have HM := Lib.hid hM
        have HIn := Lib.hid hIn
        clear hMl hMf hM hIn
        have END : innerN leO M j = M → ∀ wz, NzAt B M R w wz → ∃ (i' : Nat) (L' : List (Option Rat)), Value.int .i64 ((i : Int) + 1) = .int .i64 (i' : Int) ∧ 1 ≤ i' ∧ i' ≤ n + 1 ∧ L'.length = n ∧ (∀ x ∈ L', FO x) ∧ NzAt B L' R w wz ∧ outN leO L' i' (n - i') = S := fun he wz hz =>
          ⟨i + 1, M, by go_num, by omega, by omega, HMl.out, HMf.out, hz, by
            rw [← HO.out, show n - i = n - (i + 1) + 1 by omega]
            show _ = outN leO (innerN leO L i) (i + 1) (n - (i + 1))
            rw [← HIn.out, he]⟩
        have HEND := Lib.hid END
        clear END
        cases j with
        | zero =>
          rw [show ((0 : Nat) : Int) = 0 from rfl]
          go_wp2
          refine wp_region_quiet_below (by kernel_rfl) (by kernel_rfl) ?_
          repeat (go_big_quiet_step (fail))
          refine wpQuiet_nil ?_
          intro W1 hw'
          have hb1 : Below wr.heap.size wr W1 := by obtain ⟨⟨dq, osq⟩, hw''⟩ := hw'; rw [hw'']; exact below_regrown wr dq osq
          have H1 := Lib.hid (HM.out.below hb1)
          clear hw' hb1
          go_wp2
          exact ⟨HEND.out rfl _ H1.out, by simp only [intOf]; omega⟩
        | succ jp =>
          obtain ⟨x, hx⟩ : ∃ x, M[jp + 1]? = some x := ⟨M[jp + 1]'(by have := HMl.out; omega), List.getElem?_eq_getElem _⟩
          obtain ⟨y, hy⟩ : ∃ y, M[jp]? = some y := ⟨M[jp]'(by have := HMl.out; omega), List.getElem?_eq_getElem _⟩
          obtain ⟨x0, x1⟩ := HM.out.ns.row _ _ hx
          obtain ⟨y0, y1⟩ := HM.out.ns.row _ _ hy
          have fx : FO x := HMf.out x (List.mem_of_getElem? hx)
          have fy : FO y := HMf.out y (List.mem_of_getElem? hy)
          have K := Lib.hid (fun (W : World) (h : Below w.heap.size w W) => ucmp_s fx fy (HI.out.below h))
          have e1 : M[jp + 1]?.getD default = x := by rw [hx]; rfl
          have e2 : M[jp]?.getD default = y := by rw [hy]; rfl
          have hIN : innerN leO M (jp + 1) = if decide (cmpOO x y < 0) then innerN leO (swpN M jp) jp else M := by
            show (if leO (M[jp + 1]?.getD default) (M[jp]?.getD default) then innerN leO (swpN M jp) jp else M) = _
            rw [e1, e2]
            rfl
          have HIN := Lib.hid hIN
          have HE := Lib.hid (show swpN M jp = (M.set (jp + 1) y).set jp x by unfold swpN; rw [e1, e2])
          clear hIN e1 e2
          have hwp : IntKind.i64.wrap (jp : Int) = (jp : Int) := IntWalk.i64_in _ (by omega)
          have jz : (jp : Int) + 1 < (n : Int) := by omega
          have jz1 : (jp : Int) < (n : Int) := by omega
          have p0 : (0 : Int) ≤ (jp : Int) + 1 := by omega
          have e0 : ((jp : Int) + 1).toNat = jp + 1 := by omega
          have g0 : (0 : Int) < (jp : Int) + 1 := by omega
          rw [show ((jp + 1 : Nat) : Int) = (jp : Int) + 1 from by omega]
          have HXY := Lib.hid (And.intro hx hy)
          clear hx hy fx fy
          obtain ⟨xn, hxn⟩ : ∃ v, v = qN x := ⟨_, rfl⟩
          obtain ⟨xd, hxd⟩ : ∃ v, v = qD x := ⟨_, rfl⟩
          obtain ⟨yn, hyn⟩ : ∃ v, v = qN y := ⟨_, rfl⟩
          obtain ⟨yd, hyd⟩ : ∃ v, v = qD y := ⟨_, rfl⟩
          rw [← hxn] at x0 K
          rw [← hxd] at x1 K
          rw [← hyn] at y0 K
          rw [← hyd] at y1 K
          have HQ := Lib.hid (show xn = qN x ∧ xd = qD x ∧ yn = qN y ∧ yd = qD y from ⟨hxn, hxd, hyn, hyd⟩)
          clear hxn hxd hyn hyd
          obtain ⟨c, hc⟩ : ∃ c, c = cmpOO x y := ⟨_, rfl⟩
          rw [← hc] at K HIN
          clear hc
          have k0 := cell_regrown x0
          have k1 := cell_regrown x1
          have k2 := cell_regrown y0
          have k3 := cell_regrown y1
          have c0 := fun d os => Calls.regrown_of (d := d) (os := os) (K.out _ (HM.out.az.bw.trans ((below_regrown wr d os).mono HM.out.az.bw.size)))
          go_wp2
          refine wp_region_quiet_below (by kernel_rfl) (by kernel_rfl) ?_
          repeat (go_big_quiet_step ((with_reducible exact c0 _ _)))
          refine wpQuiet_nil ?_
          intro W1 hw'
          have hb1 : Below wr.heap.size wr W1 := by obtain ⟨⟨dq, osq⟩, hw''⟩ := hw'; rw [hw'']; exact below_regrown wr dq osq
          have H1 := Lib.hid (HM.out.below hb1)
          clear hw' hb1 k0 k1 k2 k3 c0 x0 x1 y0 y1
          by_cases hcz : c < 0
          · have hcd : decide (c < 0) = true := decide_eq_true hcz
            have HI2 := Lib.hid (show innerN leO M (jp + 1) = innerN leO (swpN M jp) jp by rw [HIN.out, hcd]; rfl)
            clear hcd HIN HEND
            have z0 := (H1.out.ns.row _ _ HXY.out.1).1
            have z1 := (H1.out.ns.row _ _ HXY.out.1).2
            have z2 := (H1.out.ns.row _ _ HXY.out.2).1
            have z3 := (H1.out.ns.row _ _ HXY.out.2).2
            rw [← HQ.out.1] at z0
            rw [← HQ.out.2.1] at z1
            rw [← HQ.out.2.2.1] at z2
            rw [← HQ.out.2.2.2] at z3
            have q0 := H1.out.ns.fz ((jp + 1) * 2) (by rw [HMl.out]; omega)
            have q1 := H1.out.ns.fz ((jp + 1) * 2 + 1) (by rw [HMl.out]; omega)
            have q2 := H1.out.ns.fz (jp * 2) (by rw [HMl.out]; omega)
            have q3 := H1.out.ns.fz (jp * 2 + 1) (by rw [HMl.out]; omega)
            go_wp2
            go_region
            all_goals
              go_wp2
              have H2 := ((H1.out.set (k := jp + 1) (by rw [HMl.out]; omega) y).set (k := jp) (by rw [List.length_set, HMl.out]; omega) x).drew
              rw [← HQ.out.1, ← HQ.out.2.1, ← HQ.out.2.2.1, ← HQ.out.2.2.2] at H2
              refine ⟨⟨jp, (M.set (jp + 1) y).set jp x, rfl, by omega, by rw [List.length_set, List.length_set, HMl.out], fun z hz => ?_, H2, by rw [← HIn.out, HI2.out, HE.out]⟩, by simp only [intOf]; omega⟩
              rcases List.mem_or_eq_of_mem_set hz with hz | rfl
              · rcases List.mem_or_eq_of_mem_set hz with hz | rfl
                · exact HMf.out z hz
                · exact HMf.out _ (List.mem_of_getElem? HXY.out.2)
              · exact HMf.out _ (List.mem_of_getElem? HXY.out.1)
          · have hcd : decide (c < 0) = false := decide_eq_false hcz
            have HI2 := Lib.hid (show innerN leO M (jp + 1) = M by rw [HIN.out, hcd]; rfl)
            clear hcd HIN
            go_wp2
            exact ⟨HEND.out HI2.out _ H1.out, by simp only [intOf]; omega⟩
    · have e : L = S := by
        have := HO.out
        rw [show n - i = 0 by omega] at this
        exact this
      subst e
      clear HO HS
      have hlt2 : decide ((i : Int) < (n : Int)) = false := decide_eq_false (by omega)
      go_wp2
      go_end0
      exact ⟨rfl, HA.out⟩
end Go.Proofs.YtgngepbemgbbeaaGreatDoor

namespace Go.Proofs.YtgngepbemgbbeaaGreatDoor
open Go.RowKit Go.Shelf
attribute [local go_sem] Oper.semAt_some

theorem AzAt.cons {L : List (Nat × List Value)} {w W : World} (h : AzAt L w W) {B : Nat} {vs : List Value} (c : ArAt B vs W) : AzAt ((B, vs) :: L) w W :=
  ⟨h.bw, fun x hx => by rcases List.mem_cons.1 hx with rfl | hx; exact c; exact h.row x hx⟩
theorem ArAt.of_block {B : Nat} {vs : List Value} {W W' : World} (h : ArAt B vs W) (hb : W'.heap[B]? = W.heap[B]?) (hs : W.heap.size ≤ W'.heap.size) : ArAt B vs W' :=
  ⟨fun i v hv => (World.cell?_of_block (w := W) (a := ⟨B, i, none⟩) hb).trans (h.row i v hv), fun o ho => by
    have := h.fz o ho
    unfold World.frozen? at *
    rw [hb]
    exact this, Nat.lt_of_lt_of_le h.sz hs⟩
/-- A slice v of n elements of two cells each, which hold xs, made behind w; beside it blocks that may be written. -/
structure OzAt (e : TypeId) (v : Value) (n : Nat) (xs : List Value) (R : List (Nat × List Value)) (w W : World) : Prop where
  az : AzAt R w W
  own : W.ownsRow w.heap.size e 2 v n xs
  ne : ∀ x ∈ R, v.ownBlock ≠ some x.1
theorem ownBlock_lt {W : World} {b : Nat} {e : TypeId} {s : Nat} {v : Value} {n : Nat} {xs : List Value} (h : W.ownsRow b e s v n xs) : ∀ g, v.ownBlock = some g → g < W.heap.size ∧ b ≤ g := by
  intro g hg
  rcases h.2 with ⟨rfl, _⟩ | ⟨g', cap, cur, rfl, hb, hc, _⟩
  · cases hg
  · obtain rfl : g' = g := by simpa [Value.ownBlock] using hg
    exact ⟨(Array.getElem?_eq_some_iff.1 hc).1, hb⟩
section
variable {e : TypeId} {v : Value} {n : Nat} {xs : List Value} {R : List (Nat × List Value)} {w W : World}
theorem ownsRow_below {b s : Nat} {W' : World} (h : W.ownsRow b e s v n xs) (hb : Below W.heap.size W W') : W'.ownsRow b e s v n xs := by
  refine ⟨h.1, ?_⟩
  rcases h.2 with hn | ⟨g, cap, cur, hv, h1, h2, h3⟩
  · exact .inl hn
  · exact .inr ⟨g, cap, cur, hv, h1, (hb.block g (Array.getElem?_eq_some_iff.1 h2).1).trans h2, h3⟩
theorem OzAt.below {W' : World} (h : OzAt e v n xs R w W) (hb : Below W.heap.size W W') : OzAt e v n xs R w W' := ⟨h.az.below hb, ownsRow_below h.own hb, h.ne⟩
theorem OzAt.al (h : OzAt e v n xs R w W) (o : Obj) : OzAt e v n xs R w (W.alloc o) := h.below ((Below.refl _ _).alloc (Nat.le_refl _) _)
theorem OzAt.drew (h : OzAt e v n xs R w W) : OzAt e v n xs R w W.drew := h.below (Below.refl _ _).drew
theorem OzAt.sub {R' : List (Nat × List Value)} (h : OzAt e v n xs R w W) (hs : ∀ x ∈ R', x ∈ R) : OzAt e v n xs R' w W := ⟨h.az.sub hs, h.own, fun x hx => h.ne x (hs x hx)⟩
/-- A new block beside the slice. -/
theorem OzAt.cons (h : OzAt e v n xs R w W) {B : Nat} {vs : List Value} (c : ArAt B vs W) (hne : v.ownBlock ≠ some B) : OzAt e v n xs ((B, vs) :: R) w W :=
  ⟨h.az.cons c, h.own, fun x hx => by rcases List.mem_cons.1 hx with rfl | hx; exact hne; exact h.ne x hx⟩
theorem ownBlock_grown {B : Nat} (h : OzAt e v n xs R w W) (hB : W.heap.size ≤ B) : v.ownBlock ≠ some B := fun e => by
  have := (ownBlock_lt h.own _ e).1
  omega
/-- A store into a block beside the slice. -/
theorem ownsRow_other {b s : Nat} (h : W.ownsRow b e s v n xs) {B i : Nat} (hne : v.ownBlock ≠ some B) (u : Value) : (W.setCell ⟨B, i, none⟩ u).ownsRow b e s v n xs := by
  refine ⟨h.1, ?_⟩
  rcases h.2 with hn | ⟨g, cap, cur, hv, h1, h2, h3⟩
  · exact .inl hn
  · subst hv
    have hgB : g ≠ B := fun x => hne (by rw [x]; rfl)
    exact .inr ⟨g, cap, cur, rfl, h1, (Below.heap_setCell _ _ _ _ hgB).trans h2, h3⟩
theorem OzAt.set2 {B : Nat} {a b : Value} (h : OzAt e v n xs ((B, [a, b]) :: R) w W) (hB : w.heap.size ≤ B) (hd : ∀ x ∈ R, B ≠ x.1) (u t : Value) : OzAt e v n xs ((B, [u, t]) :: R) w ((W.setCell ⟨B, 0, none⟩ u).setCell ⟨B, 1, none⟩ t) := by
  have hne := h.ne (B, [a, b]) (by simp)
  exact ⟨h.az.set2 hB hd u t, ownsRow_other (ownsRow_other h.own hne u) hne t, fun x hx => by
    rcases List.mem_cons.1 hx with rfl | hx
    · exact hne
    · exact h.ne x (by simp [hx])⟩
/-- Behind an append of one element. -/
theorem OzAt.append {v' p q : Value} {w' : World} {o : Obj} (h : OzAt e v n xs R w W) (hown : w'.ownsRow w.heap.size e 2 v' (n + 1) (xs ++ [p, q])) (hg : (W.alloc o).grownBy w' v.ownBlock)
    (hv : v'.ownBlock = v.ownBlock ∨ v'.ownBlock = some (W.alloc o).heap.size) : OzAt e v' (n + 1) (xs ++ [p, q]) R w w' := by
  have h1 := h.al o
  refine ⟨⟨h1.az.bw.grown hg h1.az.bw.size (fun k hk => (ownBlock_lt h1.own k hk).2), fun x hx => ?_⟩, hown, fun x hx => ?_⟩
  · exact (h1.az.row x hx).of_block (hg.block x.1 (h1.az.row x hx).sz (fun hk => h1.ne x hx hk.symm)) hg.size
  · rcases hv with hv | hv
    · rw [hv]; exact h.ne x hx
    · rw [hv]
      intro hk
      have := (h1.az.row x hx).sz
      have hk' := Option.some.inj hk
      omega
/-- The first append to no slice at all. -/
theorem OzAt.nil (h : AzAt R w W) (e : TypeId) : OzAt e (.slice none 0 0) 0 [] R w W := ⟨h, World.ownsRow_nil _ _ _ _, fun x _ hk => by cases hk⟩
theorem OzAt.cell (h : OzAt e v n xs R w W) {B m cap k : Nat} {x : Value} (hv : v = .slice (some ⟨B, 0, none⟩) m cap) (hx : xs[k]? = some x) : W.cell? ⟨B, k, none⟩ = some x := by
  rcases h.own.2 with ⟨rfl, _⟩ | ⟨g, c, cur, rfl, _, hc, _, _, _, ht⟩
  · cases hv
  · obtain ⟨rfl, _⟩ : g = B ∧ True := by
      injection hv with h1
      injection h1 with h1
      exact ⟨congrArg Addr.block h1, trivial⟩
    rw [← ht] at hx
    unfold World.cell?
    rw [hc]
    have := List.getElem?_take (l := cur.toList) (i := n * 2) (j := k)
    rw [this] at hx
    split at hx
    · simpa using hx
    · cases hx
theorem OzAt.fz (h : OzAt e v n xs R w W) {B m cap : Nat} (hv : v = .slice (some ⟨B, 0, none⟩) m cap) (k : Nat) : W.frozen? ⟨B, k, none⟩ = false := by
  rcases h.own.2 with ⟨rfl, _⟩ | ⟨g, c, cur, rfl, _, hc, _, _, _, ht⟩
  · cases hv
  · obtain ⟨rfl, _⟩ : g = B ∧ True := by
      injection hv with h1
      injection h1 with h1
      exact ⟨congrArg Addr.block h1, trivial⟩
    unfold World.frozen?
    rw [hc]
    simp
theorem OzAt.blk (h : OzAt e v n xs R w W) {B m cap : Nat} (hv : v = .slice (some ⟨B, 0, none⟩) m cap) : B < W.heap.size ∧ w.heap.size ≤ B ∧ n = m ∧ ∀ x ∈ R, B ≠ x.1 := by
  have hb := ownBlock_lt h.own B (by rw [hv]; rfl)
  refine ⟨hb.1, hb.2, ?_, fun x hx hk => h.ne x hx (by rw [hv, hk]; rfl)⟩
  rcases h.own.2 with ⟨rfl, _⟩ | ⟨g, c, cur, rfl, _⟩
  · cases hv
  · injection hv
/-- A slice that is written out. -/
theorem OzAt.lit (h : AzAt R w W) (vs : List Value) (e : TypeId) (n : Nat) (hl : vs.length = n * 2) (hn : n ≤ 1000000) : OzAt e (.slice (some ⟨W.heap.size, 0, none⟩) n n) n vs R w (W.alloc (.cells vs.toArray e)) := by
  have ho := World.ownsRow_lit (base := w.heap.size) (e := e) (size := 2) W vs.toArray n h.bw.size (by unfold maxLen; omega) (by simpa using hl)
  refine ⟨h.al _, by simpa using ho, fun x hx hk => ?_⟩
  have := (h.row x hx).sz
  have hk' : W.heap.size = x.1 := Option.some.inj hk
  omega
theorem OzAt.push (h : OzAt e v n xs R w W) (l : List Value) (t : TypeId) : OzAt e v n xs ((W.heap.size, l) :: R) w (W.alloc (.cells l.toArray t)) :=
  (h.al _).cons (ArAt.mk' W l t) (ownBlock_grown h (Nat.le_refl _))
theorem two_new (W : World) (p q : Value) (e : TypeId) : ∀ j u, ([p, q] : List Value)[j]? = some u → (W.alloc (.cells #[p, q] e)).cell? ((⟨W.heap.size, 0, none⟩ : Addr).add j) = some u := fun j u hj => by
  match j, hj with
  | 0, hj => cases hj; simp [Addr.add]
  | 1, hj => cases hj; simp [Addr.add]
  | j + 2, hj => simp at hj
end
/-- Texts of fractions in a row. -/
def flatN (l : List (Option Rat)) : List Value := l.flatMap fun x => [.string (qN x), .string (qD x)]
theorem flatN_snoc (l : List (Option Rat)) (x : Option Rat) : flatN (l ++ [x]) = flatN l ++ [.string (qN x), .string (qD x)] := by simp [flatN]
theorem flatN_at {l : List (Option Rat)} {k : Nat} {x : Option Rat} (h : l[k]? = some x) : (flatN l)[k * 2]? = some (.string (qN x)) ∧ (flatN l)[k * 2 + 1]? = some (.string (qD x)) := by
  induction l generalizing k with
  | nil => cases h
  | cons y l ih =>
    have e : flatN (y :: l) = .string (qN y) :: .string (qD y) :: flatN l := rfl
    rw [e]
    cases k with
    | zero => cases h; exact ⟨rfl, rfl⟩
    | succ k =>
      have := ih (k := k) (by simpa using h)
      rw [show (k + 1) * 2 = k * 2 + 1 + 1 by omega]
      exact this
/-- A slice of fractions, as it is sorted. -/
theorem OzAt.ns {e : TypeId} {B m cap : Nat} {l : List (Option Rat)} {R : List (Nat × List Value)} {w W : World} (h : OzAt e (.slice (some ⟨B, 0, none⟩) m cap) m (flatN l) R w W) : NzAt B l R w W :=
  ⟨h.az, ⟨fun _ _ hx => ⟨h.cell rfl (flatN_at hx).1, h.cell rfl (flatN_at hx).2⟩, fun o _ => h.fz rfl o, (h.blk rfl).1⟩, (h.blk rfl).2.1, (h.blk rfl).2.2.2⟩
section
variable {B : Nat} {l : List (Option Rat)} {R : List (Nat × List Value)} {w W : World}
theorem NsAt.other (h : NsAt B l W) {X : Nat} (hne : X ≠ B) (i : Nat) (u : Value) : NsAt B l (W.setCell ⟨X, i, none⟩ u) :=
  ⟨fun k x hx => ⟨(World.cell?_setCell_other _ _ _ _ (fun e => hne (by have := congrArg Addr.block e; simpa using this))).trans (h.row k x hx).1, (World.cell?_setCell_other _ _ _ _ (fun e => hne (by have := congrArg Addr.block e; simpa using this))).trans (h.row k x hx).2⟩,
    fun o ho => by have := h.fz o ho; simpa [go_sem] using this, by simpa using h.sz⟩
theorem NzAt.cons (h : NzAt B l R w W) {X : Nat} {vs : List Value} (c : ArAt X vs W) (hne : B ≠ X) : NzAt B l ((X, vs) :: R) w W :=
  ⟨h.az.cons c, h.ns, h.hB, fun x hx => by rcases List.mem_cons.1 hx with rfl | hx; exact hne; exact h.ne x hx⟩
theorem NzAt.push (h : NzAt B l R w W) (vs : List Value) (t : TypeId) : NzAt B l ((W.heap.size, vs) :: R) w (W.alloc (.cells vs.toArray t)) :=
  (h.below ((Below.refl _ _).alloc (Nat.le_refl _) _)).cons (ArAt.mk' W vs t) (by have := h.ns.sz; omega)
theorem NzAt.sub {R' : List (Nat × List Value)} (h : NzAt B l R w W) (hs : ∀ x ∈ R', x ∈ R) : NzAt B l R' w W := ⟨h.az.sub hs, h.ns, h.hB, fun x hx => h.ne x (hs x hx)⟩
theorem NzAt.set2 {X : Nat} {a b : Value} (h : NzAt B l ((X, [a, b]) :: R) w W) (hX : w.heap.size ≤ X) (hd : ∀ x ∈ R, X ≠ x.1) (u t : Value) : NzAt B l ((X, [u, t]) :: R) w ((W.setCell ⟨X, 0, none⟩ u).setCell ⟨X, 1, none⟩ t) := by
  have hne : B ≠ X := h.ne (X, [a, b]) (by simp)
  exact ⟨h.az.set2 hX hd u t, (h.ns.other (Ne.symm hne) _ _).other (Ne.symm hne) _ _, h.hB, fun x hx => by
    rcases List.mem_cons.1 hx with rfl | hx
    · exact hne
    · exact h.ne x (by simp [hx])⟩
end
theorem info_number : (Tryz.prog.info? 85).map (fun i => (i.zero, i.size, i.bytes)) = some (some (.agg #[.string ⟨#[]⟩, .string ⟨#[]⟩]), 2, 32) := by kernel_rfl
theorem info_place : (Tryz.prog.info? 26).map (fun i => (i.zero, i.size, i.bytes)) = some (some (.agg #[.int .i64 0, .int .i64 0]), 2, 16) := by kernel_rfl
end Go.Proofs.YtgngepbemgbbeaaGreatDoor

