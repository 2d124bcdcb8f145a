/-
  The law's sane: the chapter's examples hold.
  The law's sane.
-/
import Derived.Test.YtgngepbemgbbeaaGreatDoorZPv
import Derived.Test.YtgngepbemgbbeaaGreatDoorZPl4
import Derived.Test.YtgngepbemgbbeaaGreatDoorZPlD
import Derived.Test.YtgngepbemgbbeaaGreatDoorZPk7
import Derived.Test.YtgngepbemgbbeaaGreatDoorZPl3
import Derived.Test.YtgngepbemgbbeaaGreatDoorZPl1
namespace Go.Proofs.YtgngepbemgbbeaaGreatDoor
open Go.RowKit Go.Shelf Go.Sort
attribute [local go_sem] Oper.semAt_some

def noEq : List Pl → Bool
  | x :: y :: l => !(x == y) && noEq (y :: l)
  | _ => true
theorem noEq_spec : ∀ {l : List Pl}, noEq l = true → ∀ k p q, l[k]? = some p → l[k + 1]? = some q → p ≠ q
  | [], _, k, p, q, h, _ => by simp at h
  | [x], _, k, p, q, _, h => by simp at h
  | x :: y :: l, hn, k, p, q, h1, h2 => by
    simp only [noEq, Bool.and_eq_true, Bool.not_eq_true'] at hn
    cases k with
    | zero =>
      cases h1
      cases h2
      intro e
      rw [e] at hn
      simp at hn
    | succ k => exact noEq_spec (l := y :: l) hn.2 k p q (by simpa using h1) (by simpa using h2)
set_option maxHeartbeats 1000000 in
theorem hull_nil (w : World) :
    Calls Tryz.prog 22 #[.slice none 0 0] w fun e W' => e = .returned (.tuple #[.slice none 0 0, .int .i64 70]) ∧ Below w.heap.size w W' := by
  have KI := Lib.hid (fun W => in_f (n := 0) (lo := 1) (hi := 40) (by omega) W)
  have KF := Lib.hid (show Calls Tryz.prog 48 #[.slice none 0 0] w fun e W' => e = .returned (.bool false) ∧ Below w.heap.size w W' from by
    go_enter Tryz.func48, Tryz.ntmps48
    go_wp2_with (go_at_call 44; (with_reducible refine (KI.out _).mono ?_); rintro e w' ⟨rfl, rfl⟩)
    go_ret
    exact ⟨rfl, Below.refl _ _⟩)
  clear KI
  go_enter Tryz.func22, Tryz.ntmps22
  go_wp2_with (go_at_call 48; (with_reducible refine (KF.out).mono ?_); rintro e w' ⟨rfl, hb⟩)
  refine bodyPost_ret (v := .tuple #[.slice none 0 0, .int .i64 70]) ?_ rfl ⟨rfl, hb⟩
  simp [results, Tryz.results22, go_sem]
theorem hull5_s (W : World) :
    Calls Tryz.prog 22 #[.slice (some ⟨W.heap.size, 0, none⟩) 5 5] (W.alloc (.cells #[.int .i64 0, .int .i64 0, .int .i64 2, .int .i64 0, .int .i64 1, .int .i64 1, .int .i64 2, .int .i64 2, .int .i64 0, .int .i64 2] 26)) fun e W' => (∃ g c, e = .returned (.tuple #[.slice (some ⟨g, 0, none⟩) 4 c, .int .i64 0]) ∧ ArAt g [.int .i64 0, .int .i64 0, .int .i64 2, .int .i64 0, .int .i64 2, .int .i64 2, .int .i64 0, .int .i64 2] W') ∧ Below (W.alloc (.cells #[.int .i64 0, .int .i64 0, .int .i64 2, .int .i64 0, .int .i64 1, .int .i64 1, .int .i64 2, .int .i64 2, .int .i64 0, .int .i64 2] 26)).heap.size (W.alloc (.cells #[.int .i64 0, .int .i64 0, .int .i64 2, .int .i64 0, .int .i64 1, .int .i64 1, .int .i64 2, .int .i64 2, .int .i64 0, .int .i64 2] 26)) W' := by
  have h := hull_s (cap := 5) (n := 5) (B := W.heap.size) (ps := [⟨0, 0⟩, ⟨2, 0⟩, ⟨1, 1⟩, ⟨2, 2⟩, ⟨0, 2⟩]) rfl (by decide) (by decide) (by decide) (noEq_spec (by decide +kernel)) _ (PsAt.of (ArAt.mk' W [.int .i64 0, .int .i64 0, .int .i64 2, .int .i64 0, .int .i64 1, .int .i64 1, .int .i64 2, .int .i64 2, .int .i64 0, .int .i64 2] 26))
  rw [pl_sane1] at h
  exact h
theorem cov1_s {T : Nat} {W : World} (hi : IOps W) (hf : FrOp W) (h : PsAt T [⟨0, 0⟩, ⟨2, 0⟩, ⟨0, 2⟩] W) :
    Calls Tryz.prog 27 #[.slice (some ⟨T, 0, none⟩) 3 3, .agg #[.int .i64 0, .int .i64 0, .int .i64 1, .int .i64 1]] W fun e W' => e = .returned (.tuple #[.agg #[.string (qN (makeR 1 1)), .string (qD (makeR 1 1))], .int .i64 0]) ∧ Below W.heap.size W W' := by
  have h := covered_s (cap := 3) (n := 3) (B := T) (ps := [⟨0, 0⟩, ⟨2, 0⟩, ⟨0, 2⟩]) (r := ⟨0, 0, 1, 1⟩) rfl (by decide) (by decide) (by decide) (noEq_spec (by decide +kernel)) pl_sane2 (by decide) hi hf h
  rw [show coveredO [⟨0, 0⟩, ⟨2, 0⟩, ⟨0, 2⟩] ⟨0, 0, 1, 1⟩ = makeR 1 1 by rw [pl_sane3]; decide +kernel] at h
  exact h
theorem cov2_s {T : Nat} {W : World} (hi : IOps W) (hf : FrOp W) (h : PsAt T [⟨0, 0⟩, ⟨2, 0⟩, ⟨0, 2⟩] W) :
    Calls Tryz.prog 27 #[.slice (some ⟨T, 0, none⟩) 3 3, .agg #[.int .i64 0, .int .i64 0, .int .i64 2, .int .i64 1]] W fun e W' => e = .returned (.tuple #[.agg #[.string (qN (makeR 3 2)), .string (qD (makeR 3 2))], .int .i64 0]) ∧ Below W.heap.size W W' := by
  have h := covered_s (cap := 3) (n := 3) (B := T) (ps := [⟨0, 0⟩, ⟨2, 0⟩, ⟨0, 2⟩]) (r := ⟨0, 0, 2, 1⟩) rfl (by decide) (by decide) (by decide) (noEq_spec (by decide +kernel)) pl_sane2 (by decide) hi hf h
  rw [show coveredO [⟨0, 0⟩, ⟨2, 0⟩, ⟨0, 2⟩] ⟨0, 0, 2, 1⟩ = makeR 3 2 by rw [pl_sane4]; decide +kernel] at h
  exact h
theorem area_tri {T : Nat} {W : World} (h : PsAt T [⟨0, 0⟩, ⟨2, 0⟩, ⟨0, 2⟩] W) :
    Calls Tryz.prog 24 #[.slice (some ⟨T, 0, none⟩) 3 3] W fun e W' => e = .returned (.tuple #[.int .i64 4, .int .i64 0]) ∧ Below W.heap.size W W' := by
  have h := area2_s (cap := 3) (n := 3) (B := T) (ps := [⟨0, 0⟩, ⟨2, 0⟩, ⟨0, 2⟩]) rfl (by decide) W h
  rw [pl_sane5] at h
  exact h
theorem around_tri {T : Nat} {W : World} (h : PsAt T [⟨0, 0⟩, ⟨2, 0⟩, ⟨0, 2⟩] W) :
    Calls Tryz.prog 20 #[.slice (some ⟨T, 0, none⟩) 3 3] W fun e W' => e = .returned (.tuple #[.agg #[.int .i64 0, .int .i64 0, .int .i64 2, .int .i64 2], .int .i64 0]) ∧ Below W.heap.size W W' :=
  around_s (cap := 3) (n := 3) (B := T) (p := ⟨0, 0⟩) (l := [⟨2, 0⟩, ⟨0, 2⟩]) rfl (by decide) W h
theorem dist1_s {W : World} (hi : IOps W) (hf : FrOp W) :
    Calls Tryz.prog 29 #[.agg #[.int .i64 0, .int .i64 2], .agg #[.int .i64 0, .int .i64 0], .agg #[.int .i64 2, .int .i64 2]] W fun e W' => e = .returned (.tuple #[.agg #[.string (qN (makeR 2 1)), .string (qD (makeR 2 1))], .int .i64 0]) ∧ Below W.heap.size W W' := by
  have h := dist_yes (p := ⟨0, 2⟩) (a := ⟨0, 0⟩) (b := ⟨2, 2⟩) (by decide) (by decide) (by decide) hi hf
  rw [show some (dRat ⟨0, 2⟩ ⟨0, 0⟩ ⟨2, 2⟩) = makeR 2 1 by decide +kernel] at h
  exact h
theorem dist2_s {W : World} (hi : IOps W) (hf : FrOp W) :
    Calls Tryz.prog 29 #[.agg #[.int .i64 0, .int .i64 2], .agg #[.int .i64 2, .int .i64 0], .agg #[.int .i64 4, .int .i64 0]] W fun e W' => e = .returned (.tuple #[.agg #[.string (qN (makeR 8 1)), .string (qD (makeR 8 1))], .int .i64 0]) ∧ Below W.heap.size W W' := by
  have h := dist_yes (p := ⟨0, 2⟩) (a := ⟨2, 0⟩) (b := ⟨4, 0⟩) (by decide) (by decide) (by decide) hi hf
  rw [show some (dRat ⟨0, 2⟩ ⟨2, 0⟩ ⟨4, 0⟩) = makeR 8 1 by decide +kernel] at h
  exact h
theorem side1_s (W : World) :
    Calls Tryz.prog 31 #[.agg #[.int .i64 0, .int .i64 0], .agg #[.int .i64 2, .int .i64 0], .agg #[.int .i64 1, .int .i64 1]] W fun e W' => e = .returned (.int .i64 1) ∧ Below W.heap.size W W' := by
  have h := side_s ⟨0, 0⟩ ⟨2, 0⟩ ⟨1, 1⟩ W
  rw [show sideP ⟨0, 0⟩ ⟨2, 0⟩ ⟨1, 1⟩ = 1 by decide] at h
  exact h
theorem cross1_s (W : World) :
    Calls Tryz.prog 33 #[.agg #[.int .i64 0, .int .i64 0], .agg #[.int .i64 2, .int .i64 2], .agg #[.int .i64 0, .int .i64 2], .agg #[.int .i64 2, .int .i64 0]] W fun e W' => e = .returned (.bool true) ∧ Below W.heap.size W W' := by
  have h := cross_s ⟨0, 0⟩ ⟨2, 2⟩ ⟨0, 2⟩ ⟨2, 0⟩ W
  rw [show crossP ⟨0, 0⟩ ⟨2, 2⟩ ⟨0, 2⟩ ⟨2, 0⟩ = true by decide] at h
  exact h
theorem cross2_s (W : World) :
    Calls Tryz.prog 33 #[.agg #[.int .i64 0, .int .i64 0], .agg #[.int .i64 1, .int .i64 1], .agg #[.int .i64 2, .int .i64 2], .agg #[.int .i64 3, .int .i64 3]] W fun e W' => e = .returned (.bool false) ∧ Below W.heap.size W W' := by
  have h := cross_s ⟨0, 0⟩ ⟨1, 1⟩ ⟨2, 2⟩ ⟨3, 3⟩ W
  rw [show crossP ⟨0, 0⟩ ⟨1, 1⟩ ⟨2, 2⟩ ⟨3, 3⟩ = false by decide] at h
  exact h
theorem vr1_s (W : World) :
    Calls Tryz.prog 14 #[.agg #[.int .i64 0, .int .i64 0, .int .i64 2, .int .i64 2]] W fun e W' => e = .returned (.bool true) ∧ Below W.heap.size W W' := by
  have h := vRect_s ⟨0, 0, 2, 2⟩ W
  rw [show vRc ⟨0, 0, 2, 2⟩ = true by decide] at h
  exact h
theorem vr2_s (W : World) :
    Calls Tryz.prog 14 #[.agg #[.int .i64 4095, .int .i64 0, .int .i64 1, .int .i64 0]] W fun e W' => e = .returned (.bool false) ∧ Below W.heap.size W W' := by
  have h := vRect_s ⟨4095, 0, 1, 0⟩ W
  rw [show vRc ⟨4095, 0, 1, 0⟩ = false by decide] at h
  exact h
theorem touch1_s (W : World) :
    Calls Tryz.prog 16 #[.agg #[.int .i64 0, .int .i64 0, .int .i64 2, .int .i64 2], .agg #[.int .i64 2, .int .i64 0, .int .i64 3, .int .i64 1]] W fun e W' => e = .returned (.bool true) ∧ Below W.heap.size W W' := by
  have h := touch_s ⟨0, 0, 2, 2⟩ ⟨2, 0, 3, 1⟩ W
  rw [show touchR ⟨0, 0, 2, 2⟩ ⟨2, 0, 3, 1⟩ = true by decide] at h
  exact h
theorem touch2_s (W : World) :
    Calls Tryz.prog 16 #[.agg #[.int .i64 0, .int .i64 0, .int .i64 2, .int .i64 2], .agg #[.int .i64 3, .int .i64 0, .int .i64 0, .int .i64 0]] W fun e W' => e = .returned (.bool false) ∧ Below W.heap.size W W' := by
  have h := touch_s ⟨0, 0, 2, 2⟩ ⟨3, 0, 0, 0⟩ W
  rw [show touchR ⟨0, 0, 2, 2⟩ ⟨3, 0, 0, 0⟩ = false by decide] at h
  exact h
theorem inside1_s (W : World) :
    Calls Tryz.prog 18 #[.agg #[.int .i64 1, .int .i64 0, .int .i64 1, .int .i64 0], .agg #[.int .i64 0, .int .i64 0, .int .i64 2, .int .i64 2]] W fun e W' => e = .returned (.bool true) ∧ Below W.heap.size W W' := by
  have h := inside_s ⟨1, 0, 1, 0⟩ ⟨0, 0, 2, 2⟩ W
  rw [show insideR ⟨1, 0, 1, 0⟩ ⟨0, 0, 2, 2⟩ = true by decide] at h
  exact h
theorem inside2_s (W : World) :
    Calls Tryz.prog 18 #[.agg #[.int .i64 0, .int .i64 0, .int .i64 2, .int .i64 2], .agg #[.int .i64 1, .int .i64 0, .int .i64 1, .int .i64 0]] W fun e W' => e = .returned (.bool false) ∧ Below W.heap.size W W' := by
  have h := inside_s ⟨0, 0, 2, 2⟩ ⟨1, 0, 1, 0⟩ W
  rw [show insideR ⟨0, 0, 2, 2⟩ ⟨1, 0, 1, 0⟩ = false by decide] at h
  exact h
theorem vp1_s (W : World) :
    Calls Tryz.prog 35 #[.agg #[.int .i64 0, .int .i64 4095]] W fun e W' => e = .returned (.bool true) ∧ Below W.heap.size W W' := by
  have h := vPlace_s ⟨0, 4095⟩ W
  rw [show vP ⟨0, 4095⟩ = true by decide] at h
  exact h
theorem vp2_s (W : World) :
    Calls Tryz.prog 35 #[.agg #[.int .i64 0, .int .i64 4096]] W fun e W' => e = .returned (.bool false) ∧ Below W.heap.size W W' := by
  have h := vPlace_s ⟨0, 4096⟩ W
  rw [show vP ⟨0, 4096⟩ = false by decide] at h
  exact h
theorem same4_s {B C c1 c2 : Nat} {W : World} (h1 : PsAt B [⟨0, 0⟩, ⟨2, 0⟩, ⟨2, 2⟩, ⟨0, 2⟩] W) (h2 : PsAt C [⟨0, 0⟩, ⟨2, 0⟩, ⟨2, 2⟩, ⟨0, 2⟩] W) :
    Calls Tryz.prog 26 #[.slice (some ⟨B, 0, none⟩) 4 c1, .slice (some ⟨C, 0, none⟩) 4 c2] W fun e W' => e = .returned (.bool true) ∧ Below W.heap.size W W' := by
  have h := same_s (c1 := c1) (c2 := c2) (n := 4) (m := 4) (ps := [⟨0, 0⟩, ⟨2, 0⟩, ⟨2, 2⟩, ⟨0, 2⟩]) (qs := [⟨0, 0⟩, ⟨2, 0⟩, ⟨2, 2⟩, ⟨0, 2⟩]) rfl rfl (by decide) (by decide) W h1 h2
  rw [decide_eq_true rfl] at h
  exact h
end Go.Proofs.YtgngepbemgbbeaaGreatDoor

namespace Go.Proofs.YtgngepbemgbbeaaGreatDoor
open Go.RowKit Go.Shelf Go.Sort
attribute [local go_sem] Oper.semAt_some

theorem tri_ps {B : Nat} {W : World} (h : ArAt B [.int .i64 0, .int .i64 0, .int .i64 2, .int .i64 0, .int .i64 0, .int .i64 2] W) : PsAt B [⟨0, 0⟩, ⟨2, 0⟩, ⟨0, 2⟩] W := PsAt.of h
theorem four_ps {B : Nat} {W : World} (h : ArAt B [.int .i64 0, .int .i64 0, .int .i64 2, .int .i64 0, .int .i64 2, .int .i64 2, .int .i64 0, .int .i64 2] W) : PsAt B [⟨0, 0⟩, ⟨2, 0⟩, ⟨2, 2⟩, ⟨0, 2⟩] W := PsAt.of h
set_option maxHeartbeats 16000000 in
set_option maxRecDepth 100000 in
theorem sane7_s {w : World} (hi : IOps w) (hf : FrOp w) : Calls Tryz.prog 10 #[] w fun e W' => e = .returned (.bool true) ∧ Below w.heap.size w W' := by
  have hmx : Tryz.prog.follows .mixedOrders = true := by kernel_rfl
  have D1 := Lib.hid (fun (W : World) (hb : Below w.heap.size w W) => dist1_s (hi.below hb) (hf.below hb))
  have D2 := Lib.hid (fun (W : World) (hb : Below w.heap.size w W) => dist2_s (hi.below hb) (hf.below hb))
  have C1 := Lib.hid (fun (W : World) (T : Nat) (hp : PsAt T [⟨0, 0⟩, ⟨2, 0⟩, ⟨0, 2⟩] W) (hb : Below w.heap.size w W) => cov1_s (hi.below hb) (hf.below hb) hp)
  have C2 := Lib.hid (fun (W : World) (T : Nat) (hp : PsAt T [⟨0, 0⟩, ⟨2, 0⟩, ⟨0, 2⟩] W) (hb : Below w.heap.size w W) => cov2_s (hi.below hb) (hf.below hb) hp)
  have R1 := Lib.hid (fun (W : World) => ratio_s (n := 2) (d := 1) (by decide) (by decide) (by decide) (by decide) (by decide) W)
  have R2 := Lib.hid (fun (W : World) => ratio_s (n := 8) (d := 1) (by decide) (by decide) (by decide) (by decide) (by decide) W)
  have R3 := Lib.hid (fun (W : World) => ratio_s (n := 1) (d := 1) (by decide) (by decide) (by decide) (by decide) (by decide) W)
  have R4 := Lib.hid (fun (W : World) => ratio_s (n := 3) (d := 2) (by decide) (by decide) (by decide) (by decide) (by decide) W)
  clear hi hf
  generalize qN (makeR 2 1) = n1 at D1 R1
  generalize qD (makeR 2 1) = d1 at D1 R1
  generalize qN (makeR 8 1) = n2 at D2 R2
  generalize qD (makeR 8 1) = d2 at D2 R2
  generalize qN (makeR 1 1) = n3 at C1 R3
  generalize qD (makeR 1 1) = d3 at C1 R3
  generalize qN (makeR 3 2) = n4 at C2 R4
  generalize qD (makeR 3 2) = d4 at C2 R4
  have HC := Lib.hid (AzAt.start w)
  go_enter Tryz.func10, Tryz.ntmps10
  go_wp2_with (first
    | (go_at_call 42; (with_reducible refine (at_s _ _ _).mono ?_); rintro e w' ⟨rfl, hb⟩; replace HC := Lib.hid (HC.out.below hb); clear hb)
    | (go_at_call 29; (with_reducible refine (D1.out _ HC.out.bw).mono ?_); rintro e wA ⟨rfl, hb⟩; replace HC := Lib.hid ((HC.out.below hb).push [.string n1, .string d1] 47); clear hb)
    | (go_at_call 29; (with_reducible refine (D2.out _ HC.out.bw).mono ?_); rintro e wB ⟨rfl, hb⟩; replace HC := Lib.hid ((HC.out.below hb).push [.string n2, .string d2] 47); clear hb)
    | (go_at_call 22; (with_reducible refine (hull5_s _).mono ?_); rintro e wH ⟨⟨g, c, rfl, hg⟩, hb⟩; replace HC := Lib.hid (((HC.out.al _).below hb).cons hg); clear hb hg)
    | fail)
  obtain ⟨T, hT⟩ : ∃ T, T = w'.heap.size := ⟨_, rfl⟩
  have HD := Lib.hid (HC.out.push [.int .i64 0, .int .i64 0, .int .i64 2, .int .i64 0, .int .i64 0, .int .i64 2] 26)
  rw [← hT] at HD ⊢
  generalize w'.alloc (.cells #[.int .i64 0, .int .i64 0, .int .i64 2, .int .i64 0, .int .i64 0, .int .i64 2] 26) = wT at HD ⊢
  clear HC hT D1 D2
  go_wp2_with (first
    | (go_at_call 27; (with_reducible refine (C1.out _ T (tri_ps (HD.out.at (B := T) (l := [.int .i64 0, .int .i64 0, .int .i64 2, .int .i64 0, .int .i64 0, .int .i64 2]) (by simp))) HD.out.bw).mono ?_); rintro e wC ⟨rfl, hb⟩; replace HD := Lib.hid ((HD.out.below hb).push [.string n3, .string d3] 47); clear hb)
    | (go_at_call 27; (with_reducible refine (C2.out _ T (tri_ps (HD.out.at (B := T) (l := [.int .i64 0, .int .i64 0, .int .i64 2, .int .i64 0, .int .i64 0, .int .i64 2]) (by simp))) HD.out.bw).mono ?_); rintro e wD ⟨rfl, hb⟩; replace HD := Lib.hid ((HD.out.below hb).push [.string n4, .string d4] 47); clear hb)
    | (go_at_call 24; (with_reducible refine (area_tri (tri_ps (HD.out.at (B := T) (l := [.int .i64 0, .int .i64 0, .int .i64 2, .int .i64 0, .int .i64 0, .int .i64 2]) (by simp)))).mono ?_); rintro e wE ⟨rfl, hb⟩; replace HD := Lib.hid (HD.out.below hb); clear hb)
    | (go_at_call 20; (with_reducible refine (around_tri (tri_ps (HD.out.at (B := T) (l := [.int .i64 0, .int .i64 0, .int .i64 2, .int .i64 0, .int .i64 0, .int .i64 2]) (by simp)))).mono ?_); rintro e wR ⟨rfl, hb⟩; replace HD := Lib.hid ((HD.out.below hb).push [.int .i64 0, .int .i64 0, .int .i64 2, .int .i64 2] 29); clear hb)
    | (go_at_call 22; (with_reducible refine (hull_nil _).mono ?_); rintro e wN ⟨rfl, hb⟩; replace HD := Lib.hid (HD.out.below hb); clear hb)
    | (go_at_call 42; (with_reducible refine (at_s _ _ _).mono ?_); rintro e w' ⟨rfl, hb⟩; replace HD := Lib.hid (HD.out.below hb); clear hb)
    | (go_at_call 31; (with_reducible refine (side1_s _).mono ?_); rintro e w' ⟨rfl, hb⟩; replace HD := Lib.hid (HD.out.below hb); clear hb)
    | (go_at_call 33; (with_reducible refine (cross1_s _).mono ?_); rintro e w' ⟨rfl, hb⟩; replace HD := Lib.hid (HD.out.below hb); clear hb)
    | (go_at_call 33; (with_reducible refine (cross2_s _).mono ?_); rintro e w' ⟨rfl, hb⟩; replace HD := Lib.hid (HD.out.below hb); have r0 := ((HD.out.at (B := wR.heap.size) (l := [.int .i64 0, .int .i64 0, .int .i64 2, .int .i64 2]) (by simp)).row 0 _ rfl); have r1 := ((HD.out.at (B := wR.heap.size) (l := [.int .i64 0, .int .i64 0, .int .i64 2, .int .i64 2]) (by simp)).row 1 _ rfl); have r2 := ((HD.out.at (B := wR.heap.size) (l := [.int .i64 0, .int .i64 0, .int .i64 2, .int .i64 2]) (by simp)).row 2 _ rfl); have r3 := ((HD.out.at (B := wR.heap.size) (l := [.int .i64 0, .int .i64 0, .int .i64 2, .int .i64 2]) (by simp)).row 3 _ rfl); clear hb)
    | (go_at_call 14; (with_reducible refine (vr1_s _).mono ?_); rintro e w' ⟨rfl, hb⟩; replace HD := Lib.hid (HD.out.below hb); clear r0 r1 r2 r3; have r0 := ((HD.out.at (B := wR.heap.size) (l := [.int .i64 0, .int .i64 0, .int .i64 2, .int .i64 2]) (by simp)).row 0 _ rfl); have r1 := ((HD.out.at (B := wR.heap.size) (l := [.int .i64 0, .int .i64 0, .int .i64 2, .int .i64 2]) (by simp)).row 1 _ rfl); have r2 := ((HD.out.at (B := wR.heap.size) (l := [.int .i64 0, .int .i64 0, .int .i64 2, .int .i64 2]) (by simp)).row 2 _ rfl); have r3 := ((HD.out.at (B := wR.heap.size) (l := [.int .i64 0, .int .i64 0, .int .i64 2, .int .i64 2]) (by simp)).row 3 _ rfl); clear hb)
    | (go_at_call 14; (with_reducible refine (vr2_s _).mono ?_); rintro e w' ⟨rfl, hb⟩; replace HD := Lib.hid (HD.out.below hb); clear r0 r1 r2 r3; have r0 := ((HD.out.at (B := wR.heap.size) (l := [.int .i64 0, .int .i64 0, .int .i64 2, .int .i64 2]) (by simp)).row 0 _ rfl); have r1 := ((HD.out.at (B := wR.heap.size) (l := [.int .i64 0, .int .i64 0, .int .i64 2, .int .i64 2]) (by simp)).row 1 _ rfl); have r2 := ((HD.out.at (B := wR.heap.size) (l := [.int .i64 0, .int .i64 0, .int .i64 2, .int .i64 2]) (by simp)).row 2 _ rfl); have r3 := ((HD.out.at (B := wR.heap.size) (l := [.int .i64 0, .int .i64 0, .int .i64 2, .int .i64 2]) (by simp)).row 3 _ rfl); clear hb)
    | (go_at_call 16; (with_reducible refine (touch1_s _).mono ?_); rintro e w' ⟨rfl, hb⟩; replace HD := Lib.hid (HD.out.below hb); clear r0 r1 r2 r3; have r0 := ((HD.out.at (B := wR.heap.size) (l := [.int .i64 0, .int .i64 0, .int .i64 2, .int .i64 2]) (by simp)).row 0 _ rfl); have r1 := ((HD.out.at (B := wR.heap.size) (l := [.int .i64 0, .int .i64 0, .int .i64 2, .int .i64 2]) (by simp)).row 1 _ rfl); have r2 := ((HD.out.at (B := wR.heap.size) (l := [.int .i64 0, .int .i64 0, .int .i64 2, .int .i64 2]) (by simp)).row 2 _ rfl); have r3 := ((HD.out.at (B := wR.heap.size) (l := [.int .i64 0, .int .i64 0, .int .i64 2, .int .i64 2]) (by simp)).row 3 _ rfl); clear hb)
    | (go_at_call 16; (with_reducible refine (touch2_s _).mono ?_); rintro e w' ⟨rfl, hb⟩; replace HD := Lib.hid (HD.out.below hb); clear r0 r1 r2 r3; have r0 := ((HD.out.at (B := wR.heap.size) (l := [.int .i64 0, .int .i64 0, .int .i64 2, .int .i64 2]) (by simp)).row 0 _ rfl); have r1 := ((HD.out.at (B := wR.heap.size) (l := [.int .i64 0, .int .i64 0, .int .i64 2, .int .i64 2]) (by simp)).row 1 _ rfl); have r2 := ((HD.out.at (B := wR.heap.size) (l := [.int .i64 0, .int .i64 0, .int .i64 2, .int .i64 2]) (by simp)).row 2 _ rfl); have r3 := ((HD.out.at (B := wR.heap.size) (l := [.int .i64 0, .int .i64 0, .int .i64 2, .int .i64 2]) (by simp)).row 3 _ rfl); clear hb)
    | (go_at_call 18; (with_reducible refine (inside1_s _).mono ?_); rintro e w' ⟨rfl, hb⟩; replace HD := Lib.hid (HD.out.below hb); clear r0 r1 r2 r3; have r0 := ((HD.out.at (B := wR.heap.size) (l := [.int .i64 0, .int .i64 0, .int .i64 2, .int .i64 2]) (by simp)).row 0 _ rfl); have r1 := ((HD.out.at (B := wR.heap.size) (l := [.int .i64 0, .int .i64 0, .int .i64 2, .int .i64 2]) (by simp)).row 1 _ rfl); have r2 := ((HD.out.at (B := wR.heap.size) (l := [.int .i64 0, .int .i64 0, .int .i64 2, .int .i64 2]) (by simp)).row 2 _ rfl); have r3 := ((HD.out.at (B := wR.heap.size) (l := [.int .i64 0, .int .i64 0, .int .i64 2, .int .i64 2]) (by simp)).row 3 _ rfl); clear hb)
    | (go_at_call 18; (with_reducible refine (inside2_s _).mono ?_); rintro e w' ⟨rfl, hb⟩; replace HD := Lib.hid (HD.out.below hb); clear r0 r1 r2 r3; have r0 := ((HD.out.at (B := wR.heap.size) (l := [.int .i64 0, .int .i64 0, .int .i64 2, .int .i64 2]) (by simp)).row 0 _ rfl); have r1 := ((HD.out.at (B := wR.heap.size) (l := [.int .i64 0, .int .i64 0, .int .i64 2, .int .i64 2]) (by simp)).row 1 _ rfl); have r2 := ((HD.out.at (B := wR.heap.size) (l := [.int .i64 0, .int .i64 0, .int .i64 2, .int .i64 2]) (by simp)).row 2 _ rfl); have r3 := ((HD.out.at (B := wR.heap.size) (l := [.int .i64 0, .int .i64 0, .int .i64 2, .int .i64 2]) (by simp)).row 3 _ rfl); clear hb)
    | fail)
  clear r0 r1 r2 r3 C1 C2
  refine wp_region_qts (A := ?fr14) 34 192 4 [.int .i64 0, .int .i64 0, .int .i64 2, .int .i64 0, .int .i64 2, .int .i64 2, .int .i64 0, .int .i64 2] 26 hmx (by kernel_rfl) ?h ⟨_, rfl, rfl, ?wa, fun W => ?al⟩ ?ht
  case h =>
    intro U hU
    have hp := HD.out.below hU
    have x0 := cell_regrown ((hp.at (B := wA.heap.size) (l := [.string n1, .string d1]) (by simp)).row 0 _ rfl)
    have x1 := cell_regrown ((hp.at (B := wA.heap.size) (l := [.string n1, .string d1]) (by simp)).row 1 _ rfl)
    have x2 := cell_regrown ((hp.at (B := wB.heap.size) (l := [.string n2, .string d2]) (by simp)).row 0 _ rfl)
    have x3 := cell_regrown ((hp.at (B := wB.heap.size) (l := [.string n2, .string d2]) (by simp)).row 1 _ rfl)
    have x4 := cell_regrown ((hp.at (B := wC.heap.size) (l := [.string n3, .string d3]) (by simp)).row 0 _ rfl)
    have x5 := cell_regrown ((hp.at (B := wC.heap.size) (l := [.string n3, .string d3]) (by simp)).row 1 _ rfl)
    have x6 := cell_regrown ((hp.at (B := wD.heap.size) (l := [.string n4, .string d4]) (by simp)).row 0 _ rfl)
    have x7 := cell_regrown ((hp.at (B := wD.heap.size) (l := [.string n4, .string d4]) (by simp)).row 1 _ rfl)
    have c1 := fun d os => Calls.regrown_of (d := d) (os := os) (R1.out (grow (redrawn U d) os))
    have c2 := fun d os => Calls.regrown_of (d := d) (os := os) (R2.out (grow (redrawn U d) os))
    have c3 := fun d os => Calls.regrown_of (d := d) (os := os) (R3.out (grow (redrawn U d) os))
    have c4 := fun d os => Calls.regrown_of (d := d) (os := os) (R4.out (grow (redrawn U d) os))
    have ca := fun x y d os => Calls.regrown_of (d := d) (os := os) (at_s x y (grow (redrawn U d) os))
    clear hp
    simp only [List.take_succ_cons, List.take_zero]
    repeat (go_big_quiet_step (first | with_reducible exact c1 _ _ | with_reducible exact c2 _ _ | with_reducible exact c3 _ _ | with_reducible exact c4 _ _ | with_reducible exact ca _ _ _ _))
    refine wpQuiet_nil ?_
    rfl
  case wa => rfl
  case al => simp [go_sem]
  case ht =>
    intro B W hW hB cB
    have HG := Lib.hid (four_ps ((HD.out.below hW).at (B := g) (l := [.int .i64 0, .int .i64 0, .int .i64 2, .int .i64 0, .int .i64 2, .int .i64 2, .int .i64 0, .int .i64 2]) (by simp)))
    have HB := Lib.hid (four_ps cB)
    have HW := Lib.hid (HD.out.bw.trans (hW.mono HD.out.bw.size))
    clear hW cB HD R1 R2 R3 R4
    simp only [List.drop_succ_cons, List.drop_zero]
    go_wp2_with (first
      | (go_at_call 26; (with_reducible refine (same4_s HG.out HB.out).mono ?_); rintro e w' ⟨rfl, hb⟩; replace HW := Lib.hid (HW.out.trans (hb.mono HW.out.size)); clear hb)
      | (go_at_call 42; (with_reducible refine (at_s _ _ _).mono ?_); rintro e w' ⟨rfl, hb⟩; replace HW := Lib.hid (HW.out.trans (hb.mono HW.out.size)); clear hb)
      | (go_at_call 35; (with_reducible refine (vp1_s _).mono ?_); rintro e w' ⟨rfl, hb⟩; replace HW := Lib.hid (HW.out.trans (hb.mono HW.out.size)); clear hb)
      | (go_at_call 35; (with_reducible refine (vp2_s _).mono ?_); rintro e w' ⟨rfl, hb⟩; replace HW := Lib.hid (HW.out.trans (hb.mono HW.out.size)); clear hb)
      | fail)
    go_ret
    exact ⟨rfl, HW.out⟩
end Go.Proofs.YtgngepbemgbbeaaGreatDoor

