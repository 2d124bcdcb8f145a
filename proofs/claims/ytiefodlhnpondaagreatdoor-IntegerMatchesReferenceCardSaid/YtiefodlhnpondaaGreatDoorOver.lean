/-
  The walk of the division of two numbers of groups, and of sort.Search.
-/
import Derived.Test.YtiefodlhnpondaaGreatDoorTimes
import Derived.Deep.RegionWith
namespace Go.Proofs.YtiefodlhnpondaaGreatDoor
open Go.RowKit Go.Shelf

set_option maxRecDepth 100000 in
set_option maxHeartbeats 1000000 in
theorem search_any (K : Nat) (caps : Array Value) (p : Nat → Bool) (n : Nat) (w : World)
    (hent : ∀ (args : Array Value) (w : World), (callFunc K args).run Tryz.prog w = .ok (.enter K args) w)
    (hK : ∀ (i : Nat) (w' : World), i < n → Below w.heap.size w w' → Calls Tryz.prog K (#[.int .i64 i] ++ caps) w' fun e w'' => e = .returned (.bool (p i)) ∧ Below w'.heap.size w' w'')
    (hmono : ∀ a b, a ≤ b → p a = true → p b = true) (hn : n ≤ 1000000) :
    Calls Tryz.prog 67 #[.int .i64 n, .func (.func K) #[] caps] w fun e w' => (∃ r : Nat, e = .returned (.int .i64 r) ∧ r ≤ n ∧ (∀ i, i < r → p i = false) ∧ (∀ i, r ≤ i → i < n → p i = true)) ∧ Below w.heap.size w w' := by
  have HK := Lib.hid hK
  have HM := Lib.hid hmono
  clear hK hmono
  go_enter Tryz.func67, Tryz.ntmps67
  go_wp2
  go_loopw [5, 6] (fun i j wr => ∃ (lo hi : Nat), i = .int .i64 lo ∧ j = .int .i64 hi ∧ lo ≤ hi ∧ hi ≤ n ∧ Hid ((∀ t, t < lo → p t = false) ∧ (∀ t, hi ≤ t → t < n → p t = true)) ∧ Below w.heap.size w wr)
    (fun i j _ => (intOf j - intOf i).toNat)
  case atStart => exact ⟨0, n, rfl, rfl, Nat.zero_le _, Nat.le_refl _, Lib.hid ⟨fun t ht => by omega, fun t h1 h2 => by omega⟩, Below.refl _ _⟩
  case round =>
    obtain ⟨lo, hi, rfl, rfl, hlh, hin, I, hB⟩ := hrel
    by_cases hlt : lo < hi
    · have hc := HK.out ((lo + hi) / 2) wr (by omega) hB
      rw [show (((lo + hi) / 2 : Nat) : Int) = ((lo : Int) + (hi : Int)) / 2 by omega] at hc
      have HC := Lib.hid hc
      clear hc
      cases hp : p ((lo + hi) / 2)
      · rw [hp] at HC
        have HP := Lib.hid hp
        clear hp
        go_wp2_with ((with_reducible refine HC.out.mono ?_); rintro e w2 ⟨rfl, hb2⟩)
        have hI := I.out
        exact ⟨⟨(lo + hi) / 2 + 1, hi, by go_num, rfl, by omega, hin, Lib.hid ⟨fun t ht => Bool.eq_false_iff.2 fun e => (by have := HM.out t ((lo + hi) / 2) (by omega) e; rw [HP.out] at this; cases this), hI.2⟩, hB.trans (hb2.mono hB.size)⟩, by simp only [intOf]; omega⟩
      · rw [hp] at HC
        have HP := Lib.hid hp
        clear hp
        go_wp2_with ((with_reducible refine HC.out.mono ?_); rintro e w2 ⟨rfl, hb2⟩)
        have hI := I.out
        exact ⟨⟨lo, (lo + hi) / 2, rfl, by go_num, by omega, by omega, Lib.hid ⟨hI.1, fun t h1 h2 => HM.out _ t h1 HP.out⟩, hB.trans (hb2.mono hB.size)⟩, by simp only [intOf]; omega⟩
    · obtain rfl : lo = hi := by omega
      go_wp2
      go_ret
      exact ⟨⟨lo, rfl, hin, I.out.1, I.out.2⟩, hB⟩

theorem cmpI_pos (a b : Int) : 0 < cmpI a b ↔ b < a := by
  unfold cmpI
  by_cases h1 : a < b
  · rw [if_pos h1]; omega
  · rw [if_neg h1]
    by_cases h2 : b < a
    · rw [if_pos h2]; omega
    · rw [if_neg h2]; omega

set_option maxRecDepth 100000 in
set_option maxHeartbeats 1000000 in
/-- The test of the search for a group of the quotient: is the divisor, times one more, too much? -/
theorem tooMuch_any (d bb br : Nat) (vm vr : Value) (m R lom him lor hir : Nat) (w : World) (hd : d < 9999) (hcb : w.cell? ⟨bb, 0, none⟩ = some (.func (.func 64) #[vm] #[])) (hcr : w.cell? ⟨br, 0, none⟩ = some vr)
    (hm : Nm w vm m lom him) (hr : Nm w vr R lor hir) (bm : him ≤ w.heap.size) (b2 : hir ≤ w.heap.size) (fm : Few m) :
    Calls Tryz.prog 66 #[.int .i64 d, .pointer (some ⟨bb, 0, none⟩), .pointer (some ⟨br, 0, none⟩)] w fun e w' => e = .returned (.bool (decide (R < m * (d + 1)))) ∧ Below w.heap.size w w' := by
  have HM := Lib.hid hm
  have HR := Lib.hid hr
  clear hm hr
  obtain ⟨d1, hd1⟩ : ∃ d1, d1 = d + 1 := ⟨_, rfl⟩
  have hd2 : (d : Int) + 1 = (d1 : Int) := by omega
  have HD := Lib.hid hd1
  have hd3 : d1 ≤ 9999 := by omega
  have hwr : IntKind.i64.wrap (d1 : Int) = d1 := IntWalk.i64_in _ (by omega)
  clear hd1
  go_enter Tryz.func66, Tryz.ntmps66
  go_wp2_with fail
  go_region_with (first
    | (go_at_call 64; refine (by_any vm m d1 lom him _ (by exact HM.out.keep (fun _ _ _ => rfl)) (by exact bm) fm hd3).mono ?_; rintro e w2 ⟨⟨vB, rfl, hvB⟩, hb2⟩; have HVB := Lib.hid hvB; clear hvB; have hB2 : Below w.heap.size w w2 := (by first | exact hb2 | exact ((Below.refl _ w).drew).trans hb2); clear hb2; have hcr2 := cell_later hB2 hcr)
    | (go_at_call 46; refine (compare_any _ _ (m * d1) R _ _ _ _ _ (by exact HVB.out) (by exact HR.out.below hB2 b2) (by exact Nat.le_refl _) (by exact Nat.le_trans b2 hB2.size)).mono ?_; rintro e w3 ⟨rfl, hb3⟩))
  all_goals go_wp2
  all_goals
    go_ret
    refine ⟨ret_bool ?_, hB2.trans (hb3.mono hB2.size)⟩
    have hc := cmpI_pos ((m : Int) * (d1 : Int)) R
    rw [decide_eq_decide, ← HD.out, hc, ← Int.natCast_mul]
    omega
end Go.Proofs.YtiefodlhnpondaaGreatDoor
