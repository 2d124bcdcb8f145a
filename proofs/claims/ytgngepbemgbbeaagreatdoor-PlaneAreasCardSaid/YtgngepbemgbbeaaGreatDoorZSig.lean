/-
  signed.plus over signed numbers that stand for integers.
-/
import Derived.Test.YtgngepbemgbbeaaGreatDoorZSum
import Derived.Test.YtgngepbemgbbeaaGreatDoorZParse
namespace Go.Proofs.YtgngepbemgbbeaaGreatDoor
open Go.RowKit Go.Shelf

theorem signed_plus (v1 v2 : Value) (x y : Int) (lo1 hi1 lo2 hi2 : Nat) (w : World) (h1 : Zg w v1 x lo1 hi1) (h2 : Zg w v2 y lo2 hi2) (b1 : hi1 ≤ w.heap.size) (b2 : hi2 ≤ w.heap.size) (l1 : Few x.natAbs) (l2 : Few y.natAbs) :
    Calls Tryz.prog 128 #[v1, v2] w fun e w' => (∃ v, e = .returned v ∧ Zg w' v (x + y) w.heap.size w'.heap.size) ∧ Below w.heap.size w w' := by
  obtain ⟨neg, n, a1, c1, rfl, hn, rfl⟩ := h1.form
  obtain ⟨ng, m, a2, c2, rfl, hm, rfl⟩ := h2.form
  have e1 : (if neg = true then -(n : Int) else n).natAbs = n := by split <;> omega
  have e2 : (if ng = true then -(m : Int) else m).natAbs = m := by split <;> omega
  rw [e1] at l1
  rw [e2] at l2
  by_cases hne : neg = ng
  · subst hne
    refine (sum_same neg a1 a2 c1 c2 n m lo1 hi1 lo2 hi2 w hn hm b1 b2 l1 l2).mono ?_
    rintro e w' ⟨⟨s, rfl, hs⟩, hb⟩
    refine ⟨⟨_, rfl, neg, n + m, s, rfl, hs, ?_⟩, hb⟩
    cases neg <;> simp <;> omega
  · refine (sum_ne neg ng (by cases neg <;> cases ng <;> simp_all) a1 a2 c1 c2 n m lo1 hi1 lo2 hi2 w hn hm b1 b2 l1 l2).mono ?_
    rintro e w' ⟨⟨s, ⟨hle, rfl, hs⟩ | ⟨hle, rfl, hs⟩⟩, hb⟩
    · refine ⟨⟨_, rfl, neg, n - m, s, rfl, hs, ?_⟩, hb⟩
      cases neg <;> cases ng <;> simp_all <;> omega
    · refine ⟨⟨_, rfl, ng, m - n, s, rfl, hs, ?_⟩, hb⟩
      cases neg <;> cases ng <;> simp_all <;> omega
end Go.Proofs.YtgngepbemgbbeaaGreatDoor

