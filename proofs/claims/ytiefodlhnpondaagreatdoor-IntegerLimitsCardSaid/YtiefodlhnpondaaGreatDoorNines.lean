/-
  The law's own nines and pick.
-/
import Derived.Test.YtiefodlhnpondaaGreatDoorAt
namespace Go.Proofs.YtiefodlhnpondaaGreatDoor
open Go.RowKit Go.Shelf
attribute [local go_sem] Oper.semAt_some

set_option maxHeartbeats 4000000 in
theorem nines_any (k : Nat) (hk : k ≤ 1000) (w : World) :
    Calls Tryz.prog 22 #[.int .i64 (k : Int)] w fun e w' => (∃ s : ByteArray, e = .returned (.string s) ∧ s.data.toList = List.replicate k 57) ∧ w = w' := by
  go_enter Tryz.func22, Tryz.ntmps22
  go_wp2
  go_loop [3, 4] (fun s i => ∃ (j : Nat) (t : ByteArray), j ≤ k ∧ i = .int .i64 j ∧ s = .string t ∧ t.size = j ∧ t.data.toList = List.replicate j 57) (fun _ i => k - (intOf i).toNat)
  case atStart => exact ⟨0, ⟨#[]⟩, Nat.zero_le _, rfl, rfl, rfl, rfl⟩
  case round =>
    obtain ⟨j, t, hj, rfl, rfl, hts, ht⟩ := hrel
    have HT := Lib.hid ht
    clear ht
    by_cases hlt : j < k
    · go_wp2
      refine ⟨⟨j + 1, _, by omega, by go_num, rfl, ?_, ?_⟩, by simp only [intOf]; omega⟩
      · rw [ba_size, ba_append, HT.out]; simp
      · rw [ba_append, HT.out, List.replicate_succ']
    · go_wp2
      go_ret
      obtain rfl : j = k := by omega
      exact ⟨⟨t, rfl, HT.out⟩, rfl⟩

/-- An index below n that an integer determines. -/
def pickN (c : Int) (n : Nat) : Nat := (if c < 0 then (-(c + 1)).toNat else c.toNat) % n
set_option maxHeartbeats 4000000 in
theorem pick_any (c : Int) (h0 : -9223372036854775808 ≤ c) (h1 : c ≤ 9223372036854775807) (w : World) :
    Calls Tryz.prog 23 #[.int .i64 c, .int .i64 200] w fun e w' => e = .returned (.int .i64 (pickN c 200 : Nat)) ∧ w = w' := by
  unfold pickN
  by_cases hc : c < 0
  · go_enter Tryz.func23, Tryz.ntmps23
    go_wp2
    go_ret
    refine ⟨ret_int ?_, rfl⟩
    rw [← Int.neg_tmod, Int.tmod_eq_emod_of_nonneg (by omega)]
    omega
  · go_enter Tryz.func23, Tryz.ntmps23
    go_wp2
    go_ret
    refine ⟨ret_int ?_, rfl⟩
    omega
end Go.Proofs.YtiefodlhnpondaaGreatDoor
