/-
  An index below n that an integer determines: the law's and the reference's pick.
-/
import Derived.Test.YtkekafamfoifmaaGreatDoorZNum
namespace Go.Proofs.YtkekafamfoifmaaGreatDoor
open Go.RowKit Go.Shelf
attribute [local go_sem] Oper.semAt_some

def pickN (c : Int) (n : Nat) : Nat := (if c < 0 then (-(c + 1)).toNat else c.toNat) % n
theorem pickN_lt (c : Int) {n : Nat} (h : 0 < n) : pickN c n < n := Nat.mod_lt _ h
theorem pick_val {x : Int} (k : Nat) (h : 0 ≤ x) : x.tmod (k : Int) = ((x.toNat % k : Nat) : Int) := by
  rw [Int.tmod_eq_emod_of_nonneg h, Int.natCast_emod, Int.toNat_of_nonneg h]

set_option maxHeartbeats 4000000 in
theorem pick_l (c : Int) (k : Nat) (h0 : -9223372036854775808 ≤ c) (h1 : c ≤ 9223372036854775807) (hk : 0 < k) (hk2 : k ≤ 4294967296) (w : World) :
    Calls Tryz.prog 18 #[.int .i64 c, .int .i64 (k : Int)] w fun e w' => e = .returned (.int .i64 (pickN c k : Nat)) ∧ w = w' := by
  unfold pickN
  have hk0 : ¬ (k : Int) = 0 := by omega
  by_cases hc : c < 0
  · rw [if_pos hc, ← pick_val k (x := -(c + 1)) (by omega)]
    go_enter Tryz.func18, Tryz.ntmps18
    go_wp2
    go_ret
    exact ⟨ret_int (by rw [Int.neg_tmod]), rfl⟩
  · rw [if_neg hc, ← pick_val k (x := c) (by omega)]
    go_enter Tryz.func18, Tryz.ntmps18
    go_wp2
    go_ret
    exact ⟨ret_int (Int.tmod_eq_emod_of_nonneg (by omega)).symm, rfl⟩
set_option maxHeartbeats 4000000 in
theorem pick_f (c : Int) (k : Nat) (h0 : -9223372036854775808 ≤ c) (h1 : c ≤ 9223372036854775807) (hk : 0 < k) (hk2 : k ≤ 4294967296) (w : World) :
    Calls Tryz.prog 46 #[.int .i64 c, .int .i64 (k : Int)] w fun e w' => e = .returned (.int .i64 (pickN c k : Nat)) ∧ w = w' := by
  unfold pickN
  have hk0 : ¬ (k : Int) = 0 := by omega
  by_cases hc : c < 0
  · rw [if_pos hc, ← pick_val k (x := -(c + 1)) (by omega)]
    go_enter Tryz.func46, Tryz.ntmps46
    go_wp2
    go_ret
    exact ⟨ret_int (by rw [Int.neg_tmod]), rfl⟩
  · rw [if_neg hc, ← pick_val k (x := c) (by omega)]
    go_enter Tryz.func46, Tryz.ntmps46
    go_wp2
    go_ret
    exact ⟨ret_int (Int.tmod_eq_emod_of_nonneg (by omega)).symm, rfl⟩
end Go.Proofs.YtkekafamfoifmaaGreatDoor

