/-
  The law IntegerOrder: Compare is the order of the integers.
  The law IntegerDivided: quotient and remainder.
-/
import Derived.Test.YtkekafamfoifmaaGreatDoorZAt
namespace Go.Proofs.YtkekafamfoifmaaGreatDoor
open Go.RowKit Go.Shelf
attribute [local go_sem] Oper.semAt_some

theorem cmpI_lt {a b : Int} (h : a < b) : cmpI a b = -1 := by unfold cmpI; rw [if_pos h]
theorem cmpI_eq {a b : Int} (h : a = b) : cmpI a b = 0 := by unfold cmpI; rw [if_neg (by omega), if_neg (by omega)]
theorem cmpI_gt {a b : Int} (h : b < a) : cmpI a b = 1 := by unfold cmpI; rw [if_neg (by omega), if_pos h]
theorem Compare_v {w : World} {x y k : Int} {sx sy : ByteArray} (hx : small x = true) (hy : small y = true) (ex : sx = str x) (ey : sy = str y) (hk : cmpI x y = k) (W : World) (hb : Below w.heap.size w W) :
    Calls Tryz.prog 50 #[.string sx, .string sy] W fun e W' => e = .returned (.int .i64 k) ∧ Below w.heap.size w W' := by
  subst hk
  exact Compare_s hx hy ex ey W hb

end Go.Proofs.YtkekafamfoifmaaGreatDoor

namespace Go.Proofs.YtkekafamfoifmaaGreatDoor
open Go.RowKit Go.Shelf
attribute [local go_sem] Oper.semAt_some

theorem str0 : (⟨#[48]⟩ : ByteArray) = str 0 := by decide +kernel
theorem not_zero {y : Int} {sy : ByteArray} (ey : sy = str y) (h : y ≠ 0) : ¬ sy.toList = [48] := fun hh => str_list_ne ey str0 h (hh.trans (by rw [Lib.toList_data]))
theorem valid_str {z : Int} {s : ByteArray} (h : small z = true) (e : s = str z) : validL s.data.toList = true := by
  rw [e, str_list, validL_txt]
  exact h
theorem cmp_nonneg {a : Int} (h : 0 ≤ a) : ∃ k, cmpI a 0 = k ∧ 0 ≤ k := by
  refine ⟨_, rfl, ?_⟩
  unfold cmpI
  rw [if_neg (by omega)]
  split <;> omega

end Go.Proofs.YtkekafamfoifmaaGreatDoor

