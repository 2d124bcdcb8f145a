/-
  The reference implementation's ToInt.
-/
import Derived.Test.YtgngepbemgbbeaaGreatDoorZRDv
import Derived.Test.YtgngepbemgbbeaaGreatDoorZParse
namespace Go.Proofs.YtgngepbemgbbeaaGreatDoor
open Go.RowKit Go.Shelf
attribute [local go_sem] Oper.semAt_some

theorem valB_take_le (T : List UInt8) (k : Nat) : valB (T.take k) ≤ valB T := by
  have h := congrArg valB (List.take_append_drop k T)
  rw [valB_append] at h
  have hp : 0 < 10 ^ (T.drop k).length := Nat.pow_pos (by decide)
  have := Nat.le_mul_of_pos_right (valB (T.take k)) hp
  omega
theorem valB_take_snoc {T : List UInt8} {k : Nat} {c : UInt8} (hc : T[k]? = some c) : valB (T.take (k + 1)) = valB (T.take k) * 10 + (c.toNat - 48) := by
  rw [List.take_add_one, hc]
  show valB (T.take k ++ [c]) = _
  rw [valB_append, valB_one]
  rfl
theorem rcmp_v {a b : ByteArray} {x y k : Int} (ea : a = str x) (eb : b = str y) (hx : small x = true) (hy : small y = true) (hk : cmpI x y = k) (w : World) :
    Calls Tryz.prog 106 #[.string a, .string b] w fun e w' => e = .returned (.int .i64 k) ∧ Below w.heap.size w w' := by
  subst hk
  exact rCompare_ok a b x y w ea eb hx hy
theorem cmp_ge {x y : Int} (h : y ≤ x) : ∃ k, cmpI x y = k ∧ 0 ≤ k := ⟨_, rfl, by unfold cmpI; rw [if_neg (by omega)]; split <;> omega⟩
theorem cmp_le {x y : Int} (h : x ≤ y) : ∃ k, cmpI x y = k ∧ k ≤ 0 := ⟨_, rfl, by unfold cmpI; split; omega; rw [if_neg (by omega)]; omega⟩
theorem minS : (⟨#[45, 57, 50, 50, 51, 51, 55, 50, 48, 51, 54, 56, 53, 52, 55, 55, 53, 56, 48, 56]⟩ : ByteArray) = str (-9223372036854775808) := by decide +kernel
theorem maxS : (⟨#[57, 50, 50, 51, 51, 55, 50, 48, 51, 54, 56, 53, 52, 55, 55, 53, 56, 48, 55]⟩ : ByteArray) = str 9223372036854775807 := by decide +kernel
theorem minSm : small (-9223372036854775808) = true := by decide +kernel
theorem maxSm : small 9223372036854775807 = true := by decide +kernel

end Go.Proofs.YtgngepbemgbbeaaGreatDoor

