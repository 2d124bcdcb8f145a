/-
  Plain facts for RationalField: what the operations on fractions that may be there have to do with each other. No code of the program is named here.
-/
import Derived.Test.YtkekafamfoifmaaGreatDoorZLimQP
namespace Go.Proofs.YtkekafamfoifmaaGreatDoor

theorem qE_two' (o : Option Rat) : qE o = 0 ∨ qE o = 40 := by cases o; exact .inr rfl; exact .inl rfl
theorem qE_zero' {o : Option Rat} (h : qE o = 0) : ∃ r, o = some r := by
  cases o with
  | none => exact absurd h (by decide)
  | some r => exact ⟨r, rfl⟩
theorem lift2_some {f : Rat → Rat → Option Rat} {x y : Option Rat} {r : Rat} (h : lift2 f x y = some r) : ∃ a b, x = some a ∧ y = some b ∧ f a b = some r := by
  cases x with
  | none => cases h
  | some a =>
    cases y with
    | none => cases h
    | some b => exact ⟨a, b, rfl, rfl, h⟩
/-- Sums do not depend on the order of adding. -/
theorem fld_assoc {a b c : Rat} {ab bc l r : Rat} (h1 : addR a b = some ab) (h2 : addR b c = some bc) (h3 : addR ab c = some l) (h4 : addR a bc = some r) : l = r := by
  rw [addR_val h3, addR_val h4, addR_val h1, addR_val h2, Rat.add_assoc]
theorem fld_massoc {a b c : Rat} {ab bc l r : Rat} (h1 : mulR a b = some ab) (h2 : mulR b c = some bc) (h3 : mulR ab c = some l) (h4 : mulR a bc = some r) : r = l := by
  rw [mulR_val h3, mulR_val h4, mulR_val h1, mulR_val h2, Rat.mul_assoc]
theorem fld_dist {a b c : Rat} {ab ac bc s h : Rat} (h1 : addR a b = some ab) (h2 : mulR a c = some ac) (h3 : mulR b c = some bc) (h4 : addR ac bc = some s) (h5 : mulR ab c = some h) : s = h := by
  rw [addR_val h4, mulR_val h5, addR_val h1, mulR_val h2, mulR_val h3, Rat.add_mul]
theorem fld_back {a b ab k : Rat} (h1 : addR a b = some ab) (h2 : subR ab b = some k) : k = a := by
  rw [subR_val h2, addR_val h1, Rat.add_sub_cancel]
theorem fld_again {a b q g : Rat} (h1 : divR a b = some q) (h2 : mulR q b = some g) : g = a := by
  obtain ⟨e, hb⟩ := divR_val h1
  rw [mulR_val h2, e, Rat.div_mul_cancel hb]
end Go.Proofs.YtkekafamfoifmaaGreatDoor

