/-
  What the functions on fractions answer, as functions of texts. No code of the program is named here.
-/
import Derived.Test.YtgngepbemgbbeaaGreatDoorZOut
namespace Go.Proofs.YtgngepbemgbbeaaGreatDoor

def makeS (a b : ByteArray) : Option Rat := match numOf a, numOf b with | some p, some q => makeR p q | _, _ => none
def op2 (f : Rat → Rat → Option Rat) (n1 d1 n2 d2 : ByteArray) : Option Rat := match ratO n1 d1, ratO n2 d2 with | some a, some b => f a b | _, _ => none
def cmpS (n1 d1 n2 d2 : ByteArray) : Int := match ratO n1 d1, ratO n2 d2 with | some a, some b => cmpR a b | _, _ => 0
def gridS (f : Rat → Nat → Option Rat) (n d : ByteArray) (k : Int) : Option Rat := match ratO n d with | some a => if 0 ≤ k ∧ k ≤ 30 then f a k.toNat else none | none => none
def printS (n d : ByteArray) : ByteArray := match ratO n d with | some _ => if d.data.toList = [49] then n else n ++ ⟨#[47]⟩ ++ d | none => ⟨#[]⟩
theorem qN_none : qN none = ⟨#[]⟩ := rfl
theorem qD_none : qD none = ⟨#[]⟩ := rfl
theorem qE_none : qE none = 40 := rfl
theorem qN_some (r : Rat) : qN (some r) = str r.num := rfl
theorem qD_some (r : Rat) : qD (some r) = str (r.den : Int) := rfl
theorem qE_some (r : Rat) : qE (some r) = 0 := rfl
theorem makeS_some {a b : ByteArray} {p q : Int} (ha : numOf a = some p) (hb : numOf b = some q) : makeS a b = makeR p q := by unfold makeS; rw [ha, hb]
theorem makeS_none {a b : ByteArray} (h : numOf a = none ∨ numOf b = none) : makeS a b = none := by
  unfold makeS
  rcases h with h | h
  · rw [h]
  · cases numOf a <;> rw [h]
theorem op2_some {f : Rat → Rat → Option Rat} {n1 d1 n2 d2 : ByteArray} {a b : Rat} (ha : ratO n1 d1 = some a) (hb : ratO n2 d2 = some b) : op2 f n1 d1 n2 d2 = f a b := by unfold op2; rw [ha, hb]
theorem op2_none {f : Rat → Rat → Option Rat} {n1 d1 n2 d2 : ByteArray} (h : ratO n1 d1 = none ∨ ratO n2 d2 = none) : op2 f n1 d1 n2 d2 = none := by
  unfold op2
  rcases h with h | h
  · rw [h]
  · cases ratO n1 d1 <;> rw [h]
theorem cmpS_some {n1 d1 n2 d2 : ByteArray} {a b : Rat} (ha : ratO n1 d1 = some a) (hb : ratO n2 d2 = some b) : cmpS n1 d1 n2 d2 = cmpR a b := by unfold cmpS; rw [ha, hb]
theorem cmpS_none {n1 d1 n2 d2 : ByteArray} (h : ratO n1 d1 = none ∨ ratO n2 d2 = none) : cmpS n1 d1 n2 d2 = 0 := by
  unfold cmpS
  rcases h with h | h
  · rw [h]
  · cases ratO n1 d1 <;> rw [h]
theorem make_fits {p q : Int} {r : Rat} (hp : small p = true) (hq : small q = true) (h : makeR p q = some r) : fitsR r := by
  unfold makeR at h
  split at h
  · cases h
  · cases h
    exact fits_make hp hq (by assumption)
theorem add_fits {a b r : Rat} (h : addR a b = some r) : fitsR r := by
  rw [addR_make] at h
  split at h
  case isTrue hc => exact make_fits hc.2.2.1 hc.2.2.2 h
  case isFalse => cases h
theorem sub_fits {a b r : Rat} (h : subR a b = some r) : fitsR r := by
  rw [subR_make] at h
  split at h
  case isTrue hc => exact make_fits hc.2.2.1 hc.2.2.2 h
  case isFalse => cases h
theorem mul_fits {a b r : Rat} (h : mulR a b = some r) : fitsR r := by
  rw [mulR_make] at h
  split at h
  case isTrue hc => exact make_fits hc.1 hc.2 h
  case isFalse => cases h
theorem div_fits {a b r : Rat} (h : divR a b = some r) : fitsR r := by
  rw [divR_make] at h
  split at h
  case isTrue hc => exact make_fits hc.1 hc.2 h
  case isFalse => cases h
end Go.Proofs.YtgngepbemgbbeaaGreatDoor

