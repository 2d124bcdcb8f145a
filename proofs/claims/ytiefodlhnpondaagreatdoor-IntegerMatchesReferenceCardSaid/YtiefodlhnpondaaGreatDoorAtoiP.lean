/-
  Plain facts: strconv.Atoi at the text of an integer gives the integer, if an int holds it. No code of the program is named here.
-/
import Derived.Test.YtiefodlhnpondaaGreatDoorParse
import Derived.Test.YtiefodlhnpondaaGreatDoorBoth
import Derived.Lib.AtoiAllCases
namespace Go.Proofs.YtiefodlhnpondaaGreatDoor

theorem parseUint10_digits : ∀ (l : List UInt8) (acc : Nat), (∀ c ∈ l, 48 ≤ c.toNat ∧ c.toNat ≤ 57) → acc < 18446744073709551616 →
    Lib.parseUint10 acc l = if acc * 10 ^ l.length + valB l < 18446744073709551616 then .ok (acc * 10 ^ l.length + valB l) else .range
  | [], acc, _, ha => by
    have e : valB [] = 0 := rfl
    rw [e, List.length_nil, Nat.pow_zero, Nat.mul_one, Nat.add_zero, if_pos ha]
    rfl
  | c :: r, acc, h, ha => by
    have hc := h c (by simp)
    have hp : 0 < 10 ^ r.length := Nat.pow_pos (by decide)
    have e : acc * 10 ^ (c :: r).length + valB (c :: r) = (acc * 10 + (c.toNat - 48)) * 10 ^ r.length + valB r := by
      rw [valB_cons, List.length_cons, Nat.pow_succ, Nat.add_mul, Nat.mul_assoc, Nat.mul_comm 10 (10 ^ r.length)]
      omega
    have key : ∀ m : Nat, 18446744073709551616 ≤ m → m ≤ acc * 10 + (c.toNat - 48) → ¬ (acc * 10 + (c.toNat - 48)) * 10 ^ r.length + valB r < 18446744073709551616 := by
      intro m h1 h2 h3
      have := Nat.le_mul_of_pos_right (acc * 10 + (c.toNat - 48)) hp
      omega
    rw [e]
    simp only [Lib.parseUint10]
    rw [if_pos hc]
    by_cases h1 : 1844674407370955162 ≤ acc
    · rw [if_pos h1, if_neg (key _ (by omega) (Nat.le_refl _))]
    · rw [if_neg h1]
      by_cases h2 : 18446744073709551616 ≤ acc * 10 + (c.toNat - 48)
      · rw [if_pos h2, if_neg (key _ h2 (Nat.le_refl _))]
      · rw [if_neg h2]
        exact parseUint10_digits r _ (fun c hm => h c (by simp [hm])) (by omega)
theorem parseMag_txtN (n : Nat) : Lib.parseMag (txtN n) = if n < 18446744073709551616 then .ok n else .range := by
  unfold Lib.parseMag
  rw [if_neg (txtN_ne n), parseUint10_digits _ _ (txtN_digits n) (by omega), valB_txtN, Nat.zero_mul, Nat.zero_add]

/-- Does an int hold an integer? -/
def inInt (z : Int) : Bool := decide (-9223372036854775808 ≤ z ∧ z ≤ 9223372036854775807)
theorem inInt_iff {z : Int} : inInt z = true ↔ -9223372036854775808 ≤ z ∧ z ≤ 9223372036854775807 := by unfold inInt; exact decide_eq_true_iff
theorem atoiAll_txt (z : Int) : Lib.atoiAll (txt z) = if inInt z = true then .ok z else .range := by
  unfold txt
  by_cases hz : z < 0
  · rw [if_pos hz, Lib.atoiAll_minus, parseMag_txtN]
    by_cases h1 : z.natAbs < 18446744073709551616
    · rw [if_pos h1]
      simp only [Lib.signed]
      by_cases h2 : 9223372036854775808 < z.natAbs
      · rw [if_pos h2, if_neg (by rw [inInt_iff]; omega)]
      · rw [if_neg h2, if_pos (by rw [inInt_iff]; omega)]
        congr 1
        omega
    · rw [if_neg h1, if_neg (by rw [inInt_iff]; omega)]
      rfl
  · rw [if_neg hz]
    have hd := txtN_digits z.natAbs
    have hm := parseMag_txtN z.natAbs
    have hne := txtN_ne z.natAbs
    cases hl : txtN z.natAbs with
    | nil => exact absurd hl hne
    | cons c r =>
      rw [hl] at hd hm
      have hc := hd c (by simp)
      rw [Lib.atoiAll_plain c r (by omega) (by omega), hm]
      by_cases h1 : z.natAbs < 18446744073709551616
      · rw [if_pos h1]
        simp only [Lib.signless]
        by_cases h2 : 9223372036854775808 ≤ z.natAbs
        · rw [if_pos h2, if_neg (by rw [inInt_iff]; omega)]
        · rw [if_neg h2, if_pos (by rw [inInt_iff]; omega)]
          congr 1
          omega
      · rw [if_neg h1, if_neg (by rw [inInt_iff]; omega)]
        rfl
end Go.Proofs.YtiefodlhnpondaaGreatDoor
