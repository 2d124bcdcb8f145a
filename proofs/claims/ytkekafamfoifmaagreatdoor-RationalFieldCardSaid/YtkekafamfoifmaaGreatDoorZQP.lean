/-
  Plain facts on fractions as pairs of texts, by the core library's rational numbers. No code of the program is named here.
  What the operations on integers answer, as functions of texts. No code of the program is named here.
-/
import Derived.Test.YtkekafamfoifmaaGreatDoorZBack
import Derived.Test.YtkekafamfoifmaaGreatDoorZOut
namespace Go.Proofs.YtkekafamfoifmaaGreatDoor

/-- The fraction that two texts are, if they are one in lowest terms. -/
def ratO (n d : ByteArray) : Option Rat := match numOf n, numOf d with | some p, some q => if 0 < q ∧ Nat.gcd p.natAbs q.natAbs = 1 then some (Rat.divInt p q) else none | _, _ => none
theorem num_pos {p q : Int} (hq : 0 < q) : (Rat.divInt p q).num = p / ((Nat.gcd p.natAbs q.natAbs : Nat) : Int) := by
  rw [Rat.num_divInt, Int.sign_eq_one_of_pos hq, Int.one_mul, Int.gcd_comm]
  rfl
theorem den_pos {p q : Int} (hq : 0 < q) : ((Rat.divInt p q).den : Int) = q / ((Nat.gcd p.natAbs q.natAbs : Nat) : Int) := by
  rw [Rat.den_divInt, if_neg (by omega), Int.natCast_ediv, Int.gcd_comm]
  congr 1
  omega
theorem num_neg {p q : Int} (hq : q < 0) : (Rat.divInt p q).num = -p / ((Nat.gcd (-p).natAbs (-q).natAbs : Nat) : Int) := by
  rw [← Rat.neg_divInt_neg]
  exact num_pos (by omega)
theorem den_neg {p q : Int} (hq : q < 0) : ((Rat.divInt p q).den : Int) = -q / ((Nat.gcd (-p).natAbs (-q).natAbs : Nat) : Int) := by
  rw [← Rat.neg_divInt_neg]
  exact den_pos (by omega)
/-- Both integers of a fraction are small enough. -/
def fitsR (r : Rat) : Prop := small r.num = true ∧ small (r.den : Int) = true
theorem low_num {p q : Int} (hq : 0 < q) (hg : Nat.gcd p.natAbs q.natAbs = 1) : (Rat.divInt p q).num = p ∧ ((Rat.divInt p q).den : Int) = q := by
  rw [num_pos hq, den_pos hq, hg]
  exact ⟨Int.ediv_one p, Int.ediv_one q⟩
theorem ratO_some {n d : ByteArray} {r : Rat} (h : ratO n d = some r) : n = str r.num ∧ d = str (r.den : Int) ∧ fitsR r := by
  unfold ratO at h
  cases h1 : numOf n with
  | none => rw [h1] at h; cases h
  | some p =>
    cases h2 : numOf d with
    | none => rw [h1, h2] at h; cases h
    | some q =>
      rw [h1, h2] at h
      obtain ⟨e1, s1⟩ := numOf_some h1
      obtain ⟨e2, s2⟩ := numOf_some h2
      simp only at h
      split at h
      case isTrue hc =>
        cases h
        obtain ⟨k1, k2⟩ := low_num hc.1 hc.2
        unfold fitsR
        rw [k1, k2]
        exact ⟨e1, e2, s1, s2⟩
      case isFalse => cases h
theorem rat_low (r : Rat) : Nat.gcd r.num.natAbs (r.den : Int).natAbs = 1 := by
  rw [Int.natAbs_natCast]
  exact r.reduced
theorem rat_dpos (r : Rat) : 0 < (r.den : Int) := by
  have := r.den_nz
  omega
theorem ratO_str {r : Rat} (h : fitsR r) : ratO (str r.num) (str (r.den : Int)) = some r := by
  unfold ratO
  rw [numOf_str, numOf_str, if_pos h.1, if_pos h.2]
  show (if _ then _ else _) = _
  rw [if_pos ⟨rat_dpos r, rat_low r⟩, Rat.num_divInt_den]

/-- What an operation answers: the two texts, and the error's number. -/
def qN (o : Option Rat) : ByteArray := match o with | some r => str r.num | none => ⟨#[]⟩
def qD (o : Option Rat) : ByteArray := match o with | some r => str (r.den : Int) | none => ⟨#[]⟩
def qE (o : Option Rat) : Int := match o with | some _ => 0 | none => 40
theorem gcd_pos {p q : Int} (hq : q ≠ 0) : 0 < Nat.gcd p.natAbs q.natAbs := Nat.gcd_pos_of_pos_right _ (by omega)
theorem gcd_le_q {p q : Int} (hq : q ≠ 0) : Nat.gcd p.natAbs q.natAbs ≤ q.natAbs := Nat.gcd_le_right _ (by omega)
/-- A fraction of two integers. -/
def makeR (p q : Int) : Option Rat := if q = 0 then none else some (Rat.divInt p q)
theorem fits_make {p q : Int} (hp : small p = true) (hq : small q = true) (h0 : q ≠ 0) : fitsR (Rat.divInt p q) := by
  rcases Int.lt_or_gt_of_ne h0 with h | h
  · unfold fitsR
    rw [num_neg h, den_neg h]
    exact ⟨small_div _ (small_neg hp), small_div _ (small_neg hq)⟩
  · unfold fitsR
    rw [num_pos h, den_pos h]
    exact ⟨small_div _ hp, small_div _ hq⟩

theorem add_eq (a b : Rat) : a + b = Rat.divInt (a.num * b.den + b.num * a.den) (a.den * b.den) := by
  have h := Rat.divInt_add_divInt a.num b.num (d₁ := a.den) (d₂ := b.den) (by have := rat_dpos a; omega) (by have := rat_dpos b; omega)
  rwa [Rat.num_divInt_den, Rat.num_divInt_den] at h
theorem sub_eq (a b : Rat) : a - b = Rat.divInt (a.num * b.den - b.num * a.den) (a.den * b.den) := by
  have h := Rat.divInt_sub_divInt a.num b.num (d₁ := a.den) (d₂ := b.den) (by have := rat_dpos a; omega) (by have := rat_dpos b; omega)
  rwa [Rat.num_divInt_den, Rat.num_divInt_den] at h
theorem mul_eq (a b : Rat) : a * b = Rat.divInt (a.num * b.num) (a.den * b.den) := by
  have h := Rat.divInt_mul_divInt a.num b.num (d₁ := a.den) (d₂ := b.den)
  rwa [Rat.num_divInt_den, Rat.num_divInt_den] at h
theorem div_eq (a b : Rat) : a / b = Rat.divInt (a.num * b.den) (a.den * b.num) := by
  have h := Rat.divInt_mul_divInt a.num b.den (d₁ := a.den) (d₂ := b.num)
  rw [Rat.num_divInt_den, ← Rat.inv_def] at h
  exact h
/-- The four operations: refused as soon as a product or the sum of the definition is too great. -/
def addR (a b : Rat) : Option Rat := if small (a.num * b.den) = true ∧ small (b.num * a.den) = true ∧ small (a.num * b.den + b.num * a.den) = true ∧ small ((a.den : Int) * b.den) = true then some (a + b) else none
def subR (a b : Rat) : Option Rat := if small (a.num * b.den) = true ∧ small (b.num * a.den) = true ∧ small (a.num * b.den - b.num * a.den) = true ∧ small ((a.den : Int) * b.den) = true then some (a - b) else none
def mulR (a b : Rat) : Option Rat := if small (a.num * b.num) = true ∧ small ((a.den : Int) * b.den) = true then some (a * b) else none
def divR (a b : Rat) : Option Rat := if small (a.num * b.den) = true ∧ small ((a.den : Int) * b.num) = true ∧ b.num ≠ 0 then some (a / b) else none
theorem den_mul_pos (a b : Rat) : 0 < (a.den : Int) * b.den := Int.mul_pos (rat_dpos a) (rat_dpos b)
theorem den_mul_ne (a b : Rat) : (a.den : Int) * b.den ≠ 0 := by have := den_mul_pos a b; omega
theorem addR_make (a b : Rat) : addR a b = if small (a.num * b.den) = true ∧ small (b.num * a.den) = true ∧ small (a.num * b.den + b.num * a.den) = true ∧ small ((a.den : Int) * b.den) = true then makeR (a.num * b.den + b.num * a.den) (a.den * b.den) else none := by
  unfold addR makeR
  rw [if_neg (den_mul_ne a b), ← add_eq]
theorem subR_make (a b : Rat) : subR a b = if small (a.num * b.den) = true ∧ small (b.num * a.den) = true ∧ small (a.num * b.den - b.num * a.den) = true ∧ small ((a.den : Int) * b.den) = true then makeR (a.num * b.den - b.num * a.den) (a.den * b.den) else none := by
  unfold subR makeR
  rw [if_neg (den_mul_ne a b), ← sub_eq]
theorem mulR_make (a b : Rat) : mulR a b = if small (a.num * b.num) = true ∧ small ((a.den : Int) * b.den) = true then makeR (a.num * b.num) (a.den * b.den) else none := by
  unfold mulR makeR
  rw [if_neg (den_mul_ne a b), ← mul_eq]
theorem divR_make (a b : Rat) : divR a b = if small (a.num * b.den) = true ∧ small ((a.den : Int) * b.num) = true then makeR (a.num * b.den) (a.den * b.num) else none := by
  unfold divR makeR
  rw [← div_eq]
  by_cases h : b.num = 0
  · rw [if_neg (fun k => k.2.2 h), if_pos (show (a.den : Int) * b.num = 0 by rw [h, Int.mul_zero])]
    split <;> rfl
  · have hn : ¬ (a.den : Int) * b.num = 0 := fun e => by
      rcases Int.mul_eq_zero.1 e with e | e
      · have := rat_dpos a; omega
      · exact h e
    rw [if_neg hn]
    by_cases h1 : small (a.num * b.den) = true ∧ small ((a.den : Int) * b.num) = true
    · rw [if_pos h1, if_pos ⟨h1.1, h1.2, h⟩]
    · rw [if_neg h1, if_neg (fun k => h1 ⟨k.1, k.2.1⟩)]

/-- The order of two fractions. -/
def cmpR (a b : Rat) : Int := if a < b then -1 else if b < a then 1 else 0
theorem cmpR_lt {a b : Rat} (h : a < b) : cmpR a b = -1 := by unfold cmpR; rw [if_pos h]
theorem cmpR_gt {a b : Rat} (h : b < a) : cmpR a b = 1 := by
  unfold cmpR
  rw [if_neg (Rat.not_lt.2 (Rat.le_of_lt h)), if_pos h]
theorem cmpR_eq (a : Rat) : cmpR a a = 0 := by
  unfold cmpR
  rw [if_neg Rat.lt_irrefl, if_neg Rat.lt_irrefl]
theorem cmpR_cases (a b : Rat) : (a < b ∧ cmpR a b = -1) ∨ (a = b ∧ cmpR a b = 0) ∨ (b < a ∧ cmpR a b = 1) := by
  by_cases h1 : a < b
  · exact .inl ⟨h1, cmpR_lt h1⟩
  · by_cases h2 : b < a
    · exact .inr (.inr ⟨h2, cmpR_gt h2⟩)
    · have e : a = b := Rat.le_antisymm (Rat.not_lt.1 h2) (Rat.not_lt.1 h1)
      exact .inr (.inl ⟨e, by rw [e]; exact cmpR_eq b⟩)
theorem floor_num (a : Rat) : a.floor = a.num / (a.den : Int) := Rat.floor_def a
theorem cmpR_floor {a b : Rat} (h : cmpI a.floor b.floor ≠ 0) : cmpR a b = cmpI a.floor b.floor := by
  unfold cmpI at h ⊢
  split at h
  case isTrue h1 =>
    rw [if_pos h1]
    refine cmpR_lt ?_
    refine Rat.not_le.1 fun k => ?_
    have := Rat.floor_monotone k
    omega
  case isFalse h1 =>
    split at h
    case isTrue h2 =>
      rw [if_neg h1, if_pos h2]
      refine cmpR_gt ?_
      refine Rat.not_le.1 fun k => ?_
      have := Rat.floor_monotone k
      omega
    case isFalse => exact absurd rfl h
/-- What is left behind the whole part: a fraction from 0 to 1. -/
theorem rest_eq (a : Rat) : a = (a.floor : Rat) + Rat.divInt (a.num % a.den) a.den := by
  have h := Rat.divInt_add_divInt a.floor (a.num % a.den) (d₁ := 1) (d₂ := a.den) (by omega) (by have := rat_dpos a; omega)
  have h1 : Rat.divInt a.floor 1 = (a.floor : Rat) := Rat.num_divInt_den (a.floor : Rat)
  rw [h1] at h
  rw [h, Int.one_mul, Int.mul_one, floor_num, Int.mul_comm, Int.mul_ediv_add_emod]
  exact (Rat.num_divInt_den a).symm
theorem cmpR_swap (a b : Rat) : cmpR b a = -cmpR a b := by
  rcases cmpR_cases a b with ⟨h, e⟩ | ⟨h, e⟩ | ⟨h, e⟩
  · rw [e, cmpR_gt h]; rfl
  · rw [e, h, cmpR_eq]; rfl
  · rw [e, cmpR_lt h]
theorem cmpR_congr {a b c d : Rat} (h1 : a < b ↔ c < d) (h2 : b < a ↔ d < c) : cmpR a b = cmpR c d := by
  unfold cmpR
  by_cases k1 : a < b
  · rw [if_pos k1, if_pos (h1.1 k1)]
  · rw [if_neg k1, if_neg (fun k => k1 (h1.2 k))]
    by_cases k2 : b < a
    · rw [if_pos k2, if_pos (h2.1 k2)]
    · rw [if_neg k2, if_neg (fun k => k2 (h2.2 k))]
theorem inv_lt_iff {x y : Rat} (hx : 0 < x) (hy : 0 < y) : x < y ↔ y⁻¹ < x⁻¹ := by
  have hix := Rat.inv_pos.2 hx
  have hiy := Rat.inv_pos.2 hy
  have key : ∀ {u v : Rat}, 0 < u → 0 < v → u < v → v⁻¹ < u⁻¹ := by
    intro u v hu hv h
    have hp := Rat.mul_pos (Rat.inv_pos.2 hu) (Rat.inv_pos.2 hv)
    have h1 := Rat.mul_lt_mul_of_pos_right h hp
    rw [← Rat.mul_assoc, Rat.mul_inv_cancel u (Rat.ne_of_gt hu), Rat.one_mul, Rat.mul_comm u⁻¹, ← Rat.mul_assoc, Rat.mul_inv_cancel v (Rat.ne_of_gt hv), Rat.one_mul] at h1
    exact h1
  refine ⟨key hx hy, fun h => ?_⟩
  have := key hiy hix h
  rwa [Rat.inv_inv, Rat.inv_inv] at this
theorem rest_pos {a : Rat} (h : a.num % (a.den : Int) ≠ 0) : 0 < a.num % (a.den : Int) ∧ a.num % (a.den : Int) < a.den := by
  have h1 := Int.emod_nonneg a.num (show (a.den : Int) ≠ 0 by have := rat_dpos a; omega)
  have h2 := Int.emod_lt_of_pos a.num (rat_dpos a)
  omega
theorem rest_zero {a : Rat} (h : a.num % (a.den : Int) = 0) : a = (a.floor : Rat) := by
  have := rest_eq a
  rw [h, Rat.zero_divInt, Rat.add_zero] at this
  exact this
theorem floor_lt_of {a : Rat} (h : a.num % (a.den : Int) ≠ 0) : (a.floor : Rat) < a := by
  have h1 := Rat.floor_le a
  refine Rat.lt_of_le_of_ne h1 fun e => h ?_
  have hd : a.den = 1 := by rw [← e]; rfl
  rw [hd]
  exact Int.emod_one _
theorem cmpR_rest {a b : Rat} (hf : a.floor = b.floor) :
    cmpR a b = if a.num % (a.den : Int) = 0 then (if b.num % (b.den : Int) = 0 then 0 else -1) else (if b.num % (b.den : Int) = 0 then 1 else -cmpR (Rat.divInt a.den (a.num % a.den)) (Rat.divInt b.den (b.num % b.den))) := by
  by_cases ha : a.num % (a.den : Int) = 0
  · rw [if_pos ha]
    by_cases hb : b.num % (b.den : Int) = 0
    · rw [if_pos hb]
      have e : a = b := by rw [rest_zero ha, hf, ← rest_zero hb]
      rw [e, cmpR_eq]
    · rw [if_neg hb]
      refine cmpR_lt ?_
      rw [rest_zero ha, hf]
      exact floor_lt_of hb
  · rw [if_neg ha]
    by_cases hb : b.num % (b.den : Int) = 0
    · rw [if_pos hb]
      refine cmpR_gt ?_
      rw [rest_zero hb, ← hf]
      exact floor_lt_of ha
    · rw [if_neg hb, ← cmpR_swap]
      have hx : 0 < Rat.divInt (a.num % a.den) a.den := by
        have h1 := floor_lt_of ha
        have h2 := rest_eq a
        generalize Rat.divInt (a.num % a.den) a.den = x at h2
        rw [h2] at h1
        have h3 : (a.floor : Rat) + 0 < (a.floor : Rat) + x := by
          rw [Rat.add_zero]
          have e : ((a.floor : Rat) + x).floor = a.floor := by rw [← h2]
          rwa [e] at h1
        exact Rat.add_lt_add_left.1 h3
      have hy : 0 < Rat.divInt (b.num % b.den) b.den := by
        have h1 := floor_lt_of hb
        have h2 := rest_eq b
        generalize Rat.divInt (b.num % b.den) b.den = x at h2
        rw [h2] at h1
        have h3 : (b.floor : Rat) + 0 < (b.floor : Rat) + x := by
          rw [Rat.add_zero]
          have e : ((b.floor : Rat) + x).floor = b.floor := by rw [← h2]
          rwa [e] at h1
        exact Rat.add_lt_add_left.1 h3
      have ea := rest_eq a
      have eb := rest_eq b
      rw [← hf] at eb
      rw [show Rat.divInt a.den (a.num % a.den) = (Rat.divInt (a.num % a.den) a.den)⁻¹ from (Rat.inv_divInt _ _).symm, show Rat.divInt b.den (b.num % b.den) = (Rat.divInt (b.num % b.den) b.den)⁻¹ from (Rat.inv_divInt _ _).symm]
      generalize Rat.divInt (a.num % a.den) a.den = x at ea hx
      generalize Rat.divInt (b.num % b.den) b.den = y at eb hy
      refine cmpR_congr ?_ ?_
      · rw [← inv_lt_iff hx hy]
        generalize (a.floor : Rat) = f at ea eb
        rw [ea, eb]
        exact Rat.add_lt_add_left
      · rw [← inv_lt_iff hy hx]
        generalize (a.floor : Rat) = f at ea eb
        rw [ea, eb]
        exact Rat.add_lt_add_left
/-- The next fraction is in lowest terms as it stands. -/
theorem next_low {a : Rat} (h : a.num % (a.den : Int) ≠ 0) : (Rat.divInt a.den (a.num % a.den)).num = a.den ∧ ((Rat.divInt a.den (a.num % a.den)).den : Int) = a.num % a.den := by
  refine low_num (rest_pos h).1 ?_
  have h1 := a.reduced
  have h2 := (rest_pos h).1
  unfold Nat.Coprime at h1
  have e : Int.gcd (a.den : Int) (a.num % a.den) = 1 := by
    have h4 : a.num = (a.num % (a.den : Int)) + (a.den : Int) * (a.num / (a.den : Int)) := (Int.emod_add_mul_ediv _ _).symm
    have h5 : Int.gcd a.num a.den = 1 := h1
    generalize a.num % (a.den : Int) = m at h4 h2 ⊢
    generalize a.num / (a.den : Int) = k at h4
    rw [h4, Int.gcd_add_mul_left_left] at h5
    rw [Int.gcd_comm]
    exact h5
  exact e
/-- Rounding to a grid. -/
def downR (r : Rat) (k : Nat) : Option Rat := if small (r.num * 10 ^ k) = true then makeR (r.num * 10 ^ k / r.den) (10 ^ k) else none
def upR (r : Rat) (k : Nat) : Option Rat := if small (r.num * 10 ^ k) = true then makeR (if r.num * 10 ^ k % r.den = 0 then r.num * 10 ^ k / r.den else r.num * 10 ^ k / r.den + 1) (10 ^ k) else none
end Go.Proofs.YtkekafamfoifmaaGreatDoor

namespace Go.Proofs.YtkekafamfoifmaaGreatDoor
/-- The text that an integer is, if there is one and it is small enough. -/
def opS (o : Option Int) : ByteArray := match o with | some z => if small z = true then str z else ⟨#[]⟩ | none => ⟨#[]⟩
/-- The error's number. -/
def opN (o : Option Int) : Int := match o with | some z => if small z = true then 0 else 30 | none => 30
theorem opS_none : opS none = ⟨#[]⟩ := rfl
theorem opN_none : opN none = 30 := rfl
theorem opS_small {z : Int} (h : small z = true) : opS (some z) = str z := by unfold opS; exact if_pos h
theorem opN_small {z : Int} (h : small z = true) : opN (some z) = 0 := by unfold opN; exact if_pos h
def addO (a b : ByteArray) : Option Int := match numOf a, numOf b with | some x, some y => some (x + y) | _, _ => none
def subO (a b : ByteArray) : Option Int := match numOf a, numOf b with | some x, some y => some (x - y) | _, _ => none
def mulO (a b : ByteArray) : Option Int := match numOf a, numOf b with | some x, some y => some (x * y) | _, _ => none
def gcdO (a b : ByteArray) : Option Int := match numOf a, numOf b with | some x, some y => some ((Nat.gcd x.natAbs y.natAbs : Nat) : Int) | _, _ => none
def divO (a b : ByteArray) : Option Int := match numOf a, numOf b with | some x, some y => if y = 0 then none else some (x / y) | _, _ => none
def modO (a b : ByteArray) : Option Int := match numOf a, numOf b with | some x, some y => if y = 0 then none else some (x % y) | _, _ => none
def cmpO (a b : ByteArray) : Int := match numOf a, numOf b with | some x, some y => cmpI x y | _, _ => 0
def Sz (a : ByteArray) : Prop := a.size ≤ 281474976710656
theorem Sz.le {a : ByteArray} (h : Sz a) : a.size ≤ 9223372036854775807 := by unfold Sz at h; omega
end Go.Proofs.YtkekafamfoifmaaGreatDoor

