/-
  Plain facts for the laws of chapter 04: the order crosswise; powers of ten as fractions. No code of the program is named here.
  Plain facts for RationalMachine: fractions of small integers. No code of the program is named here.
  Plain facts for RationalOrder, RationalField and RationalGrid: what holds of the core library's rational numbers. No code of the program is named here.
  The operations on what operations answer: a fraction, or none. No code of the program is named here.
  Package plane as plain functions: hulls, and what a polygon covers of a rectangle, over fractions that may be there. No code of the program is named here.
-/
import Derived.Test.YtgngepbemgbbeaaGreatDoorZRat
import Derived.Test.YtgngepbemgbbeaaGreatDoorZRCmp
import Derived.Test.YtgngepbemgbbeaaGreatDoorZNum
namespace Go.Proofs.YtgngepbemgbbeaaGreatDoor

theorem cmpR_cross (a b : Rat) : cmpR a b = cmpI (a.num * b.den) (b.num * a.den) := by
  unfold cmpR cmpI
  by_cases h1 : a < b
  · rw [if_pos h1, if_pos ((Rat.lt_iff _ _).1 h1)]
  · rw [if_neg h1, if_neg (fun k => h1 ((Rat.lt_iff _ _).2 k))]
    by_cases h2 : b < a
    · rw [if_pos h2, if_pos ((Rat.lt_iff _ _).1 h2)]
    · rw [if_neg h2, if_neg (fun k => h2 ((Rat.lt_iff _ _).2 k))]
def tenR (k : Nat) : Rat := (((10 : Int) ^ k : Int) : Rat)
theorem tenR_num (k : Nat) : (tenR k).num = 10 ^ k := rfl
theorem tenR_den (k : Nat) : (tenR k).den = 1 := rfl
theorem ten_pos (k : Nat) : 0 < (10 : Int) ^ k := Int.pow_pos (by decide)
theorem small_iff10 {z : Int} : small z = decide (z.natAbs < 10 ^ 200) := by
  unfold small
  exact decide_eq_decide.2 (nDig_le (by decide))
theorem small_ten (k : Nat) : small ((10 : Int) ^ k) = decide (k < 200) := by
  rw [small_iff10, decide_eq_decide, pow_cast, Int.natAbs_natCast]
  exact Nat.pow_lt_pow_iff_right (by decide)
theorem small_ten1 (k : Nat) : small ((10 : Int) ^ k + 1) = decide (k < 200) := by
  have e : ((10 : Int) ^ k + 1).natAbs = 10 ^ k + 1 := by rw [pow_cast]; generalize 10 ^ k = n; omega
  rw [small_iff10, decide_eq_decide, e]
  constructor
  · intro h
    exact (Nat.pow_lt_pow_iff_right (a := 10) (by decide)).1 (by omega)
  · intro h
    have h1 : 10 ^ k ≤ 10 ^ 199 := Nat.pow_le_pow_right (by decide) (by omega)
    have h2 : (10 : Nat) ^ 200 = 10 ^ 199 * 10 := Nat.pow_succ ..
    have h3 : 0 < (10 : Nat) ^ 199 := Nat.pow_pos (by decide)
    generalize (10 : Nat) ^ 199 = a at h1 h2 h3
    omega
theorem small_one : small 1 = true := by decide +kernel
theorem tenR_fits {k : Nat} (h : k < 200) : fitsR (tenR k) := ⟨by rw [tenR_num, small_ten]; exact decide_eq_true h, small_one⟩
theorem ratO_ten {k : Nat} (h : k < 200) : ratO (str ((10 : Int) ^ k)) ⟨#[49]⟩ = some (tenR k) := by
  have h1 := ratO_str (tenR_fits h)
  rw [tenR_num, tenR_den, show (((1 : Nat)) : Int) = 1 from rfl] at h1
  rw [str_one']
  exact h1
theorem ratO_one : ratO ⟨#[49]⟩ ⟨#[49]⟩ = some 1 := by
  rw [str_one']
  exact ratO_str (r := 1) ⟨small_one, small_one⟩
theorem tenth_low (k : Nat) : (Rat.divInt 1 (10 ^ k)).num = 1 ∧ ((Rat.divInt 1 (10 ^ k)).den : Int) = 10 ^ k := low_num (ten_pos k) (by simp)
theorem ratO_tenth {k : Nat} (h : k < 200) : ratO ⟨#[49]⟩ (str ((10 : Int) ^ k)) = some (Rat.divInt 1 (10 ^ k)) := by
  obtain ⟨e1, e2⟩ := tenth_low k
  have hf : fitsR (Rat.divInt 1 (10 ^ k)) := by
    unfold fitsR
    rw [e1, e2, small_ten]
    exact ⟨small_one, decide_eq_true h⟩
  have := ratO_str hf
  rw [e1, e2] at this
  rw [str_one']
  exact this
theorem lim_div {m : Nat} (h : m < 200) : op2 divR ⟨#[49]⟩ ⟨#[49]⟩ (str ((10 : Int) ^ m)) ⟨#[49]⟩ = some (Rat.divInt 1 (10 ^ m)) := by
  rw [op2_some ratO_one (ratO_ten h)]
  unfold divR
  have e1 : (1 : Rat).num * ((tenR m).den : Int) = 1 := rfl
  have e2 : ((1 : Rat).den : Int) * (tenR m).num = 10 ^ m := by rw [tenR_num]; exact Int.one_mul _
  rw [div_eq, e1, e2]
  refine if_pos ⟨small_one, ?_, ?_⟩
  · rw [small_ten]; exact decide_eq_true h
  · rw [tenR_num]
    have := ten_pos m
    omega
theorem lim_divS {m : Nat} (h : m < 200) : qN (op2 divR ⟨#[49]⟩ ⟨#[49]⟩ (str ((10 : Int) ^ m)) ⟨#[49]⟩) = ⟨#[49]⟩ ∧ qD (op2 divR ⟨#[49]⟩ ⟨#[49]⟩ (str ((10 : Int) ^ m)) ⟨#[49]⟩) = str ((10 : Int) ^ m) ∧ qE (op2 divR ⟨#[49]⟩ ⟨#[49]⟩ (str ((10 : Int) ^ m)) ⟨#[49]⟩) = 0 := by
  rw [lim_div h, qN_some, qD_some, (tenth_low m).1, (tenth_low m).2]
  exact ⟨rfl, rfl, rfl⟩
theorem lim_mul {n m : Nat} (hn : n < 200) (hm : m < 200) : op2 mulR (str ((10 : Int) ^ n)) ⟨#[49]⟩ (str ((10 : Int) ^ m)) ⟨#[49]⟩ = if n + m < 200 then some (tenR n * tenR m) else none := by
  rw [op2_some (ratO_ten hn) (ratO_ten hm)]
  unfold mulR
  have e1 : (tenR n).num * (tenR m).num = 10 ^ (n + m) := by rw [tenR_num, tenR_num, Int.pow_add]
  have e2 : ((tenR n).den : Int) * ((tenR m).den : Int) = 1 := rfl
  rw [e1, e2, small_ten]
  by_cases h : n + m < 200
  · rw [if_pos h, if_pos ⟨decide_eq_true h, small_one⟩]
  · rw [if_neg h, if_neg (fun k => h (of_decide_eq_true k.1))]
theorem lim_add {n m : Nat} (hn : n < 200) (hm : m < 200) : op2 addR (str ((10 : Int) ^ n)) ⟨#[49]⟩ ⟨#[49]⟩ (str ((10 : Int) ^ m)) = if n + m < 200 then some (tenR n + Rat.divInt 1 (10 ^ m)) else none := by
  rw [op2_some (ratO_ten hn) (ratO_tenth hm)]
  unfold addR
  obtain ⟨k1, k2⟩ := tenth_low m
  have e1 : (tenR n).num * (10 : Int) ^ m = 10 ^ (n + m) := by rw [tenR_num, Int.pow_add]
  have e2 : (Rat.divInt 1 (10 ^ m)).num * ((tenR n).den : Int) = 1 := by rw [k1]; rfl
  have e3 : ((tenR n).den : Int) * (10 : Int) ^ m = 10 ^ m := Int.one_mul _
  rw [k2, e1, e2, e3, small_ten, small_ten1, small_ten]
  by_cases h : n + m < 200
  · rw [if_pos h, if_pos ⟨decide_eq_true h, small_one, decide_eq_true h, decide_eq_true hm⟩]
  · rw [if_neg h, if_neg (fun k => h (of_decide_eq_true k.1))]
theorem cmpI_pow (n m : Nat) : cmpI ((10 : Int) ^ n) (10 ^ m) = cmpI (n : Int) (m : Int) := by
  have key : ∀ a b : Nat, (10 : Int) ^ a < 10 ^ b ↔ (a : Int) < b := fun a b => by
    rw [pow_cast, pow_cast, Int.ofNat_lt, Int.ofNat_lt]
    exact Nat.pow_lt_pow_iff_right (by decide)
  unfold cmpI
  by_cases h1 : (n : Int) < m
  · rw [if_pos h1, if_pos ((key _ _).2 h1)]
  · rw [if_neg h1, if_neg (fun k => h1 ((key _ _).1 k))]
    by_cases h2 : (m : Int) < n
    · rw [if_pos h2, if_pos ((key _ _).2 h2)]
    · rw [if_neg h2, if_neg (fun k => h2 ((key _ _).1 k))]
theorem lim_cmp1 {n m : Nat} (hn : n < 200) (hm : m < 200) : cmpS (str ((10 : Int) ^ n)) ⟨#[49]⟩ (str ((10 : Int) ^ m)) ⟨#[49]⟩ = cmpI (n : Int) (m : Int) := by
  rw [cmpS_some (ratO_ten hn) (ratO_ten hm), cmpR_cross, tenR_num, tenR_num, tenR_den, tenR_den, ← cmpI_pow]
  congr 1 <;> exact Int.mul_one _
theorem lim_cmp2 {n m : Nat} (hn : n < 200) (hm : m < 200) : cmpS (str ((10 : Int) ^ n)) ⟨#[49]⟩ ⟨#[49]⟩ (str ((10 : Int) ^ m)) = if n = 0 ∧ m = 0 then 0 else 1 := by
  obtain ⟨k1, k2⟩ := tenth_low m
  rw [cmpS_some (ratO_ten hn) (ratO_tenth hm), cmpR_cross, k1, k2, tenR_num, tenR_den]
  have e1 : (10 : Int) ^ n * 10 ^ m = 10 ^ (n + m) := (Int.pow_add ..).symm
  have e2 : (1 : Int) * ((1 : Nat) : Int) = 10 ^ 0 := rfl
  rw [e1, e2, cmpI_pow]
  unfold cmpI
  by_cases h : n = 0 ∧ m = 0
  · rw [if_pos h, if_neg (by omega), if_neg (by omega)]
  · rw [if_neg h, if_neg (by omega), if_pos (by omega)]
end Go.Proofs.YtgngepbemgbbeaaGreatDoor

namespace Go.Proofs.YtgngepbemgbbeaaGreatDoor

theorem rat_cross {r : Rat} {p q : Int} (hq : q ≠ 0) (h : r = Rat.divInt p q) : r.num * q = p * r.den := by
  have h1 : Rat.divInt r.num r.den = Rat.divInt p q := by rw [Rat.num_divInt_den]; exact h
  exact (Rat.divInt_eq_divInt_iff (by have := rat_dpos r; omega) hq).1 h1
/-- A fraction of two integers of at most b in size, the denominator at least 1. -/
theorem rat_le {p q : Int} (hq : 0 < q) : (Rat.divInt p q).num.natAbs ≤ p.natAbs ∧ (Rat.divInt p q).den ≤ q.natAbs := by
  have hg : 0 < Nat.gcd p.natAbs q.natAbs := gcd_pos (by omega)
  have h1 := num_pos (p := p) hq
  have h2 := den_pos (p := p) hq
  constructor
  · rw [h1]
    exact Int.natAbs_ediv_le_natAbs _ _
  · have h3 : (((Rat.divInt p q).den : Int)).natAbs ≤ q.natAbs := by
      rw [h2]
      exact Int.natAbs_ediv_le_natAbs _ _
    simpa using h3
theorem small_of_le {z : Int} (h : z.natAbs ≤ 10 ^ 100) : small z = true := by
  rw [small_iff10, decide_eq_true_iff]
  refine Nat.lt_of_le_of_lt h ?_
  exact (Nat.pow_lt_pow_iff_right (by decide)).2 (by decide)
theorem ten100 : (10 : Nat) ^ 10 ≤ 10 ^ 100 := Nat.pow_le_pow_right (by decide) (by decide)
/-- Both integers of at most 30000. -/
structure Mch (r : Rat) : Prop where
  n : r.num.natAbs ≤ 30000
  d : r.den ≤ 30000
theorem Mch.fits {r : Rat} (h : Mch r) : fitsR r := by
  obtain ⟨h1, h2⟩ := h
  have := ten100
  exact ⟨small_of_le (by omega), small_of_le (by rw [Int.natAbs_natCast]; omega)⟩
theorem Mch.of {p q : Int} (hq : 0 < q) (h1 : p.natAbs ≤ 30000) (h2 : q ≤ 30000) : Mch (Rat.divInt p q) := by
  obtain ⟨k1, k2⟩ := rat_le (p := p) hq
  exact ⟨by omega, by omega⟩
theorem mul_le9 {x y : Int} (hx : x.natAbs ≤ 30000) (hy : y.natAbs ≤ 30000) : (x * y).natAbs ≤ 900000000 := by
  rw [Int.natAbs_mul]
  exact Nat.mul_le_mul hx hy
theorem Mch.mul {a b : Rat} (ha : Mch a) (hb : Mch b) : small (a.num * b.den) = true ∧ small (b.num * a.den) = true ∧ small (a.num * b.den + b.num * a.den) = true ∧ small (a.num * b.den - b.num * a.den) = true ∧ small ((a.den : Int) * b.den) = true ∧ small (a.num * b.num) = true ∧ small ((a.den : Int) * b.num) = true := by
  obtain ⟨a1, a2⟩ := ha
  obtain ⟨b1, b2⟩ := hb
  have a2' : (a.den : Int).natAbs ≤ 30000 := by rw [Int.natAbs_natCast]; exact a2
  have b2' : (b.den : Int).natAbs ≤ 30000 := by rw [Int.natAbs_natCast]; exact b2
  have h1 := mul_le9 a1 b2'
  have h2 := mul_le9 b1 a2'
  have h3 := mul_le9 a2' b2'
  have h4 := mul_le9 a1 b1
  have h5 := mul_le9 a2' b1
  have := ten100
  exact ⟨small_of_le (by omega), small_of_le (by omega), small_of_le (by omega), small_of_le (by omega), small_of_le (by omega), small_of_le (by omega), small_of_le (by omega)⟩
theorem Mch.add {a b : Rat} (ha : Mch a) (hb : Mch b) : addR a b = some (a + b) := by
  obtain ⟨h1, h2, h3, h4, h5, h6, h7⟩ := ha.mul hb
  exact if_pos ⟨h1, h2, h3, h5⟩
theorem Mch.sub {a b : Rat} (ha : Mch a) (hb : Mch b) : subR a b = some (a - b) := by
  obtain ⟨h1, h2, h3, h4, h5, h6, h7⟩ := ha.mul hb
  exact if_pos ⟨h1, h2, h4, h5⟩
theorem Mch.mulR {a b : Rat} (ha : Mch a) (hb : Mch b) : mulR a b = some (a * b) := by
  obtain ⟨h1, h2, h3, h4, h5, h6, h7⟩ := ha.mul hb
  exact if_pos ⟨h6, h5⟩
theorem Mch.div {a b : Rat} (ha : Mch a) (hb : Mch b) (h0 : b.num ≠ 0) : divR a b = some (a / b) := by
  obtain ⟨h1, h2, h3, h4, h5, h6, h7⟩ := ha.mul hb
  exact if_pos ⟨h1, h7, h0⟩
theorem Mch.div0 {a b : Rat} (h0 : b.num = 0) : divR a b = none := if_neg (fun k => k.2.2 h0)
/-- The numbers of the machine: the four results, by the integers that the fractions are made of. -/
structure MchV (r : Rat) (p q : Int) : Prop where
  x : r.num * q = p * r.den
  n : r.num.natAbs ≤ p.natAbs
  d : r.den ≤ q.natAbs
theorem MchV.of {p q : Int} (hq : 0 < q) : MchV (Rat.divInt p q) p q := ⟨rat_cross (by omega) rfl, (rat_le hq).1, (rat_le hq).2⟩
theorem MchV.of_neg {p q : Int} (hq : q < 0) : MchV (Rat.divInt p q) p q := by
  have h := MchV.of (p := -p) (q := -q) (by omega)
  rw [Rat.neg_divInt_neg] at h
  obtain ⟨h1, h2, h3⟩ := h
  refine ⟨?_, by omega, by omega⟩
  rw [Int.mul_neg, Int.neg_mul] at h1
  omega
theorem mch_add {n d m c : Int} (hd : d ≠ 0) (hc : c ≠ 0) : Rat.divInt n d + Rat.divInt m c = Rat.divInt (n * c + m * d) (d * c) := Rat.divInt_add_divInt _ _ hd hc
theorem mch_sub {n d m c : Int} (hd : d ≠ 0) (hc : c ≠ 0) : Rat.divInt n d - Rat.divInt m c = Rat.divInt (n * c - m * d) (d * c) := Rat.divInt_sub_divInt _ _ hd hc
theorem mch_mul {n d m c : Int} : Rat.divInt n d * Rat.divInt m c = Rat.divInt (n * m) (d * c) := Rat.divInt_mul_divInt _ _
theorem mch_div {n d m c : Int} : Rat.divInt n d / Rat.divInt m c = Rat.divInt (n * c) (d * m) := by
  rw [Rat.div_def, Rat.inv_divInt, Rat.divInt_mul_divInt]
theorem lt_divInt {n d m c : Int} (hd : 0 < d) (hc : 0 < c) : Rat.divInt n d < Rat.divInt m c ↔ n * c < m * d := by
  have x1 := rat_cross (r := Rat.divInt n d) (by omega) rfl
  have x2 := rat_cross (r := Rat.divInt m c) (by omega) rfl
  have p1 := rat_dpos (Rat.divInt n d)
  have p2 := rat_dpos (Rat.divInt m c)
  rw [Rat.lt_iff]
  generalize (Rat.divInt n d).num = a at x1 ⊢
  generalize ((Rat.divInt n d).den : Int) = b at x1 p1 ⊢
  generalize (Rat.divInt m c).num = e at x2 ⊢
  generalize ((Rat.divInt m c).den : Int) = f at x2 p2 ⊢
  have h1 : a * f < e * b ↔ (a * f) * (d * c) < (e * b) * (d * c) := (Int.mul_lt_mul_right (Int.mul_pos hd hc)).symm
  have h2 : n * c < m * d ↔ (n * c) * (b * f) < (m * d) * (b * f) := (Int.mul_lt_mul_right (Int.mul_pos p1 p2)).symm
  have e1 : (a * f) * (d * c) = (n * c) * (b * f) := by
    have : (a * f) * (d * c) = (a * d) * (f * c) := by ac_rfl
    rw [this, x1]
    ac_rfl
  have e2 : (e * b) * (d * c) = (m * d) * (b * f) := by
    have : (e * b) * (d * c) = (e * c) * (b * d) := by ac_rfl
    rw [this, x2]
    ac_rfl
  rw [h1, h2, e1, e2]
theorem mch_cmp {n d m c : Int} (hd : 0 < d) (hc : 0 < c) : cmpR (Rat.divInt n d) (Rat.divInt m c) = cmpI (n * c) (m * d) := by
  have key : ∀ {n d m c : Int}, 0 < d → 0 < c → (Rat.divInt n d < Rat.divInt m c ↔ n * c < m * d) := fun hd hc => lt_divInt hd hc
  unfold cmpR cmpI
  by_cases h1 : n * c < m * d
  · rw [if_pos h1, if_pos ((key hd hc).2 h1)]
  · rw [if_neg h1, if_neg (fun k => h1 ((key hd hc).1 k))]
    by_cases h2 : m * d < n * c
    · rw [if_pos h2, if_pos ((key hc hd).2 h2)]
    · rw [if_neg h2, if_neg (fun k => h2 ((key hc hd).1 k))]
end Go.Proofs.YtgngepbemgbbeaaGreatDoor

namespace Go.Proofs.YtgngepbemgbbeaaGreatDoor

/-- Sum and product keep the order. -/
theorem cmpR_add (a b t : Rat) : cmpR (a + t) (b + t) = cmpR a b := cmpR_congr Rat.add_lt_add_right Rat.add_lt_add_right
theorem cmpR_sub (a b : Rat) : cmpR (a - b) 0 = cmpR a b := by
  have h := cmpR_add (a - b) 0 b
  rw [Rat.sub_add_cancel, Rat.zero_add] at h
  exact h.symm
theorem cmpR_neg (a b : Rat) : cmpR (-a) (-b) = cmpR b a := cmpR_congr Rat.neg_lt_neg_iff Rat.neg_lt_neg_iff
theorem cmpR_mul (a b t : Rat) : cmpR (a * t) (b * t) = cmpR a b * cmpR t 0 := by
  rcases cmpR_cases t 0 with ⟨h, e⟩ | ⟨h, e⟩ | ⟨h, e⟩
  · rw [e]
    have hp : 0 < -t := by
      have := Rat.neg_lt_neg_iff.2 h
      rwa [Rat.neg_zero] at this
    have h2 : cmpR (a * -t) (b * -t) = cmpR a b := cmpR_congr (Rat.mul_lt_mul_right hp) (Rat.mul_lt_mul_right hp)
    rw [Rat.mul_neg, Rat.mul_neg, cmpR_neg, cmpR_swap] at h2
    omega
  · rw [e, h, Rat.mul_zero, Rat.mul_zero, cmpR_eq]
    omega
  · rw [e]
    have h2 : cmpR (a * t) (b * t) = cmpR a b := cmpR_congr (Rat.mul_lt_mul_right h) (Rat.mul_lt_mul_right h)
    rw [h2]
    omega
theorem cmpR_le_trans {a b c : Rat} (h1 : cmpR a b ≤ 0) (h2 : cmpR b c ≤ 0) : cmpR a c ≤ 0 := by
  have key : ∀ {x y : Rat}, cmpR x y ≤ 0 → x ≤ y := fun {x y} h => by
    rcases cmpR_cases x y with ⟨k, e⟩ | ⟨k, e⟩ | ⟨k, e⟩
    · exact Rat.le_of_lt k
    · exact k ▸ Rat.le_refl
    · omega
  have h3 := Rat.le_trans (key h1) (key h2)
  rcases cmpR_cases a c with ⟨k, e⟩ | ⟨k, e⟩ | ⟨k, e⟩
  · omega
  · omega
  · exact absurd h3 (Rat.not_le.2 k)
theorem cmpR_lt_trans {a b c : Rat} (h1 : cmpR a b ≤ 0) (h2 : cmpR b c < 0) : cmpR a c < 0 := by
  have h3 := cmpR_le_trans h1 (show cmpR b c ≤ 0 by omega)
  rcases cmpR_cases a c with ⟨k, e⟩ | ⟨k, e⟩ | ⟨k, e⟩
  · omega
  · subst k
    rw [cmpR_swap] at h2
    omega
  · omega
theorem cmpR_zero {a b : Rat} : cmpR a b = 0 ↔ a = b := by
  rcases cmpR_cases a b with ⟨k, e⟩ | ⟨k, e⟩ | ⟨k, e⟩
  · refine ⟨fun h => by omega, fun h => ?_⟩
    rw [h] at k
    exact absurd k Rat.lt_irrefl
  · exact ⟨fun _ => k, fun _ => e⟩
  · refine ⟨fun h => by omega, fun h => ?_⟩
    rw [h] at k
    exact absurd k Rat.lt_irrefl
theorem cmpR_range (a b : Rat) : -1 ≤ cmpR a b ∧ cmpR a b ≤ 1 := by
  rcases cmpR_cases a b with ⟨_, e⟩ | ⟨_, e⟩ | ⟨_, e⟩ <;> omega
end Go.Proofs.YtgngepbemgbbeaaGreatDoor

namespace Go.Proofs.YtgngepbemgbbeaaGreatDoor

/-- What is there fits. -/
def FO (o : Option Rat) : Prop := ∀ r, o = some r → fitsR r
theorem FO.no : FO none := fun _ h => nomatch h
theorem FO.of {r : Rat} (h : fitsR r) : FO (some r) := fun _ k => by cases k; exact h
theorem numOf_nil : numOf ⟨#[]⟩ = none := by decide +kernel
theorem ratO_nil (d : ByteArray) : ratO ⟨#[]⟩ d = none := by unfold ratO; rw [numOf_nil]
theorem ratO_q {o : Option Rat} (h : FO o) : ratO (qN o) (qD o) = o := by
  cases o with
  | none => exact ratO_nil _
  | some r => exact ratO_str (h r rfl)
/-- An operation on what may be there. -/
def lift2 (f : Rat → Rat → Option Rat) (x y : Option Rat) : Option Rat := match x, y with | some a, some b => f a b | _, _ => none
theorem op2_q {f : Rat → Rat → Option Rat} {x y : Option Rat} (hx : FO x) (hy : FO y) : op2 f (qN x) (qD x) (qN y) (qD y) = lift2 f x y := by
  unfold op2 lift2
  rw [ratO_q hx, ratO_q hy]
  cases x <;> cases y <;> rfl
def cmpOO (x y : Option Rat) : Int := match x, y with | some a, some b => cmpR a b | _, _ => 0
theorem cmpS_q {x y : Option Rat} (hx : FO x) (hy : FO y) : cmpS (qN x) (qD x) (qN y) (qD y) = cmpOO x y := by
  unfold cmpS cmpOO
  rw [ratO_q hx, ratO_q hy]
  cases x <;> cases y <;> rfl
theorem FO.lift {f : Rat → Rat → Option Rat} (hf : ∀ {a b r : Rat}, f a b = some r → fitsR r) (x y : Option Rat) : FO (lift2 f x y) := fun r h => by
  unfold lift2 at h
  cases x with
  | none => cases h
  | some a =>
    cases y with
    | none => cases h
    | some b => exact hf h
theorem FO.add (x y : Option Rat) : FO (lift2 addR x y) := FO.lift add_fits x y
theorem FO.sub (x y : Option Rat) : FO (lift2 subR x y) := FO.lift sub_fits x y
theorem FO.mul (x y : Option Rat) : FO (lift2 mulR x y) := FO.lift mul_fits x y
theorem FO.div (x y : Option Rat) : FO (lift2 divR x y) := FO.lift div_fits x y
theorem qN_sz (o : Option Rat) (h : FO o) : Sz (qN o) := by
  cases o with
  | none => exact sz_nil
  | some r => rw [qN_some, ← opS_small (h r rfl).1]; exact opS_sz _
theorem qD_sz (o : Option Rat) (h : FO o) : Sz (qD o) := by
  cases o with
  | none => exact sz_nil
  | some r => rw [qD_some, ← opS_small (h r rfl).2]; exact opS_sz _
/-- Two answers have the same texts exactly if they are equal. -/
theorem q_inj {x y : Option Rat} (h : qN x = qN y) (k : qD x = qD y) : x = y := by
  have ne : ∀ r : Rat, str r.num ≠ ⟨#[]⟩ := fun r e => by
    have h2 : (str r.num).data.toList = [] := by rw [e]
    rw [str_list] at h2
    unfold txt at h2
    split at h2
    · exact absurd h2 (by simp)
    · by_cases h7 : r.num.natAbs = 0
      · rw [h7] at h2
        exact absurd h2 (by decide)
      · rw [txtN_pos (by omega)] at h2
        have h8 := congrArg List.length h2
        simp at h8
        exact h7 ((dig_nil (by decide)).1 h8)
  have inj : ∀ {a b : Int}, str a = str b → a = b := fun {a b} e => by
    have h2 : (str a).data.toList = (str b).data.toList := by rw [e]
    rw [str_list, str_list] at h2
    exact txt_inj h2
  cases x with
  | none =>
    cases y with
    | none => rfl
    | some r => exact absurd h.symm (ne r)
  | some r =>
    cases y with
    | none => exact absurd h (ne r)
    | some s =>
      have h1 := inj h
      have h2 : (r.den : Int) = s.den := inj k
      have h3 : r = s := Rat.ext h1 (by omega)
      rw [h3]
theorem addR_comm (a b : Rat) : addR a b = addR b a := by
  unfold addR
  rw [Rat.add_comm a b, Int.add_comm (a.num * b.den), Int.mul_comm (a.den : Int)]
  by_cases h : small (a.num * b.den) = true ∧ small (b.num * a.den) = true ∧ small (b.num * a.den + a.num * b.den) = true ∧ small ((b.den : Int) * a.den) = true
  · rw [if_pos h, if_pos ⟨h.2.1, h.1, h.2.2.1, h.2.2.2⟩]
  · rw [if_neg h, if_neg (fun k => h ⟨k.2.1, k.1, k.2.2.1, k.2.2.2⟩)]
theorem mulR_comm (a b : Rat) : mulR a b = mulR b a := by
  unfold mulR
  rw [Rat.mul_comm a b, Int.mul_comm a.num, Int.mul_comm (a.den : Int)]
theorem addR_val {a b r : Rat} (h : addR a b = some r) : r = a + b := by
  unfold addR at h
  split at h <;> cases h
  rfl
theorem subR_val {a b r : Rat} (h : subR a b = some r) : r = a - b := by
  unfold subR at h
  split at h <;> cases h
  rfl
theorem mulR_val {a b r : Rat} (h : mulR a b = some r) : r = a * b := by
  unfold mulR at h
  split at h <;> cases h
  rfl
theorem divR_val {a b r : Rat} (h : divR a b = some r) : r = a / b ∧ b ≠ 0 := by
  unfold divR at h
  split at h
  case isTrue hc =>
    cases h
    exact ⟨rfl, fun e => hc.2.2 (by rw [e]; rfl)⟩
  case isFalse => cases h
end Go.Proofs.YtgngepbemgbbeaaGreatDoor

namespace Go.Proofs.YtgngepbemgbbeaaGreatDoor

instance : Inhabited Pl := ⟨⟨0, 0⟩⟩
section
variable {α : Type} [Inhabited α] (lt : α → α → Bool)
def swpN (l : List α) (j : Nat) : List α := (l.set (j + 1) (l[j]?.getD default)).set j (l[j + 1]?.getD default)
/-- An element goes down as long as it is less than the one ahead of it. -/
def innerN (l : List α) : Nat → List α
  | 0 => l
  | j + 1 => if lt (l[j + 1]?.getD default) (l[j]?.getD default) then innerN (swpN l j) j else l
def outN (l : List α) (i : Nat) : Nat → List α
  | 0 => l
  | k + 1 => outN (innerN lt l i) (i + 1) k
def sortN (l : List α) : List α := outN lt l 1 (l.length - 1)
theorem swpN_length (l : List α) (j : Nat) : (swpN l j).length = l.length := by simp [swpN]
theorem innerN_length (l : List α) (j : Nat) : (innerN lt l j).length = l.length := by
  induction j generalizing l with
  | zero => rfl
  | succ j ih =>
    unfold innerN
    split
    · rw [ih, swpN_length]
    · rfl
theorem outN_length (l : List α) (i k : Nat) : (outN lt l i k).length = l.length := by
  induction k generalizing l i with
  | zero => rfl
  | succ k ih =>
    unfold outN
    rw [ih, innerN_length]
theorem sortN_length (l : List α) : (sortN lt l).length = l.length := outN_length lt l 1 _
variable {lt}
theorem swpN_mem {l : List α} {j : Nat} (hj : j + 1 < l.length) {x : α} (h : x ∈ swpN l j) : x ∈ l := by
  unfold swpN at h
  have h0 : l[j]?.getD default ∈ l := by rw [List.getElem?_eq_getElem (by omega)]; exact List.getElem_mem _
  have h1 : l[j + 1]?.getD default ∈ l := by rw [List.getElem?_eq_getElem hj]; exact List.getElem_mem _
  rcases List.mem_or_eq_of_mem_set h with h | rfl
  · rcases List.mem_or_eq_of_mem_set h with h | rfl
    · exact h
    · exact h0
  · exact h1
theorem innerN_mem {l : List α} {j : Nat} (hj : j < l.length) {x : α} (h : x ∈ innerN lt l j) : x ∈ l := by
  induction j generalizing l with
  | zero => exact h
  | succ j ih =>
    unfold innerN at h
    split at h
    · exact swpN_mem hj (ih (by rw [swpN_length]; omega) h)
    · exact h
theorem outN_mem {l : List α} {i k : Nat} (hi : i + k ≤ l.length) {x : α} (h : x ∈ outN lt l i k) : x ∈ l := by
  induction k generalizing l i with
  | zero => exact h
  | succ k ih =>
    unfold outN at h
    exact innerN_mem (lt := lt) (by omega) (ih (by rw [innerN_length]; omega) h)
theorem sortN_mem {l : List α} {x : α} (h : x ∈ sortN lt l) : x ∈ l := by
  unfold sortN at h
  cases l with
  | nil => exact h
  | cons y l => exact outN_mem (by simp; omega) h
end
def ltP (a b : Pl) : Bool := decide (a.y < b.y) || (decide (a.y = b.y) && decide (a.x < b.x))
/-- Equal neighbours but the first fall away. -/
def compactL {α : Type} [DecidableEq α] : List α → List α
  | [] => []
  | [x] => [x]
  | x :: y :: l => if x = y then compactL (y :: l) else x :: compactL (y :: l)
def popL {α : Type} (ok : α → α → α → Bool) (x : α) : List α → List α
  | b :: a :: l => if ok a b x then b :: a :: l else popL ok x (a :: l)
  | l => l
/-- The chain, its last element first. -/
def chainR {α : Type} (ok : α → α → α → Bool) (l : List α) : List α := l.foldl (fun out x => x :: popL ok x out) []
def chainL {α : Type} (ok : α → α → α → Bool) (l : List α) : List α := (chainR ok l).reverse
def leftP (a b c : Pl) : Bool := decide (0 < turnP a b c)
def hullL (l : List Pl) : List Pl :=
  let s := compactL (sortN ltP l)
  if s.length < 3 then s else (chainL leftP s).dropLast ++ (chainL leftP s.reverse).dropLast

/-- A whole number, as a fraction that may be there. -/
def whO (n : Int) : Option Rat := makeR n 1
def plO (a b : Option Rat) : Option Rat := lift2 addR a b
def miO (a b : Option Rat) : Option Rat := lift2 subR a b
def tiO (a b : Option Rat) : Option Rat := lift2 mulR a b
def ovO (a b : Option Rat) : Option Rat := lift2 divR a b
def leO (a b : Option Rat) : Bool := decide (cmpOO a b < 0)
def slopeO (a b : Pl) : Option Rat := ovO (whO (b.y - a.y)) (whO (b.x - a.x))
def heightO (a b : Pl) (x : Option Rat) : Option Rat := plO (whO a.y) (tiO (slopeO a b) (miO x (whO a.x)))
def stopO (a b : Pl) (y : Int) : Option Rat := plO (whO a.x) (ovO (whO (y - a.y)) (slopeO a b))
def withinO (r : Rc) (y : Option Rat) : Option Rat :=
  let z := miO y (whO r.y)
  if leO z (whO 0) then whO 0 else if leO (whO r.h) z then whO r.h else z
def leftO (a : Pl) (r : Rc) : Option Rat := whO (max a.x r.x)
def rightO (b : Pl) (r : Rc) : Option Rat := whO (min b.x (r.x + r.w))
def stopsO (a b : Pl) (r : Rc) : List (Option Rat) :=
  [leftO a r, rightO b r] ++ ([r.y, r.y + r.h].filter fun y => decide (a.y ≠ b.y) && leO (leftO a r) (stopO a b y) && leO (stopO a b y) (rightO b r)).map (stopO a b)
def partO (a b : Pl) (r : Rc) (s t : Option Rat) : Option Rat :=
  tiO (ovO (plO (withinO r (heightO a b s)) (withinO r (heightO a b t))) (whO 2)) (miO t s)
def sumO (a b : Pl) (r : Rc) : List (Option Rat) → Option Rat → Option Rat
  | s :: t :: l, acc => sumO a b r (t :: l) (plO acc (partO a b r s t))
  | _, acc => acc
def underO (a b : Pl) (r : Rc) : Option Rat :=
  if leO (leftO a r) (rightO b r) then sumO a b r (sortN leO (stopsO a b r)) (whO 0) else whO 0
def edgesL (l : List Pl) : List (Pl × Pl) := l.zip (l.drop 1 ++ l.take 1)
def coverS (r : Rc) (acc : Option Rat) (e : Pl × Pl) : Option Rat :=
  if e.1.x ≤ e.2.x then miO acc (underO e.1 e.2 r) else plO acc (underO e.2 e.1 r)
def coveredO (l : List Pl) (r : Rc) : Option Rat := (edgesL l).foldl (coverS r) (whO 0)
def area2L (l : List Pl) : Int := ((edgesL l).map fun e => e.1.x * e.2.y - e.1.y * e.2.x).foldl (· + ·) 0

theorem pl_sane1 : hullL [⟨0, 0⟩, ⟨2, 0⟩, ⟨1, 1⟩, ⟨2, 2⟩, ⟨0, 2⟩] = [⟨0, 0⟩, ⟨2, 0⟩, ⟨2, 2⟩, ⟨0, 2⟩] := by decide +kernel
theorem pl_sane2 : hullL [⟨0, 0⟩, ⟨2, 0⟩, ⟨0, 2⟩] = [⟨0, 0⟩, ⟨2, 0⟩, ⟨0, 2⟩] := by decide +kernel
theorem pl_sane3 : coveredO [⟨0, 0⟩, ⟨2, 0⟩, ⟨0, 2⟩] ⟨0, 0, 1, 1⟩ = some 1 := by decide +kernel
theorem pl_sane4 : coveredO [⟨0, 0⟩, ⟨2, 0⟩, ⟨0, 2⟩] ⟨0, 0, 2, 1⟩ = some (Rat.divInt 3 2) := by decide +kernel
theorem pl_sane5 : area2L [⟨0, 0⟩, ⟨2, 0⟩, ⟨0, 2⟩] = 4 := by decide +kernel
end Go.Proofs.YtgngepbemgbbeaaGreatDoor

