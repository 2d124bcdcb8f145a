/-
  Plain facts for the laws of chapter 04: the order crosswise; powers of ten as fractions. No code of the program is named here.
  Plain facts for RationalMachine: fractions of small integers. No code of the program is named here.
  Plain facts for RationalOrder, RationalField and RationalGrid: what holds of the core library's rational numbers. No code of the program is named here.
  The operations on what operations answer: a fraction, or none. No code of the program is named here.
  Plain facts for RationalGrid. No code of the program is named here.
-/
import Derived.Test.YtkekafamfoifmaaGreatDoorZRat
import Derived.Test.YtkekafamfoifmaaGreatDoorZRCmp
namespace Go.Proofs.YtkekafamfoifmaaGreatDoor

theorem cmpR_cross (a b : Rat) : cmpR a b = cmpI (a.num * b.den) (b.num * a.den) := by
  unfold cmpR cmpI
  by_cases h1 : a < b
  · rw [if_pos h1, if_pos ((Rat.lt_iff _ _).1 h1)]
  · rw [if_neg h1, if_neg (fun k => h1 ((Rat.lt_iff _ _).2 k))]
    by_cases h2 : b < a
    · rw [if_pos h2, if_pos ((Rat.lt_iff _ _).1 h2)]
    · rw [if_neg h2, if_neg (fun k => h2 ((Rat.lt_iff _ _).2 k))]
def tenR (k : Nat) : Rat := (((10 : Int) ^ k : Int) : Rat)
theorem tenR_num (k : Nat) : (tenR k).num = 10 ^ k := rfl
theorem tenR_den (k : Nat) : (tenR k).den = 1 := rfl
theorem ten_pos (k : Nat) : 0 < (10 : Int) ^ k := Int.pow_pos (by decide)
theorem small_iff10 {z : Int} : small z = decide (z.natAbs < 10 ^ 200) := by
  unfold small
  exact decide_eq_decide.2 (nDig_le (by decide))
theorem small_ten (k : Nat) : small ((10 : Int) ^ k) = decide (k < 200) := by
  rw [small_iff10, decide_eq_decide, pow_cast, Int.natAbs_natCast]
  exact Nat.pow_lt_pow_iff_right (by decide)
theorem small_ten1 (k : Nat) : small ((10 : Int) ^ k + 1) = decide (k < 200) := by
  have e : ((10 : Int) ^ k + 1).natAbs = 10 ^ k + 1 := by rw [pow_cast]; generalize 10 ^ k = n; omega
  rw [small_iff10, decide_eq_decide, e]
  constructor
  · intro h
    exact (Nat.pow_lt_pow_iff_right (a := 10) (by decide)).1 (by omega)
  · intro h
    have h1 : 10 ^ k ≤ 10 ^ 199 := Nat.pow_le_pow_right (by decide) (by omega)
    have h2 : (10 : Nat) ^ 200 = 10 ^ 199 * 10 := Nat.pow_succ ..
    have h3 : 0 < (10 : Nat) ^ 199 := Nat.pow_pos (by decide)
    generalize (10 : Nat) ^ 199 = a at h1 h2 h3
    omega
theorem small_one : small 1 = true := by decide +kernel
theorem tenR_fits {k : Nat} (h : k < 200) : fitsR (tenR k) := ⟨by rw [tenR_num, small_ten]; exact decide_eq_true h, small_one⟩
theorem ratO_ten {k : Nat} (h : k < 200) : ratO (str ((10 : Int) ^ k)) ⟨#[49]⟩ = some (tenR k) := by
  have h1 := ratO_str (tenR_fits h)
  rw [tenR_num, tenR_den, show (((1 : Nat)) : Int) = 1 from rfl] at h1
  rw [str_one']
  exact h1
theorem ratO_one : ratO ⟨#[49]⟩ ⟨#[49]⟩ = some 1 := by
  rw [str_one']
  exact ratO_str (r := 1) ⟨small_one, small_one⟩
theorem tenth_low (k : Nat) : (Rat.divInt 1 (10 ^ k)).num = 1 ∧ ((Rat.divInt 1 (10 ^ k)).den : Int) = 10 ^ k := low_num (ten_pos k) (by simp)
theorem ratO_tenth {k : Nat} (h : k < 200) : ratO ⟨#[49]⟩ (str ((10 : Int) ^ k)) = some (Rat.divInt 1 (10 ^ k)) := by
  obtain ⟨e1, e2⟩ := tenth_low k
  have hf : fitsR (Rat.divInt 1 (10 ^ k)) := by
    unfold fitsR
    rw [e1, e2, small_ten]
    exact ⟨small_one, decide_eq_true h⟩
  have := ratO_str hf
  rw [e1, e2] at this
  rw [str_one']
  exact this
theorem lim_div {m : Nat} (h : m < 200) : op2 divR ⟨#[49]⟩ ⟨#[49]⟩ (str ((10 : Int) ^ m)) ⟨#[49]⟩ = some (Rat.divInt 1 (10 ^ m)) := by
  rw [op2_some ratO_one (ratO_ten h)]
  unfold divR
  have e1 : (1 : Rat).num * ((tenR m).den : Int) = 1 := rfl
  have e2 : ((1 : Rat).den : Int) * (tenR m).num = 10 ^ m := by rw [tenR_num]; exact Int.one_mul _
  rw [div_eq, e1, e2]
  refine if_pos ⟨small_one, ?_, ?_⟩
  · rw [small_ten]; exact decide_eq_true h
  · rw [tenR_num]
    have := ten_pos m
    omega
theorem lim_divS {m : Nat} (h : m < 200) : qN (op2 divR ⟨#[49]⟩ ⟨#[49]⟩ (str ((10 : Int) ^ m)) ⟨#[49]⟩) = ⟨#[49]⟩ ∧ qD (op2 divR ⟨#[49]⟩ ⟨#[49]⟩ (str ((10 : Int) ^ m)) ⟨#[49]⟩) = str ((10 : Int) ^ m) ∧ qE (op2 divR ⟨#[49]⟩ ⟨#[49]⟩ (str ((10 : Int) ^ m)) ⟨#[49]⟩) = 0 := by
  rw [lim_div h, qN_some, qD_some, (tenth_low m).1, (tenth_low m).2]
  exact ⟨rfl, rfl, rfl⟩
theorem lim_mul {n m : Nat} (hn : n < 200) (hm : m < 200) : op2 mulR (str ((10 : Int) ^ n)) ⟨#[49]⟩ (str ((10 : Int) ^ m)) ⟨#[49]⟩ = if n + m < 200 then some (tenR n * tenR m) else none := by
  rw [op2_some (ratO_ten hn) (ratO_ten hm)]
  unfold mulR
  have e1 : (tenR n).num * (tenR m).num = 10 ^ (n + m) := by rw [tenR_num, tenR_num, Int.pow_add]
  have e2 : ((tenR n).den : Int) * ((tenR m).den : Int) = 1 := rfl
  rw [e1, e2, small_ten]
  by_cases h : n + m < 200
  · rw [if_pos h, if_pos ⟨decide_eq_true h, small_one⟩]
  · rw [if_neg h, if_neg (fun k => h (of_decide_eq_true k.1))]
theorem lim_add {n m : Nat} (hn : n < 200) (hm : m < 200) : op2 addR (str ((10 : Int) ^ n)) ⟨#[49]⟩ ⟨#[49]⟩ (str ((10 : Int) ^ m)) = if n + m < 200 then some (tenR n + Rat.divInt 1 (10 ^ m)) else none := by
  rw [op2_some (ratO_ten hn) (ratO_tenth hm)]
  unfold addR
  obtain ⟨k1, k2⟩ := tenth_low m
  have e1 : (tenR n).num * (10 : Int) ^ m = 10 ^ (n + m) := by rw [tenR_num, Int.pow_add]
  have e2 : (Rat.divInt 1 (10 ^ m)).num * ((tenR n).den : Int) = 1 := by rw [k1]; rfl
  have e3 : ((tenR n).den : Int) * (10 : Int) ^ m = 10 ^ m := Int.one_mul _
  rw [k2, e1, e2, e3, small_ten, small_ten1, small_ten]
  by_cases h : n + m < 200
  · rw [if_pos h, if_pos ⟨decide_eq_true h, small_one, decide_eq_true h, decide_eq_true hm⟩]
  · rw [if_neg h, if_neg (fun k => h (of_decide_eq_true k.1))]
theorem cmpI_pow (n m : Nat) : cmpI ((10 : Int) ^ n) (10 ^ m) = cmpI (n : Int) (m : Int) := by
  have key : ∀ a b : Nat, (10 : Int) ^ a < 10 ^ b ↔ (a : Int) < b := fun a b => by
    rw [pow_cast, pow_cast, Int.ofNat_lt, Int.ofNat_lt]
    exact Nat.pow_lt_pow_iff_right (by decide)
  unfold cmpI
  by_cases h1 : (n : Int) < m
  · rw [if_pos h1, if_pos ((key _ _).2 h1)]
  · rw [if_neg h1, if_neg (fun k => h1 ((key _ _).1 k))]
    by_cases h2 : (m : Int) < n
    · rw [if_pos h2, if_pos ((key _ _).2 h2)]
    · rw [if_neg h2, if_neg (fun k => h2 ((key _ _).1 k))]
theorem lim_cmp1 {n m : Nat} (hn : n < 200) (hm : m < 200) : cmpS (str ((10 : Int) ^ n)) ⟨#[49]⟩ (str ((10 : Int) ^ m)) ⟨#[49]⟩ = cmpI (n : Int) (m : Int) := by
  rw [cmpS_some (ratO_ten hn) (ratO_ten hm), cmpR_cross, tenR_num, tenR_num, tenR_den, tenR_den, ← cmpI_pow]
  congr 1 <;> exact Int.mul_one _
theorem lim_cmp2 {n m : Nat} (hn : n < 200) (hm : m < 200) : cmpS (str ((10 : Int) ^ n)) ⟨#[49]⟩ ⟨#[49]⟩ (str ((10 : Int) ^ m)) = if n = 0 ∧ m = 0 then 0 else 1 := by
  obtain ⟨k1, k2⟩ := tenth_low m
  rw [cmpS_some (ratO_ten hn) (ratO_tenth hm), cmpR_cross, k1, k2, tenR_num, tenR_den]
  have e1 : (10 : Int) ^ n * 10 ^ m = 10 ^ (n + m) := (Int.pow_add ..).symm
  have e2 : (1 : Int) * ((1 : Nat) : Int) = 10 ^ 0 := rfl
  rw [e1, e2, cmpI_pow]
  unfold cmpI
  by_cases h : n = 0 ∧ m = 0
  · rw [if_pos h, if_neg (by omega), if_neg (by omega)]
  · rw [if_neg h, if_neg (by omega), if_pos (by omega)]
end Go.Proofs.YtkekafamfoifmaaGreatDoor

namespace Go.Proofs.YtkekafamfoifmaaGreatDoor

theorem rat_cross {r : Rat} {p q : Int} (hq : q ≠ 0) (h : r = Rat.divInt p q) : r.num * q = p * r.den := by
  have h1 : Rat.divInt r.num r.den = Rat.divInt p q := by rw [Rat.num_divInt_den]; exact h
  exact (Rat.divInt_eq_divInt_iff (by have := rat_dpos r; omega) hq).1 h1
/-- A fraction of two integers of at most b in size, the denominator at least 1. -/
theorem rat_le {p q : Int} (hq : 0 < q) : (Rat.divInt p q).num.natAbs ≤ p.natAbs ∧ (Rat.divInt p q).den ≤ q.natAbs := by
  have hg : 0 < Nat.gcd p.natAbs q.natAbs := gcd_pos (by omega)
  have h1 := num_pos (p := p) hq
  have h2 := den_pos (p := p) hq
  constructor
  · rw [h1]
    exact Int.natAbs_ediv_le_natAbs _ _
  · have h3 : (((Rat.divInt p q).den : Int)).natAbs ≤ q.natAbs := by
      rw [h2]
      exact Int.natAbs_ediv_le_natAbs _ _
    simpa using h3
theorem small_of_le {z : Int} (h : z.natAbs ≤ 10 ^ 100) : small z = true := by
  rw [small_iff10, decide_eq_true_iff]
  refine Nat.lt_of_le_of_lt h ?_
  exact (Nat.pow_lt_pow_iff_right (by decide)).2 (by decide)
theorem ten100 : (10 : Nat) ^ 10 ≤ 10 ^ 100 := Nat.pow_le_pow_right (by decide) (by decide)
/-- Both integers of at most 30000. -/
structure Mch (r : Rat) : Prop where
  n : r.num.natAbs ≤ 30000
  d : r.den ≤ 30000
theorem Mch.fits {r : Rat} (h : Mch r) : fitsR r := by
  obtain ⟨h1, h2⟩ := h
  have := ten100
  exact ⟨small_of_le (by omega), small_of_le (by rw [Int.natAbs_natCast]; omega)⟩
theorem Mch.of {p q : Int} (hq : 0 < q) (h1 : p.natAbs ≤ 30000) (h2 : q ≤ 30000) : Mch (Rat.divInt p q) := by
  obtain ⟨k1, k2⟩ := rat_le (p := p) hq
  exact ⟨by omega, by omega⟩
theorem mul_le9 {x y : Int} (hx : x.natAbs ≤ 30000) (hy : y.natAbs ≤ 30000) : (x * y).natAbs ≤ 900000000 := by
  rw [Int.natAbs_mul]
  exact Nat.mul_le_mul hx hy
theorem Mch.mul {a b : Rat} (ha : Mch a) (hb : Mch b) : small (a.num * b.den) = true ∧ small (b.num * a.den) = true ∧ small (a.num * b.den + b.num * a.den) = true ∧ small (a.num * b.den - b.num * a.den) = true ∧ small ((a.den : Int) * b.den) = true ∧ small (a.num * b.num) = true ∧ small ((a.den : Int) * b.num) = true := by
  obtain ⟨a1, a2⟩ := ha
  obtain ⟨b1, b2⟩ := hb
  have a2' : (a.den : Int).natAbs ≤ 30000 := by rw [Int.natAbs_natCast]; exact a2
  have b2' : (b.den : Int).natAbs ≤ 30000 := by rw [Int.natAbs_natCast]; exact b2
  have h1 := mul_le9 a1 b2'
  have h2 := mul_le9 b1 a2'
  have h3 := mul_le9 a2' b2'
  have h4 := mul_le9 a1 b1
  have h5 := mul_le9 a2' b1
  have := ten100
  exact ⟨small_of_le (by omega), small_of_le (by omega), small_of_le (by omega), small_of_le (by omega), small_of_le (by omega), small_of_le (by omega), small_of_le (by omega)⟩
theorem Mch.add {a b : Rat} (ha : Mch a) (hb : Mch b) : addR a b = some (a + b) := by
  obtain ⟨h1, h2, h3, h4, h5, h6, h7⟩ := ha.mul hb
  exact if_pos ⟨h1, h2, h3, h5⟩
theorem Mch.sub {a b : Rat} (ha : Mch a) (hb : Mch b) : subR a b = some (a - b) := by
  obtain ⟨h1, h2, h3, h4, h5, h6, h7⟩ := ha.mul hb
  exact if_pos ⟨h1, h2, h4, h5⟩
theorem Mch.mulR {a b : Rat} (ha : Mch a) (hb : Mch b) : mulR a b = some (a * b) := by
  obtain ⟨h1, h2, h3, h4, h5, h6, h7⟩ := ha.mul hb
  exact if_pos ⟨h6, h5⟩
theorem Mch.div {a b : Rat} (ha : Mch a) (hb : Mch b) (h0 : b.num ≠ 0) : divR a b = some (a / b) := by
  obtain ⟨h1, h2, h3, h4, h5, h6, h7⟩ := ha.mul hb
  exact if_pos ⟨h1, h7, h0⟩
theorem Mch.div0 {a b : Rat} (h0 : b.num = 0) : divR a b = none := if_neg (fun k => k.2.2 h0)
/-- The numbers of the machine: the four results, by the integers that the fractions are made of. -/
structure MchV (r : Rat) (p q : Int) : Prop where
  x : r.num * q = p * r.den
  n : r.num.natAbs ≤ p.natAbs
  d : r.den ≤ q.natAbs
theorem MchV.of {p q : Int} (hq : 0 < q) : MchV (Rat.divInt p q) p q := ⟨rat_cross (by omega) rfl, (rat_le hq).1, (rat_le hq).2⟩
theorem MchV.of_neg {p q : Int} (hq : q < 0) : MchV (Rat.divInt p q) p q := by
  have h := MchV.of (p := -p) (q := -q) (by omega)
  rw [Rat.neg_divInt_neg] at h
  obtain ⟨h1, h2, h3⟩ := h
  refine ⟨?_, by omega, by omega⟩
  rw [Int.mul_neg, Int.neg_mul] at h1
  omega
theorem mch_add {n d m c : Int} (hd : d ≠ 0) (hc : c ≠ 0) : Rat.divInt n d + Rat.divInt m c = Rat.divInt (n * c + m * d) (d * c) := Rat.divInt_add_divInt _ _ hd hc
theorem mch_sub {n d m c : Int} (hd : d ≠ 0) (hc : c ≠ 0) : Rat.divInt n d - Rat.divInt m c = Rat.divInt (n * c - m * d) (d * c) := Rat.divInt_sub_divInt _ _ hd hc
theorem mch_mul {n d m c : Int} : Rat.divInt n d * Rat.divInt m c = Rat.divInt (n * m) (d * c) := Rat.divInt_mul_divInt _ _
theorem mch_div {n d m c : Int} : Rat.divInt n d / Rat.divInt m c = Rat.divInt (n * c) (d * m) := by
  rw [Rat.div_def, Rat.inv_divInt, Rat.divInt_mul_divInt]
theorem lt_divInt {n d m c : Int} (hd : 0 < d) (hc : 0 < c) : Rat.divInt n d < Rat.divInt m c ↔ n * c < m * d := by
  have x1 := rat_cross (r := Rat.divInt n d) (by omega) rfl
  have x2 := rat_cross (r := Rat.divInt m c) (by omega) rfl
  have p1 := rat_dpos (Rat.divInt n d)
  have p2 := rat_dpos (Rat.divInt m c)
  rw [Rat.lt_iff]
  generalize (Rat.divInt n d).num = a at x1 ⊢
  generalize ((Rat.divInt n d).den : Int) = b at x1 p1 ⊢
  generalize (Rat.divInt m c).num = e at x2 ⊢
  generalize ((Rat.divInt m c).den : Int) = f at x2 p2 ⊢
  have h1 : a * f < e * b ↔ (a * f) * (d * c) < (e * b) * (d * c) := (Int.mul_lt_mul_right (Int.mul_pos hd hc)).symm
  have h2 : n * c < m * d ↔ (n * c) * (b * f) < (m * d) * (b * f) := (Int.mul_lt_mul_right (Int.mul_pos p1 p2)).symm
  have e1 : (a * f) * (d * c) = (n * c) * (b * f) := by
    have : (a * f) * (d * c) = (a * d) * (f * c) := by ac_rfl
    rw [this, x1]
    ac_rfl
  have e2 : (e * b) * (d * c) = (m * d) * (b * f) := by
    have : (e * b) * (d * c) = (e * c) * (b * d) := by ac_rfl
    rw [this, x2]
    ac_rfl
  rw [h1, h2, e1, e2]
theorem mch_cmp {n d m c : Int} (hd : 0 < d) (hc : 0 < c) : cmpR (Rat.divInt n d) (Rat.divInt m c) = cmpI (n * c) (m * d) := by
  have key : ∀ {n d m c : Int}, 0 < d → 0 < c → (Rat.divInt n d < Rat.divInt m c ↔ n * c < m * d) := fun hd hc => lt_divInt hd hc
  unfold cmpR cmpI
  by_cases h1 : n * c < m * d
  · rw [if_pos h1, if_pos ((key hd hc).2 h1)]
  · rw [if_neg h1, if_neg (fun k => h1 ((key hd hc).1 k))]
    by_cases h2 : m * d < n * c
    · rw [if_pos h2, if_pos ((key hc hd).2 h2)]
    · rw [if_neg h2, if_neg (fun k => h2 ((key hc hd).1 k))]
end Go.Proofs.YtkekafamfoifmaaGreatDoor

namespace Go.Proofs.YtkekafamfoifmaaGreatDoor

/-- Sum and product keep the order. -/
theorem cmpR_add (a b t : Rat) : cmpR (a + t) (b + t) = cmpR a b := cmpR_congr Rat.add_lt_add_right Rat.add_lt_add_right
theorem cmpR_sub (a b : Rat) : cmpR (a - b) 0 = cmpR a b := by
  have h := cmpR_add (a - b) 0 b
  rw [Rat.sub_add_cancel, Rat.zero_add] at h
  exact h.symm
theorem cmpR_neg (a b : Rat) : cmpR (-a) (-b) = cmpR b a := cmpR_congr Rat.neg_lt_neg_iff Rat.neg_lt_neg_iff
theorem cmpR_mul (a b t : Rat) : cmpR (a * t) (b * t) = cmpR a b * cmpR t 0 := by
  rcases cmpR_cases t 0 with ⟨h, e⟩ | ⟨h, e⟩ | ⟨h, e⟩
  · rw [e]
    have hp : 0 < -t := by
      have := Rat.neg_lt_neg_iff.2 h
      rwa [Rat.neg_zero] at this
    have h2 : cmpR (a * -t) (b * -t) = cmpR a b := cmpR_congr (Rat.mul_lt_mul_right hp) (Rat.mul_lt_mul_right hp)
    rw [Rat.mul_neg, Rat.mul_neg, cmpR_neg, cmpR_swap] at h2
    omega
  · rw [e, h, Rat.mul_zero, Rat.mul_zero, cmpR_eq]
    omega
  · rw [e]
    have h2 : cmpR (a * t) (b * t) = cmpR a b := cmpR_congr (Rat.mul_lt_mul_right h) (Rat.mul_lt_mul_right h)
    rw [h2]
    omega
theorem cmpR_le_trans {a b c : Rat} (h1 : cmpR a b ≤ 0) (h2 : cmpR b c ≤ 0) : cmpR a c ≤ 0 := by
  have key : ∀ {x y : Rat}, cmpR x y ≤ 0 → x ≤ y := fun {x y} h => by
    rcases cmpR_cases x y with ⟨k, e⟩ | ⟨k, e⟩ | ⟨k, e⟩
    · exact Rat.le_of_lt k
    · exact k ▸ Rat.le_refl
    · omega
  have h3 := Rat.le_trans (key h1) (key h2)
  rcases cmpR_cases a c with ⟨k, e⟩ | ⟨k, e⟩ | ⟨k, e⟩
  · omega
  · omega
  · exact absurd h3 (Rat.not_le.2 k)
theorem cmpR_lt_trans {a b c : Rat} (h1 : cmpR a b ≤ 0) (h2 : cmpR b c < 0) : cmpR a c < 0 := by
  have h3 := cmpR_le_trans h1 (show cmpR b c ≤ 0 by omega)
  rcases cmpR_cases a c with ⟨k, e⟩ | ⟨k, e⟩ | ⟨k, e⟩
  · omega
  · subst k
    rw [cmpR_swap] at h2
    omega
  · omega
theorem cmpR_zero {a b : Rat} : cmpR a b = 0 ↔ a = b := by
  rcases cmpR_cases a b with ⟨k, e⟩ | ⟨k, e⟩ | ⟨k, e⟩
  · refine ⟨fun h => by omega, fun h => ?_⟩
    rw [h] at k
    exact absurd k Rat.lt_irrefl
  · exact ⟨fun _ => k, fun _ => e⟩
  · refine ⟨fun h => by omega, fun h => ?_⟩
    rw [h] at k
    exact absurd k Rat.lt_irrefl
theorem cmpR_range (a b : Rat) : -1 ≤ cmpR a b ∧ cmpR a b ≤ 1 := by
  rcases cmpR_cases a b with ⟨_, e⟩ | ⟨_, e⟩ | ⟨_, e⟩ <;> omega
end Go.Proofs.YtkekafamfoifmaaGreatDoor

namespace Go.Proofs.YtkekafamfoifmaaGreatDoor

/-- What is there fits. -/
def FO (o : Option Rat) : Prop := ∀ r, o = some r → fitsR r
theorem FO.no : FO none := fun _ h => nomatch h
theorem FO.of {r : Rat} (h : fitsR r) : FO (some r) := fun _ k => by cases k; exact h
theorem numOf_nil : numOf ⟨#[]⟩ = none := by decide +kernel
theorem ratO_nil (d : ByteArray) : ratO ⟨#[]⟩ d = none := by unfold ratO; rw [numOf_nil]
theorem ratO_q {o : Option Rat} (h : FO o) : ratO (qN o) (qD o) = o := by
  cases o with
  | none => exact ratO_nil _
  | some r => exact ratO_str (h r rfl)
/-- An operation on what may be there. -/
def lift2 (f : Rat → Rat → Option Rat) (x y : Option Rat) : Option Rat := match x, y with | some a, some b => f a b | _, _ => none
theorem op2_q {f : Rat → Rat → Option Rat} {x y : Option Rat} (hx : FO x) (hy : FO y) : op2 f (qN x) (qD x) (qN y) (qD y) = lift2 f x y := by
  unfold op2 lift2
  rw [ratO_q hx, ratO_q hy]
  cases x <;> cases y <;> rfl
def cmpOO (x y : Option Rat) : Int := match x, y with | some a, some b => cmpR a b | _, _ => 0
theorem cmpS_q {x y : Option Rat} (hx : FO x) (hy : FO y) : cmpS (qN x) (qD x) (qN y) (qD y) = cmpOO x y := by
  unfold cmpS cmpOO
  rw [ratO_q hx, ratO_q hy]
  cases x <;> cases y <;> rfl
theorem FO.lift {f : Rat → Rat → Option Rat} (hf : ∀ {a b r : Rat}, f a b = some r → fitsR r) (x y : Option Rat) : FO (lift2 f x y) := fun r h => by
  unfold lift2 at h
  cases x with
  | none => cases h
  | some a =>
    cases y with
    | none => cases h
    | some b => exact hf h
theorem FO.add (x y : Option Rat) : FO (lift2 addR x y) := FO.lift add_fits x y
theorem FO.sub (x y : Option Rat) : FO (lift2 subR x y) := FO.lift sub_fits x y
theorem FO.mul (x y : Option Rat) : FO (lift2 mulR x y) := FO.lift mul_fits x y
theorem FO.div (x y : Option Rat) : FO (lift2 divR x y) := FO.lift div_fits x y
theorem qN_sz (o : Option Rat) (h : FO o) : Sz (qN o) := by
  cases o with
  | none => exact sz_nil
  | some r => rw [qN_some, ← opS_small (h r rfl).1]; exact opS_sz _
theorem qD_sz (o : Option Rat) (h : FO o) : Sz (qD o) := by
  cases o with
  | none => exact sz_nil
  | some r => rw [qD_some, ← opS_small (h r rfl).2]; exact opS_sz _
/-- Two answers have the same texts exactly if they are equal. -/
theorem q_inj {x y : Option Rat} (h : qN x = qN y) (k : qD x = qD y) : x = y := by
  have ne : ∀ r : Rat, str r.num ≠ ⟨#[]⟩ := fun r e => by
    have h2 : (str r.num).data.toList = [] := by rw [e]
    rw [str_list] at h2
    unfold txt at h2
    split at h2
    · exact absurd h2 (by simp)
    · by_cases h7 : r.num.natAbs = 0
      · rw [h7] at h2
        exact absurd h2 (by decide)
      · rw [txtN_pos (by omega)] at h2
        have h8 := congrArg List.length h2
        simp at h8
        exact h7 ((dig_nil (by decide)).1 h8)
  have inj : ∀ {a b : Int}, str a = str b → a = b := fun {a b} e => by
    have h2 : (str a).data.toList = (str b).data.toList := by rw [e]
    rw [str_list, str_list] at h2
    exact txt_inj h2
  cases x with
  | none =>
    cases y with
    | none => rfl
    | some r => exact absurd h.symm (ne r)
  | some r =>
    cases y with
    | none => exact absurd h (ne r)
    | some s =>
      have h1 := inj h
      have h2 : (r.den : Int) = s.den := inj k
      have h3 : r = s := Rat.ext h1 (by omega)
      rw [h3]
theorem addR_comm (a b : Rat) : addR a b = addR b a := by
  unfold addR
  rw [Rat.add_comm a b, Int.add_comm (a.num * b.den), Int.mul_comm (a.den : Int)]
  by_cases h : small (a.num * b.den) = true ∧ small (b.num * a.den) = true ∧ small (b.num * a.den + a.num * b.den) = true ∧ small ((b.den : Int) * a.den) = true
  · rw [if_pos h, if_pos ⟨h.2.1, h.1, h.2.2.1, h.2.2.2⟩]
  · rw [if_neg h, if_neg (fun k => h ⟨k.2.1, k.1, k.2.2.1, k.2.2.2⟩)]
theorem mulR_comm (a b : Rat) : mulR a b = mulR b a := by
  unfold mulR
  rw [Rat.mul_comm a b, Int.mul_comm a.num, Int.mul_comm (a.den : Int)]
theorem addR_val {a b r : Rat} (h : addR a b = some r) : r = a + b := by
  unfold addR at h
  split at h <;> cases h
  rfl
theorem subR_val {a b r : Rat} (h : subR a b = some r) : r = a - b := by
  unfold subR at h
  split at h <;> cases h
  rfl
theorem mulR_val {a b r : Rat} (h : mulR a b = some r) : r = a * b := by
  unfold mulR at h
  split at h <;> cases h
  rfl
theorem divR_val {a b r : Rat} (h : divR a b = some r) : r = a / b ∧ b ≠ 0 := by
  unfold divR at h
  split at h
  case isTrue hc =>
    cases h
    exact ⟨rfl, fun e => hc.2.2 (by rw [e]; rfl)⟩
  case isFalse => cases h
end Go.Proofs.YtkekafamfoifmaaGreatDoor

namespace Go.Proofs.YtkekafamfoifmaaGreatDoor

/-- A fraction of integers of at most 100 digits. -/
structure L100 (r : Rat) : Prop where
  n : r.num.natAbs < 10 ^ 100
  d : r.den < 10 ^ 100
theorem small_pw {z : Int} {k : Nat} (hk : k ≤ 200) (h : z.natAbs < 10 ^ k) : small z = true := by
  rw [small_iff10, decide_eq_true_iff]
  exact Nat.lt_of_lt_of_le h (Nat.pow_le_pow_right (by decide) hk)
theorem mul_pw {x y : Int} {j k : Nat} (hx : x.natAbs < 10 ^ j) (hy : y.natAbs < 10 ^ k) : (x * y).natAbs < 10 ^ (j + k) := by
  rw [Int.natAbs_mul, Nat.pow_add]
  exact Nat.mul_lt_mul'' hx hy
theorem pw_mono {z : Int} {j k : Nat} (h : z.natAbs < 10 ^ j) (hk : j ≤ k) : z.natAbs < 10 ^ k := Nat.lt_of_lt_of_le h (Nat.pow_le_pow_right (by decide) hk)
theorem ten_abs (k : Nat) : ((10 : Int) ^ k).natAbs = 10 ^ k := by rw [pow_cast, Int.natAbs_natCast]
theorem L100.fits {r : Rat} (h : L100 r) : fitsR r := ⟨small_pw (k := 100) (by decide) h.n, small_pw (k := 100) (by decide) (by rw [Int.natAbs_natCast]; exact h.d)⟩
/-- A multiple of the grid is left as it is. -/
theorem grid_cross (z : Int) (k : Nat) : (Rat.divInt z (10 ^ k)).num * 10 ^ k = z * (Rat.divInt z (10 ^ k)).den := rat_cross (by have := ten_pos k; omega) rfl
theorem grid_sz {z : Int} {k j : Nat} (hz : z.natAbs < 10 ^ j) : (Rat.divInt z (10 ^ k)).num.natAbs < 10 ^ j ∧ (Rat.divInt z (10 ^ k)).den ≤ 10 ^ k := by
  obtain ⟨h1, h2⟩ := rat_le (p := z) (ten_pos k)
  rw [ten_abs] at h2
  exact ⟨by omega, h2⟩
theorem grid_make (z : Int) (k : Nat) : makeR z (10 ^ k) = some (Rat.divInt z (10 ^ k)) := if_neg (by have := ten_pos k; omega)
theorem grid_small {z : Int} {k j : Nat} (hz : z.natAbs < 10 ^ j) (hj : j + (k + 1) ≤ 200) : small ((Rat.divInt z (10 ^ k)).num * 10 ^ k) = true :=
  small_pw hj (mul_pw (grid_sz (k := k) hz).1 (by rw [ten_abs]; exact (Nat.pow_lt_pow_iff_right (by decide)).2 (by omega)))
theorem grid_down {z : Int} {k j : Nat} (hz : z.natAbs < 10 ^ j) (hj : j + (k + 1) ≤ 200) : downR (Rat.divInt z (10 ^ k)) k = some (Rat.divInt z (10 ^ k)) := by
  unfold downR
  rw [if_pos (grid_small hz hj), grid_cross, Int.mul_ediv_cancel _ (by have := rat_dpos (Rat.divInt z (10 ^ k)); omega), grid_make]
theorem grid_up {z : Int} {k j : Nat} (hz : z.natAbs < 10 ^ j) (hj : j + (k + 1) ≤ 200) : upR (Rat.divInt z (10 ^ k)) k = some (Rat.divInt z (10 ^ k)) := by
  unfold upR
  rw [if_pos (grid_small hz hj), grid_cross, Int.mul_emod_left, if_pos rfl, Int.mul_ediv_cancel _ (by have := rat_dpos (Rat.divInt z (10 ^ k)); omega), grid_make]
theorem grid_sub0 {x : Rat} (h : fitsR x) : subR 0 x = some (-x) := by
  unfold subR
  have e1 : (0 : Rat).num * (x.den : Int) = 0 := Int.zero_mul _
  have e2 : x.num * ((0 : Rat).den : Int) = x.num := Int.mul_one _
  have e3 : ((0 : Rat).den : Int) * (x.den : Int) = x.den := Int.one_mul _
  rw [e1, e2, e3, Int.zero_sub]
  have e4 : (0 : Rat) - x = -x := by rw [Rat.sub_eq_add_neg, Rat.zero_add]
  rw [e4]
  exact if_pos ⟨by decide +kernel, h.1, small_neg h.1, h.2⟩
theorem neg_ediv_cases (P D : Int) (hD : 0 < D) : -P / D = if P % D = 0 then -(P / D) else -(P / D + 1) := by
  have h1 := Int.emod_add_mul_ediv P D
  have h2 := Int.emod_nonneg P (show D ≠ 0 by omega)
  have h3 := Int.emod_lt_of_pos P hD
  generalize P / D = q at h1 ⊢
  generalize P % D = m at h1 h2 h3 ⊢
  split
  case isTrue hm =>
    have e : -P = -q * D := by rw [← h1, hm, Int.zero_add, Int.neg_mul, Int.mul_comm]
    rw [e, Int.mul_ediv_cancel _ (by omega)]
  case isFalse hm =>
    have e : -P = (D - m) + D * (-(q + 1)) := by
      rw [← h1, Int.mul_neg, Int.mul_add]
      omega
    rw [e, Int.add_mul_ediv_left _ _ (by omega), Int.ediv_eq_zero_of_lt (by omega) (by omega)]
    omega
/-- All that the law asks, for a fraction of at most 100 digits. -/
structure GrdV (r : Rat) (k : Nat) (q e : Int) : Prop where
  e01 : e = 0 ∨ e = 1
  dn : downR r k = some (Rat.divInt q (10 ^ k))
  up : upR r k = some (Rat.divInt (q + e) (10 ^ k))
  ng : subR 0 r = some (-r)
  dg : downR (-r) k = some (-Rat.divInt (q + e) (10 ^ k))
  nn : subR 0 (-Rat.divInt (q + e) (10 ^ k)) = some (Rat.divInt (q + e) (10 ^ k))
  le : cmpR (Rat.divInt q (10 ^ k)) r ≤ 0
  ge : 0 ≤ cmpR (Rat.divInt (q + e) (10 ^ k)) r
  ag : downR (Rat.divInt (q + e) (10 ^ k)) k = some (Rat.divInt (q + e) (10 ^ k))
  tw : upR (Rat.divInt q (10 ^ k)) k = some (Rat.divInt q (10 ^ k))
  ml : mulR (Rat.divInt q (10 ^ k)) (tenR k) = some (q : Rat)
  wd : subR (Rat.divInt (q + e) (10 ^ k)) (Rat.divInt q (10 ^ k)) = some (Rat.divInt e (10 ^ k))
  e1 : cmpR (Rat.divInt q (10 ^ k)) r = 0 ↔ e = 0
  e2 : cmpR (Rat.divInt (q + e) (10 ^ k)) r = 0 ↔ e = 0
theorem tenR_div (k : Nat) : tenR k = Rat.divInt (10 ^ k) 1 := (Rat.num_divInt_den (tenR k)).symm
theorem grd_main {r : Rat} (h : L100 r) {k : Nat} (hk : k ≤ 30) : ∃ q e, GrdV r k q e := by
  have hD := rat_dpos r
  have hT := ten_pos k
  have hPs : (r.num * 10 ^ k).natAbs < 10 ^ (100 + (k + 1)) := mul_pw h.n (by rw [ten_abs]; exact (Nat.pow_lt_pow_iff_right (by decide)).2 (by omega))
  have sP : small (r.num * 10 ^ k) = true := small_pw (by omega) hPs
  have er : r = Rat.divInt r.num r.den := (Rat.num_divInt_den r).symm
  obtain ⟨P, eP⟩ : ∃ P, P = r.num * 10 ^ k := ⟨_, rfl⟩
  have h1 := Int.emod_add_mul_ediv P r.den
  have h2 := Int.emod_nonneg P (show (r.den : Int) ≠ 0 by omega)
  have h3 := Int.emod_lt_of_pos P hD
  have hneg := neg_ediv_cases P r.den hD
  have eN : (-r).num * 10 ^ k = -P := by rw [Rat.neg_num, Int.neg_mul, eP]
  have qle : (P / (r.den : Int)).natAbs ≤ P.natAbs := Int.natAbs_ediv_le_natAbs _ _
  refine ⟨P / r.den, if P % (r.den : Int) = 0 then 0 else 1, ?_⟩
  have he : (if P % (r.den : Int) = 0 then (0 : Int) else 1) = 0 ∧ P % (r.den : Int) = 0 ∨ (if P % (r.den : Int) = 0 then (0 : Int) else 1) = 1 ∧ P % (r.den : Int) ≠ 0 := by
    by_cases hm : P % (r.den : Int) = 0
    · exact .inl ⟨if_pos hm, hm⟩
    · exact .inr ⟨if_neg hm, hm⟩
  have hup : upR r k = makeR (P / r.den + (if P % (r.den : Int) = 0 then 0 else 1)) (10 ^ k) := by
    unfold upR
    rw [if_pos sP, ← eP]
    split
    · rw [Int.add_zero]
    · rfl
  have hdg : -P / (r.den : Int) = -(P / r.den + (if P % (r.den : Int) = 0 then 0 else 1)) := by
    rw [hneg]
    split
    · rw [Int.add_zero]
    · rfl
  generalize (if P % (r.den : Int) = 0 then (0 : Int) else 1) = e at he hup hdg ⊢
  have hdn : downR r k = makeR (P / r.den) (10 ^ k) := by
    unfold downR
    rw [if_pos sP, ← eP]
  have hdn2 : downR (-r) k = makeR (-P / r.den) (10 ^ k) := by
    unfold downR
    rw [eN, if_pos (small_neg (by rw [eP]; exact sP)), Rat.neg_den]
  clear hneg
  rw [← eP] at hPs
  generalize P / (r.den : Int) = q at h1 hup hdg hdn hdn2 qle ⊢
  generalize P % (r.den : Int) = m at h1 h2 h3 he
  have hpw : (10 : Nat) ^ (100 + (k + 1)) * 10 ≤ 10 ^ (100 + (k + 2)) := by rw [show 100 + (k + 2) = (100 + (k + 1)) + 1 by omega, Nat.pow_succ]; exact Nat.le_refl _
  have hqs : q.natAbs < 10 ^ (100 + (k + 2)) := by omega
  have hqe : (q + e).natAbs < 10 ^ (100 + (k + 2)) := by omega
  obtain ⟨a1, a2⟩ := grid_sz (k := k) hqs
  obtain ⟨b1, b2⟩ := grid_sz (k := k) hqe
  have tk : (10 : Nat) ^ k < 10 ^ (k + 1) := (Nat.pow_lt_pow_iff_right (by decide)).2 (by omega)
  have a2' : ((Rat.divInt q (10 ^ k)).den : Int).natAbs < 10 ^ (k + 1) := by rw [Int.natAbs_natCast]; omega
  have b2' : ((Rat.divInt (q + e) (10 ^ k)).den : Int).natAbs < 10 ^ (k + 1) := by rw [Int.natAbs_natCast]; omega
  have fB : fitsR (Rat.divInt (q + e) (10 ^ k)) := ⟨small_pw (by omega) b1, small_pw (by omega) b2'⟩
  have fBn : fitsR (-Rat.divInt (q + e) (10 ^ k)) := by
    unfold fitsR
    rw [Rat.neg_num, Rat.neg_den]
    exact ⟨small_neg fB.1, fB.2⟩
  have hTne : (10 : Int) ^ k ≠ 0 := by omega
  have cA : cmpR (Rat.divInt q (10 ^ k)) r = cmpI (q * r.den) P := by
    have := mch_cmp (n := q) (d := 10 ^ k) (m := r.num) (c := r.den) hT hD
    rw [← er, ← eP] at this
    exact this
  have cB : cmpR (Rat.divInt (q + e) (10 ^ k)) r = cmpI ((q + e) * r.den) P := by
    have := mch_cmp (n := q + e) (d := 10 ^ k) (m := r.num) (c := r.den) hT hD
    rw [← er, ← eP] at this
    exact this
  have hqd : q * (r.den : Int) = P - m := by
    rw [← h1, Int.mul_comm]
    omega
  have hqd2 : (q + e) * (r.den : Int) = P - m + e * r.den := by rw [Int.add_mul, hqd]
  have hed : e = 0 ∧ e * (r.den : Int) = 0 ∧ m = 0 ∨ e = 1 ∧ e * (r.den : Int) = r.den ∧ 0 < m := by
    rcases he with ⟨k1, k2⟩ | ⟨k1, k2⟩
    · exact .inl ⟨k1, by rw [k1, Int.zero_mul], k2⟩
    · exact .inr ⟨k1, by rw [k1, Int.one_mul], by omega⟩
  refine ⟨by omega, by rw [hdn, grid_make], by rw [hup, grid_make], grid_sub0 h.fits, ?_, ?_, ?_, ?_, grid_down hqe (by omega), grid_up hqs (by omega), ?_, ?_, ?_, ?_⟩
  · rw [hdn2, hdg, grid_make, ← Rat.neg_divInt]
  · rw [grid_sub0 fBn, Rat.neg_neg]
  · rw [cA, hqd]
    unfold cmpI
    split
    · omega
    · rw [if_neg (by omega)]; omega
  · rw [cB, hqd2]
    unfold cmpI
    rw [if_neg (by omega)]
    split <;> omega
  · unfold mulR
    have e3 : Rat.divInt q (10 ^ k) * tenR k = (q : Rat) := by
      rw [tenR_div, mch_mul, Int.mul_comm q, Int.mul_one]
      have : Rat.divInt (10 ^ k * q) (10 ^ k * 1) = Rat.divInt q 1 := Rat.divInt_mul_left hTne
      rw [Int.mul_one] at this
      rw [this]
      exact Rat.num_divInt_den (q : Rat)
    rw [e3, tenR_num, tenR_den]
    refine if_pos ⟨grid_small hqs (by omega), ?_⟩
    exact small_pw (k := k + 1) (by omega) (by rw [show ((1 : Nat) : Int) = 1 from rfl, Int.mul_one]; exact a2')
  · unfold subR
    have e3 : Rat.divInt (q + e) (10 ^ k) - Rat.divInt q (10 ^ k) = Rat.divInt e (10 ^ k) := by
      rw [mch_sub hTne hTne, ← Int.sub_mul, show q + e - q = e by omega, Int.mul_comm e]
      exact Rat.divInt_mul_left hTne
    rw [e3]
    have s1 := mul_pw b1 a2'
    have s2 := mul_pw a1 b2'
    have s4 := mul_pw b2' a2'
    have hpw2 : (10 : Nat) ^ (100 + (k + 2) + (k + 1)) * 10 ≤ 10 ^ (100 + (k + 2) + (k + 2)) := by rw [show 100 + (k + 2) + (k + 2) = (100 + (k + 2) + (k + 1)) + 1 by omega, Nat.pow_succ]; exact Nat.le_refl _
    refine if_pos ⟨small_pw (by omega) s1, small_pw (by omega) s2, small_pw (k := 100 + (k + 2) + (k + 2)) (by omega) (by omega), small_pw (by omega) s4⟩
  · rw [cA, hqd]
    unfold cmpI
    split
    · omega
    · rw [if_neg (by omega)]; omega
  · rw [cB, hqd2]
    unfold cmpI
    rw [if_neg (by omega)]
    split <;> omega
end Go.Proofs.YtkekafamfoifmaaGreatDoor

