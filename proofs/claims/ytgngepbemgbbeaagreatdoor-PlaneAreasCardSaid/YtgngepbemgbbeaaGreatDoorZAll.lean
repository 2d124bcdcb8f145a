/-
  Package integer and its reference implementation answer the same, at all texts of at most 2^47 bytes: one contract for both.
-/
import Derived.Test.YtgngepbemgbbeaaGreatDoorZTextLaw
import Derived.Test.YtgngepbemgbbeaaGreatDoorZRTi
import Derived.Test.YtgngepbemgbbeaaGreatDoorZOut
namespace Go.Proofs.YtgngepbemgbbeaaGreatDoor
open Go.RowKit Go.Shelf
attribute [local go_sem] Oper.semAt_some

theorem outZ_op {z : Int} {s : ByteArray} {k : Int} (h : outZ z = #[.string s, .int .i64 k]) : s = opS (some z) ∧ k = opN (some z) := by
  by_cases hs : small z = true
  · rw [opS_small hs, opN_small hs]
    exact outZ_small hs h
  · have hs' : small z = false := by simpa using hs
    have e1 : opS (some z) = ⟨#[]⟩ := by unfold opS; exact if_neg hs
    have e2 : opN (some z) = 30 := by unfold opN; exact if_neg hs
    rw [e1, e2]
    exact outZ_great hs' h
noncomputable def sqrtN (n : Nat) : Nat := Classical.epsilon fun r => r * r ≤ n ∧ n < (r + 1) * (r + 1)
theorem sqrtN_eq {n r : Nat} (h1 : r * r ≤ n) (h2 : n < (r + 1) * (r + 1)) : r = sqrtN n := by
  obtain ⟨k1, k2⟩ := Classical.epsilon_spec (p := fun r => r * r ≤ n ∧ n < (r + 1) * (r + 1)) ⟨r, h1, h2⟩
  exact sq_lt_uniq h1 h2 k1 k2
noncomputable def rootO (a : ByteArray) : Option Int := match numOf a with | some x => if x < 0 then none else some ((sqrtN x.natAbs : Nat) : Int) | none => none
def toO (a : ByteArray) : Option Int := match numOf a with | some x => if inInt x = true then some x else none | none => none
def toN (a : ByteArray) : Int := match toO a with | some x => x | none => 0
def toE (a : ByteArray) : Int := match toO a with | some _ => 0 | none => 30
theorem num_no {a b : ByteArray} (h : numOf a = none ∨ numOf b = none) : (validL a.data.toList && validL b.data.toList) = false := by
  rw [← numOf_valid, ← numOf_valid]
  rcases h with h | h
  · rw [h]; rfl
  · rw [h]; simp
theorem num_inv {a : ByteArray} (h : numOf a = none) : validL a.data.toList = false := by rw [← numOf_valid, h]; rfl
theorem num_sz {a : ByteArray} {x : Int} (h : numOf a = some x) : a = str x ∧ small x = true := numOf_some h

theorem iAdd_all {w : World} (hG : Glob w) {a b : ByteArray} (ha : Sz a) (hb : Sz b) (W : World) (hk : Below w.heap.size w W) :
    Calls Tryz.prog 86 #[.string a, .string b] W fun e W' => e = .returned (.tuple #[.string (opS (addO a b)), .int .i64 (opN (addO a b))]) ∧ Below w.heap.size w W' := by
  have hno : (numOf a = none ∨ numOf b = none) → addO a b = none → Calls Tryz.prog 86 #[.string a, .string b] W fun e W' => e = .returned (.tuple #[.string (opS (addO a b)), .int .i64 (opN (addO a b))]) ∧ Below w.heap.size w W' := fun h ho => by
    rw [ho, opS_none, opN_none]
    refine (Add_no a b W ha.le hb.le (num_no h)).mono ?_
    rintro e w2 ⟨rfl, h2⟩
    exact ⟨rfl, hk.trans (h2.mono hk.size)⟩
  cases h1 : numOf a with
  | none => exact hno (.inl h1) (by unfold addO; rw [h1])
  | some x =>
    cases h2 : numOf b with
    | none => exact hno (.inr h2) (by unfold addO; rw [h1, h2])
    | some y =>
      obtain ⟨ea, hx⟩ := num_sz h1
      obtain ⟨eb, hy⟩ := num_sz h2
      have ho : addO a b = some (x + y) := by unfold addO; rw [h1, h2]
      rw [ho]
      subst ea eb
      refine (Add_ok x y W (hG.below hk) hx hy).mono ?_
      rintro e w2 ⟨⟨s, n, h3, rfl⟩, h4⟩
      obtain ⟨rfl, rfl⟩ := outZ_op h3
      exact ⟨rfl, hk.trans (h4.mono hk.size)⟩

theorem rAdd_all {w : World} {a b : ByteArray} (ha : Sz a) (hb : Sz b) (W : World) (hk : Below w.heap.size w W) :
    Calls Tryz.prog 146 #[.string a, .string b] W fun e W' => e = .returned (.tuple #[.string (opS (addO a b)), .int .i64 (opN (addO a b))]) ∧ Below w.heap.size w W' := by
  have hno : (numOf a = none ∨ numOf b = none) → addO a b = none → Calls Tryz.prog 146 #[.string a, .string b] W fun e W' => e = .returned (.tuple #[.string (opS (addO a b)), .int .i64 (opN (addO a b))]) ∧ Below w.heap.size w W' := fun h ho => by
    rw [ho, opS_none, opN_none]
    refine (rAdd_no a b W ha.le hb.le (num_no h)).mono ?_
    rintro e w2 ⟨rfl, rfl⟩
    exact ⟨rfl, hk⟩
  cases h1 : numOf a with
  | none => exact hno (.inl h1) (by unfold addO; rw [h1])
  | some x =>
    cases h2 : numOf b with
    | none => exact hno (.inr h2) (by unfold addO; rw [h1, h2])
    | some y =>
      obtain ⟨ea, hx⟩ := num_sz h1
      obtain ⟨eb, hy⟩ := num_sz h2
      have ho : addO a b = some (x + y) := by unfold addO; rw [h1, h2]
      rw [ho]
      refine (rAdd_ok a b x y W ea eb hx hy).mono ?_
      rintro e w2 ⟨⟨s, n, h3, rfl⟩, h4⟩
      obtain ⟨rfl, rfl⟩ := outZ_op h3
      exact ⟨rfl, hk.trans (h4.mono hk.size)⟩

theorem iSub_all {w : World} (hG : Glob w) {a b : ByteArray} (ha : Sz a) (hb : Sz b) (W : World) (hk : Below w.heap.size w W) :
    Calls Tryz.prog 139 #[.string a, .string b] W fun e W' => e = .returned (.tuple #[.string (opS (subO a b)), .int .i64 (opN (subO a b))]) ∧ Below w.heap.size w W' := by
  have hno : (numOf a = none ∨ numOf b = none) → subO a b = none → Calls Tryz.prog 139 #[.string a, .string b] W fun e W' => e = .returned (.tuple #[.string (opS (subO a b)), .int .i64 (opN (subO a b))]) ∧ Below w.heap.size w W' := fun h ho => by
    rw [ho, opS_none, opN_none]
    refine (Sub_no a b W ha.le hb.le (num_no h)).mono ?_
    rintro e w2 ⟨rfl, h2⟩
    exact ⟨rfl, hk.trans (h2.mono hk.size)⟩
  cases h1 : numOf a with
  | none => exact hno (.inl h1) (by unfold subO; rw [h1])
  | some x =>
    cases h2 : numOf b with
    | none => exact hno (.inr h2) (by unfold subO; rw [h1, h2])
    | some y =>
      obtain ⟨ea, hx⟩ := num_sz h1
      obtain ⟨eb, hy⟩ := num_sz h2
      have ho : subO a b = some (x - y) := by unfold subO; rw [h1, h2]
      rw [ho]
      subst ea eb
      refine (Sub_ok x y W (hG.below hk) hx hy).mono ?_
      rintro e w2 ⟨⟨s, n, h3, rfl⟩, h4⟩
      obtain ⟨rfl, rfl⟩ := outZ_op h3
      exact ⟨rfl, hk.trans (h4.mono hk.size)⟩

theorem rSub_all {w : World} {a b : ByteArray} (ha : Sz a) (hb : Sz b) (W : World) (hk : Below w.heap.size w W) :
    Calls Tryz.prog 147 #[.string a, .string b] W fun e W' => e = .returned (.tuple #[.string (opS (subO a b)), .int .i64 (opN (subO a b))]) ∧ Below w.heap.size w W' := by
  have hno : (numOf a = none ∨ numOf b = none) → subO a b = none → Calls Tryz.prog 147 #[.string a, .string b] W fun e W' => e = .returned (.tuple #[.string (opS (subO a b)), .int .i64 (opN (subO a b))]) ∧ Below w.heap.size w W' := fun h ho => by
    rw [ho, opS_none, opN_none]
    refine (rSub_no a b W ha.le hb.le (num_no h)).mono ?_
    rintro e w2 ⟨rfl, rfl⟩
    exact ⟨rfl, hk⟩
  cases h1 : numOf a with
  | none => exact hno (.inl h1) (by unfold subO; rw [h1])
  | some x =>
    cases h2 : numOf b with
    | none => exact hno (.inr h2) (by unfold subO; rw [h1, h2])
    | some y =>
      obtain ⟨ea, hx⟩ := num_sz h1
      obtain ⟨eb, hy⟩ := num_sz h2
      have ho : subO a b = some (x - y) := by unfold subO; rw [h1, h2]
      rw [ho]
      refine (rSub_ok a b x y W ea eb hx hy).mono ?_
      rintro e w2 ⟨⟨s, n, h3, rfl⟩, h4⟩
      obtain ⟨rfl, rfl⟩ := outZ_op h3
      exact ⟨rfl, hk.trans (h4.mono hk.size)⟩

theorem iMul_all {w : World} (hG : Glob w) {a b : ByteArray} (ha : Sz a) (hb : Sz b) (W : World) (hk : Below w.heap.size w W) :
    Calls Tryz.prog 170 #[.string a, .string b] W fun e W' => e = .returned (.tuple #[.string (opS (mulO a b)), .int .i64 (opN (mulO a b))]) ∧ Below w.heap.size w W' := by
  have hno : (numOf a = none ∨ numOf b = none) → mulO a b = none → Calls Tryz.prog 170 #[.string a, .string b] W fun e W' => e = .returned (.tuple #[.string (opS (mulO a b)), .int .i64 (opN (mulO a b))]) ∧ Below w.heap.size w W' := fun h ho => by
    rw [ho, opS_none, opN_none]
    refine (Mul_no a b W ha.le hb.le (num_no h)).mono ?_
    rintro e w2 ⟨rfl, h2⟩
    exact ⟨rfl, hk.trans (h2.mono hk.size)⟩
  cases h1 : numOf a with
  | none => exact hno (.inl h1) (by unfold mulO; rw [h1])
  | some x =>
    cases h2 : numOf b with
    | none => exact hno (.inr h2) (by unfold mulO; rw [h1, h2])
    | some y =>
      obtain ⟨ea, hx⟩ := num_sz h1
      obtain ⟨eb, hy⟩ := num_sz h2
      have ho : mulO a b = some (x * y) := by unfold mulO; rw [h1, h2]
      rw [ho]
      subst ea eb
      refine (Mul_ok x y W (hG.below hk) hx hy).mono ?_
      rintro e w2 ⟨⟨s, n, h3, rfl⟩, h4⟩
      obtain ⟨rfl, rfl⟩ := outZ_op h3
      exact ⟨rfl, hk.trans (h4.mono hk.size)⟩

theorem rMul_all {w : World} {a b : ByteArray} (ha : Sz a) (hb : Sz b) (W : World) (hk : Below w.heap.size w W) :
    Calls Tryz.prog 148 #[.string a, .string b] W fun e W' => e = .returned (.tuple #[.string (opS (mulO a b)), .int .i64 (opN (mulO a b))]) ∧ Below w.heap.size w W' := by
  have hno : (numOf a = none ∨ numOf b = none) → mulO a b = none → Calls Tryz.prog 148 #[.string a, .string b] W fun e W' => e = .returned (.tuple #[.string (opS (mulO a b)), .int .i64 (opN (mulO a b))]) ∧ Below w.heap.size w W' := fun h ho => by
    rw [ho, opS_none, opN_none]
    refine (rMul_no a b W ha.le hb.le (num_no h)).mono ?_
    rintro e w2 ⟨rfl, rfl⟩
    exact ⟨rfl, hk⟩
  cases h1 : numOf a with
  | none => exact hno (.inl h1) (by unfold mulO; rw [h1])
  | some x =>
    cases h2 : numOf b with
    | none => exact hno (.inr h2) (by unfold mulO; rw [h1, h2])
    | some y =>
      obtain ⟨ea, hx⟩ := num_sz h1
      obtain ⟨eb, hy⟩ := num_sz h2
      have ho : mulO a b = some (x * y) := by unfold mulO; rw [h1, h2]
      rw [ho]
      refine (rMul_ok a b x y W ea eb hx hy).mono ?_
      rintro e w2 ⟨⟨s, n, h3, rfl⟩, h4⟩
      obtain ⟨rfl, rfl⟩ := outZ_op h3
      exact ⟨rfl, hk.trans (h4.mono hk.size)⟩

theorem iGcd_all {w : World} (hG : Glob w) {a b : ByteArray} (ha : Sz a) (hb : Sz b) (W : World) (hk : Below w.heap.size w W) :
    Calls Tryz.prog 116 #[.string a, .string b] W fun e W' => e = .returned (.tuple #[.string (opS (gcdO a b)), .int .i64 (opN (gcdO a b))]) ∧ Below w.heap.size w W' := by
  have hno : (numOf a = none ∨ numOf b = none) → gcdO a b = none → Calls Tryz.prog 116 #[.string a, .string b] W fun e W' => e = .returned (.tuple #[.string (opS (gcdO a b)), .int .i64 (opN (gcdO a b))]) ∧ Below w.heap.size w W' := fun h ho => by
    rw [ho, opS_none, opN_none]
    refine (Gcd_no a b W ha.le hb.le (num_no h)).mono ?_
    rintro e w2 ⟨rfl, h2⟩
    exact ⟨rfl, hk.trans (h2.mono hk.size)⟩
  cases h1 : numOf a with
  | none => exact hno (.inl h1) (by unfold gcdO; rw [h1])
  | some x =>
    cases h2 : numOf b with
    | none => exact hno (.inr h2) (by unfold gcdO; rw [h1, h2])
    | some y =>
      obtain ⟨ea, hx⟩ := num_sz h1
      obtain ⟨eb, hy⟩ := num_sz h2
      have ho : gcdO a b = some (((Nat.gcd x.natAbs y.natAbs : Nat) : Int)) := by unfold gcdO; rw [h1, h2]
      rw [ho]
      subst ea eb
      refine (Gcd_ok x y W (hG.below hk) hx hy).mono ?_
      rintro e w2 ⟨⟨s, n, h3, rfl⟩, h4⟩
      obtain ⟨rfl, rfl⟩ := outZ_op h3
      exact ⟨rfl, hk.trans (h4.mono hk.size)⟩

theorem rGcd_all {w : World} {a b : ByteArray} (ha : Sz a) (hb : Sz b) (W : World) (hk : Below w.heap.size w W) :
    Calls Tryz.prog 107 #[.string a, .string b] W fun e W' => e = .returned (.tuple #[.string (opS (gcdO a b)), .int .i64 (opN (gcdO a b))]) ∧ Below w.heap.size w W' := by
  have hno : (numOf a = none ∨ numOf b = none) → gcdO a b = none → Calls Tryz.prog 107 #[.string a, .string b] W fun e W' => e = .returned (.tuple #[.string (opS (gcdO a b)), .int .i64 (opN (gcdO a b))]) ∧ Below w.heap.size w W' := fun h ho => by
    rw [ho, opS_none, opN_none]
    refine (rGcd_no a b W ha.le hb.le (num_no h)).mono ?_
    rintro e w2 ⟨rfl, rfl⟩
    exact ⟨rfl, hk⟩
  cases h1 : numOf a with
  | none => exact hno (.inl h1) (by unfold gcdO; rw [h1])
  | some x =>
    cases h2 : numOf b with
    | none => exact hno (.inr h2) (by unfold gcdO; rw [h1, h2])
    | some y =>
      obtain ⟨ea, hx⟩ := num_sz h1
      obtain ⟨eb, hy⟩ := num_sz h2
      have ho : gcdO a b = some (((Nat.gcd x.natAbs y.natAbs : Nat) : Int)) := by unfold gcdO; rw [h1, h2]
      rw [ho]
      refine (rGcd_ok a b x y W ea eb hx hy).mono ?_
      rintro e w2 ⟨⟨s, n, h3, rfl⟩, h4⟩
      obtain ⟨rfl, rfl⟩ := outZ_op h3
      exact ⟨rfl, hk.trans (h4.mono hk.size)⟩

theorem iDiv_all {w : World} (hG : Glob w) {a b : ByteArray} (ha : Sz a) (hb : Sz b) (W : World) (hk : Below w.heap.size w W) :
    Calls Tryz.prog 83 #[.string a, .string b] W fun e W' => e = .returned (.tuple #[.string (opS (divO a b)), .string (opS (modO a b)), .int .i64 (opN (divO a b))]) ∧ Below w.heap.size w W' := by
  have hno : (numOf a = none ∨ numOf b = none) → divO a b = none → modO a b = none → Calls Tryz.prog 83 #[.string a, .string b] W fun e W' => e = .returned (.tuple #[.string (opS (divO a b)), .string (opS (modO a b)), .int .i64 (opN (divO a b))]) ∧ Below w.heap.size w W' := fun h ho hm => by
    rw [ho, hm, opS_none, opN_none]
    refine (Div_no a b W ha.le hb.le (num_no h)).mono ?_
    rintro e w2 ⟨rfl, h2⟩
    exact ⟨rfl, hk.trans (h2.mono hk.size)⟩
  cases h1 : numOf a with
  | none => exact hno (.inl h1) (by unfold divO; rw [h1]) (by unfold modO; rw [h1])
  | some x =>
    cases h2 : numOf b with
    | none => exact hno (.inr h2) (by unfold divO; rw [h1, h2]) (by unfold modO; rw [h1, h2])
    | some y =>
      obtain ⟨ea, hx⟩ := num_sz h1
      obtain ⟨eb, hy⟩ := num_sz h2
      by_cases hy0 : y = 0
      · have ho : divO a b = none := by unfold divO; rw [h1, h2]; exact if_pos hy0
        have hm : modO a b = none := by unfold modO; rw [h1, h2]; exact if_pos hy0
        rw [ho, hm, opS_none, opN_none]
        subst hy0
        subst ea eb
        refine (Div_zero x W (hG.below hk) hx).mono ?_
        rintro e w2 ⟨rfl, h4⟩
        exact ⟨rfl, hk.trans (h4.mono hk.size)⟩
      · have ho : divO a b = some (x / y) := by unfold divO; rw [h1, h2]; exact if_neg hy0
        have hm : modO a b = some (x % y) := by unfold modO; rw [h1, h2]; exact if_neg hy0
        rw [ho, hm, opS_small (small_div y hx), opS_small (small_mod hy0 hy), opN_small (small_div y hx)]
        subst ea eb
        refine (Div_ok x y W (hG.below hk) hx hy hy0).mono ?_
        rintro e w2 ⟨rfl, h4⟩
        exact ⟨rfl, hk.trans (h4.mono hk.size)⟩

theorem rDiv_all {w : World} {a b : ByteArray} (ha : Sz a) (hb : Sz b) (W : World) (hk : Below w.heap.size w W) :
    Calls Tryz.prog 143 #[.string a, .string b] W fun e W' => e = .returned (.tuple #[.string (opS (divO a b)), .string (opS (modO a b)), .int .i64 (opN (divO a b))]) ∧ Below w.heap.size w W' := by
  have hno : (numOf a = none ∨ numOf b = none) → divO a b = none → modO a b = none → Calls Tryz.prog 143 #[.string a, .string b] W fun e W' => e = .returned (.tuple #[.string (opS (divO a b)), .string (opS (modO a b)), .int .i64 (opN (divO a b))]) ∧ Below w.heap.size w W' := fun h ho hm => by
    rw [ho, hm, opS_none, opN_none]
    refine (rDiv_no a b W ha.le hb.le (num_no h)).mono ?_
    rintro e w2 ⟨rfl, rfl⟩
    exact ⟨rfl, hk⟩
  cases h1 : numOf a with
  | none => exact hno (.inl h1) (by unfold divO; rw [h1]) (by unfold modO; rw [h1])
  | some x =>
    cases h2 : numOf b with
    | none => exact hno (.inr h2) (by unfold divO; rw [h1, h2]) (by unfold modO; rw [h1, h2])
    | some y =>
      obtain ⟨ea, hx⟩ := num_sz h1
      obtain ⟨eb, hy⟩ := num_sz h2
      by_cases hy0 : y = 0
      · have ho : divO a b = none := by unfold divO; rw [h1, h2]; exact if_pos hy0
        have hm : modO a b = none := by unfold modO; rw [h1, h2]; exact if_pos hy0
        rw [ho, hm, opS_none, opN_none]
        subst hy0
        refine (rDiv_zero a b x W ea eb hx).mono ?_
        rintro e w2 ⟨rfl, rfl⟩
        exact ⟨rfl, hk⟩
      · have ho : divO a b = some (x / y) := by unfold divO; rw [h1, h2]; exact if_neg hy0
        have hm : modO a b = some (x % y) := by unfold modO; rw [h1, h2]; exact if_neg hy0
        rw [ho, hm, opS_small (small_div y hx), opS_small (small_mod hy0 hy), opN_small (small_div y hx)]
        refine (rDiv_ok a b x y W ea eb hx hy hy0).mono ?_
        rintro e w2 ⟨rfl, h4⟩
        exact ⟨rfl, hk.trans (h4.mono hk.size)⟩

theorem iCompare_all {w : World} {a b : ByteArray} (ha : Sz a) (hb : Sz b) (W : World) (hk : Below w.heap.size w W) :
    Calls Tryz.prog 84 #[.string a, .string b] W fun e W' => e = .returned (.int .i64 (cmpO a b)) ∧ Below w.heap.size w W' := by
  have hno : (numOf a = none ∨ numOf b = none) → cmpO a b = 0 → Calls Tryz.prog 84 #[.string a, .string b] W fun e W' => e = .returned (.int .i64 (cmpO a b)) ∧ Below w.heap.size w W' := fun h ho => by
    rw [ho]
    refine (Compare_no a b W ha.le hb.le (num_no h)).mono ?_
    rintro e w2 ⟨rfl, h2⟩
    exact ⟨rfl, hk.trans (h2.mono hk.size)⟩
  cases h1 : numOf a with
  | none => exact hno (.inl h1) (by unfold cmpO; rw [h1])
  | some x =>
    cases h2 : numOf b with
    | none => exact hno (.inr h2) (by unfold cmpO; rw [h1, h2])
    | some y =>
      obtain ⟨ea, hx⟩ := num_sz h1
      obtain ⟨eb, hy⟩ := num_sz h2
      have ho : cmpO a b = cmpI x y := by unfold cmpO; rw [h1, h2]
      rw [ho]
      subst ea eb
      refine (Compare_ok x y W hx hy).mono ?_
      rintro e w2 ⟨rfl, h4⟩
      exact ⟨rfl, hk.trans (h4.mono hk.size)⟩

theorem rCompare_all {w : World} {a b : ByteArray} (ha : Sz a) (hb : Sz b) (W : World) (hk : Below w.heap.size w W) :
    Calls Tryz.prog 106 #[.string a, .string b] W fun e W' => e = .returned (.int .i64 (cmpO a b)) ∧ Below w.heap.size w W' := by
  have hno : (numOf a = none ∨ numOf b = none) → cmpO a b = 0 → Calls Tryz.prog 106 #[.string a, .string b] W fun e W' => e = .returned (.int .i64 (cmpO a b)) ∧ Below w.heap.size w W' := fun h ho => by
    rw [ho]
    refine (rCompare_no a b W ha.le hb.le (num_no h)).mono ?_
    rintro e w2 ⟨rfl, rfl⟩
    exact ⟨rfl, hk⟩
  cases h1 : numOf a with
  | none => exact hno (.inl h1) (by unfold cmpO; rw [h1])
  | some x =>
    cases h2 : numOf b with
    | none => exact hno (.inr h2) (by unfold cmpO; rw [h1, h2])
    | some y =>
      obtain ⟨ea, hx⟩ := num_sz h1
      obtain ⟨eb, hy⟩ := num_sz h2
      have ho : cmpO a b = cmpI x y := by unfold cmpO; rw [h1, h2]
      rw [ho]
      refine (rCompare_ok a b x y W ea eb hx hy).mono ?_
      rintro e w2 ⟨rfl, h4⟩
      exact ⟨rfl, hk.trans (h4.mono hk.size)⟩

theorem toNE_some {a : ByteArray} {x : Int} (h : numOf a = some x) (hi : inInt x = true) : toN a = x ∧ toE a = 0 := by
  have ho : toO a = some x := by unfold toO; rw [h]; exact if_pos hi
  unfold toN toE
  rw [ho]
  exact ⟨rfl, rfl⟩
theorem toNE_none {a : ByteArray} (h : ∀ x, numOf a = some x → inInt x = false) : toN a = 0 ∧ toE a = 30 := by
  have ho : toO a = none := by
    unfold toO
    cases h1 : numOf a with
    | none => rfl
    | some x => exact if_neg (by rw [h x h1]; simp)
  unfold toN toE
  rw [ho]
  exact ⟨rfl, rfl⟩
theorem iValid_all {w : World} {a : ByteArray} (ha : Sz a) (W : World) (hk : Below w.heap.size w W) :
    Calls Tryz.prog 115 #[.string a] W fun e W' => e = .returned (.bool (validL a.data.toList)) ∧ Below w.heap.size w W' := Valid_s ha.le rfl W hk
theorem rValid_all {w : World} {a : ByteArray} (ha : Sz a) (W : World) (hk : Below w.heap.size w W) :
    Calls Tryz.prog 105 #[.string a] W fun e W' => e = .returned (.bool (validL a.data.toList)) ∧ Below w.heap.size w W' := by
  refine (rvalid_any a W ha.le).mono ?_
  rintro e w' ⟨rfl, rfl⟩
  exact ⟨rfl, hk⟩
theorem rFromInt_s {w : World} {z : Int} {s : ByteArray} (h0 : -9223372036854775808 ≤ z) (h1 : z ≤ 9223372036854775807) (es : s = str z) (W : World) (hk : Below w.heap.size w W) :
    Calls Tryz.prog 113 #[.int .i64 z] W fun e W' => e = .returned (.string s) ∧ Below w.heap.size w W' := by
  subst es
  refine (rFromInt_any z W h0 h1).mono ?_
  rintro e w' ⟨rfl, hb⟩
  exact ⟨rfl, hk.trans (hb.mono hk.size)⟩

end Go.Proofs.YtgngepbemgbbeaaGreatDoor

