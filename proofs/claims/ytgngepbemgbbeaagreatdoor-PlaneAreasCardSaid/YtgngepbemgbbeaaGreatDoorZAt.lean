/-
  The exported functions' contracts, at any world behind a first one, over texts by name; and what sane answers.
  The law IntegerOrder: Compare is the order of the integers.
  The law IntegerDivided: quotient and remainder.
-/
import Derived.Test.YtgngepbemgbbeaaGreatDoorZRoot
import Derived.Test.YtgngepbemgbbeaaGreatDoorZMade
namespace Go.Proofs.YtgngepbemgbbeaaGreatDoor
open Go.RowKit Go.Shelf
attribute [local go_sem] Oper.semAt_some

theorem str_list_ne {x y : Int} {sx sy : ByteArray} (ex : sx = str x) (ey : sy = str y) (h : x ≠ y) : ¬ sx.toList = sy.toList := by
  subst ex ey
  intro hh
  rw [Lib.toList_data, Lib.toList_data, str_list, str_list] at hh
  exact h (txt_inj hh)
theorem beq_ne {a b : List UInt8} (h : ¬ a = b) : (a == b) = false := by simpa using h
theorem outZ_small {z : Int} {s : ByteArray} {n : Int} (hs : small z = true) (h : outZ z = #[.string s, .int .i64 n]) : s = str z ∧ n = 0 := by
  unfold outZ at h
  rw [if_pos hs] at h
  simp only [Array.mk.injEq, List.cons.injEq, Value.string.injEq, Value.int.injEq, true_and, and_true] at h
  exact ⟨h.1.symm, h.2.symm⟩
theorem outZ_great {z : Int} {s : ByteArray} {n : Int} (hs : small z = false) (h : outZ z = #[.string s, .int .i64 n]) : s = ⟨#[]⟩ ∧ n = 30 := by
  unfold outZ at h
  rw [if_neg (by rw [hs]; simp)] at h
  simp only [Array.mk.injEq, List.cons.injEq, Value.string.injEq, Value.int.injEq, true_and, and_true] at h
  exact ⟨h.1.symm, h.2.symm⟩
theorem small_size {x : Int} (h : small x = true) : (str x).size ≤ 9223372036854775807 := by
  rw [str_size]
  have := txt_length x
  have : nDig x.natAbs ≤ 200 := by simpa [small] using h
  omega

theorem Add_s {w : World} (hG : Glob w) {x y : Int} {sx sy so : ByteArray} (hx : small x = true) (hy : small y = true) (ex : sx = str x) (ey : sy = str y) (hs : small (x + y) = true) (eo : so = str (x + y)) (W : World) (hk : Below w.heap.size w W) :
    Calls Tryz.prog 86 #[.string sx, .string sy] W fun e W' => e = .returned (.tuple #[.string so, .int .i64 0]) ∧ Below w.heap.size w W' := by
  subst ex ey eo
  refine (Add_ok x y W (hG.below hk) hx hy).mono ?_
  rintro e w' ⟨⟨s, n, h1, rfl⟩, hb⟩
  obtain ⟨rfl, rfl⟩ := outZ_small hs h1
  exact ⟨rfl, hk.trans (hb.mono hk.size)⟩
theorem Add_g {w : World} (hG : Glob w) {x y : Int} {sx sy : ByteArray} (hx : small x = true) (hy : small y = true) (ex : sx = str x) (ey : sy = str y) (hs : small (x + y) = false) (W : World) (hk : Below w.heap.size w W) :
    Calls Tryz.prog 86 #[.string sx, .string sy] W fun e W' => e = .returned (.tuple #[.string ⟨#[]⟩, .int .i64 30]) ∧ Below w.heap.size w W' := by
  subst ex ey
  refine (Add_ok x y W (hG.below hk) hx hy).mono ?_
  rintro e w' ⟨⟨s, n, h1, rfl⟩, hb⟩
  obtain ⟨rfl, rfl⟩ := outZ_great hs h1
  exact ⟨rfl, hk.trans (hb.mono hk.size)⟩
theorem Sub_s {w : World} (hG : Glob w) {x y : Int} {sx sy so : ByteArray} (hx : small x = true) (hy : small y = true) (ex : sx = str x) (ey : sy = str y) (hs : small (x - y) = true) (eo : so = str (x - y)) (W : World) (hk : Below w.heap.size w W) :
    Calls Tryz.prog 139 #[.string sx, .string sy] W fun e W' => e = .returned (.tuple #[.string so, .int .i64 0]) ∧ Below w.heap.size w W' := by
  subst ex ey eo
  refine (Sub_ok x y W (hG.below hk) hx hy).mono ?_
  rintro e w' ⟨⟨s, n, h1, rfl⟩, hb⟩
  obtain ⟨rfl, rfl⟩ := outZ_small hs h1
  exact ⟨rfl, hk.trans (hb.mono hk.size)⟩
theorem Sub_g {w : World} (hG : Glob w) {x y : Int} {sx sy : ByteArray} (hx : small x = true) (hy : small y = true) (ex : sx = str x) (ey : sy = str y) (hs : small (x - y) = false) (W : World) (hk : Below w.heap.size w W) :
    Calls Tryz.prog 139 #[.string sx, .string sy] W fun e W' => e = .returned (.tuple #[.string ⟨#[]⟩, .int .i64 30]) ∧ Below w.heap.size w W' := by
  subst ex ey
  refine (Sub_ok x y W (hG.below hk) hx hy).mono ?_
  rintro e w' ⟨⟨s, n, h1, rfl⟩, hb⟩
  obtain ⟨rfl, rfl⟩ := outZ_great hs h1
  exact ⟨rfl, hk.trans (hb.mono hk.size)⟩
theorem Mul_s {w : World} (hG : Glob w) {x y : Int} {sx sy so : ByteArray} (hx : small x = true) (hy : small y = true) (ex : sx = str x) (ey : sy = str y) (hs : small (x * y) = true) (eo : so = str (x * y)) (W : World) (hk : Below w.heap.size w W) :
    Calls Tryz.prog 170 #[.string sx, .string sy] W fun e W' => e = .returned (.tuple #[.string so, .int .i64 0]) ∧ Below w.heap.size w W' := by
  subst ex ey eo
  refine (Mul_ok x y W (hG.below hk) hx hy).mono ?_
  rintro e w' ⟨⟨s, n, h1, rfl⟩, hb⟩
  obtain ⟨rfl, rfl⟩ := outZ_small hs h1
  exact ⟨rfl, hk.trans (hb.mono hk.size)⟩
theorem Mul_g {w : World} (hG : Glob w) {x y : Int} {sx sy : ByteArray} (hx : small x = true) (hy : small y = true) (ex : sx = str x) (ey : sy = str y) (hs : small (x * y) = false) (W : World) (hk : Below w.heap.size w W) :
    Calls Tryz.prog 170 #[.string sx, .string sy] W fun e W' => e = .returned (.tuple #[.string ⟨#[]⟩, .int .i64 30]) ∧ Below w.heap.size w W' := by
  subst ex ey
  refine (Mul_ok x y W (hG.below hk) hx hy).mono ?_
  rintro e w' ⟨⟨s, n, h1, rfl⟩, hb⟩
  obtain ⟨rfl, rfl⟩ := outZ_great hs h1
  exact ⟨rfl, hk.trans (hb.mono hk.size)⟩
theorem Div_s {w : World} (hG : Glob w) {x y : Int} {sx sy : ByteArray} (hx : small x = true) (hy : small y = true) (ex : sx = str x) (ey : sy = str y) {sq sr : ByteArray} (hy0 : y ≠ 0) (eq : sq = str (x / y)) (er : sr = str (x % y)) (W : World) (hk : Below w.heap.size w W) :
    Calls Tryz.prog 83 #[.string sx, .string sy] W fun e W' => e = .returned (.tuple #[.string sq, .string sr, .int .i64 0]) ∧ Below w.heap.size w W' := by
  subst ex ey eq er
  refine (Div_ok x y W (hG.below hk) hx hy hy0).mono ?_
  rintro e w' ⟨rfl, hb⟩
  exact ⟨rfl, hk.trans (hb.mono hk.size)⟩
theorem Div_z {w : World} (hG : Glob w) {x : Int} {sx sy : ByteArray} (hx : small x = true) (ex : sx = str x) (ez : sy = str 0) (W : World) (hk : Below w.heap.size w W) :
    Calls Tryz.prog 83 #[.string sx, .string sy] W fun e W' => e = .returned (.tuple #[.string ⟨#[]⟩, .string ⟨#[]⟩, .int .i64 30]) ∧ Below w.heap.size w W' := by
  subst ex ez
  refine (Div_zero x W (hG.below hk) hx).mono ?_
  rintro e w' ⟨rfl, hb⟩
  exact ⟨rfl, hk.trans (hb.mono hk.size)⟩
theorem Gcd_s {w : World} (hG : Glob w) {x y : Int} {sx sy so : ByteArray} (hx : small x = true) (hy : small y = true) (ex : sx = str x) (ey : sy = str y) (eo : so = str ((Nat.gcd x.natAbs y.natAbs : Nat) : Int)) (W : World) (hk : Below w.heap.size w W) :
    Calls Tryz.prog 116 #[.string sx, .string sy] W fun e W' => e = .returned (.tuple #[.string so, .int .i64 0]) ∧ Below w.heap.size w W' := by
  subst ex ey eo
  have hs : small ((Nat.gcd x.natAbs y.natAbs : Nat) : Int) = true := by
    rcases Nat.eq_zero_or_pos x.natAbs with h | h
    · rw [h, Nat.gcd_zero_left]
      exact small_le hy (by omega)
    · exact small_le hx (by have := Nat.gcd_le_left y.natAbs h; omega)
  refine (Gcd_ok x y W (hG.below hk) hx hy).mono ?_
  rintro e w' ⟨⟨s, n, h1, rfl⟩, hb⟩
  obtain ⟨rfl, rfl⟩ := outZ_small hs h1
  exact ⟨rfl, hk.trans (hb.mono hk.size)⟩
theorem sq_lt_uniq {s r X : Nat} (h1 : s * s ≤ X) (h2 : X < (s + 1) * (s + 1)) (h3 : r * r ≤ X) (h4 : X < (r + 1) * (r + 1)) : s = r := by
  rcases Nat.lt_trichotomy s r with h | h | h
  · have := Nat.mul_le_mul (show s + 1 ≤ r from h) (show s + 1 ≤ r from h); omega
  · exact h
  · have := Nat.mul_le_mul (show r + 1 ≤ s from h) (show r + 1 ≤ s from h); omega
theorem Compare_s {w : World} {x y : Int} {sx sy : ByteArray} (hx : small x = true) (hy : small y = true) (ex : sx = str x) (ey : sy = str y) (W : World) (hk : Below w.heap.size w W) :
    Calls Tryz.prog 84 #[.string sx, .string sy] W fun e W' => e = .returned (.int .i64 (cmpI x y)) ∧ Below w.heap.size w W' := by
  subst ex ey
  refine (Compare_ok x y W hx hy).mono ?_
  rintro e w' ⟨rfl, hb⟩
  exact ⟨rfl, hk.trans (hb.mono hk.size)⟩
theorem Valid_s {w : World} {s : ByteArray} {b : Bool} (hs : s.size ≤ 9223372036854775807) (hb : validL s.data.toList = b) (W : World) (hk : Below w.heap.size w W) :
    Calls Tryz.prog 115 #[.string s] W fun e W' => e = .returned (.bool b) ∧ Below w.heap.size w W' := by
  refine (Valid_any s W hs).mono ?_
  rintro e w' ⟨rfl, h⟩
  rw [numOf_valid, hb]
  exact ⟨rfl, hk.trans (h.mono hk.size)⟩
/-- An integer of at most k digits. -/
def Bd (z : Int) (k : Nat) : Prop := z.natAbs < 10 ^ k
theorem Bd.mono {z : Int} {k l : Nat} (h : Bd z k) (hk : k ≤ l) : Bd z l := Nat.lt_of_lt_of_le h (Nat.pow_le_pow_right (by omega) hk)
theorem Bd.small {z : Int} {k : Nat} (h : Bd z k) (hk : k ≤ 200) : small z = true := by
  unfold Go.Proofs.YtgngepbemgbbeaaGreatDoor.small
  exact decide_eq_true ((nDig_le (by omega)).2 (h.mono hk))
theorem Bd.add {x y : Int} {k l : Nat} (hx : Bd x k) (hy : Bd y l) : Bd (x + y) (max k l + 1) := by
  have h1 := hx.mono (Nat.le_max_left k l)
  have h2 := hy.mono (Nat.le_max_right k l)
  unfold Bd at h1 h2 ⊢
  rw [Nat.pow_succ]
  omega
theorem Bd.neg {x : Int} {k : Nat} (hx : Bd x k) : Bd (-x) k := by unfold Bd at *; omega
theorem Bd.sub {x y : Int} {k l : Nat} (hx : Bd x k) (hy : Bd y l) : Bd (x - y) (max k l + 1) := by
  rw [Int.sub_eq_add_neg]
  exact hx.add hy.neg
theorem Bd.mul {x y : Int} {k l : Nat} (hx : Bd x k) (hy : Bd y l) : Bd (x * y) (k + l) := by
  unfold Bd at *
  rw [Int.natAbs_mul, Nat.pow_add]
  exact Nat.mul_lt_mul'' hx hy
theorem Bd.le {x y : Int} {k : Nat} (hx : Bd x k) (h : y.natAbs ≤ x.natAbs) : Bd y k := Nat.lt_of_le_of_lt h hx
theorem made_bd (l : List UInt8) (k : Nat) (h : 0 < k) : Bd (madeZ l k) k := (nDig_le h).1 (made_small l k h)
end Go.Proofs.YtgngepbemgbbeaaGreatDoor

namespace Go.Proofs.YtgngepbemgbbeaaGreatDoor
open Go.RowKit Go.Shelf
attribute [local go_sem] Oper.semAt_some

theorem cmpI_lt {a b : Int} (h : a < b) : cmpI a b = -1 := by unfold cmpI; rw [if_pos h]
theorem cmpI_eq {a b : Int} (h : a = b) : cmpI a b = 0 := by unfold cmpI; rw [if_neg (by omega), if_neg (by omega)]
theorem cmpI_gt {a b : Int} (h : b < a) : cmpI a b = 1 := by unfold cmpI; rw [if_neg (by omega), if_pos h]
theorem Compare_v {w : World} {x y k : Int} {sx sy : ByteArray} (hx : small x = true) (hy : small y = true) (ex : sx = str x) (ey : sy = str y) (hk : cmpI x y = k) (W : World) (hb : Below w.heap.size w W) :
    Calls Tryz.prog 84 #[.string sx, .string sy] W fun e W' => e = .returned (.int .i64 k) ∧ Below w.heap.size w W' := by
  subst hk
  exact Compare_s hx hy ex ey W hb

end Go.Proofs.YtgngepbemgbbeaaGreatDoor

namespace Go.Proofs.YtgngepbemgbbeaaGreatDoor
open Go.RowKit Go.Shelf
attribute [local go_sem] Oper.semAt_some

theorem str0 : (⟨#[48]⟩ : ByteArray) = str 0 := by decide +kernel
theorem not_zero {y : Int} {sy : ByteArray} (ey : sy = str y) (h : y ≠ 0) : ¬ sy.toList = [48] := fun hh => str_list_ne ey str0 h (hh.trans (by rw [Lib.toList_data]))
theorem valid_str {z : Int} {s : ByteArray} (h : small z = true) (e : s = str z) : validL s.data.toList = true := by
  rw [e, str_list, validL_txt]
  exact h
theorem cmp_nonneg {a : Int} (h : 0 ≤ a) : ∃ k, cmpI a 0 = k ∧ 0 ≤ k := by
  refine ⟨_, rfl, ?_⟩
  unfold cmpI
  rw [if_neg (by omega)]
  split <;> omega

end Go.Proofs.YtgngepbemgbbeaaGreatDoor

