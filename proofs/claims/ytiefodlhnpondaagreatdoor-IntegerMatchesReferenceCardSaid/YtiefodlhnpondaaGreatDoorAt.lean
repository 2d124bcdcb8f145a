/-
  The exported functions' contracts, at any world behind a first one, over texts by name; and what sane answers.
-/
import Derived.Test.YtiefodlhnpondaaGreatDoorRoot
import Derived.Test.YtiefodlhnpondaaGreatDoorMade
namespace Go.Proofs.YtiefodlhnpondaaGreatDoor
open Go.RowKit Go.Shelf
attribute [local go_sem] Oper.semAt_some

theorem str_list_ne {x y : Int} {sx sy : ByteArray} (ex : sx = str x) (ey : sy = str y) (h : x ≠ y) : ¬ sx.toList = sy.toList := by
  subst ex ey
  intro hh
  rw [Lib.toList_data, Lib.toList_data, str_list, str_list] at hh
  exact h (txt_inj hh)
theorem beq_ne {a b : List UInt8} (h : ¬ a = b) : (a == b) = false := by simpa using h
theorem outZ_small {z : Int} {s : ByteArray} {n : Int} (hs : small z = true) (h : outZ z = #[.string s, .int .i64 n]) : s = str z ∧ n = 0 := by
  unfold outZ at h
  rw [if_pos hs] at h
  simp only [Array.mk.injEq, List.cons.injEq, Value.string.injEq, Value.int.injEq, true_and, and_true] at h
  exact ⟨h.1.symm, h.2.symm⟩
theorem outZ_great {z : Int} {s : ByteArray} {n : Int} (hs : small z = false) (h : outZ z = #[.string s, .int .i64 n]) : s = ⟨#[]⟩ ∧ n = 30 := by
  unfold outZ at h
  rw [if_neg (by rw [hs]; simp)] at h
  simp only [Array.mk.injEq, List.cons.injEq, Value.string.injEq, Value.int.injEq, true_and, and_true] at h
  exact ⟨h.1.symm, h.2.symm⟩
theorem small_size {x : Int} (h : small x = true) : (str x).size ≤ 9223372036854775807 := by
  rw [str_size]
  have := txt_length x
  have : nDig x.natAbs ≤ 200 := by simpa [small] using h
  omega

theorem Add_s {w : World} (hG : Glob w) {x y : Int} {sx sy so : ByteArray} (hx : small x = true) (hy : small y = true) (ex : sx = str x) (ey : sy = str y) (hs : small (x + y) = true) (eo : so = str (x + y)) (W : World) (hk : Below w.heap.size w W) :
    Calls Tryz.prog 14 #[.string sx, .string sy] W fun e W' => e = .returned (.tuple #[.string so, .int .i64 0]) ∧ Below w.heap.size w W' := by
  subst ex ey eo
  refine (Add_ok x y W (hG.below hk) hx hy).mono ?_
  rintro e w' ⟨⟨s, n, h1, rfl⟩, hb⟩
  obtain ⟨rfl, rfl⟩ := outZ_small hs h1
  exact ⟨rfl, hk.trans (hb.mono hk.size)⟩
theorem Add_g {w : World} (hG : Glob w) {x y : Int} {sx sy : ByteArray} (hx : small x = true) (hy : small y = true) (ex : sx = str x) (ey : sy = str y) (hs : small (x + y) = false) (W : World) (hk : Below w.heap.size w W) :
    Calls Tryz.prog 14 #[.string sx, .string sy] W fun e W' => e = .returned (.tuple #[.string ⟨#[]⟩, .int .i64 30]) ∧ Below w.heap.size w W' := by
  subst ex ey
  refine (Add_ok x y W (hG.below hk) hx hy).mono ?_
  rintro e w' ⟨⟨s, n, h1, rfl⟩, hb⟩
  obtain ⟨rfl, rfl⟩ := outZ_great hs h1
  exact ⟨rfl, hk.trans (hb.mono hk.size)⟩
theorem Sub_s {w : World} (hG : Glob w) {x y : Int} {sx sy so : ByteArray} (hx : small x = true) (hy : small y = true) (ex : sx = str x) (ey : sy = str y) (hs : small (x - y) = true) (eo : so = str (x - y)) (W : World) (hk : Below w.heap.size w W) :
    Calls Tryz.prog 16 #[.string sx, .string sy] W fun e W' => e = .returned (.tuple #[.string so, .int .i64 0]) ∧ Below w.heap.size w W' := by
  subst ex ey eo
  refine (Sub_ok x y W (hG.below hk) hx hy).mono ?_
  rintro e w' ⟨⟨s, n, h1, rfl⟩, hb⟩
  obtain ⟨rfl, rfl⟩ := outZ_small hs h1
  exact ⟨rfl, hk.trans (hb.mono hk.size)⟩
theorem Sub_g {w : World} (hG : Glob w) {x y : Int} {sx sy : ByteArray} (hx : small x = true) (hy : small y = true) (ex : sx = str x) (ey : sy = str y) (hs : small (x - y) = false) (W : World) (hk : Below w.heap.size w W) :
    Calls Tryz.prog 16 #[.string sx, .string sy] W fun e W' => e = .returned (.tuple #[.string ⟨#[]⟩, .int .i64 30]) ∧ Below w.heap.size w W' := by
  subst ex ey
  refine (Sub_ok x y W (hG.below hk) hx hy).mono ?_
  rintro e w' ⟨⟨s, n, h1, rfl⟩, hb⟩
  obtain ⟨rfl, rfl⟩ := outZ_great hs h1
  exact ⟨rfl, hk.trans (hb.mono hk.size)⟩
theorem Mul_s {w : World} (hG : Glob w) {x y : Int} {sx sy so : ByteArray} (hx : small x = true) (hy : small y = true) (ex : sx = str x) (ey : sy = str y) (hs : small (x * y) = true) (eo : so = str (x * y)) (W : World) (hk : Below w.heap.size w W) :
    Calls Tryz.prog 15 #[.string sx, .string sy] W fun e W' => e = .returned (.tuple #[.string so, .int .i64 0]) ∧ Below w.heap.size w W' := by
  subst ex ey eo
  refine (Mul_ok x y W (hG.below hk) hx hy).mono ?_
  rintro e w' ⟨⟨s, n, h1, rfl⟩, hb⟩
  obtain ⟨rfl, rfl⟩ := outZ_small hs h1
  exact ⟨rfl, hk.trans (hb.mono hk.size)⟩
theorem Mul_g {w : World} (hG : Glob w) {x y : Int} {sx sy : ByteArray} (hx : small x = true) (hy : small y = true) (ex : sx = str x) (ey : sy = str y) (hs : small (x * y) = false) (W : World) (hk : Below w.heap.size w W) :
    Calls Tryz.prog 15 #[.string sx, .string sy] W fun e W' => e = .returned (.tuple #[.string ⟨#[]⟩, .int .i64 30]) ∧ Below w.heap.size w W' := by
  subst ex ey
  refine (Mul_ok x y W (hG.below hk) hx hy).mono ?_
  rintro e w' ⟨⟨s, n, h1, rfl⟩, hb⟩
  obtain ⟨rfl, rfl⟩ := outZ_great hs h1
  exact ⟨rfl, hk.trans (hb.mono hk.size)⟩
theorem Div_s {w : World} (hG : Glob w) {x y : Int} {sx sy : ByteArray} (hx : small x = true) (hy : small y = true) (ex : sx = str x) (ey : sy = str y) {sq sr : ByteArray} (hy0 : y ≠ 0) (eq : sq = str (x / y)) (er : sr = str (x % y)) (W : World) (hk : Below w.heap.size w W) :
    Calls Tryz.prog 17 #[.string sx, .string sy] W fun e W' => e = .returned (.tuple #[.string sq, .string sr, .int .i64 0]) ∧ Below w.heap.size w W' := by
  subst ex ey eq er
  refine (Div_ok x y W (hG.below hk) hx hy hy0).mono ?_
  rintro e w' ⟨rfl, hb⟩
  exact ⟨rfl, hk.trans (hb.mono hk.size)⟩
theorem Div_z {w : World} (hG : Glob w) {x : Int} {sx sy : ByteArray} (hx : small x = true) (ex : sx = str x) (ez : sy = str 0) (W : World) (hk : Below w.heap.size w W) :
    Calls Tryz.prog 17 #[.string sx, .string sy] W fun e W' => e = .returned (.tuple #[.string ⟨#[]⟩, .string ⟨#[]⟩, .int .i64 30]) ∧ Below w.heap.size w W' := by
  subst ex ez
  refine (Div_zero x W (hG.below hk) hx).mono ?_
  rintro e w' ⟨rfl, hb⟩
  exact ⟨rfl, hk.trans (hb.mono hk.size)⟩
theorem Gcd_s {w : World} (hG : Glob w) {x y : Int} {sx sy so : ByteArray} (hx : small x = true) (hy : small y = true) (ex : sx = str x) (ey : sy = str y) (eo : so = str ((Nat.gcd x.natAbs y.natAbs : Nat) : Int)) (W : World) (hk : Below w.heap.size w W) :
    Calls Tryz.prog 20 #[.string sx, .string sy] W fun e W' => e = .returned (.tuple #[.string so, .int .i64 0]) ∧ Below w.heap.size w W' := by
  subst ex ey eo
  have hs : small ((Nat.gcd x.natAbs y.natAbs : Nat) : Int) = true := by
    rcases Nat.eq_zero_or_pos x.natAbs with h | h
    · rw [h, Nat.gcd_zero_left]
      exact small_le hy (by omega)
    · exact small_le hx (by have := Nat.gcd_le_left y.natAbs h; omega)
  refine (Gcd_ok x y W (hG.below hk) hx hy).mono ?_
  rintro e w' ⟨⟨s, n, h1, rfl⟩, hb⟩
  obtain ⟨rfl, rfl⟩ := outZ_small hs h1
  exact ⟨rfl, hk.trans (hb.mono hk.size)⟩
theorem sq_lt_uniq {s r X : Nat} (h1 : s * s ≤ X) (h2 : X < (s + 1) * (s + 1)) (h3 : r * r ≤ X) (h4 : X < (r + 1) * (r + 1)) : s = r := by
  rcases Nat.lt_trichotomy s r with h | h | h
  · have := Nat.mul_le_mul (show s + 1 ≤ r from h) (show s + 1 ≤ r from h); omega
  · exact h
  · have := Nat.mul_le_mul (show r + 1 ≤ s from h) (show r + 1 ≤ s from h); omega
theorem Root_s {w : World} (hG : Glob w) {x : Int} {sx so : ByteArray} (hx : small x = true) (ex : sx = str x) {r : Nat} (h0 : ¬ x < 0) (h1 : r * r ≤ x.natAbs) (h2 : x.natAbs < (r + 1) * (r + 1)) (eo : so = str (r : Int)) (W : World) (hk : Below w.heap.size w W) :
    Calls Tryz.prog 21 #[.string sx] W fun e W' => e = .returned (.tuple #[.string so, .int .i64 0]) ∧ Below w.heap.size w W' := by
  subst ex eo
  refine (Root_ok x W (hG.below hk) hx h0).mono ?_
  rintro e w' ⟨⟨s, t, h3, h4, rfl, rfl⟩, hb⟩
  rw [sq_lt_uniq h3 h4 h1 h2]
  exact ⟨rfl, hk.trans (hb.mono hk.size)⟩
theorem Root_n {w : World} {x : Int} {sx : ByteArray} (hx : small x = true) (ex : sx = str x) (h0 : x < 0) (W : World) (hk : Below w.heap.size w W) :
    Calls Tryz.prog 21 #[.string sx] W fun e W' => e = .returned (.tuple #[.string ⟨#[]⟩, .int .i64 30]) ∧ Below w.heap.size w W' := by
  subst ex
  refine (Root_neg x W hx h0).mono ?_
  rintro e w' ⟨rfl, hb⟩
  exact ⟨rfl, hk.trans (hb.mono hk.size)⟩
theorem Compare_s {w : World} {x y : Int} {sx sy : ByteArray} (hx : small x = true) (hy : small y = true) (ex : sx = str x) (ey : sy = str y) (W : World) (hk : Below w.heap.size w W) :
    Calls Tryz.prog 18 #[.string sx, .string sy] W fun e W' => e = .returned (.int .i64 (cmpI x y)) ∧ Below w.heap.size w W' := by
  subst ex ey
  refine (Compare_ok x y W hx hy).mono ?_
  rintro e w' ⟨rfl, hb⟩
  exact ⟨rfl, hk.trans (hb.mono hk.size)⟩
theorem Valid_s {w : World} {s : ByteArray} {b : Bool} (hs : s.size ≤ 9223372036854775807) (hb : validL s.data.toList = b) (W : World) (hk : Below w.heap.size w W) :
    Calls Tryz.prog 19 #[.string s] W fun e W' => e = .returned (.bool b) ∧ Below w.heap.size w W' := by
  refine (Valid_any s W hs).mono ?_
  rintro e w' ⟨rfl, h⟩
  rw [numOf_valid, hb]
  exact ⟨rfl, hk.trans (h.mono hk.size)⟩
theorem Made_s {w : World} {s t : ByteArray} {most : Nat} {i : Int} (hi : i = (most : Int)) (hm : most ≤ 200) (et : t = str (madeZ s.data.toList most)) (W : World) (hk : Below w.heap.size w W) :
    Calls Tryz.prog 13 #[.string s, .int .i64 i] W fun e W' => e = .returned (.string t) ∧ Below w.heap.size w W' := by
  subst et hi
  refine (Made_any s most W hm).mono ?_
  rintro e w' ⟨⟨t, rfl, rfl⟩, hb⟩
  exact ⟨rfl, hk.trans (hb.mono hk.size)⟩

set_option maxHeartbeats 8000000 in
set_option maxRecDepth 100000 in
theorem sane_s {w : World} (hG : Glob w) (W : World) (hk0 : Below w.heap.size w W) :
    Calls Tryz.prog 12 #[] W fun e W' => e = .returned (.bool true) ∧ Below w.heap.size w W' := by
  have c1 := Add_s hG (x := 999) (y := 1) (sx := ⟨#[57, 57, 57]⟩) (sy := ⟨#[49]⟩) (so := ⟨#[49, 48, 48, 48]⟩) (by decide +kernel) (by decide +kernel) (by decide +kernel) (by decide +kernel) (by decide +kernel) (by decide +kernel)
  have c2 := Sub_s hG (x := 1) (y := 1000) (sx := ⟨#[49]⟩) (sy := ⟨#[49, 48, 48, 48]⟩) (so := ⟨#[45, 57, 57, 57]⟩) (by decide +kernel) (by decide +kernel) (by decide +kernel) (by decide +kernel) (by decide +kernel) (by decide +kernel)
  have c3 := Mul_s hG (x := -12) (y := 12) (sx := ⟨#[45, 49, 50]⟩) (sy := ⟨#[49, 50]⟩) (so := ⟨#[45, 49, 52, 52]⟩) (by decide +kernel) (by decide +kernel) (by decide +kernel) (by decide +kernel) (by decide +kernel) (by decide +kernel)
  have c4 := Div_s hG (x := -7) (y := 2) (sx := ⟨#[45, 55]⟩) (sy := ⟨#[50]⟩) (sq := ⟨#[45, 52]⟩) (sr := ⟨#[49]⟩) (by decide +kernel) (by decide +kernel) (by decide +kernel) (by decide +kernel) (by decide) (by decide +kernel) (by decide +kernel)
  have c5 := Div_s hG (x := -7) (y := -2) (sx := ⟨#[45, 55]⟩) (sy := ⟨#[45, 50]⟩) (sq := ⟨#[52]⟩) (sr := ⟨#[49]⟩) (by decide +kernel) (by decide +kernel) (by decide +kernel) (by decide +kernel) (by decide) (by decide +kernel) (by decide +kernel)
  have c6 := Gcd_s hG (x := 12) (y := -18) (sx := ⟨#[49, 50]⟩) (sy := ⟨#[45, 49, 56]⟩) (so := ⟨#[54]⟩) (by decide +kernel) (by decide +kernel) (by decide +kernel) (by decide +kernel) (by decide +kernel)
  have c7 := Root_s hG (x := 99) (sx := ⟨#[57, 57]⟩) (so := ⟨#[57]⟩) (r := 9) (by decide +kernel) (by decide +kernel) (by decide) (by decide) (by decide) (by decide +kernel)
  have c8 := Root_n (w := w) (x := -1) (sx := ⟨#[45, 49]⟩) (by decide +kernel) (by decide +kernel) (by decide)
  have c9 : ∀ W : World, Below w.heap.size w W → Calls Tryz.prog 14 #[.string ⟨#[48, 48, 55]⟩, .string ⟨#[49]⟩] W fun e W' => e = .returned (.tuple #[.string ⟨#[]⟩, .int .i64 30]) ∧ Below w.heap.size w W' := fun W hk => (Add_no ⟨#[48, 48, 55]⟩ ⟨#[49]⟩ W (by decide) (by decide) (by decide +kernel)).mono (by rintro e w' ⟨rfl, hb⟩; exact ⟨rfl, hk.trans (hb.mono hk.size)⟩)
  have v1 := Valid_s (w := w) (s := ⟨#[45, 55]⟩) (b := true) (by decide) (by decide +kernel)
  have v2 := Valid_s (w := w) (s := ⟨#[45, 48]⟩) (b := false) (by decide) (by decide +kernel)
  have v3 := Valid_s (w := w) (s := ⟨#[]⟩) (b := false) (by decide) (by decide +kernel)
  have k1 := Compare_s (w := w) (x := -8) (y := -7) (sx := ⟨#[45, 56]⟩) (sy := ⟨#[45, 55]⟩) (by decide +kernel) (by decide +kernel) (by decide +kernel) (by decide +kernel)
  rw [show cmpI (-8) (-7) = -1 from by decide] at k1
  go_enter Tryz.func12, Tryz.ntmps12
  go_wp2_with (first
    | (go_at_call 14; with_reducible refine (c1 _ hk0).mono ?_; rintro e w' ⟨rfl, hk1⟩)
    | (go_at_call 16; with_reducible refine (c2 _ hk1).mono ?_; rintro e w' ⟨rfl, hk2⟩)
    | (go_at_call 15; with_reducible refine (c3 _ hk2).mono ?_; rintro e w' ⟨rfl, hk3⟩)
    | (go_at_call 17; with_reducible refine (c4 _ hk3).mono ?_; rintro e w' ⟨rfl, hk4⟩)
    | (go_at_call 17; with_reducible refine (c5 _ hk4).mono ?_; rintro e w' ⟨rfl, hk5⟩)
    | (go_at_call 20; with_reducible refine (c6 _ hk5).mono ?_; rintro e w' ⟨rfl, hk6⟩)
    | (go_at_call 21; with_reducible refine (c7 _ hk6).mono ?_; rintro e w' ⟨rfl, hk7⟩)
    | (go_at_call 21; with_reducible refine (c8 _ hk7).mono ?_; rintro e w' ⟨rfl, hk8⟩)
    | (go_at_call 14; with_reducible refine (c9 _ hk8).mono ?_; rintro e w' ⟨rfl, hk9⟩)
    | (go_at_call 19; with_reducible refine (v1 _ hk9).mono ?_; rintro e w' ⟨rfl, hkv⟩)
    | (go_at_call 19; with_reducible refine (v2 _ hkv).mono ?_; rintro e w' ⟨rfl, hkw⟩)
    | (go_at_call 19; with_reducible refine (v3 _ hkw).mono ?_; rintro e w' ⟨rfl, hkx⟩)
    | (go_at_call 18; with_reducible refine (k1 _ hkx).mono ?_; rintro e w' ⟨rfl, hky⟩))
  go_ret
  exact ⟨rfl, hky⟩

/-- An integer of at most k digits. -/
def Bd (z : Int) (k : Nat) : Prop := z.natAbs < 10 ^ k
theorem Bd.mono {z : Int} {k l : Nat} (h : Bd z k) (hk : k ≤ l) : Bd z l := Nat.lt_of_lt_of_le h (Nat.pow_le_pow_right (by omega) hk)
theorem Bd.small {z : Int} {k : Nat} (h : Bd z k) (hk : k ≤ 200) : small z = true := by
  unfold Go.Proofs.YtiefodlhnpondaaGreatDoor.small
  exact decide_eq_true ((nDig_le (by omega)).2 (h.mono hk))
theorem Bd.add {x y : Int} {k l : Nat} (hx : Bd x k) (hy : Bd y l) : Bd (x + y) (max k l + 1) := by
  have h1 := hx.mono (Nat.le_max_left k l)
  have h2 := hy.mono (Nat.le_max_right k l)
  unfold Bd at h1 h2 ⊢
  rw [Nat.pow_succ]
  omega
theorem Bd.neg {x : Int} {k : Nat} (hx : Bd x k) : Bd (-x) k := by unfold Bd at *; omega
theorem Bd.sub {x y : Int} {k l : Nat} (hx : Bd x k) (hy : Bd y l) : Bd (x - y) (max k l + 1) := by
  rw [Int.sub_eq_add_neg]
  exact hx.add hy.neg
theorem Bd.mul {x y : Int} {k l : Nat} (hx : Bd x k) (hy : Bd y l) : Bd (x * y) (k + l) := by
  unfold Bd at *
  rw [Int.natAbs_mul, Nat.pow_add]
  exact Nat.mul_lt_mul'' hx hy
theorem Bd.le {x y : Int} {k : Nat} (hx : Bd x k) (h : y.natAbs ≤ x.natAbs) : Bd y k := Nat.lt_of_le_of_lt h hx
theorem made_bd (l : List UInt8) (k : Nat) (h : 0 < k) : Bd (madeZ l k) k := (nDig_le h).1 (made_small l k h)
end Go.Proofs.YtiefodlhnpondaaGreatDoor
