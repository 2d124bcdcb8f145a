/-
  The law IntegerText: a number that is written is read again; a string that is read as a number is the one that is written for it.
-/
import Derived.Test.YtiefodlhnpondaaGreatDoorToInt
import Derived.Test.YtiefodlhnpondaaGreatDoorDivided
namespace Go.Proofs.YtiefodlhnpondaaGreatDoor
open Go.RowKit Go.Shelf
attribute [local go_sem] Oper.semAt_some

theorem small_i64 {z : Int} (h0 : -9223372036854775808 ≤ z) (h1 : z ≤ 9223372036854775807) : small z = true := by
  have h : z.natAbs < 10 ^ 19 := by
    have : (10 : Nat) ^ 19 = 10000000000000000000 := by decide
    omega
  exact Bd.small (k := 19) h (by decide)
theorem FromInt_s {w : World} (hG : Glob w) {z : Int} {s : ByteArray} (h0 : -9223372036854775808 ≤ z) (h1 : z ≤ 9223372036854775807) (es : s = str z) (W : World) (hk : Below w.heap.size w W) :
    Calls Tryz.prog 35 #[.int .i64 z] W fun e W' => e = .returned (.string s) ∧ Below w.heap.size w W' := by
  subst es
  refine (FromInt_any z W (hG.below hk) h0 h1).mono ?_
  rintro e w' ⟨rfl, hb⟩
  exact ⟨rfl, hk.trans (hb.mono hk.size)⟩
theorem ToInt_s {w : World} {z : Int} {s : ByteArray} (hs : small z = true) (hi : inInt z = true) (es : s = str z) (W : World) (hk : Below w.heap.size w W) :
    Calls Tryz.prog 31 #[.string s] W fun e W' => e = .returned (.tuple #[.int .i64 z, .int .i64 0]) ∧ Below w.heap.size w W' := by
  refine (ToInt_ok s z W es hs hi).mono ?_
  rintro e w' ⟨rfl, hb⟩
  exact ⟨rfl, hk.trans (hb.mono hk.size)⟩
theorem ToInt_n {w : World} (hE : GlobE w) {s : ByteArray} (hs : s.size ≤ 281474976710656) (hn : ∀ z, numOf s = some z → inInt z = false) (W : World) (hk : Below w.heap.size w W) :
    Calls Tryz.prog 31 #[.string s] W fun e W' => e = .returned (.tuple #[.int .i64 0, .int .i64 30]) ∧ Below w.heap.size w W' := by
  cases h : numOf s with
  | some z =>
    obtain ⟨es, hz⟩ := numOf_some h
    refine (ToInt_range s z W (hE.below hk) es hz (hn z h)).mono ?_
    rintro e w' ⟨rfl, hb⟩
    exact ⟨rfl, hk.trans (hb.mono hk.size)⟩
  | none =>
    have hv : validL s.data.toList = false := by rw [← numOf_valid, h]; rfl
    refine (ToInt_invalid s W (hE.below hk) hs hv).mono ?_
    rintro e w' ⟨rfl, hb⟩
    exact ⟨rfl, hk.trans (hb.mono hk.size)⟩

set_option maxHeartbeats 8000000 in
set_option maxRecDepth 100000 in
theorem IntegerText_law (n : Int) (s : ByteArray) (n1 : -9223372036854775808 ≤ n ∧ n ≤ 9223372036854775807) (hs : s.size ≤ maxLen) (w : World) (hG : Glob w) (hE : GlobE w) :
    Calls Tryz.prog 11 #[.int .i64 n, .string s] w fun e w' => e = .returned (.bool true) ∧ Below w.heap.size w w' := by
  obtain ⟨n1, n2⟩ := n1
  unfold maxLen at hs
  have hk0 := Below.refl w.heap.size w
  have s0 := Lib.hid (sane_s hG)
  obtain ⟨t, ht⟩ : ∃ t, t = str n := ⟨_, rfl⟩
  have hsm := small_i64 n1 n2
  have c1 := Lib.hid (FromInt_s hG n1 n2 ht)
  have c2 := Lib.hid (ToInt_s (w := w) hsm (inInt_iff.2 ⟨n1, n2⟩) ht)
  have c4 := Lib.hid (Valid_s (w := w) (s := t) (b := true) (by rw [ht]; exact small_size hsm) (valid_str hsm ht))
  obtain ⟨u, hu⟩ : ∃ u, u = s.extract 0 (min (s.size : Int) 30).toNat := ⟨_, rfl⟩
  have hus : u.size ≤ 30 := by rw [hu, ByteArray.size_extract]; omega
  have HU := Lib.hid hu
  clear hu ht hsm
  by_cases hz : ∃ z, numOf u = some z ∧ inInt z = true
  · obtain ⟨z, hz, hiz⟩ := hz
    obtain ⟨eu, hzs⟩ := numOf_some hz
    obtain ⟨z1, z2⟩ := inInt_iff.1 hiz
    have c3 := Lib.hid (ToInt_s (w := w) hzs hiz eu)
    have c5 := Lib.hid (Valid_s (w := w) (s := u) (b := true) (by omega) (valid_str hzs eu))
    have c6 := Lib.hid (FromInt_s hG z1 z2 eu)
    clear hz hiz eu hzs
    go_enter Tryz.func11, Tryz.ntmps11
    go_wp2_with (go_at_call 12; with_reducible refine (s0.out _ hk0).mono ?_; rintro e w' ⟨rfl, hk1⟩)
    rw [← HU.out]
    go_wp2_with (first
      | (go_at_call 35; with_reducible refine (c1.out _ hk1).mono ?_; rintro e w' ⟨rfl, hk2⟩)
      | (go_at_call 31; with_reducible refine (c2.out _ hk2).mono ?_; rintro e w' ⟨rfl, hk3⟩)
      | (go_at_call 31; with_reducible refine (c3.out _ hk3).mono ?_; rintro e w' ⟨rfl, hk4⟩)
      | (go_at_call 19; with_reducible refine (c4.out _ hk4).mono ?_; rintro e w' ⟨rfl, hk5⟩)
      | (go_at_call 19; with_reducible refine (c5.out _ hk5).mono ?_; rintro e w' ⟨rfl, hk6⟩)
      | (go_at_call 35; with_reducible refine (c6.out _ hk6).mono ?_; rintro e w' ⟨rfl, hk7⟩))
    go_ret
    exact ⟨rfl, hk7⟩
  · have c3 := Lib.hid (ToInt_n hE (s := u) (by omega) (fun z h => by
      cases h' : inInt z with
      | false => rfl
      | true => exact absurd ⟨z, h, h'⟩ hz))
    clear hz
    go_enter Tryz.func11, Tryz.ntmps11
    go_wp2_with (go_at_call 12; with_reducible refine (s0.out _ hk0).mono ?_; rintro e w' ⟨rfl, hk1⟩)
    rw [← HU.out]
    go_wp2_with (first
      | (go_at_call 35; with_reducible refine (c1.out _ hk1).mono ?_; rintro e w' ⟨rfl, hk2⟩)
      | (go_at_call 31; with_reducible refine (c2.out _ hk2).mono ?_; rintro e w' ⟨rfl, hk3⟩)
      | (go_at_call 31; with_reducible refine (c3.out _ hk3).mono ?_; rintro e w' ⟨rfl, hk4⟩)
      | (go_at_call 19; with_reducible refine (c4.out _ hk4).mono ?_; rintro e w' ⟨rfl, hk5⟩))
    go_ret
    exact ⟨rfl, hk5⟩
end Go.Proofs.YtiefodlhnpondaaGreatDoor
