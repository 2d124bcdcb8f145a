/-
  The reference implementation's Add, Sub, Mul, Compare, Gcd and Div.
-/
import Derived.Test.YtiefodlhnpondaaGreatDoorRDgt
namespace Go.Proofs.YtiefodlhnpondaaGreatDoor
open Go.RowKit Go.Shelf
attribute [local go_sem] Oper.semAt_some

theorem small_len {z : Int} (h : small z = true) : (dig 10 z.natAbs).length ≤ 200 := by
  rw [dig_length_le (by omega)]
  exact (nDig_le (n := z.natAbs) (k := 200) (by omega)).1 (by simpa [small] using h)
theorem rvalid_is {a : ByteArray} {v : Bool} (hs : a.size ≤ 9223372036854775807) (h : validL a.data.toList = v) (W : World) :
    Calls Tryz.prog 33 #[.string a] W fun e w' => e = .returned (.bool v) ∧ W = w' := by
  subst h
  exact rvalid_any a W hs
theorem str_valid {s : ByteArray} {z : Int} (e : s = str z) (h : small z = true) : validL s.data.toList = true ∧ s.size ≤ 9223372036854775807 := by
  subst e
  refine ⟨by rw [str_list, validL_txt]; exact h, ?_⟩
  rw [str_size]
  have := txt_length z
  have : nDig z.natAbs ≤ 200 := by simpa [small] using h
  omega
theorem sign_eq (z : Int) : z = if decide (z < 0) = true then -(z.natAbs : Int) else (z.natAbs : Int) := by
  by_cases h : z < 0
  · rw [if_pos (decide_eq_true h)]; omega
  · rw [if_neg (by simpa using h)]; omega
theorem sign_neg (z : Int) : -z = if (!decide (z < 0)) = true then -(z.natAbs : Int) else (z.natAbs : Int) := by
  by_cases h : z < 0
  · rw [if_neg (by simpa using h)]; omega
  · rw [if_pos (by simpa using h)]; omega
theorem sign_mul (x y : Int) : x * y = if (decide (x < 0) != decide (y < 0)) = true then -((x.natAbs * y.natAbs : Nat) : Int) else ((x.natAbs * y.natAbs : Nat) : Int) := by
  have h1 := sign_eq x
  have h2 := sign_eq y
  generalize x.natAbs = n at h1 ⊢
  generalize y.natAbs = m at h2 ⊢
  generalize decide (x < 0) = a at h1 ⊢
  generalize decide (y < 0) = b at h2 ⊢
  rw [h1, h2]
  cases a <;> cases b <;> simp [Int.neg_mul, Int.mul_neg]

set_option maxRecDepth 100000 in
set_option maxHeartbeats 2000000 in
theorem rAdd_no (a b : ByteArray) (w : World) (ha : a.size ≤ 9223372036854775807) (hb : b.size ≤ 9223372036854775807) (hn : (validL a.data.toList && validL b.data.toList) = false) :
    Calls Tryz.prog 25 #[.string a, .string b] w fun e w' => e = .returned (.tuple #[.string ⟨#[]⟩, .int .i64 30]) ∧ w = w' := by
  by_cases h : validL a.data.toList = true
  · have hvb : validL b.data.toList = false := by rw [h] at hn; simpa using hn
    have VA := Lib.hid (rvalid_is ha h)
    have VB := Lib.hid (rvalid_is hb hvb)
    clear h hvb hn
    go_enter Tryz.func25, Tryz.ntmps25
    go_wp2_with (first
      | (go_at_call 33; with_reducible refine (VA.out _).mono ?_; rintro e w1 ⟨rfl, rfl⟩)
      | (go_at_call 33; with_reducible refine (VB.out _).mono ?_; rintro e w1 ⟨rfl, rfl⟩))
    go_ret2
    exact ⟨rfl, rfl⟩
  · have VA := Lib.hid (rvalid_is ha (show validL a.data.toList = false by simpa using h))
    clear h hn
    go_enter Tryz.func25, Tryz.ntmps25
    go_wp2_with (go_at_call 33; with_reducible refine (VA.out _).mono ?_; rintro e w1 ⟨rfl, rfl⟩)
    go_ret2
    exact ⟨rfl, rfl⟩

set_option maxRecDepth 100000 in
set_option maxHeartbeats 2000000 in
theorem rSub_no (a b : ByteArray) (w : World) (ha : a.size ≤ 9223372036854775807) (hb : b.size ≤ 9223372036854775807) (hn : (validL a.data.toList && validL b.data.toList) = false) :
    Calls Tryz.prog 26 #[.string a, .string b] w fun e w' => e = .returned (.tuple #[.string ⟨#[]⟩, .int .i64 30]) ∧ w = w' := by
  by_cases h : validL a.data.toList = true
  · have hvb : validL b.data.toList = false := by rw [h] at hn; simpa using hn
    have VA := Lib.hid (rvalid_is ha h)
    have VB := Lib.hid (rvalid_is hb hvb)
    clear h hvb hn
    go_enter Tryz.func26, Tryz.ntmps26
    go_wp2_with (first
      | (go_at_call 33; with_reducible refine (VA.out _).mono ?_; rintro e w1 ⟨rfl, rfl⟩)
      | (go_at_call 33; with_reducible refine (VB.out _).mono ?_; rintro e w1 ⟨rfl, rfl⟩))
    go_ret2
    exact ⟨rfl, rfl⟩
  · have VA := Lib.hid (rvalid_is ha (show validL a.data.toList = false by simpa using h))
    clear h hn
    go_enter Tryz.func26, Tryz.ntmps26
    go_wp2_with (go_at_call 33; with_reducible refine (VA.out _).mono ?_; rintro e w1 ⟨rfl, rfl⟩)
    go_ret2
    exact ⟨rfl, rfl⟩

set_option maxRecDepth 100000 in
set_option maxHeartbeats 2000000 in
theorem rMul_no (a b : ByteArray) (w : World) (ha : a.size ≤ 9223372036854775807) (hb : b.size ≤ 9223372036854775807) (hn : (validL a.data.toList && validL b.data.toList) = false) :
    Calls Tryz.prog 27 #[.string a, .string b] w fun e w' => e = .returned (.tuple #[.string ⟨#[]⟩, .int .i64 30]) ∧ w = w' := by
  by_cases h : validL a.data.toList = true
  · have hvb : validL b.data.toList = false := by rw [h] at hn; simpa using hn
    have VA := Lib.hid (rvalid_is ha h)
    have VB := Lib.hid (rvalid_is hb hvb)
    clear h hvb hn
    go_enter Tryz.func27, Tryz.ntmps27
    go_wp2_with (first
      | (go_at_call 33; with_reducible refine (VA.out _).mono ?_; rintro e w1 ⟨rfl, rfl⟩)
      | (go_at_call 33; with_reducible refine (VB.out _).mono ?_; rintro e w1 ⟨rfl, rfl⟩))
    go_ret2
    exact ⟨rfl, rfl⟩
  · have VA := Lib.hid (rvalid_is ha (show validL a.data.toList = false by simpa using h))
    clear h hn
    go_enter Tryz.func27, Tryz.ntmps27
    go_wp2_with (go_at_call 33; with_reducible refine (VA.out _).mono ?_; rintro e w1 ⟨rfl, rfl⟩)
    go_ret2
    exact ⟨rfl, rfl⟩

set_option maxRecDepth 100000 in
set_option maxHeartbeats 2000000 in
theorem rGcd_no (a b : ByteArray) (w : World) (ha : a.size ≤ 9223372036854775807) (hb : b.size ≤ 9223372036854775807) (hn : (validL a.data.toList && validL b.data.toList) = false) :
    Calls Tryz.prog 29 #[.string a, .string b] w fun e w' => e = .returned (.tuple #[.string ⟨#[]⟩, .int .i64 30]) ∧ w = w' := by
  by_cases h : validL a.data.toList = true
  · have hvb : validL b.data.toList = false := by rw [h] at hn; simpa using hn
    have VA := Lib.hid (rvalid_is ha h)
    have VB := Lib.hid (rvalid_is hb hvb)
    clear h hvb hn
    go_enter Tryz.func29, Tryz.ntmps29
    go_wp2_with (first
      | (go_at_call 33; with_reducible refine (VA.out _).mono ?_; rintro e w1 ⟨rfl, rfl⟩)
      | (go_at_call 33; with_reducible refine (VB.out _).mono ?_; rintro e w1 ⟨rfl, rfl⟩))
    go_ret2
    exact ⟨rfl, rfl⟩
  · have VA := Lib.hid (rvalid_is ha (show validL a.data.toList = false by simpa using h))
    clear h hn
    go_enter Tryz.func29, Tryz.ntmps29
    go_wp2_with (go_at_call 33; with_reducible refine (VA.out _).mono ?_; rintro e w1 ⟨rfl, rfl⟩)
    go_ret2
    exact ⟨rfl, rfl⟩

set_option maxRecDepth 100000 in
set_option maxHeartbeats 2000000 in
theorem rCompare_no (a b : ByteArray) (w : World) (ha : a.size ≤ 9223372036854775807) (hb : b.size ≤ 9223372036854775807) (hn : (validL a.data.toList && validL b.data.toList) = false) :
    Calls Tryz.prog 34 #[.string a, .string b] w fun e w' => e = .returned (.int .i64 0) ∧ w = w' := by
  by_cases h : validL a.data.toList = true
  · have hvb : validL b.data.toList = false := by rw [h] at hn; simpa using hn
    have VA := Lib.hid (rvalid_is ha h)
    have VB := Lib.hid (rvalid_is hb hvb)
    clear h hvb hn
    go_enter Tryz.func34, Tryz.ntmps34
    go_wp2_with (first
      | (go_at_call 33; with_reducible refine (VA.out _).mono ?_; rintro e w1 ⟨rfl, rfl⟩)
      | (go_at_call 33; with_reducible refine (VB.out _).mono ?_; rintro e w1 ⟨rfl, rfl⟩))
    go_ret
    exact ⟨rfl, rfl⟩
  · have VA := Lib.hid (rvalid_is ha (show validL a.data.toList = false by simpa using h))
    clear h hn
    go_enter Tryz.func34, Tryz.ntmps34
    go_wp2_with (go_at_call 33; with_reducible refine (VA.out _).mono ?_; rintro e w1 ⟨rfl, rfl⟩)
    go_ret
    exact ⟨rfl, rfl⟩

set_option maxRecDepth 100000 in
set_option maxHeartbeats 2000000 in
theorem rDiv_no (a b : ByteArray) (w : World) (ha : a.size ≤ 9223372036854775807) (hb : b.size ≤ 9223372036854775807) (hn : (validL a.data.toList && validL b.data.toList) = false) :
    Calls Tryz.prog 28 #[.string a, .string b] w fun e w' => e = .returned (.tuple #[.string ⟨#[]⟩, .string ⟨#[]⟩, .int .i64 30]) ∧ w = w' := by
  by_cases h : validL a.data.toList = true
  · have hvb : validL b.data.toList = false := by rw [h] at hn; simpa using hn
    have VA := Lib.hid (rvalid_is ha h)
    have VB := Lib.hid (rvalid_is hb hvb)
    clear h hvb hn
    go_enter Tryz.func28, Tryz.ntmps28
    go_wp2_with (first
      | (go_at_call 33; with_reducible refine (VA.out _).mono ?_; rintro e w1 ⟨rfl, rfl⟩)
      | (go_at_call 33; with_reducible refine (VB.out _).mono ?_; rintro e w1 ⟨rfl, rfl⟩))
    go_ret3
    exact ⟨rfl, rfl⟩
  · have VA := Lib.hid (rvalid_is ha (show validL a.data.toList = false by simpa using h))
    clear h hn
    go_enter Tryz.func28, Tryz.ntmps28
    go_wp2_with (go_at_call 33; with_reducible refine (VA.out _).mono ?_; rintro e w1 ⟨rfl, rfl⟩)
    go_ret3
    exact ⟨rfl, rfl⟩

set_option maxRecDepth 100000 in
set_option maxHeartbeats 4000000 in
theorem rAdd_ok (a b : ByteArray) (x y : Int) (w : World) (ea : a = str x) (eb : b = str y) (hx : small x = true) (hy : small y = true) :
    Calls Tryz.prog 25 #[.string a, .string b] w fun e w' => (∃ s k, outZ (x + y) = #[.string s, .int .i64 k] ∧ e = .returned (.tuple #[.string s, .int .i64 k])) ∧ Below w.heap.size w w' := by
  obtain ⟨va, za⟩ := str_valid ea hx
  obtain ⟨vb, zb⟩ := str_valid eb hy
  have lx := small_len hx
  have ly := small_len hy
  have hda := fun W => rdigits_any a x W ea hx
  have hdb := fun W => rdigits_any b y W eb hy
  have VA := Lib.hid (rvalid_is za va)
  have VB := Lib.hid (rvalid_is zb vb)
  have HDA := Lib.hid hda
  have HDB := Lib.hid hdb
  have hs1 := sign_eq x
  have hs2 := sign_eq y
  have HS1 := Lib.hid hs1
  have HS2 := Lib.hid hs2
  clear hs1 hs2 hda hdb va vb ea eb hx hy
  generalize decide (x < 0) = sx at HDA HS1
  generalize decide (y < 0) = sy at HDB HS2
  go_enter Tryz.func25, Tryz.ntmps25
  go_wp2_with (first
    | (go_at_call 33; with_reducible refine (VA.out _).mono ?_; rintro e w1 ⟨rfl, rfl⟩)
    | (go_at_call 33; with_reducible refine (VB.out _).mono ?_; rintro e w1 ⟨rfl, rfl⟩)
    | (go_at_call 48; with_reducible refine (HDA.out _).mono ?_; rintro e w1 ⟨⟨v1, rfl, hv1⟩, hb1⟩; have HV1 := Lib.hid hv1; have HB1 := Lib.hid hb1; clear hv1 hb1)
    | (go_at_call 48; with_reducible refine (HDB.out _).mono ?_; rintro e w2 ⟨⟨v2, rfl, hv2⟩, hb2⟩; have HV2 := Lib.hid hv2; have HB2 := Lib.hid hb2; have HV1b := Lib.hid (HV1.out.below HB2.out (Nat.le_refl _)); have HBB := Lib.hid (HB1.out.trans (HB2.out.mono HB1.out.size)); clear hv2 hb2)
    | (go_at_call 49; refine (rsum_any sx (sy) v1 v2 x.natAbs y.natAbs x (y) w.heap.size w1.heap.size w1.heap.size w2.heap.size _ HV1b.out HV2.out HB2.out.size (Nat.le_refl _) (by omega) (by omega) HS1.out HS2.out).mono ?_; rintro e w3 ⟨⟨s, k, hs, rfl⟩, hb3⟩; have HS := Lib.hid hs; have HB3 := Lib.hid hb3; clear hs hb3))
  go_ret2
  exact ⟨⟨s, k, HS.out, rfl⟩, HBB.out.trans (HB3.out.mono HBB.out.size)⟩

set_option maxRecDepth 100000 in
set_option maxHeartbeats 4000000 in
theorem rSub_ok (a b : ByteArray) (x y : Int) (w : World) (ea : a = str x) (eb : b = str y) (hx : small x = true) (hy : small y = true) :
    Calls Tryz.prog 26 #[.string a, .string b] w fun e w' => (∃ s k, outZ (x - y) = #[.string s, .int .i64 k] ∧ e = .returned (.tuple #[.string s, .int .i64 k])) ∧ Below w.heap.size w w' := by
  obtain ⟨va, za⟩ := str_valid ea hx
  obtain ⟨vb, zb⟩ := str_valid eb hy
  have lx := small_len hx
  have ly := small_len hy
  have hda := fun W => rdigits_any a x W ea hx
  have hdb := fun W => rdigits_any b y W eb hy
  have VA := Lib.hid (rvalid_is za va)
  have VB := Lib.hid (rvalid_is zb vb)
  have HDA := Lib.hid hda
  have HDB := Lib.hid hdb
  have hs1 := sign_eq x
  have hs2 := sign_neg y
  have HS1 := Lib.hid hs1
  have HS2 := Lib.hid hs2
  clear hs1 hs2 hda hdb va vb ea eb hx hy
  generalize decide (x < 0) = sx at HDA HS1
  generalize decide (y < 0) = sy at HDB HS2
  go_enter Tryz.func26, Tryz.ntmps26
  go_wp2_with (first
    | (go_at_call 33; with_reducible refine (VA.out _).mono ?_; rintro e w1 ⟨rfl, rfl⟩)
    | (go_at_call 33; with_reducible refine (VB.out _).mono ?_; rintro e w1 ⟨rfl, rfl⟩)
    | (go_at_call 48; with_reducible refine (HDA.out _).mono ?_; rintro e w1 ⟨⟨v1, rfl, hv1⟩, hb1⟩; have HV1 := Lib.hid hv1; have HB1 := Lib.hid hb1; clear hv1 hb1)
    | (go_at_call 48; with_reducible refine (HDB.out _).mono ?_; rintro e w2 ⟨⟨v2, rfl, hv2⟩, hb2⟩; have HV2 := Lib.hid hv2; have HB2 := Lib.hid hb2; have HV1b := Lib.hid (HV1.out.below HB2.out (Nat.le_refl _)); have HBB := Lib.hid (HB1.out.trans (HB2.out.mono HB1.out.size)); clear hv2 hb2)
    | (go_at_call 49; refine (rsum_any sx (!sy) v1 v2 x.natAbs y.natAbs x (-y) w.heap.size w1.heap.size w1.heap.size w2.heap.size _ HV1b.out HV2.out HB2.out.size (Nat.le_refl _) (by omega) (by omega) HS1.out HS2.out).mono ?_; rintro e w3 ⟨⟨s, k, hs, rfl⟩, hb3⟩; have HS := Lib.hid hs; have HB3 := Lib.hid hb3; clear hs hb3))
  go_ret2
  exact ⟨⟨s, k, by rw [Int.sub_eq_add_neg]; exact HS.out, rfl⟩, HBB.out.trans (HB3.out.mono HBB.out.size)⟩

theorem mul_len_k {n m k l : Nat} (l1 : (dig 10 n).length ≤ k) (l2 : (dig 10 m).length ≤ l) : (dig 10 (n * m)).length ≤ k + l := by
  have h1 := (dig_length_le (B := 10) (by omega) n _).1 l1
  have h2 := (dig_length_le (B := 10) (by omega) m _).1 l2
  refine (dig_length_le (by omega) _ _).2 ?_
  rw [Nat.pow_add]
  exact Nat.mul_lt_mul'' h1 h2
theorem mul_len {n m : Nat} (l1 : (dig 10 n).length ≤ 200) (l2 : (dig 10 m).length ≤ 200) : (dig 10 (n * m)).length ≤ 400 := mul_len_k l1 l2

set_option maxRecDepth 100000 in
set_option maxHeartbeats 4000000 in
theorem rMul_ok (a b : ByteArray) (x y : Int) (w : World) (ea : a = str x) (eb : b = str y) (hx : small x = true) (hy : small y = true) :
    Calls Tryz.prog 27 #[.string a, .string b] w fun e w' => (∃ s k, outZ (x * y) = #[.string s, .int .i64 k] ∧ e = .returned (.tuple #[.string s, .int .i64 k])) ∧ Below w.heap.size w w' := by
  obtain ⟨va, za⟩ := str_valid ea hx
  obtain ⟨vb, zb⟩ := str_valid eb hy
  have lx := small_len hx
  have ly := small_len hy
  have hda := fun W => rdigits_any a x W ea hx
  have hdb := fun W => rdigits_any b y W eb hy
  have VA := Lib.hid (rvalid_is za va)
  have VB := Lib.hid (rvalid_is zb vb)
  have HDA := Lib.hid hda
  have HDB := Lib.hid hdb
  have hs1 := sign_mul x y
  have hml := mul_len lx ly
  have HS1 := Lib.hid hs1
  have f1 : Few10 x.natAbs := by unfold Few10; omega
  have f2 : Few10 y.natAbs := by unfold Few10; omega
  clear hs1 hda hdb va vb ea eb hx hy
  generalize decide (x < 0) = sx at HDA HS1
  generalize decide (y < 0) = sy at HDB HS1
  go_enter Tryz.func27, Tryz.ntmps27
  go_wp2_with (first
    | (go_at_call 33; with_reducible refine (VA.out _).mono ?_; rintro e w1 ⟨rfl, rfl⟩)
    | (go_at_call 33; with_reducible refine (VB.out _).mono ?_; rintro e w1 ⟨rfl, rfl⟩)
    | (go_at_call 48; with_reducible refine (HDA.out _).mono ?_; rintro e w1 ⟨⟨v1, rfl, hv1⟩, hb1⟩; have HV1 := Lib.hid hv1; have HB1 := Lib.hid hb1; clear hv1 hb1)
    | (go_at_call 48; with_reducible refine (HDB.out _).mono ?_; rintro e w2 ⟨⟨v2, rfl, hv2⟩, hb2⟩; have HV2 := Lib.hid hv2; have HB2 := Lib.hid hb2; have HV1b := Lib.hid (HV1.out.below HB2.out (Nat.le_refl _)); have HBB := Lib.hid (HB1.out.trans (HB2.out.mono HB1.out.size)); clear hv2 hb2)
    | (go_at_call 51; refine (rtimes_any v1 v2 x.natAbs y.natAbs w.heap.size w1.heap.size w1.heap.size w2.heap.size _ HV1b.out HV2.out HB2.out.size (Nat.le_refl _) f1 f2).mono ?_; rintro e w3 ⟨⟨v3, rfl, hv3⟩, hb3⟩; have HV3 := Lib.hid hv3; have HB3 := Lib.hid hb3; clear hv3 hb3)
    | (go_at_call 50; refine (rchecked_any (sx != sy) v3 (x.natAbs * y.natAbs) (x * y) w2.heap.size w3.heap.size _ HV3.out (Nat.le_refl _) (by omega) HS1.out).mono ?_; rintro e w4 ⟨⟨s, k, hs, rfl⟩, hb4⟩; have HS := Lib.hid hs; have HB4 := Lib.hid hb4; clear hs hb4))
  go_ret2
  have h3 := HBB.out.trans (HB3.out.mono HBB.out.size)
  exact ⟨⟨s, k, HS.out, rfl⟩, h3.trans (HB4.out.mono h3.size)⟩

set_option maxRecDepth 100000 in
set_option maxHeartbeats 4000000 in
theorem rCompare_nn (a b : ByteArray) (x y : Int) (w : World) (ea : a = str x) (eb : b = str y) (hx : small x = true) (hy : small y = true) (h1 : x < 0) (h2 : y < 0) :
    Calls Tryz.prog 34 #[.string a, .string b] w fun e w' => e = .returned (.int .i64 (cmpI x y)) ∧ Below w.heap.size w w' := by
  have hcx : cmpI x y = cmpI (y.natAbs : Int) (x.natAbs : Int) := by
    unfold cmpI
    rcases Int.lt_trichotomy x y with h | h | h
    · first | (rw [if_pos h]; done) | (rw [if_pos h, if_pos (by omega)]; done) | (exfalso; omega)
    · first | (rw [if_neg (by omega), if_neg (by omega), if_neg (by omega), if_neg (by omega)]; done) | (exfalso; omega)
    · first | (rw [if_neg (by omega), if_pos (by omega)]; done) | (rw [if_neg (by omega), if_pos (by omega), if_neg (by omega), if_pos (by omega)]; done) | (exfalso; omega)
  rw [hcx]
  obtain ⟨va, za⟩ := str_valid ea hx
  obtain ⟨vb, zb⟩ := str_valid eb hy
  have lx := small_len hx
  have ly := small_len hy
  have hda := fun W => rdigits_any a x W ea hx
  have hdb := fun W => rdigits_any b y W eb hy
  have VA := Lib.hid (rvalid_is za va)
  have VB := Lib.hid (rvalid_is zb vb)
  have HDA := Lib.hid hda
  have HDB := Lib.hid hdb
  have hbx : decide (x < 0) = true := by exact decide_eq_true h1
  have hby : decide (y < 0) = true := by exact decide_eq_true h2
  rw [hbx] at HDA
  rw [hby] at HDB
  clear hda hdb va vb ea eb hx hy hbx hby hcx h1 h2
  go_enter Tryz.func34, Tryz.ntmps34
  go_wp2_with (first
    | (go_at_call 33; with_reducible refine (VA.out _).mono ?_; rintro e w1 ⟨rfl, rfl⟩)
    | (go_at_call 33; with_reducible refine (VB.out _).mono ?_; rintro e w1 ⟨rfl, rfl⟩)
    | (go_at_call 48; with_reducible refine (HDA.out _).mono ?_; rintro e w1 ⟨⟨v1, rfl, hv1⟩, hb1⟩; have HV1 := Lib.hid hv1; have HB1 := Lib.hid hb1; clear hv1 hb1)
    | (go_at_call 48; with_reducible refine (HDB.out _).mono ?_; rintro e w2 ⟨⟨v2, rfl, hv2⟩, hb2⟩; have HV2 := Lib.hid hv2; have HB2 := Lib.hid hb2; have HV1b := Lib.hid (HV1.out.below HB2.out (Nat.le_refl _)); have HBB := Lib.hid (HB1.out.trans (HB2.out.mono HB1.out.size)); clear hv2 hb2)
    | fail)
  go_wp2_with (go_at_call 55; refine (rorder_any v2 v1 y.natAbs x.natAbs _ _ _ _ _ HV2.out HV1b.out).mono ?_; rintro e w3 ⟨rfl, hs3⟩; have HB3 := Lib.hid (hs3.below w2.heap.size); clear hs3)
  go_wp2
  go_ret
  exact ⟨rfl, HBB.out.trans (HB3.out.mono HBB.out.size)⟩

set_option maxRecDepth 100000 in
set_option maxHeartbeats 4000000 in
theorem rCompare_np (a b : ByteArray) (x y : Int) (w : World) (ea : a = str x) (eb : b = str y) (hx : small x = true) (hy : small y = true) (h1 : x < 0) (h2 : ¬ y < 0) :
    Calls Tryz.prog 34 #[.string a, .string b] w fun e w' => e = .returned (.int .i64 (cmpI x y)) ∧ Below w.heap.size w w' := by
  have hcx : cmpI x y = -1 := by
    unfold cmpI
    rcases Int.lt_trichotomy x y with h | h | h
    · first | (rw [if_pos h]; done) | (rw [if_pos h, if_pos (by omega)]; done) | (exfalso; omega)
    · first | (rw [if_neg (by omega), if_neg (by omega), if_neg (by omega), if_neg (by omega)]; done) | (exfalso; omega)
    · first | (rw [if_neg (by omega), if_pos (by omega)]; done) | (rw [if_neg (by omega), if_pos (by omega), if_neg (by omega), if_pos (by omega)]; done) | (exfalso; omega)
  rw [hcx]
  obtain ⟨va, za⟩ := str_valid ea hx
  obtain ⟨vb, zb⟩ := str_valid eb hy
  have lx := small_len hx
  have ly := small_len hy
  have hda := fun W => rdigits_any a x W ea hx
  have hdb := fun W => rdigits_any b y W eb hy
  have VA := Lib.hid (rvalid_is za va)
  have VB := Lib.hid (rvalid_is zb vb)
  have HDA := Lib.hid hda
  have HDB := Lib.hid hdb
  have hbx : decide (x < 0) = true := by exact decide_eq_true h1
  have hby : decide (y < 0) = false := by exact decide_eq_false h2
  rw [hbx] at HDA
  rw [hby] at HDB
  clear hda hdb va vb ea eb hx hy hbx hby hcx h1 h2
  go_enter Tryz.func34, Tryz.ntmps34
  go_wp2_with (first
    | (go_at_call 33; with_reducible refine (VA.out _).mono ?_; rintro e w1 ⟨rfl, rfl⟩)
    | (go_at_call 33; with_reducible refine (VB.out _).mono ?_; rintro e w1 ⟨rfl, rfl⟩)
    | (go_at_call 48; with_reducible refine (HDA.out _).mono ?_; rintro e w1 ⟨⟨v1, rfl, hv1⟩, hb1⟩; have HV1 := Lib.hid hv1; have HB1 := Lib.hid hb1; clear hv1 hb1)
    | (go_at_call 48; with_reducible refine (HDB.out _).mono ?_; rintro e w2 ⟨⟨v2, rfl, hv2⟩, hb2⟩; have HV2 := Lib.hid hv2; have HB2 := Lib.hid hb2; have HV1b := Lib.hid (HV1.out.below HB2.out (Nat.le_refl _)); have HBB := Lib.hid (HB1.out.trans (HB2.out.mono HB1.out.size)); clear hv2 hb2)
    | fail)
  skip
  go_wp2
  go_ret
  exact ⟨rfl, HBB.out⟩

set_option maxRecDepth 100000 in
set_option maxHeartbeats 4000000 in
theorem rCompare_pn (a b : ByteArray) (x y : Int) (w : World) (ea : a = str x) (eb : b = str y) (hx : small x = true) (hy : small y = true) (h1 : ¬ x < 0) (h2 : y < 0) :
    Calls Tryz.prog 34 #[.string a, .string b] w fun e w' => e = .returned (.int .i64 (cmpI x y)) ∧ Below w.heap.size w w' := by
  have hcx : cmpI x y = 1 := by
    unfold cmpI
    rcases Int.lt_trichotomy x y with h | h | h
    · first | (rw [if_pos h]; done) | (rw [if_pos h, if_pos (by omega)]; done) | (exfalso; omega)
    · first | (rw [if_neg (by omega), if_neg (by omega), if_neg (by omega), if_neg (by omega)]; done) | (exfalso; omega)
    · first | (rw [if_neg (by omega), if_pos (by omega)]; done) | (rw [if_neg (by omega), if_pos (by omega), if_neg (by omega), if_pos (by omega)]; done) | (exfalso; omega)
  rw [hcx]
  obtain ⟨va, za⟩ := str_valid ea hx
  obtain ⟨vb, zb⟩ := str_valid eb hy
  have lx := small_len hx
  have ly := small_len hy
  have hda := fun W => rdigits_any a x W ea hx
  have hdb := fun W => rdigits_any b y W eb hy
  have VA := Lib.hid (rvalid_is za va)
  have VB := Lib.hid (rvalid_is zb vb)
  have HDA := Lib.hid hda
  have HDB := Lib.hid hdb
  have hbx : decide (x < 0) = false := by exact decide_eq_false h1
  have hby : decide (y < 0) = true := by exact decide_eq_true h2
  rw [hbx] at HDA
  rw [hby] at HDB
  clear hda hdb va vb ea eb hx hy hbx hby hcx h1 h2
  go_enter Tryz.func34, Tryz.ntmps34
  go_wp2_with (first
    | (go_at_call 33; with_reducible refine (VA.out _).mono ?_; rintro e w1 ⟨rfl, rfl⟩)
    | (go_at_call 33; with_reducible refine (VB.out _).mono ?_; rintro e w1 ⟨rfl, rfl⟩)
    | (go_at_call 48; with_reducible refine (HDA.out _).mono ?_; rintro e w1 ⟨⟨v1, rfl, hv1⟩, hb1⟩; have HV1 := Lib.hid hv1; have HB1 := Lib.hid hb1; clear hv1 hb1)
    | (go_at_call 48; with_reducible refine (HDB.out _).mono ?_; rintro e w2 ⟨⟨v2, rfl, hv2⟩, hb2⟩; have HV2 := Lib.hid hv2; have HB2 := Lib.hid hb2; have HV1b := Lib.hid (HV1.out.below HB2.out (Nat.le_refl _)); have HBB := Lib.hid (HB1.out.trans (HB2.out.mono HB1.out.size)); clear hv2 hb2)
    | fail)
  skip
  go_wp2
  go_ret
  exact ⟨rfl, HBB.out⟩

set_option maxRecDepth 100000 in
set_option maxHeartbeats 4000000 in
theorem rCompare_pp (a b : ByteArray) (x y : Int) (w : World) (ea : a = str x) (eb : b = str y) (hx : small x = true) (hy : small y = true) (h1 : ¬ x < 0) (h2 : ¬ y < 0) :
    Calls Tryz.prog 34 #[.string a, .string b] w fun e w' => e = .returned (.int .i64 (cmpI x y)) ∧ Below w.heap.size w w' := by
  have hcx : cmpI x y = cmpI (x.natAbs : Int) (y.natAbs : Int) := by
    unfold cmpI
    rcases Int.lt_trichotomy x y with h | h | h
    · first | (rw [if_pos h]; done) | (rw [if_pos h, if_pos (by omega)]; done) | (exfalso; omega)
    · first | (rw [if_neg (by omega), if_neg (by omega), if_neg (by omega), if_neg (by omega)]; done) | (exfalso; omega)
    · first | (rw [if_neg (by omega), if_pos (by omega)]; done) | (rw [if_neg (by omega), if_pos (by omega), if_neg (by omega), if_pos (by omega)]; done) | (exfalso; omega)
  rw [hcx]
  obtain ⟨va, za⟩ := str_valid ea hx
  obtain ⟨vb, zb⟩ := str_valid eb hy
  have lx := small_len hx
  have ly := small_len hy
  have hda := fun W => rdigits_any a x W ea hx
  have hdb := fun W => rdigits_any b y W eb hy
  have VA := Lib.hid (rvalid_is za va)
  have VB := Lib.hid (rvalid_is zb vb)
  have HDA := Lib.hid hda
  have HDB := Lib.hid hdb
  have hbx : decide (x < 0) = false := by exact decide_eq_false h1
  have hby : decide (y < 0) = false := by exact decide_eq_false h2
  rw [hbx] at HDA
  rw [hby] at HDB
  clear hda hdb va vb ea eb hx hy hbx hby hcx h1 h2
  go_enter Tryz.func34, Tryz.ntmps34
  go_wp2_with (first
    | (go_at_call 33; with_reducible refine (VA.out _).mono ?_; rintro e w1 ⟨rfl, rfl⟩)
    | (go_at_call 33; with_reducible refine (VB.out _).mono ?_; rintro e w1 ⟨rfl, rfl⟩)
    | (go_at_call 48; with_reducible refine (HDA.out _).mono ?_; rintro e w1 ⟨⟨v1, rfl, hv1⟩, hb1⟩; have HV1 := Lib.hid hv1; have HB1 := Lib.hid hb1; clear hv1 hb1)
    | (go_at_call 48; with_reducible refine (HDB.out _).mono ?_; rintro e w2 ⟨⟨v2, rfl, hv2⟩, hb2⟩; have HV2 := Lib.hid hv2; have HB2 := Lib.hid hb2; have HV1b := Lib.hid (HV1.out.below HB2.out (Nat.le_refl _)); have HBB := Lib.hid (HB1.out.trans (HB2.out.mono HB1.out.size)); clear hv2 hb2)
    | fail)
  go_wp2_with (go_at_call 55; refine (rorder_any v1 v2 x.natAbs y.natAbs _ _ _ _ _ HV1b.out HV2.out).mono ?_; rintro e w3 ⟨rfl, hs3⟩; have HB3 := Lib.hid (hs3.below w2.heap.size); clear hs3)
  go_wp2
  go_ret
  exact ⟨rfl, HBB.out.trans (HB3.out.mono HBB.out.size)⟩

theorem rCompare_ok (a b : ByteArray) (x y : Int) (w : World) (ea : a = str x) (eb : b = str y) (hx : small x = true) (hy : small y = true) :
    Calls Tryz.prog 34 #[.string a, .string b] w fun e w' => e = .returned (.int .i64 (cmpI x y)) ∧ Below w.heap.size w w' := by
  by_cases h1 : x < 0 <;> by_cases h2 : y < 0
  · exact rCompare_nn a b x y w ea eb hx hy h1 h2
  · exact rCompare_np a b x y w ea eb hx hy h1 h2
  · exact rCompare_pn a b x y w ea eb hx hy h1 h2
  · exact rCompare_pp a b x y w ea eb hx hy h1 h2

set_option maxRecDepth 100000 in
set_option maxHeartbeats 8000000 in
theorem rGcd_ok (a b : ByteArray) (x y : Int) (w : World) (ea : a = str x) (eb : b = str y) (hx : small x = true) (hy : small y = true) :
    Calls Tryz.prog 29 #[.string a, .string b] w fun e w' => (∃ s n, outZ ((Nat.gcd x.natAbs y.natAbs : Nat) : Int) = #[.string s, .int .i64 n] ∧ e = .returned (.tuple #[.string s, .int .i64 n])) ∧ Below w.heap.size w w' := by
  obtain ⟨μ, hμ⟩ := nr_measure
  have HMU := Lib.hid hμ
  clear hμ
  obtain ⟨va, za⟩ := str_valid ea hx
  obtain ⟨vb, zb⟩ := str_valid eb hy
  have lx := small_len hx
  have ly := small_len hy
  have hda := fun W => rdigits_any a x W ea hx
  have hdb := fun W => rdigits_any b y W eb hy
  have VA := Lib.hid (rvalid_is za va)
  have VB := Lib.hid (rvalid_is zb vb)
  have HDA := Lib.hid hda
  have HDB := Lib.hid hdb
  clear hda hdb va vb ea eb hx hy
  go_enter Tryz.func29, Tryz.ntmps29
  go_wp2_with (first
    | (go_at_call 33; with_reducible refine (VA.out _).mono ?_; rintro e w1 ⟨rfl, rfl⟩)
    | (go_at_call 33; with_reducible refine (VB.out _).mono ?_; rintro e w1 ⟨rfl, rfl⟩)
    | (go_at_call 48; with_reducible refine (HDA.out _).mono ?_; rintro e w1 ⟨⟨v1, rfl, hv1⟩, hb1⟩; have HV1 := Lib.hid hv1; have HB1 := Lib.hid hb1; clear hv1 hb1)
    | (go_at_call 48; with_reducible refine (HDB.out _).mono ?_; rintro e w2 ⟨⟨v2, rfl, hv2⟩, hb2⟩; have HV2 := Lib.hid hv2; have HB2 := Lib.hid hb2; have HV1b := Lib.hid (HV1.out.below HB2.out (Nat.le_refl _)); have HBB := Lib.hid (HB1.out.trans (HB2.out.mono HB1.out.size)); clear hv2 hb2)
    | fail)
  obtain ⟨K0, hK0⟩ : ∃ K, K = x.natAbs := ⟨_, rfl⟩
  obtain ⟨L0, hL0⟩ : ∃ L, L = y.natAbs := ⟨_, rfl⟩
  rw [← hK0] at lx HV1b
  rw [← hL0] at ly HV2
  have HG0 : Hid (Nat.gcd x.natAbs y.natAbs = Nat.gcd K0 L0) := by show _ = _; rw [hK0, hL0]
  have h12 := HB2.out.size
  have h01 := HB1.out.size
  have HS1 := Lib.hid (HV1b.out.mono (Nat.le_refl _) h12)
  have HS2 := Lib.hid (HV2.out.mono h01 (Nat.le_refl _))
  clear hK0 hL0
  go_loopw [7, 9, 10, 11] (fun k l _ _ wr => ∃ (K L : Nat), Nr wr k K w.heap.size wr.heap.size ∧ Nr wr l L w.heap.size wr.heap.size ∧ (dig 10 K).length ≤ 200 ∧ (dig 10 L).length ≤ 200 ∧ Nat.gcd K L = Nat.gcd K0 L0 ∧ Below w.heap.size w wr)
    (fun _ l _ _ wr => μ wr l)
  case atStart => exact ⟨K0, L0, HS1.out, HS2.out, lx, ly, rfl, HBB.out⟩
  case round =>
    obtain ⟨K, L, hk, hl, hK, hL, hgcd, hb⟩ := hrel
    obtain ⟨la, lc, rfl⟩ := Nr.form hl
    have HK := Lib.hid hk
    have HL := Lib.hid hl
    have HGC := Lib.hid hgcd
    have HBW := Lib.hid hb
    have hpos : (dig 10 L).length = 0 ↔ L = 0 := by rw [List.length_eq_zero_iff, dig_nil (by omega)]
    have hLs := Lib.hid hL
    obtain ⟨Ln, hLn⟩ : ∃ Ln, Ln = (dig 10 L).length := ⟨_, rfl⟩
    rw [← hLn] at hpos hL ⊢
    have HLn := Lib.hid hLn
    clear hk hl hgcd hb hLn
    rcases Nat.eq_zero_or_pos L with h0 | h0
    · have hz := hpos.2 h0
      have e : Nat.gcd x.natAbs y.natAbs = K := by rw [HG0.out, ← HGC.out, h0, Nat.gcd_zero_right]
      have HE := Lib.hid e
      clear hpos h0 e
      go_wp2_with (go_at_call 50; refine (rchecked_any false _ K (K : Int) _ _ _ HK.out (Nat.le_refl _) (by omega) rfl).mono ?_; rintro e w3 ⟨⟨s, n, hs, rfl⟩, hb3⟩; have HS := Lib.hid hs; have HB3 := Lib.hid hb3; clear hs hb3)
      go_ret2
      exact ⟨⟨s, n, by rw [HE.out]; exact HS.out, rfl⟩, HBW.out.trans (HB3.out.mono HBW.out.size)⟩
    · have hz : 0 < Ln := by omega
      clear hpos
      have hdv := fun (hs : Nr wr (.slice la Ln lc) L w.heap.size wr.heap.size) => rdivided_any _ _ K L w.heap.size wr.heap.size w.heap.size wr.heap.size wr HK.out hs (Nat.le_refl _) (Nat.le_refl _) (by unfold Few10; omega) (by have := hLs.out; omega) h0
      have HD := Lib.hid (hdv (by rw [HLn.out]; exact HL.out))
      clear hdv
      go_wp2_with (go_at_call 52; with_reducible refine (HD.out).mono ?_; rintro e w3 ⟨⟨q, r, rfl, hq, hr⟩, hb3⟩; have HR := Lib.hid hr; have HB3 := Lib.hid hb3; clear hq hr hb3)
      have hlt : K % L < L := Nat.mod_lt _ h0
      have hsz := HBW.out.size
      have hL2 := HL.out.below HB3.out (Nat.le_refl _)
      rw [HLn.out]
      refine ⟨⟨L, K % L, hL2.mono (Nat.le_refl _) HB3.out.size, HR.out.mono hsz (Nat.le_refl _), hLs.out, ?_, ?_, HBW.out.trans (HB3.out.mono hsz)⟩, ?_⟩
      · have := dig_length_mono (B := 10) (by omega) (Nat.le_of_lt hlt)
        have := hLs.out
        omega
      · rw [← HGC.out, Nat.gcd_comm K L, Nat.gcd_rec L K, Nat.gcd_comm]
      · rw [HMU.out _ _ _ _ _ HR.out, HMU.out _ _ _ _ _ HL.out]; exact hlt

end Go.Proofs.YtiefodlhnpondaaGreatDoor
