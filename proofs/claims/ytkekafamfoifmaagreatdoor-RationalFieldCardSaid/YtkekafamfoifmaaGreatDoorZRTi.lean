/-
  The reference implementation's ToInt.
-/
import Derived.Test.YtkekafamfoifmaaGreatDoorZRDv
import Derived.Test.YtkekafamfoifmaaGreatDoorZParse
namespace Go.Proofs.YtkekafamfoifmaaGreatDoor
open Go.RowKit Go.Shelf
attribute [local go_sem] Oper.semAt_some

theorem valB_take_le (T : List UInt8) (k : Nat) : valB (T.take k) ≤ valB T := by
  have h := congrArg valB (List.take_append_drop k T)
  rw [valB_append] at h
  have hp : 0 < 10 ^ (T.drop k).length := Nat.pow_pos (by decide)
  have := Nat.le_mul_of_pos_right (valB (T.take k)) hp
  omega
theorem valB_take_snoc {T : List UInt8} {k : Nat} {c : UInt8} (hc : T[k]? = some c) : valB (T.take (k + 1)) = valB (T.take k) * 10 + (c.toNat - 48) := by
  rw [List.take_add_one, hc]
  show valB (T.take k ++ [c]) = _
  rw [valB_append, valB_one]
  rfl
theorem rcmp_v {a b : ByteArray} {x y k : Int} (ea : a = str x) (eb : b = str y) (hx : small x = true) (hy : small y = true) (hk : cmpI x y = k) (w : World) :
    Calls Tryz.prog 67 #[.string a, .string b] w fun e w' => e = .returned (.int .i64 k) ∧ Below w.heap.size w w' := by
  subst hk
  exact rCompare_ok a b x y w ea eb hx hy
theorem cmp_ge {x y : Int} (h : y ≤ x) : ∃ k, cmpI x y = k ∧ 0 ≤ k := ⟨_, rfl, by unfold cmpI; rw [if_neg (by omega)]; split <;> omega⟩
theorem cmp_le {x y : Int} (h : x ≤ y) : ∃ k, cmpI x y = k ∧ k ≤ 0 := ⟨_, rfl, by unfold cmpI; split; omega; rw [if_neg (by omega)]; omega⟩
theorem minS : (⟨#[45, 57, 50, 50, 51, 51, 55, 50, 48, 51, 54, 56, 53, 52, 55, 55, 53, 56, 48, 56]⟩ : ByteArray) = str (-9223372036854775808) := by decide +kernel
theorem maxS : (⟨#[57, 50, 50, 51, 51, 55, 50, 48, 51, 54, 56, 53, 52, 55, 55, 53, 56, 48, 55]⟩ : ByteArray) = str 9223372036854775807 := by decide +kernel
theorem minSm : small (-9223372036854775808) = true := by decide +kernel
theorem maxSm : small 9223372036854775807 = true := by decide +kernel

set_option maxRecDepth 100000 in
set_option maxHeartbeats 4000000 in
theorem rToInt_no (a : ByteArray) (w : World) (ha : a.size ≤ 9223372036854775807) (hn : validL a.data.toList = false) :
    Calls Tryz.prog 43 #[.string a] w fun e w' => e = .returned (.tuple #[.int .i64 0, .int .i64 30]) ∧ Below w.heap.size w w' := by
  have VA := Lib.hid (rvalid_is ha hn)
  clear hn
  go_enter Tryz.func43, Tryz.ntmps43
  go_wp2_with (go_at_call 53; with_reducible refine (VA.out _).mono ?_; rintro e w1 ⟨rfl, rfl⟩)
  go_ret2
  exact ⟨rfl, Below.refl _ _⟩

set_option maxRecDepth 100000 in
set_option maxHeartbeats 4000000 in
theorem rToInt_low (a : ByteArray) (x : Int) (w : World) (ea : a = str x) (hx : small x = true) (h : x < -9223372036854775808) :
    Calls Tryz.prog 43 #[.string a] w fun e w' => e = .returned (.tuple #[.int .i64 0, .int .i64 30]) ∧ Below w.heap.size w w' := by
  obtain ⟨va, za⟩ := str_valid ea hx
  have VA := Lib.hid (rvalid_is za va)
  have C1 := Lib.hid (rcmp_v (k := -1) ea minS hx minSm (by unfold cmpI; rw [if_pos h]))
  clear va ea hx h
  go_enter Tryz.func43, Tryz.ntmps43
  go_wp2_with (first
    | (go_at_call 53; with_reducible refine (VA.out _).mono ?_; rintro e w1 ⟨rfl, rfl⟩)
    | (go_at_call 67; with_reducible refine (C1.out _).mono ?_; rintro e w1 ⟨rfl, hb1⟩))
  go_ret2
  exact ⟨rfl, hb1⟩

set_option maxRecDepth 100000 in
set_option maxHeartbeats 4000000 in
theorem rToInt_high (a : ByteArray) (x : Int) (w : World) (ea : a = str x) (hx : small x = true) (h : 9223372036854775807 < x) :
    Calls Tryz.prog 43 #[.string a] w fun e w' => e = .returned (.tuple #[.int .i64 0, .int .i64 30]) ∧ Below w.heap.size w w' := by
  obtain ⟨va, za⟩ := str_valid ea hx
  have VA := Lib.hid (rvalid_is za va)
  have C1 := Lib.hid (rcmp_v (k := 1) ea minS hx minSm (by unfold cmpI; rw [if_neg (by omega), if_pos (by omega)]))
  have C2 := Lib.hid (rcmp_v (k := 1) ea maxS hx maxSm (by unfold cmpI; rw [if_neg (by omega), if_pos (by omega)]))
  clear va ea hx h
  go_enter Tryz.func43, Tryz.ntmps43
  go_wp2_with (first
    | (go_at_call 53; with_reducible refine (VA.out _).mono ?_; rintro e w1 ⟨rfl, rfl⟩)
    | (go_at_call 67; with_reducible refine (C1.out _).mono ?_; rintro e w1 ⟨rfl, hb1⟩)
    | (go_at_call 67; with_reducible refine (C2.out _).mono ?_; rintro e w2 ⟨rfl, hb2⟩))
  go_ret2
  exact ⟨rfl, hb1.trans (hb2.mono hb1.size)⟩

set_option maxRecDepth 100000 in
set_option maxHeartbeats 8000000 in
theorem rToInt_pos (a : ByteArray) (x : Int) (w : World) (ea : a = str x) (hx : small x = true) (hneg : ¬ x < 0) (hmax : x ≤ 9223372036854775807) :
    Calls Tryz.prog 43 #[.string a] w fun e w' => e = .returned (.tuple #[.int .i64 x, .int .i64 0]) ∧ Below w.heap.size w w' := by
  obtain ⟨va, za⟩ := str_valid ea hx
  obtain ⟨h0, hh⟩ := head_neg ea
  rw [decide_eq_false hneg] at hh
  have hh2 : (((a[0]'h0).toNat : Int) == 45) = false := by rw [beq_eq_false_iff_ne] at hh ⊢; omega
  obtain ⟨k1, hk1, hk1b⟩ := cmp_ge (x := x) (y := -9223372036854775808) (by omega)
  obtain ⟨k2, hk2, hk2b⟩ := cmp_le (x := x) (y := 9223372036854775807) hmax
  have VA := Lib.hid (rvalid_is za va)
  have C1 := Lib.hid (rcmp_v ea minS hx minSm hk1)
  have C2 := Lib.hid (rcmp_v ea maxS hx maxSm hk2)
  obtain ⟨T, hT⟩ : ∃ T, T = a.data.toList := ⟨_, rfl⟩
  have hTt : T = txtN x.natAbs := by rw [hT, ea, str_list]; unfold txt; rw [if_neg hneg]
  have hv : valB T = x.natAbs := by rw [hTt, valB_txtN]
  have hdg : ∀ c ∈ T, 48 ≤ c.toNat ∧ c.toNat ≤ 57 := by rw [hTt]; exact txtN_digits _
  have hlen : T.length = a.size := by rw [hT]; exact size_list a
  have hat : ∀ (k : Nat) (h : k < a.size), T[k]? = some (a[k]'h) := fun k h => by rw [hT]; exact at_data h
  obtain ⟨X, hX⟩ : ∃ X, X = x.natAbs := ⟨_, rfl⟩
  have hxX : x = (X : Int) := by omega
  rw [← hX] at hv
  have hXm : X ≤ 9223372036854775807 := by omega
  have HV := Lib.hid hv
  have HDG := Lib.hid hdg
  have HLEN := Lib.hid hlen
  have HAT := Lib.hid hat
  have HX := Lib.hid hxX
  clear va ea hx hh hneg hmax hk1 hk2 hT hTt hv hdg hlen hat hxX hX
  go_enter Tryz.func43, Tryz.ntmps43
  go_wp2_with (first
    | (go_at_call 53; with_reducible refine (VA.out _).mono ?_; rintro e w1 ⟨rfl, rfl⟩)
    | (go_at_call 67; with_reducible refine (C1.out _).mono ?_; rintro e w1 ⟨rfl, hb1⟩)
    | (go_at_call 67; with_reducible refine (C2.out _).mono ?_; rintro e w2 ⟨rfl, hb2⟩))
  go_loop [4, 5] (fun n i => ∃ k : Nat, k ≤ a.size ∧ i = .int .i64 (k : Int) ∧ n = .int .i64 ((valB (T.take k) : Nat) : Int)) (fun _ i => a.size - (intOf i).toNat)
  case atStart => exact ⟨0, Nat.zero_le _, rfl, rfl⟩
  case round =>
    obtain ⟨k, hk, rfl, rfl⟩ := hrel
    have hle := valB_take_le T k
    rw [HV.out] at hle
    by_cases hlt : k < a.size
    · have hc := HAT.out k hlt
      have hsn := valB_take_snoc hc
      have hd := HDG.out _ (List.mem_of_getElem? hc)
      have hle2 := valB_take_le T (k + 1)
      rw [HV.out] at hle2
      obtain ⟨e, he⟩ : ∃ e, e = (a[k]'hlt).toNat - 48 := ⟨_, rfl⟩
      have hch : (a[k]'hlt).toNat = 48 + e := by omega
      rw [← he] at hsn
      obtain ⟨V, hV⟩ : ∃ V, V = valB (T.take k) := ⟨_, rfl⟩
      obtain ⟨V2, hV2⟩ : ∃ V, V = valB (T.take (k + 1)) := ⟨_, rfl⟩
      rw [← hV, ← hV2] at hsn
      rw [← hV] at hle ⊢
      rw [← hV2] at hle2
      have he9 : e ≤ 9 := by omega
      have hb45 : ((48 + (e : Int)) == 45) = false := by rw [beq_eq_false_iff_ne]; omega
      have hbd : 10 * V + e ≤ 9223372036854775807 := by omega
      have HV2 := Lib.hid hV2
      have HSN := Lib.hid hsn
      clear hc hsn hd he hV hV2
      go_wp2
      exact ⟨⟨k + 1, by omega, by go_num, congrArg _ (by rw [← HV2.out]; have := HSN.out; omega)⟩, by simp only [intOf]; omega⟩
    · obtain rfl : k = a.size := by omega
      have hfin : valB (T.take a.size) = X := by rw [List.take_of_length_le (by rw [HLEN.out]; exact Nat.le_refl _), HV.out]
      have HF := Lib.hid hfin
      clear hfin
      go_wp2
      go_ret2
      refine ⟨?_, hb1.trans (hb2.mono hb1.size)⟩
      rw [HX.out, ← HF.out]
      rfl

set_option maxRecDepth 100000 in
set_option maxHeartbeats 8000000 in
theorem rToInt_neg (a : ByteArray) (x : Int) (w : World) (ea : a = str x) (hx : small x = true) (hneg : x < 0) (hmin : -9223372036854775808 ≤ x) :
    Calls Tryz.prog 43 #[.string a] w fun e w' => e = .returned (.tuple #[.int .i64 x, .int .i64 0]) ∧ Below w.heap.size w w' := by
  obtain ⟨va, za⟩ := str_valid ea hx
  obtain ⟨h0, hh⟩ := head_neg ea
  rw [decide_eq_true hneg] at hh
  have hh2 : (((a[0]'h0).toNat : Int) == 45) = true := by rw [beq_iff_eq] at hh ⊢; omega
  obtain ⟨k1, hk1, hk1b⟩ := cmp_ge (x := x) (y := -9223372036854775808) hmin
  obtain ⟨k2, hk2, hk2b⟩ := cmp_le (x := x) (y := 9223372036854775807) (by omega)
  have VA := Lib.hid (rvalid_is za va)
  have C1 := Lib.hid (rcmp_v ea minS hx minSm hk1)
  have C2 := Lib.hid (rcmp_v ea maxS hx maxSm hk2)
  obtain ⟨T, hT⟩ : ∃ T, T = txtN x.natAbs := ⟨_, rfl⟩
  have hTt : a.data.toList = 45 :: T := by rw [hT, ea, str_list]; unfold txt; rw [if_pos hneg]
  have hv : valB T = x.natAbs := by rw [hT, valB_txtN]
  have hdg : ∀ c ∈ T, 48 ≤ c.toNat ∧ c.toNat ≤ 57 := by rw [hT]; exact txtN_digits _
  have hlen : T.length + 1 = a.size := by rw [← size_list a, hTt]; rfl
  have hat : ∀ (k : Nat) (h : k + 1 < a.size), T[k]? = some (a[k + 1]'h) := fun k h => by have := at_data h; rw [hTt] at this; simpa using this
  obtain ⟨X, hX⟩ : ∃ X, X = x.natAbs := ⟨_, rfl⟩
  have hxX : x = -(X : Int) := by omega
  rw [← hX] at hv
  have hXm : X ≤ 9223372036854775808 := by omega
  have HV := Lib.hid hv
  have HDG := Lib.hid hdg
  have HLEN := Lib.hid hlen
  have HAT := Lib.hid hat
  have HX := Lib.hid hxX
  clear va ea hx hh hneg hmin hk1 hk2 hT hTt hv hdg hlen hat hxX hX
  go_enter Tryz.func43, Tryz.ntmps43
  go_wp2_with (first
    | (go_at_call 53; with_reducible refine (VA.out _).mono ?_; rintro e w1 ⟨rfl, rfl⟩)
    | (go_at_call 67; with_reducible refine (C1.out _).mono ?_; rintro e w1 ⟨rfl, hb1⟩)
    | (go_at_call 67; with_reducible refine (C2.out _).mono ?_; rintro e w2 ⟨rfl, hb2⟩))
  go_loop [4, 5] (fun n i => ∃ k : Nat, k ≤ a.size ∧ i = .int .i64 (k : Int) ∧ n = .int .i64 (-((valB (T.take (k - 1)) : Nat) : Int))) (fun _ i => a.size - (intOf i).toNat)
  case atStart => exact ⟨0, Nat.zero_le _, rfl, rfl⟩
  case round =>
    obtain ⟨k, hk, rfl, rfl⟩ := hrel
    rcases Nat.eq_zero_or_pos k with hk0 | hk0
    · subst hk0
      have hz : -((valB (T.take (0 - 1)) : Nat) : Int) = 0 := rfl
      rw [hz]
      clear hz
      go_wp2
      exact ⟨⟨1, by omega, rfl, rfl⟩, by simp only [intOf]; omega⟩
    · obtain ⟨j, rfl⟩ : ∃ j, k = j + 1 := ⟨k - 1, by omega⟩
      rw [Nat.add_sub_cancel]
      have hle := valB_take_le T j
      rw [HV.out] at hle
      by_cases hlt : j + 1 < a.size
      · have hc := HAT.out j hlt
        have hsn := valB_take_snoc hc
        have hd := HDG.out _ (List.mem_of_getElem? hc)
        have hle2 := valB_take_le T (j + 1)
        rw [HV.out] at hle2
        obtain ⟨e, he⟩ : ∃ e, e = (a[j + 1]'hlt).toNat - 48 := ⟨_, rfl⟩
        have hch : (a[j + 1]'hlt).toNat = 48 + e := by omega
        rw [← he] at hsn
        obtain ⟨V, hV⟩ : ∃ V, V = valB (T.take j) := ⟨_, rfl⟩
        obtain ⟨V2, hV2⟩ : ∃ V, V = valB (T.take (j + 1)) := ⟨_, rfl⟩
        rw [← hV, ← hV2] at hsn
        rw [← hV] at hle ⊢
        rw [← hV2] at hle2
        have he9 : e ≤ 9 := by omega
        have hb45 : ((48 + (e : Int)) == 45) = false := by rw [beq_eq_false_iff_ne]; omega
        have hbd : 10 * V + e ≤ 9223372036854775808 := by omega
        have HV2 := Lib.hid hV2
        have HSN := Lib.hid hsn
        clear hc hsn hd he hV hV2
        obtain ⟨k, hkj⟩ : ∃ k, k = j + 1 := ⟨_, rfl⟩
        go_wp2
        exact ⟨⟨j + 1 + 1, by omega, by go_num, congrArg _ (by rw [Nat.add_sub_cancel, ← HV2.out]; have := HSN.out; omega)⟩, by simp only [intOf]; omega⟩
      · have hja : j + 1 = a.size := by omega
        have hfin : valB (T.take j) = X := by rw [List.take_of_length_le (by have := HLEN.out; omega), HV.out]
        have HF := Lib.hid hfin
        clear hfin hja
        go_wp2
        go_ret2
        refine ⟨?_, hb1.trans (hb2.mono hb1.size)⟩
        rw [HX.out, ← HF.out]
        rfl
end Go.Proofs.YtkekafamfoifmaaGreatDoor

