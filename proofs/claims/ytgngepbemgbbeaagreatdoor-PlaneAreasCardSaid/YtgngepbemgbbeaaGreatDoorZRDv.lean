/-
  The reference implementation's Div.
  The reference implementation's Root.
  The reference implementation's FromInt.
-/
import Derived.Test.YtgngepbemgbbeaaGreatDoorZRChk
import Derived.Test.YtgngepbemgbbeaaGreatDoorZOut
namespace Go.Proofs.YtgngepbemgbbeaaGreatDoor
open Go.RowKit Go.Shelf
attribute [local go_sem] Oper.semAt_some

theorem nr_one (W : World) : Nr (W.alloc (.cells #[.int .i64 1] 3)) (.slice (some ⟨W.heap.size, 0, none⟩) 1 1) 1 W.heap.size (W.alloc (.cells #[.int .i64 1] 3)).heap.size := by
  have h := Sl.of_owns (World.ownsRow_lit (base := W.heap.size) (e := 3) (size := 1) W #[.int .i64 1] 1 (Nat.le_refl _) (by decide) rfl)
  have h1 : dig 10 1 = [1] := by decide
  show Ns _ _ (dig 10 1) _ _
  rw [h1]
  exact h
theorem text_ne0 {b : ByteArray} {y : Int} (eb : b = str y) (h : y ≠ 0) : (b.toList == [48]) = false := by
  rw [beq_eq_false_iff_ne, ne_eq, Lib.toList_data, eb, str_list]
  intro e
  exact h (txt_inj (e.trans (show [48] = txt 0 by decide)))
theorem rchecked_small (neg : Bool) (v : Value) (n : Nat) (z : Int) (lo top : Nat) (w : World) (h : Nr w v n lo top) (b : top ≤ w.heap.size) (hl : (dig 10 n).length ≤ 1000000) (hz : z = if neg = true then -(n : Int) else n) (hs : small z = true) {sz : ByteArray} (es : sz = str z) :
    Calls Tryz.prog 152 #[.bool neg, v] w fun e w' => e = .returned (.tuple #[.string sz, .int .i64 0]) ∧ Below w.heap.size w w' := by
  refine (rchecked_any neg v n z lo top w h b hl hz).mono ?_
  rintro e w' ⟨⟨s, k, h1, rfl⟩, hb⟩
  unfold outZ at h1
  rw [if_pos hs] at h1
  simp only [Array.mk.injEq, List.cons.injEq, Value.string.injEq, Value.int.injEq, true_and, and_true] at h1
  obtain ⟨rfl, rfl⟩ := h1
  rw [es]
  exact ⟨rfl, hb⟩
theorem rtext_pos (v : Value) (n : Nat) (z : Int) (lo top : Nat) (w : World) (h : Nr w v n lo top) (b : top ≤ w.heap.size) (hl : (dig 10 n).length ≤ 1000000) (hz : z = if false = true then -(n : Int) else n) {sz : ByteArray} (es : sz = str z) :
    Calls Tryz.prog 155 #[.bool false, v] w fun e w' => (∃ c, e = .returned (.tuple #[.string sz, .bool c])) ∧ Below w.heap.size w w' := by
  refine (rtext_dig false v n lo top w h b hl).mono ?_
  rintro e w' ⟨⟨s, h1, rfl⟩, hb⟩
  rw [← hz, ← es] at h1
  rw [h1]
  exact ⟨⟨_, rfl⟩, hb⟩

set_option maxRecDepth 100000 in
set_option maxHeartbeats 4000000 in
theorem rDiv_zero (a b : ByteArray) (x : Int) (w : World) (ea : a = str x) (eb : b = str 0) (hx : small x = true) :
    Calls Tryz.prog 143 #[.string a, .string b] w fun e w' => e = .returned (.tuple #[.string ⟨#[]⟩, .string ⟨#[]⟩, .int .i64 30]) ∧ w = w' := by
  obtain ⟨va, za⟩ := str_valid ea hx
  obtain ⟨vb, zb⟩ := str_valid eb (by decide)
  have VA := Lib.hid (rvalid_is za va)
  have VB := Lib.hid (rvalid_is zb vb)
  have h0 : (b.toList == [48]) = true := by rw [beq_iff_eq, Lib.toList_data, eb, str_list]; decide
  clear va vb ea eb hx
  go_enter Tryz.func143, Tryz.ntmps143
  go_wp2_with (first
    | (go_at_call 105; with_reducible refine (VA.out _).mono ?_; rintro e w1 ⟨rfl, rfl⟩)
    | (go_at_call 105; with_reducible refine (VB.out _).mono ?_; rintro e w1 ⟨rfl, rfl⟩))
  go_ret3
  exact ⟨rfl, rfl⟩

set_option maxRecDepth 100000 in
set_option maxHeartbeats 8000000 in
theorem rDiv_A (a b : ByteArray) (x y : Int) (w : World) (ea : a = str x) (eb : b = str y) (hx : small x = true) (hy : small y = true) (hy0 : y ≠ 0) (hneg : ¬ x < 0) :
    Calls Tryz.prog 143 #[.string a, .string b] w fun e w' => e = .returned (.tuple #[.string (str (x / y)), .string (str (x % y)), .int .i64 0]) ∧ Below w.heap.size w w' := by
  have hsd := small_div y hx
  obtain ⟨sq, hsq⟩ : ∃ s, s = str (x / y) := ⟨_, rfl⟩
  obtain ⟨sr, hsr⟩ : ∃ s, s = str (x % y) := ⟨_, rfl⟩
  rw [← hsq, ← hsr]
  have HSQ := Lib.hid hsq
  have HSR := Lib.hid hsr
  have HSD := Lib.hid hsd
  obtain ⟨va, za⟩ := str_valid ea hx
  obtain ⟨vb, zb⟩ := str_valid eb hy
  have lx := small_len hx
  have ly := small_len hy
  have hda := fun W => rdigits_any a x W ea hx
  have hdb := fun W => rdigits_any b y W eb hy
  have hbx : decide (x < 0) = false := by exact decide_eq_false hneg
  have hL0 : 0 < y.natAbs := by omega
  have hb0 := text_ne0 eb hy0
  have hdl := div_A (n2 := decide (y < 0)) ⟨(decide_eq_false hneg).symm, rfl⟩ ⟨rfl, rfl⟩ hL0
  have hlq : (dig 10 (x.natAbs / y.natAbs)).length ≤ 200 := Nat.le_trans (dig_length_mono (by omega) (Nat.div_le_self _ _)) lx
  have hlr : (dig 10 (x.natAbs % y.natAbs)).length ≤ 200 := Nat.le_trans (dig_length_mono (by omega) (Nat.le_of_lt (Nat.mod_lt _ hL0))) ly
  have hrl := Nat.mod_lt x.natAbs hL0
  rw [hbx] at hda
  obtain ⟨K, hK⟩ : ∃ K, K = x.natAbs := ⟨_, rfl⟩
  obtain ⟨L, hL⟩ : ∃ L, L = y.natAbs := ⟨_, rfl⟩
  rw [← hK] at lx hda hdl hlq hlr hrl
  rw [← hL] at ly hdb hdl hlq hlr hL0 hrl
  have VA := Lib.hid (rvalid_is za va)
  have VB := Lib.hid (rvalid_is zb vb)
  have HDA := Lib.hid hda
  generalize decide (y < 0) = sy at hdb hdl
  have HDB := Lib.hid hdb
  have HDL := Lib.hid hdl
  have f1 : Few10 K := by unfold Few10; omega
  clear hda hdb hdl va vb ea eb hx hy hbx hsq hsr hsd hK hL hneg
  go_enter Tryz.func143, Tryz.ntmps143
  go_wp2_with (first
    | (go_at_call 105; with_reducible refine (VA.out _).mono ?_; rintro e w1 ⟨rfl, rfl⟩)
    | (go_at_call 105; with_reducible refine (VB.out _).mono ?_; rintro e w1 ⟨rfl, rfl⟩)
    | (go_at_call 149; with_reducible refine (HDA.out _).mono ?_; rintro e w1 ⟨⟨v1, rfl, hv1⟩, hb1⟩; have HV1 := Lib.hid hv1; have HB1 := Lib.hid hb1; clear hv1 hb1)
    | (go_at_call 149; with_reducible refine (HDB.out _).mono ?_; rintro e w2 ⟨⟨v2, rfl, hv2⟩, hb2⟩; have HV2 := Lib.hid hv2; have HB2 := Lib.hid hb2; have HV1b := Lib.hid (HV1.out.below HB2.out (Nat.le_refl _)); have HBB := Lib.hid (HB1.out.trans (HB2.out.mono HB1.out.size)); clear hv2 hb2)
    | (go_at_call 151; refine (rdivided_any v1 v2 K L w.heap.size w1.heap.size w1.heap.size w2.heap.size w2 HV1b.out HV2.out HB2.out.size (Nat.le_refl _) f1 (by omega) hL0).mono ?_; rintro e w3 ⟨⟨q, r, rfl, hq, hr⟩, hb3⟩; skip; have HQ := Lib.hid hq; have HR := Lib.hid hr; have HB3 := Lib.hid hb3; have HBC := Lib.hid (HBB.out.trans (HB3.out.mono HBB.out.size)); clear hq hr hb3; have HQf := HQ; have HRf := HR; have HQle := Lib.hid (Nat.le_refl w3.heap.size); have HRle := Lib.hid (Nat.le_refl w3.heap.size); have hqlen : (dig 10 (K / L)).length ≤ 1000000 := (by omega); have hrlen : (dig 10 (K % L)).length ≤ 1000000 := (by omega))
    | (go_at_call 152; refine (rchecked_small (sy) q (K / L) (x / y) _ _ w3 HQf.out HQle.out hqlen HDL.out.1 HSD.out HSQ.out).mono ?_; rintro e w6 ⟨rfl, hb6⟩; have HB6 := Lib.hid hb6; have HBD := Lib.hid (HBC.out.trans (HB6.out.mono HBC.out.size)); clear hb6)
    | (go_at_call 155; refine (rtext_pos r (K % L) (x % y) _ _ w6 (HRf.out.below HB6.out HRle.out) (Nat.le_trans HRle.out HB6.out.size) hrlen HDL.out.2 HSR.out).mono ?_; rintro e w7 ⟨⟨c, rfl⟩, hb7⟩; have HBE := Lib.hid (HBD.out.trans (hb7.mono HBD.out.size)); clear hb7))
  go_ret3
  exact ⟨rfl, HBE.out⟩

set_option maxRecDepth 100000 in
set_option maxHeartbeats 8000000 in
theorem rDiv_B (a b : ByteArray) (x y : Int) (w : World) (ea : a = str x) (eb : b = str y) (hx : small x = true) (hy : small y = true) (hy0 : y ≠ 0) (hneg : x < 0) (hrem : x.natAbs % y.natAbs = 0) :
    Calls Tryz.prog 143 #[.string a, .string b] w fun e w' => e = .returned (.tuple #[.string (str (x / y)), .string (str (x % y)), .int .i64 0]) ∧ Below w.heap.size w w' := by
  have hsd := small_div y hx
  obtain ⟨sq, hsq⟩ : ∃ s, s = str (x / y) := ⟨_, rfl⟩
  obtain ⟨sr, hsr⟩ : ∃ s, s = str (x % y) := ⟨_, rfl⟩
  rw [← hsq, ← hsr]
  have HSQ := Lib.hid hsq
  have HSR := Lib.hid hsr
  have HSD := Lib.hid hsd
  obtain ⟨va, za⟩ := str_valid ea hx
  obtain ⟨vb, zb⟩ := str_valid eb hy
  have lx := small_len hx
  have ly := small_len hy
  have hda := fun W => rdigits_any a x W ea hx
  have hdb := fun W => rdigits_any b y W eb hy
  have hbx : decide (x < 0) = true := by exact decide_eq_true hneg
  have hL0 : 0 < y.natAbs := by omega
  have hb0 := text_ne0 eb hy0
  have hdl := div_B (n2 := decide (y < 0)) ⟨(decide_eq_true hneg).symm, rfl⟩ ⟨rfl, rfl⟩ hL0 hrem
  have hlq : (dig 10 (x.natAbs / y.natAbs)).length ≤ 200 := Nat.le_trans (dig_length_mono (by omega) (Nat.div_le_self _ _)) lx
  have hlr : (dig 10 (x.natAbs % y.natAbs)).length ≤ 200 := Nat.le_trans (dig_length_mono (by omega) (Nat.le_of_lt (Nat.mod_lt _ hL0))) ly
  have hrl := Nat.mod_lt x.natAbs hL0
  rw [hbx] at hda
  obtain ⟨K, hK⟩ : ∃ K, K = x.natAbs := ⟨_, rfl⟩
  obtain ⟨L, hL⟩ : ∃ L, L = y.natAbs := ⟨_, rfl⟩
  rw [← hK] at lx hda hdl hlq hlr hrl hrem
  rw [← hL] at ly hdb hdl hlq hlr hL0 hrl hrem
  have VA := Lib.hid (rvalid_is za va)
  have VB := Lib.hid (rvalid_is zb vb)
  have HDA := Lib.hid hda
  generalize decide (y < 0) = sy at hdb hdl
  have HDB := Lib.hid hdb
  have HDL := Lib.hid hdl
  have HREM := Lib.hid hrem
  have f1 : Few10 K := by unfold Few10; omega
  clear hda hdb hdl va vb ea eb hx hy hbx hsq hsr hsd hK hL hneg hrem
  go_enter Tryz.func143, Tryz.ntmps143
  go_wp2_with (first
    | (go_at_call 105; with_reducible refine (VA.out _).mono ?_; rintro e w1 ⟨rfl, rfl⟩)
    | (go_at_call 105; with_reducible refine (VB.out _).mono ?_; rintro e w1 ⟨rfl, rfl⟩)
    | (go_at_call 149; with_reducible refine (HDA.out _).mono ?_; rintro e w1 ⟨⟨v1, rfl, hv1⟩, hb1⟩; have HV1 := Lib.hid hv1; have HB1 := Lib.hid hb1; clear hv1 hb1)
    | (go_at_call 149; with_reducible refine (HDB.out _).mono ?_; rintro e w2 ⟨⟨v2, rfl, hv2⟩, hb2⟩; have HV2 := Lib.hid hv2; have HB2 := Lib.hid hb2; have HV1b := Lib.hid (HV1.out.below HB2.out (Nat.le_refl _)); have HBB := Lib.hid (HB1.out.trans (HB2.out.mono HB1.out.size)); clear hv2 hb2)
    | (go_at_call 151; refine (rdivided_any v1 v2 K L w.heap.size w1.heap.size w1.heap.size w2.heap.size w2 HV1b.out HV2.out HB2.out.size (Nat.le_refl _) f1 (by omega) hL0).mono ?_; rintro e w3 ⟨⟨q, r, rfl, hq, hr⟩, hb3⟩; obtain ⟨ra, rc, rfl⟩ : ∃ a c, r = .slice a 0 c := (by obtain ⟨a, c, e⟩ := Nr.form hr; rw [HREM.out] at e; exact ⟨a, c, e⟩); have HQ := Lib.hid hq; have HR := Lib.hid hr; have HB3 := Lib.hid hb3; have HBC := Lib.hid (HBB.out.trans (HB3.out.mono HBB.out.size)); clear hq hr hb3; have HQf := HQ; have HRf := HR; have HQle := Lib.hid (Nat.le_refl w3.heap.size); have HRle := Lib.hid (Nat.le_refl w3.heap.size); have hqlen : (dig 10 (K / L)).length ≤ 1000000 := (by omega); have hrlen : (dig 10 (K % L)).length ≤ 1000000 := (by omega))
    | (go_at_call 152; refine (rchecked_small (!sy) q (K / L) (x / y) _ _ w3 HQf.out HQle.out hqlen HDL.out.1 HSD.out HSQ.out).mono ?_; rintro e w6 ⟨rfl, hb6⟩; have HB6 := Lib.hid hb6; have HBD := Lib.hid (HBC.out.trans (HB6.out.mono HBC.out.size)); clear hb6)
    | (go_at_call 155; refine (rtext_pos (.slice ra 0 rc) (K % L) (x % y) _ _ w6 (HRf.out.below HB6.out HRle.out) (Nat.le_trans HRle.out HB6.out.size) hrlen HDL.out.2 HSR.out).mono ?_; rintro e w7 ⟨⟨c, rfl⟩, hb7⟩; have HBE := Lib.hid (HBD.out.trans (hb7.mono HBD.out.size)); clear hb7))
  go_ret3
  exact ⟨rfl, HBE.out⟩

set_option maxRecDepth 100000 in
set_option maxHeartbeats 8000000 in
theorem rDiv_C (a b : ByteArray) (x y : Int) (w : World) (ea : a = str x) (eb : b = str y) (hx : small x = true) (hy : small y = true) (hy0 : y ≠ 0) (hneg : x < 0) (hrem : x.natAbs % y.natAbs ≠ 0) :
    Calls Tryz.prog 143 #[.string a, .string b] w fun e w' => e = .returned (.tuple #[.string (str (x / y)), .string (str (x % y)), .int .i64 0]) ∧ Below w.heap.size w w' := by
  have hsd := small_div y hx
  obtain ⟨sq, hsq⟩ : ∃ s, s = str (x / y) := ⟨_, rfl⟩
  obtain ⟨sr, hsr⟩ : ∃ s, s = str (x % y) := ⟨_, rfl⟩
  rw [← hsq, ← hsr]
  have HSQ := Lib.hid hsq
  have HSR := Lib.hid hsr
  have HSD := Lib.hid hsd
  obtain ⟨va, za⟩ := str_valid ea hx
  obtain ⟨vb, zb⟩ := str_valid eb hy
  have lx := small_len hx
  have ly := small_len hy
  have hda := fun W => rdigits_any a x W ea hx
  have hdb := fun W => rdigits_any b y W eb hy
  have hbx : decide (x < 0) = true := by exact decide_eq_true hneg
  have hL0 : 0 < y.natAbs := by omega
  have hb0 := text_ne0 eb hy0
  have hdl := div_C (n2 := decide (y < 0)) ⟨(decide_eq_true hneg).symm, rfl⟩ ⟨rfl, rfl⟩ hL0 hrem
  have hlq : (dig 10 (x.natAbs / y.natAbs)).length ≤ 200 := Nat.le_trans (dig_length_mono (by omega) (Nat.div_le_self _ _)) lx
  have hlr : (dig 10 (x.natAbs % y.natAbs)).length ≤ 200 := Nat.le_trans (dig_length_mono (by omega) (Nat.le_of_lt (Nat.mod_lt _ hL0))) ly
  have hrl := Nat.mod_lt x.natAbs hL0
  rw [hbx] at hda
  obtain ⟨K, hK⟩ : ∃ K, K = x.natAbs := ⟨_, rfl⟩
  obtain ⟨L, hL⟩ : ∃ L, L = y.natAbs := ⟨_, rfl⟩
  rw [← hK] at lx hda hdl hlq hlr hrl hrem
  rw [← hL] at ly hdb hdl hlq hlr hL0 hrl hrem
  have VA := Lib.hid (rvalid_is za va)
  have VB := Lib.hid (rvalid_is zb vb)
  have HDA := Lib.hid hda
  generalize decide (y < 0) = sy at hdb hdl
  have HDB := Lib.hid hdb
  have HDL := Lib.hid hdl
  obtain ⟨Lr, hLr⟩ : ∃ Lr, Lr = (dig 10 (K % L)).length := ⟨_, rfl⟩
  have hLr0 : 0 < Lr := by
    rcases Nat.eq_zero_or_pos Lr with h | h
    · rw [h] at hLr
      exact absurd ((dig_nil (by omega)).1 (List.eq_nil_of_length_eq_zero hLr.symm)) hrem
    · exact h
  have HLR := Lib.hid hLr
  have fq : Few10 (K / L) := by unfold Few10; omega
  have f11 : Few10 1 := by unfold Few10; decide
  have fl : Few10 L := by unfold Few10; omega
  have fr : Few10 (K % L) := by unfold Few10; omega
  have hrle : K % L ≤ L := by omega
  have hqlen : (dig 10 (K / L + 1)).length ≤ 1000000 := by
    have := sum_len (n := K / L) (m := 1) (by omega) (by decide)
    omega
  have hrlen : (dig 10 (L - K % L)).length ≤ 1000000 := by
    have := diff_len (n := L) (m := K % L) (by omega)
    omega
  have f1 : Few10 K := by unfold Few10; omega
  clear hda hdb hdl va vb ea eb hx hy hbx hsq hsr hsd hK hL hneg hrem hLr
  go_enter Tryz.func143, Tryz.ntmps143
  go_wp2_with (first
    | (go_at_call 105; with_reducible refine (VA.out _).mono ?_; rintro e w1 ⟨rfl, rfl⟩)
    | (go_at_call 105; with_reducible refine (VB.out _).mono ?_; rintro e w1 ⟨rfl, rfl⟩)
    | (go_at_call 149; with_reducible refine (HDA.out _).mono ?_; rintro e w1 ⟨⟨v1, rfl, hv1⟩, hb1⟩; have HV1 := Lib.hid hv1; have HB1 := Lib.hid hb1; clear hv1 hb1)
    | (go_at_call 149; with_reducible refine (HDB.out _).mono ?_; rintro e w2 ⟨⟨v2, rfl, hv2⟩, hb2⟩; have HV2 := Lib.hid hv2; have HB2 := Lib.hid hb2; have HV1b := Lib.hid (HV1.out.below HB2.out (Nat.le_refl _)); have HBB := Lib.hid (HB1.out.trans (HB2.out.mono HB1.out.size)); clear hv2 hb2)
    | (go_at_call 151; refine (rdivided_any v1 v2 K L w.heap.size w1.heap.size w1.heap.size w2.heap.size w2 HV1b.out HV2.out HB2.out.size (Nat.le_refl _) f1 (by omega) hL0).mono ?_; rintro e w3 ⟨⟨q, r, rfl, hq, hr⟩, hb3⟩; obtain ⟨ra, rc, rfl⟩ : ∃ a c, r = .slice a Lr c := (by obtain ⟨a, c, e⟩ := Nr.form hr; rw [← HLR.out] at e; exact ⟨a, c, e⟩); have HQ := Lib.hid hq; have HR := Lib.hid hr; have HB3 := Lib.hid hb3; have HBC := Lib.hid (HBB.out.trans (HB3.out.mono HBB.out.size)); clear hq hr hb3)
    | (go_at_call 185; refine (rplus_any q _ (K / L) 1 w2.heap.size w3.heap.size w3.heap.size _ _ (HQ.out.below ((Below.refl _ _).alloc (Nat.le_refl _) _) (Nat.le_refl _)) (nr_one w3) (by simp) (Nat.le_refl _) fq f11).mono ?_; rintro e w4 ⟨⟨q2, rfl, hq2⟩, hb4⟩; have HB4 := Lib.hid (((Below.refl w3.heap.size w3).alloc (Nat.le_refl _) (.cells #[.int .i64 1] 3)).trans (hb4.mono (by simp))); have HQ2 := Lib.hid (hq2.mono (show w3.heap.size ≤ _ by simp) (Nat.le_refl _)); clear hq2 hb4)
    | (go_at_call 186; refine (rminus_any v2 _ L (K % L) w1.heap.size w2.heap.size w2.heap.size w3.heap.size w4 ((HV2.out.below HB3.out (Nat.le_refl _)).below HB4.out HB3.out.size) (HR.out.below HB4.out (Nat.le_refl _)) (Nat.le_trans HB3.out.size HB4.out.size) HB4.out.size fl fr hrle).mono ?_; rintro e w5 ⟨⟨r2, rfl, hr2⟩, hb5⟩; have HQf := Lib.hid (HQ2.out.below hb5 (Nat.le_refl _)); have HQle := Lib.hid hb5.size; have HRf := Lib.hid hr2; have HRle := Lib.hid (Nat.le_refl w5.heap.size); have HB4b := Lib.hid (HBC.out.trans (HB4.out.mono HBC.out.size)); have HB5 := Lib.hid (HB4b.out.trans (hb5.mono HB4b.out.size)); clear hr2 hb5)
    | (go_at_call 152; refine (rchecked_small (!sy) q2 (K / L + 1) (x / y) _ _ w5 HQf.out HQle.out hqlen HDL.out.1 HSD.out HSQ.out).mono ?_; rintro e w6 ⟨rfl, hb6⟩; have HB6 := Lib.hid hb6; have HBD := Lib.hid (HB5.out.trans (HB6.out.mono HB5.out.size)); clear hb6)
    | (go_at_call 155; refine (rtext_pos r2 (L - K % L) (x % y) _ _ w6 (HRf.out.below HB6.out HRle.out) (Nat.le_trans HRle.out HB6.out.size) hrlen HDL.out.2 HSR.out).mono ?_; rintro e w7 ⟨⟨c, rfl⟩, hb7⟩; have HBE := Lib.hid (HBD.out.trans (hb7.mono HBD.out.size)); clear hb7))
  go_ret3
  exact ⟨rfl, HBE.out⟩

theorem rDiv_ok (a b : ByteArray) (x y : Int) (w : World) (ea : a = str x) (eb : b = str y) (hx : small x = true) (hy : small y = true) (hy0 : y ≠ 0) :
    Calls Tryz.prog 143 #[.string a, .string b] w fun e w' => e = .returned (.tuple #[.string (str (x / y)), .string (str (x % y)), .int .i64 0]) ∧ Below w.heap.size w w' := by
  by_cases hneg : x < 0
  · by_cases hrem : x.natAbs % y.natAbs = 0
    · exact rDiv_B a b x y w ea eb hx hy hy0 hneg hrem
    · exact rDiv_C a b x y w ea eb hx hy hy0 hneg hrem
  · exact rDiv_A a b x y w ea eb hx hy hy0 hneg
end Go.Proofs.YtgngepbemgbbeaaGreatDoor

namespace Go.Proofs.YtgngepbemgbbeaaGreatDoor
open Go.RowKit Go.Shelf
attribute [local go_sem] Oper.semAt_some

theorem head_neg {a : ByteArray} {x : Int} (ea : a = str x) : ∃ h : 0 < a.size, ((a[0]'h).toNat == 45) = decide (x < 0) := by
  have hl : a.data.toList = txt x := by rw [ea, str_list]
  have hls := size_list a
  have hne : txt x ≠ [] := by
    unfold txt
    split
    · simp
    · exact txtN_ne _
  have h : 0 < a.size := by rw [← hls, hl]; exact List.length_pos_iff.2 hne
  refine ⟨h, ?_⟩
  have h0 := at_data h
  rw [hl] at h0
  by_cases hx : x < 0
  · have : txt x = 45 :: txtN x.natAbs := by unfold txt; rw [if_pos hx]
    rw [this] at h0
    simp only [List.getElem?_cons_zero, Option.some.injEq] at h0
    rw [← h0, decide_eq_true hx]
    rfl
  · have e : txt x = txtN x.natAbs := by unfold txt; rw [if_neg hx]
    rw [e] at h0
    have hd := txtN_digits x.natAbs _ (List.mem_of_getElem? h0)
    rw [decide_eq_false hx, beq_eq_false_iff_ne]
    omega

/-- The number in a cell: for a loop's measure. -/
def cellNat (w : World) (a : Addr) : Nat := match w.cell? a with | some (.int _ z) => z.toNat | _ => 0
theorem cellNat_of {w : World} {a : Addr} {t : Nat} (h : w.cell? a = some (.int .i64 (t : Int))) : cellNat w a = t := by
  unfold cellNat
  rw [h]
  simp

end Go.Proofs.YtgngepbemgbbeaaGreatDoor

namespace Go.Proofs.YtgngepbemgbbeaaGreatDoor
open Go.RowKit Go.Shelf
attribute [local go_sem] Oper.semAt_some

theorem rtext_neg (v : Value) (n : Nat) (z : Int) (lo top : Nat) (w : World) (h : Nr w v n lo top) (b : top ≤ w.heap.size) (hl : (dig 10 n).length ≤ 1000000) (hz : z = if true = true then -(n : Int) else n) {sz : ByteArray} (es : sz = str z) :
    Calls Tryz.prog 155 #[.bool true, v] w fun e w' => (∃ c, e = .returned (.tuple #[.string sz, .bool c])) ∧ Below w.heap.size w w' := by
  refine (rtext_dig true v n lo top w h b hl).mono ?_
  rintro e w' ⟨⟨s, h1, rfl⟩, hb⟩
  rw [← hz, ← es] at h1
  rw [h1]
  exact ⟨⟨_, rfl⟩, hb⟩
theorem dig19 {N : Nat} (h : N < 10000000000000000000) : (dig 10 N).length ≤ 19 := by
  have e : (10 : Nat) ^ 19 = 10000000000000000000 := by decide
  exact (dig_length_le (by omega) _ _).2 (by omega)

set_option maxRecDepth 100000 in
set_option maxHeartbeats 8000000 in
theorem rFromInt_pos (n : Int) (w : World) (h0 : 0 ≤ n) (h1 : n ≤ 9223372036854775807) :
    Calls Tryz.prog 113 #[.int .i64 n] w fun e w' => e = .returned (.string (str n)) ∧ Below w.heap.size w w' := by
  obtain ⟨i0, hi, hz0, hz1, hz2⟩ := info_parts A_info3
  obtain ⟨N, hN⟩ : ∃ N : Nat, n = (N : Int) := ⟨n.toNat, by omega⟩
  subst hN
  have hNl : (dig 10 N).length ≤ 19 := dig19 (by omega)
  obtain ⟨s, hs⟩ : ∃ s, s = str (N : Int) := ⟨_, rfl⟩
  rw [← hs]
  have HS := Lib.hid hs
  have hd : decide ((N : Int) < 0) = false := decide_eq_false (by omega)
  clear hs
  go_enter Tryz.func113, Tryz.ntmps113
  go_wp2
  go_loopw [3, 4] (fun v m wr => ∃ (M : Nat) (ds : List Nat), M ≤ N ∧ m = .int .i64 (M : Int) ∧ dig 10 N = ds ++ dig 10 M ∧ wr.ownsRow w.heap.size 3 1 v ds.length (ds.map fun d : Nat => Value.int .i64 (d : Int)) ∧ Below w.heap.size w wr) (fun _ m _ => (intOf m).natAbs)
  case atStart => exact ⟨N, [], Nat.le_refl _, rfl, rfl, World.ownsRow_nil _ _ _ _, Below.refl _ _⟩
  case round =>
    obtain ⟨M, ds, hM, rfl, he, hown, hb⟩ := hrel
    have hwr := hb.size
    have hdl : ds.length ≤ 19 := by
      have := congrArg List.length he
      rw [List.length_append] at this
      omega
    obtain ⟨k, hk⟩ : ∃ k, k = ds.length := ⟨_, rfl⟩
    rw [← hk] at hown hdl
    have HK := Lib.hid hk
    have HE := Lib.hid he
    have HO := Lib.hid hown
    have HB := Lib.hid hb
    clear hk he hown hb
    rcases Nat.eq_zero_or_pos M with hm | hm
    · subst hm
      have hds : ds = dig 10 N := by have := HE.out; rw [dig_zero, List.append_nil] at this; exact this.symm
      have hn : Nr wr u3 N w.heap.size wr.heap.size := by
        have := Sl.of_owns HO.out
        rw [hds] at this
        show Sl wr u3 (dig 10 N).length 1 _ _ _
        rw [← hds, ← HK.out]
        rw [← hds] at this
        exact this
      have HN := Lib.hid hn
      clear hn hds
      go_wp2_with (go_at_call 155; with_reducible refine (rtext_pos u3 N (N : Int) _ _ wr HN.out (Nat.le_refl _) (by omega) rfl HS.out).mono ?_; rintro e w2 ⟨⟨c, rfl⟩, hb2⟩)
      go_ret
      exact ⟨rfl, HB.out.trans (hb2.mono HB.out.size)⟩
    · have hdp := dig_pos (B := 10) (by omega) hm
      have HD := Lib.hid hdp
      have hne : ((M : Int) != 0) = true := by rw [bne_iff_ne]; omega
      clear hdp
      go_wp2_with (at_builtin; refine wpList_append_own _ rfl _ _ 112 rfl w.heap.size 3 i0 (.int .i64 0) 1 8 Tryz.underlying112 hi hz0 hz1 hz2 rfl (by decide) u3 k _ rfl (HO.out.alloc _) ⟨wr.heap.size, 0, none⟩ 1 1 [.int .i64 ((M : Int) % 10)] rfl rfl (cell_one_new _ _ _) (by simp [Value.oneCell']) (by unfold maxLen; omega) (by omega) (by simp; omega) ?_; intro v' w3 hown' hgrow _)
      refine ⟨⟨M / 10, ds ++ [M % 10], by omega, congrArg _ (by omega), by rw [HE.out, HD.out]; simp, own_snoc_nat (d := (M : Int) % 10) (x := M % 10) (by omega) (by rw [← HK.out]; exact hown'), (HB.out.alloc hwr _).grown hgrow (by simp; omega) (fun g e => (HO.out.lt g e).1)⟩, ?_⟩
      simp only [intOf]; omega

set_option maxRecDepth 100000 in
set_option maxHeartbeats 8000000 in
theorem rFromInt_neg (n : Int) (w : World) (h0 : n < 0) (h1 : -9223372036854775808 ≤ n) :
    Calls Tryz.prog 113 #[.int .i64 n] w fun e w' => e = .returned (.string (str n)) ∧ Below w.heap.size w w' := by
  obtain ⟨i0, hi, hz0, hz1, hz2⟩ := info_parts A_info3
  obtain ⟨N, hN⟩ : ∃ N : Nat, n = -(N : Int) := ⟨n.natAbs, by omega⟩
  subst hN
  have hN63 : N ≤ 9223372036854775808 := by omega
  have hNl : (dig 10 N).length ≤ 19 := dig19 (by omega)
  obtain ⟨s, hs⟩ : ∃ s, s = str (-(N : Int)) := ⟨_, rfl⟩
  rw [← hs]
  have HS := Lib.hid hs
  have hN0 : 0 < N := by omega
  clear hs
  go_enter Tryz.func113, Tryz.ntmps113
  go_wp2
  go_loopw [3, 4] (fun v m wr => ∃ (M : Nat) (ds : List Nat), M ≤ N ∧ m = .int .i64 (-(M : Int)) ∧ dig 10 N = ds ++ dig 10 M ∧ wr.ownsRow w.heap.size 3 1 v ds.length (ds.map fun d : Nat => Value.int .i64 (d : Int)) ∧ Below w.heap.size w wr) (fun _ m _ => (intOf m).natAbs)
  case atStart => exact ⟨N, [], Nat.le_refl _, rfl, rfl, World.ownsRow_nil _ _ _ _, Below.refl _ _⟩
  case round =>
    obtain ⟨M, ds, hM, rfl, he, hown, hb⟩ := hrel
    have hwr := hb.size
    have hdl : ds.length ≤ 19 := by
      have := congrArg List.length he
      rw [List.length_append] at this
      omega
    obtain ⟨k, hk⟩ : ∃ k, k = ds.length := ⟨_, rfl⟩
    rw [← hk] at hown hdl
    have HK := Lib.hid hk
    have HE := Lib.hid he
    have HO := Lib.hid hown
    have HB := Lib.hid hb
    clear hk he hown hb
    rcases Nat.eq_zero_or_pos M with hm | hm
    · subst hm
      have hds : ds = dig 10 N := by have := HE.out; rw [dig_zero, List.append_nil] at this; exact this.symm
      have hn : Nr wr u3 N w.heap.size wr.heap.size := by
        have := Sl.of_owns HO.out
        rw [hds] at this
        show Sl wr u3 (dig 10 N).length 1 _ _ _
        rw [← hds, ← HK.out]
        rw [← hds] at this
        exact this
      have HN := Lib.hid hn
      clear hn hds
      go_wp2_with (go_at_call 155; with_reducible refine (rtext_neg u3 N (-(N : Int)) _ _ wr HN.out (Nat.le_refl _) (by omega) rfl HS.out).mono ?_; rintro e w2 ⟨⟨c, rfl⟩, hb2⟩)
      go_ret
      exact ⟨rfl, HB.out.trans (hb2.mono HB.out.size)⟩
    · have hdp := dig_pos (B := 10) (by omega) hm
      have HD := Lib.hid hdp
      have hne : (-(M : Int) != 0) = true := by rw [bne_iff_ne]; omega
      clear hdp
      obtain ⟨D, hD⟩ : ∃ D, M % 10 = D := ⟨_, rfl⟩
      have HDD := Lib.hid hD
      have hD9 : D < 10 := by omega
      clear hD
      rcases Nat.eq_zero_or_pos D with hmz | hmz
      · subst hmz
        have hmi : (M : Int) % 10 = 0 := by have := HDD.out; omega
        go_wp2_with (at_builtin; refine wpList_append_own _ rfl _ _ 112 rfl w.heap.size 3 i0 (.int .i64 0) 1 8 Tryz.underlying112 hi hz0 hz1 hz2 rfl (by decide) u3 k _ rfl (HO.out.alloc _) ⟨wr.heap.size, 0, none⟩ 1 1 [.int .i64 (0)] rfl rfl (cell_one_new _ _ _) (by simp [Value.oneCell']) (by unfold maxLen; omega) (by omega) (by simp; omega) ?_; intro v' w3 hown' hgrow _)
        refine ⟨⟨M / 10, ds ++ [0], by omega, congrArg _ (by omega), by rw [HE.out, HD.out, HDD.out]; simp, own_snoc_nat (d := 0) (x := 0) (by omega) (by rw [← HK.out]; exact hown'), (HB.out.alloc hwr _).grown hgrow (by simp; omega) (fun g e => (HO.out.lt g e).1)⟩, by simp only [intOf]; omega⟩
      · have hmi : (M : Int) % 10 = (D : Int) := by have := HDD.out; omega
        go_wp2_with (at_builtin; refine wpList_append_own _ rfl _ _ 112 rfl w.heap.size 3 i0 (.int .i64 0) 1 8 Tryz.underlying112 hi hz0 hz1 hz2 rfl (by decide) u3 k _ rfl (HO.out.alloc _) ⟨wr.heap.size, 0, none⟩ 1 1 [.int .i64 ((D : Int))] rfl rfl (cell_one_new _ _ _) (by simp [Value.oneCell']) (by unfold maxLen; omega) (by omega) (by simp; omega) ?_; intro v' w3 hown' hgrow _)
        refine ⟨⟨M / 10, ds ++ [D], by omega, congrArg _ (by omega), by rw [HE.out, HD.out, HDD.out]; simp, own_snoc_nat (d := (D : Int)) (x := D) (by omega) (by rw [← HK.out]; exact hown'), (HB.out.alloc hwr _).grown hgrow (by simp; omega) (fun g e => (HO.out.lt g e).1)⟩, by simp only [intOf]; omega⟩

theorem rFromInt_any (n : Int) (w : World) (h0 : -9223372036854775808 ≤ n) (h1 : n ≤ 9223372036854775807) :
    Calls Tryz.prog 113 #[.int .i64 n] w fun e w' => e = .returned (.string (str n)) ∧ Below w.heap.size w w' := by
  by_cases h : n < 0
  · exact rFromInt_neg n w h h0
  · exact rFromInt_pos n w (by omega) h1
end Go.Proofs.YtgngepbemgbbeaaGreatDoor

