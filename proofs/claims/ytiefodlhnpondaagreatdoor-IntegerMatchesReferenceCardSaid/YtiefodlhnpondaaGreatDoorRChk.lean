/-
  The reference implementation's trimmed, checked and sum.
-/
import Derived.Test.YtiefodlhnpondaaGreatDoorRDiv
import Derived.Test.YtiefodlhnpondaaGreatDoorMade
import Derived.Test.YtiefodlhnpondaaGreatDoorOut
namespace Go.Proofs.YtiefodlhnpondaaGreatDoor
open Go.RowKit Go.Shelf
attribute [local go_sem] Oper.semAt_some

set_option maxRecDepth 100000 in
set_option maxHeartbeats 2000000 in
theorem rtrimmed_any (v : Value) (xs : List Nat) (lo top : Nat) (w : World) (h : Ns w v xs lo top) (b : top ≤ w.heap.size) (hl : xs.length ≤ 100000) :
    Calls Tryz.prog 56 #[v] w fun e w' => (∃ v', e = .returned v' ∧ Ns w' v' (trim xs) w.heap.size w'.heap.size) ∧ Below w.heap.size w w' := by
  obtain ⟨i0, hi, hz0, hz1, hz2⟩ := info_parts A_info3
  obtain ⟨a, cap, rfl⟩ : ∃ a cap, v = .slice a xs.length cap := by obtain ⟨a, cap, e, _⟩ := h; exact ⟨a, cap, e⟩
  have hsrc : ∀ o, Sl (w.alloc o) (.slice a xs.length cap) xs.length 1 (xs.map fun n : Nat => Value.int .i64 (n : Int)) lo top := fun o => h.keep (fun k h1 h2 => Below.heap_alloc w o k (by omega))
  have HSRC := Lib.hid hsrc
  clear hsrc h
  go_enter Tryz.func56, Tryz.ntmps56
  go_wp2_with (first
    | (at_builtin; refine wpList_append_sl _ rfl _ _ 44 rfl w.heap.size 3 i0 (.int .i64 0) 1 8 Tryz.underlying44 hi hz0 hz1 hz2 rfl (by decide) (.slice (some ⟨w.heap.size, 0, none⟩) 0 0) _ _ rfl (World.ownsRow_lit w #[] 0 (Nat.le_refl _) (by decide) rfl) _ _ _ _ _ rfl (HSRC.out _) (ints_one _) (by unfold maxLen; omega) (by omega) (by simp) ?_; intro v' w1 hown' hgrow; have hBw1 : Below w.heap.size w w1 := ((Below.refl _ w).alloc (Nat.le_refl _) _).grown hgrow (by simp) (fun k e => by simp [Value.ownBlock] at e; omega); have HOWN := Lib.hid hown'; have HW1 := Lib.hid hBw1; clear hown' hgrow hBw1)
    | (go_at_call 37; refine (rtrim_any _ xs w.heap.size w1.heap.size _ (by have := Sl.of_owns HOWN.out; simpa using this)).mono ?_; rintro e w2 ⟨⟨vT, rfl, hvT⟩, rfl⟩; have HVT := Lib.hid hvT; clear hvT))
  go_ret
  exact ⟨⟨_, rfl, HVT.out⟩, HW1.out⟩

/-- text of a number's digits. -/
theorem rtext_dig (neg : Bool) (v : Value) (n : Nat) (lo top : Nat) (w : World) (h : Nr w v n lo top) (b : top ≤ w.heap.size) (hl : (dig 10 n).length ≤ 1000000) :
    Calls Tryz.prog 36 #[.bool neg, v] w fun e w' => (∃ s, s = str (if neg = true then -(n : Int) else n) ∧ e = .returned (.tuple #[.string s, .bool (small (if neg = true then -(n : Int) else n))])) ∧ Below w.heap.size w w' := by
  rcases Nat.eq_zero_or_pos n with h0 | h0
  · subst h0
    obtain ⟨a, cap, rfl⟩ : ∃ a cap, v = .slice a 0 cap := by obtain ⟨a, cap, e, _⟩ := h; exact ⟨a, cap, e⟩
    refine (rtext_nil neg a cap w).mono ?_
    rintro e w' ⟨rfl, rfl⟩
    refine ⟨⟨⟨#[48]⟩, ?_, ?_⟩, Below.refl _ _⟩
    · cases neg <;> rfl
    · cases neg <;> rfl
  · have hlen : 0 < (dig 10 n).length := List.length_pos_iff.2 (by rw [Ne, dig_nil (by omega)]; omega)
    have hsm : small (if neg = true then -(n : Int) else n) = decide (((dig 10 n).length : Int) ≤ 200) := by
      unfold small nDig
      have e : (if neg = true then -(n : Int) else n).natAbs = n := by split <;> omega
      rw [e, txtN_pos h0, List.length_map, List.length_reverse]
      exact decide_eq_decide.2 (by omega)
    refine (rtext_any neg v (dig 10 n) lo top w h b (dig_lt (by omega) n) hl hlen).mono ?_
    rintro e w' ⟨⟨s, rfl, hs⟩, hb⟩
    refine ⟨⟨s, ?_, by rw [hsm]⟩, hb⟩
    have h1 : digB (dig 10 n) = txtN n := by rw [txtN_pos h0]; rfl
    apply ByteArray.ext
    apply Array.toList_inj.1
    rw [hs, h1, str_list]
    unfold txt
    cases neg
    · simp only [Bool.false_eq_true, if_false]
      rw [if_neg (by omega)]; rfl
    · simp only [if_true]
      rw [if_pos (by omega), show (-(n : Int)).natAbs = n from by omega]; rfl

set_option maxRecDepth 100000 in
set_option maxHeartbeats 2000000 in
theorem rchecked_any (neg : Bool) (v : Value) (n : Nat) (z : Int) (lo top : Nat) (w : World) (h : Nr w v n lo top) (b : top ≤ w.heap.size) (hl : (dig 10 n).length ≤ 1000000) (hz : z = if neg = true then -(n : Int) else n) :
    Calls Tryz.prog 50 #[.bool neg, v] w fun e w' => (∃ s k, outZ z = #[.string s, .int .i64 k] ∧ e = .returned (.tuple #[.string s, .int .i64 k])) ∧ Below w.heap.size w w' := by
  have ht := rtext_dig neg v n lo top w h b hl
  rw [← hz] at ht
  have HT := Lib.hid ht
  clear hz ht
  by_cases hs : small z = true
  · have ho : outZ z = #[.string (str z), .int .i64 0] := by unfold outZ; rw [if_pos hs]
    have HS := Lib.hid hs
    have HO := Lib.hid ho
    clear ho hs
    go_enter Tryz.func50, Tryz.ntmps50
    go_wp2_with (go_at_call 36; with_reducible refine (HT.out).mono ?_; rintro e w1 ⟨⟨s, hs, rfl⟩, hb1⟩; rw [HS.out]; have HSS := Lib.hid hs; clear hs)
    go_ret2
    exact ⟨⟨s, 0, by rw [HO.out, HSS.out], rfl⟩, hb1⟩
  · have hs' : small z = false := by simpa using hs
    have ho : outZ z = #[.string ⟨#[]⟩, .int .i64 30] := by unfold outZ; rw [if_neg hs]
    have HS := Lib.hid hs'
    have HO := Lib.hid ho
    clear ho hs hs'
    go_enter Tryz.func50, Tryz.ntmps50
    go_wp2_with (go_at_call 36; with_reducible refine (HT.out).mono ?_; rintro e w1 ⟨⟨s, hs, rfl⟩, hb1⟩; rw [HS.out]; have HSS := Lib.hid hs; clear hs)
    go_ret2
    exact ⟨⟨⟨#[]⟩, 30, by rw [HO.out], rfl⟩, hb1⟩
theorem sum_len_k {n m k : Nat} (l1 : (dig 10 n).length ≤ k) (l2 : (dig 10 m).length ≤ k) : (dig 10 (n + m)).length ≤ k + 1 := by
  have h1 := (dig_length_le (B := 10) (by omega) n _).1 l1
  have h2 := (dig_length_le (B := 10) (by omega) m _).1 l2
  refine (dig_length_le (by omega) _ _).2 ?_
  rw [Nat.pow_succ]
  omega
theorem sum_len {n m : Nat} (l1 : (dig 10 n).length ≤ 90000) (l2 : (dig 10 m).length ≤ 90000) : (dig 10 (n + m)).length ≤ 90001 := sum_len_k l1 l2
theorem diff_len {n m : Nat} (l1 : (dig 10 n).length ≤ 90000) : (dig 10 (n - m)).length ≤ 90001 := by
  have := dig_length_mono (B := 10) (by omega) (Nat.sub_le n m)
  omega

set_option maxRecDepth 100000 in
set_option maxHeartbeats 4000000 in
theorem rsum_any (n1 n2 : Bool) (v1 v2 : Value) (n m : Nat) (x y : Int) (lo1 hi1 lo2 hi2 : Nat) (w : World) (h1 : Nr w v1 n lo1 hi1) (h2 : Nr w v2 m lo2 hi2) (b1 : hi1 ≤ w.heap.size) (b2 : hi2 ≤ w.heap.size) (l1 : (dig 10 n).length ≤ 90000) (l2 : (dig 10 m).length ≤ 90000)
    (hx : x = if n1 = true then -(n : Int) else n) (hy : y = if n2 = true then -(m : Int) else m) :
    Calls Tryz.prog 49 #[.bool n1, v1, .bool n2, v2] w fun e w' => (∃ s k, outZ (x + y) = #[.string s, .int .i64 k] ∧ e = .returned (.tuple #[.string s, .int .i64 k])) ∧ Below w.heap.size w w' := by
  have hsl := sum_len l1 l2
  have hd1 := diff_len (m := m) l1
  have hd2 := diff_len (m := n) l2
  have f1 : Few10 n := by unfold Few10; omega
  have f2 : Few10 m := by unfold Few10; omega
  have hfin : ∀ (W : World) (v : Value) (neg : Bool) (k : Nat), (dig 10 k).length ≤ 90001 → x + y = (if neg = true then -(k : Int) else k) → Below w.heap.size w W → Nr W v k w.heap.size W.heap.size →
      Calls Tryz.prog 50 #[.bool neg, v] W fun e w' => (∃ s k, outZ (x + y) = #[.string s, .int .i64 k] ∧ e = .returned (.tuple #[.string s, .int .i64 k])) ∧ Below w.heap.size w w' := fun W v neg k hk hz hb hv =>
    (rchecked_any neg v k (x + y) w.heap.size W.heap.size W hv (Nat.le_refl _) (by omega) hz).mono fun e w' ⟨he, hb'⟩ => ⟨he, hb.trans (hb'.mono hb.size)⟩
  by_cases hs : n1 = n2
  · subst hs
    have hp := rplus_any v1 v2 n m lo1 hi1 lo2 hi2 w h1 h2 b1 b2 f1 f2
    have hf := fun W v => hfin W v n1 (n + m) hsl (by rw [hx, hy]; cases n1 <;> simp <;> omega)
    have HP := Lib.hid hp
    have HF := Lib.hid hf
    have hbb : (n1 == n1) = true := by simp
    clear hp hf hfin hx hy h1 h2
    go_enter Tryz.func49, Tryz.ntmps49
    go_wp2_with (first
      | (go_at_call 53; with_reducible refine (HP.out).mono ?_; rintro e w1 ⟨⟨v, rfl, hv⟩, hb1⟩; have HV := Lib.hid hv; clear hv)
      | (go_at_call 50; with_reducible refine (HF.out _ _ hb1 HV.out).mono ?_; rintro e w2 ⟨⟨s, k, hs, rfl⟩, hb2⟩; have HS := Lib.hid hs; clear hs))
    go_ret2
    exact ⟨⟨s, k, HS.out, rfl⟩, hb2⟩
  · have hbb : (n1 == n2) = false := by simpa using hs
    have ho : Calls Tryz.prog 55 #[v1, v2] w fun e w' => e = .returned (.int .i64 (cmpI n m)) ∧ Below w.heap.size w w' := (rorder_any _ _ n m _ _ _ _ _ h1 h2).mono fun e w' ⟨he, hs⟩ => ⟨he, hs.below _⟩
    have HO := Lib.hid ho
    by_cases hge : m ≤ n
    · have hd : decide (0 ≤ cmpI (n : Int) (m : Int)) = true := decide_eq_true (by unfold cmpI; rw [if_neg (by omega)]; split <;> omega)
      have hm : ∀ W, Below w.heap.size w W → Calls Tryz.prog 54 #[v1, v2] W fun e w' => ∃ v, e = .returned v ∧ Nr w' v (n - m) w.heap.size w'.heap.size ∧ Below w.heap.size w w' := fun W hW => by
        have := hW.size
        refine (rminus_any v1 v2 n m lo1 hi1 lo2 hi2 W (h1.below hW b1) (h2.below hW b2) (by omega) (by omega) f1 f2 hge).mono ?_
        rintro e w' ⟨⟨v, rfl, hv⟩, hb⟩
        exact ⟨v, rfl, hv.mono (by omega) (Nat.le_refl _), hW.trans (hb.mono hW.size)⟩
      have hf := fun W v => hfin W v n1 (n - m) hd1 (by rw [hx, hy]; cases n1 <;> cases n2 <;> simp at hs ⊢ <;> omega)
      have HM := Lib.hid hm
      have HF := Lib.hid hf
      clear ho hm hf hfin hx hy h1 h2 hs
      go_enter Tryz.func49, Tryz.ntmps49
      go_wp2_with (first
        | (go_at_call 55; with_reducible refine (HO.out).mono ?_; rintro e w0 ⟨rfl, hb0⟩)
        | (go_at_call 54; with_reducible refine (HM.out _ hb0).mono ?_; rintro e w1 ⟨v, rfl, hv, hb1⟩; have HV := Lib.hid hv; clear hv)
        | (go_at_call 50; with_reducible refine (HF.out _ _ hb1 HV.out).mono ?_; rintro e w2 ⟨⟨s, k, hs, rfl⟩, hb2⟩; have HS := Lib.hid hs; clear hs))
      go_ret2
      exact ⟨⟨s, k, HS.out, rfl⟩, hb2⟩
    · have hd : decide (0 ≤ cmpI (n : Int) (m : Int)) = false := decide_eq_false (by unfold cmpI; rw [if_pos (by omega)]; omega)
      have hm : ∀ W, Below w.heap.size w W → Calls Tryz.prog 54 #[v2, v1] W fun e w' => ∃ v, e = .returned v ∧ Nr w' v (m - n) w.heap.size w'.heap.size ∧ Below w.heap.size w w' := fun W hW => by
        have := hW.size
        refine (rminus_any v2 v1 m n lo2 hi2 lo1 hi1 W (h2.below hW b2) (h1.below hW b1) (by omega) (by omega) f2 f1 (by omega)).mono ?_
        rintro e w' ⟨⟨v, rfl, hv⟩, hb⟩
        exact ⟨v, rfl, hv.mono (by omega) (Nat.le_refl _), hW.trans (hb.mono hW.size)⟩
      have hf := fun W v => hfin W v n2 (m - n) hd2 (by rw [hx, hy]; cases n1 <;> cases n2 <;> simp at hs ⊢ <;> omega)
      have HM := Lib.hid hm
      have HF := Lib.hid hf
      clear ho hm hf hfin hx hy h1 h2 hs
      go_enter Tryz.func49, Tryz.ntmps49
      go_wp2_with (first
        | (go_at_call 55; with_reducible refine (HO.out).mono ?_; rintro e w0 ⟨rfl, hb0⟩)
        | (go_at_call 54; with_reducible refine (HM.out _ hb0).mono ?_; rintro e w1 ⟨v, rfl, hv, hb1⟩; have HV := Lib.hid hv; clear hv)
        | (go_at_call 50; with_reducible refine (HF.out _ _ hb1 HV.out).mono ?_; rintro e w2 ⟨⟨s, k, hs, rfl⟩, hb2⟩; have HS := Lib.hid hs; clear hs))
      go_ret2
      exact ⟨⟨s, k, HS.out, rfl⟩, hb2⟩
end Go.Proofs.YtiefodlhnpondaaGreatDoor
