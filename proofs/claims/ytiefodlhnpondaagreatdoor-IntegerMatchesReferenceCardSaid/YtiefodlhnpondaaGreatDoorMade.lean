/-
  The reference implementation's Made: an integer that a string determines.
-/
import Derived.Test.YtiefodlhnpondaaGreatDoorRef
import Derived.Test.YtiefodlhnpondaaGreatDoorBoth
import Derived.Deep.RegionHeld3
namespace Go.Proofs.YtiefodlhnpondaaGreatDoor
open Go.RowKit Go.Shelf
attribute [local go_sem] Oper.semAt_some

/-- The digits that a text determines, and the integer. -/
def madeD (l : List UInt8) (most : Nat) : List Nat := (l.take most).map fun c => c.toNat % 10
def madeZ (l : List UInt8) (most : Nat) : Int := if (l.head?.map fun c => decide (128 ≤ c.toNat)) = some true then -(val 10 (madeD l most) : Int) else val 10 (madeD l most)
theorem madeD_lt (l : List UInt8) (most : Nat) : ∀ d ∈ madeD l most, d < 10 := by
  intro d h
  obtain ⟨c, _, rfl⟩ := List.mem_map.1 h
  omega
theorem madeD_length (l : List UInt8) (most : Nat) : (madeD l most).length ≤ most := by
  unfold madeD
  rw [List.length_map, List.length_take]
  omega
theorem made_small (l : List UInt8) (most : Nat) (h : 0 < most) : nDig (madeZ l most).natAbs ≤ most := by
  have h1 : (madeZ l most).natAbs = val 10 (madeD l most) := by unfold madeZ; split <;> omega
  rw [h1, nDig_le h]
  exact Nat.lt_of_lt_of_le (val_lt (by omega) _ (madeD_lt l most)) (Nat.pow_le_pow_right (by omega) (madeD_length l most))
theorem digB_trim {ds : List Nat} (h : ∀ d ∈ ds, d < 10) (hne : trim ds ≠ []) : digB (trim ds) = txtN (val 10 ds) ∧ 0 < val 10 ds := by
  rw [trim_dig (by omega) ds h] at hne ⊢
  have hp : 0 < val 10 ds := by
    rcases Nat.eq_zero_or_pos (val 10 ds) with h0 | h0
    · rw [h0] at hne; exact absurd rfl hne
    · exact h0
  exact ⟨by rw [txtN_pos hp]; rfl, hp⟩

set_option maxHeartbeats 2000000 in
theorem rtext_nil (neg : Bool) (a : Option Addr) (c : Nat) (w : World) :
    Calls Tryz.prog 36 #[.bool neg, .slice a 0 c] w fun e w' => e = .returned (.tuple #[.string ⟨#[48]⟩, .bool true]) ∧ w = w' := by
  go_enter Tryz.func36, Tryz.ntmps36
  go_wp2
  refine bodyPost_ret (v := .tuple #[.string ⟨#[48]⟩, .bool true]) ?_ rfl ⟨rfl, rfl⟩
  simp [results, Tryz.results36, go_sem]
/-- text of the trimmed digits: the integer's own text. -/
theorem rtext_trim (neg : Bool) (v : Value) (ds : List Nat) (lo top : Nat) (w : World) (h : Ns w v (trim ds) lo top) (b : top ≤ w.heap.size) (hd : ∀ d ∈ ds, d < 10) (hl : (trim ds).length ≤ 200) :
    Calls Tryz.prog 36 #[.bool neg, v] w fun e w' => (∃ s, s = str (if neg = true then -(val 10 ds : Int) else val 10 ds) ∧ e = .returned (.tuple #[.string s, .bool true])) ∧ Below w.heap.size w w' := by
  by_cases hne : trim ds = []
  · have hv : val 10 ds = 0 := by
      have := trim_dig (B := 10) (by omega) ds hd
      rw [hne] at this
      exact (dig_nil (by omega)).1 this.symm
    rw [hne] at h
    obtain ⟨a, cap, rfl⟩ : ∃ a cap, v = .slice a 0 cap := by obtain ⟨a, cap, e, _⟩ := h; exact ⟨a, cap, e⟩
    refine (rtext_nil neg a cap w).mono ?_
    rintro e w' ⟨rfl, rfl⟩
    refine ⟨⟨_, ?_, rfl⟩, Below.refl _ _⟩
    rw [hv]
    cases neg <;> rfl
  · obtain ⟨h1, h2⟩ := digB_trim hd hne
    have hlen : 0 < (trim ds).length := List.length_pos_iff.2 hne
    have hdt : ∀ d ∈ trim ds, d < 10 := by
      rw [trim_dig (by omega) ds hd]
      exact dig_lt (by omega) _
    refine (rtext_any neg v (trim ds) lo top w h b hdt (by omega) hlen).mono ?_
    rintro e w' ⟨⟨s, rfl, hs⟩, hb⟩
    refine ⟨⟨s, ?_, by rw [decide_eq_true (by omega)]⟩, hb⟩
    apply ByteArray.ext
    apply Array.toList_inj.1
    rw [hs, h1, str_list]
    unfold txt
    cases neg
    · simp only [Bool.false_eq_true, if_false]
      rw [if_neg (by omega)]; rfl
    · simp only [if_true]
      rw [if_pos (by omega), show (-(val 10 ds : Int)).natAbs = val 10 ds from by omega]; rfl

theorem made_if (c : UInt8) (n : Nat) : (if decide ((128 : Int) ≤ (c.toNat : Int)) = true then -(n : Int) else n) = if ((some c).map fun c : UInt8 => decide (128 ≤ c.toNat)) = some true then -(n : Int) else n := by
  by_cases h : 128 ≤ c.toNat
  · rw [if_pos (by simpa using by omega), if_pos (by simpa using h)]
  · rw [if_neg (by simpa using by omega), if_neg (by simpa using h)]

set_option maxHeartbeats 8000000 in
set_option maxRecDepth 100000 in
theorem Made_any (s : ByteArray) (most : Nat) (w : World) (hm : most ≤ 200) :
    Calls Tryz.prog 13 #[.string s, .int .i64 (most : Int)] w fun e w' => (∃ t, t = str (madeZ s.data.toList most) ∧ e = .returned (.string t)) ∧ Below w.heap.size w w' := by
  obtain ⟨i0, hi, hz0, hz1, hz2⟩ := info_parts A_info3
  obtain ⟨l, hl⟩ : ∃ l, l = s.data.toList := ⟨_, rfl⟩
  have hls : l.length = s.size := by rw [hl]; exact Array.length_toList
  have hat : ∀ (k : Nat) (h : k < s.size), l[k]? = some (s[k]'h) := by
    intro k h
    rw [hl]
    exact byte_at s k h
  rw [← hl]
  have HAT := Lib.hid hat
  clear hat hl
  go_enter Tryz.func13, Tryz.ntmps13
  go_wp2
  go_loopw [5, 6] (fun v i wr => ∃ k : Nat, k ≤ most ∧ k ≤ s.size ∧ i = .int .i64 k ∧ wr.ownsRow w.heap.size 3 1 v (madeD l k).length ((madeD l k).map fun n : Nat => Value.int .i64 (n : Int)) ∧ Below w.heap.size w wr) (fun _ i _ => most - (intOf i).toNat)
  case atStart => exact ⟨0, Nat.zero_le _, Nat.zero_le _, rfl, World.ownsRow_nil _ _ _ _, Below.refl _ _⟩
  case round =>
    obtain ⟨k, hk, hks, rfl, ho, hb⟩ := hrel
    have hwr := hb.size
    have hdl : (madeD l k).length = k := by unfold madeD; rw [List.length_map, List.length_take]; omega
    rw [hdl] at ho
    have HO := Lib.hid ho
    have HB0 := Lib.hid hb
    clear ho
    by_cases hc : k < s.size ∧ k < most
    · obtain ⟨hc1, hc2⟩ := hc
      have hak := HAT.out k hc1
      obtain ⟨d, hd⟩ : ∃ d, d = (s[k]'hc1).toNat % 10 := ⟨_, rfl⟩
      have hnx : madeD l (k + 1) = madeD l k ++ [d] := by
        unfold madeD
        rw [List.take_add_one, hak, List.map_append, hd]; rfl
      have HNX := Lib.hid hnx
      clear hnx hak
      have h256 := (s[k]'hc1).toNat_lt
      have hdi : Hid (Int.tmod (wrap64 (((s[k]'hc1).toNat : Nat) : Int)) 10 = (d : Int)) := by
        show _ = _
        rw [show wrap64 (((s[k]'hc1).toNat : Nat) : Int) = (((s[k]'hc1).toNat : Nat) : Int) from by unfold wrap64; omega, Int.tmod_eq_emod_of_nonneg (by omega), hd]
        omega
      clear h256 hd
      go_wp2_with (at_builtin; refine wpList_append_own _ rfl _ _ 44 rfl w.heap.size 3 i0 (.int .i64 0) 1 8 Tryz.underlying44 hi hz0 hz1 hz2 rfl (by decide) u5 k _ rfl (HO.out.alloc _) ⟨wr.heap.size, 0, none⟩ 1 1 [.int .i64 (Int.tmod (wrap64 (((s[k]'hc1).toNat : Nat) : Int)) 10)] rfl rfl (cell_one_new _ _ _) (by simp [Value.oneCell']) (by unfold maxLen; omega) (by omega) (by simp; omega) ?_; intro v' w3 hown' hgrow _)
      refine ⟨⟨k + 1, by omega, by omega, by go_num, ?_, (HB0.out.alloc hwr _).grown hgrow (by simp; omega) (fun g e => (HO.out.lt g e).1)⟩, by simp only [intOf]; omega⟩
      rw [hdi.out] at hown'
      rw [HNX.out, List.map_append, List.length_append, hdl]
      exact hown'
    · have hfin : madeD l k = madeD l most := by
        unfold madeD
        congr 1
        rcases Nat.lt_or_ge k s.size with h | h
        · rw [show k = most from by omega]
        · rw [List.take_of_length_le (by omega), List.take_of_length_le (by omega)]
      have hds := madeD_lt l most
      have hdm := madeD_length l most
      have hmz : madeZ l most = if (l.head?.map fun c => decide (128 ≤ c.toNat)) = some true then -(val 10 (madeD l most) : Int) else val 10 (madeD l most) := rfl
      have HO' := HO.out
      clear HO
      rw [hfin] at HO'
      have hkl : k = (madeD l most).length := by rw [← hfin, hdl]
      have HO : Hid (wr.ownsRow w.heap.size 3 1 u5 (madeD l most).length ((madeD l most).map fun n : Nat => Value.int .i64 (n : Int))) := by show World.ownsRow _ _ _ _ _ _ _; rw [← hkl]; exact HO'
      clear HO' hkl
      generalize madeD l most = ds at HO hds hdm hmz
      have hn : Ns wr u5 ds w.heap.size wr.heap.size := Sl.of_owns HO.out
      obtain ⟨a5, c5, rfl⟩ : ∃ a cap, u5 = .slice a ds.length cap := by obtain ⟨a, cap, e, _⟩ := hn; exact ⟨a, cap, e⟩
      have HN := Lib.hid hn
      have HMZ := Lib.hid hmz
      have HDS := Lib.hid hds
      have htl : (trim ds).length ≤ 200 := by
        have : ∀ l : List Nat, (trim l).length ≤ l.length := by
          intro l
          induction l with
          | nil => simp [trim]
          | cons x xs ih => simp only [trim]; split <;> simp <;> omega
        exact Nat.le_trans (this ds) (by omega)
      clear hn hmz hds hfin hdl
      rcases Nat.lt_or_ge k s.size with hks' | hks'
      · have hh : l.head? = some (s[0]'(by omega)) := by rw [List.head?_eq_getElem?]; exact HAT.out 0 (by omega)
        have HH := Lib.hid hh
        clear hh
        have hkm : ¬ k < most := by omega
        have hs0 : 0 < s.size := by omega
        clear hc
        go_wp2
        go_region_held3 (fun W => Below wr.heap.size wr W) (first | assumption | exact (Below.refl _ _).drew) (first
          | (go_at_call 37; refine (rtrim_any _ ds w.heap.size wr.heap.size _ (by exact HN.out.keep (fun _ _ _ => rfl))).mono ?_; rintro e w2 ⟨⟨v', rfl, hv⟩, rfl⟩; obtain ⟨at', ct, rfl⟩ : ∃ a cap, v' = .slice a (trim ds).length cap := (by obtain ⟨a, cap, e, _⟩ := hv; exact ⟨a, cap, e⟩); have HV := Lib.hid hv; clear hv)
          | (go_at_call 36; refine (rtext_trim _ _ ds w.heap.size wr.heap.size _ (by exact HV.out) (by exact Nat.le_refl _) HDS.out htl).mono ?_; rintro e w3 ⟨⟨t, ht, rfl⟩, hb3⟩; have HT := Lib.hid ht; clear ht; have hbF : Below wr.heap.size wr w3 := (Below.refl wr.heap.size wr).drew.trans hb3))
        all_goals go_wp2
        all_goals
          go_ret
          exact ⟨⟨t, by rw [HT.out, HMZ.out, HH.out]; exact congrArg str (made_if _ _), rfl⟩, HB0.out.trans (hbF.mono hwr)⟩
      · obtain rfl : k = s.size := by omega
        clear hc
        by_cases h0 : s.size = 0
        · have hh : l.head? = none := by rw [List.head?_eq_none_iff]; exact List.eq_nil_of_length_eq_zero (by omega)
          have HH := Lib.hid hh
          clear hh
          go_wp2
          first
            | (go_region_with (first
                | (go_at_call 37; refine (rtrim_any _ ds w.heap.size wr.heap.size _ (by exact HN.out.keep (fun _ _ _ => rfl))).mono ?_; rintro e w2 ⟨⟨v', rfl, hv⟩, rfl⟩; obtain ⟨at', ct, rfl⟩ : ∃ a cap, v' = .slice a (trim ds).length cap := (by obtain ⟨a, cap, e, _⟩ := hv; exact ⟨a, cap, e⟩); have HV := Lib.hid hv; clear hv)
                | (go_at_call 36; refine (rtext_trim _ _ ds w.heap.size wr.heap.size _ (by exact HV.out) (by exact Nat.le_refl _) HDS.out htl).mono ?_; rintro e w3 ⟨⟨t, ht, rfl⟩, hb3⟩; have HT := Lib.hid ht; clear ht; have hbF : Below wr.heap.size wr w3 := (Below.refl wr.heap.size wr).drew.trans hb3)))
            | fail
          all_goals go_wp2
          all_goals
            go_ret
            exact ⟨⟨t, by rw [HT.out, HMZ.out, HH.out]; rfl, rfl⟩, HB0.out.trans (hbF.mono hwr)⟩
        · have hh : l.head? = some (s[0]'(by omega)) := by rw [List.head?_eq_getElem?]; exact HAT.out 0 (by omega)
          have HH := Lib.hid hh
          clear hh
          have hs0 : 0 < s.size := by omega
          go_wp2
          go_region_held3 (fun W => Below wr.heap.size wr W) (first | assumption | exact (Below.refl _ _).drew) (first
            | (go_at_call 37; refine (rtrim_any _ ds w.heap.size wr.heap.size _ (by exact HN.out.keep (fun _ _ _ => rfl))).mono ?_; rintro e w2 ⟨⟨v', rfl, hv⟩, rfl⟩; obtain ⟨at', ct, rfl⟩ : ∃ a cap, v' = .slice a (trim ds).length cap := (by obtain ⟨a, cap, e, _⟩ := hv; exact ⟨a, cap, e⟩); have HV := Lib.hid hv; clear hv)
            | (go_at_call 36; refine (rtext_trim _ _ ds w.heap.size wr.heap.size _ (by exact HV.out) (by exact Nat.le_refl _) HDS.out htl).mono ?_; rintro e w3 ⟨⟨t, ht, rfl⟩, hb3⟩; have HT := Lib.hid ht; clear ht; have hbF : Below wr.heap.size wr w3 := (Below.refl wr.heap.size wr).drew.trans hb3))
          all_goals go_wp2
          all_goals
            go_ret
            exact ⟨⟨t, by rw [HT.out, HMZ.out, HH.out]; exact congrArg str (made_if _ _), rfl⟩, HB0.out.trans (hbF.mono hwr)⟩
end Go.Proofs.YtiefodlhnpondaaGreatDoor
