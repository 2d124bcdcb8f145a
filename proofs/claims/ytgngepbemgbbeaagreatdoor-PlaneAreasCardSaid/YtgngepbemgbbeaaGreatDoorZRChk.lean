/-
  The reference implementation's trimmed, checked and sum.
  The reference implementation's Valid and digits.
  The reference implementation's digits: the digits of a valid text.
  The reference implementation's Add, Sub, Mul, Compare, Gcd and Div.
-/
import Derived.Test.YtgngepbemgbbeaaGreatDoorZRTim
import Derived.Test.YtgngepbemgbbeaaGreatDoorZMade
import Derived.Test.YtgngepbemgbbeaaGreatDoorZOut
namespace Go.Proofs.YtgngepbemgbbeaaGreatDoor
open Go.RowKit Go.Shelf
attribute [local go_sem] Oper.semAt_some

/-- text of a number's digits. -/
theorem rtext_dig (neg : Bool) (v : Value) (n : Nat) (lo top : Nat) (w : World) (h : Nr w v n lo top) (b : top ≤ w.heap.size) (hl : (dig 10 n).length ≤ 1000000) :
    Calls Tryz.prog 155 #[.bool neg, v] w fun e w' => (∃ s, s = str (if neg = true then -(n : Int) else n) ∧ e = .returned (.tuple #[.string s, .bool (small (if neg = true then -(n : Int) else n))])) ∧ Below w.heap.size w w' := by
  rcases Nat.eq_zero_or_pos n with h0 | h0
  · subst h0
    obtain ⟨a, cap, rfl⟩ : ∃ a cap, v = .slice a 0 cap := by obtain ⟨a, cap, e, _⟩ := h; exact ⟨a, cap, e⟩
    refine (rtext_nil neg a cap w).mono ?_
    rintro e w' ⟨rfl, rfl⟩
    refine ⟨⟨⟨#[48]⟩, ?_, ?_⟩, Below.refl _ _⟩
    · cases neg <;> rfl
    · cases neg <;> rfl
  · have hlen : 0 < (dig 10 n).length := List.length_pos_iff.2 (by rw [Ne, dig_nil (by omega)]; omega)
    have hsm : small (if neg = true then -(n : Int) else n) = decide (((dig 10 n).length : Int) ≤ 200) := by
      unfold small nDig
      have e : (if neg = true then -(n : Int) else n).natAbs = n := by split <;> omega
      rw [e, txtN_pos h0, List.length_map, List.length_reverse]
      exact decide_eq_decide.2 (by omega)
    refine (rtext_any neg v (dig 10 n) lo top w h b (dig_lt (by omega) n) hl hlen).mono ?_
    rintro e w' ⟨⟨s, rfl, hs⟩, hb⟩
    refine ⟨⟨s, ?_, by rw [hsm]⟩, hb⟩
    have h1 : digB (dig 10 n) = txtN n := by rw [txtN_pos h0]; rfl
    apply ByteArray.ext
    apply Array.toList_inj.1
    rw [hs, h1, str_list]
    unfold txt
    cases neg
    · simp only [Bool.false_eq_true, if_false]
      rw [if_neg (by omega)]; rfl
    · simp only [if_true]
      rw [if_pos (by omega), show (-(n : Int)).natAbs = n from by omega]; rfl

set_option maxRecDepth 100000 in
set_option maxHeartbeats 2000000 in
theorem rchecked_any (neg : Bool) (v : Value) (n : Nat) (z : Int) (lo top : Nat) (w : World) (h : Nr w v n lo top) (b : top ≤ w.heap.size) (hl : (dig 10 n).length ≤ 1000000) (hz : z = if neg = true then -(n : Int) else n) :
    Calls Tryz.prog 152 #[.bool neg, v] w fun e w' => (∃ s k, outZ z = #[.string s, .int .i64 k] ∧ e = .returned (.tuple #[.string s, .int .i64 k])) ∧ Below w.heap.size w w' := by
  have ht := rtext_dig neg v n lo top w h b hl
  rw [← hz] at ht
  have HT := Lib.hid ht
  clear hz ht
  by_cases hs : small z = true
  · have ho : outZ z = #[.string (str z), .int .i64 0] := by unfold outZ; rw [if_pos hs]
    have HS := Lib.hid hs
    have HO := Lib.hid ho
    clear ho hs
    go_enter Tryz.func152, Tryz.ntmps152
    go_wp2_with (go_at_call 155; with_reducible refine (HT.out).mono ?_; rintro e w1 ⟨⟨s, hs, rfl⟩, hb1⟩; rw [HS.out]; have HSS := Lib.hid hs; clear hs)
    go_ret2
    exact ⟨⟨s, 0, by rw [HO.out, HSS.out], rfl⟩, hb1⟩
  · have hs' : small z = false := by simpa using hs
    have ho : outZ z = #[.string ⟨#[]⟩, .int .i64 30] := by unfold outZ; rw [if_neg hs]
    have HS := Lib.hid hs'
    have HO := Lib.hid ho
    clear ho hs hs'
    go_enter Tryz.func152, Tryz.ntmps152
    go_wp2_with (go_at_call 155; with_reducible refine (HT.out).mono ?_; rintro e w1 ⟨⟨s, hs, rfl⟩, hb1⟩; rw [HS.out]; have HSS := Lib.hid hs; clear hs)
    go_ret2
    exact ⟨⟨⟨#[]⟩, 30, by rw [HO.out], rfl⟩, hb1⟩
theorem sum_len_k {n m k : Nat} (l1 : (dig 10 n).length ≤ k) (l2 : (dig 10 m).length ≤ k) : (dig 10 (n + m)).length ≤ k + 1 := by
  have h1 := (dig_length_le (B := 10) (by omega) n _).1 l1
  have h2 := (dig_length_le (B := 10) (by omega) m _).1 l2
  refine (dig_length_le (by omega) _ _).2 ?_
  rw [Nat.pow_succ]
  omega
theorem sum_len {n m : Nat} (l1 : (dig 10 n).length ≤ 90000) (l2 : (dig 10 m).length ≤ 90000) : (dig 10 (n + m)).length ≤ 90001 := sum_len_k l1 l2
theorem diff_len {n m : Nat} (l1 : (dig 10 n).length ≤ 90000) : (dig 10 (n - m)).length ≤ 90001 := by
  have := dig_length_mono (B := 10) (by omega) (Nat.sub_le n m)
  omega

set_option maxRecDepth 100000 in
set_option maxHeartbeats 4000000 in
theorem rsum_any (n1 n2 : Bool) (v1 v2 : Value) (n m : Nat) (x y : Int) (lo1 hi1 lo2 hi2 : Nat) (w : World) (h1 : Nr w v1 n lo1 hi1) (h2 : Nr w v2 m lo2 hi2) (b1 : hi1 ≤ w.heap.size) (b2 : hi2 ≤ w.heap.size) (l1 : (dig 10 n).length ≤ 90000) (l2 : (dig 10 m).length ≤ 90000)
    (hx : x = if n1 = true then -(n : Int) else n) (hy : y = if n2 = true then -(m : Int) else m) :
    Calls Tryz.prog 187 #[.bool n1, v1, .bool n2, v2] w fun e w' => (∃ s k, outZ (x + y) = #[.string s, .int .i64 k] ∧ e = .returned (.tuple #[.string s, .int .i64 k])) ∧ Below w.heap.size w w' := by
  have hsl := sum_len l1 l2
  have hd1 := diff_len (m := m) l1
  have hd2 := diff_len (m := n) l2
  have f1 : Few10 n := by unfold Few10; omega
  have f2 : Few10 m := by unfold Few10; omega
  have hfin : ∀ (W : World) (v : Value) (neg : Bool) (k : Nat), (dig 10 k).length ≤ 90001 → x + y = (if neg = true then -(k : Int) else k) → Below w.heap.size w W → Nr W v k w.heap.size W.heap.size →
      Calls Tryz.prog 152 #[.bool neg, v] W fun e w' => (∃ s k, outZ (x + y) = #[.string s, .int .i64 k] ∧ e = .returned (.tuple #[.string s, .int .i64 k])) ∧ Below w.heap.size w w' := fun W v neg k hk hz hb hv =>
    (rchecked_any neg v k (x + y) w.heap.size W.heap.size W hv (Nat.le_refl _) (by omega) hz).mono fun e w' ⟨he, hb'⟩ => ⟨he, hb.trans (hb'.mono hb.size)⟩
  by_cases hs : n1 = n2
  · subst hs
    have hp := rplus_any v1 v2 n m lo1 hi1 lo2 hi2 w h1 h2 b1 b2 f1 f2
    have hf := fun W v => hfin W v n1 (n + m) hsl (by rw [hx, hy]; cases n1 <;> simp <;> omega)
    have HP := Lib.hid hp
    have HF := Lib.hid hf
    have hbb : (n1 == n1) = true := by simp
    clear hp hf hfin hx hy h1 h2
    go_enter Tryz.func187, Tryz.ntmps187
    go_wp2_with (first
      | (go_at_call 185; with_reducible refine (HP.out).mono ?_; rintro e w1 ⟨⟨v, rfl, hv⟩, hb1⟩; have HV := Lib.hid hv; clear hv)
      | (go_at_call 152; with_reducible refine (HF.out _ _ hb1 HV.out).mono ?_; rintro e w2 ⟨⟨s, k, hs, rfl⟩, hb2⟩; have HS := Lib.hid hs; clear hs))
    go_ret2
    exact ⟨⟨s, k, HS.out, rfl⟩, hb2⟩
  · have hbb : (n1 == n2) = false := by simpa using hs
    have ho : Calls Tryz.prog 150 #[v1, v2] w fun e w' => e = .returned (.int .i64 (cmpI n m)) ∧ Below w.heap.size w w' := (rorder_any _ _ n m _ _ _ _ _ h1 h2).mono fun e w' ⟨he, hs⟩ => ⟨he, hs.below _⟩
    have HO := Lib.hid ho
    by_cases hge : m ≤ n
    · have hd : decide (0 ≤ cmpI (n : Int) (m : Int)) = true := decide_eq_true (by unfold cmpI; rw [if_neg (by omega)]; split <;> omega)
      have hm : ∀ W, Below w.heap.size w W → Calls Tryz.prog 186 #[v1, v2] W fun e w' => ∃ v, e = .returned v ∧ Nr w' v (n - m) w.heap.size w'.heap.size ∧ Below w.heap.size w w' := fun W hW => by
        have := hW.size
        refine (rminus_any v1 v2 n m lo1 hi1 lo2 hi2 W (h1.below hW b1) (h2.below hW b2) (by omega) (by omega) f1 f2 hge).mono ?_
        rintro e w' ⟨⟨v, rfl, hv⟩, hb⟩
        exact ⟨v, rfl, hv.mono (by omega) (Nat.le_refl _), hW.trans (hb.mono hW.size)⟩
      have hf := fun W v => hfin W v n1 (n - m) hd1 (by rw [hx, hy]; cases n1 <;> cases n2 <;> simp at hs ⊢ <;> omega)
      have HM := Lib.hid hm
      have HF := Lib.hid hf
      clear ho hm hf hfin hx hy h1 h2 hs
      go_enter Tryz.func187, Tryz.ntmps187
      go_wp2_with (first
        | (go_at_call 150; with_reducible refine (HO.out).mono ?_; rintro e w0 ⟨rfl, hb0⟩)
        | (go_at_call 186; with_reducible refine (HM.out _ hb0).mono ?_; rintro e w1 ⟨v, rfl, hv, hb1⟩; have HV := Lib.hid hv; clear hv)
        | (go_at_call 152; with_reducible refine (HF.out _ _ hb1 HV.out).mono ?_; rintro e w2 ⟨⟨s, k, hs, rfl⟩, hb2⟩; have HS := Lib.hid hs; clear hs))
      go_ret2
      exact ⟨⟨s, k, HS.out, rfl⟩, hb2⟩
    · have hd : decide (0 ≤ cmpI (n : Int) (m : Int)) = false := decide_eq_false (by unfold cmpI; rw [if_pos (by omega)]; omega)
      have hm : ∀ W, Below w.heap.size w W → Calls Tryz.prog 186 #[v2, v1] W fun e w' => ∃ v, e = .returned v ∧ Nr w' v (m - n) w.heap.size w'.heap.size ∧ Below w.heap.size w w' := fun W hW => by
        have := hW.size
        refine (rminus_any v2 v1 m n lo2 hi2 lo1 hi1 W (h2.below hW b2) (h1.below hW b1) (by omega) (by omega) f2 f1 (by omega)).mono ?_
        rintro e w' ⟨⟨v, rfl, hv⟩, hb⟩
        exact ⟨v, rfl, hv.mono (by omega) (Nat.le_refl _), hW.trans (hb.mono hW.size)⟩
      have hf := fun W v => hfin W v n2 (m - n) hd2 (by rw [hx, hy]; cases n1 <;> cases n2 <;> simp at hs ⊢ <;> omega)
      have HM := Lib.hid hm
      have HF := Lib.hid hf
      clear ho hm hf hfin hx hy h1 h2 hs
      go_enter Tryz.func187, Tryz.ntmps187
      go_wp2_with (first
        | (go_at_call 150; with_reducible refine (HO.out).mono ?_; rintro e w0 ⟨rfl, hb0⟩)
        | (go_at_call 186; with_reducible refine (HM.out _ hb0).mono ?_; rintro e w1 ⟨v, rfl, hv, hb1⟩; have HV := Lib.hid hv; clear hv)
        | (go_at_call 152; with_reducible refine (HF.out _ _ hb1 HV.out).mono ?_; rintro e w2 ⟨⟨s, k, hs, rfl⟩, hb2⟩; have HS := Lib.hid hs; clear hs))
      go_ret2
      exact ⟨⟨s, k, HS.out, rfl⟩, hb2⟩
end Go.Proofs.YtgngepbemgbbeaaGreatDoor

namespace Go.Proofs.YtgngepbemgbbeaaGreatDoor
open Go.RowKit Go.Shelf
attribute [local go_sem] Oper.semAt_some

def isD (c : UInt8) : Bool := decide (48 ≤ c.toNat ∧ c.toNat ≤ 57)
theorem isD_iff {c : UInt8} : isD c = true ↔ 48 ≤ c.toNat ∧ c.toNat ≤ 57 := by unfold isD; exact decide_eq_true_iff
theorem validL_eq {l U : List UInt8} (hU : unsign l = U) : validL l = (decide (0 < U.length) && decide (U.length ≤ 200) && U.all isD && (decide (l = [48]) || decide (U.head? ≠ some 48))) := by
  unfold validL
  rw [hU]
  have e : (!U.isEmpty) = decide (0 < U.length) := by cases U <;> simp
  rw [e]
  rfl
theorem at_data {u : ByteArray} {k : Nat} (h : k < u.size) : u.data.toList[k]? = some (u[k]'h) := by
  rw [List.getElem?_eq_getElem (by simpa using h)]; rfl
theorem all_snoc {U : List UInt8} {k : Nat} {c : UInt8} (h : (U.take k).all isD = true) (hc : U[k]? = some c) (hd : isD c = true) : (U.take (k + 1)).all isD = true := by
  rw [List.take_add_one, List.all_append, h, hc]
  simp [hd]
theorem not_all {U : List UInt8} {k : Nat} {c : UInt8} (hc : U[k]? = some c) (hd : isD c = false) : U.all isD = false := by
  rw [List.all_eq_false]
  exact ⟨c, List.mem_of_getElem? hc, by simp [hd]⟩
theorem size_list (u : ByteArray) : u.data.toList.length = u.size := Array.length_toList
theorem drop_one (s : ByteArray) (_h : 0 < s.size) : (s.extract 1 s.size).data.toList = s.data.toList.tail := by
  rw [ByteArray.data_extract, Array.toList_extract]
  have e : s.data.toList.length = s.size := size_list s
  show (s.data.toList.drop 1).take (s.size - 1) = _
  rw [List.take_of_length_le (by rw [List.length_drop, e]; omega), List.drop_one]

set_option maxRecDepth 100000 in
set_option maxHeartbeats 8000000 in
theorem rvalid_any (s : ByteArray) (w : World) (hs : s.size ≤ 9223372036854775807) :
    Calls Tryz.prog 105 #[.string s] w fun e w' => e = .returned (.bool (validL s.data.toList)) ∧ w = w' := by
  have hls := size_list s
  by_cases h0 : 0 < s.size
  · have hhd : s.data.toList.head? = some (s[0]'h0) := by rw [List.head?_eq_getElem?]; exact at_data h0
    by_cases hm : s[0]'h0 = 45
    · have hm1 : (((s[0]'h0).toNat : Int) == 45) = true := by rw [hm]; rfl
      have HU : Hid (unsign s.data.toList = (s.extract 1 s.size).data.toList) := by
        show _ = _
        rw [drop_one s h0]
        unfold unsign
        rw [if_pos (by rw [hhd, hm])]
      have HZ : Hid (decide (s.data.toList = [48]) = false) := by
        show _ = _
        rw [decide_eq_false_iff_not]
        intro e
        rw [e, hm] at hhd
        exact absurd hhd (by decide)
      have hsz : (s.extract 1 s.size).size ≤ s.size := by rw [ByteArray.size_extract]; omega
      obtain ⟨u, hu⟩ : ∃ u, u = s.extract 1 s.size := ⟨_, rfl⟩
      have HE := Lib.hid hu
      by_cases g3 : ((s.extract 1 s.size).toList == [48]) = true
      · have HG : Hid ((s.extract 1 s.size).data.toList = [48]) := by show _ = _; rw [← Lib.toList_data]; simpa using g3
        clear hm hhd hls hu
        go_enter Tryz.func105, Tryz.ntmps105
        go_wp2
        go_ret
        exact ⟨ret_bool (by rw [validL_eq HU.out, HZ.out, HG.out]; simp), rfl⟩
      · have g3' : ((s.extract 1 s.size).toList == [48]) = false := by simpa using g3
        clear hm hhd hls hu g3
        go_enter Tryz.func105, Tryz.ntmps105
        go_wp2
        rw [← HE.out] at HU hsz g3' ⊢
        clear HE
        have hus : u.size ≤ 9223372036854775807 := by omega
        have hve := validL_eq HU.out
        obtain ⟨U, hUU⟩ : ∃ U, U = u.data.toList := ⟨_, rfl⟩
        rw [← hUU] at hve
        have hlen : U.length = u.size := by rw [hUU]; exact size_list u
        have hat : ∀ (k : Nat) (h : k < u.size), U[k]? = some (u[k]'h) := fun k h => by rw [hUU]; exact at_data h
        have HVE := Lib.hid hve
        have HLEN := Lib.hid hlen
        have HAT := Lib.hid hat
        have HUU := Lib.hid hUU
        clear hve hlen hat hUU
        go_loop [3] (fun i => ∃ k : Nat, k ≤ u.size ∧ i = .int .i64 (k : Int) ∧ (U.take k).all isD = true) (fun i => u.size - (intOf i).toNat)
        case atStart => exact ⟨0, Nat.zero_le _, rfl, by simp⟩
        case round =>
          obtain ⟨k, hk, rfl, hall⟩ := hrel
          have HALL := Lib.hid hall
          clear hall
          by_cases hlt : k < u.size
          · have hc := HAT.out k hlt
            obtain ⟨c, hcc⟩ : ∃ c, c = u[k]'hlt := ⟨_, rfl⟩
            have HC := Lib.hid (show U[k]? = some c by rw [hcc]; exact hc)
            have h256 := c.toNat_lt
            rw [hcc] at h256
            clear hc
            by_cases h1 : (u[k]'hlt).toNat < 48
            · have HD : Hid (isD c = false) := by show isD c = false; unfold isD; exact decide_eq_false (by rw [hcc]; omega)
              clear hcc
              go_wp2
              go_ret
              exact ⟨ret_bool (by rw [HVE.out, not_all HC.out HD.out]; simp), rfl⟩
            · by_cases h2 : 57 < (u[k]'hlt).toNat
              · have HD : Hid (isD c = false) := by show isD c = false; unfold isD; exact decide_eq_false (by rw [hcc]; omega)
                clear hcc
                go_wp2
                go_ret
                exact ⟨ret_bool (by rw [HVE.out, not_all HC.out HD.out]; simp), rfl⟩
              · have HD : Hid (isD c = true) := by show isD c = true; rw [isD_iff, hcc]; omega
                clear hcc
                go_wp2
                exact ⟨⟨k + 1, by omega, by go_num, all_snoc HALL.out HC.out HD.out⟩, by simp only [intOf]; omega⟩
          · obtain rfl : k = u.size := by omega
            have hA : U.all isD = true := by
              have := HALL.out
              rwa [List.take_of_length_le (by rw [HLEN.out]; exact Nat.le_refl _)] at this
            have hve := HVE.out
            rw [hA, HLEN.out, Bool.and_true] at hve
            have HVE2 := Lib.hid hve
            clear hve hA
            by_cases g1 : 0 < u.size
            · by_cases g2 : u.size ≤ 200
              · have hh : U.head? = some (u[0]'g1) := by rw [List.head?_eq_getElem?]; exact HAT.out 0 g1
                have HH := Lib.hid hh
                clear hh
                by_cases g4 : (u[0]'g1).toNat = 48
                · have g5 : (((u[0]'g1).toNat : Int) != 48) = false := by rw [g4]; rfl
                  have HX : Hid (u[0]'g1 = 48) := UInt8.toNat_inj.1 g4
                  clear g4
                  go_wp2
                  go_ret
                  exact ⟨ret_bool (by rw [HVE2.out, HZ.out, HH.out, HX.out]; simp), rfl⟩
                · have g5 : (((u[0]'g1).toNat : Int) != 48) = true := by rw [bne_iff_ne]; omega
                  have HX : Hid (¬ u[0]'g1 = 48) := fun e => g4 (by rw [e]; rfl)
                  clear g4
                  go_wp2
                  go_ret
                  exact ⟨ret_bool (by rw [HVE2.out, HZ.out, HH.out, decide_eq_true g1, decide_eq_true g2]; simp [HX.out]), rfl⟩
              · go_wp2
                go_ret
                exact ⟨ret_bool (by rw [HVE2.out, decide_eq_false g2]; simp), rfl⟩
            · go_wp2
              go_ret
              exact ⟨ret_bool (by rw [HVE2.out, decide_eq_false g1]; simp), rfl⟩
    · have hm1 : (((s[0]'h0).toNat : Int) == 45) = false := by rw [beq_eq_false_iff_ne]; intro e; exact hm (UInt8.toNat_inj.1 (by show (s[0]'h0).toNat = 45; omega))
      have HU : Hid (unsign s.data.toList = s.data.toList) := by
        show _ = _
        unfold unsign
        rw [if_neg (by rw [hhd]; simpa using hm)]
      clear hm hhd hls
      obtain ⟨u, hu⟩ : ∃ u, u = s := ⟨_, rfl⟩
      have HE : Hid (s.data.toList = u.data.toList) := by show _ = _; rw [hu]
      go_enter Tryz.func105, Tryz.ntmps105
      go_wp2
      subst hu
      have hus : u.size ≤ 9223372036854775807 := by omega
      have hve := validL_eq HU.out
      obtain ⟨U, hUU⟩ : ∃ U, U = u.data.toList := ⟨_, rfl⟩
      rw [← hUU] at hve
      have hlen : U.length = u.size := by rw [hUU]; exact size_list u
      have hat : ∀ (k : Nat) (h : k < u.size), U[k]? = some (u[k]'h) := fun k h => by rw [hUU]; exact at_data h
      have HVE := Lib.hid hve
      have HLEN := Lib.hid hlen
      have HAT := Lib.hid hat
      have HUU := Lib.hid hUU
      clear hve hlen hat hUU
      go_loop [3] (fun i => ∃ k : Nat, k ≤ u.size ∧ i = .int .i64 (k : Int) ∧ (U.take k).all isD = true) (fun i => u.size - (intOf i).toNat)
      case atStart => exact ⟨0, Nat.zero_le _, rfl, by simp⟩
      case round =>
        obtain ⟨k, hk, rfl, hall⟩ := hrel
        have HALL := Lib.hid hall
        clear hall
        by_cases hlt : k < u.size
        · have hc := HAT.out k hlt
          obtain ⟨c, hcc⟩ : ∃ c, c = u[k]'hlt := ⟨_, rfl⟩
          have HC := Lib.hid (show U[k]? = some c by rw [hcc]; exact hc)
          have h256 := c.toNat_lt
          rw [hcc] at h256
          clear hc
          by_cases h1 : (u[k]'hlt).toNat < 48
          · have HD : Hid (isD c = false) := by show isD c = false; unfold isD; exact decide_eq_false (by rw [hcc]; omega)
            clear hcc
            go_wp2
            go_ret
            exact ⟨ret_bool (by rw [← HUU.out, HVE.out, not_all HC.out HD.out]; simp), rfl⟩
          · by_cases h2 : 57 < (u[k]'hlt).toNat
            · have HD : Hid (isD c = false) := by show isD c = false; unfold isD; exact decide_eq_false (by rw [hcc]; omega)
              clear hcc
              go_wp2
              go_ret
              exact ⟨ret_bool (by rw [← HUU.out, HVE.out, not_all HC.out HD.out]; simp), rfl⟩
            · have HD : Hid (isD c = true) := by show isD c = true; rw [isD_iff, hcc]; omega
              clear hcc
              go_wp2
              exact ⟨⟨k + 1, by omega, by go_num, all_snoc HALL.out HC.out HD.out⟩, by simp only [intOf]; omega⟩
        · obtain rfl : k = u.size := by omega
          have hA : U.all isD = true := by
            have := HALL.out
            rwa [List.take_of_length_le (by rw [HLEN.out]; exact Nat.le_refl _)] at this
          have hve := HVE.out
          rw [hA, HLEN.out, Bool.and_true] at hve
          have HVE2 := Lib.hid hve
          clear hve hA
          by_cases g1 : 0 < u.size
          · by_cases g2 : u.size ≤ 200
            · have hh : U.head? = some (u[0]'g1) := by rw [List.head?_eq_getElem?]; exact HAT.out 0 g1
              have HH := Lib.hid hh
              clear hh
              by_cases g3 : (u.toList == [48]) = true
              · have HZ : Hid (U = [48]) := by show U = [48]; rw [HUU.out, ← Lib.toList_data]; simpa using g3
                go_wp2
                go_ret
                exact ⟨ret_bool (by rw [← HUU.out, HVE2.out, HZ.out, decide_eq_true g1, decide_eq_true g2]; rfl), rfl⟩
              · have g3' : (u.toList == [48]) = false := by simpa using g3
                have HZ : Hid (¬ U = [48]) := by show ¬ U = [48]; rw [HUU.out, ← Lib.toList_data]; simpa using g3
                clear g3
                by_cases g4 : (u[0]'g1).toNat = 48
                · have g5 : (((u[0]'g1).toNat : Int) != 48) = false := by rw [g4]; rfl
                  have HX : Hid (u[0]'g1 = 48) := UInt8.toNat_inj.1 g4
                  clear g4
                  go_wp2
                  go_ret
                  exact ⟨ret_bool (by rw [← HUU.out, HVE2.out, HH.out, HX.out, decide_eq_false HZ.out]; simp), rfl⟩
                · have g5 : (((u[0]'g1).toNat : Int) != 48) = true := by rw [bne_iff_ne]; omega
                  have HX : Hid (¬ u[0]'g1 = 48) := fun e => g4 (by rw [e]; rfl)
                  clear g4
                  go_wp2
                  go_ret
                  exact ⟨ret_bool (by rw [← HUU.out, HVE2.out, HH.out, decide_eq_false HZ.out, decide_eq_true g1, decide_eq_true g2]; simp [HX.out]), rfl⟩
            · go_wp2
              go_ret
              exact ⟨ret_bool (by rw [← HUU.out, HVE2.out, decide_eq_false g2]; simp), rfl⟩
          · exact absurd h0 g1
  · have hz : s.data.toList = [] := List.eq_nil_of_length_eq_zero (by omega)
    have HV : Hid (validL s.data.toList = false) := by show _ = _; rw [hz]; decide +kernel
    have h00 : s.size = 0 := by omega
    clear hz hls h0
    go_enter Tryz.func105, Tryz.ntmps105
    go_wp2
    go_loop [3] (fun i => i = .int .i64 0) (fun i => 0)
    case atStart => exact rfl
    case round =>
      obtain rfl := hrel
      go_wp2
      go_ret
      exact ⟨ret_bool HV.out.symm, rfl⟩
end Go.Proofs.YtgngepbemgbbeaaGreatDoor

namespace Go.Proofs.YtgngepbemgbbeaaGreatDoor
open Go.RowKit Go.Shelf
attribute [local go_sem] Oper.semAt_some

theorem txtN_get {n k : Nat} (hn : 0 < n) (hk : k < (dig 10 n).length) : (txtN n)[(dig 10 n).length - 1 - k]? = some (UInt8.ofNat (48 + (dig 10 n)[k]?.getD 0)) := by
  rw [txtN_pos hn, List.getElem?_map, List.getElem?_reverse (by omega), show (dig 10 n).length - 1 - ((dig 10 n).length - 1 - k) = k from by omega, List.getElem?_eq_getElem hk]
  rfl
theorem txtN_len {n : Nat} (hn : 0 < n) : (txtN n).length = (dig 10 n).length := by rw [txtN_pos hn]; simp
theorem take_snoc_getD {l : List Nat} {k : Nat} (hk : k < l.length) : l.take (k + 1) = l.take k ++ [l[k]?.getD 0] := by
  rw [List.take_succ_eq_append_getElem hk, List.getElem?_eq_getElem hk]
  rfl

set_option maxRecDepth 100000 in
set_option maxHeartbeats 8000000 in
theorem rdigits_any (s : ByteArray) (z : Int) (w : World) (es : s = str z) (hz : small z = true) :
    Calls Tryz.prog 149 #[.string s] w fun e w' => (∃ v, e = .returned (.tuple #[.bool (decide (z < 0)), v]) ∧ Nr w' v z.natAbs w.heap.size w'.heap.size) ∧ Below w.heap.size w w' := by
  obtain ⟨i0, hi, hz0, hz1, hz2⟩ := info_parts A_info3
  have hsz : s.size ≤ 9223372036854775807 := by
    rw [es, str_size]
    have := txt_length z
    have : nDig z.natAbs ≤ 200 := by simpa [small] using hz
    omega
  have hl : s.data.toList = txt z := by rw [es, str_list]
  have hls := size_list s
  obtain ⟨n, hn⟩ : ∃ n, n = z.natAbs := ⟨_, rfl⟩
  rw [← hn]
  have hnl : nDig n ≤ 200 := by rw [hn]; simpa [small] using hz
  by_cases hneg : z < 0
  · have hn0 : 0 < n := by omega
    have ht : txt z = 45 :: txtN n := by unfold txt; rw [if_pos hneg, hn]
    rw [ht] at hl
    have h0 : 0 < s.size := by rw [← hls, hl]; simp
    have h45 : s[0]'h0 = 45 := by
      have := at_data h0
      rw [hl] at this
      simpa using this.symm
    have hm1 : (((s[0]'h0).toNat : Int) == 45) = true := by rw [h45]; rfl
    have hu1 : (s.extract 1 s.size).data.toList = txtN n := by rw [drop_one s h0, hl]; rfl
    have hul : (s.extract 1 s.size).size = (dig 10 n).length := by rw [← size_list, hu1, txtN_len hn0]
    have hdz : decide (z < 0) = true := decide_eq_true hneg
    rw [hdz]
    have h48 : ((s.extract 1 s.size).toList == [48]) = false := by
      rw [beq_eq_false_iff_ne, ne_eq, Lib.toList_data, hu1]
      intro e
      have := txtN_head hn0
      rw [e] at this
      exact this rfl
    obtain ⟨u, hu⟩ : ∃ u, u = s.extract 1 s.size := ⟨_, rfl⟩
    have HE := Lib.hid hu
    have HU := Lib.hid hu1
    have HUL := Lib.hid hul
    have hus : u.size = s.size - 1 := by rw [hu, ByteArray.size_extract]; omega
    have HUS := Lib.hid hus
    clear hus hu hu1 hul h45 hl hls ht hdz hn es
    go_enter Tryz.func149, Tryz.ntmps149
    go_wp2
    rw [← HE.out] at HU HUL h48 ⊢
    clear HE
    have hnL : (dig 10 n).length ≤ 200 := by rw [← txtN_len hn0]; exact hnl
    obtain ⟨L, hL⟩ : ∃ L, L = u.size := ⟨_, rfl⟩
    have hLL : L ≤ 200 := by rw [hL, HUL.out]; exact hnL
    rw [← hL] at HUL
    have hLb : L ≤ u.size := by omega
    have HLS := Lib.hid (show L = s.size - 1 by rw [hL, HUS.out])
    clear hL hnL
    go_loopw [5, 6] (fun v i wr => ∃ k : Nat, k ≤ L ∧ i = .int .i64 ((L : Int) - 1 - k) ∧ wr.ownsRow w.heap.size 3 1 v k (((dig 10 n).take k).map fun d : Nat => Value.int .i64 (d : Int)) ∧ Below w.heap.size w wr) (fun _ i _ => (intOf i + 1).toNat)
    case atStart => exact ⟨0, Nat.zero_le _, congrArg _ (by have := HLS.out; omega), World.ownsRow_nil _ _ _ _, Below.refl _ _⟩
    case round =>
      obtain ⟨k, hk, rfl, hown, hb⟩ := hrel
      have hwr := hb.size
      have HO := Lib.hid hown
      have HB := Lib.hid hb
      clear hown hb
      by_cases hkl : k = L
      · subst hkl
        have hn : Ns wr u5 (dig 10 n) w.heap.size wr.heap.size := by
          have := Sl.of_owns HO.out
          rw [List.take_of_length_le (by rw [HUL.out]; exact Nat.le_refl _)] at this
          show Sl wr u5 (dig 10 n).length 1 _ _ _
          rw [← HUL.out]
          exact this
        have HNN := Lib.hid hn
        clear hn
        go_wp2
        go_ret2
        exact ⟨⟨_, rfl, HNN.out⟩, HB.out⟩
      · obtain ⟨ix, hix⟩ : ∃ ix, ix + k + 1 = L := ⟨L - 1 - k, by omega⟩
        rw [show (L : Int) - 1 - k = (ix : Int) from by omega]
        have hlt : ix < u.size := by omega
        have hkd : k < (dig 10 n).length := by rw [← HUL.out]; omega
        have hx9 := getD_dig_lt (B := 10) (by omega) n k
        have hch : (u[ix]'hlt).toNat = 48 + (dig 10 n)[k]?.getD 0 := by
          have h1 : (txtN n)[ix]? = some (u[ix]'hlt) := by rw [← HU.out]; exact at_data hlt
          have h2 := txtN_get hn0 hkd
          rw [show (dig 10 n).length - 1 - k = ix from by rw [← HUL.out]; omega, h1] at h2
          rw [Option.some.inj h2, dig_byte hx9]
        have hsn := take_snoc_getD hkd
        obtain ⟨d, hd⟩ : ∃ d, d = (dig 10 n)[k]?.getD 0 := ⟨_, rfl⟩
        rw [← hd] at hch hx9 hsn
        have HSN := Lib.hid hsn
        clear hsn hd hkd
        go_wp2_with (at_builtin; refine wpList_append_own _ rfl _ _ 112 rfl w.heap.size 3 i0 (.int .i64 0) 1 8 Tryz.underlying112 hi hz0 hz1 hz2 rfl (by decide) u5 k _ rfl (HO.out.alloc _) ⟨wr.heap.size, 0, none⟩ 1 1 [.int .i64 (48 + (d : Int) - 48)] rfl rfl (cell_one_new _ _ _) (by simp [Value.oneCell']) (by unfold maxLen; omega) (by omega) (by simp; omega) ?_; intro v' w3 hown' hgrow _)
        refine ⟨⟨k + 1, by omega, congrArg _ (by omega), ?_, (HB.out.alloc hwr _).grown hgrow (by simp; omega) (fun g e => (HO.out.lt g e).1)⟩, by simp only [intOf]; omega⟩
        rw [HSN.out, List.map_append]
        rw [show (48 + (d : Int) - 48) = (d : Int) from by omega] at hown'
        exact hown'
  · have hdz : decide (z < 0) = false := decide_eq_false hneg
    rw [hdz]
    have ht : txt z = txtN n := by unfold txt; rw [if_neg hneg, hn]
    rw [ht] at hl
    have h0 : 0 < s.size := by rw [← hls, hl]; exact List.length_pos_iff.2 (txtN_ne n)
    have h45 : ¬ s[0]'h0 = 45 := by
      intro e
      have := at_data h0
      rw [hl, e] at this
      have := txtN_digits n 45 (List.mem_of_getElem? this)
      revert this; decide
    have hm1 : (((s[0]'h0).toNat : Int) == 45) = false := by rw [beq_eq_false_iff_ne]; intro e; exact h45 (UInt8.toNat_inj.1 (by show (s[0]'h0).toNat = 45; omega))
    rcases Nat.eq_zero_or_pos n with hn0 | hn0
    · have es0 : s = ⟨#[48]⟩ := by
        rw [es, show z = 0 from by omega]
        decide +kernel
      rw [hn0]
      subst es0
      clear h45 hl hls ht hdz es hn hm1 h0 hsz
      go_enter Tryz.func149, Tryz.ntmps149
      go_wp2
      go_loopw [5, 6] (fun v i wr => v = .slice none 0 0 ∧ i = .int .i64 0 ∧ wr = w) (fun _ _ _ => 0)
      case atStart => exact ⟨rfl, rfl, rfl⟩
      case round =>
        obtain ⟨rfl, rfl, rfl⟩ := hrel
        go_wp2
        go_ret2
        exact ⟨⟨_, rfl, Sl.nil _ _ _ _⟩, Below.refl _ _⟩
    · have hu1 : s.data.toList = txtN n := hl
      have hul : s.size = (dig 10 n).length := by rw [← size_list, hu1, txtN_len hn0]
      have h48 : (s.toList == [48]) = false := by
        rw [beq_eq_false_iff_ne, ne_eq, Lib.toList_data, hu1]
        intro e
        have := txtN_head hn0
        rw [e] at this
        exact this rfl
      have HU := Lib.hid hu1
      have HUL := Lib.hid hul
      clear hu1 hul h45 hl hls ht hdz hn es
      obtain ⟨u, hu⟩ : ∃ u, u = s := ⟨_, rfl⟩
      go_enter Tryz.func149, Tryz.ntmps149
      go_wp2
      subst hu
      have hnL : (dig 10 n).length ≤ 200 := by rw [← txtN_len hn0]; exact hnl
      obtain ⟨L, hL⟩ : ∃ L, L = u.size := ⟨_, rfl⟩
      have hLL : L ≤ 200 := by rw [hL, HUL.out]; exact hnL
      rw [← hL] at HUL
      have hLb : L ≤ u.size := by omega
      have HLS := Lib.hid (show L = u.size from hL)
      clear hL hnL
      go_loopw [5, 6] (fun v i wr => ∃ k : Nat, k ≤ L ∧ i = .int .i64 ((L : Int) - 1 - k) ∧ wr.ownsRow w.heap.size 3 1 v k (((dig 10 n).take k).map fun d : Nat => Value.int .i64 (d : Int)) ∧ Below w.heap.size w wr) (fun _ i _ => (intOf i + 1).toNat)
      case atStart => exact ⟨0, Nat.zero_le _, congrArg _ (by have := HLS.out; omega), World.ownsRow_nil _ _ _ _, Below.refl _ _⟩
      case round =>
        obtain ⟨k, hk, rfl, hown, hb⟩ := hrel
        have hwr := hb.size
        have HO := Lib.hid hown
        have HB := Lib.hid hb
        clear hown hb
        by_cases hkl : k = L
        · subst hkl
          have hn : Ns wr u5 (dig 10 n) w.heap.size wr.heap.size := by
            have := Sl.of_owns HO.out
            rw [List.take_of_length_le (by rw [HUL.out]; exact Nat.le_refl _)] at this
            show Sl wr u5 (dig 10 n).length 1 _ _ _
            rw [← HUL.out]
            exact this
          have HNN := Lib.hid hn
          clear hn
          go_wp2
          go_ret2
          exact ⟨⟨_, rfl, HNN.out⟩, HB.out⟩
        · obtain ⟨ix, hix⟩ : ∃ ix, ix + k + 1 = L := ⟨L - 1 - k, by omega⟩
          rw [show (L : Int) - 1 - k = (ix : Int) from by omega]
          have hlt : ix < u.size := by omega
          have hkd : k < (dig 10 n).length := by rw [← HUL.out]; omega
          have hx9 := getD_dig_lt (B := 10) (by omega) n k
          have hch : (u[ix]'hlt).toNat = 48 + (dig 10 n)[k]?.getD 0 := by
            have h1 : (txtN n)[ix]? = some (u[ix]'hlt) := by rw [← HU.out]; exact at_data hlt
            have h2 := txtN_get hn0 hkd
            rw [show (dig 10 n).length - 1 - k = ix from by rw [← HUL.out]; omega, h1] at h2
            rw [Option.some.inj h2, dig_byte hx9]
          have hsn := take_snoc_getD hkd
          obtain ⟨d, hd⟩ : ∃ d, d = (dig 10 n)[k]?.getD 0 := ⟨_, rfl⟩
          rw [← hd] at hch hx9 hsn
          have HSN := Lib.hid hsn
          clear hsn hd hkd
          go_wp2_with (at_builtin; refine wpList_append_own _ rfl _ _ 112 rfl w.heap.size 3 i0 (.int .i64 0) 1 8 Tryz.underlying112 hi hz0 hz1 hz2 rfl (by decide) u5 k _ rfl (HO.out.alloc _) ⟨wr.heap.size, 0, none⟩ 1 1 [.int .i64 (48 + (d : Int) - 48)] rfl rfl (cell_one_new _ _ _) (by simp [Value.oneCell']) (by unfold maxLen; omega) (by omega) (by simp; omega) ?_; intro v' w3 hown' hgrow _)
          refine ⟨⟨k + 1, by omega, congrArg _ (by omega), ?_, (HB.out.alloc hwr _).grown hgrow (by simp; omega) (fun g e => (HO.out.lt g e).1)⟩, by simp only [intOf]; omega⟩
          rw [HSN.out, List.map_append]
          rw [show (48 + (d : Int) - 48) = (d : Int) from by omega] at hown'
          exact hown'
end Go.Proofs.YtgngepbemgbbeaaGreatDoor

namespace Go.Proofs.YtgngepbemgbbeaaGreatDoor
open Go.RowKit Go.Shelf
attribute [local go_sem] Oper.semAt_some

theorem small_len {z : Int} (h : small z = true) : (dig 10 z.natAbs).length ≤ 200 := by
  rw [dig_length_le (by omega)]
  exact (nDig_le (n := z.natAbs) (k := 200) (by omega)).1 (by simpa [small] using h)
theorem rvalid_is {a : ByteArray} {v : Bool} (hs : a.size ≤ 9223372036854775807) (h : validL a.data.toList = v) (W : World) :
    Calls Tryz.prog 105 #[.string a] W fun e w' => e = .returned (.bool v) ∧ W = w' := by
  subst h
  exact rvalid_any a W hs
theorem str_valid {s : ByteArray} {z : Int} (e : s = str z) (h : small z = true) : validL s.data.toList = true ∧ s.size ≤ 9223372036854775807 := by
  subst e
  refine ⟨by rw [str_list, validL_txt]; exact h, ?_⟩
  rw [str_size]
  have := txt_length z
  have : nDig z.natAbs ≤ 200 := by simpa [small] using h
  omega
theorem sign_eq (z : Int) : z = if decide (z < 0) = true then -(z.natAbs : Int) else (z.natAbs : Int) := by
  by_cases h : z < 0
  · rw [if_pos (decide_eq_true h)]; omega
  · rw [if_neg (by simpa using h)]; omega
theorem sign_neg (z : Int) : -z = if (!decide (z < 0)) = true then -(z.natAbs : Int) else (z.natAbs : Int) := by
  by_cases h : z < 0
  · rw [if_neg (by simpa using h)]; omega
  · rw [if_pos (by simpa using h)]; omega
theorem sign_mul (x y : Int) : x * y = if (decide (x < 0) != decide (y < 0)) = true then -((x.natAbs * y.natAbs : Nat) : Int) else ((x.natAbs * y.natAbs : Nat) : Int) := by
  have h1 := sign_eq x
  have h2 := sign_eq y
  generalize x.natAbs = n at h1 ⊢
  generalize y.natAbs = m at h2 ⊢
  generalize decide (x < 0) = a at h1 ⊢
  generalize decide (y < 0) = b at h2 ⊢
  rw [h1, h2]
  cases a <;> cases b <;> simp [Int.neg_mul, Int.mul_neg]

set_option maxRecDepth 100000 in
set_option maxHeartbeats 2000000 in
theorem rAdd_no (a b : ByteArray) (w : World) (ha : a.size ≤ 9223372036854775807) (hb : b.size ≤ 9223372036854775807) (hn : (validL a.data.toList && validL b.data.toList) = false) :
    Calls Tryz.prog 146 #[.string a, .string b] w fun e w' => e = .returned (.tuple #[.string ⟨#[]⟩, .int .i64 30]) ∧ w = w' := by
  by_cases h : validL a.data.toList = true
  · have hvb : validL b.data.toList = false := by rw [h] at hn; simpa using hn
    have VA := Lib.hid (rvalid_is ha h)
    have VB := Lib.hid (rvalid_is hb hvb)
    clear h hvb hn
    go_enter Tryz.func146, Tryz.ntmps146
    go_wp2_with (first
      | (go_at_call 105; with_reducible refine (VA.out _).mono ?_; rintro e w1 ⟨rfl, rfl⟩)
      | (go_at_call 105; with_reducible refine (VB.out _).mono ?_; rintro e w1 ⟨rfl, rfl⟩))
    go_ret2
    exact ⟨rfl, rfl⟩
  · have VA := Lib.hid (rvalid_is ha (show validL a.data.toList = false by simpa using h))
    clear h hn
    go_enter Tryz.func146, Tryz.ntmps146
    go_wp2_with (go_at_call 105; with_reducible refine (VA.out _).mono ?_; rintro e w1 ⟨rfl, rfl⟩)
    go_ret2
    exact ⟨rfl, rfl⟩

set_option maxRecDepth 100000 in
set_option maxHeartbeats 2000000 in
theorem rSub_no (a b : ByteArray) (w : World) (ha : a.size ≤ 9223372036854775807) (hb : b.size ≤ 9223372036854775807) (hn : (validL a.data.toList && validL b.data.toList) = false) :
    Calls Tryz.prog 147 #[.string a, .string b] w fun e w' => e = .returned (.tuple #[.string ⟨#[]⟩, .int .i64 30]) ∧ w = w' := by
  by_cases h : validL a.data.toList = true
  · have hvb : validL b.data.toList = false := by rw [h] at hn; simpa using hn
    have VA := Lib.hid (rvalid_is ha h)
    have VB := Lib.hid (rvalid_is hb hvb)
    clear h hvb hn
    go_enter Tryz.func147, Tryz.ntmps147
    go_wp2_with (first
      | (go_at_call 105; with_reducible refine (VA.out _).mono ?_; rintro e w1 ⟨rfl, rfl⟩)
      | (go_at_call 105; with_reducible refine (VB.out _).mono ?_; rintro e w1 ⟨rfl, rfl⟩))
    go_ret2
    exact ⟨rfl, rfl⟩
  · have VA := Lib.hid (rvalid_is ha (show validL a.data.toList = false by simpa using h))
    clear h hn
    go_enter Tryz.func147, Tryz.ntmps147
    go_wp2_with (go_at_call 105; with_reducible refine (VA.out _).mono ?_; rintro e w1 ⟨rfl, rfl⟩)
    go_ret2
    exact ⟨rfl, rfl⟩

set_option maxRecDepth 100000 in
set_option maxHeartbeats 2000000 in
theorem rMul_no (a b : ByteArray) (w : World) (ha : a.size ≤ 9223372036854775807) (hb : b.size ≤ 9223372036854775807) (hn : (validL a.data.toList && validL b.data.toList) = false) :
    Calls Tryz.prog 148 #[.string a, .string b] w fun e w' => e = .returned (.tuple #[.string ⟨#[]⟩, .int .i64 30]) ∧ w = w' := by
  by_cases h : validL a.data.toList = true
  · have hvb : validL b.data.toList = false := by rw [h] at hn; simpa using hn
    have VA := Lib.hid (rvalid_is ha h)
    have VB := Lib.hid (rvalid_is hb hvb)
    clear h hvb hn
    go_enter Tryz.func148, Tryz.ntmps148
    go_wp2_with (first
      | (go_at_call 105; with_reducible refine (VA.out _).mono ?_; rintro e w1 ⟨rfl, rfl⟩)
      | (go_at_call 105; with_reducible refine (VB.out _).mono ?_; rintro e w1 ⟨rfl, rfl⟩))
    go_ret2
    exact ⟨rfl, rfl⟩
  · have VA := Lib.hid (rvalid_is ha (show validL a.data.toList = false by simpa using h))
    clear h hn
    go_enter Tryz.func148, Tryz.ntmps148
    go_wp2_with (go_at_call 105; with_reducible refine (VA.out _).mono ?_; rintro e w1 ⟨rfl, rfl⟩)
    go_ret2
    exact ⟨rfl, rfl⟩

set_option maxRecDepth 100000 in
set_option maxHeartbeats 2000000 in
theorem rGcd_no (a b : ByteArray) (w : World) (ha : a.size ≤ 9223372036854775807) (hb : b.size ≤ 9223372036854775807) (hn : (validL a.data.toList && validL b.data.toList) = false) :
    Calls Tryz.prog 107 #[.string a, .string b] w fun e w' => e = .returned (.tuple #[.string ⟨#[]⟩, .int .i64 30]) ∧ w = w' := by
  by_cases h : validL a.data.toList = true
  · have hvb : validL b.data.toList = false := by rw [h] at hn; simpa using hn
    have VA := Lib.hid (rvalid_is ha h)
    have VB := Lib.hid (rvalid_is hb hvb)
    clear h hvb hn
    go_enter Tryz.func107, Tryz.ntmps107
    go_wp2_with (first
      | (go_at_call 105; with_reducible refine (VA.out _).mono ?_; rintro e w1 ⟨rfl, rfl⟩)
      | (go_at_call 105; with_reducible refine (VB.out _).mono ?_; rintro e w1 ⟨rfl, rfl⟩))
    go_ret2
    exact ⟨rfl, rfl⟩
  · have VA := Lib.hid (rvalid_is ha (show validL a.data.toList = false by simpa using h))
    clear h hn
    go_enter Tryz.func107, Tryz.ntmps107
    go_wp2_with (go_at_call 105; with_reducible refine (VA.out _).mono ?_; rintro e w1 ⟨rfl, rfl⟩)
    go_ret2
    exact ⟨rfl, rfl⟩

set_option maxRecDepth 100000 in
set_option maxHeartbeats 2000000 in
theorem rCompare_no (a b : ByteArray) (w : World) (ha : a.size ≤ 9223372036854775807) (hb : b.size ≤ 9223372036854775807) (hn : (validL a.data.toList && validL b.data.toList) = false) :
    Calls Tryz.prog 106 #[.string a, .string b] w fun e w' => e = .returned (.int .i64 0) ∧ w = w' := by
  by_cases h : validL a.data.toList = true
  · have hvb : validL b.data.toList = false := by rw [h] at hn; simpa using hn
    have VA := Lib.hid (rvalid_is ha h)
    have VB := Lib.hid (rvalid_is hb hvb)
    clear h hvb hn
    go_enter Tryz.func106, Tryz.ntmps106
    go_wp2_with (first
      | (go_at_call 105; with_reducible refine (VA.out _).mono ?_; rintro e w1 ⟨rfl, rfl⟩)
      | (go_at_call 105; with_reducible refine (VB.out _).mono ?_; rintro e w1 ⟨rfl, rfl⟩))
    go_ret
    exact ⟨rfl, rfl⟩
  · have VA := Lib.hid (rvalid_is ha (show validL a.data.toList = false by simpa using h))
    clear h hn
    go_enter Tryz.func106, Tryz.ntmps106
    go_wp2_with (go_at_call 105; with_reducible refine (VA.out _).mono ?_; rintro e w1 ⟨rfl, rfl⟩)
    go_ret
    exact ⟨rfl, rfl⟩

set_option maxRecDepth 100000 in
set_option maxHeartbeats 2000000 in
theorem rDiv_no (a b : ByteArray) (w : World) (ha : a.size ≤ 9223372036854775807) (hb : b.size ≤ 9223372036854775807) (hn : (validL a.data.toList && validL b.data.toList) = false) :
    Calls Tryz.prog 143 #[.string a, .string b] w fun e w' => e = .returned (.tuple #[.string ⟨#[]⟩, .string ⟨#[]⟩, .int .i64 30]) ∧ w = w' := by
  by_cases h : validL a.data.toList = true
  · have hvb : validL b.data.toList = false := by rw [h] at hn; simpa using hn
    have VA := Lib.hid (rvalid_is ha h)
    have VB := Lib.hid (rvalid_is hb hvb)
    clear h hvb hn
    go_enter Tryz.func143, Tryz.ntmps143
    go_wp2_with (first
      | (go_at_call 105; with_reducible refine (VA.out _).mono ?_; rintro e w1 ⟨rfl, rfl⟩)
      | (go_at_call 105; with_reducible refine (VB.out _).mono ?_; rintro e w1 ⟨rfl, rfl⟩))
    go_ret3
    exact ⟨rfl, rfl⟩
  · have VA := Lib.hid (rvalid_is ha (show validL a.data.toList = false by simpa using h))
    clear h hn
    go_enter Tryz.func143, Tryz.ntmps143
    go_wp2_with (go_at_call 105; with_reducible refine (VA.out _).mono ?_; rintro e w1 ⟨rfl, rfl⟩)
    go_ret3
    exact ⟨rfl, rfl⟩

set_option maxRecDepth 100000 in
set_option maxHeartbeats 4000000 in
theorem rAdd_ok (a b : ByteArray) (x y : Int) (w : World) (ea : a = str x) (eb : b = str y) (hx : small x = true) (hy : small y = true) :
    Calls Tryz.prog 146 #[.string a, .string b] w fun e w' => (∃ s k, outZ (x + y) = #[.string s, .int .i64 k] ∧ e = .returned (.tuple #[.string s, .int .i64 k])) ∧ Below w.heap.size w w' := by
  obtain ⟨va, za⟩ := str_valid ea hx
  obtain ⟨vb, zb⟩ := str_valid eb hy
  have lx := small_len hx
  have ly := small_len hy
  have hda := fun W => rdigits_any a x W ea hx
  have hdb := fun W => rdigits_any b y W eb hy
  have VA := Lib.hid (rvalid_is za va)
  have VB := Lib.hid (rvalid_is zb vb)
  have HDA := Lib.hid hda
  have HDB := Lib.hid hdb
  have hs1 := sign_eq x
  have hs2 := sign_eq y
  have HS1 := Lib.hid hs1
  have HS2 := Lib.hid hs2
  clear hs1 hs2 hda hdb va vb ea eb hx hy
  generalize decide (x < 0) = sx at HDA HS1
  generalize decide (y < 0) = sy at HDB HS2
  go_enter Tryz.func146, Tryz.ntmps146
  go_wp2_with (first
    | (go_at_call 105; with_reducible refine (VA.out _).mono ?_; rintro e w1 ⟨rfl, rfl⟩)
    | (go_at_call 105; with_reducible refine (VB.out _).mono ?_; rintro e w1 ⟨rfl, rfl⟩)
    | (go_at_call 149; with_reducible refine (HDA.out _).mono ?_; rintro e w1 ⟨⟨v1, rfl, hv1⟩, hb1⟩; have HV1 := Lib.hid hv1; have HB1 := Lib.hid hb1; clear hv1 hb1)
    | (go_at_call 149; with_reducible refine (HDB.out _).mono ?_; rintro e w2 ⟨⟨v2, rfl, hv2⟩, hb2⟩; have HV2 := Lib.hid hv2; have HB2 := Lib.hid hb2; have HV1b := Lib.hid (HV1.out.below HB2.out (Nat.le_refl _)); have HBB := Lib.hid (HB1.out.trans (HB2.out.mono HB1.out.size)); clear hv2 hb2)
    | (go_at_call 187; refine (rsum_any sx (sy) v1 v2 x.natAbs y.natAbs x (y) w.heap.size w1.heap.size w1.heap.size w2.heap.size _ HV1b.out HV2.out HB2.out.size (Nat.le_refl _) (by omega) (by omega) HS1.out HS2.out).mono ?_; rintro e w3 ⟨⟨s, k, hs, rfl⟩, hb3⟩; have HS := Lib.hid hs; have HB3 := Lib.hid hb3; clear hs hb3))
  go_ret2
  exact ⟨⟨s, k, HS.out, rfl⟩, HBB.out.trans (HB3.out.mono HBB.out.size)⟩

set_option maxRecDepth 100000 in
set_option maxHeartbeats 4000000 in
theorem rSub_ok (a b : ByteArray) (x y : Int) (w : World) (ea : a = str x) (eb : b = str y) (hx : small x = true) (hy : small y = true) :
    Calls Tryz.prog 147 #[.string a, .string b] w fun e w' => (∃ s k, outZ (x - y) = #[.string s, .int .i64 k] ∧ e = .returned (.tuple #[.string s, .int .i64 k])) ∧ Below w.heap.size w w' := by
  obtain ⟨va, za⟩ := str_valid ea hx
  obtain ⟨vb, zb⟩ := str_valid eb hy
  have lx := small_len hx
  have ly := small_len hy
  have hda := fun W => rdigits_any a x W ea hx
  have hdb := fun W => rdigits_any b y W eb hy
  have VA := Lib.hid (rvalid_is za va)
  have VB := Lib.hid (rvalid_is zb vb)
  have HDA := Lib.hid hda
  have HDB := Lib.hid hdb
  have hs1 := sign_eq x
  have hs2 := sign_neg y
  have HS1 := Lib.hid hs1
  have HS2 := Lib.hid hs2
  clear hs1 hs2 hda hdb va vb ea eb hx hy
  generalize decide (x < 0) = sx at HDA HS1
  generalize decide (y < 0) = sy at HDB HS2
  go_enter Tryz.func147, Tryz.ntmps147
  go_wp2_with (first
    | (go_at_call 105; with_reducible refine (VA.out _).mono ?_; rintro e w1 ⟨rfl, rfl⟩)
    | (go_at_call 105; with_reducible refine (VB.out _).mono ?_; rintro e w1 ⟨rfl, rfl⟩)
    | (go_at_call 149; with_reducible refine (HDA.out _).mono ?_; rintro e w1 ⟨⟨v1, rfl, hv1⟩, hb1⟩; have HV1 := Lib.hid hv1; have HB1 := Lib.hid hb1; clear hv1 hb1)
    | (go_at_call 149; with_reducible refine (HDB.out _).mono ?_; rintro e w2 ⟨⟨v2, rfl, hv2⟩, hb2⟩; have HV2 := Lib.hid hv2; have HB2 := Lib.hid hb2; have HV1b := Lib.hid (HV1.out.below HB2.out (Nat.le_refl _)); have HBB := Lib.hid (HB1.out.trans (HB2.out.mono HB1.out.size)); clear hv2 hb2)
    | (go_at_call 187; refine (rsum_any sx (!sy) v1 v2 x.natAbs y.natAbs x (-y) w.heap.size w1.heap.size w1.heap.size w2.heap.size _ HV1b.out HV2.out HB2.out.size (Nat.le_refl _) (by omega) (by omega) HS1.out HS2.out).mono ?_; rintro e w3 ⟨⟨s, k, hs, rfl⟩, hb3⟩; have HS := Lib.hid hs; have HB3 := Lib.hid hb3; clear hs hb3))
  go_ret2
  exact ⟨⟨s, k, by rw [Int.sub_eq_add_neg]; exact HS.out, rfl⟩, HBB.out.trans (HB3.out.mono HBB.out.size)⟩

theorem mul_len_k {n m k l : Nat} (l1 : (dig 10 n).length ≤ k) (l2 : (dig 10 m).length ≤ l) : (dig 10 (n * m)).length ≤ k + l := by
  have h1 := (dig_length_le (B := 10) (by omega) n _).1 l1
  have h2 := (dig_length_le (B := 10) (by omega) m _).1 l2
  refine (dig_length_le (by omega) _ _).2 ?_
  rw [Nat.pow_add]
  exact Nat.mul_lt_mul'' h1 h2
theorem mul_len {n m : Nat} (l1 : (dig 10 n).length ≤ 200) (l2 : (dig 10 m).length ≤ 200) : (dig 10 (n * m)).length ≤ 400 := mul_len_k l1 l2

set_option maxRecDepth 100000 in
set_option maxHeartbeats 4000000 in
theorem rMul_ok (a b : ByteArray) (x y : Int) (w : World) (ea : a = str x) (eb : b = str y) (hx : small x = true) (hy : small y = true) :
    Calls Tryz.prog 148 #[.string a, .string b] w fun e w' => (∃ s k, outZ (x * y) = #[.string s, .int .i64 k] ∧ e = .returned (.tuple #[.string s, .int .i64 k])) ∧ Below w.heap.size w w' := by
  obtain ⟨va, za⟩ := str_valid ea hx
  obtain ⟨vb, zb⟩ := str_valid eb hy
  have lx := small_len hx
  have ly := small_len hy
  have hda := fun W => rdigits_any a x W ea hx
  have hdb := fun W => rdigits_any b y W eb hy
  have VA := Lib.hid (rvalid_is za va)
  have VB := Lib.hid (rvalid_is zb vb)
  have HDA := Lib.hid hda
  have HDB := Lib.hid hdb
  have hs1 := sign_mul x y
  have hml := mul_len lx ly
  have HS1 := Lib.hid hs1
  have f1 : Few10 x.natAbs := by unfold Few10; omega
  have f2 : Few10 y.natAbs := by unfold Few10; omega
  clear hs1 hda hdb va vb ea eb hx hy
  generalize decide (x < 0) = sx at HDA HS1
  generalize decide (y < 0) = sy at HDB HS1
  go_enter Tryz.func148, Tryz.ntmps148
  go_wp2_with (first
    | (go_at_call 105; with_reducible refine (VA.out _).mono ?_; rintro e w1 ⟨rfl, rfl⟩)
    | (go_at_call 105; with_reducible refine (VB.out _).mono ?_; rintro e w1 ⟨rfl, rfl⟩)
    | (go_at_call 149; with_reducible refine (HDA.out _).mono ?_; rintro e w1 ⟨⟨v1, rfl, hv1⟩, hb1⟩; have HV1 := Lib.hid hv1; have HB1 := Lib.hid hb1; clear hv1 hb1)
    | (go_at_call 149; with_reducible refine (HDB.out _).mono ?_; rintro e w2 ⟨⟨v2, rfl, hv2⟩, hb2⟩; have HV2 := Lib.hid hv2; have HB2 := Lib.hid hb2; have HV1b := Lib.hid (HV1.out.below HB2.out (Nat.le_refl _)); have HBB := Lib.hid (HB1.out.trans (HB2.out.mono HB1.out.size)); clear hv2 hb2)
    | (go_at_call 188; refine (rtimes_any v1 v2 x.natAbs y.natAbs w.heap.size w1.heap.size w1.heap.size w2.heap.size _ HV1b.out HV2.out HB2.out.size (Nat.le_refl _) f1 f2).mono ?_; rintro e w3 ⟨⟨v3, rfl, hv3⟩, hb3⟩; have HV3 := Lib.hid hv3; have HB3 := Lib.hid hb3; clear hv3 hb3)
    | (go_at_call 152; refine (rchecked_any (sx != sy) v3 (x.natAbs * y.natAbs) (x * y) w2.heap.size w3.heap.size _ HV3.out (Nat.le_refl _) (by omega) HS1.out).mono ?_; rintro e w4 ⟨⟨s, k, hs, rfl⟩, hb4⟩; have HS := Lib.hid hs; have HB4 := Lib.hid hb4; clear hs hb4))
  go_ret2
  have h3 := HBB.out.trans (HB3.out.mono HBB.out.size)
  exact ⟨⟨s, k, HS.out, rfl⟩, h3.trans (HB4.out.mono h3.size)⟩

set_option maxRecDepth 100000 in
set_option maxHeartbeats 4000000 in
theorem rCompare_nn (a b : ByteArray) (x y : Int) (w : World) (ea : a = str x) (eb : b = str y) (hx : small x = true) (hy : small y = true) (h1 : x < 0) (h2 : y < 0) :
    Calls Tryz.prog 106 #[.string a, .string b] w fun e w' => e = .returned (.int .i64 (cmpI x y)) ∧ Below w.heap.size w w' := by
  have hcx : cmpI x y = cmpI (y.natAbs : Int) (x.natAbs : Int) := by
    unfold cmpI
    rcases Int.lt_trichotomy x y with h | h | h
    · first | (rw [if_pos h]; done) | (rw [if_pos h, if_pos (by omega)]; done) | (exfalso; omega)
    · first | (rw [if_neg (by omega), if_neg (by omega), if_neg (by omega), if_neg (by omega)]; done) | (exfalso; omega)
    · first | (rw [if_neg (by omega), if_pos (by omega)]; done) | (rw [if_neg (by omega), if_pos (by omega), if_neg (by omega), if_pos (by omega)]; done) | (exfalso; omega)
  rw [hcx]
  obtain ⟨va, za⟩ := str_valid ea hx
  obtain ⟨vb, zb⟩ := str_valid eb hy
  have lx := small_len hx
  have ly := small_len hy
  have hda := fun W => rdigits_any a x W ea hx
  have hdb := fun W => rdigits_any b y W eb hy
  have VA := Lib.hid (rvalid_is za va)
  have VB := Lib.hid (rvalid_is zb vb)
  have HDA := Lib.hid hda
  have HDB := Lib.hid hdb
  have hbx : decide (x < 0) = true := by exact decide_eq_true h1
  have hby : decide (y < 0) = true := by exact decide_eq_true h2
  rw [hbx] at HDA
  rw [hby] at HDB
  clear hda hdb va vb ea eb hx hy hbx hby hcx h1 h2
  go_enter Tryz.func106, Tryz.ntmps106
  go_wp2_with (first
    | (go_at_call 105; with_reducible refine (VA.out _).mono ?_; rintro e w1 ⟨rfl, rfl⟩)
    | (go_at_call 105; with_reducible refine (VB.out _).mono ?_; rintro e w1 ⟨rfl, rfl⟩)
    | (go_at_call 149; with_reducible refine (HDA.out _).mono ?_; rintro e w1 ⟨⟨v1, rfl, hv1⟩, hb1⟩; have HV1 := Lib.hid hv1; have HB1 := Lib.hid hb1; clear hv1 hb1)
    | (go_at_call 149; with_reducible refine (HDB.out _).mono ?_; rintro e w2 ⟨⟨v2, rfl, hv2⟩, hb2⟩; have HV2 := Lib.hid hv2; have HB2 := Lib.hid hb2; have HV1b := Lib.hid (HV1.out.below HB2.out (Nat.le_refl _)); have HBB := Lib.hid (HB1.out.trans (HB2.out.mono HB1.out.size)); clear hv2 hb2)
    | fail)
  go_wp2_with (go_at_call 150; refine (rorder_any v2 v1 y.natAbs x.natAbs _ _ _ _ _ HV2.out HV1b.out).mono ?_; rintro e w3 ⟨rfl, hs3⟩; have HB3 := Lib.hid (hs3.below w2.heap.size); clear hs3)
  go_wp2
  go_ret
  exact ⟨rfl, HBB.out.trans (HB3.out.mono HBB.out.size)⟩

set_option maxRecDepth 100000 in
set_option maxHeartbeats 4000000 in
theorem rCompare_np (a b : ByteArray) (x y : Int) (w : World) (ea : a = str x) (eb : b = str y) (hx : small x = true) (hy : small y = true) (h1 : x < 0) (h2 : ¬ y < 0) :
    Calls Tryz.prog 106 #[.string a, .string b] w fun e w' => e = .returned (.int .i64 (cmpI x y)) ∧ Below w.heap.size w w' := by
  have hcx : cmpI x y = -1 := by
    unfold cmpI
    rcases Int.lt_trichotomy x y with h | h | h
    · first | (rw [if_pos h]; done) | (rw [if_pos h, if_pos (by omega)]; done) | (exfalso; omega)
    · first | (rw [if_neg (by omega), if_neg (by omega), if_neg (by omega), if_neg (by omega)]; done) | (exfalso; omega)
    · first | (rw [if_neg (by omega), if_pos (by omega)]; done) | (rw [if_neg (by omega), if_pos (by omega), if_neg (by omega), if_pos (by omega)]; done) | (exfalso; omega)
  rw [hcx]
  obtain ⟨va, za⟩ := str_valid ea hx
  obtain ⟨vb, zb⟩ := str_valid eb hy
  have lx := small_len hx
  have ly := small_len hy
  have hda := fun W => rdigits_any a x W ea hx
  have hdb := fun W => rdigits_any b y W eb hy
  have VA := Lib.hid (rvalid_is za va)
  have VB := Lib.hid (rvalid_is zb vb)
  have HDA := Lib.hid hda
  have HDB := Lib.hid hdb
  have hbx : decide (x < 0) = true := by exact decide_eq_true h1
  have hby : decide (y < 0) = false := by exact decide_eq_false h2
  rw [hbx] at HDA
  rw [hby] at HDB
  clear hda hdb va vb ea eb hx hy hbx hby hcx h1 h2
  go_enter Tryz.func106, Tryz.ntmps106
  go_wp2_with (first
    | (go_at_call 105; with_reducible refine (VA.out _).mono ?_; rintro e w1 ⟨rfl, rfl⟩)
    | (go_at_call 105; with_reducible refine (VB.out _).mono ?_; rintro e w1 ⟨rfl, rfl⟩)
    | (go_at_call 149; with_reducible refine (HDA.out _).mono ?_; rintro e w1 ⟨⟨v1, rfl, hv1⟩, hb1⟩; have HV1 := Lib.hid hv1; have HB1 := Lib.hid hb1; clear hv1 hb1)
    | (go_at_call 149; with_reducible refine (HDB.out _).mono ?_; rintro e w2 ⟨⟨v2, rfl, hv2⟩, hb2⟩; have HV2 := Lib.hid hv2; have HB2 := Lib.hid hb2; have HV1b := Lib.hid (HV1.out.below HB2.out (Nat.le_refl _)); have HBB := Lib.hid (HB1.out.trans (HB2.out.mono HB1.out.size)); clear hv2 hb2)
    | fail)
  skip
  go_wp2
  go_ret
  exact ⟨rfl, HBB.out⟩

set_option maxRecDepth 100000 in
set_option maxHeartbeats 4000000 in
theorem rCompare_pn (a b : ByteArray) (x y : Int) (w : World) (ea : a = str x) (eb : b = str y) (hx : small x = true) (hy : small y = true) (h1 : ¬ x < 0) (h2 : y < 0) :
    Calls Tryz.prog 106 #[.string a, .string b] w fun e w' => e = .returned (.int .i64 (cmpI x y)) ∧ Below w.heap.size w w' := by
  have hcx : cmpI x y = 1 := by
    unfold cmpI
    rcases Int.lt_trichotomy x y with h | h | h
    · first | (rw [if_pos h]; done) | (rw [if_pos h, if_pos (by omega)]; done) | (exfalso; omega)
    · first | (rw [if_neg (by omega), if_neg (by omega), if_neg (by omega), if_neg (by omega)]; done) | (exfalso; omega)
    · first | (rw [if_neg (by omega), if_pos (by omega)]; done) | (rw [if_neg (by omega), if_pos (by omega), if_neg (by omega), if_pos (by omega)]; done) | (exfalso; omega)
  rw [hcx]
  obtain ⟨va, za⟩ := str_valid ea hx
  obtain ⟨vb, zb⟩ := str_valid eb hy
  have lx := small_len hx
  have ly := small_len hy
  have hda := fun W => rdigits_any a x W ea hx
  have hdb := fun W => rdigits_any b y W eb hy
  have VA := Lib.hid (rvalid_is za va)
  have VB := Lib.hid (rvalid_is zb vb)
  have HDA := Lib.hid hda
  have HDB := Lib.hid hdb
  have hbx : decide (x < 0) = false := by exact decide_eq_false h1
  have hby : decide (y < 0) = true := by exact decide_eq_true h2
  rw [hbx] at HDA
  rw [hby] at HDB
  clear hda hdb va vb ea eb hx hy hbx hby hcx h1 h2
  go_enter Tryz.func106, Tryz.ntmps106
  go_wp2_with (first
    | (go_at_call 105; with_reducible refine (VA.out _).mono ?_; rintro e w1 ⟨rfl, rfl⟩)
    | (go_at_call 105; with_reducible refine (VB.out _).mono ?_; rintro e w1 ⟨rfl, rfl⟩)
    | (go_at_call 149; with_reducible refine (HDA.out _).mono ?_; rintro e w1 ⟨⟨v1, rfl, hv1⟩, hb1⟩; have HV1 := Lib.hid hv1; have HB1 := Lib.hid hb1; clear hv1 hb1)
    | (go_at_call 149; with_reducible refine (HDB.out _).mono ?_; rintro e w2 ⟨⟨v2, rfl, hv2⟩, hb2⟩; have HV2 := Lib.hid hv2; have HB2 := Lib.hid hb2; have HV1b := Lib.hid (HV1.out.below HB2.out (Nat.le_refl _)); have HBB := Lib.hid (HB1.out.trans (HB2.out.mono HB1.out.size)); clear hv2 hb2)
    | fail)
  skip
  go_wp2
  go_ret
  exact ⟨rfl, HBB.out⟩

set_option maxRecDepth 100000 in
set_option maxHeartbeats 4000000 in
theorem rCompare_pp (a b : ByteArray) (x y : Int) (w : World) (ea : a = str x) (eb : b = str y) (hx : small x = true) (hy : small y = true) (h1 : ¬ x < 0) (h2 : ¬ y < 0) :
    Calls Tryz.prog 106 #[.string a, .string b] w fun e w' => e = .returned (.int .i64 (cmpI x y)) ∧ Below w.heap.size w w' := by
  have hcx : cmpI x y = cmpI (x.natAbs : Int) (y.natAbs : Int) := by
    unfold cmpI
    rcases Int.lt_trichotomy x y with h | h | h
    · first | (rw [if_pos h]; done) | (rw [if_pos h, if_pos (by omega)]; done) | (exfalso; omega)
    · first | (rw [if_neg (by omega), if_neg (by omega), if_neg (by omega), if_neg (by omega)]; done) | (exfalso; omega)
    · first | (rw [if_neg (by omega), if_pos (by omega)]; done) | (rw [if_neg (by omega), if_pos (by omega), if_neg (by omega), if_pos (by omega)]; done) | (exfalso; omega)
  rw [hcx]
  obtain ⟨va, za⟩ := str_valid ea hx
  obtain ⟨vb, zb⟩ := str_valid eb hy
  have lx := small_len hx
  have ly := small_len hy
  have hda := fun W => rdigits_any a x W ea hx
  have hdb := fun W => rdigits_any b y W eb hy
  have VA := Lib.hid (rvalid_is za va)
  have VB := Lib.hid (rvalid_is zb vb)
  have HDA := Lib.hid hda
  have HDB := Lib.hid hdb
  have hbx : decide (x < 0) = false := by exact decide_eq_false h1
  have hby : decide (y < 0) = false := by exact decide_eq_false h2
  rw [hbx] at HDA
  rw [hby] at HDB
  clear hda hdb va vb ea eb hx hy hbx hby hcx h1 h2
  go_enter Tryz.func106, Tryz.ntmps106
  go_wp2_with (first
    | (go_at_call 105; with_reducible refine (VA.out _).mono ?_; rintro e w1 ⟨rfl, rfl⟩)
    | (go_at_call 105; with_reducible refine (VB.out _).mono ?_; rintro e w1 ⟨rfl, rfl⟩)
    | (go_at_call 149; with_reducible refine (HDA.out _).mono ?_; rintro e w1 ⟨⟨v1, rfl, hv1⟩, hb1⟩; have HV1 := Lib.hid hv1; have HB1 := Lib.hid hb1; clear hv1 hb1)
    | (go_at_call 149; with_reducible refine (HDB.out _).mono ?_; rintro e w2 ⟨⟨v2, rfl, hv2⟩, hb2⟩; have HV2 := Lib.hid hv2; have HB2 := Lib.hid hb2; have HV1b := Lib.hid (HV1.out.below HB2.out (Nat.le_refl _)); have HBB := Lib.hid (HB1.out.trans (HB2.out.mono HB1.out.size)); clear hv2 hb2)
    | fail)
  go_wp2_with (go_at_call 150; refine (rorder_any v1 v2 x.natAbs y.natAbs _ _ _ _ _ HV1b.out HV2.out).mono ?_; rintro e w3 ⟨rfl, hs3⟩; have HB3 := Lib.hid (hs3.below w2.heap.size); clear hs3)
  go_wp2
  go_ret
  exact ⟨rfl, HBB.out.trans (HB3.out.mono HBB.out.size)⟩

theorem rCompare_ok (a b : ByteArray) (x y : Int) (w : World) (ea : a = str x) (eb : b = str y) (hx : small x = true) (hy : small y = true) :
    Calls Tryz.prog 106 #[.string a, .string b] w fun e w' => e = .returned (.int .i64 (cmpI x y)) ∧ Below w.heap.size w w' := by
  by_cases h1 : x < 0 <;> by_cases h2 : y < 0
  · exact rCompare_nn a b x y w ea eb hx hy h1 h2
  · exact rCompare_np a b x y w ea eb hx hy h1 h2
  · exact rCompare_pn a b x y w ea eb hx hy h1 h2
  · exact rCompare_pp a b x y w ea eb hx hy h1 h2

set_option maxRecDepth 100000 in
set_option maxHeartbeats 8000000 in
theorem rGcd_ok (a b : ByteArray) (x y : Int) (w : World) (ea : a = str x) (eb : b = str y) (hx : small x = true) (hy : small y = true) :
    Calls Tryz.prog 107 #[.string a, .string b] w fun e w' => (∃ s n, outZ ((Nat.gcd x.natAbs y.natAbs : Nat) : Int) = #[.string s, .int .i64 n] ∧ e = .returned (.tuple #[.string s, .int .i64 n])) ∧ Below w.heap.size w w' := by
  obtain ⟨μ, hμ⟩ := nr_measure
  have HMU := Lib.hid hμ
  clear hμ
  obtain ⟨va, za⟩ := str_valid ea hx
  obtain ⟨vb, zb⟩ := str_valid eb hy
  have lx := small_len hx
  have ly := small_len hy
  have hda := fun W => rdigits_any a x W ea hx
  have hdb := fun W => rdigits_any b y W eb hy
  have VA := Lib.hid (rvalid_is za va)
  have VB := Lib.hid (rvalid_is zb vb)
  have HDA := Lib.hid hda
  have HDB := Lib.hid hdb
  clear hda hdb va vb ea eb hx hy
  go_enter Tryz.func107, Tryz.ntmps107
  go_wp2_with (first
    | (go_at_call 105; with_reducible refine (VA.out _).mono ?_; rintro e w1 ⟨rfl, rfl⟩)
    | (go_at_call 105; with_reducible refine (VB.out _).mono ?_; rintro e w1 ⟨rfl, rfl⟩)
    | (go_at_call 149; with_reducible refine (HDA.out _).mono ?_; rintro e w1 ⟨⟨v1, rfl, hv1⟩, hb1⟩; have HV1 := Lib.hid hv1; have HB1 := Lib.hid hb1; clear hv1 hb1)
    | (go_at_call 149; with_reducible refine (HDB.out _).mono ?_; rintro e w2 ⟨⟨v2, rfl, hv2⟩, hb2⟩; have HV2 := Lib.hid hv2; have HB2 := Lib.hid hb2; have HV1b := Lib.hid (HV1.out.below HB2.out (Nat.le_refl _)); have HBB := Lib.hid (HB1.out.trans (HB2.out.mono HB1.out.size)); clear hv2 hb2)
    | fail)
  obtain ⟨K0, hK0⟩ : ∃ K, K = x.natAbs := ⟨_, rfl⟩
  obtain ⟨L0, hL0⟩ : ∃ L, L = y.natAbs := ⟨_, rfl⟩
  rw [← hK0] at lx HV1b
  rw [← hL0] at ly HV2
  have HG0 : Hid (Nat.gcd x.natAbs y.natAbs = Nat.gcd K0 L0) := by show _ = _; rw [hK0, hL0]
  have h12 := HB2.out.size
  have h01 := HB1.out.size
  have HS1 := Lib.hid (HV1b.out.mono (Nat.le_refl _) h12)
  have HS2 := Lib.hid (HV2.out.mono h01 (Nat.le_refl _))
  clear hK0 hL0
  go_loopw [7, 9, 10, 11] (fun k l _ _ wr => ∃ (K L : Nat), Nr wr k K w.heap.size wr.heap.size ∧ Nr wr l L w.heap.size wr.heap.size ∧ (dig 10 K).length ≤ 200 ∧ (dig 10 L).length ≤ 200 ∧ Nat.gcd K L = Nat.gcd K0 L0 ∧ Below w.heap.size w wr)
    (fun _ l _ _ wr => μ wr l)
  case atStart => exact ⟨K0, L0, HS1.out, HS2.out, lx, ly, rfl, HBB.out⟩
  case round =>
    obtain ⟨K, L, hk, hl, hK, hL, hgcd, hb⟩ := hrel
    obtain ⟨la, lc, rfl⟩ := Nr.form hl
    have HK := Lib.hid hk
    have HL := Lib.hid hl
    have HGC := Lib.hid hgcd
    have HBW := Lib.hid hb
    have hpos : (dig 10 L).length = 0 ↔ L = 0 := by rw [List.length_eq_zero_iff, dig_nil (by omega)]
    have hLs := Lib.hid hL
    obtain ⟨Ln, hLn⟩ : ∃ Ln, Ln = (dig 10 L).length := ⟨_, rfl⟩
    rw [← hLn] at hpos hL ⊢
    have HLn := Lib.hid hLn
    clear hk hl hgcd hb hLn
    rcases Nat.eq_zero_or_pos L with h0 | h0
    · have hz := hpos.2 h0
      have e : Nat.gcd x.natAbs y.natAbs = K := by rw [HG0.out, ← HGC.out, h0, Nat.gcd_zero_right]
      have HE := Lib.hid e
      clear hpos h0 e
      go_wp2_with (go_at_call 152; refine (rchecked_any false _ K (K : Int) _ _ _ HK.out (Nat.le_refl _) (by omega) rfl).mono ?_; rintro e w3 ⟨⟨s, n, hs, rfl⟩, hb3⟩; have HS := Lib.hid hs; have HB3 := Lib.hid hb3; clear hs hb3)
      go_ret2
      exact ⟨⟨s, n, by rw [HE.out]; exact HS.out, rfl⟩, HBW.out.trans (HB3.out.mono HBW.out.size)⟩
    · have hz : 0 < Ln := by omega
      clear hpos
      have hdv := fun (hs : Nr wr (.slice la Ln lc) L w.heap.size wr.heap.size) => rdivided_any _ _ K L w.heap.size wr.heap.size w.heap.size wr.heap.size wr HK.out hs (Nat.le_refl _) (Nat.le_refl _) (by unfold Few10; omega) (by have := hLs.out; omega) h0
      have HD := Lib.hid (hdv (by rw [HLn.out]; exact HL.out))
      clear hdv
      go_wp2_with (go_at_call 151; with_reducible refine (HD.out).mono ?_; rintro e w3 ⟨⟨q, r, rfl, hq, hr⟩, hb3⟩; have HR := Lib.hid hr; have HB3 := Lib.hid hb3; clear hq hr hb3)
      have hlt : K % L < L := Nat.mod_lt _ h0
      have hsz := HBW.out.size
      have hL2 := HL.out.below HB3.out (Nat.le_refl _)
      rw [HLn.out]
      refine ⟨⟨L, K % L, hL2.mono (Nat.le_refl _) HB3.out.size, HR.out.mono hsz (Nat.le_refl _), hLs.out, ?_, ?_, HBW.out.trans (HB3.out.mono hsz)⟩, ?_⟩
      · have := dig_length_mono (B := 10) (by omega) (Nat.le_of_lt hlt)
        have := hLs.out
        omega
      · rw [← HGC.out, Nat.gcd_comm K L, Nat.gcd_rec L K, Nat.gcd_comm]
      · rw [HMU.out _ _ _ _ _ HR.out, HMU.out _ _ _ _ _ HL.out]; exact hlt

end Go.Proofs.YtgngepbemgbbeaaGreatDoor

