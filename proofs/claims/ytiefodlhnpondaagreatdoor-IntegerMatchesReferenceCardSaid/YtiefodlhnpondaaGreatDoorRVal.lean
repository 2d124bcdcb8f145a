/-
  The reference implementation's Valid and digits.
-/
import Derived.Test.YtiefodlhnpondaaGreatDoorRChk
namespace Go.Proofs.YtiefodlhnpondaaGreatDoor
open Go.RowKit Go.Shelf
attribute [local go_sem] Oper.semAt_some

def isD (c : UInt8) : Bool := decide (48 ≤ c.toNat ∧ c.toNat ≤ 57)
theorem isD_iff {c : UInt8} : isD c = true ↔ 48 ≤ c.toNat ∧ c.toNat ≤ 57 := by unfold isD; exact decide_eq_true_iff
theorem validL_eq {l U : List UInt8} (hU : unsign l = U) : validL l = (decide (0 < U.length) && decide (U.length ≤ 200) && U.all isD && (decide (l = [48]) || decide (U.head? ≠ some 48))) := by
  unfold validL
  rw [hU]
  have e : (!U.isEmpty) = decide (0 < U.length) := by cases U <;> simp
  rw [e]
  rfl
theorem at_data {u : ByteArray} {k : Nat} (h : k < u.size) : u.data.toList[k]? = some (u[k]'h) := by
  rw [List.getElem?_eq_getElem (by simpa using h)]; rfl
theorem all_snoc {U : List UInt8} {k : Nat} {c : UInt8} (h : (U.take k).all isD = true) (hc : U[k]? = some c) (hd : isD c = true) : (U.take (k + 1)).all isD = true := by
  rw [List.take_add_one, List.all_append, h, hc]
  simp [hd]
theorem not_all {U : List UInt8} {k : Nat} {c : UInt8} (hc : U[k]? = some c) (hd : isD c = false) : U.all isD = false := by
  rw [List.all_eq_false]
  exact ⟨c, List.mem_of_getElem? hc, by simp [hd]⟩
theorem size_list (u : ByteArray) : u.data.toList.length = u.size := Array.length_toList
theorem drop_one (s : ByteArray) (_h : 0 < s.size) : (s.extract 1 s.size).data.toList = s.data.toList.tail := by
  rw [ByteArray.data_extract, Array.toList_extract]
  have e : s.data.toList.length = s.size := size_list s
  show (s.data.toList.drop 1).take (s.size - 1) = _
  rw [List.take_of_length_le (by rw [List.length_drop, e]; omega), List.drop_one]

set_option maxRecDepth 100000 in
set_option maxHeartbeats 8000000 in
theorem rvalid_any (s : ByteArray) (w : World) (hs : s.size ≤ 9223372036854775807) :
    Calls Tryz.prog 33 #[.string s] w fun e w' => e = .returned (.bool (validL s.data.toList)) ∧ w = w' := by
  have hls := size_list s
  by_cases h0 : 0 < s.size
  · have hhd : s.data.toList.head? = some (s[0]'h0) := by rw [List.head?_eq_getElem?]; exact at_data h0
    by_cases hm : s[0]'h0 = 45
    · have hm1 : (((s[0]'h0).toNat : Int) == 45) = true := by rw [hm]; rfl
      have HU : Hid (unsign s.data.toList = (s.extract 1 s.size).data.toList) := by
        show _ = _
        rw [drop_one s h0]
        unfold unsign
        rw [if_pos (by rw [hhd, hm])]
      have HZ : Hid (decide (s.data.toList = [48]) = false) := by
        show _ = _
        rw [decide_eq_false_iff_not]
        intro e
        rw [e, hm] at hhd
        exact absurd hhd (by decide)
      have hsz : (s.extract 1 s.size).size ≤ s.size := by rw [ByteArray.size_extract]; omega
      obtain ⟨u, hu⟩ : ∃ u, u = s.extract 1 s.size := ⟨_, rfl⟩
      have HE := Lib.hid hu
      by_cases g3 : ((s.extract 1 s.size).toList == [48]) = true
      · have HG : Hid ((s.extract 1 s.size).data.toList = [48]) := by show _ = _; rw [← Lib.toList_data]; simpa using g3
        clear hm hhd hls hu
        go_enter Tryz.func33, Tryz.ntmps33
        go_wp2
        go_ret
        exact ⟨ret_bool (by rw [validL_eq HU.out, HZ.out, HG.out]; simp), rfl⟩
      · have g3' : ((s.extract 1 s.size).toList == [48]) = false := by simpa using g3
        clear hm hhd hls hu g3
        go_enter Tryz.func33, Tryz.ntmps33
        go_wp2
        rw [← HE.out] at HU hsz g3' ⊢
        clear HE
        have hus : u.size ≤ 9223372036854775807 := by omega
        have hve := validL_eq HU.out
        obtain ⟨U, hUU⟩ : ∃ U, U = u.data.toList := ⟨_, rfl⟩
        rw [← hUU] at hve
        have hlen : U.length = u.size := by rw [hUU]; exact size_list u
        have hat : ∀ (k : Nat) (h : k < u.size), U[k]? = some (u[k]'h) := fun k h => by rw [hUU]; exact at_data h
        have HVE := Lib.hid hve
        have HLEN := Lib.hid hlen
        have HAT := Lib.hid hat
        have HUU := Lib.hid hUU
        clear hve hlen hat hUU
        go_loop [3] (fun i => ∃ k : Nat, k ≤ u.size ∧ i = .int .i64 (k : Int) ∧ (U.take k).all isD = true) (fun i => u.size - (intOf i).toNat)
        case atStart => exact ⟨0, Nat.zero_le _, rfl, by simp⟩
        case round =>
          obtain ⟨k, hk, rfl, hall⟩ := hrel
          have HALL := Lib.hid hall
          clear hall
          by_cases hlt : k < u.size
          · have hc := HAT.out k hlt
            obtain ⟨c, hcc⟩ : ∃ c, c = u[k]'hlt := ⟨_, rfl⟩
            have HC := Lib.hid (show U[k]? = some c by rw [hcc]; exact hc)
            have h256 := c.toNat_lt
            rw [hcc] at h256
            clear hc
            by_cases h1 : (u[k]'hlt).toNat < 48
            · have HD : Hid (isD c = false) := by show isD c = false; unfold isD; exact decide_eq_false (by rw [hcc]; omega)
              clear hcc
              go_wp2
              go_ret
              exact ⟨ret_bool (by rw [HVE.out, not_all HC.out HD.out]; simp), rfl⟩
            · by_cases h2 : 57 < (u[k]'hlt).toNat
              · have HD : Hid (isD c = false) := by show isD c = false; unfold isD; exact decide_eq_false (by rw [hcc]; omega)
                clear hcc
                go_wp2
                go_ret
                exact ⟨ret_bool (by rw [HVE.out, not_all HC.out HD.out]; simp), rfl⟩
              · have HD : Hid (isD c = true) := by show isD c = true; rw [isD_iff, hcc]; omega
                clear hcc
                go_wp2
                exact ⟨⟨k + 1, by omega, by go_num, all_snoc HALL.out HC.out HD.out⟩, by simp only [intOf]; omega⟩
          · obtain rfl : k = u.size := by omega
            have hA : U.all isD = true := by
              have := HALL.out
              rwa [List.take_of_length_le (by rw [HLEN.out]; exact Nat.le_refl _)] at this
            have hve := HVE.out
            rw [hA, HLEN.out, Bool.and_true] at hve
            have HVE2 := Lib.hid hve
            clear hve hA
            by_cases g1 : 0 < u.size
            · by_cases g2 : u.size ≤ 200
              · have hh : U.head? = some (u[0]'g1) := by rw [List.head?_eq_getElem?]; exact HAT.out 0 g1
                have HH := Lib.hid hh
                clear hh
                by_cases g4 : (u[0]'g1).toNat = 48
                · have g5 : (((u[0]'g1).toNat : Int) != 48) = false := by rw [g4]; rfl
                  have HX : Hid (u[0]'g1 = 48) := UInt8.toNat_inj.1 g4
                  clear g4
                  go_wp2
                  go_ret
                  exact ⟨ret_bool (by rw [HVE2.out, HZ.out, HH.out, HX.out]; simp), rfl⟩
                · have g5 : (((u[0]'g1).toNat : Int) != 48) = true := by rw [bne_iff_ne]; omega
                  have HX : Hid (¬ u[0]'g1 = 48) := fun e => g4 (by rw [e]; rfl)
                  clear g4
                  go_wp2
                  go_ret
                  exact ⟨ret_bool (by rw [HVE2.out, HZ.out, HH.out, decide_eq_true g1, decide_eq_true g2]; simp [HX.out]), rfl⟩
              · go_wp2
                go_ret
                exact ⟨ret_bool (by rw [HVE2.out, decide_eq_false g2]; simp), rfl⟩
            · go_wp2
              go_ret
              exact ⟨ret_bool (by rw [HVE2.out, decide_eq_false g1]; simp), rfl⟩
    · have hm1 : (((s[0]'h0).toNat : Int) == 45) = false := by rw [beq_eq_false_iff_ne]; intro e; exact hm (UInt8.toNat_inj.1 (by show (s[0]'h0).toNat = 45; omega))
      have HU : Hid (unsign s.data.toList = s.data.toList) := by
        show _ = _
        unfold unsign
        rw [if_neg (by rw [hhd]; simpa using hm)]
      clear hm hhd hls
      obtain ⟨u, hu⟩ : ∃ u, u = s := ⟨_, rfl⟩
      have HE : Hid (s.data.toList = u.data.toList) := by show _ = _; rw [hu]
      go_enter Tryz.func33, Tryz.ntmps33
      go_wp2
      subst hu
      have hus : u.size ≤ 9223372036854775807 := by omega
      have hve := validL_eq HU.out
      obtain ⟨U, hUU⟩ : ∃ U, U = u.data.toList := ⟨_, rfl⟩
      rw [← hUU] at hve
      have hlen : U.length = u.size := by rw [hUU]; exact size_list u
      have hat : ∀ (k : Nat) (h : k < u.size), U[k]? = some (u[k]'h) := fun k h => by rw [hUU]; exact at_data h
      have HVE := Lib.hid hve
      have HLEN := Lib.hid hlen
      have HAT := Lib.hid hat
      have HUU := Lib.hid hUU
      clear hve hlen hat hUU
      go_loop [3] (fun i => ∃ k : Nat, k ≤ u.size ∧ i = .int .i64 (k : Int) ∧ (U.take k).all isD = true) (fun i => u.size - (intOf i).toNat)
      case atStart => exact ⟨0, Nat.zero_le _, rfl, by simp⟩
      case round =>
        obtain ⟨k, hk, rfl, hall⟩ := hrel
        have HALL := Lib.hid hall
        clear hall
        by_cases hlt : k < u.size
        · have hc := HAT.out k hlt
          obtain ⟨c, hcc⟩ : ∃ c, c = u[k]'hlt := ⟨_, rfl⟩
          have HC := Lib.hid (show U[k]? = some c by rw [hcc]; exact hc)
          have h256 := c.toNat_lt
          rw [hcc] at h256
          clear hc
          by_cases h1 : (u[k]'hlt).toNat < 48
          · have HD : Hid (isD c = false) := by show isD c = false; unfold isD; exact decide_eq_false (by rw [hcc]; omega)
            clear hcc
            go_wp2
            go_ret
            exact ⟨ret_bool (by rw [← HUU.out, HVE.out, not_all HC.out HD.out]; simp), rfl⟩
          · by_cases h2 : 57 < (u[k]'hlt).toNat
            · have HD : Hid (isD c = false) := by show isD c = false; unfold isD; exact decide_eq_false (by rw [hcc]; omega)
              clear hcc
              go_wp2
              go_ret
              exact ⟨ret_bool (by rw [← HUU.out, HVE.out, not_all HC.out HD.out]; simp), rfl⟩
            · have HD : Hid (isD c = true) := by show isD c = true; rw [isD_iff, hcc]; omega
              clear hcc
              go_wp2
              exact ⟨⟨k + 1, by omega, by go_num, all_snoc HALL.out HC.out HD.out⟩, by simp only [intOf]; omega⟩
        · obtain rfl : k = u.size := by omega
          have hA : U.all isD = true := by
            have := HALL.out
            rwa [List.take_of_length_le (by rw [HLEN.out]; exact Nat.le_refl _)] at this
          have hve := HVE.out
          rw [hA, HLEN.out, Bool.and_true] at hve
          have HVE2 := Lib.hid hve
          clear hve hA
          by_cases g1 : 0 < u.size
          · by_cases g2 : u.size ≤ 200
            · have hh : U.head? = some (u[0]'g1) := by rw [List.head?_eq_getElem?]; exact HAT.out 0 g1
              have HH := Lib.hid hh
              clear hh
              by_cases g3 : (u.toList == [48]) = true
              · have HZ : Hid (U = [48]) := by show U = [48]; rw [HUU.out, ← Lib.toList_data]; simpa using g3
                go_wp2
                go_ret
                exact ⟨ret_bool (by rw [← HUU.out, HVE2.out, HZ.out, decide_eq_true g1, decide_eq_true g2]; rfl), rfl⟩
              · have g3' : (u.toList == [48]) = false := by simpa using g3
                have HZ : Hid (¬ U = [48]) := by show ¬ U = [48]; rw [HUU.out, ← Lib.toList_data]; simpa using g3
                clear g3
                by_cases g4 : (u[0]'g1).toNat = 48
                · have g5 : (((u[0]'g1).toNat : Int) != 48) = false := by rw [g4]; rfl
                  have HX : Hid (u[0]'g1 = 48) := UInt8.toNat_inj.1 g4
                  clear g4
                  go_wp2
                  go_ret
                  exact ⟨ret_bool (by rw [← HUU.out, HVE2.out, HH.out, HX.out, decide_eq_false HZ.out]; simp), rfl⟩
                · have g5 : (((u[0]'g1).toNat : Int) != 48) = true := by rw [bne_iff_ne]; omega
                  have HX : Hid (¬ u[0]'g1 = 48) := fun e => g4 (by rw [e]; rfl)
                  clear g4
                  go_wp2
                  go_ret
                  exact ⟨ret_bool (by rw [← HUU.out, HVE2.out, HH.out, decide_eq_false HZ.out, decide_eq_true g1, decide_eq_true g2]; simp [HX.out]), rfl⟩
            · go_wp2
              go_ret
              exact ⟨ret_bool (by rw [← HUU.out, HVE2.out, decide_eq_false g2]; simp), rfl⟩
          · exact absurd h0 g1
  · have hz : s.data.toList = [] := List.eq_nil_of_length_eq_zero (by omega)
    have HV : Hid (validL s.data.toList = false) := by show _ = _; rw [hz]; decide +kernel
    have h00 : s.size = 0 := by omega
    clear hz hls h0
    go_enter Tryz.func33, Tryz.ntmps33
    go_wp2
    go_loop [3] (fun i => i = .int .i64 0) (fun i => 0)
    case atStart => exact rfl
    case round =>
      obtain rfl := hrel
      go_wp2
      go_ret
      exact ⟨ret_bool HV.out.symm, rfl⟩
end Go.Proofs.YtiefodlhnpondaaGreatDoor
