/-
  The reference implementation's digits: the digits of a valid text.
-/
import Derived.Test.YtiefodlhnpondaaGreatDoorRVal
namespace Go.Proofs.YtiefodlhnpondaaGreatDoor
open Go.RowKit Go.Shelf
attribute [local go_sem] Oper.semAt_some

theorem txtN_get {n k : Nat} (hn : 0 < n) (hk : k < (dig 10 n).length) : (txtN n)[(dig 10 n).length - 1 - k]? = some (UInt8.ofNat (48 + (dig 10 n)[k]?.getD 0)) := by
  rw [txtN_pos hn, List.getElem?_map, List.getElem?_reverse (by omega), show (dig 10 n).length - 1 - ((dig 10 n).length - 1 - k) = k from by omega, List.getElem?_eq_getElem hk]
  rfl
theorem txtN_len {n : Nat} (hn : 0 < n) : (txtN n).length = (dig 10 n).length := by rw [txtN_pos hn]; simp
theorem take_snoc_getD {l : List Nat} {k : Nat} (hk : k < l.length) : l.take (k + 1) = l.take k ++ [l[k]?.getD 0] := by
  rw [List.take_succ_eq_append_getElem hk, List.getElem?_eq_getElem hk]
  rfl

set_option maxRecDepth 100000 in
set_option maxHeartbeats 8000000 in
theorem rdigits_any (s : ByteArray) (z : Int) (w : World) (es : s = str z) (hz : small z = true) :
    Calls Tryz.prog 48 #[.string s] w fun e w' => (∃ v, e = .returned (.tuple #[.bool (decide (z < 0)), v]) ∧ Nr w' v z.natAbs w.heap.size w'.heap.size) ∧ Below w.heap.size w w' := by
  obtain ⟨i0, hi, hz0, hz1, hz2⟩ := info_parts A_info3
  have hsz : s.size ≤ 9223372036854775807 := by
    rw [es, str_size]
    have := txt_length z
    have : nDig z.natAbs ≤ 200 := by simpa [small] using hz
    omega
  have hl : s.data.toList = txt z := by rw [es, str_list]
  have hls := size_list s
  obtain ⟨n, hn⟩ : ∃ n, n = z.natAbs := ⟨_, rfl⟩
  rw [← hn]
  have hnl : nDig n ≤ 200 := by rw [hn]; simpa [small] using hz
  by_cases hneg : z < 0
  · have hn0 : 0 < n := by omega
    have ht : txt z = 45 :: txtN n := by unfold txt; rw [if_pos hneg, hn]
    rw [ht] at hl
    have h0 : 0 < s.size := by rw [← hls, hl]; simp
    have h45 : s[0]'h0 = 45 := by
      have := at_data h0
      rw [hl] at this
      simpa using this.symm
    have hm1 : (((s[0]'h0).toNat : Int) == 45) = true := by rw [h45]; rfl
    have hu1 : (s.extract 1 s.size).data.toList = txtN n := by rw [drop_one s h0, hl]; rfl
    have hul : (s.extract 1 s.size).size = (dig 10 n).length := by rw [← size_list, hu1, txtN_len hn0]
    have hdz : decide (z < 0) = true := decide_eq_true hneg
    rw [hdz]
    have h48 : ((s.extract 1 s.size).toList == [48]) = false := by
      rw [beq_eq_false_iff_ne, ne_eq, Lib.toList_data, hu1]
      intro e
      have := txtN_head hn0
      rw [e] at this
      exact this rfl
    obtain ⟨u, hu⟩ : ∃ u, u = s.extract 1 s.size := ⟨_, rfl⟩
    have HE := Lib.hid hu
    have HU := Lib.hid hu1
    have HUL := Lib.hid hul
    have hus : u.size = s.size - 1 := by rw [hu, ByteArray.size_extract]; omega
    have HUS := Lib.hid hus
    clear hus hu hu1 hul h45 hl hls ht hdz hn es
    go_enter Tryz.func48, Tryz.ntmps48
    go_wp2
    rw [← HE.out] at HU HUL h48 ⊢
    clear HE
    have hnL : (dig 10 n).length ≤ 200 := by rw [← txtN_len hn0]; exact hnl
    obtain ⟨L, hL⟩ : ∃ L, L = u.size := ⟨_, rfl⟩
    have hLL : L ≤ 200 := by rw [hL, HUL.out]; exact hnL
    rw [← hL] at HUL
    have hLb : L ≤ u.size := by omega
    have HLS := Lib.hid (show L = s.size - 1 by rw [hL, HUS.out])
    clear hL hnL
    go_loopw [5, 6] (fun v i wr => ∃ k : Nat, k ≤ L ∧ i = .int .i64 ((L : Int) - 1 - k) ∧ wr.ownsRow w.heap.size 3 1 v k (((dig 10 n).take k).map fun d : Nat => Value.int .i64 (d : Int)) ∧ Below w.heap.size w wr) (fun _ i _ => (intOf i + 1).toNat)
    case atStart => exact ⟨0, Nat.zero_le _, congrArg _ (by have := HLS.out; omega), World.ownsRow_nil _ _ _ _, Below.refl _ _⟩
    case round =>
      obtain ⟨k, hk, rfl, hown, hb⟩ := hrel
      have hwr := hb.size
      have HO := Lib.hid hown
      have HB := Lib.hid hb
      clear hown hb
      by_cases hkl : k = L
      · subst hkl
        have hn : Ns wr u5 (dig 10 n) w.heap.size wr.heap.size := by
          have := Sl.of_owns HO.out
          rw [List.take_of_length_le (by rw [HUL.out]; exact Nat.le_refl _)] at this
          show Sl wr u5 (dig 10 n).length 1 _ _ _
          rw [← HUL.out]
          exact this
        have HNN := Lib.hid hn
        clear hn
        go_wp2
        go_ret2
        exact ⟨⟨_, rfl, HNN.out⟩, HB.out⟩
      · obtain ⟨ix, hix⟩ : ∃ ix, ix + k + 1 = L := ⟨L - 1 - k, by omega⟩
        rw [show (L : Int) - 1 - k = (ix : Int) from by omega]
        have hlt : ix < u.size := by omega
        have hkd : k < (dig 10 n).length := by rw [← HUL.out]; omega
        have hx9 := getD_dig_lt (B := 10) (by omega) n k
        have hch : (u[ix]'hlt).toNat = 48 + (dig 10 n)[k]?.getD 0 := by
          have h1 : (txtN n)[ix]? = some (u[ix]'hlt) := by rw [← HU.out]; exact at_data hlt
          have h2 := txtN_get hn0 hkd
          rw [show (dig 10 n).length - 1 - k = ix from by rw [← HUL.out]; omega, h1] at h2
          rw [Option.some.inj h2, dig_byte hx9]
        have hsn := take_snoc_getD hkd
        obtain ⟨d, hd⟩ : ∃ d, d = (dig 10 n)[k]?.getD 0 := ⟨_, rfl⟩
        rw [← hd] at hch hx9 hsn
        have HSN := Lib.hid hsn
        clear hsn hd hkd
        go_wp2_with (at_builtin; refine wpList_append_own _ rfl _ _ 44 rfl w.heap.size 3 i0 (.int .i64 0) 1 8 Tryz.underlying44 hi hz0 hz1 hz2 rfl (by decide) u5 k _ rfl (HO.out.alloc _) ⟨wr.heap.size, 0, none⟩ 1 1 [.int .i64 (48 + (d : Int) - 48)] rfl rfl (cell_one_new _ _ _) (by simp [Value.oneCell']) (by unfold maxLen; omega) (by omega) (by simp; omega) ?_; intro v' w3 hown' hgrow _)
        refine ⟨⟨k + 1, by omega, congrArg _ (by omega), ?_, (HB.out.alloc hwr _).grown hgrow (by simp; omega) (fun g e => (HO.out.lt g e).1)⟩, by simp only [intOf]; omega⟩
        rw [HSN.out, List.map_append]
        rw [show (48 + (d : Int) - 48) = (d : Int) from by omega] at hown'
        exact hown'
  · have hdz : decide (z < 0) = false := decide_eq_false hneg
    rw [hdz]
    have ht : txt z = txtN n := by unfold txt; rw [if_neg hneg, hn]
    rw [ht] at hl
    have h0 : 0 < s.size := by rw [← hls, hl]; exact List.length_pos_iff.2 (txtN_ne n)
    have h45 : ¬ s[0]'h0 = 45 := by
      intro e
      have := at_data h0
      rw [hl, e] at this
      have := txtN_digits n 45 (List.mem_of_getElem? this)
      revert this; decide
    have hm1 : (((s[0]'h0).toNat : Int) == 45) = false := by rw [beq_eq_false_iff_ne]; intro e; exact h45 (UInt8.toNat_inj.1 (by show (s[0]'h0).toNat = 45; omega))
    rcases Nat.eq_zero_or_pos n with hn0 | hn0
    · have es0 : s = ⟨#[48]⟩ := by
        rw [es, show z = 0 from by omega]
        decide +kernel
      rw [hn0]
      subst es0
      clear h45 hl hls ht hdz es hn hm1 h0 hsz
      go_enter Tryz.func48, Tryz.ntmps48
      go_wp2
      go_loopw [5, 6] (fun v i wr => v = .slice none 0 0 ∧ i = .int .i64 0 ∧ wr = w) (fun _ _ _ => 0)
      case atStart => exact ⟨rfl, rfl, rfl⟩
      case round =>
        obtain ⟨rfl, rfl, rfl⟩ := hrel
        go_wp2
        go_ret2
        exact ⟨⟨_, rfl, Sl.nil _ _ _ _⟩, Below.refl _ _⟩
    · have hu1 : s.data.toList = txtN n := hl
      have hul : s.size = (dig 10 n).length := by rw [← size_list, hu1, txtN_len hn0]
      have h48 : (s.toList == [48]) = false := by
        rw [beq_eq_false_iff_ne, ne_eq, Lib.toList_data, hu1]
        intro e
        have := txtN_head hn0
        rw [e] at this
        exact this rfl
      have HU := Lib.hid hu1
      have HUL := Lib.hid hul
      clear hu1 hul h45 hl hls ht hdz hn es
      obtain ⟨u, hu⟩ : ∃ u, u = s := ⟨_, rfl⟩
      go_enter Tryz.func48, Tryz.ntmps48
      go_wp2
      subst hu
      have hnL : (dig 10 n).length ≤ 200 := by rw [← txtN_len hn0]; exact hnl
      obtain ⟨L, hL⟩ : ∃ L, L = u.size := ⟨_, rfl⟩
      have hLL : L ≤ 200 := by rw [hL, HUL.out]; exact hnL
      rw [← hL] at HUL
      have hLb : L ≤ u.size := by omega
      have HLS := Lib.hid (show L = u.size from hL)
      clear hL hnL
      go_loopw [5, 6] (fun v i wr => ∃ k : Nat, k ≤ L ∧ i = .int .i64 ((L : Int) - 1 - k) ∧ wr.ownsRow w.heap.size 3 1 v k (((dig 10 n).take k).map fun d : Nat => Value.int .i64 (d : Int)) ∧ Below w.heap.size w wr) (fun _ i _ => (intOf i + 1).toNat)
      case atStart => exact ⟨0, Nat.zero_le _, congrArg _ (by have := HLS.out; omega), World.ownsRow_nil _ _ _ _, Below.refl _ _⟩
      case round =>
        obtain ⟨k, hk, rfl, hown, hb⟩ := hrel
        have hwr := hb.size
        have HO := Lib.hid hown
        have HB := Lib.hid hb
        clear hown hb
        by_cases hkl : k = L
        · subst hkl
          have hn : Ns wr u5 (dig 10 n) w.heap.size wr.heap.size := by
            have := Sl.of_owns HO.out
            rw [List.take_of_length_le (by rw [HUL.out]; exact Nat.le_refl _)] at this
            show Sl wr u5 (dig 10 n).length 1 _ _ _
            rw [← HUL.out]
            exact this
          have HNN := Lib.hid hn
          clear hn
          go_wp2
          go_ret2
          exact ⟨⟨_, rfl, HNN.out⟩, HB.out⟩
        · obtain ⟨ix, hix⟩ : ∃ ix, ix + k + 1 = L := ⟨L - 1 - k, by omega⟩
          rw [show (L : Int) - 1 - k = (ix : Int) from by omega]
          have hlt : ix < u.size := by omega
          have hkd : k < (dig 10 n).length := by rw [← HUL.out]; omega
          have hx9 := getD_dig_lt (B := 10) (by omega) n k
          have hch : (u[ix]'hlt).toNat = 48 + (dig 10 n)[k]?.getD 0 := by
            have h1 : (txtN n)[ix]? = some (u[ix]'hlt) := by rw [← HU.out]; exact at_data hlt
            have h2 := txtN_get hn0 hkd
            rw [show (dig 10 n).length - 1 - k = ix from by rw [← HUL.out]; omega, h1] at h2
            rw [Option.some.inj h2, dig_byte hx9]
          have hsn := take_snoc_getD hkd
          obtain ⟨d, hd⟩ : ∃ d, d = (dig 10 n)[k]?.getD 0 := ⟨_, rfl⟩
          rw [← hd] at hch hx9 hsn
          have HSN := Lib.hid hsn
          clear hsn hd hkd
          go_wp2_with (at_builtin; refine wpList_append_own _ rfl _ _ 44 rfl w.heap.size 3 i0 (.int .i64 0) 1 8 Tryz.underlying44 hi hz0 hz1 hz2 rfl (by decide) u5 k _ rfl (HO.out.alloc _) ⟨wr.heap.size, 0, none⟩ 1 1 [.int .i64 (48 + (d : Int) - 48)] rfl rfl (cell_one_new _ _ _) (by simp [Value.oneCell']) (by unfold maxLen; omega) (by omega) (by simp; omega) ?_; intro v' w3 hown' hgrow _)
          refine ⟨⟨k + 1, by omega, congrArg _ (by omega), ?_, (HB.out.alloc hwr _).grown hgrow (by simp; omega) (fun g e => (HO.out.lt g e).1)⟩, by simp only [intOf]; omega⟩
          rw [HSN.out, List.map_append]
          rw [show (48 + (d : Int) - 48) = (d : Int) from by omega] at hown'
          exact hown'
end Go.Proofs.YtiefodlhnpondaaGreatDoor
