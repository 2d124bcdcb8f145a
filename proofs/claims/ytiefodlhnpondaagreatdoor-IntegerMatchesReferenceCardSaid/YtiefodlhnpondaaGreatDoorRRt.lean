/-
  The reference implementation's Root.
-/
import Derived.Test.YtiefodlhnpondaaGreatDoorRDv
namespace Go.Proofs.YtiefodlhnpondaaGreatDoor
open Go.RowKit Go.Shelf
attribute [local go_sem] Oper.semAt_some

set_option maxRecDepth 100000 in
set_option maxHeartbeats 4000000 in
theorem rRoot_no (a : ByteArray) (w : World) (ha : a.size ≤ 9223372036854775807) (hn : validL a.data.toList = false) :
    Calls Tryz.prog 30 #[.string a] w fun e w' => e = .returned (.tuple #[.string ⟨#[]⟩, .int .i64 30]) ∧ w = w' := by
  have VA := Lib.hid (rvalid_is ha hn)
  clear hn
  go_enter Tryz.func30, Tryz.ntmps30
  go_wp2_with (go_at_call 33; with_reducible refine (VA.out _).mono ?_; rintro e w1 ⟨rfl, rfl⟩)
  go_ret2
  exact ⟨rfl, rfl⟩
theorem head_neg {a : ByteArray} {x : Int} (ea : a = str x) : ∃ h : 0 < a.size, ((a[0]'h).toNat == 45) = decide (x < 0) := by
  have hl : a.data.toList = txt x := by rw [ea, str_list]
  have hls := size_list a
  have hne : txt x ≠ [] := by
    unfold txt
    split
    · simp
    · exact txtN_ne _
  have h : 0 < a.size := by rw [← hls, hl]; exact List.length_pos_iff.2 hne
  refine ⟨h, ?_⟩
  have h0 := at_data h
  rw [hl] at h0
  by_cases hx : x < 0
  · have : txt x = 45 :: txtN x.natAbs := by unfold txt; rw [if_pos hx]
    rw [this] at h0
    simp only [List.getElem?_cons_zero, Option.some.injEq] at h0
    rw [← h0, decide_eq_true hx]
    rfl
  · have e : txt x = txtN x.natAbs := by unfold txt; rw [if_neg hx]
    rw [e] at h0
    have hd := txtN_digits x.natAbs _ (List.mem_of_getElem? h0)
    rw [decide_eq_false hx, beq_eq_false_iff_ne]
    omega

set_option maxRecDepth 100000 in
set_option maxHeartbeats 4000000 in
theorem rRoot_neg (a : ByteArray) (x : Int) (w : World) (ea : a = str x) (hx : small x = true) (hneg : x < 0) :
    Calls Tryz.prog 30 #[.string a] w fun e w' => e = .returned (.tuple #[.string ⟨#[]⟩, .int .i64 30]) ∧ w = w' := by
  obtain ⟨va, za⟩ := str_valid ea hx
  obtain ⟨h0, hh⟩ := head_neg ea
  rw [decide_eq_true hneg] at hh
  have hh2 : (((a[0]'h0).toNat : Int) == 45) = true := by rw [beq_iff_eq] at hh ⊢; omega
  have VA := Lib.hid (rvalid_is za va)
  clear va ea hx hneg hh
  go_enter Tryz.func30, Tryz.ntmps30
  go_wp2_with (go_at_call 33; with_reducible refine (VA.out _).mono ?_; rintro e w1 ⟨rfl, rfl⟩)
  go_ret2
  exact ⟨rfl, rfl⟩

/-- The number in a cell: for a loop's measure. -/
def cellNat (w : World) (a : Addr) : Nat := match w.cell? a with | some (.int _ z) => z.toNat | _ => 0
theorem cellNat_of {w : World} {a : Addr} {t : Nat} (h : w.cell? a = some (.int .i64 (t : Int))) : cellNat w a = t := by
  unfold cellNat
  rw [h]
  simp

set_option maxRecDepth 100000 in
set_option maxHeartbeats 8000000 in
theorem rRoot_ok (a : ByteArray) (x : Int) (w : World) (ea : a = str x) (hx : small x = true) (hneg : ¬ x < 0) :
    Calls Tryz.prog 30 #[.string a] w fun e w' => (∃ r : Nat, r * r ≤ x.natAbs ∧ x.natAbs < (r + 1) * (r + 1) ∧ e = .returned (.tuple #[.string (str (r : Int)), .int .i64 0])) ∧ Below w.heap.size w w' := by
  obtain ⟨va, za⟩ := str_valid ea hx
  obtain ⟨h0, hh⟩ := head_neg ea
  rw [decide_eq_false hneg] at hh
  have hh2 : (((a[0]'h0).toNat : Int) == 45) = false := by rw [beq_eq_false_iff_ne] at hh ⊢; omega
  have VA := Lib.hid (rvalid_is za va)
  have hda := fun W => rdigits_any a x W ea hx
  have hl := small_len hx
  have HSM : Hid (∀ r : Nat, r * r ≤ x.natAbs → small (r : Int) = true) := fun r hr => small_le hx (by
    rw [Int.natAbs_natCast]
    rcases Nat.eq_zero_or_pos r with h | h
    · omega
    · exact Nat.le_trans (Nat.le_mul_of_pos_left r h) hr)
  obtain ⟨n, hn⟩ : ∃ n, n = x.natAbs := ⟨_, rfl⟩
  rw [← hn] at hda hl HSM
  have HNX := Lib.hid hn
  have HDA := Lib.hid hda
  obtain ⟨la, hla⟩ : ∃ la, la = (dig 10 n).length := ⟨_, rfl⟩
  rw [← hla] at hl
  have HLA := Lib.hid hla
  obtain ⟨L, hLL⟩ : ∃ L, L = (la + 1) / 2 := ⟨_, rfl⟩
  have hmk : ∀ X : World, (Instr.makeSlice 44 (.int .i64 (((la : Int) + 1) / 2)) (.int .i64 (((la : Int) + 1) / 2))).run Tryz.prog X = .ok (.slice (some ⟨X.heap.size, 0, none⟩) L L) (X.alloc (.cells (zeros L) 3)) := fun X => by
    rw [← run_zeros L (by omega) X, show ((la : Int) + 1) / 2 = (L : Int) from by omega]
  have HLL := Lib.hid hLL
  have hL1 : L ≤ 200 := by omega
  clear hda va ea hx hneg hh hla hLL hn
  go_enter Tryz.func30, Tryz.ntmps30
  go_wp2_with (first
    | (go_at_call 33; with_reducible refine (VA.out _).mono ?_; rintro e w1 ⟨rfl, rfl⟩)
    | (go_at_call 48; with_reducible refine (HDA.out _).mono ?_; rintro e w1 ⟨⟨v1, rfl, hv1⟩, hb1⟩; obtain ⟨a1, c1, rfl⟩ : ∃ a c, v1 = .slice a la c := (by obtain ⟨a, c, e⟩ := Nr.form hv1; rw [← HLA.out] at e; exact ⟨a, c, e⟩); have HV1 := Lib.hid hv1; have HB1 := Lib.hid hb1; clear hv1 hb1))
  obtain ⟨N, hN⟩ : ∃ N, N = w1.heap.size := ⟨_, rfl⟩
  obtain ⟨W0, hW0⟩ : ∃ W0, w1.alloc (.cells (zeros L) 3) = W0 := ⟨_, rfl⟩
  have hoz := owns_zeros w1 L (by omega)
  have hbz : Below N w1 W0 := by rw [← hW0, hN]; exact (Below.refl _ _).alloc (Nat.le_refl _) _
  rw [hW0, ← hN] at hoz
  rw [hW0]
  rw [← hN]
  have hNw : N ≤ w1.heap.size := by omega
  have HOZ := Lib.hid hoz
  have HBZ := Lib.hid hbz
  have HN := Lib.hid hN
  clear hoz hbz hW0 hmk hN
  have hV0 : Nr w1 (.slice a1 la c1) n w.heap.size N := by rw [HN.out]; exact HV1.out
  have HV0 := Lib.hid hV0
  clear hV0
  go_loopw [7] (fun i wr => ∃ (j : Nat) (os : List Nat), j ≤ L ∧ i = .int .i64 ((j : Int) - 1) ∧ RootAt n j os ∧ wr.ownsRow N 3 1 (.slice (some ⟨N, 0, none⟩) L L) L (os.map fun d : Nat => Value.int .i64 (d : Int)) ∧ Below N w1 wr) (fun i _ => (intOf i + 1).toNat)
  case atStart => exact ⟨L, List.replicate L 0, Nat.le_refl _, rfl, by rw [HLL.out, HLA.out]; exact RootAt.start n, HOZ.out, HBZ.out⟩
  case round =>
    obtain ⟨j, os, hjl, rfl, hf, hown, hb⟩ := hrel
    have hNs : N < wr.heap.size := (hown.lt N rfl).2
    have hol : os.length = L := by rw [hf.len, ← HLA.out, HLL.out]
    by_cases hj0 : j = 0
    · subst hj0
      obtain ⟨r, ht, hr1, hr2⟩ := hf.done
      have hn : Ns wr (.slice (some ⟨N, 0, none⟩) L L) os N wr.heap.size := Sl.of_owns (by rw [hol]; exact hown)
      have hrl : (dig 10 r).length ≤ 1000000 := by
        have h1 : r ≤ n := by
          rcases Nat.eq_zero_or_pos r with h | h
          · omega
          · exact Nat.le_trans (Nat.le_mul_of_pos_left r h) hr1
        have := dig_length_mono (B := 10) (by omega) h1
        have := HLA.out
        omega
      have hsm := HSM.out r hr1
      have HNS := Lib.hid hn
      have HT := Lib.hid ht
      have HSR := Lib.hid hsm
      have HR1 := Lib.hid hr1
      have HR2 := Lib.hid hr2
      have HB := Lib.hid hb
      obtain ⟨sr, hsr⟩ : ∃ s, s = str (r : Int) := ⟨_, rfl⟩
      have HS := Lib.hid hsr
      clear hn ht hsm hr1 hr2 hb hf hown hsr
      go_wp2_with (first
        | (go_at_call 37; with_reducible refine (rtrim_any _ os N wr.heap.size _ HNS.out).mono ?_; rintro e w2 ⟨⟨v', rfl, hv⟩, rfl⟩; have HV := Lib.hid (show Nr wr v' r N wr.heap.size by show Ns wr v' (dig 10 r) _ _; rw [← HT.out]; exact hv); clear hv)
        | (go_at_call 50; refine (rchecked_small false v' r (r : Int) N wr.heap.size wr HV.out (Nat.le_refl _) hrl rfl HSR.out HS.out).mono ?_; rintro e w3 ⟨rfl, hb3⟩; have HB3 := Lib.hid hb3; clear hb3))
      go_ret2
      have hsz := HB1.out.size
      have hbw : Below w.heap.size w wr := HB1.out.trans (HB.out.mono (by rw [HN.out]; exact hsz))
      exact ⟨⟨r, by rw [← HNX.out]; exact HR1.out, by rw [← HNX.out]; exact HR2.out, by rw [HS.out]; rfl⟩, hbw.trans (HB3.out.mono hbw.size)⟩
    · obtain ⟨ix, rfl⟩ : ∃ ix, j = ix + 1 := ⟨j - 1, by omega⟩
      rw [show ((ix + 1 : Nat) : Int) - 1 = (ix : Int) from by omega]
      have hc1 := owns_cell hown hol (j := ix) (by omega)
      have hfr := hown.frozenAt ix
      have HIN := Lib.hid (hf.enter (by omega))
      have HO := Lib.hid hown
      have HB := Lib.hid hb
      have hixl : ix < L := by omega
      clear hf hown hb hol
      obtain ⟨wo, rfl⟩ : ∃ wo : World, wo = wr := ⟨_, rfl⟩
      go_wp2
      go_loopw [] (fun wr => ∃ (t : Nat) (os : List Nat), RootIn n ix t os ∧ wr.ownsRow N 3 1 (.slice (some ⟨N, 0, none⟩) L L) L (os.map fun d : Nat => Value.int .i64 (d : Int)) ∧ Below N w1 wr) (fun wr => cellNat wr ⟨N, ix, none⟩)
      case atStart => exact ⟨9, _, HIN.out, owns_set HO.out rfl, HB.out.setCell (Nat.le_refl _) _⟩
      case round =>
        obtain ⟨t, os2, hf, hown, hb⟩ := hrel
        have hNs2 : N < wr.heap.size := (hown.lt N rfl).2
        have hol : os2.length = L := by rw [hf.len, ← HLA.out, HLL.out]
        have hc2 := owns_cell hown hol hixl
        rw [hf.cur] at hc2
        have hfr2 := hown.frozenAt ix
        have HF := Lib.hid hf
        have HO2 := Lib.hid hown
        have HB2 := Lib.hid hb
        rcases Nat.eq_zero_or_pos t with ht0 | ht0
        · subst ht0
          have HLV := Lib.hid (hf.leave (.inl rfl))
          clear hf hown hb hol
          go_wp2
          exact ⟨⟨ix, os2, by omega, rfl, HLV.out, HO2.out, HB2.out⟩, by simp only [intOf]; omega⟩
        · have hn : Ns wr (.slice (some ⟨N, 0, none⟩) L L) os2 N wr.heap.size := Sl.of_owns (by rw [hol]; exact hown)
          obtain ⟨V, hV⟩ : ∃ V, V = val 10 os2 := ⟨_, rfl⟩
          have htr : trim os2 = dig 10 V := by rw [hV]; exact trim_dig (by omega) os2 hf.dlt
          have hVl : (dig 10 V).length ≤ 200 := by
            have := val_lt (B := 10) (by omega) os2 hf.dlt
            rw [hol, ← hV] at this
            have := (dig_length_le (B := 10) (by omega) V L).2 this
            omega
          have hVV := mul_len hVl hVl
          have htm : ∀ W, Below wr.heap.size wr W → Calls Tryz.prog 56 #[.slice (some ⟨N, 0, none⟩) L L] W fun e w' => ∃ v, e = .returned v ∧ Nr w' v V W.heap.size w'.heap.size ∧ Below W.heap.size W w' ∧ Below wr.heap.size wr w' := fun W hW => by
            refine (rtrimmed_any _ os2 N wr.heap.size W (hn.below hW (Nat.le_refl _)) hW.size (by omega)).mono ?_
            rintro e w' ⟨⟨v, rfl, hv⟩, hb'⟩
            rw [htr] at hv
            exact ⟨v, rfl, hv, hb', hW.trans (hb'.mono hW.size)⟩
          have hl2 : ∀ W, Below wr.heap.size wr W → Nr W (.slice a1 la c1) n w.heap.size N := fun W hW => (HV0.out.below HB2.out (Nat.le_refl _)).below hW (by omega)
          have hcell : ∀ w2, Below wr.heap.size wr w2 → w2.cell? ⟨N, ix, none⟩ = some (.int .i64 (t : Int)) ∧ w2.frozen? ⟨N, ix, none⟩ = false := fun w2 hw2 => by
            have ho := rowns_below hown hw2
            have := owns_cell ho hol hixl
            rw [hf.cur] at this
            exact ⟨this, ho.frozenAt _⟩
          have HTM := Lib.hid htm
          have HL2 := Lib.hid hl2
          have HCELL := Lib.hid hcell
          have HVX := Lib.hid hV
          have f1 : Few10 V := by unfold Few10; omega
          clear htm hl2 hcell hn htr hV hown hb
          obtain ⟨P, hP⟩ : ∃ P, P = V * V := ⟨_, rfl⟩
          have HPX := Lib.hid hP
          have ht9 : t < 10 := by
            have h1 := hf.cur
            rw [List.getElem?_eq_getElem (by omega)] at h1
            have h2 := hf.dlt _ (List.getElem_mem (show ix < os2.length by omega))
            simp only [Option.getD_some] at h1
            omega
          clear hP
          by_cases hgt : n < P
          · have hd : decide (0 < cmpI (P : Int) (n : Int)) = true := decide_eq_true (by unfold cmpI; rw [if_neg (by omega), if_pos (by omega)]; omega)
            obtain ⟨t1, rfl⟩ : ∃ t1, t = t1 + 1 := ⟨t - 1, by omega⟩
            have HST := Lib.hid (hf.step (by omega) (by rw [← HVX.out, ← HPX.out]; exact hgt))
            clear hf hol
            go_wp2_with (first
              | (go_at_call 56; with_reducible refine (HTM.out _ (Below.refl _ _)).mono ?_; rintro e w3 ⟨v3, rfl, hv3, hb3, hB3⟩; have HV3 := Lib.hid hv3; have HX3 := Lib.hid hB3; clear hv3 hb3 hB3)
              | (go_at_call 56; with_reducible refine (HTM.out _ HX3.out).mono ?_; rintro e w4 ⟨v4, rfl, hv4, hb4, hB4⟩; have HV4 := Lib.hid hv4; have HV3b := Lib.hid (HV3.out.below hb4 (Nat.le_refl _)); have HS4 := Lib.hid hb4.size; have HX4 := Lib.hid hB4; clear hv4 hb4 hB4)
              | (go_at_call 51; refine (rtimes_any v3 v4 V V _ _ _ _ w4 HV3b.out HV4.out HS4.out (Nat.le_refl _) f1 f1).mono ?_; rintro e w5 ⟨⟨v5, rfl, hv5⟩, hb5⟩; rw [← HPX.out] at hv5; have HV5 := Lib.hid hv5; have HX5 := Lib.hid (HX4.out.trans (hb5.mono HX4.out.size)); clear hv5 hb5)
              | (go_at_call 55; refine (rorder_any v5 _ P n _ _ _ _ w5 HV5.out (HL2.out _ HX5.out)).mono ?_; rintro e w6 ⟨rfl, hs6⟩; have HX6 := Lib.hid (HX5.out.trans (hs6.below _)); obtain ⟨hq1, hq2⟩ := HCELL.out _ HX6.out; clear hs6))
            have hx6 := HX6.out
            have hown6 := rowns_below HO2.out hx6
            refine ⟨⟨t1, _, HST.out, owns_set hown6 (by omega), (HB2.out.trans (hx6.mono (Nat.le_of_lt hNs2))).setCell (Nat.le_refl _) _⟩, ?_⟩
            rw [cellNat_of (t := t1) (by rw [World.cell?_setCell_same _ _ _ hq1]), cellNat_of hc2]
            omega
          · have hd : decide (0 < cmpI (P : Int) (n : Int)) = false := decide_eq_false (by unfold cmpI; split; omega; rw [if_neg (by omega)]; omega)
            have HLV := Lib.hid (hf.leave (.inr (by rw [← HVX.out, ← HPX.out]; omega)))
            clear hf hol
            go_wp2_with (first
              | (go_at_call 56; with_reducible refine (HTM.out _ (Below.refl _ _)).mono ?_; rintro e w3 ⟨v3, rfl, hv3, hb3, hB3⟩; have HV3 := Lib.hid hv3; have HX3 := Lib.hid hB3; clear hv3 hb3 hB3)
              | (go_at_call 56; with_reducible refine (HTM.out _ HX3.out).mono ?_; rintro e w4 ⟨v4, rfl, hv4, hb4, hB4⟩; have HV4 := Lib.hid hv4; have HV3b := Lib.hid (HV3.out.below hb4 (Nat.le_refl _)); have HS4 := Lib.hid hb4.size; have HX4 := Lib.hid hB4; clear hv4 hb4 hB4)
              | (go_at_call 51; refine (rtimes_any v3 v4 V V _ _ _ _ w4 HV3b.out HV4.out HS4.out (Nat.le_refl _) f1 f1).mono ?_; rintro e w5 ⟨⟨v5, rfl, hv5⟩, hb5⟩; rw [← HPX.out] at hv5; have HV5 := Lib.hid hv5; have HX5 := Lib.hid (HX4.out.trans (hb5.mono HX4.out.size)); clear hv5 hb5)
              | (go_at_call 55; refine (rorder_any v5 _ P n _ _ _ _ w5 HV5.out (HL2.out _ HX5.out)).mono ?_; rintro e w6 ⟨rfl, hs6⟩; have HX6 := Lib.hid (HX5.out.trans (hs6.below _)); clear hs6))
            have hx6 := HX6.out
            exact ⟨⟨ix, os2, by omega, rfl, HLV.out, rowns_below HO2.out hx6, HB2.out.trans (hx6.mono (Nat.le_of_lt hNs2))⟩, by simp only [intOf]; omega⟩
end Go.Proofs.YtiefodlhnpondaaGreatDoor
