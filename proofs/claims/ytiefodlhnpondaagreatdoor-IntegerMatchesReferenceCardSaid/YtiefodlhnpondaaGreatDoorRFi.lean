/-
  The reference implementation's FromInt.
-/
import Derived.Test.YtiefodlhnpondaaGreatDoorRRt
namespace Go.Proofs.YtiefodlhnpondaaGreatDoor
open Go.RowKit Go.Shelf
attribute [local go_sem] Oper.semAt_some

theorem rtext_neg (v : Value) (n : Nat) (z : Int) (lo top : Nat) (w : World) (h : Nr w v n lo top) (b : top ≤ w.heap.size) (hl : (dig 10 n).length ≤ 1000000) (hz : z = if true = true then -(n : Int) else n) {sz : ByteArray} (es : sz = str z) :
    Calls Tryz.prog 36 #[.bool true, v] w fun e w' => (∃ c, e = .returned (.tuple #[.string sz, .bool c])) ∧ Below w.heap.size w w' := by
  refine (rtext_dig true v n lo top w h b hl).mono ?_
  rintro e w' ⟨⟨s, h1, rfl⟩, hb⟩
  rw [← hz, ← es] at h1
  rw [h1]
  exact ⟨⟨_, rfl⟩, hb⟩
theorem dig19 {N : Nat} (h : N < 10000000000000000000) : (dig 10 N).length ≤ 19 := by
  have e : (10 : Nat) ^ 19 = 10000000000000000000 := by decide
  exact (dig_length_le (by omega) _ _).2 (by omega)

set_option maxRecDepth 100000 in
set_option maxHeartbeats 8000000 in
theorem rFromInt_pos (n : Int) (w : World) (h0 : 0 ≤ n) (h1 : n ≤ 9223372036854775807) :
    Calls Tryz.prog 24 #[.int .i64 n] w fun e w' => e = .returned (.string (str n)) ∧ Below w.heap.size w w' := by
  obtain ⟨i0, hi, hz0, hz1, hz2⟩ := info_parts A_info3
  obtain ⟨N, hN⟩ : ∃ N : Nat, n = (N : Int) := ⟨n.toNat, by omega⟩
  subst hN
  have hNl : (dig 10 N).length ≤ 19 := dig19 (by omega)
  obtain ⟨s, hs⟩ : ∃ s, s = str (N : Int) := ⟨_, rfl⟩
  rw [← hs]
  have HS := Lib.hid hs
  have hd : decide ((N : Int) < 0) = false := decide_eq_false (by omega)
  clear hs
  go_enter Tryz.func24, Tryz.ntmps24
  go_wp2
  go_loopw [3, 4] (fun v m wr => ∃ (M : Nat) (ds : List Nat), M ≤ N ∧ m = .int .i64 (M : Int) ∧ dig 10 N = ds ++ dig 10 M ∧ wr.ownsRow w.heap.size 3 1 v ds.length (ds.map fun d : Nat => Value.int .i64 (d : Int)) ∧ Below w.heap.size w wr) (fun _ m _ => (intOf m).natAbs)
  case atStart => exact ⟨N, [], Nat.le_refl _, rfl, rfl, World.ownsRow_nil _ _ _ _, Below.refl _ _⟩
  case round =>
    obtain ⟨M, ds, hM, rfl, he, hown, hb⟩ := hrel
    have hwr := hb.size
    have hdl : ds.length ≤ 19 := by
      have := congrArg List.length he
      rw [List.length_append] at this
      omega
    obtain ⟨k, hk⟩ : ∃ k, k = ds.length := ⟨_, rfl⟩
    rw [← hk] at hown hdl
    have HK := Lib.hid hk
    have HE := Lib.hid he
    have HO := Lib.hid hown
    have HB := Lib.hid hb
    clear hk he hown hb
    rcases Nat.eq_zero_or_pos M with hm | hm
    · subst hm
      have hds : ds = dig 10 N := by have := HE.out; rw [dig_zero, List.append_nil] at this; exact this.symm
      have hn : Nr wr u3 N w.heap.size wr.heap.size := by
        have := Sl.of_owns HO.out
        rw [hds] at this
        show Sl wr u3 (dig 10 N).length 1 _ _ _
        rw [← hds, ← HK.out]
        rw [← hds] at this
        exact this
      have HN := Lib.hid hn
      clear hn hds
      go_wp2_with (go_at_call 36; with_reducible refine (rtext_pos u3 N (N : Int) _ _ wr HN.out (Nat.le_refl _) (by omega) rfl HS.out).mono ?_; rintro e w2 ⟨⟨c, rfl⟩, hb2⟩)
      go_ret
      exact ⟨rfl, HB.out.trans (hb2.mono HB.out.size)⟩
    · have hdp := dig_pos (B := 10) (by omega) hm
      have HD := Lib.hid hdp
      have hne : ((M : Int) != 0) = true := by rw [bne_iff_ne]; omega
      clear hdp
      go_wp2_with (at_builtin; refine wpList_append_own _ rfl _ _ 44 rfl w.heap.size 3 i0 (.int .i64 0) 1 8 Tryz.underlying44 hi hz0 hz1 hz2 rfl (by decide) u3 k _ rfl (HO.out.alloc _) ⟨wr.heap.size, 0, none⟩ 1 1 [.int .i64 ((M : Int) % 10)] rfl rfl (cell_one_new _ _ _) (by simp [Value.oneCell']) (by unfold maxLen; omega) (by omega) (by simp; omega) ?_; intro v' w3 hown' hgrow _)
      refine ⟨⟨M / 10, ds ++ [M % 10], by omega, congrArg _ (by omega), by rw [HE.out, HD.out]; simp, own_snoc_nat (d := (M : Int) % 10) (x := M % 10) (by omega) (by rw [← HK.out]; exact hown'), (HB.out.alloc hwr _).grown hgrow (by simp; omega) (fun g e => (HO.out.lt g e).1)⟩, ?_⟩
      simp only [intOf]; omega

set_option maxRecDepth 100000 in
set_option maxHeartbeats 8000000 in
theorem rFromInt_neg (n : Int) (w : World) (h0 : n < 0) (h1 : -9223372036854775808 ≤ n) :
    Calls Tryz.prog 24 #[.int .i64 n] w fun e w' => e = .returned (.string (str n)) ∧ Below w.heap.size w w' := by
  obtain ⟨i0, hi, hz0, hz1, hz2⟩ := info_parts A_info3
  obtain ⟨N, hN⟩ : ∃ N : Nat, n = -(N : Int) := ⟨n.natAbs, by omega⟩
  subst hN
  have hN63 : N ≤ 9223372036854775808 := by omega
  have hNl : (dig 10 N).length ≤ 19 := dig19 (by omega)
  obtain ⟨s, hs⟩ : ∃ s, s = str (-(N : Int)) := ⟨_, rfl⟩
  rw [← hs]
  have HS := Lib.hid hs
  have hN0 : 0 < N := by omega
  clear hs
  go_enter Tryz.func24, Tryz.ntmps24
  go_wp2
  go_loopw [3, 4] (fun v m wr => ∃ (M : Nat) (ds : List Nat), M ≤ N ∧ m = .int .i64 (-(M : Int)) ∧ dig 10 N = ds ++ dig 10 M ∧ wr.ownsRow w.heap.size 3 1 v ds.length (ds.map fun d : Nat => Value.int .i64 (d : Int)) ∧ Below w.heap.size w wr) (fun _ m _ => (intOf m).natAbs)
  case atStart => exact ⟨N, [], Nat.le_refl _, rfl, rfl, World.ownsRow_nil _ _ _ _, Below.refl _ _⟩
  case round =>
    obtain ⟨M, ds, hM, rfl, he, hown, hb⟩ := hrel
    have hwr := hb.size
    have hdl : ds.length ≤ 19 := by
      have := congrArg List.length he
      rw [List.length_append] at this
      omega
    obtain ⟨k, hk⟩ : ∃ k, k = ds.length := ⟨_, rfl⟩
    rw [← hk] at hown hdl
    have HK := Lib.hid hk
    have HE := Lib.hid he
    have HO := Lib.hid hown
    have HB := Lib.hid hb
    clear hk he hown hb
    rcases Nat.eq_zero_or_pos M with hm | hm
    · subst hm
      have hds : ds = dig 10 N := by have := HE.out; rw [dig_zero, List.append_nil] at this; exact this.symm
      have hn : Nr wr u3 N w.heap.size wr.heap.size := by
        have := Sl.of_owns HO.out
        rw [hds] at this
        show Sl wr u3 (dig 10 N).length 1 _ _ _
        rw [← hds, ← HK.out]
        rw [← hds] at this
        exact this
      have HN := Lib.hid hn
      clear hn hds
      go_wp2_with (go_at_call 36; with_reducible refine (rtext_neg u3 N (-(N : Int)) _ _ wr HN.out (Nat.le_refl _) (by omega) rfl HS.out).mono ?_; rintro e w2 ⟨⟨c, rfl⟩, hb2⟩)
      go_ret
      exact ⟨rfl, HB.out.trans (hb2.mono HB.out.size)⟩
    · have hdp := dig_pos (B := 10) (by omega) hm
      have HD := Lib.hid hdp
      have hne : (-(M : Int) != 0) = true := by rw [bne_iff_ne]; omega
      clear hdp
      obtain ⟨D, hD⟩ : ∃ D, M % 10 = D := ⟨_, rfl⟩
      have HDD := Lib.hid hD
      have hD9 : D < 10 := by omega
      clear hD
      rcases Nat.eq_zero_or_pos D with hmz | hmz
      · subst hmz
        have hmi : (M : Int) % 10 = 0 := by have := HDD.out; omega
        go_wp2_with (at_builtin; refine wpList_append_own _ rfl _ _ 44 rfl w.heap.size 3 i0 (.int .i64 0) 1 8 Tryz.underlying44 hi hz0 hz1 hz2 rfl (by decide) u3 k _ rfl (HO.out.alloc _) ⟨wr.heap.size, 0, none⟩ 1 1 [.int .i64 (0)] rfl rfl (cell_one_new _ _ _) (by simp [Value.oneCell']) (by unfold maxLen; omega) (by omega) (by simp; omega) ?_; intro v' w3 hown' hgrow _)
        refine ⟨⟨M / 10, ds ++ [0], by omega, congrArg _ (by omega), by rw [HE.out, HD.out, HDD.out]; simp, own_snoc_nat (d := 0) (x := 0) (by omega) (by rw [← HK.out]; exact hown'), (HB.out.alloc hwr _).grown hgrow (by simp; omega) (fun g e => (HO.out.lt g e).1)⟩, by simp only [intOf]; omega⟩
      · have hmi : (M : Int) % 10 = (D : Int) := by have := HDD.out; omega
        go_wp2_with (at_builtin; refine wpList_append_own _ rfl _ _ 44 rfl w.heap.size 3 i0 (.int .i64 0) 1 8 Tryz.underlying44 hi hz0 hz1 hz2 rfl (by decide) u3 k _ rfl (HO.out.alloc _) ⟨wr.heap.size, 0, none⟩ 1 1 [.int .i64 ((D : Int))] rfl rfl (cell_one_new _ _ _) (by simp [Value.oneCell']) (by unfold maxLen; omega) (by omega) (by simp; omega) ?_; intro v' w3 hown' hgrow _)
        refine ⟨⟨M / 10, ds ++ [D], by omega, congrArg _ (by omega), by rw [HE.out, HD.out, HDD.out]; simp, own_snoc_nat (d := (D : Int)) (x := D) (by omega) (by rw [← HK.out]; exact hown'), (HB.out.alloc hwr _).grown hgrow (by simp; omega) (fun g e => (HO.out.lt g e).1)⟩, by simp only [intOf]; omega⟩

theorem rFromInt_any (n : Int) (w : World) (h0 : -9223372036854775808 ≤ n) (h1 : n ≤ 9223372036854775807) :
    Calls Tryz.prog 24 #[.int .i64 n] w fun e w' => e = .returned (.string (str n)) ∧ Below w.heap.size w w' := by
  by_cases h : n < 0
  · exact rFromInt_neg n w h h0
  · exact rFromInt_pos n w (by omega) h1
end Go.Proofs.YtiefodlhnpondaaGreatDoor
