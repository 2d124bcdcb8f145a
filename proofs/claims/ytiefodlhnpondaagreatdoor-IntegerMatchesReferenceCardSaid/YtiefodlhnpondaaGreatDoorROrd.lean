/-
  The reference implementation's order, plus and minus of two lists of digits.
-/
import Derived.Test.YtiefodlhnpondaaGreatDoorRPlain
import Derived.Test.YtiefodlhnpondaaGreatDoorRef
import Derived.Deep.QuietTactic
import Derived.BigQuiet
namespace Go.Proofs.YtiefodlhnpondaaGreatDoor
open Go.RowKit Go.Shelf
attribute [local go_sem] Oper.semAt_some

/-- A slice that reads as a number's decimal digits. -/
abbrev Nr (w : World) (v : Value) (n : Nat) (lo hi : Nat) : Prop := Ns w v (dig 10 n) lo hi
/-- So many digits are few. -/
def Few10 (n : Nat) : Prop := (dig 10 n).length ≤ 100000
theorem Nr.form {w : World} {v : Value} {n lo hi : Nat} (h : Nr w v n lo hi) : ∃ a cap, v = .slice a (dig 10 n).length cap := by obtain ⟨a, cap, e, _⟩ := h; exact ⟨a, cap, e⟩
theorem getD_at {l : List Nat} {i : Nat} (h : i < l.length) : l[i]'h = l[i]?.getD 0 := by rw [List.getElem?_eq_getElem h]; rfl

set_option maxRecDepth 100000 in
set_option maxHeartbeats 2000000 in
theorem rorder_any (v1 v2 : Value) (n m : Nat) (lo1 hi1 lo2 hi2 : Nat) (w : World) (h1 : Nr w v1 n lo1 hi1) (h2 : Nr w v2 m lo2 hi2) :
    Calls Tryz.prog 55 #[v1, v2] w fun e w' => e = .returned (.int .i64 (cmpI n m)) ∧ Still w w' := by
  obtain ⟨a1, cap1, rfl⟩ := Nr.form h1
  obtain ⟨a2, cap2, rfl⟩ := Nr.form h2
  have g1 := h1.len
  have g2 := h2.len
  unfold maxLen at g1 g2
  have H1 := Lib.hid h1
  have H2 := Lib.hid h2
  clear h1 h2
  by_cases hl : (dig 10 n).length = (dig 10 m).length
  · have HL := Lib.hid hl
    have hbn : (((dig 10 n).length : Int) != ((dig 10 m).length : Int)) = false := by rw [hl]; simp
    obtain ⟨L, hL⟩ : ∃ L, L = (dig 10 n).length := ⟨_, rfl⟩
    rw [← hL] at hl g1 hbn
    rw [← hl] at hbn g2
    rw [← hL, ← hl]
    have HLL := Lib.hid hL
    have HL2 := Lib.hid hl
    clear hL hl
    go_enter Tryz.func55, Tryz.ntmps55
    go_wp2
    go_loopw [5] (fun i wr => ∃ j q : Nat, j ≤ L ∧ i = .int .i64 ((L : Int) - 1 - j) ∧ (dig 10 n).drop (L - j) = (dig 10 m).drop (L - j) ∧ wr = w.drewN q) (fun i _ => (intOf i + 1).toNat)
    case atStart => exact ⟨0, 0, Nat.zero_le _, by go_num, by rw [List.drop_eq_nil_of_le (by rw [← HLL.out]; omega), List.drop_eq_nil_of_le (by rw [← HL2.out]; omega)], rfl⟩
    case round =>
      obtain ⟨j, q, hj, rfl, hd, rfl⟩ := hrel
      have HD := Lib.hid hd
      clear hd
      by_cases hjl : j = L
      · subst hjl
        go_wp2
        go_ret
        have e : n = m := by
          have := HD.out
          rw [Nat.sub_self, List.drop_zero, List.drop_zero] at this
          exact dig_inj (by omega) this
        exact ⟨ret_int (by rw [e]; simp [cmpI]), Still.drewN _ _⟩
      · obtain ⟨ix, hix⟩ : ∃ ix, ix + j + 1 = L := ⟨L - 1 - j, by omega⟩
        have hie : (L : Int) - 1 - j = (ix : Int) := by omega
        rw [hie]
        have hi1 : ix < (dig 10 n).length := by rw [← HLL.out]; omega
        have hi2 : ix < (dig 10 m).length := by rw [← HL2.out]; omega
        obtain ⟨b1, o1, rfl, _, _, hc1⟩ := H1.out.at (k := ix) hi1
        obtain ⟨b2, o2, rfl, _, _, hc2⟩ := H2.out.at (k := ix) hi2
        rw [getD_at hi1] at hc1
        rw [getD_at hi2] at hc2
        have hof := ord_first (B := 10) (n := n) (m := m) (i := ix) (by omega) HL.out hi1 (by have := HD.out; rwa [show L - j = ix + 1 from by omega] at this)
        have hds := fun he => drop_step HL.out hi1 (by have := HD.out; rwa [show L - j = ix + 1 from by omega] at this) (he : (dig 10 n)[ix]?.getD 0 = (dig 10 m)[ix]?.getD 0)
        have HOF := Lib.hid hof
        have HDS := Lib.hid hds
        clear hof hds hi1 hi2 hie
        generalize (dig 10 n)[ix]?.getD 0 = x at hc1 HOF HDS
        generalize (dig 10 m)[ix]?.getD 0 = y at hc2 HOF HDS
        have hix1 : ix < L := by omega
        rcases Nat.lt_trichotomy x y with hxy | hxy | hxy
        · have hne : ((x : Int) != (y : Int)) = true := by rw [bne_iff_ne]; omega
          have hlt : decide ((x : Int) < (y : Int)) = true := decide_eq_true (by omega)
          go_wp2_with fail
          go_quiet (fail)
          go_wp2_with fail
          go_quiet (fail)
          go_wp2
          go_ret
          exact ⟨ret_int (by rw [← HOF.out (by omega)]; unfold cmpI; rw [if_pos (by omega)]), ((Still.drewN _ _).trans (Still.drewN _ _)).trans (Still.drewN _ _)⟩
        · subst hxy
          have HDS2 := Lib.hid (HDS.out rfl)
          clear HDS
          have hne : ((x : Int) != (x : Int)) = false := by simp
          go_wp2_with fail
          go_quiet (fail)
          go_wp2
          refine ⟨⟨j + 1, _, by omega, ?_, ?_, rfl⟩, ?_⟩
          · exact congrArg _ (by omega)
          · rw [show L - (j + 1) = ix from by omega]; exact HDS2.out
          · simp only [intOf]; omega
        · have hne : ((x : Int) != (y : Int)) = true := by rw [bne_iff_ne]; omega
          have hlt : decide ((x : Int) < (y : Int)) = false := decide_eq_false (by omega)
          go_wp2_with fail
          go_quiet (fail)
          go_wp2_with fail
          go_quiet (fail)
          go_wp2
          go_ret
          exact ⟨ret_int (by rw [← HOF.out (by omega)]; unfold cmpI; rw [if_neg (by omega), if_pos (by omega)]), ((Still.drewN _ _).trans (Still.drewN _ _)).trans (Still.drewN _ _)⟩
  · rw [← cmp_length (by omega) hl]
    have hb : (((dig 10 n).length : Int) != ((dig 10 m).length : Int)) = true := by rw [bne_iff_ne]; omega
    rcases Nat.lt_or_gt_of_ne hl with h | h
    · have hlt : decide (((dig 10 n).length : Nat) < (dig 10 m).length) = true := decide_eq_true h
      go_enter Tryz.func55, Tryz.ntmps55
      go_wp2
      go_ret
      exact ⟨ret_int (by unfold cmpI; rw [if_pos (by omega)]), Still.refl _⟩
    · have hlt : decide (((dig 10 n).length : Nat) < (dig 10 m).length) = false := decide_eq_false (by omega)
      go_enter Tryz.func55, Tryz.ntmps55
      go_wp2
      go_ret
      exact ⟨ret_int (by unfold cmpI; rw [if_neg (by omega), if_pos (by omega)]), Still.refl _⟩
end Go.Proofs.YtiefodlhnpondaaGreatDoor
