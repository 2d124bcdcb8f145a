/-
  The reference implementation's product of two lists of digits.
-/
import Derived.Test.YtiefodlhnpondaaGreatDoorRSum
import Derived.Test.YtiefodlhnpondaaGreatDoorOver2
namespace Go.Proofs.YtiefodlhnpondaaGreatDoor
open Go.RowKit Go.Shelf
attribute [local go_sem] Oper.semAt_some

theorem owns_zeros (w : World) (L : Nat) (hL : L ≤ 1000000) : (w.alloc (.cells (zeros L) 3)).ownsRow w.heap.size 3 1 (.slice (some ⟨w.heap.size, 0, none⟩) L L) L ((List.replicate L 0).map fun n : Nat => Value.int .i64 (n : Int)) := by
  rw [← zeros_list]
  exact World.ownsRow_lit w (zeros L) L (Nat.le_refl _) (by unfold maxLen; omega) (by simp [zeros_size])
theorem owns_set {w : World} {B g L j x : Nat} {os : List Nat} (h : w.ownsRow B 3 1 (.slice (some ⟨g, 0, none⟩) L L) L (os.map fun n : Nat => Value.int .i64 (n : Int))) {d : Int} (hd : d = (x : Int)) :
    (w.setCell ⟨g, j, none⟩ (.int .i64 d)).ownsRow B 3 1 (.slice (some ⟨g, 0, none⟩) L L) L ((os.set j x).map fun n : Nat => Value.int .i64 (n : Int)) := by
  subst hd
  rw [List.map_set]
  exact (h.stored j _).1
theorem owns_cell {w : World} {B g L j : Nat} {os : List Nat} (h : w.ownsRow B 3 1 (.slice (some ⟨g, 0, none⟩) L L) L (os.map fun n : Nat => Value.int .i64 (n : Int))) (hl : os.length = L) (hj : j < L) : w.cell? ⟨g, j, none⟩ = some (.int .i64 ((os[j]?.getD 0 : Nat) : Int)) := by
  rw [h.cellAt j (by omega)]
  simp [hl, hj]
theorem run_zeros (k : Nat) (hk : k ≤ 1000000) (X : World) : (Instr.makeSlice 44 (.int .i64 (k : Int)) (.int .i64 (k : Int))).run Tryz.prog X = .ok (.slice (some ⟨X.heap.size, 0, none⟩) k k) (X.alloc (.cells (zeros k) 3)) := by
  obtain ⟨i0, hi, hz0, hz1, hz2⟩ := info_parts A_info3
  have hr := run_make (P := Tryz.prog) X 44 3 i0 (.int .i64 0) Tryz.underlying44 hi hz0 .i64 .i64 (k : Int) (k : Int) (by omega) (Int.le_refl _) (by rw [hz2]; omega) (by omega)
  rw [hr, hz1]
  simp [zeros, Value.cells]

set_option maxRecDepth 100000 in
set_option maxHeartbeats 4000000 in
theorem rtimes_any (v1 v2 : Value) (n m : Nat) (lo1 hi1 lo2 hi2 : Nat) (w : World) (h1 : Nr w v1 n lo1 hi1) (h2 : Nr w v2 m lo2 hi2) (b1 : hi1 ≤ w.heap.size) (b2 : hi2 ≤ w.heap.size) (l1 : Few10 n) (l2 : Few10 m) :
    Calls Tryz.prog 51 #[v1, v2] w fun e w' => (∃ v, e = .returned v ∧ Nr w' v (n * m) w.heap.size w'.heap.size) ∧ Below w.heap.size w w' := by
  obtain ⟨a1, cap1, rfl⟩ := Nr.form h1
  obtain ⟨a2, cap2, rfl⟩ := Nr.form h2
  have H1 := Lib.hid h1
  have H2 := Lib.hid h2
  unfold Few10 at l1 l2
  clear h1 h2
  obtain ⟨la, hla⟩ : ∃ la, la = (dig 10 n).length := ⟨_, rfl⟩
  obtain ⟨lb, hlb⟩ : ∃ lb, lb = (dig 10 m).length := ⟨_, rfl⟩
  obtain ⟨L, hLL⟩ : ∃ L, L = la + lb := ⟨_, rfl⟩
  rw [← hla] at l1 ⊢
  rw [← hlb] at l2 ⊢
  have HLA := Lib.hid hla
  have HLB := Lib.hid hlb
  have hL1 : L ≤ 200000 := by omega
  have hmk : ∀ X : World, (Instr.makeSlice 44 (.int .i64 ((la : Int) + (lb : Int))) (.int .i64 ((la : Int) + (lb : Int)))).run Tryz.prog X = .ok (.slice (some ⟨X.heap.size, 0, none⟩) L L) (X.alloc (.cells (zeros L) 3)) := fun X => by
    rw [← run_zeros L (by omega) X, show (la : Int) + (lb : Int) = (L : Int) from by omega]
  have HL := Lib.hid hLL
  have hLi : la + lb ≤ L := by omega
  clear hla hlb hLL
  go_enter Tryz.func51, Tryz.ntmps51
  go_wp2
  obtain ⟨N, hN⟩ : ∃ N, N = w.heap.size := ⟨_, rfl⟩
  obtain ⟨W0, hW0⟩ : ∃ W0, w.alloc (.cells (zeros L) 3) = W0 := ⟨_, rfl⟩
  have hoz := owns_zeros w L (by omega)
  have hbz : Below N w W0 := by rw [← hW0, hN]; exact (Below.refl _ _).alloc (Nat.le_refl _) _
  rw [hW0, ← hN] at hoz
  rw [hW0]
  rw [← hN] at b1 b2 ⊢
  have HOZ := Lib.hid hoz
  have HBZ := Lib.hid hbz
  have hNw : N ≤ w.heap.size := by omega
  have HN := Lib.hid hN
  clear hoz hbz hW0 hmk hN
  go_loopw [6] (fun i wr => ∃ (k : Nat) (os : List Nat), k ≤ la ∧ i = .int .i64 (k : Int) ∧ TimesAt n m k 0 os 0 ∧ wr.ownsRow N 3 1 (.slice (some ⟨N, 0, none⟩) L L) L (os.map fun d : Nat => Value.int .i64 (d : Int)) ∧ Below N w wr) (fun i _ => la - (intOf i).toNat)
  case atStart => exact ⟨0, _, Nat.zero_le _, rfl, TimesAt.start n m, by rw [← HLA.out, ← HLB.out, ← HL.out]; exact HOZ.out, HBZ.out⟩
  case round =>
    obtain ⟨i, os, hil, rfl, hf, hown, hb⟩ := hrel
    have HF := Lib.hid hf
    have HO := Lib.hid hown
    have HB := Lib.hid hb
    have hol : os.length = L := by rw [hf.len, ← HLA.out, ← HLB.out, HL.out]
    have HOL := Lib.hid hol
    clear hf hown hb hol
    by_cases hia : i < la
    · have da : decide (i < la) = true := decide_eq_true hia
      obtain ⟨wo, rfl⟩ : ∃ wo : World, wo = wr := ⟨_, rfl⟩
      go_wp2
      go_loopw [7, 8] (fun c k wr => ∃ (kk cc : Nat) (os : List Nat), k = .int .i64 (kk : Int) ∧ c = .int .i64 (cc : Int) ∧ TimesAt n m i kk os cc ∧ wr.ownsRow N 3 1 (.slice (some ⟨N, 0, none⟩) L L) L (os.map fun d : Nat => Value.int .i64 (d : Int)) ∧ Below N w wr) (fun _ k _ => lb + 1 - (intOf k).toNat)
      case atStart => exact ⟨0, 0, os, rfl, rfl, HF.out, HO.out, HB.out⟩
      case round =>
        obtain ⟨k, cc, os2, rfl, rfl, hf, hown, hb⟩ := hrel
        have hcc := hf.chi
        have hkl : k ≤ lb + 1 := by
          have := HLB.out
          rcases hf.far with h | h <;> omega
        have hol : os2.length = L := by rw [hf.len, ← HLA.out, ← HLB.out, HL.out]
        have HF2 := Lib.hid hf
        have HO2 := Lib.hid hown
        have HOL2 := Lib.hid hol
        have hfr := hown.frozenAt (i + k)
        by_cases hgo : k < lb ∨ 0 < cc
        · have hst := fun s hs => hf.step (by rw [← HLA.out]; omega) (by rw [← HLB.out]; exact hgo) s hs
          have hlt : i + k < L := by rw [← hol]; exact (hst _ rfl).1
          have hco := owns_cell hown hol hlt
          have ho9 : os2[i + k]?.getD 0 < 10 := by
            cases e : os2[i + k]? with
            | none => simp
            | some d => exact hf.dlt d (List.mem_of_getElem? e)
          obtain ⟨p, hp⟩ : ∃ p, p = i + k := ⟨_, rfl⟩
          have hpi : (i : Int) + (k : Int) = (p : Int) := by omega
          obtain ⟨b1', o1, rfl, _, _, hc1⟩ := Ns.at (H1.out.below hb b1) (k := i) (by rw [← HLA.out]; omega)
          rw [getD_at] at hc1
          have hx9 := getD_dig_lt (B := 10) (by omega) n i
          rw [← hp] at hst hco ho9 hfr hlt
          obtain ⟨o, hoo⟩ : ∃ o, o = os2[p]?.getD 0 := ⟨_, rfl⟩
          obtain ⟨x, hx⟩ : ∃ x, x = (dig 10 n)[i]?.getD 0 := ⟨_, rfl⟩
          rw [← hoo] at hst hco ho9
          rw [← hx] at hst hc1 hx9
          by_cases hkb : k < lb
          · have db : decide (k < lb) = true := decide_eq_true hkb
            obtain ⟨b2', o2, rfl, _, _, hc2⟩ := Ns.at (H2.out.below hb b2) (k := k) (by rw [← HLB.out]; omega)
            rw [getD_at] at hc2
            have hy9 := getD_dig_lt (B := 10) (by omega) m k
            obtain ⟨y, hy⟩ : ∃ y, y = (dig 10 m)[k]?.getD 0 := ⟨_, rfl⟩
            rw [← hy] at hst hc2 hy9
            have hxy : x * y ≤ 9 * 9 := Nat.mul_le_mul (by omega) (by omega)
            obtain ⟨z, hz⟩ : ∃ z, z = x * y := ⟨_, rfl⟩
            have hzi : (x : Int) * (y : Int) = (z : Int) := by rw [hz]; exact (Int.natCast_mul _ _).symm
            have HST := Lib.hid (hst _ rfl)
            rw [← hz] at HST hxy
            have HB2 := Lib.hid hb
            clear hst hoo hx hy hz hp hgo hb hol hown hf
            go_wp2_with fail
            go_quiet (fail)
            go_wp2
            exact ⟨⟨k + 1, (o + cc + z) / 10, os2.set p ((o + cc + z) % 10), by go_num, congrArg _ (by omega), HST.out.2, owns_set (w := wr.drewN nq) HO2.out (by omega), (HB2.out.trans ((Still.drewN wr nq).below N)).setCell (Nat.le_refl _) _⟩, by simp only [intOf]; omega⟩
          · have db : decide (k < lb) = false := decide_eq_false hkb
            have hyz : (dig 10 m)[k]?.getD 0 = 0 := by rw [List.getElem?_eq_none (by rw [← HLB.out]; omega)]; rfl
            rw [hyz, Nat.mul_zero, Nat.add_zero] at hst
            have hc0 : 0 < cc := by omega
            have hkl2 : k ≤ lb := by
              have := HLB.out
              rcases hf.far with h | ⟨_, h, _⟩ <;> omega
            have HST := Lib.hid (hst _ rfl)
            have HB2 := Lib.hid hb
            clear hst hoo hx hp hgo hb hol hown hf hyz
            go_wp2
            exact ⟨⟨k + 1, (o + cc) / 10, os2.set p ((o + cc) % 10), by go_num, congrArg _ (by omega), HST.out.2, owns_set HO2.out (by omega), HB2.out.setCell (Nat.le_refl _) _⟩, by simp only [intOf]; omega⟩
        · obtain rfl : cc = 0 := by omega
          have db : decide (k < lb) = false := decide_eq_false (by omega)
          have HN2 := Lib.hid (hf.next (by rw [← HLB.out]; omega))
          have HB2 := Lib.hid hb
          clear hgo hb hol hown hf
          go_wp2
          all_goals exact ⟨⟨i + 1, os2, by omega, by go_num, HN2.out, HO2.out, HB2.out⟩, by simp only [intOf]; omega⟩
    · obtain rfl : i = la := by omega
      have da : decide (i < i) = false := decide_eq_false hia
      have hfin : TimesAt n m (dig 10 n).length 0 os 0 := by rw [← HLA.out]; exact HF.out
      have HD := Lib.hid hfin.done
      have hn : Ns wr (.slice (some ⟨N, 0, none⟩) L L) os N wr.heap.size := Sl.of_owns (by rw [HOL.out]; exact HO.out)
      have HNS := Lib.hid hn
      clear hn hfin hia
      go_wp2_with (go_at_call 37; with_reducible refine (rtrim_any _ os N wr.heap.size _ HNS.out).mono ?_; rintro e w2 ⟨⟨v', rfl, hv⟩, rfl⟩; have HV := Lib.hid hv; clear hv)
      go_ret
      have e := HN.out
      subst e
      exact ⟨⟨v', rfl, by show Ns _ v' (dig 10 (n * m)) _ _; rw [← HD.out]; exact HV.out⟩, HB.out⟩
end Go.Proofs.YtiefodlhnpondaaGreatDoor
