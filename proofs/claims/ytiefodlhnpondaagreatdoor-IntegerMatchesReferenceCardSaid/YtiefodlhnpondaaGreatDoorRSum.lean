/-
  The reference implementation's plus and minus of two lists of digits.
-/
import Derived.Test.YtiefodlhnpondaaGreatDoorROrd
namespace Go.Proofs.YtiefodlhnpondaaGreatDoor
open Go.RowKit Go.Shelf
attribute [local go_sem] Oper.semAt_some

theorem tmod_nat (s : Nat) : ((s : Int) % 10).toNat = s % 10 := by omega
theorem own_snoc_nat {w : World} {B : Nat} {e : TypeId} {v : Value} {ds : List Nat} {d : Int} {x : Nat} (hx : d = (x : Int)) (h : w.ownsRow B e 1 v (ds.length + 1) (ds.map (fun d : Nat => Value.int .i64 (d : Int)) ++ [Value.int .i64 d])) :
    w.ownsRow B e 1 v (ds ++ [x]).length ((ds ++ [x]).map fun d : Nat => Value.int .i64 (d : Int)) := by
  subst hx
  simpa using h

set_option maxRecDepth 100000 in
set_option maxHeartbeats 4000000 in
theorem rplus_any (v1 v2 : Value) (n m : Nat) (lo1 hi1 lo2 hi2 : Nat) (w : World) (h1 : Nr w v1 n lo1 hi1) (h2 : Nr w v2 m lo2 hi2) (b1 : hi1 ≤ w.heap.size) (b2 : hi2 ≤ w.heap.size) (l1 : Few10 n) (l2 : Few10 m) :
    Calls Tryz.prog 53 #[v1, v2] w fun e w' => (∃ v, e = .returned v ∧ Nr w' v (n + m) w.heap.size w'.heap.size) ∧ Below w.heap.size w w' := by
  obtain ⟨i0, hi, hz0, hz1, hz2⟩ := info_parts A_info3
  obtain ⟨a1, cap1, rfl⟩ := Nr.form h1
  obtain ⟨a2, cap2, rfl⟩ := Nr.form h2
  have H1 := Lib.hid h1
  have H2 := Lib.hid h2
  unfold Few10 at l1 l2
  clear h1 h2
  obtain ⟨la, hla⟩ : ∃ la, la = (dig 10 n).length := ⟨_, rfl⟩
  obtain ⟨lb, hlb⟩ : ∃ lb, lb = (dig 10 m).length := ⟨_, rfl⟩
  rw [← hla] at l1 ⊢
  rw [← hlb] at l2 ⊢
  have HLA := Lib.hid hla
  have HLB := Lib.hid hlb
  clear hla hlb
  go_enter Tryz.func53, Tryz.ntmps53
  go_wp2
  go_loopw [5, 6, 7] (fun out c i wr => ∃ (k : Nat) (ds : List Nat) (cc : Nat), i = .int .i64 k ∧ c = .int .i64 (cc : Int) ∧ PlusAt n m k ds cc ∧ wr.ownsRow w.heap.size 3 1 out ds.length (ds.map fun d : Nat => Value.int .i64 (d : Int)) ∧ Below w.heap.size w wr)
    (fun _ _ i _ => la + lb + 1 - (intOf i).toNat)
  case atStart => exact ⟨0, [], 0, rfl, rfl, PlusAt.start n m, World.ownsRow_nil _ _ _ _, Below.refl _ _⟩
  case round =>
    obtain ⟨k, ds, cc, rfl, rfl, hf, hown, hb⟩ := hrel
    have hwr := hb.size
    have hcc := hf.chi
    have hkb : k ≤ la + lb + 1 := by
      have e1 := HLA.out
      have e2 := HLB.out
      rcases hf.far with h | ⟨_, h3, h4⟩
      · omega
      · have h5 : ¬ la + lb + 1 < k := by
          intro h5
          have g1 := (dig_length_le (B := 10) (by omega) n la).1 (by omega)
          have g2 := (dig_length_le (B := 10) (by omega) m lb).1 (by omega)
          have g3 : 10 ^ la ≤ 10 ^ (la + lb) := Nat.pow_le_pow_right (by omega) (by omega)
          have g4 : 10 ^ lb ≤ 10 ^ (la + lb) := Nat.pow_le_pow_right (by omega) (by omega)
          have g5 : 10 ^ (la + lb + 1) ≤ 10 ^ (k - 1) := Nat.pow_le_pow_right (by omega) (by omega)
          rw [Nat.pow_succ] at g5
          omega
        omega
    have hds : ds.length = k := hf.len
    rw [hds] at hown
    have HOW := Lib.hid hown
    have HB := Lib.hid hb
    have HF := Lib.hid hf
    have hx9 := getD_dig_lt (B := 10) (by omega) n k
    have hy9 := getD_dig_lt (B := 10) (by omega) m k
    clear hown hf hds
    by_cases hka : k < la
    · by_cases hkb2 : k < lb
      · obtain ⟨bx1, o1, rfl, _, _, hc1⟩ := Ns.at (H1.out.below hb b1) (k := k) (by rw [← HLA.out]; omega)
        rw [getD_at] at hc1
        have da : decide (k < la) = true := decide_eq_true hka
        obtain ⟨bx2, o2, rfl, _, _, hc2⟩ := Ns.at (H2.out.below hb b2) (k := k) (by rw [← HLB.out]; omega)
        rw [getD_at] at hc2
        have db : decide (k < lb) = true := decide_eq_true hkb2
        have hst := fun hgo s hs => HF.out.step hgo s hs
        obtain ⟨x, hx⟩ : ∃ x, x = (dig 10 n)[k]?.getD 0 := ⟨_, rfl⟩
        obtain ⟨y, hy⟩ : ∃ y, y = (dig 10 m)[k]?.getD 0 := ⟨_, rfl⟩
        rw [← hx] at hx9 hst
        rw [← hy] at hy9 hst
        rw [← hx] at hc1
        rw [← hy] at hc2
        have HST := Lib.hid (hst (by rw [← HLA.out, ← HLB.out]; omega) (cc + x + y) rfl)
        have hsb : 0 ≤ (cc : Int) + (x : Int) + (y : Int) ∧ (cc : Int) + (x : Int) + (y : Int) ≤ 19 := by omega
        clear hst hx hy hb
        go_wp2_with (at_builtin; refine wpList_append_own _ rfl _ _ 44 rfl w.heap.size 3 i0 (.int .i64 0) 1 8 Tryz.underlying44 hi hz0 hz1 hz2 rfl (by decide) u5 k _ rfl (HOW.out.alloc _) ⟨wr.heap.size, 0, none⟩ 1 1 [.int .i64 (((cc : Int) + (x : Int) + (y : Int)) % 10)] rfl rfl (cell_one_new _ _ _) (by simp [Value.oneCell']) (by unfold maxLen; omega) (by omega) (by simp; omega) ?_; intro v' w3 hown' hgrow _)
        refine ⟨⟨k + 1, ds ++ [(cc + x + y) % 10], (cc + x + y) / 10, by go_num, congrArg _ (by omega), HST.out, own_snoc_nat (d := ((cc : Int) + (x : Int) + (y : Int)) % 10) (x := (cc + x + y) % 10) (by omega) (by rw [HF.out.len]; exact hown'), (HB.out.alloc hwr _).grown hgrow (by simp; omega) (fun g e => (HOW.out.lt g e).1)⟩, ?_⟩
        simp only [intOf]; omega
      · obtain ⟨bx1, o1, rfl, _, _, hc1⟩ := Ns.at (H1.out.below hb b1) (k := k) (by rw [← HLA.out]; omega)
        rw [getD_at] at hc1
        have da : decide (k < la) = true := decide_eq_true hka
        have db : decide (k < lb) = false := decide_eq_false hkb2
        have hyz : (dig 10 m)[k]?.getD 0 = 0 := by rw [List.getElem?_eq_none (by rw [← HLB.out]; omega)]; rfl
        have hst := fun hgo s hs => HF.out.step hgo s hs
        obtain ⟨x, hx⟩ : ∃ x, x = (dig 10 n)[k]?.getD 0 := ⟨_, rfl⟩
        obtain ⟨y, hy⟩ : ∃ y, y = (dig 10 m)[k]?.getD 0 := ⟨_, rfl⟩
        rw [← hx] at hx9 hst
        rw [← hy] at hy9 hst
        rw [← hx] at hc1
        rw [← hy] at hyz
        subst hyz
        have HST := Lib.hid (hst (by rw [← HLA.out, ← HLB.out]; omega) (cc + x + 0) rfl)
        have hsb : 0 ≤ (cc : Int) + (x : Int) ∧ (cc : Int) + (x : Int) ≤ 19 := by omega
        clear hst hx hy hb
        go_wp2_with (at_builtin; refine wpList_append_own _ rfl _ _ 44 rfl w.heap.size 3 i0 (.int .i64 0) 1 8 Tryz.underlying44 hi hz0 hz1 hz2 rfl (by decide) u5 k _ rfl (HOW.out.alloc _) ⟨wr.heap.size, 0, none⟩ 1 1 [.int .i64 (((cc : Int) + (x : Int)) % 10)] rfl rfl (cell_one_new _ _ _) (by simp [Value.oneCell']) (by unfold maxLen; omega) (by omega) (by simp; omega) ?_; intro v' w3 hown' hgrow _)
        refine ⟨⟨k + 1, ds ++ [(cc + x + 0) % 10], (cc + x + 0) / 10, by go_num, congrArg _ (by omega), HST.out, own_snoc_nat (d := ((cc : Int) + (x : Int)) % 10) (x := (cc + x + 0) % 10) (by omega) (by rw [HF.out.len]; exact hown'), (HB.out.alloc hwr _).grown hgrow (by simp; omega) (fun g e => (HOW.out.lt g e).1)⟩, ?_⟩
        simp only [intOf]; omega
    · by_cases hkb2 : k < lb
      · have da : decide (k < la) = false := decide_eq_false hka
        have hxz : (dig 10 n)[k]?.getD 0 = 0 := by rw [List.getElem?_eq_none (by rw [← HLA.out]; omega)]; rfl
        obtain ⟨bx2, o2, rfl, _, _, hc2⟩ := Ns.at (H2.out.below hb b2) (k := k) (by rw [← HLB.out]; omega)
        rw [getD_at] at hc2
        have db : decide (k < lb) = true := decide_eq_true hkb2
        have hst := fun hgo s hs => HF.out.step hgo s hs
        obtain ⟨x, hx⟩ : ∃ x, x = (dig 10 n)[k]?.getD 0 := ⟨_, rfl⟩
        obtain ⟨y, hy⟩ : ∃ y, y = (dig 10 m)[k]?.getD 0 := ⟨_, rfl⟩
        rw [← hx] at hx9 hst
        rw [← hy] at hy9 hst
        rw [← hx] at hxz
        subst hxz
        rw [← hy] at hc2
        have HST := Lib.hid (hst (by rw [← HLA.out, ← HLB.out]; omega) (cc + 0 + y) rfl)
        have hsb : 0 ≤ (cc : Int) + (y : Int) ∧ (cc : Int) + (y : Int) ≤ 19 := by omega
        clear hst hx hy hb
        go_wp2_with (at_builtin; refine wpList_append_own _ rfl _ _ 44 rfl w.heap.size 3 i0 (.int .i64 0) 1 8 Tryz.underlying44 hi hz0 hz1 hz2 rfl (by decide) u5 k _ rfl (HOW.out.alloc _) ⟨wr.heap.size, 0, none⟩ 1 1 [.int .i64 (((cc : Int) + (y : Int)) % 10)] rfl rfl (cell_one_new _ _ _) (by simp [Value.oneCell']) (by unfold maxLen; omega) (by omega) (by simp; omega) ?_; intro v' w3 hown' hgrow _)
        refine ⟨⟨k + 1, ds ++ [(cc + 0 + y) % 10], (cc + 0 + y) / 10, by go_num, congrArg _ (by omega), HST.out, own_snoc_nat (d := ((cc : Int) + (y : Int)) % 10) (x := (cc + 0 + y) % 10) (by omega) (by rw [HF.out.len]; exact hown'), (HB.out.alloc hwr _).grown hgrow (by simp; omega) (fun g e => (HOW.out.lt g e).1)⟩, ?_⟩
        simp only [intOf]; omega
      · rcases Nat.eq_zero_or_pos cc with hc0 | hc0
        · subst hc0
          have da : decide (k < la) = false := decide_eq_false hka
          have db : decide (k < lb) = false := decide_eq_false hkb2
          have hdone := HF.out.done (by rw [← HLA.out]; omega) (by rw [← HLB.out]; omega)
          have HD := Lib.hid hdone
          clear hdone hx9 hy9
          go_wp2
          go_ret
          exact ⟨⟨u5, rfl, by show Ns wr u5 (dig 10 (n + m)) _ _; rw [← HD.out]; exact Sl.of_owns (by rw [HF.out.len]; exact HOW.out)⟩, hb⟩
        · have dc : decide (0 < (cc : Int)) = true := decide_eq_true (by omega)
          have hk3 : k ≤ la + lb := by
            have e1 := HLA.out
            have e2 := HLB.out
            rcases HF.out.far with h | ⟨h, _⟩ <;> omega
          have da : decide (k < la) = false := decide_eq_false hka
          have hxz : (dig 10 n)[k]?.getD 0 = 0 := by rw [List.getElem?_eq_none (by rw [← HLA.out]; omega)]; rfl
          have db : decide (k < lb) = false := decide_eq_false hkb2
          have hyz : (dig 10 m)[k]?.getD 0 = 0 := by rw [List.getElem?_eq_none (by rw [← HLB.out]; omega)]; rfl
          have hst := fun hgo s hs => HF.out.step hgo s hs
          obtain ⟨x, hx⟩ : ∃ x, x = (dig 10 n)[k]?.getD 0 := ⟨_, rfl⟩
          obtain ⟨y, hy⟩ : ∃ y, y = (dig 10 m)[k]?.getD 0 := ⟨_, rfl⟩
          rw [← hx] at hx9 hst
          rw [← hy] at hy9 hst
          rw [← hx] at hxz
          subst hxz
          rw [← hy] at hyz
          subst hyz
          have HST := Lib.hid (hst (by rw [← HLA.out, ← HLB.out]; omega) (cc + 0 + 0) rfl)
          have hsb : 0 ≤ (cc : Int) ∧ (cc : Int) ≤ 19 := by omega
          clear hst hx hy hb
          go_wp2_with (at_builtin; refine wpList_append_own _ rfl _ _ 44 rfl w.heap.size 3 i0 (.int .i64 0) 1 8 Tryz.underlying44 hi hz0 hz1 hz2 rfl (by decide) u5 k _ rfl (HOW.out.alloc _) ⟨wr.heap.size, 0, none⟩ 1 1 [.int .i64 (((cc : Int)) % 10)] rfl rfl (cell_one_new _ _ _) (by simp [Value.oneCell']) (by unfold maxLen; omega) (by omega) (by simp; omega) ?_; intro v' w3 hown' hgrow _)
          refine ⟨⟨k + 1, ds ++ [(cc + 0 + 0) % 10], (cc + 0 + 0) / 10, by go_num, congrArg _ (by omega), HST.out, own_snoc_nat (d := ((cc : Int)) % 10) (x := (cc + 0 + 0) % 10) (by omega) (by rw [HF.out.len]; exact hown'), (HB.out.alloc hwr _).grown hgrow (by simp; omega) (fun g e => (HOW.out.lt g e).1)⟩, ?_⟩
          simp only [intOf]; omega

set_option maxRecDepth 100000 in
set_option maxHeartbeats 4000000 in
theorem rminus_any (v1 v2 : Value) (n m : Nat) (lo1 hi1 lo2 hi2 : Nat) (w : World) (h1 : Nr w v1 n lo1 hi1) (h2 : Nr w v2 m lo2 hi2) (b1 : hi1 ≤ w.heap.size) (b2 : hi2 ≤ w.heap.size) (l1 : Few10 n) (_l2 : Few10 m) (hle : m ≤ n) :
    Calls Tryz.prog 54 #[v1, v2] w fun e w' => (∃ v, e = .returned v ∧ Nr w' v (n - m) w.heap.size w'.heap.size) ∧ Below w.heap.size w w' := by
  obtain ⟨i0, hi, hz0, hz1, hz2⟩ := info_parts A_info3
  obtain ⟨a1, cap1, rfl⟩ := Nr.form h1
  obtain ⟨a2, cap2, rfl⟩ := Nr.form h2
  have H1 := Lib.hid h1
  have H2 := Lib.hid h2
  have HLE := Lib.hid hle
  unfold Few10 at l1
  clear h1 h2 hle
  obtain ⟨la, hla⟩ : ∃ la, la = (dig 10 n).length := ⟨_, rfl⟩
  obtain ⟨lb, hlb⟩ : ∃ lb, lb = (dig 10 m).length := ⟨_, rfl⟩
  rw [← hla] at l1 ⊢
  rw [← hlb]
  have HLA := Lib.hid hla
  have HLB := Lib.hid hlb
  clear hla hlb
  go_enter Tryz.func54, Tryz.ntmps54
  go_wp2
  go_loopw [5, 6, 7] (fun out c i wr => ∃ (k : Nat) (ds : List Nat) (cc : Nat), k ≤ la ∧ i = .int .i64 k ∧ c = .int .i64 (cc : Int) ∧ MinusAt n m k ds cc ∧ wr.ownsRow w.heap.size 3 1 out ds.length (ds.map fun d : Nat => Value.int .i64 (d : Int)) ∧ Below w.heap.size w wr)
    (fun _ _ i _ => la - (intOf i).toNat)
  case atStart => exact ⟨0, [], 0, Nat.zero_le _, rfl, rfl, MinusAt.start n m, World.ownsRow_nil _ _ _ _, Below.refl _ _⟩
  case round =>
    obtain ⟨k, ds, cc, hkl, rfl, rfl, hf, hown, hb⟩ := hrel
    have hwr := hb.size
    have hcc := hf.chi
    have hds : ds.length = k := hf.len
    rw [hds] at hown
    have HOW := Lib.hid hown
    have HB := Lib.hid hb
    have HF := Lib.hid hf
    have hx9 := getD_dig_lt (B := 10) (by omega) n k
    have hy9 := getD_dig_lt (B := 10) (by omega) m k
    clear hown hf hds
    by_cases hka : k < la
    · by_cases hkb2 : k < lb
      · obtain ⟨bx1, o1, rfl, _, _, hc1⟩ := Ns.at (H1.out.below hb b1) (k := k) (by rw [← HLA.out]; omega)
        rw [getD_at] at hc1
        have da : decide (k < la) = true := decide_eq_true hka
        obtain ⟨bx2, o2, rfl, _, _, hc2⟩ := Ns.at (H2.out.below hb b2) (k := k) (by rw [← HLB.out]; omega)
        rw [getD_at] at hc2
        have db : decide (k < lb) = true := decide_eq_true hkb2
        have hst := fun d c' hd hc' hs => HF.out.step d c' hd hc' hs
        obtain ⟨x, hx⟩ : ∃ x, x = (dig 10 n)[k]?.getD 0 := ⟨_, rfl⟩
        obtain ⟨y, hy⟩ : ∃ y, y = (dig 10 m)[k]?.getD 0 := ⟨_, rfl⟩
        rw [← hx] at hx9 hst hc1
        rw [← hy] at hy9 hst
        rw [← hy] at hc2
        have HST := Lib.hid hst
        clear hst hx hy hb
        rcases Int.lt_or_le ((x : Int) - (cc : Int) - (y : Int)) 0 with hs | hs
        · go_wp2_with (at_builtin; refine wpList_append_own _ rfl _ _ 44 rfl w.heap.size 3 i0 (.int .i64 0) 1 8 Tryz.underlying44 hi hz0 hz1 hz2 rfl (by decide) u5 k _ rfl (HOW.out.alloc _) ⟨wr.heap.size, 0, none⟩ 1 1 [.int .i64 ((x : Int) - (cc : Int) - (y : Int) + 10)] rfl rfl (cell_one_new _ _ _) (by simp [Value.oneCell']) (by unfold maxLen; omega) (by omega) (by simp; omega) ?_; intro v' w3 hown' hgrow _)
          refine ⟨⟨k + 1, ds ++ [(x + 10 - cc - y)], 1, by omega, by go_num, rfl, HST.out _ _ (by omega) (by omega) (by omega), own_snoc_nat (d := (x : Int) - (cc : Int) - (y : Int) + 10) (x := (x + 10 - cc - y)) (by omega) (by rw [HF.out.len]; exact hown'), (HB.out.alloc hwr _).grown hgrow (by simp; omega) (fun g e => (HOW.out.lt g e).1)⟩, ?_⟩
          simp only [intOf]; omega
        · go_wp2_with (at_builtin; refine wpList_append_own _ rfl _ _ 44 rfl w.heap.size 3 i0 (.int .i64 0) 1 8 Tryz.underlying44 hi hz0 hz1 hz2 rfl (by decide) u5 k _ rfl (HOW.out.alloc _) ⟨wr.heap.size, 0, none⟩ 1 1 [.int .i64 ((x : Int) - (cc : Int) - (y : Int))] rfl rfl (cell_one_new _ _ _) (by simp [Value.oneCell']) (by unfold maxLen; omega) (by omega) (by simp; omega) ?_; intro v' w3 hown' hgrow _)
          refine ⟨⟨k + 1, ds ++ [(x - cc - y)], 0, by omega, by go_num, rfl, HST.out _ _ (by omega) (by omega) (by omega), own_snoc_nat (d := (x : Int) - (cc : Int) - (y : Int)) (x := (x - cc - y)) (by omega) (by rw [HF.out.len]; exact hown'), (HB.out.alloc hwr _).grown hgrow (by simp; omega) (fun g e => (HOW.out.lt g e).1)⟩, ?_⟩
          simp only [intOf]; omega
      · obtain ⟨bx1, o1, rfl, _, _, hc1⟩ := Ns.at (H1.out.below hb b1) (k := k) (by rw [← HLA.out]; omega)
        rw [getD_at] at hc1
        have da : decide (k < la) = true := decide_eq_true hka
        have db : decide (k < lb) = false := decide_eq_false hkb2
        have hyz : (dig 10 m)[k]?.getD 0 = 0 := by rw [List.getElem?_eq_none (by rw [← HLB.out]; omega)]; rfl
        have hst := fun d c' hd hc' hs => HF.out.step d c' hd hc' hs
        obtain ⟨x, hx⟩ : ∃ x, x = (dig 10 n)[k]?.getD 0 := ⟨_, rfl⟩
        obtain ⟨y, hy⟩ : ∃ y, y = (dig 10 m)[k]?.getD 0 := ⟨_, rfl⟩
        rw [← hx] at hx9 hst hc1
        rw [← hy] at hy9 hst
        rw [← hy] at hyz
        subst hyz
        have HST := Lib.hid hst
        clear hst hx hy hb
        rcases Int.lt_or_le ((x : Int) - (cc : Int)) 0 with hs | hs
        · go_wp2_with (at_builtin; refine wpList_append_own _ rfl _ _ 44 rfl w.heap.size 3 i0 (.int .i64 0) 1 8 Tryz.underlying44 hi hz0 hz1 hz2 rfl (by decide) u5 k _ rfl (HOW.out.alloc _) ⟨wr.heap.size, 0, none⟩ 1 1 [.int .i64 ((x : Int) - (cc : Int) + 10)] rfl rfl (cell_one_new _ _ _) (by simp [Value.oneCell']) (by unfold maxLen; omega) (by omega) (by simp; omega) ?_; intro v' w3 hown' hgrow _)
          refine ⟨⟨k + 1, ds ++ [(x + 10 - cc - 0)], 1, by omega, by go_num, rfl, HST.out _ _ (by omega) (by omega) (by omega), own_snoc_nat (d := (x : Int) - (cc : Int) + 10) (x := (x + 10 - cc - 0)) (by omega) (by rw [HF.out.len]; exact hown'), (HB.out.alloc hwr _).grown hgrow (by simp; omega) (fun g e => (HOW.out.lt g e).1)⟩, ?_⟩
          simp only [intOf]; omega
        · go_wp2_with (at_builtin; refine wpList_append_own _ rfl _ _ 44 rfl w.heap.size 3 i0 (.int .i64 0) 1 8 Tryz.underlying44 hi hz0 hz1 hz2 rfl (by decide) u5 k _ rfl (HOW.out.alloc _) ⟨wr.heap.size, 0, none⟩ 1 1 [.int .i64 ((x : Int) - (cc : Int))] rfl rfl (cell_one_new _ _ _) (by simp [Value.oneCell']) (by unfold maxLen; omega) (by omega) (by simp; omega) ?_; intro v' w3 hown' hgrow _)
          refine ⟨⟨k + 1, ds ++ [(x - cc - 0)], 0, by omega, by go_num, rfl, HST.out _ _ (by omega) (by omega) (by omega), own_snoc_nat (d := (x : Int) - (cc : Int)) (x := (x - cc - 0)) (by omega) (by rw [HF.out.len]; exact hown'), (HB.out.alloc hwr _).grown hgrow (by simp; omega) (fun g e => (HOW.out.lt g e).1)⟩, ?_⟩
          simp only [intOf]; omega
    · obtain rfl : k = la := by omega
      have da : decide (k < k) = false := decide_eq_false hka
      have hfin : MinusAt n m (dig 10 n).length ds cc := by rw [← HLA.out]; exact HF.out
      have HD := Lib.hid (hfin.done HLE.out)
      have hn : Ns wr u5 ds w.heap.size wr.heap.size := Sl.of_owns (by rw [HF.out.len]; exact HOW.out)
      have HN := Lib.hid hn
      clear hn hfin hx9 hy9 hka
      go_wp2_with (go_at_call 37; with_reducible refine (rtrim_any _ ds w.heap.size wr.heap.size _ HN.out).mono ?_; rintro e w2 ⟨⟨v', rfl, hv⟩, rfl⟩; have HV := Lib.hid hv; clear hv)
      go_ret
      exact ⟨⟨v', rfl, by show Ns _ v' (dig 10 (n - m)) _ _; rw [← HD.out]; exact HV.out⟩, hb⟩
end Go.Proofs.YtiefodlhnpondaaGreatDoor
