/-
  The walks of package integer's arithmetic on groups of digits.
-/
import Derived.Test.YtiefodlhnpondaaGreatDoorChecked
import Derived.Test.YtiefodlhnpondaaGreatDoorBase
import Derived.Test.YtiefodlhnpondaaGreatDoorDig
import Derived.Maps.AppendAt
import Derived.Shelf.Abstract
namespace Go.Proofs.YtiefodlhnpondaaGreatDoor
open Go.RowKit

/-- A slice that reads as a number. -/
abbrev Nm (w : World) (v : Value) (n : Nat) (lo hi : Nat) : Prop := Ns w v (dig 10000 n) lo hi
/-- So many groups are few. -/
def Few (n : Nat) : Prop := (dig 10000 n).length ≤ 1000000

set_option maxHeartbeats 400000 in
theorem at_any (v : Value) (xs : List Nat) (lo hi : Nat) (i : Int) (w : World) (h : Ns w v xs lo hi) (h0 : 0 ≤ i) :
    Calls Tryz.prog 70 #[v, .int .i64 i] w fun e w' => e = .returned (.int .i64 (xs[i.toNat]?.getD 0 : Nat)) ∧ w = w' := by
  have hlen := h.len
  obtain ⟨a, cap, rfl, hc, hm⟩ : ∃ a cap, v = .slice a xs.length cap ∧ xs.length ≤ cap ∧ cap ≤ maxLen := by obtain ⟨a, cap, h1, h2, h3, _⟩ := h; exact ⟨a, cap, h1, h2, h3⟩
  unfold maxLen at hm hlen
  by_cases hlt : i < xs.length
  · obtain ⟨b, off, rfl, _, _, hcc⟩ := h.at (k := i.toNat) (by omega)
    have hx : xs[i.toNat]?.getD 0 = xs[i.toNat]'(by omega) := by rw [List.getElem?_eq_getElem (by omega)]; rfl
    rw [hx]
    clear hx h
    go_enter Tryz.func70, Tryz.ntmps70
    go_wp2
    go_ret
    exact ⟨rfl, rfl⟩
  · have hx : xs[i.toNat]?.getD 0 = 0 := by rw [List.getElem?_eq_none (by omega)]; rfl
    rw [hx]
    clear hx h
    go_enter Tryz.func70, Tryz.ntmps70
    go_wp2
    go_ret
    exact ⟨rfl, rfl⟩

set_option maxHeartbeats 400000 in
theorem trimmed_any (v : Value) (xs : List Nat) (lo hi : Nat) (w : World) (h : Ns w v xs lo hi) :
    Calls Tryz.prog 65 #[v] w fun e w' => (∃ v', e = .returned v' ∧ Ns w v' (trim xs) lo hi) ∧ w = w' := by
  have hlen := h.len
  obtain ⟨a, cap, rfl, hc, hm⟩ : ∃ a cap, v = .slice a xs.length cap ∧ xs.length ≤ cap ∧ cap ≤ maxLen := by obtain ⟨a, cap, h1, h2, h3, _⟩ := h; exact ⟨a, cap, h1, h2, h3⟩
  unfold maxLen at hm hlen
  have H := Lib.hid h
  clear h
  go_enter Tryz.func65, Tryz.ntmps65
  go_wp2
  go_loop [0] (fun s => ∃ k : Nat, k ≤ xs.length ∧ s = .slice a k cap ∧ trim (xs.take k) = trim xs) (fun s => lenOf s)
  case atStart => exact ⟨xs.length, Nat.le_refl _, rfl, by simp⟩
  case round =>
    obtain ⟨k, hk, rfl, ht⟩ := hrel
    have HT := Lib.hid ht
    clear ht
    by_cases hk0 : k = 0
    · subst hk0
      go_wp2
      go_ret
      exact ⟨⟨_, rfl, by rw [← HT.out]; exact H.out.take (Nat.zero_le _)⟩, rfl⟩
    · obtain ⟨j, rfl⟩ : ∃ j, k = j + 1 := ⟨k - 1, by omega⟩
      obtain ⟨b, off, rfl, _, _, hcc⟩ := H.out.at (k := j) (by omega)
      go_wp2
      · have hz : ((xs[j] : Int) == 0) = true := by assumption
        refine ⟨⟨j, by omega, rfl, ?_⟩, by simp [lenOf]⟩
        rw [← HT.out]
        exact (trim_take_zero (by rw [List.getElem?_eq_getElem (by omega)]; simp at hz ⊢; omega) (by omega)).symm
      · have hz : ((xs[j] : Int) == 0) = false := by assumption
        go_ret
        refine ⟨⟨_, rfl, ?_⟩, rfl⟩
        rw [← HT.out, trim_take_ne (by rw [List.getElem?_eq_getElem (by omega)]; simp at hz ⊢; omega) (by omega)]
        exact H.out.take hk

theorem A_info3 : (Tryz.prog.info? 3).map (fun i => (i.zero, i.size, i.bytes)) = some (some (.int .i64 0), 1, 8) := by kernel_rfl

/-- The sum of f j times 10000 to the power of j, for all j below n. -/
def foldS (f : Nat → Int) : Nat → Int
  | 0 => 0
  | n + 1 => foldS f n + 10000 ^ n * f n

/-- What is known of fold's digits and carry before round i. -/
structure FoldAt (f : Nat → Int) (n i : Nat) (ds : List Nat) (c : Int) : Prop where
  len : ds.length = i
  dlt : ∀ d ∈ ds, d < 10000
  eq : (val 10000 ds : Int) + 10000 ^ i * c = foldS f i
  clo : -1 ≤ c
  chi : c ≤ 100000000
  far : i ≤ n ∨ (c + (i - n : Nat) ≤ 100000000 ∧ 0 ≤ c)

theorem FoldAt.carry {f : Nat → Int} {n i : Nat} {ds : List Nat} {c : Int} (h : FoldAt f n i ds c) (hn : n ≤ i) (hi : i ≤ n) (ht : 0 ≤ foldS f n) : 0 ≤ c := by
  obtain rfl : n = i := by omega
  have h1 := val_lt (B := 10000) (by omega) ds h.dlt
  have h2 := h.eq
  rw [h.len] at h1
  by_cases hc : 0 ≤ c
  · exact hc
  · have h3 : c = -1 := by have := h.clo; omega
    rw [h3] at h2
    have h4 : ((10000 ^ n : Nat) : Int) = 10000 ^ n := by simp
    omega

theorem FoldAt.step {f : Nat → Int} {n k : Nat} {ds : List Nat} {c : Int} (h : FoldAt f n k ds c) (hhi : ∀ i, f i ≤ 99990000) (hz : ∀ i, n ≤ i → f i = 0) (ht : 0 ≤ foldS f n)
    (hgo : k < n ∨ c ≠ 0) (d c' : Int) (hd0 : 0 ≤ d) (hd1 : d < 10000) (hc : -1 ≤ c') (hs : f k + c = d + 10000 * c') :
    FoldAt f n (k + 1) (ds ++ [d.toNat]) c' := by
  have h1 := hhi k
  have h2 := h.chi
  have h3 := h.clo
  refine ⟨by simp [h.len], ?_, ?_, hc, by omega, ?_⟩
  · intro x hx
    rcases List.mem_append.1 hx with hx | hx
    · exact h.dlt x hx
    · simp at hx; omega
  · rw [val_append, h.len]
    have h4 : ((10000 ^ k : Nat) : Int) = 10000 ^ k := by simp
    have h5 : (d.toNat : Int) = d := by omega
    simp only [val, Int.natCast_add, Int.natCast_mul, h4, foldS, ← h.eq, h5, Int.natCast_zero, Int.mul_zero, Int.add_zero]
    have h6 : (10000 : Int) ^ (k + 1) * c' = 10000 ^ k * (10000 * c') := by rw [Int.pow_succ, Int.mul_assoc]
    rw [h6, Int.add_assoc, ← Int.mul_add, ← hs, Int.mul_add]
    omega
  · by_cases hk : k < n
    · left; omega
    · right
      have h7 : 0 ≤ c := by
        rcases h.far with h8 | h8
        · exact h.carry (by omega) h8 ht
        · exact h8.2
      have h9 : f k = 0 := hz k (by omega)
      rcases h.far with h8 | h8
      · omega
      · omega

set_option maxRecDepth 100000 in
set_option maxHeartbeats 400000 in
theorem fold_any (K : Nat) (caps : Array Value) (f : Nat → Int) (n : Nat) (w : World)
    (hent : ∀ (args : Array Value) (w : World), (callFunc K args).run Tryz.prog w = .ok (.enter K args) w)
    (hK : ∀ (i : Nat) (w' : World), i ≤ 200000000 → Below w.heap.size w w' → Calls Tryz.prog K (#[.int .i64 i] ++ caps) w' fun e w'' => e = .returned (.int .i64 (f i)) ∧ Still w' w'')
    (hn : n ≤ 1000000) (hlo : ∀ i, -9999 ≤ f i) (hhi : ∀ i, f i ≤ 99990000) (hz : ∀ i, n ≤ i → f i = 0) (ht : 0 ≤ foldS f n) :
    Calls Tryz.prog 68 #[.int .i64 n, .int .i64 0, .func (.func K) #[] caps] w fun e w' => (∃ v ds k, e = .returned v ∧ Ns w' v ds w.heap.size w'.heap.size ∧ FoldAt f n k ds 0 ∧ n ≤ k) ∧ Below w.heap.size w w' := by
  obtain ⟨i0, hi, hz0, hz1, hz2⟩ := info_parts A_info3
  have HK := Lib.hid hK
  clear hK
  have HZ := Lib.hid hz
  have HLO := Lib.hid hlo
  have HHI := Lib.hid hhi
  have HT := Lib.hid ht
  clear hz hlo hhi ht
  go_enter Tryz.func68, Tryz.ntmps68
  go_wp2_with (at_make; refine wpList_make_own _ rfl _ _ 48 rfl w.heap.size 3 i0 (.int .i64 0) 1 Tryz.underlying48 hi hz0 hz1 .i64 .i64 _ (n + 1) rfl rfl (by omega) (by rw [hz2]; omega) (by unfold maxLen; omega) (Nat.le_refl _) ?_; intro w1 hown hgrow)
  have hb1 : Below w.heap.size w w1 := (Below.refl _ _).grown hgrow (Nat.le_refl _) (by intro k e; cases e)
  clear hgrow
  have HO := Lib.hid hown
  clear hown
  go_loopw [1, 7, 8] (fun c v i wr => ∃ (k : Nat) (ds : List Nat) (cc : Int), i = .int .i64 k ∧ c = .int .i64 cc ∧ FoldAt f n k ds cc ∧ wr.ownsRow w.heap.size 3 1 v ds.length (ds.map fun d : Nat => Value.int .i64 (d : Int)) ∧ Below w.heap.size w wr)
    (fun c _ i _ => (n - (intOf i).toNat) * 1000000000 + (intOf c).toNat)
  case atStart => exact ⟨0, [], 0, rfl, rfl, ⟨rfl, by simp, by simp [val, foldS], by omega, by omega, by omega⟩, HO.out, hb1⟩
  case round =>
    obtain ⟨k, ds, cc, rfl, rfl, hf, hown, hb⟩ := hrel
    have f4 := hf.clo
    have f5 := hf.chi
    have f6 := hf.far
    have HF := Lib.hid hf
    have hds : ds.length ≤ 200000000 := by have := hf.len; omega
    have HL := Lib.hid hf.len
    have HOW := Lib.hid hown
    have hko : k ≤ 200000000 := by omega
    have l1 := HLO.out k
    have l2 := HHI.out k
    have hstep := fun hgo => hf.step HHI.out HZ.out HT.out (hgo : k < n ∨ cc ≠ 0)
    have HS := Lib.hid hstep
    clear hf hown hstep
    have hmax : 0 ≤ f k + cc ∨ k < n := by
      by_cases hlt : k < n
      · exact .inr hlt
      · left
        have h7 : 0 ≤ cc := by
          rcases f6 with h8 | h8
          · exact HF.out.carry (by omega) h8 HT.out
          · exact h8.2
        have h9 : f k = 0 := HZ.out k (by omega)
        omega
    have HMAX := Lib.hid hmax
    clear hmax
    by_cases hgo : k < n ∨ cc ≠ 0
    · have HS2 := Lib.hid (HS.out hgo)
      clear HS
      by_cases hlt : k < n
      · clear hgo
        rcases Int.lt_or_le (f k + cc) 0 with hs | hs
        · go_wp2_with (first
            | ((with_reducible refine (HK.out k _ (by assumption) (by assumption)).mono ?_); rintro e w2 ⟨rfl, hst⟩)
            | (at_builtin; refine wpList_append_own _ rfl _ _ 48 rfl w.heap.size 3 i0 (.int .i64 0) 1 8 Tryz.underlying48 hi hz0 hz1 hz2 rfl (by decide) u7 _ _ rfl ((hst.owns HOW.out).alloc _) ⟨w2.heap.size, 0, none⟩ 1 1 [.int .i64 (f k + cc + 10000)] rfl rfl (cell_one_new _ _ _) (by simp [Value.oneCell']) (by unfold maxLen; omega) (by omega) (by have := (hst.below 0).size; have := hb.size; simp; omega) ?_; intro v' w3 hown' hgrow _))
          refine ⟨⟨k + 1, _, _, by go_num, rfl, HS2.out (f k + cc + 10000) (-1) (by omega) (by omega) (by omega) (by omega), own_snoc_int (by omega) hown', below_append hb (hst.below _) hb.size HOW.out hgrow⟩, ?_⟩
          simp only [intOf]; omega
        · rcases Int.lt_or_le (f k + cc) 10000 with hs2 | hs2
          · go_wp2_with (first
              | ((with_reducible refine (HK.out k _ (by assumption) (by assumption)).mono ?_); rintro e w2 ⟨rfl, hst⟩)
              | (at_builtin; refine wpList_append_own _ rfl _ _ 48 rfl w.heap.size 3 i0 (.int .i64 0) 1 8 Tryz.underlying48 hi hz0 hz1 hz2 rfl (by decide) u7 _ _ rfl ((hst.owns HOW.out).alloc _) ⟨w2.heap.size, 0, none⟩ 1 1 [.int .i64 (f k + cc)] rfl rfl (cell_one_new _ _ _) (by simp [Value.oneCell']) (by unfold maxLen; omega) (by omega) (by have := (hst.below 0).size; have := hb.size; simp; omega) ?_; intro v' w3 hown' hgrow _))
            refine ⟨⟨k + 1, _, _, by go_num, rfl, HS2.out (f k + cc) (0) (by omega) (by omega) (by omega) (by omega), own_snoc_int (by omega) hown', below_append hb (hst.below _) hb.size HOW.out hgrow⟩, ?_⟩
            simp only [intOf]; omega
          · go_wp2_with (first
              | ((with_reducible refine (HK.out k _ (by assumption) (by assumption)).mono ?_); rintro e w2 ⟨rfl, hst⟩)
              | (at_builtin; refine wpList_append_own _ rfl _ _ 48 rfl w.heap.size 3 i0 (.int .i64 0) 1 8 Tryz.underlying48 hi hz0 hz1 hz2 rfl (by decide) u7 _ _ rfl ((hst.owns HOW.out).alloc _) ⟨w2.heap.size, 0, none⟩ 1 1 [.int .i64 ((f k + cc) % 10000)] rfl rfl (cell_one_new _ _ _) (by simp [Value.oneCell']) (by unfold maxLen; omega) (by omega) (by have := (hst.below 0).size; have := hb.size; simp; omega) ?_; intro v' w3 hown' hgrow _))
            refine ⟨⟨k + 1, _, _, by go_num, rfl, HS2.out ((f k + cc) % 10000) ((f k + cc) / 10000) (by omega) (by omega) (by omega) (by omega), own_snoc_int (by omega) hown', below_append hb (hst.below _) hb.size HOW.out hgrow⟩, ?_⟩
            simp only [intOf]; omega
      · have hc0 : (cc != 0) = true := by rw [bne_iff_ne]; omega
        have hs : 0 ≤ f k + cc := by rcases HMAX.out with h | h <;> omega
        have hfz : f k = 0 := HZ.out k (by omega)
        have hcp : 0 < cc := by omega
        have HFZ := Lib.hid hfz
        clear hgo hfz
        rcases Int.lt_or_le (f k + cc) 10000 with hs2 | hs2
        · go_wp2_with (first
            | ((with_reducible refine (HK.out k _ (by assumption) (by assumption)).mono ?_); rintro e w2 ⟨rfl, hst⟩)
            | (at_builtin; refine wpList_append_own _ rfl _ _ 48 rfl w.heap.size 3 i0 (.int .i64 0) 1 8 Tryz.underlying48 hi hz0 hz1 hz2 rfl (by decide) u7 _ _ rfl ((hst.owns HOW.out).alloc _) ⟨w2.heap.size, 0, none⟩ 1 1 [.int .i64 (f k + cc)] rfl rfl (cell_one_new _ _ _) (by simp [Value.oneCell']) (by unfold maxLen; omega) (by omega) (by have := (hst.below 0).size; have := hb.size; simp; omega) ?_; intro v' w3 hown' hgrow _))
          refine ⟨⟨k + 1, _, _, by go_num, rfl, HS2.out (f k + cc) (0) (by omega) (by omega) (by omega) (by omega), own_snoc_int (by omega) hown', below_append hb (hst.below _) hb.size HOW.out hgrow⟩, ?_⟩
          have := HFZ.out; simp only [intOf]; omega
        · go_wp2_with (first
            | ((with_reducible refine (HK.out k _ (by assumption) (by assumption)).mono ?_); rintro e w2 ⟨rfl, hst⟩)
            | (at_builtin; refine wpList_append_own _ rfl _ _ 48 rfl w.heap.size 3 i0 (.int .i64 0) 1 8 Tryz.underlying48 hi hz0 hz1 hz2 rfl (by decide) u7 _ _ rfl ((hst.owns HOW.out).alloc _) ⟨w2.heap.size, 0, none⟩ 1 1 [.int .i64 ((f k + cc) % 10000)] rfl rfl (cell_one_new _ _ _) (by simp [Value.oneCell']) (by unfold maxLen; omega) (by omega) (by have := (hst.below 0).size; have := hb.size; simp; omega) ?_; intro v' w3 hown' hgrow _))
          refine ⟨⟨k + 1, _, _, by go_num, rfl, HS2.out ((f k + cc) % 10000) ((f k + cc) / 10000) (by omega) (by omega) (by omega) (by omega), own_snoc_int (by omega) hown', below_append hb (hst.below _) hb.size HOW.out hgrow⟩, ?_⟩
          have := HFZ.out; simp only [intOf]; omega
    · have hlt : n ≤ k := by omega
      have hc0 : cc = 0 := by omega
      subst hc0
      have hd : ((0 : Int) != 0) = false := rfl
      go_wp2
      go_ret
      exact ⟨⟨_, ds, k, rfl, Sl.of_owns HOW.out, HF.out, hlt⟩, hb⟩

theorem fold_val {f : Nat → Int} {n k : Nat} {ds : List Nat} (h : FoldAt f n k ds 0) (hk : n ≤ k) (hz : ∀ i, n ≤ i → f i = 0) (T : Nat) (hT : foldS f n = T) : trim ds = dig 10000 T := by
  have h1 : ∀ j, foldS f (n + j) = foldS f n := by
    intro j
    induction j with
    | zero => rfl
    | succ j ih => rw [Nat.add_succ, foldS, ih, hz (n + j) (by omega)]; omega
  have h2 := h.eq
  obtain ⟨j, rfl⟩ : ∃ j, k = n + j := ⟨k - n, by omega⟩
  rw [h1, hT] at h2
  rw [trim_dig (by omega) ds h.dlt]
  congr 1
  omega
end Go.Proofs.YtiefodlhnpondaaGreatDoor
