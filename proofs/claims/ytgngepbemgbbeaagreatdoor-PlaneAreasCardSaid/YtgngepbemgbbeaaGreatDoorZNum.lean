/-
  The walks of package integer's arithmetic on groups of digits.
  slices.Backward over a slice of groups of digits: what it hands to the rounds of a loop.
  The walks of cmp.Compare and of the comparison of two numbers of groups.
  Plain facts of plane geometry: turns, sides, crossings, distances. No code of the program is named here.
  Plain facts on rectangles. No code of the program is named here.
-/
import Derived.Test.YtgngepbemgbbeaaGreatDoorChecked
import Derived.Maps.AppendAt
import Derived.Shelf.Abstract
import Derived.RangeFuncNested
import Derived.RangeFuncBound
import Derived.RangeFuncCalls
import Derived.RangeFuncLeaves
import Derived.RangeFuncBox
import Derived.Shelf.RegionOpen
import Derived.WalkKit
import Derived.OwnWalkIn
import Derived.TacticsInMore
import Derived.LoopNIn
import Derived.LoopIn
import Derived.Test.YtgngepbemgbbeaaGreatDoorZBase
import Derived.Test.YtgngepbemgbbeaaGreatDoorZDig
namespace Go.Proofs.YtgngepbemgbbeaaGreatDoor
open Go.RowKit

/-- A slice that reads as a number. -/
abbrev Nm (w : World) (v : Value) (n : Nat) (lo hi : Nat) : Prop := Ns w v (dig 10000 n) lo hi
/-- So many groups are few. -/
def Few (n : Nat) : Prop := (dig 10000 n).length ≤ 1000000

set_option maxHeartbeats 400000 in
theorem at_any (v : Value) (xs : List Nat) (lo hi : Nat) (i : Int) (w : World) (h : Ns w v xs lo hi) (h0 : 0 ≤ i) :
    Calls Tryz.prog 165 #[v, .int .i64 i] w fun e w' => e = .returned (.int .i64 (xs[i.toNat]?.getD 0 : Nat)) ∧ w = w' := by
  have hlen := h.len
  obtain ⟨a, cap, rfl, hc, hm⟩ : ∃ a cap, v = .slice a xs.length cap ∧ xs.length ≤ cap ∧ cap ≤ maxLen := by obtain ⟨a, cap, h1, h2, h3, _⟩ := h; exact ⟨a, cap, h1, h2, h3⟩
  unfold maxLen at hm hlen
  by_cases hlt : i < xs.length
  · obtain ⟨b, off, rfl, _, _, hcc⟩ := h.at (k := i.toNat) (by omega)
    have hx : xs[i.toNat]?.getD 0 = xs[i.toNat]'(by omega) := by rw [List.getElem?_eq_getElem (by omega)]; rfl
    rw [hx]
    clear hx h
    go_enter Tryz.func165, Tryz.ntmps165
    go_wp2
    go_ret
    exact ⟨rfl, rfl⟩
  · have hx : xs[i.toNat]?.getD 0 = 0 := by rw [List.getElem?_eq_none (by omega)]; rfl
    rw [hx]
    clear hx h
    go_enter Tryz.func165, Tryz.ntmps165
    go_wp2
    go_ret
    exact ⟨rfl, rfl⟩

set_option maxHeartbeats 400000 in
theorem trimmed_any (v : Value) (xs : List Nat) (lo hi : Nat) (w : World) (h : Ns w v xs lo hi) :
    Calls Tryz.prog 159 #[v] w fun e w' => (∃ v', e = .returned v' ∧ Ns w v' (trim xs) lo hi) ∧ w = w' := by
  have hlen := h.len
  obtain ⟨a, cap, rfl, hc, hm⟩ : ∃ a cap, v = .slice a xs.length cap ∧ xs.length ≤ cap ∧ cap ≤ maxLen := by obtain ⟨a, cap, h1, h2, h3, _⟩ := h; exact ⟨a, cap, h1, h2, h3⟩
  unfold maxLen at hm hlen
  have H := Lib.hid h
  clear h
  go_enter Tryz.func159, Tryz.ntmps159
  go_wp2
  go_loop [0] (fun s => ∃ k : Nat, k ≤ xs.length ∧ s = .slice a k cap ∧ trim (xs.take k) = trim xs) (fun s => lenOf s)
  case atStart => exact ⟨xs.length, Nat.le_refl _, rfl, by simp⟩
  case round =>
    obtain ⟨k, hk, rfl, ht⟩ := hrel
    have HT := Lib.hid ht
    clear ht
    by_cases hk0 : k = 0
    · subst hk0
      go_wp2
      go_ret
      exact ⟨⟨_, rfl, by rw [← HT.out]; exact H.out.take (Nat.zero_le _)⟩, rfl⟩
    · obtain ⟨j, rfl⟩ : ∃ j, k = j + 1 := ⟨k - 1, by omega⟩
      obtain ⟨b, off, rfl, _, _, hcc⟩ := H.out.at (k := j) (by omega)
      go_wp2
      · have hz : ((xs[j] : Int) == 0) = true := by assumption
        refine ⟨⟨j, by omega, rfl, ?_⟩, by simp [lenOf]⟩
        rw [← HT.out]
        exact (trim_take_zero (by rw [List.getElem?_eq_getElem (by omega)]; simp at hz ⊢; omega) (by omega)).symm
      · have hz : ((xs[j] : Int) == 0) = false := by assumption
        go_ret
        refine ⟨⟨_, rfl, ?_⟩, rfl⟩
        rw [← HT.out, trim_take_ne (by rw [List.getElem?_eq_getElem (by omega)]; simp at hz ⊢; omega) (by omega)]
        exact H.out.take hk

theorem A_info3 : (Tryz.prog.info? 3).map (fun i => (i.zero, i.size, i.bytes)) = some (some (.int .i64 0), 1, 8) := by kernel_rfl

/-- The sum of f j times 10000 to the power of j, for all j below n. -/
def foldS (f : Nat → Int) : Nat → Int
  | 0 => 0
  | n + 1 => foldS f n + 10000 ^ n * f n

/-- What is known of fold's digits and carry before round i. -/
structure FoldAt (f : Nat → Int) (n i : Nat) (ds : List Nat) (c : Int) : Prop where
  len : ds.length = i
  dlt : ∀ d ∈ ds, d < 10000
  eq : (val 10000 ds : Int) + 10000 ^ i * c = foldS f i
  clo : -1 ≤ c
  chi : c ≤ 100000000
  far : i ≤ n ∨ (c + (i - n : Nat) ≤ 100000000 ∧ 0 ≤ c)

theorem FoldAt.carry {f : Nat → Int} {n i : Nat} {ds : List Nat} {c : Int} (h : FoldAt f n i ds c) (hn : n ≤ i) (hi : i ≤ n) (ht : 0 ≤ foldS f n) : 0 ≤ c := by
  obtain rfl : n = i := by omega
  have h1 := val_lt (B := 10000) (by omega) ds h.dlt
  have h2 := h.eq
  rw [h.len] at h1
  by_cases hc : 0 ≤ c
  · exact hc
  · have h3 : c = -1 := by have := h.clo; omega
    rw [h3] at h2
    have h4 : ((10000 ^ n : Nat) : Int) = 10000 ^ n := by simp
    omega

theorem FoldAt.step {f : Nat → Int} {n k : Nat} {ds : List Nat} {c : Int} (h : FoldAt f n k ds c) (hhi : ∀ i, f i ≤ 99990000) (hz : ∀ i, n ≤ i → f i = 0) (ht : 0 ≤ foldS f n)
    (hgo : k < n ∨ c ≠ 0) (d c' : Int) (hd0 : 0 ≤ d) (hd1 : d < 10000) (hc : -1 ≤ c') (hs : f k + c = d + 10000 * c') :
    FoldAt f n (k + 1) (ds ++ [d.toNat]) c' := by
  have h1 := hhi k
  have h2 := h.chi
  have h3 := h.clo
  refine ⟨by simp [h.len], ?_, ?_, hc, by omega, ?_⟩
  · intro x hx
    rcases List.mem_append.1 hx with hx | hx
    · exact h.dlt x hx
    · simp at hx; omega
  · rw [val_append, h.len]
    have h4 : ((10000 ^ k : Nat) : Int) = 10000 ^ k := by simp
    have h5 : (d.toNat : Int) = d := by omega
    simp only [val, Int.natCast_add, Int.natCast_mul, h4, foldS, ← h.eq, h5, Int.natCast_zero, Int.mul_zero, Int.add_zero]
    have h6 : (10000 : Int) ^ (k + 1) * c' = 10000 ^ k * (10000 * c') := by rw [Int.pow_succ, Int.mul_assoc]
    rw [h6, Int.add_assoc, ← Int.mul_add, ← hs, Int.mul_add]
    omega
  · by_cases hk : k < n
    · left; omega
    · right
      have h7 : 0 ≤ c := by
        rcases h.far with h8 | h8
        · exact h.carry (by omega) h8 ht
        · exact h8.2
      have h9 : f k = 0 := hz k (by omega)
      rcases h.far with h8 | h8
      · omega
      · omega

set_option maxRecDepth 100000 in
set_option maxHeartbeats 400000 in
theorem fold_any (K : Nat) (caps : Array Value) (f : Nat → Int) (n : Nat) (w : World)
    (hent : ∀ (args : Array Value) (w : World), (callFunc K args).run Tryz.prog w = .ok (.enter K args) w)
    (hK : ∀ (i : Nat) (w' : World), i ≤ 200000000 → Below w.heap.size w w' → Calls Tryz.prog K (#[.int .i64 i] ++ caps) w' fun e w'' => e = .returned (.int .i64 (f i)) ∧ Still w' w'')
    (hn : n ≤ 1000000) (hlo : ∀ i, -9999 ≤ f i) (hhi : ∀ i, f i ≤ 99990000) (hz : ∀ i, n ≤ i → f i = 0) (ht : 0 ≤ foldS f n) :
    Calls Tryz.prog 163 #[.int .i64 n, .int .i64 0, .func (.func K) #[] caps] w fun e w' => (∃ v ds k, e = .returned v ∧ Ns w' v ds w.heap.size w'.heap.size ∧ FoldAt f n k ds 0 ∧ n ≤ k) ∧ Below w.heap.size w w' := by
  obtain ⟨i0, hi, hz0, hz1, hz2⟩ := info_parts A_info3
  have HK := Lib.hid hK
  clear hK
  have HZ := Lib.hid hz
  have HLO := Lib.hid hlo
  have HHI := Lib.hid hhi
  have HT := Lib.hid ht
  clear hz hlo hhi ht
  go_enter Tryz.func163, Tryz.ntmps163
  go_wp2_with (at_make; refine wpList_make_own _ rfl _ _ 121 rfl w.heap.size 3 i0 (.int .i64 0) 1 Tryz.underlying121 hi hz0 hz1 .i64 .i64 _ (n + 1) rfl rfl (by omega) (by rw [hz2]; omega) (by unfold maxLen; omega) (Nat.le_refl _) ?_; intro w1 hown hgrow)
  have hb1 : Below w.heap.size w w1 := (Below.refl _ _).grown hgrow (Nat.le_refl _) (by intro k e; cases e)
  clear hgrow
  have HO := Lib.hid hown
  clear hown
  go_loopw [1, 7, 8] (fun c v i wr => ∃ (k : Nat) (ds : List Nat) (cc : Int), i = .int .i64 k ∧ c = .int .i64 cc ∧ FoldAt f n k ds cc ∧ wr.ownsRow w.heap.size 3 1 v ds.length (ds.map fun d : Nat => Value.int .i64 (d : Int)) ∧ Below w.heap.size w wr)
    (fun c _ i _ => (n - (intOf i).toNat) * 1000000000 + (intOf c).toNat)
  case atStart => exact ⟨0, [], 0, rfl, rfl, ⟨rfl, by simp, by simp [val, foldS], by omega, by omega, by omega⟩, HO.out, hb1⟩
  case round =>
    obtain ⟨k, ds, cc, rfl, rfl, hf, hown, hb⟩ := hrel
    have f4 := hf.clo
    have f5 := hf.chi
    have f6 := hf.far
    have HF := Lib.hid hf
    have hds : ds.length ≤ 200000000 := by have := hf.len; omega
    have HL := Lib.hid hf.len
    have HOW := Lib.hid hown
    have hko : k ≤ 200000000 := by omega
    have l1 := HLO.out k
    have l2 := HHI.out k
    have hstep := fun hgo => hf.step HHI.out HZ.out HT.out (hgo : k < n ∨ cc ≠ 0)
    have HS := Lib.hid hstep
    clear hf hown hstep
    have hmax : 0 ≤ f k + cc ∨ k < n := by
      by_cases hlt : k < n
      · exact .inr hlt
      · left
        have h7 : 0 ≤ cc := by
          rcases f6 with h8 | h8
          · exact HF.out.carry (by omega) h8 HT.out
          · exact h8.2
        have h9 : f k = 0 := HZ.out k (by omega)
        omega
    have HMAX := Lib.hid hmax
    clear hmax
    by_cases hgo : k < n ∨ cc ≠ 0
    · have HS2 := Lib.hid (HS.out hgo)
      clear HS
      by_cases hlt : k < n
      · clear hgo
        rcases Int.lt_or_le (f k + cc) 0 with hs | hs
        · go_wp2_with (first
            | ((with_reducible refine (HK.out k _ (by assumption) (by assumption)).mono ?_); rintro e w2 ⟨rfl, hst⟩)
            | (at_builtin; refine wpList_append_own _ rfl _ _ 121 rfl w.heap.size 3 i0 (.int .i64 0) 1 8 Tryz.underlying121 hi hz0 hz1 hz2 rfl (by decide) u7 _ _ rfl ((hst.owns HOW.out).alloc _) ⟨w2.heap.size, 0, none⟩ 1 1 [.int .i64 (f k + cc + 10000)] rfl rfl (cell_one_new _ _ _) (by simp [Value.oneCell']) (by unfold maxLen; omega) (by omega) (by have := (hst.below 0).size; have := hb.size; simp; omega) ?_; intro v' w3 hown' hgrow _))
          refine ⟨⟨k + 1, _, _, by go_num, rfl, HS2.out (f k + cc + 10000) (-1) (by omega) (by omega) (by omega) (by omega), own_snoc_int (by omega) hown', below_append hb (hst.below _) hb.size HOW.out hgrow⟩, ?_⟩
          simp only [intOf]; omega
        · rcases Int.lt_or_le (f k + cc) 10000 with hs2 | hs2
          · go_wp2_with (first
              | ((with_reducible refine (HK.out k _ (by assumption) (by assumption)).mono ?_); rintro e w2 ⟨rfl, hst⟩)
              | (at_builtin; refine wpList_append_own _ rfl _ _ 121 rfl w.heap.size 3 i0 (.int .i64 0) 1 8 Tryz.underlying121 hi hz0 hz1 hz2 rfl (by decide) u7 _ _ rfl ((hst.owns HOW.out).alloc _) ⟨w2.heap.size, 0, none⟩ 1 1 [.int .i64 (f k + cc)] rfl rfl (cell_one_new _ _ _) (by simp [Value.oneCell']) (by unfold maxLen; omega) (by omega) (by have := (hst.below 0).size; have := hb.size; simp; omega) ?_; intro v' w3 hown' hgrow _))
            refine ⟨⟨k + 1, _, _, by go_num, rfl, HS2.out (f k + cc) (0) (by omega) (by omega) (by omega) (by omega), own_snoc_int (by omega) hown', below_append hb (hst.below _) hb.size HOW.out hgrow⟩, ?_⟩
            simp only [intOf]; omega
          · go_wp2_with (first
              | ((with_reducible refine (HK.out k _ (by assumption) (by assumption)).mono ?_); rintro e w2 ⟨rfl, hst⟩)
              | (at_builtin; refine wpList_append_own _ rfl _ _ 121 rfl w.heap.size 3 i0 (.int .i64 0) 1 8 Tryz.underlying121 hi hz0 hz1 hz2 rfl (by decide) u7 _ _ rfl ((hst.owns HOW.out).alloc _) ⟨w2.heap.size, 0, none⟩ 1 1 [.int .i64 ((f k + cc) % 10000)] rfl rfl (cell_one_new _ _ _) (by simp [Value.oneCell']) (by unfold maxLen; omega) (by omega) (by have := (hst.below 0).size; have := hb.size; simp; omega) ?_; intro v' w3 hown' hgrow _))
            refine ⟨⟨k + 1, _, _, by go_num, rfl, HS2.out ((f k + cc) % 10000) ((f k + cc) / 10000) (by omega) (by omega) (by omega) (by omega), own_snoc_int (by omega) hown', below_append hb (hst.below _) hb.size HOW.out hgrow⟩, ?_⟩
            simp only [intOf]; omega
      · have hc0 : (cc != 0) = true := by rw [bne_iff_ne]; omega
        have hs : 0 ≤ f k + cc := by rcases HMAX.out with h | h <;> omega
        have hfz : f k = 0 := HZ.out k (by omega)
        have hcp : 0 < cc := by omega
        have HFZ := Lib.hid hfz
        clear hgo hfz
        rcases Int.lt_or_le (f k + cc) 10000 with hs2 | hs2
        · go_wp2_with (first
            | ((with_reducible refine (HK.out k _ (by assumption) (by assumption)).mono ?_); rintro e w2 ⟨rfl, hst⟩)
            | (at_builtin; refine wpList_append_own _ rfl _ _ 121 rfl w.heap.size 3 i0 (.int .i64 0) 1 8 Tryz.underlying121 hi hz0 hz1 hz2 rfl (by decide) u7 _ _ rfl ((hst.owns HOW.out).alloc _) ⟨w2.heap.size, 0, none⟩ 1 1 [.int .i64 (f k + cc)] rfl rfl (cell_one_new _ _ _) (by simp [Value.oneCell']) (by unfold maxLen; omega) (by omega) (by have := (hst.below 0).size; have := hb.size; simp; omega) ?_; intro v' w3 hown' hgrow _))
          refine ⟨⟨k + 1, _, _, by go_num, rfl, HS2.out (f k + cc) (0) (by omega) (by omega) (by omega) (by omega), own_snoc_int (by omega) hown', below_append hb (hst.below _) hb.size HOW.out hgrow⟩, ?_⟩
          have := HFZ.out; simp only [intOf]; omega
        · go_wp2_with (first
            | ((with_reducible refine (HK.out k _ (by assumption) (by assumption)).mono ?_); rintro e w2 ⟨rfl, hst⟩)
            | (at_builtin; refine wpList_append_own _ rfl _ _ 121 rfl w.heap.size 3 i0 (.int .i64 0) 1 8 Tryz.underlying121 hi hz0 hz1 hz2 rfl (by decide) u7 _ _ rfl ((hst.owns HOW.out).alloc _) ⟨w2.heap.size, 0, none⟩ 1 1 [.int .i64 ((f k + cc) % 10000)] rfl rfl (cell_one_new _ _ _) (by simp [Value.oneCell']) (by unfold maxLen; omega) (by omega) (by have := (hst.below 0).size; have := hb.size; simp; omega) ?_; intro v' w3 hown' hgrow _))
          refine ⟨⟨k + 1, _, _, by go_num, rfl, HS2.out ((f k + cc) % 10000) ((f k + cc) / 10000) (by omega) (by omega) (by omega) (by omega), own_snoc_int (by omega) hown', below_append hb (hst.below _) hb.size HOW.out hgrow⟩, ?_⟩
          have := HFZ.out; simp only [intOf]; omega
    · have hlt : n ≤ k := by omega
      have hc0 : cc = 0 := by omega
      subst hc0
      have hd : ((0 : Int) != 0) = false := rfl
      go_wp2
      go_ret
      exact ⟨⟨_, ds, k, rfl, Sl.of_owns HOW.out, HF.out, hlt⟩, hb⟩

theorem fold_val {f : Nat → Int} {n k : Nat} {ds : List Nat} (h : FoldAt f n k ds 0) (hk : n ≤ k) (hz : ∀ i, n ≤ i → f i = 0) (T : Nat) (hT : foldS f n = T) : trim ds = dig 10000 T := by
  have h1 : ∀ j, foldS f (n + j) = foldS f n := by
    intro j
    induction j with
    | zero => rfl
    | succ j ih => rw [Nat.add_succ, foldS, ih, hz (n + j) (by omega)]; omega
  have h2 := h.eq
  obtain ⟨j, rfl⟩ : ∃ j, k = n + j := ⟨k - n, by omega⟩
  rw [h1, hT] at h2
  rw [trim_dig (by omega) ds h.dlt]
  congr 1
  omega
end Go.Proofs.YtgngepbemgbbeaaGreatDoor

namespace Go.Proofs.YtgngepbemgbbeaaGreatDoor
open Go.RowKit Go.Shelf
attribute [local go_sem] Oper.semAt_some

/-- What a round is handed: an index below L, and a group of digits. -/
abbrev BkEl (L : Nat) := { p : Nat × Nat // p.1 < L ∧ p.2 < 10000 }
def bkEnc {L : Nat} (x : BkEl L) : Array Value := #[Value.int .i64 (x.1.1 : Int), Value.int .i64 (x.1.2 : Int)]
/-- What has come after k rounds. -/
def bkUp (xs : List Nat) (k : Nat) : List (Nat × Nat) := (List.range k).map fun j => (xs.length - 1 - j, xs[xs.length - 1 - j]?.getD 0)
theorem bkUp_succ (xs : List Nat) (k : Nat) : bkUp xs (k + 1) = bkUp xs k ++ [(xs.length - 1 - k, xs[xs.length - 1 - k]?.getD 0)] := by simp [bkUp, List.range_succ]
theorem bkUp_length (xs : List Nat) (k : Nat) : (bkUp xs k).length = k := by simp [bkUp]

/-- What a round keeps: what lay below n₀, and the box of the slice that is gone through. -/
def KeepB (n₀ Bs : Nat) (A B : World) : Prop := Below n₀ A B ∧ B.heap[Bs]? = A.heap[Bs]?
theorem KeepB.refl (n₀ Bs : Nat) (A : World) : KeepB n₀ Bs A A := ⟨Below.refl _ _, rfl⟩
theorem KeepB.trans {n₀ Bs : Nat} {A B C : World} (h : KeepB n₀ Bs A B) (k : KeepB n₀ Bs B C) : KeepB n₀ Bs A C := ⟨h.1.trans k.1, k.2.trans h.2⟩
theorem KeepB.of_below {n₀ Bs m : Nat} {A B : World} (h : Below m A B) (h1 : n₀ ≤ m) (h2 : Bs < m) : KeepB n₀ Bs A B := ⟨h.mono h1, h.block Bs h2⟩
theorem KeepB.setCell {n₀ Bs : Nat} {A B : World} (h : KeepB n₀ Bs A B) {p : Addr} (hp : n₀ ≤ p.block) (hq : Bs ≠ p.block) (u : Value) : KeepB n₀ Bs A (B.setCell p u) :=
  ⟨h.1.setCell hp u, (Below.heap_setCell _ _ _ _ hq).trans h.2⟩
theorem KeepB.cell {n₀ Bs : Nat} {A B : World} (h : KeepB n₀ Bs A B) (o : Nat) : B.cell? ⟨Bs, o, none⟩ = A.cell? ⟨Bs, o, none⟩ := World.cell?_of_block (w := A) h.2
theorem keepB_b {n₀ Bs : Nat} {w : World} (hn : n₀ ≤ w.heap.size) (hb : Bs < w.heap.size) (W : World) (l : Nat) (o o' : Obj) (hl : w.heap.size ≤ l) (h : W.heap[l]? = some o) (h1 : o.isCells = false) (h2 : o.isWalk = false) : KeepB n₀ Bs W (W.putObj l o') :=
  ⟨belowK_b hn W l o o' hl h h1 h2, (grownBy_putObj' W l o').block Bs (by have := (Array.getElem?_eq_some_iff.1 h).1; omega) (fun e => by simp only [Option.some.injEq] at e; omega)⟩

set_option maxRecDepth 100000 in
set_option maxHeartbeats 2000000 in
theorem back1_in (F : Fence) (n : Nat) (h8 : F.fn 194) (hro : F.round = none) (hn : 1 ≤ n) (l Bs n₀ hi lo : Nat) (sv : Value) (xs : List Nat) (hb : hi ≤ n₀) (hd : ∀ d ∈ xs, d < 10000) (J Jx : List (BkEl xs.length) → World → Prop)
    (hY : ∀ pre x W, J pre W → pre.length < xs.length → YieldAt F (n - 1) Tryz.prog l (bkEnc x) W fun e W' =>
      (e = .returned (.bool true) ∧ J (pre ++ [x]) W' ∧ KeepB n₀ Bs W W') ∨ (e = .returned (.bool false) ∧ Jx (pre ++ [x]) W'))
    (W : World) (hBs : W.cell? ⟨Bs, 0, none⟩ = some sv) (hI : Ns W sv xs lo hi) (h0 : J [] W) :
    CallsIn F n Tryz.prog 194 #[.func (.yield l) #[] #[], .pointer (some ⟨Bs, 0, none⟩)] W fun e W' => (∃ v, e = .returned v) ∧
      ((∃ ys, ys.map (·.1) = bkUp xs xs.length ∧ J ys W') ∨ (∃ pre, (∃ k, k ≤ xs.length ∧ pre.map (·.1) = bkUp xs k) ∧ Jx pre W')) := by
  obtain ⟨a, cap, rfl⟩ : ∃ a cap, sv = .slice a xs.length cap := by obtain ⟨a, cap, e, _⟩ := hI; exact ⟨a, cap, e⟩
  have hlen := hI.len
  unfold maxLen at hlen
  have HI := Lib.hid hI
  clear hI
  refine callsIn_of_wp Tryz.func194 rfl h8 ?_ hro
  simp only [Tryz.ntmps194, List.size_toArray, List.length_cons, List.length_nil, Nat.reduceAdd, Nat.reduceSub, Array.replicate_succ, Array.replicate_zero, List.push_toArray, List.append_toArray, List.nil_append, List.cons_append]
  gi_wp2
  gi_loopw [3] (fun i wr => ∃ (k : Nat) (ys : List (BkEl xs.length)), k ≤ xs.length ∧ i = .int .i64 ((xs.length : Int) - 1 - k) ∧ ys.map (·.1) = bkUp xs k ∧ J ys wr ∧ KeepB n₀ Bs W wr)
    (fun i _ => (intOf i + 1).toNat)
  case atStart => exact ⟨0, [], Nat.zero_le _, by go_num, rfl, h0, KeepB.refl _ _ _⟩
  case round =>
    obtain ⟨k, ys, hk, rfl, hys, hJs, hnx⟩ := hrel
    have hylen : ys.length = k := by have := congrArg List.length hys; simpa [bkUp_length] using this
    have HYS := Lib.hid hys
    clear hys
    by_cases hlt : k < xs.length
    · have hcB := (hnx.cell 0).trans hBs
      have hIr : Ns wr _ xs lo hi := HI.out.below hnx.1 hb
      obtain ⟨i, hk2, hi2⟩ : ∃ i, i < xs.length ∧ i = xs.length - 1 - k := ⟨_, by omega, rfl⟩
      have hi3 : (xs.length : Int) - 1 - k = i := by omega
      rw [hi3]
      have HI2 := Lib.hid hi2
      clear hi2 hi3
      obtain ⟨b, off, rfl, _, _, hcx⟩ := hIr.at (k := i) hk2
      have hx : xs[i] < 10000 := hd _ (List.getElem_mem _)
      obtain ⟨fn, tmps, assign, body, hy, hR⟩ := hY ys ⟨(i, xs[i]), hk2, hx⟩ wr hJs (by omega)
      simp only [bkEnc] at hy
      clear hIr
      gi_wp2
      refine hR.mono ?_
      rintro e W3 (⟨rfl, hJ3, hk3⟩ | ⟨rfl, hJx3⟩)
      · gi_wp2
        go_roundw
        case rel => exact ⟨k + 1, _, by omega, congrArg (Value.int .i64) (by have := HI2.out; omega), by rw [List.map_append, HYS.out, bkUp_succ]; simp [HI2.out, show xs.length - 1 - k < xs.length from by omega], hJ3, hnx.trans hk3⟩
        case measure => have := HI2.out; simp only [intOf]; omega
      · gi_wp2
        refine bodyPost_ret (results_none rfl _ _ _) rfl ?_
        exact ⟨⟨_, rfl⟩, .inr ⟨_, ⟨k + 1, by omega, by rw [List.map_append, HYS.out, bkUp_succ]; simp [HI2.out, show xs.length - 1 - k < xs.length from by omega]⟩, hJx3⟩⟩
    · obtain rfl : k = xs.length := by omega
      gi_wp2
      go_end0
      exact ⟨⟨_, rfl⟩, .inl ⟨ys, HYS.out, hJs⟩⟩

set_option maxHeartbeats 1000000 in
/-- slices.Backward boxes the slice value; the function value captures the box. -/
theorem back_in (F : Fence) (n : Nat) (h6 : F.fn 158) (hro : F.round = none) (a : Option Addr) (len cap : Nat) (w : World) :
    CallsIn F n Tryz.prog 158 #[.slice a len cap] w fun e w' => e = .returned (.func (.func 194) #[] #[.pointer (some ⟨w.heap.size, 0, none⟩)]) ∧ w.alloc (.cells #[.slice a len cap] 121) = w' := by
  refine callsIn_of_wp Tryz.func158 rfl h6 ?_ hro
  simp only [Tryz.ntmps158, List.size_toArray, List.length_cons, List.length_nil, Nat.reduceAdd, Nat.reduceSub, Array.replicate_succ, Array.replicate_zero, List.push_toArray, List.append_toArray, List.nil_append, List.cons_append]
  gi_wp2
  go_ret
  exact ⟨rfl, rfl⟩

/-- slices.Backward hands back a value whose rounds go through the slice from its end. n₀: what a round must keep. -/
theorem back_stops (F : Fence) (n : Nat) (h8 : F.fn 194) (hro : F.round = none) (hn : 1 ≤ n) (Bs n₀ lo hi : Nat) (sv : Value) (xs : List Nat) (w : World) (hBs : Bs < w.heap.size) (hn₀ : n₀ ≤ w.heap.size)
    (hc : w.cell? ⟨Bs, 0, none⟩ = some sv) (hI : Ns w sv xs lo hi) (hb : hi ≤ n₀) (hd : ∀ d ∈ xs, d < 10000) :
    SeqStopsK F n Tryz.prog 194 #[.pointer (some ⟨Bs, 0, none⟩)] (bkEnc (L := xs.length)) (KeepB n₀ Bs) (fun ys => ys.map (·.1) = bkUp xs xs.length)
      (fun pre => ∃ k, k ≤ xs.length ∧ pre.map (·.1) = bkUp xs k) xs.length w := fun l J Jx W hW _ _ hY h0 =>
  back1_in F n h8 hro hn l Bs n₀ hi lo sv xs hb hd J Jx hY W ((hW.cell (p := ⟨Bs, 0, none⟩) hBs).trans hc) (hI.below hW (by omega)) h0
end Go.Proofs.YtgngepbemgbbeaaGreatDoor

namespace Go.Proofs.YtgngepbemgbbeaaGreatDoor
open Go.RowKit Go.Shelf
attribute [local go_sem] Oper.semAt_some

/-- The order of two integers: -1, 0 or 1. -/
def cmpI (a b : Int) : Int := if a < b then -1 else if b < a then 1 else 0

set_option maxHeartbeats 400000 in
theorem cmpCompare_any (a b : Int) (w : World) :
    Calls Tryz.prog 79 #[.int .i64 a, .int .i64 b] w fun e w' => e = .returned (.int .i64 (cmpI a b)) ∧ w = w' := by
  have h1 : (a != a) = false := by simp
  have h2 : (b != b) = false := by simp
  rcases Int.lt_trichotomy a b with h | h | h
  · have hc : cmpI a b = -1 := by simp [cmpI, h]
    rw [hc]
    clear hc
    go_enter Tryz.func79, Tryz.ntmps79
    go_wp2
    go_ret
    exact ⟨rfl, rfl⟩
  · subst h
    have hc : cmpI a a = 0 := by simp [cmpI]
    rw [hc]
    clear hc
    go_enter Tryz.func79, Tryz.ntmps79
    go_wp2
    go_ret
    exact ⟨rfl, rfl⟩
  · have hc : cmpI a b = 1 := by simp [cmpI, h]; omega
    have hn : ¬ a < b := by omega
    rw [hc]
    clear hc
    go_enter Tryz.func79, Tryz.ntmps79
    go_wp2
    go_ret
    exact ⟨rfl, rfl⟩

/-- Of two numbers with different numbers of groups the one with more is greater. -/
theorem cmp_length {B n m : Nat} (hB : 2 ≤ B) (h : ¬ (dig B n).length = (dig B m).length) : cmpI (dig B n).length (dig B m).length = cmpI n m := by
  unfold cmpI
  rcases Nat.lt_or_gt_of_ne h with h1 | h1
  · have : n < m := by
      rcases Nat.lt_or_ge n m with h2 | h2
      · exact h2
      · have := dig_length_mono hB h2; omega
    rw [if_pos (by omega), if_pos (by omega)]
  · have : m < n := by
      rcases Nat.lt_or_ge m n with h2 | h2
      · exact h2
      · have := dig_length_mono hB h2; omega
    rw [if_neg (by omega), if_pos (by omega), if_neg (by omega), if_pos (by omega)]

theorem mem_bkUp {xs : List Nat} {k : Nat} {p : Nat × Nat} (h : p ∈ bkUp xs k) : ∃ j, j < k ∧ p = (xs.length - 1 - j, xs[xs.length - 1 - j]?.getD 0) := by
  simp only [bkUp, List.mem_map, List.mem_range] at h
  obtain ⟨j, hj, rfl⟩ := h
  exact ⟨j, hj, rfl⟩

theorem back_equal {B n m : Nat} (hB : 2 ≤ B) (hl : (dig B n).length = (dig B m).length) (ys : List (BkEl (dig B n).length)) (hys : ys.map (·.1) = bkUp (dig B n) (dig B n).length) (hp : ∀ p ∈ ys, (dig B m)[p.1.1]?.getD 0 = p.1.2) : n = m := by
  refine dig_inj hB (List.ext_getElem hl fun i h1 h2 => ?_)
  have hm : (i, (dig B n)[i]?.getD 0) ∈ ys.map (·.1) := by
    rw [hys]
    simp only [bkUp, List.mem_map, List.mem_range]
    exact ⟨(dig B n).length - 1 - i, by omega, by rw [show (dig B n).length - 1 - ((dig B n).length - 1 - i) = i from by omega]⟩
  obtain ⟨p, hp1, hp2⟩ := List.mem_map.1 hm
  have := hp p hp1
  rw [hp2] at this
  simp only [List.getElem?_eq_getElem h1, List.getElem?_eq_getElem h2, Option.getD_some] at this
  exact this.symm

theorem val_cmp {B : Nat} (hB : 2 ≤ B) : ∀ (a b : List Nat) (x y : Nat), a.length = b.length → (∀ d ∈ a, d < B) → (∀ d ∈ b, d < B) → x < y → ∀ c, val B (a ++ x :: c) < val B (b ++ y :: c) := by
  intro a b x y hl ha hb hxy c
  rw [val_append, val_append, hl]
  have h1 := val_lt hB a ha
  rw [hl] at h1
  simp only [val]
  have h2 : B ^ b.length * (x + B * val B c) + B ^ b.length ≤ B ^ b.length * (y + B * val B c) := by
    rw [← Nat.mul_succ]
    exact Nat.mul_le_mul_left _ (by omega)
  omega

theorem back_first {B n m : Nat} (hB : 2 ≤ B) (hl : (dig B n).length = (dig B m).length) (ini : List (BkEl (dig B n).length)) (last : BkEl (dig B n).length) (k : Nat) (hk : k ≤ (dig B n).length)
    (hys : (ini ++ [last]).map (·.1) = bkUp (dig B n) k) (hp : ∀ p ∈ ini, (dig B m)[p.1.1]?.getD 0 = p.1.2) (hne : ¬ (dig B m)[last.1.1]?.getD 0 = last.1.2) :
    cmpI (last.1.2 : Nat) ((dig B m)[last.1.1]?.getD 0 : Nat) = cmpI n m := by
  obtain ⟨j, rfl⟩ : ∃ j, k = j + 1 := by
    cases k with
    | zero => simp [bkUp] at hys
    | succ j => exact ⟨j, rfl⟩
  rw [bkUp_succ, List.map_append] at hys
  obtain ⟨h1, h2⟩ := List.append_inj' hys rfl
  simp only [List.map_cons, List.map_nil, List.cons.injEq, and_true] at h2
  obtain ⟨i, hi⟩ : ∃ i, i = (dig B n).length - 1 - j := ⟨_, rfl⟩
  rw [← hi] at h2
  have hin : i < (dig B n).length := by omega
  have him : i < (dig B m).length := by omega
  rw [h2] at hne ⊢
  simp only [List.getElem?_eq_getElem hin, List.getElem?_eq_getElem him, Option.getD_some] at hne ⊢
  -- behind i the digits are the same
  have htail : (dig B n).drop (i + 1) = (dig B m).drop (i + 1) := by
    refine List.ext_getElem (by simp [hl]) fun r h3 h4 => ?_
    simp only [List.length_drop] at h3 h4
    have hm : (i + 1 + r, (dig B n)[i + 1 + r]?.getD 0) ∈ ini.map (·.1) := by
      rw [h1]
      simp only [bkUp, List.mem_map, List.mem_range]
      exact ⟨(dig B n).length - 1 - (i + 1 + r), by omega, by rw [show (dig B n).length - 1 - ((dig B n).length - 1 - (i + 1 + r)) = i + 1 + r from by omega]⟩
    obtain ⟨p, hp1, hp2⟩ := List.mem_map.1 hm
    have := hp p hp1
    rw [hp2] at this
    simp only [List.getElem?_eq_getElem (show i + 1 + r < (dig B n).length from by omega), List.getElem?_eq_getElem (show i + 1 + r < (dig B m).length from by omega), Option.getD_some] at this
    simp only [List.getElem_drop]
    exact this.symm
  have en : dig B n = (dig B n).take i ++ (dig B n)[i] :: (dig B n).drop (i + 1) := by rw [List.getElem_cons_drop, List.take_append_drop]
  have em : dig B m = (dig B m).take i ++ (dig B m)[i] :: (dig B n).drop (i + 1) := by rw [htail, List.getElem_cons_drop, List.take_append_drop]
  have vn := val_dig hB n
  have vm := val_dig hB m
  have hlen : ((dig B n).take i).length = ((dig B m).take i).length := by simp; omega
  have dn : ∀ d ∈ (dig B n).take i, d < B := fun d hd => dig_lt hB n d (List.mem_of_mem_take hd)
  have dm : ∀ d ∈ (dig B m).take i, d < B := fun d hd => dig_lt hB m d (List.mem_of_mem_take hd)
  rcases Nat.lt_or_gt_of_ne (fun h => hne h.symm : (dig B n)[i] ≠ (dig B m)[i]) with h5 | h5
  · have h6 := val_cmp hB _ _ _ _ hlen dn dm h5 ((dig B n).drop (i + 1))
    rw [← en, ← em, vn, vm] at h6
    unfold cmpI
    rw [if_pos (by omega), if_pos (by omega)]
  · have h6 := val_cmp hB _ _ _ _ hlen.symm dm dn h5 ((dig B n).drop (i + 1))
    rw [← en, ← em, vn, vm] at h6
    unfold cmpI
    rw [if_neg (by omega), if_pos (by omega), if_neg (by omega), if_pos (by omega)]

theorem Sl.own {W W' : World} {row : Option Nat} {v : Value} {n sz : Nat} {cs : List Value} {lo hi : Nat} (h : Sl W v n sz cs lo hi) (hg : W.grownBy W' row) (hr : ∀ r, row = some r → ∃ o : Obj, W.heap[r]? = some o ∧ o.isCells = false) : Sl W' v n sz cs lo hi := by
  obtain ⟨a, cap, hv, h3, h4, h5, h6, h7⟩ := h
  refine ⟨a, cap, hv, h3, h4, h5, h6, fun ad ha => ?_⟩
  obtain ⟨b, off, e, l1, l2, l3⟩ := h7 ad ha
  exact ⟨b, off, e, l1, l2, fun i u hu => cell_kept (l3 i u hu) hg hr⟩

set_option maxRecDepth 100000 in
set_option maxHeartbeats 2000000 in
theorem compare_any (v1 v2 : Value) (n m : Nat) (lo1 hi1 lo2 hi2 : Nat) (w : World) (h1 : Nm w v1 n lo1 hi1) (h2 : Nm w v2 m lo2 hi2) (b1 : hi1 ≤ w.heap.size) (b2 : hi2 ≤ w.heap.size) :
    Calls Tryz.prog 123 #[v1, v2] w fun e w' => e = .returned (.int .i64 (cmpI n m)) ∧ Below w.heap.size w w' := by
  obtain ⟨a1, cap1, rfl⟩ : ∃ a cap, v1 = .slice a (dig 10000 n).length cap := by obtain ⟨a, cap, e, _⟩ := h1; exact ⟨a, cap, e⟩
  obtain ⟨a2, cap2, rfl⟩ : ∃ a cap, v2 = .slice a (dig 10000 m).length cap := by obtain ⟨a, cap, e, _⟩ := h2; exact ⟨a, cap, e⟩
  have g1 := h1.len
  have g2 := h2.len
  unfold maxLen at g1 g2
  have H1 := Lib.hid h1
  have H2 := Lib.hid h2
  clear h1 h2
  by_cases hl : (dig 10000 n).length = (dig 10000 m).length
  · have hlb : (((dig 10000 n).length : Int) != ((dig 10000 m).length : Int)) = false := by rw [bne_eq_false_iff_eq]; omega
    have HL := Lib.hid hl
    clear hl
    refine (callsIn_wide (n := 3)).1 ?_
    refine callsIn_of_wp_marks Tryz.func123 rfl trivial ?_ rfl
    simp only [Tryz.ntmps123, List.size_toArray, List.length_cons, List.length_nil, Nat.reduceAdd, Nat.reduceSub, Array.replicate_succ, Array.replicate_zero, List.push_toArray, List.append_toArray, List.nil_append, List.cons_append]
    gi_wp2_with (refine ⟨trivial, ?_⟩; gi_at_call 158; refine (back_in Fence.wide _ trivial rfl _ _ _ _).mono ?_; rintro e w' ⟨rfl, rfl⟩)
    have bM := Boxed.new w 121 (.slice a2 (dig 10000 m).length cap2)
    have bR := Boxed.new (w.alloc (.cells #[.slice a2 (dig 10000 m).length cap2] 121)) 3 (.int .i64 0)
    rw [World.size_alloc] at bR
    obtain ⟨W0, hW0⟩ : ∃ W0, (w.alloc (.cells #[.slice a2 (dig 10000 m).length cap2] 121)).alloc (.cells #[.int .i64 0] 3) = W0 := ⟨_, rfl⟩
    have hs0 : W0.heap.size = w.heap.size + 1 + 1 := by rw [← hW0]; simp
    have hB0 : Below w.heap.size w W0 := by rw [← hW0]; exact ((Below.refl _ _).alloc (Nat.le_refl _) _).alloc (by simp) _
    have bM0 : Boxed W0 w.heap.size 121 (.slice a2 (dig 10000 m).length cap2) := by rw [← hW0]; exact bM.alloc _
    have bR0 : Boxed W0 (w.heap.size + 1) 3 (.int .i64 0) := by rw [← hW0]; exact bR
    have bN := Boxed.new W0 121 (.slice a1 (dig 10000 n).length cap1)
    rw [hs0] at bN
    rw [hW0]
    clear hW0 bM bR
    have hl1 := H1.out
    have hl2 := H2.out
    have hB1 : Below W0.heap.size W0 (W0.alloc (.cells #[.slice a1 (dig 10000 n).length cap1] 121)) := (Below.refl _ _).alloc (Nat.le_refl _) _
    refine wpIn_rangeFunc_ownG rfl (by omega) (gf := 194) (lb := #[.pointer (some ⟨w.heap.size + 1 + 1, 0, none⟩)]) rfl trivial (enters_of Tryz.func194 (by kernel_rfl) rfl)
      (back_stops Fence.wide _ trivial rfl (by omega) (w.heap.size + 1 + 1) w.heap.size lo1 hi1 _ (dig 10000 n) (W0.alloc (.cells #[.slice a1 (dig 10000 n).length cap1] 121)) (by simp; omega) (by simp; omega) bN.cell ((hl1.below hB0 b1).below hB1 (by omega)) b1 (dig_lt (by omega) n))
      KeepB.trans (keepB_b (by simp; omega) (by simp; omega)) (Below.refl _ _) (fun _ => rfl)
      (fun pre W => ((∀ p ∈ pre, (dig 10000 m)[p.1.1]?.getD 0 = p.1.2) ∧ W.cell? ⟨w.heap.size, 0, none⟩ = some (.slice a2 (dig 10000 m).length cap2) ∧ Nm W (.slice a2 (dig 10000 m).length cap2) m lo2 hi2 ∧ W.cell? ⟨w.heap.size + 1, 0, none⟩ = some (.int .i64 0) ∧ W.frozen? ⟨w.heap.size + 1, 0, none⟩ = false) ∧ Below w.heap.size w W)
      (fun c pre W => (c = .ret ∧ ∃ ini last, pre = ini ++ [last] ∧ (∀ p ∈ ini, (dig 10000 m)[p.1.1]?.getD 0 = p.1.2) ∧ ¬ (dig 10000 m)[last.1.1]?.getD 0 = last.1.2 ∧ W.cell? ⟨w.heap.size + 1, 0, none⟩ = some (.int .i64 (cmpI (last.1.2 : Nat) ((dig 10000 m)[last.1.1]?.getD 0 : Nat)))) ∧ Below w.heap.size w W)
      ?I ?Ix ?h0
      (fun x => { tmps := #[.slice a1 (dig 10000 n).length cap1, .slice a2 (dig 10000 m).length cap2, undef, .pointer (some ⟨w.heap.size, 0, none⟩), .pointer (some ⟨w.heap.size + 1, 0, none⟩), .int .i64 (x.1.1 : Int), .int .i64 (x.1.2 : Int), .slice a1 (dig 10000 n).length cap1, .int .i64 (dig 10000 n).length, .slice a2 (dig 10000 m).length cap2, .int .i64 (dig 10000 m).length, .bool false, undef, undef, undef, undef, undef, .slice a1 (dig 10000 n).length cap1, .func (.func 194) #[] #[.pointer (some ⟨w.heap.size + 1 + 1, 0, none⟩)], .int .i64 (x.1.1 : Int), .int .i64 (x.1.2 : Int), undef, undef, undef, undef, undef, undef, undef, undef, undef, undef, undef, undef], defers := [] }) ?assign ?body ?done ?stop
    case I => exact OwnFrom.and (Own.from (fun s A B row hs hg hr => ⟨hs.1, cell_kept hs.2.1 hg hr, hs.2.2.1.own hg hr, cell_kept hs.2.2.2.1 hg hr, (frozen_kept hs.2.2.2.1 hg hr).trans hs.2.2.2.2⟩) _) (ownFrom_below (Nat.le_refl _) (by simp; omega))
    case Ix => exact fun c => OwnFrom.and (Own.from (fun s A B row hs hg hr => by obtain ⟨hc, ini, last, e1, e2, e3, e4⟩ := hs; exact ⟨hc, ini, last, e1, e2, e3, cell_kept e4 hg hr⟩) _) (ownFrom_below (Nat.le_refl _) (by simp; omega))
    case h0 => exact ⟨⟨by simp, (bM0.alloc _).cell, (hl2.below hB0 b2).below hB1 (by omega), (bR0.alloc _).cell, (bR0.alloc _).frozen⟩, hB0.trans (hB1.mono (by omega))⟩
    case assign =>
      intro l x W K hK
      simp only [bkEnc]
      gi_wp2
      exact hK
    case body =>
      rintro l pre x W ⟨⟨hp, hcM, hNm, hcR, hfR⟩, hB⟩ _
      obtain ⟨⟨i, d⟩, hi, hd⟩ := x
      simp only at hi hd ⊢
      have hi2 : i < (dig 10000 m).length := by rw [← HL.out]; exact hi
      obtain ⟨b, off, rfl, hlo, hhi, hcx⟩ := hNm.at (k := i) hi2
      have HN := Lib.hid hNm
      have HP := Lib.hid hp
      have hge : (dig 10000 m)[i]?.getD 0 = (dig 10000 m)[i] := by rw [List.getElem?_eq_getElem hi2]; rfl
      have HG := Lib.hid hge
      clear hNm hp hge
      by_cases he : d = (dig 10000 m)[i]
      · have hne : ((d : Int) != ((dig 10000 m)[i] : Int)) = false := by rw [bne_eq_false_iff_eq]; omega
        have HE := Lib.hid he
        clear he
        gi_wp2
        exact ⟨KeepsFrom.refl _ _, KeepB.refl _ _ _, ⟨fun p hp' => (List.mem_append.1 hp').elim (HP.out p) (fun e => by simp at e; subst e; simp only; rw [HG.out, HE.out]), hcM, HN.out, hcR, hfR⟩, hB⟩
      · have hne : ((d : Int) != ((dig 10000 m)[i] : Int)) = true := by rw [bne_iff_ne]; omega
        gi_wp2_with (refine ⟨trivial, ?_⟩; gi_at_call 79; refine (CallsIn.inRound l (callsIn_wide.2 (cmpCompare_any _ _ _))).mono ?_; rintro e w' ⟨rfl, rfl⟩)
        exact ⟨(KeepsOthers.setCell _ _ _).from _, ⟨rfl, pre, ⟨(i, d), hi, hd⟩, rfl, HP.out, by simp only; rw [HG.out]; exact fun h => he h.symm, by simp only; rw [HG.out]; exact World.cell?_setCell_same' _ _ _ (by rw [hcR]; rfl)⟩, hB.setCell (p := ⟨w.heap.size + 1, 0, none⟩) (by simp) _⟩
    case done =>
      rintro D ys W hD hys ⟨⟨hp, _, _, hcR, hfR⟩, hB⟩ hK
      have hK' := (KeepsOthers.setCell W ⟨w.heap.size + 1, 0, none⟩ (.int .i64 0)).same D _ hK rfl
      have hcz : cmpI n m = 0 := by
        have : n = m := back_equal (by omega) HL.out ys hys hp
        rw [this]; simp [cmpI]
      have HCZ := Lib.hid hcz
      clear hcz hys hp
      gi_wp2
      refine ⟨by simp, .inl ⟨_, _, rfl, run_takeDeferred hK', ?_⟩⟩
      have hc5 := cell_kept (World.cell?_setCell_same' W ⟨w.heap.size + 1, 0, none⟩ (.int .i64 0) (by rw [hcR]; rfl)) (grownBy_putObj' _ D (.deferred none)) (fun r e => by cases e; exact ⟨_, hK', rfl⟩)
      refine ⟨.int .i64 0, ?_, by rw [HCZ.out], (hB.setCell (p := ⟨w.heap.size + 1, 0, none⟩) (by simp) _).trans (belowK_b (w := w) (Nat.le_refl _) _ D _ _ (by simp at hD; omega) hK' rfl rfl)⟩
      simp [results, Tryz.f123, go_sem, hc5]
    case stop =>
      rintro D c pre W hD ⟨k, hk, hpre⟩ ⟨⟨rfl, ini, last, e1, e2, e3, hcr⟩, hB⟩ hK
      have hcz : cmpI (last.1.2 : Nat) ((dig 10000 m)[last.1.1]?.getD 0 : Nat) = cmpI n m := back_first (by omega) HL.out ini last k hk (by rw [← e1]; exact hpre) e2 e3
      rw [hcz] at hcr
      clear hcz hpre e1 e2 e3
      gi_wp2
      refine ⟨by simp, .inl ⟨_, _, rfl, run_takeDeferred hK, ?_⟩⟩
      have hc5 := cell_kept hcr (grownBy_putObj' _ D (.deferred none)) (fun r e => by cases e; exact ⟨_, hK, rfl⟩)
      refine ⟨.int .i64 (cmpI n m), ?_, rfl, hB.trans (belowK_b (w := w) (Nat.le_refl _) W D _ _ (by simp at hD; omega) hK rfl rfl)⟩
      simp [results, Tryz.f123, go_sem, hc5]
  · have hlb : (((dig 10000 n).length : Int) != ((dig 10000 m).length : Int)) = true := by rw [bne_iff_ne]; omega
    go_enter Tryz.func123, Tryz.ntmps123
    go_wp2_with (go_at_call 79; refine (cmpCompare_any _ _ _).mono ?_; rintro e w' ⟨rfl, rfl⟩)
    rw [cmp_length (by omega) hl]
    exact bodyPost_ret (v := .int .i64 (cmpI n m)) (by simp [results, Tryz.results123, go_sem]) rfl ⟨rfl, ((Below.refl _ _).alloc (Nat.le_refl _) _).alloc (by simp) _⟩
end Go.Proofs.YtgngepbemgbbeaaGreatDoor

namespace Go.Proofs.YtgngepbemgbbeaaGreatDoor

/-- A place. -/
structure Pl where
  x : Int
  y : Int
deriving DecidableEq

def turnP (a b c : Pl) : Int := (b.x - a.x) * (c.y - a.y) - (b.y - a.y) * (c.x - a.x)
def vP (p : Pl) : Bool := decide (0 ≤ p.x) && decide (p.x ≤ 4095) && decide (0 ≤ p.y) && decide (p.y ≤ 4095)
def sideP (a b c : Pl) : Int := if vP a && vP b && vP c then cmpI (turnP a b c) 0 else 0
def ovl (a b c d : Int) : Bool := decide (max (min a b) (min c d) ≤ min (max a b) (max c d))
def crossP (a b c d : Pl) : Bool := vP a && vP b && vP c && vP d && (ovl a.x b.x c.x d.x && ovl a.y b.y c.y d.y && decide (sideP a b c * sideP a b d ≤ 0) && decide (sideP c d a * sideP c d b ≤ 0))

theorem cmpI_neg (n : Int) : cmpI (-n) 0 = -cmpI n 0 := by
  unfold cmpI
  split <;> split <;> (try split) <;> (try split) <;> omega
theorem cmpI_sign (n : Int) : (n < 0 ∧ cmpI n 0 = -1) ∨ (n = 0 ∧ cmpI n 0 = 0) ∨ (0 < n ∧ cmpI n 0 = 1) := by
  unfold cmpI
  split
  · exact .inl ⟨‹_›, rfl⟩
  · split
    · exact .inr (.inr ⟨‹_›, rfl⟩)
    · exact .inr (.inl ⟨by omega, rfl⟩)
theorem turn_swap (a b c : Pl) : turnP b a c = -turnP a b c := by unfold turnP; grind
theorem turn_swap2 (a b c : Pl) : turnP a c b = -turnP a b c := by unfold turnP; grind
theorem turn_cyc (a b c : Pl) : turnP b c a = turnP a b c := by unfold turnP; grind
theorem side_swap (a b c : Pl) : sideP b a c = -sideP a b c := by
  unfold sideP
  rw [turn_swap, cmpI_neg, Bool.and_comm (vP b)]
  split <;> simp
theorem side_swap2 (a b c : Pl) : sideP a c b = -sideP a b c := by
  unfold sideP
  rw [turn_swap2, cmpI_neg, Bool.and_right_comm]
  split <;> simp
theorem side_cyc (a b c : Pl) : sideP b c a = sideP a b c := by
  unfold sideP
  rw [turn_cyc, show (vP b && vP c && vP a) = (vP a && vP b && vP c) by cases vP a <;> cases vP b <;> cases vP c <;> rfl]
theorem side_range (a b c : Pl) : -1 ≤ sideP a b c ∧ sideP a b c ≤ 1 := by
  unfold sideP
  split
  · rcases cmpI_sign (turnP a b c) with ⟨_, h⟩ | ⟨_, h⟩ | ⟨_, h⟩ <;> rw [h] <;> decide
  · decide
theorem side_aba (a b : Pl) : sideP a b a = 0 := by
  unfold sideP
  split
  · have h : turnP a b a = 0 := by unfold turnP; grind
    rw [h]
    rfl
  · rfl
theorem side_abb (a b : Pl) : sideP a b b = 0 := by
  unfold sideP
  split
  · have h : turnP a b b = 0 := by unfold turnP; grind
    rw [h]
    rfl
  · rfl
theorem side_aab (a b : Pl) : sideP a a b = 0 := by rw [← side_cyc]; exact side_aba _ _
/-- A place moved by so much. -/
def Pl.mv (p : Pl) (dx dy : Int) : Pl := ⟨p.x + dx, p.y + dy⟩
theorem turn_mv (a b c : Pl) (dx dy : Int) : turnP (a.mv dx dy) (b.mv dx dy) (c.mv dx dy) = turnP a b c := by unfold turnP Pl.mv; grind
theorem side_mv {a b c : Pl} {dx dy : Int} (h : (vP a && vP b && vP c) = true) (h2 : (vP (a.mv dx dy) && vP (b.mv dx dy) && vP (c.mv dx dy)) = true) : sideP (a.mv dx dy) (b.mv dx dy) (c.mv dx dy) = sideP a b c := by
  unfold sideP
  rw [turn_mv, h, h2]
theorem ovl_comm (a b c d : Int) : ovl c d a b = ovl a b c d := by unfold ovl; rw [Int.max_comm, Int.min_comm (max c d)]
theorem ovl_left (a b c d : Int) : ovl b a c d = ovl a b c d := by unfold ovl; rw [Int.min_comm b a, Int.max_comm b a]
theorem ovl_right (a b c d : Int) : ovl a b d c = ovl a b c d := by unfold ovl; rw [Int.min_comm d c, Int.max_comm d c]
theorem cross_comm (a b c d : Pl) : crossP c d a b = crossP a b c d := by
  unfold crossP
  rw [ovl_comm, ovl_comm a.y]
  cases vP a <;> cases vP b <;> cases vP c <;> cases vP d <;> simp [Bool.and_comm, Bool.and_left_comm, Bool.and_assoc]
theorem cross_left (a b c d : Pl) : crossP b a c d = crossP a b c d := by
  unfold crossP
  rw [ovl_left, ovl_left a.y, side_swap a b c, side_swap a b d, Int.neg_mul_neg, Int.mul_comm (sideP c d b)]
  cases vP a <;> cases vP b <;> simp
theorem cross_right (a b c d : Pl) : crossP a b d c = crossP a b c d := by rw [cross_comm, cross_left, cross_comm]
/-- Two equal weighted means lie in both ranges. -/
theorem wavg {a b c d s s' t t' : Int} (e : c * s + d * s' = b * t + a * t') (hs : 0 < s) (hs' : 0 < s') (ht : 0 < t) (ht' : 0 < t') (hS : s + s' = t + t') : min a b ≤ max c d := by
  rcases Int.lt_or_le (max c d) (min a b) with h | h
  · exfalso
    generalize hm : max c d = m at h
    have h1 : c * s ≤ m * s := Int.mul_le_mul_of_nonneg_right (by omega) (by omega)
    have h2 : d * s' ≤ m * s' := Int.mul_le_mul_of_nonneg_right (by omega) (by omega)
    have h3 : (m + 1) * t ≤ b * t := Int.mul_le_mul_of_nonneg_right (by omega) (by omega)
    have h4 : (m + 1) * t' ≤ a * t' := Int.mul_le_mul_of_nonneg_right (by omega) (by omega)
    have h5 : m * s + m * s' = m * t + m * t' := by rw [← Int.mul_add, hS, Int.mul_add]
    rw [Int.add_mul] at h3 h4
    omega
  · exact h
theorem ovl_of {a b c d s s' t t' : Int} (e : c * s + d * s' = b * t + a * t') (hs : 0 < s) (hs' : 0 < s') (ht : 0 < t) (ht' : 0 < t') (hS : s + s' = t + t') : ovl a b c d = true := by
  have h1 := wavg e hs hs' ht ht' hS
  have h2 := wavg (a := d) (b := c) (c := b) (d := a) (s := t) (s' := t') (t := s) (t' := s') e.symm ht ht' hs hs' hS.symm
  unfold ovl
  exact decide_eq_true (by omega)
theorem meet_x (a b c d : Pl) : c.x * turnP a b d - d.x * turnP a b c = b.x * turnP c d a - a.x * turnP c d b := by unfold turnP; grind
theorem meet_y (a b c d : Pl) : c.y * turnP a b d - d.y * turnP a b c = b.y * turnP c d a - a.y * turnP c d b := by unfold turnP; grind
theorem meet_d (a b c d : Pl) : turnP a b d - turnP a b c = turnP c d a - turnP c d b := by unfold turnP; grind
theorem side_valid {a b c : Pl} (h : vP a && vP b && vP c) : sideP a b c = cmpI (turnP a b c) 0 := by unfold sideP; exact if_pos h
theorem prod_neg {x y : Int} (h : cmpI x 0 * cmpI y 0 < 0) : (0 < x ∧ y < 0) ∨ (x < 0 ∧ 0 < y) := by
  rcases cmpI_sign x with ⟨h1, e1⟩ | ⟨h1, e1⟩ | ⟨h1, e1⟩ <;> rcases cmpI_sign y with ⟨h2, e2⟩ | ⟨h2, e2⟩ | ⟨h2, e2⟩ <;> rw [e1, e2] at h <;> first | (exact .inl ⟨h1, h2⟩) | (exact .inr ⟨h1, h2⟩) | (exact absurd h (by decide))
/-- Segments whose ends are strictly on different sides of each other cross. -/
theorem cross_strict {a b c d : Pl} (ha : vP a = true) (hb : vP b = true) (hc : vP c = true) (hd : vP d = true) (h1 : sideP a b c * sideP a b d < 0) (h2 : sideP c d a * sideP c d b < 0) : crossP a b c d = true := by
  have k1 := h1
  have k2 := h2
  rw [side_valid (by simp [ha, hb, hc]), side_valid (by simp [ha, hb, hd])] at k1
  rw [side_valid (by simp [ha, hc, hd]), side_valid (by simp [hb, hc, hd])] at k2
  have mx := meet_x a b c d
  have my := meet_y a b c d
  have md := meet_d a b c d
  have hx : ovl a.x b.x c.x d.x = true ∧ ovl a.y b.y c.y d.y = true := by
    generalize turnP a b c = s1 at *
    generalize turnP a b d = s2 at *
    generalize turnP c d a = t1 at *
    generalize turnP c d b = t2 at *
    rcases prod_neg k1 with ⟨p1, p2⟩ | ⟨p1, p2⟩ <;> rcases prod_neg k2 with ⟨p3, p4⟩ | ⟨p3, p4⟩
    · omega
    · exact ⟨ovl_of (s := -s2) (s' := s1) (t := -t1) (t' := t2) (by rw [Int.mul_neg, Int.mul_neg]; omega) (by omega) (by omega) (by omega) (by omega) (by omega),
        ovl_of (s := -s2) (s' := s1) (t := -t1) (t' := t2) (by rw [Int.mul_neg, Int.mul_neg]; omega) (by omega) (by omega) (by omega) (by omega) (by omega)⟩
    · exact ⟨ovl_of (s := s2) (s' := -s1) (t := t1) (t' := -t2) (by rw [Int.mul_neg, Int.mul_neg]; omega) (by omega) (by omega) (by omega) (by omega) (by omega),
        ovl_of (s := s2) (s' := -s1) (t := t1) (t' := -t2) (by rw [Int.mul_neg, Int.mul_neg]; omega) (by omega) (by omega) (by omega) (by omega) (by omega)⟩
    · omega
  unfold crossP
  rw [ha, hb, hc, hd, hx.1, hx.2, decide_eq_true (Int.le_of_lt h1), decide_eq_true (Int.le_of_lt h2)]
  rfl
theorem cross_off {a b c d : Pl} (h : 0 < sideP a b c * sideP a b d ∨ 0 < sideP c d a * sideP c d b) : crossP a b c d = false := by
  unfold crossP
  rcases h with h | h
  · rw [show decide (sideP a b c * sideP a b d ≤ 0) = false from decide_eq_false (by omega)]
    simp
  · rw [show decide (sideP c d a * sideP c d b ≤ 0) = false from decide_eq_false (by omega)]
    simp
theorem cross_abad {a b d : Pl} (ha : vP a = true) (hb : vP b = true) (hd : vP d = true) : crossP a b a d = true := by
  unfold crossP
  rw [side_aba, side_aba, ha, hb, hd, Int.zero_mul, Int.zero_mul]
  have h1 : ovl a.x b.x a.x d.x = true := by unfold ovl; exact decide_eq_true (by omega)
  have h2 : ovl a.y b.y a.y d.y = true := by unfold ovl; exact decide_eq_true (by omega)
  rw [h1, h2]
  rfl
theorem cross_abbb {a b : Pl} (ha : vP a = true) (hb : vP b = true) : crossP a b b b = true := by
  unfold crossP
  rw [side_abb, side_aab, side_aab, ha, hb, Int.zero_mul]
  have h1 : ovl a.x b.x b.x b.x = true := by unfold ovl; exact decide_eq_true (by omega)
  have h2 : ovl a.y b.y b.y b.y = true := by unfold ovl; exact decide_eq_true (by omega)
  rw [h1, h2]
  rfl
/-- A rectangle. -/
structure Rc where
  x : Int
  y : Int
  w : Int
  h : Int
deriving DecidableEq
def vRc (r : Rc) : Bool := vP ⟨r.x, r.y⟩ && decide (0 ≤ r.w) && decide (r.w ≤ 4095 - r.x) && decide (0 ≤ r.h) && decide (r.h ≤ 4095 - r.y)
def aroundS (r : Rc) (p : Pl) : Rc := ⟨min r.x p.x, min r.y p.y, max (r.x + r.w) p.x - min r.x p.x, max (r.y + r.h) p.y - min r.y p.y⟩
end Go.Proofs.YtgngepbemgbbeaaGreatDoor

namespace Go.Proofs.YtgngepbemgbbeaaGreatDoor

def insideR (i o : Rc) : Bool := vRc i && vRc o && (decide (o.x ≤ i.x) && decide (i.x + i.w ≤ o.x + o.w)) && (decide (o.y ≤ i.y) && decide (i.y + i.h ≤ o.y + o.h))
def touchR (a b : Rc) : Bool := vRc a && vRc b && ovl a.x (a.x + a.w) b.x (b.x + b.w) && ovl a.y (a.y + a.h) b.y (b.y + b.h)
theorem vP_iff {p : Pl} : vP p = true ↔ 0 ≤ p.x ∧ p.x ≤ 4095 ∧ 0 ≤ p.y ∧ p.y ≤ 4095 := by
  unfold vP
  simp only [Bool.and_eq_true, decide_eq_true_eq, and_assoc]
theorem vRc_iff {r : Rc} : vRc r = true ↔ 0 ≤ r.x ∧ r.x ≤ 4095 ∧ 0 ≤ r.y ∧ r.y ≤ 4095 ∧ 0 ≤ r.w ∧ r.w ≤ 4095 - r.x ∧ 0 ≤ r.h ∧ r.h ≤ 4095 - r.y := by
  unfold vRc
  simp only [Bool.and_eq_true, vP_iff, decide_eq_true_eq, and_assoc]
theorem inside_iff {i o : Rc} : insideR i o = true ↔ vRc i = true ∧ vRc o = true ∧ o.x ≤ i.x ∧ i.x + i.w ≤ o.x + o.w ∧ o.y ≤ i.y ∧ i.y + i.h ≤ o.y + o.h := by
  unfold insideR
  simp only [Bool.and_eq_true, decide_eq_true_eq, and_assoc]
theorem ovl_iff {a b c d : Int} : ovl a b c d = true ↔ max (min a b) (min c d) ≤ min (max a b) (max c d) := by
  unfold ovl
  exact decide_eq_true_iff
theorem touch_iff {a b : Rc} : touchR a b = true ↔ vRc a = true ∧ vRc b = true ∧ max (min a.x (a.x + a.w)) (min b.x (b.x + b.w)) ≤ min (max a.x (a.x + a.w)) (max b.x (b.x + b.w)) ∧ max (min a.y (a.y + a.h)) (min b.y (b.y + b.h)) ≤ min (max a.y (a.y + a.h)) (max b.y (b.y + b.h)) := by
  unfold touchR
  simp only [Bool.and_eq_true, ovl_iff, and_assoc]
theorem inside_self {a : Rc} (h : vRc a = true) : insideR a a = true := inside_iff.2 ⟨h, h, by omega⟩
theorem touch_self {a : Rc} (h : vRc a = true) : touchR a a = true := by
  have := vRc_iff.1 h
  exact touch_iff.2 ⟨h, h, by omega⟩
theorem touch_comm (a b : Rc) : touchR b a = touchR a b := by
  rw [Bool.eq_iff_iff, touch_iff, touch_iff]
  constructor <;> (rintro ⟨h1, h2, h3, h4⟩; exact ⟨h2, h1, by omega, by omega⟩)
theorem inside_trans {a b c : Rc} (h1 : insideR a b = true) (h2 : insideR b c = true) : insideR a c = true := by
  obtain ⟨v1, v2, k1⟩ := inside_iff.1 h1
  obtain ⟨v3, v4, k2⟩ := inside_iff.1 h2
  exact inside_iff.2 ⟨v1, v4, by omega⟩
theorem inside_anti {a b : Rc} (h1 : insideR a b = true) (h2 : insideR b a = true) : a = b := by
  obtain ⟨_, _, k1⟩ := inside_iff.1 h1
  obtain ⟨_, _, k2⟩ := inside_iff.1 h2
  cases a
  cases b
  simp only [Rc.mk.injEq] at *
  omega
theorem inside_touch {a b : Rc} (h : insideR a b = true) : touchR a b = true := by
  obtain ⟨v1, v2, k1⟩ := inside_iff.1 h
  have := vRc_iff.1 v1
  exact touch_iff.2 ⟨v1, v2, by omega⟩
theorem inside_touch2 {a b c : Rc} (h : insideR a b = true) (k : touchR a c = true) : touchR b c = true := by
  obtain ⟨v1, v2, k1⟩ := inside_iff.1 h
  obtain ⟨v3, v4, k2⟩ := touch_iff.1 k
  have := vRc_iff.1 v1
  have := vRc_iff.1 v2
  have := vRc_iff.1 v4
  exact touch_iff.2 ⟨v2, v4, by omega⟩
/-- What is around places: from the first one on. -/
def aroundL (p : Pl) (l : List Pl) : Rc := l.foldl aroundS ⟨p.x, p.y, 0, 0⟩
def lowL (p : Pl) : List Pl → Pl
  | [] => p
  | q :: l => lowL ⟨min p.x q.x, min p.y q.y⟩ l
def highL (p : Pl) : List Pl → Pl
  | [] => p
  | q :: l => highL ⟨max p.x q.x, max p.y q.y⟩ l
theorem around_low (lo hi : Pl) (l : List Pl) : l.foldl aroundS ⟨lo.x, lo.y, hi.x - lo.x, hi.y - lo.y⟩ = ⟨(lowL lo l).x, (lowL lo l).y, (highL hi l).x - (lowL lo l).x, (highL hi l).y - (lowL lo l).y⟩ := by
  induction l generalizing lo hi with
  | nil => rfl
  | cons q l ih =>
    have e : aroundS ⟨lo.x, lo.y, hi.x - lo.x, hi.y - lo.y⟩ q = ⟨min lo.x q.x, min lo.y q.y, max hi.x q.x - min lo.x q.x, max hi.y q.y - min lo.y q.y⟩ := by
      unfold aroundS
      simp only [Rc.mk.injEq]
      refine ⟨trivial, trivial, ?_, ?_⟩ <;> omega
    rw [List.foldl_cons, e]
    exact ih ⟨min lo.x q.x, min lo.y q.y⟩ ⟨max hi.x q.x, max hi.y q.y⟩
theorem aroundL_low (p : Pl) (l : List Pl) : aroundL p l = ⟨(lowL p l).x, (lowL p l).y, (highL p l).x - (lowL p l).x, (highL p l).y - (lowL p l).y⟩ := by
  have := around_low p p l
  rw [Int.sub_self, Int.sub_self] at this
  exact this
theorem low_le (p : Pl) (l : List Pl) : (lowL p l).x ≤ p.x ∧ (lowL p l).y ≤ p.y ∧ ∀ q ∈ l, (lowL p l).x ≤ q.x ∧ (lowL p l).y ≤ q.y := by
  induction l generalizing p with
  | nil => exact ⟨Int.le_refl _, Int.le_refl _, fun _ h => by cases h⟩
  | cons r l ih =>
    obtain ⟨h1, h2, h3⟩ := ih ⟨min p.x r.x, min p.y r.y⟩
    simp only at h1 h2
    refine ⟨by show (lowL ⟨min p.x r.x, min p.y r.y⟩ l).x ≤ _; omega, by show (lowL ⟨min p.x r.x, min p.y r.y⟩ l).y ≤ _; omega, fun q hq => ?_⟩
    rcases List.mem_cons.1 hq with rfl | hq
    · exact ⟨by show (lowL ⟨min p.x q.x, min p.y q.y⟩ l).x ≤ _; omega, by show (lowL ⟨min p.x q.x, min p.y q.y⟩ l).y ≤ _; omega⟩
    · exact h3 q hq
theorem high_ge (p : Pl) (l : List Pl) : p.x ≤ (highL p l).x ∧ p.y ≤ (highL p l).y ∧ ∀ q ∈ l, q.x ≤ (highL p l).x ∧ q.y ≤ (highL p l).y := by
  induction l generalizing p with
  | nil => exact ⟨Int.le_refl _, Int.le_refl _, fun _ h => by cases h⟩
  | cons r l ih =>
    obtain ⟨h1, h2, h3⟩ := ih ⟨max p.x r.x, max p.y r.y⟩
    simp only at h1 h2
    refine ⟨by show _ ≤ (highL ⟨max p.x r.x, max p.y r.y⟩ l).x; omega, by show _ ≤ (highL ⟨max p.x r.x, max p.y r.y⟩ l).y; omega, fun q hq => ?_⟩
    rcases List.mem_cons.1 hq with rfl | hq
    · exact ⟨by show _ ≤ (highL ⟨max p.x q.x, max p.y q.y⟩ l).x; omega, by show _ ≤ (highL ⟨max p.x q.x, max p.y q.y⟩ l).y; omega⟩
    · exact h3 q hq
theorem low_valid (p : Pl) (l : List Pl) (hp : vP p = true) (hl : ∀ q ∈ l, vP q = true) : vP (lowL p l) = true := by
  induction l generalizing p with
  | nil => exact hp
  | cons r l ih =>
    refine ih _ ?_ (fun q hq => hl q (List.mem_cons_of_mem _ hq))
    have h1 := vP_iff.1 hp
    have h2 := vP_iff.1 (hl r (by simp))
    exact vP_iff.2 ⟨by simp only; omega, by simp only; omega, by simp only; omega, by simp only; omega⟩
theorem high_valid (p : Pl) (l : List Pl) (hp : vP p = true) (hl : ∀ q ∈ l, vP q = true) : vP (highL p l) = true := by
  induction l generalizing p with
  | nil => exact hp
  | cons r l ih =>
    refine ih _ ?_ (fun q hq => hl q (List.mem_cons_of_mem _ hq))
    have h1 := vP_iff.1 hp
    have h2 := vP_iff.1 (hl r (by simp))
    exact vP_iff.2 ⟨by simp only; omega, by simp only; omega, by simp only; omega, by simp only; omega⟩
theorem around_valid (p : Pl) (l : List Pl) (hp : vP p = true) (hl : ∀ q ∈ l, vP q = true) : vRc (aroundL p l) = true := by
  rw [aroundL_low]
  have h1 := vP_iff.1 (low_valid p l hp hl)
  have h2 := vP_iff.1 (high_valid p l hp hl)
  have h3 := low_le p l
  have h4 := high_ge p l
  exact vRc_iff.2 (by simp only; omega)
theorem pt_valid {p : Pl} (h : vP p = true) : vRc ⟨p.x, p.y, 0, 0⟩ = true := by
  have := vP_iff.1 h
  exact vRc_iff.2 (by simp only; omega)
theorem around_inside (p : Pl) (l : List Pl) (hp : vP p = true) (hl : ∀ q ∈ l, vP q = true) (q : Pl) (hq : q ∈ l) : insideR ⟨q.x, q.y, 0, 0⟩ (aroundL p l) = true := by
  have h1 := around_valid p l hp hl
  have h2 := (low_le p l).2.2 q hq
  have h3 := (high_ge p l).2.2 q hq
  refine inside_iff.2 ⟨pt_valid (hl q hq), h1, ?_⟩
  rw [aroundL_low]
  simp only
  omega
theorem around_touch (p : Pl) (l : List Pl) (hp : vP p = true) (hl : ∀ q ∈ l, vP q = true) (q : Pl) (hq : vP q = true) :
    touchR ⟨q.x, q.y, 0, 0⟩ (aroundL p l) = (decide ((lowL p l).x ≤ q.x) && decide (q.x ≤ (highL p l).x) && decide ((lowL p l).y ≤ q.y) && decide (q.y ≤ (highL p l).y)) := by
  have h1 := around_valid p l hp hl
  have h3 := low_le p l
  have h4 := high_ge p l
  rw [Bool.eq_iff_iff, touch_iff]
  simp only [Bool.and_eq_true, decide_eq_true_eq]
  rw [aroundL_low] at h1 ⊢
  simp only
  constructor
  · rintro ⟨_, _, h5, h6⟩
    omega
  · rintro h
    exact ⟨pt_valid hq, h1, by omega, by omega⟩
end Go.Proofs.YtgngepbemgbbeaaGreatDoor

