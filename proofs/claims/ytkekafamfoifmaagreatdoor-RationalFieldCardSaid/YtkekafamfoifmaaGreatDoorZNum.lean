/-
  The walks of package integer's arithmetic on groups of digits.
  The walks of package integer's sums, differences and products of groups of digits.
-/
import Derived.Test.YtkekafamfoifmaaGreatDoorChecked
import Derived.Maps.AppendAt
import Derived.Shelf.Abstract
import Derived.Deep.QuietTactic
import Derived.BigQuiet
import Derived.Test.YtkekafamfoifmaaGreatDoorZBase
import Derived.Test.YtkekafamfoifmaaGreatDoorZDig
namespace Go.Proofs.YtkekafamfoifmaaGreatDoor
open Go.RowKit

/-- A slice that reads as a number. -/
abbrev Nm (w : World) (v : Value) (n : Nat) (lo hi : Nat) : Prop := Ns w v (dig 10000 n) lo hi
/-- So many groups are few. -/
def Few (n : Nat) : Prop := (dig 10000 n).length ≤ 1000000

set_option maxHeartbeats 400000 in
theorem at_any (v : Value) (xs : List Nat) (lo hi : Nat) (i : Int) (w : World) (h : Ns w v xs lo hi) (h0 : 0 ≤ i) :
    Calls Tryz.prog 114 #[v, .int .i64 i] w fun e w' => e = .returned (.int .i64 (xs[i.toNat]?.getD 0 : Nat)) ∧ w = w' := by
  have hlen := h.len
  obtain ⟨a, cap, rfl, hc, hm⟩ : ∃ a cap, v = .slice a xs.length cap ∧ xs.length ≤ cap ∧ cap ≤ maxLen := by obtain ⟨a, cap, h1, h2, h3, _⟩ := h; exact ⟨a, cap, h1, h2, h3⟩
  unfold maxLen at hm hlen
  by_cases hlt : i < xs.length
  · obtain ⟨b, off, rfl, _, _, hcc⟩ := h.at (k := i.toNat) (by omega)
    have hx : xs[i.toNat]?.getD 0 = xs[i.toNat]'(by omega) := by rw [List.getElem?_eq_getElem (by omega)]; rfl
    rw [hx]
    clear hx h
    go_enter Tryz.func114, Tryz.ntmps114
    go_wp2
    go_ret
    exact ⟨rfl, rfl⟩
  · have hx : xs[i.toNat]?.getD 0 = 0 := by rw [List.getElem?_eq_none (by omega)]; rfl
    rw [hx]
    clear hx h
    go_enter Tryz.func114, Tryz.ntmps114
    go_wp2
    go_ret
    exact ⟨rfl, rfl⟩

set_option maxHeartbeats 400000 in
theorem trimmed_any (v : Value) (xs : List Nat) (lo hi : Nat) (w : World) (h : Ns w v xs lo hi) :
    Calls Tryz.prog 107 #[v] w fun e w' => (∃ v', e = .returned v' ∧ Ns w v' (trim xs) lo hi) ∧ w = w' := by
  have hlen := h.len
  obtain ⟨a, cap, rfl, hc, hm⟩ : ∃ a cap, v = .slice a xs.length cap ∧ xs.length ≤ cap ∧ cap ≤ maxLen := by obtain ⟨a, cap, h1, h2, h3, _⟩ := h; exact ⟨a, cap, h1, h2, h3⟩
  unfold maxLen at hm hlen
  have H := Lib.hid h
  clear h
  go_enter Tryz.func107, Tryz.ntmps107
  go_wp2
  go_loop [0] (fun s => ∃ k : Nat, k ≤ xs.length ∧ s = .slice a k cap ∧ trim (xs.take k) = trim xs) (fun s => lenOf s)
  case atStart => exact ⟨xs.length, Nat.le_refl _, rfl, by simp⟩
  case round =>
    obtain ⟨k, hk, rfl, ht⟩ := hrel
    have HT := Lib.hid ht
    clear ht
    by_cases hk0 : k = 0
    · subst hk0
      go_wp2
      go_ret
      exact ⟨⟨_, rfl, by rw [← HT.out]; exact H.out.take (Nat.zero_le _)⟩, rfl⟩
    · obtain ⟨j, rfl⟩ : ∃ j, k = j + 1 := ⟨k - 1, by omega⟩
      obtain ⟨b, off, rfl, _, _, hcc⟩ := H.out.at (k := j) (by omega)
      go_wp2
      · have hz : ((xs[j] : Int) == 0) = true := by assumption
        refine ⟨⟨j, by omega, rfl, ?_⟩, by simp [lenOf]⟩
        rw [← HT.out]
        exact (trim_take_zero (by rw [List.getElem?_eq_getElem (by omega)]; simp at hz ⊢; omega) (by omega)).symm
      · have hz : ((xs[j] : Int) == 0) = false := by assumption
        go_ret
        refine ⟨⟨_, rfl, ?_⟩, rfl⟩
        rw [← HT.out, trim_take_ne (by rw [List.getElem?_eq_getElem (by omega)]; simp at hz ⊢; omega) (by omega)]
        exact H.out.take hk

theorem A_info3 : (Tryz.prog.info? 3).map (fun i => (i.zero, i.size, i.bytes)) = some (some (.int .i64 0), 1, 8) := by kernel_rfl

/-- The sum of f j times 10000 to the power of j, for all j below n. -/
def foldS (f : Nat → Int) : Nat → Int
  | 0 => 0
  | n + 1 => foldS f n + 10000 ^ n * f n

/-- What is known of fold's digits and carry before round i. -/
structure FoldAt (f : Nat → Int) (n i : Nat) (ds : List Nat) (c : Int) : Prop where
  len : ds.length = i
  dlt : ∀ d ∈ ds, d < 10000
  eq : (val 10000 ds : Int) + 10000 ^ i * c = foldS f i
  clo : -1 ≤ c
  chi : c ≤ 100000000
  far : i ≤ n ∨ (c + (i - n : Nat) ≤ 100000000 ∧ 0 ≤ c)

theorem FoldAt.carry {f : Nat → Int} {n i : Nat} {ds : List Nat} {c : Int} (h : FoldAt f n i ds c) (hn : n ≤ i) (hi : i ≤ n) (ht : 0 ≤ foldS f n) : 0 ≤ c := by
  obtain rfl : n = i := by omega
  have h1 := val_lt (B := 10000) (by omega) ds h.dlt
  have h2 := h.eq
  rw [h.len] at h1
  by_cases hc : 0 ≤ c
  · exact hc
  · have h3 : c = -1 := by have := h.clo; omega
    rw [h3] at h2
    have h4 : ((10000 ^ n : Nat) : Int) = 10000 ^ n := by simp
    omega

theorem FoldAt.step {f : Nat → Int} {n k : Nat} {ds : List Nat} {c : Int} (h : FoldAt f n k ds c) (hhi : ∀ i, f i ≤ 99990000) (hz : ∀ i, n ≤ i → f i = 0) (ht : 0 ≤ foldS f n)
    (hgo : k < n ∨ c ≠ 0) (d c' : Int) (hd0 : 0 ≤ d) (hd1 : d < 10000) (hc : -1 ≤ c') (hs : f k + c = d + 10000 * c') :
    FoldAt f n (k + 1) (ds ++ [d.toNat]) c' := by
  have h1 := hhi k
  have h2 := h.chi
  have h3 := h.clo
  refine ⟨by simp [h.len], ?_, ?_, hc, by omega, ?_⟩
  · intro x hx
    rcases List.mem_append.1 hx with hx | hx
    · exact h.dlt x hx
    · simp at hx; omega
  · rw [val_append, h.len]
    have h4 : ((10000 ^ k : Nat) : Int) = 10000 ^ k := by simp
    have h5 : (d.toNat : Int) = d := by omega
    simp only [val, Int.natCast_add, Int.natCast_mul, h4, foldS, ← h.eq, h5, Int.natCast_zero, Int.mul_zero, Int.add_zero]
    have h6 : (10000 : Int) ^ (k + 1) * c' = 10000 ^ k * (10000 * c') := by rw [Int.pow_succ, Int.mul_assoc]
    rw [h6, Int.add_assoc, ← Int.mul_add, ← hs, Int.mul_add]
    omega
  · by_cases hk : k < n
    · left; omega
    · right
      have h7 : 0 ≤ c := by
        rcases h.far with h8 | h8
        · exact h.carry (by omega) h8 ht
        · exact h8.2
      have h9 : f k = 0 := hz k (by omega)
      rcases h.far with h8 | h8
      · omega
      · omega

set_option maxRecDepth 100000 in
set_option maxHeartbeats 400000 in
theorem fold_any (K : Nat) (caps : Array Value) (f : Nat → Int) (n : Nat) (w : World)
    (hent : ∀ (args : Array Value) (w : World), (callFunc K args).run Tryz.prog w = .ok (.enter K args) w)
    (hK : ∀ (i : Nat) (w' : World), i ≤ 200000000 → Below w.heap.size w w' → Calls Tryz.prog K (#[.int .i64 i] ++ caps) w' fun e w'' => e = .returned (.int .i64 (f i)) ∧ Still w' w'')
    (hn : n ≤ 1000000) (hlo : ∀ i, -9999 ≤ f i) (hhi : ∀ i, f i ≤ 99990000) (hz : ∀ i, n ≤ i → f i = 0) (ht : 0 ≤ foldS f n) :
    Calls Tryz.prog 112 #[.int .i64 n, .int .i64 0, .func (.func K) #[] caps] w fun e w' => (∃ v ds k, e = .returned v ∧ Ns w' v ds w.heap.size w'.heap.size ∧ FoldAt f n k ds 0 ∧ n ≤ k) ∧ Below w.heap.size w w' := by
  obtain ⟨i0, hi, hz0, hz1, hz2⟩ := info_parts A_info3
  have HK := Lib.hid hK
  clear hK
  have HZ := Lib.hid hz
  have HLO := Lib.hid hlo
  have HHI := Lib.hid hhi
  have HT := Lib.hid ht
  clear hz hlo hhi ht
  go_enter Tryz.func112, Tryz.ntmps112
  go_wp2_with (at_make; refine wpList_make_own _ rfl _ _ 98 rfl w.heap.size 3 i0 (.int .i64 0) 1 Tryz.underlying98 hi hz0 hz1 .i64 .i64 _ (n + 1) rfl rfl (by omega) (by rw [hz2]; omega) (by unfold maxLen; omega) (Nat.le_refl _) ?_; intro w1 hown hgrow)
  have hb1 : Below w.heap.size w w1 := (Below.refl _ _).grown hgrow (Nat.le_refl _) (by intro k e; cases e)
  clear hgrow
  have HO := Lib.hid hown
  clear hown
  go_loopw [1, 7, 8] (fun c v i wr => ∃ (k : Nat) (ds : List Nat) (cc : Int), i = .int .i64 k ∧ c = .int .i64 cc ∧ FoldAt f n k ds cc ∧ wr.ownsRow w.heap.size 3 1 v ds.length (ds.map fun d : Nat => Value.int .i64 (d : Int)) ∧ Below w.heap.size w wr)
    (fun c _ i _ => (n - (intOf i).toNat) * 1000000000 + (intOf c).toNat)
  case atStart => exact ⟨0, [], 0, rfl, rfl, ⟨rfl, by simp, by simp [val, foldS], by omega, by omega, by omega⟩, HO.out, hb1⟩
  case round =>
    obtain ⟨k, ds, cc, rfl, rfl, hf, hown, hb⟩ := hrel
    have f4 := hf.clo
    have f5 := hf.chi
    have f6 := hf.far
    have HF := Lib.hid hf
    have hds : ds.length ≤ 200000000 := by have := hf.len; omega
    have HL := Lib.hid hf.len
    have HOW := Lib.hid hown
    have hko : k ≤ 200000000 := by omega
    have l1 := HLO.out k
    have l2 := HHI.out k
    have hstep := fun hgo => hf.step HHI.out HZ.out HT.out (hgo : k < n ∨ cc ≠ 0)
    have HS := Lib.hid hstep
    clear hf hown hstep
    have hmax : 0 ≤ f k + cc ∨ k < n := by
      by_cases hlt : k < n
      · exact .inr hlt
      · left
        have h7 : 0 ≤ cc := by
          rcases f6 with h8 | h8
          · exact HF.out.carry (by omega) h8 HT.out
          · exact h8.2
        have h9 : f k = 0 := HZ.out k (by omega)
        omega
    have HMAX := Lib.hid hmax
    clear hmax
    by_cases hgo : k < n ∨ cc ≠ 0
    · have HS2 := Lib.hid (HS.out hgo)
      clear HS
      by_cases hlt : k < n
      · clear hgo
        rcases Int.lt_or_le (f k + cc) 0 with hs | hs
        · go_wp2_with (first
            | ((with_reducible refine (HK.out k _ (by assumption) (by assumption)).mono ?_); rintro e w2 ⟨rfl, hst⟩)
            | (at_builtin; refine wpList_append_own _ rfl _ _ 98 rfl w.heap.size 3 i0 (.int .i64 0) 1 8 Tryz.underlying98 hi hz0 hz1 hz2 rfl (by decide) u7 _ _ rfl ((hst.owns HOW.out).alloc _) ⟨w2.heap.size, 0, none⟩ 1 1 [.int .i64 (f k + cc + 10000)] rfl rfl (cell_one_new _ _ _) (by simp [Value.oneCell']) (by unfold maxLen; omega) (by omega) (by have := (hst.below 0).size; have := hb.size; simp; omega) ?_; intro v' w3 hown' hgrow _))
          refine ⟨⟨k + 1, _, _, by go_num, rfl, HS2.out (f k + cc + 10000) (-1) (by omega) (by omega) (by omega) (by omega), own_snoc_int (by omega) hown', below_append hb (hst.below _) hb.size HOW.out hgrow⟩, ?_⟩
          simp only [intOf]; omega
        · rcases Int.lt_or_le (f k + cc) 10000 with hs2 | hs2
          · go_wp2_with (first
              | ((with_reducible refine (HK.out k _ (by assumption) (by assumption)).mono ?_); rintro e w2 ⟨rfl, hst⟩)
              | (at_builtin; refine wpList_append_own _ rfl _ _ 98 rfl w.heap.size 3 i0 (.int .i64 0) 1 8 Tryz.underlying98 hi hz0 hz1 hz2 rfl (by decide) u7 _ _ rfl ((hst.owns HOW.out).alloc _) ⟨w2.heap.size, 0, none⟩ 1 1 [.int .i64 (f k + cc)] rfl rfl (cell_one_new _ _ _) (by simp [Value.oneCell']) (by unfold maxLen; omega) (by omega) (by have := (hst.below 0).size; have := hb.size; simp; omega) ?_; intro v' w3 hown' hgrow _))
            refine ⟨⟨k + 1, _, _, by go_num, rfl, HS2.out (f k + cc) (0) (by omega) (by omega) (by omega) (by omega), own_snoc_int (by omega) hown', below_append hb (hst.below _) hb.size HOW.out hgrow⟩, ?_⟩
            simp only [intOf]; omega
          · go_wp2_with (first
              | ((with_reducible refine (HK.out k _ (by assumption) (by assumption)).mono ?_); rintro e w2 ⟨rfl, hst⟩)
              | (at_builtin; refine wpList_append_own _ rfl _ _ 98 rfl w.heap.size 3 i0 (.int .i64 0) 1 8 Tryz.underlying98 hi hz0 hz1 hz2 rfl (by decide) u7 _ _ rfl ((hst.owns HOW.out).alloc _) ⟨w2.heap.size, 0, none⟩ 1 1 [.int .i64 ((f k + cc) % 10000)] rfl rfl (cell_one_new _ _ _) (by simp [Value.oneCell']) (by unfold maxLen; omega) (by omega) (by have := (hst.below 0).size; have := hb.size; simp; omega) ?_; intro v' w3 hown' hgrow _))
            refine ⟨⟨k + 1, _, _, by go_num, rfl, HS2.out ((f k + cc) % 10000) ((f k + cc) / 10000) (by omega) (by omega) (by omega) (by omega), own_snoc_int (by omega) hown', below_append hb (hst.below _) hb.size HOW.out hgrow⟩, ?_⟩
            simp only [intOf]; omega
      · have hc0 : (cc != 0) = true := by rw [bne_iff_ne]; omega
        have hs : 0 ≤ f k + cc := by rcases HMAX.out with h | h <;> omega
        have hfz : f k = 0 := HZ.out k (by omega)
        have hcp : 0 < cc := by omega
        have HFZ := Lib.hid hfz
        clear hgo hfz
        rcases Int.lt_or_le (f k + cc) 10000 with hs2 | hs2
        · go_wp2_with (first
            | ((with_reducible refine (HK.out k _ (by assumption) (by assumption)).mono ?_); rintro e w2 ⟨rfl, hst⟩)
            | (at_builtin; refine wpList_append_own _ rfl _ _ 98 rfl w.heap.size 3 i0 (.int .i64 0) 1 8 Tryz.underlying98 hi hz0 hz1 hz2 rfl (by decide) u7 _ _ rfl ((hst.owns HOW.out).alloc _) ⟨w2.heap.size, 0, none⟩ 1 1 [.int .i64 (f k + cc)] rfl rfl (cell_one_new _ _ _) (by simp [Value.oneCell']) (by unfold maxLen; omega) (by omega) (by have := (hst.below 0).size; have := hb.size; simp; omega) ?_; intro v' w3 hown' hgrow _))
          refine ⟨⟨k + 1, _, _, by go_num, rfl, HS2.out (f k + cc) (0) (by omega) (by omega) (by omega) (by omega), own_snoc_int (by omega) hown', below_append hb (hst.below _) hb.size HOW.out hgrow⟩, ?_⟩
          have := HFZ.out; simp only [intOf]; omega
        · go_wp2_with (first
            | ((with_reducible refine (HK.out k _ (by assumption) (by assumption)).mono ?_); rintro e w2 ⟨rfl, hst⟩)
            | (at_builtin; refine wpList_append_own _ rfl _ _ 98 rfl w.heap.size 3 i0 (.int .i64 0) 1 8 Tryz.underlying98 hi hz0 hz1 hz2 rfl (by decide) u7 _ _ rfl ((hst.owns HOW.out).alloc _) ⟨w2.heap.size, 0, none⟩ 1 1 [.int .i64 ((f k + cc) % 10000)] rfl rfl (cell_one_new _ _ _) (by simp [Value.oneCell']) (by unfold maxLen; omega) (by omega) (by have := (hst.below 0).size; have := hb.size; simp; omega) ?_; intro v' w3 hown' hgrow _))
          refine ⟨⟨k + 1, _, _, by go_num, rfl, HS2.out ((f k + cc) % 10000) ((f k + cc) / 10000) (by omega) (by omega) (by omega) (by omega), own_snoc_int (by omega) hown', below_append hb (hst.below _) hb.size HOW.out hgrow⟩, ?_⟩
          have := HFZ.out; simp only [intOf]; omega
    · have hlt : n ≤ k := by omega
      have hc0 : cc = 0 := by omega
      subst hc0
      have hd : ((0 : Int) != 0) = false := rfl
      go_wp2
      go_ret
      exact ⟨⟨_, ds, k, rfl, Sl.of_owns HOW.out, HF.out, hlt⟩, hb⟩

theorem fold_val {f : Nat → Int} {n k : Nat} {ds : List Nat} (h : FoldAt f n k ds 0) (hk : n ≤ k) (hz : ∀ i, n ≤ i → f i = 0) (T : Nat) (hT : foldS f n = T) : trim ds = dig 10000 T := by
  have h1 : ∀ j, foldS f (n + j) = foldS f n := by
    intro j
    induction j with
    | zero => rfl
    | succ j ih => rw [Nat.add_succ, foldS, ih, hz (n + j) (by omega)]; omega
  have h2 := h.eq
  obtain ⟨j, rfl⟩ : ∃ j, k = n + j := ⟨k - n, by omega⟩
  rw [h1, hT] at h2
  rw [trim_dig (by omega) ds h.dlt]
  congr 1
  omega
end Go.Proofs.YtkekafamfoifmaaGreatDoor

namespace Go.Proofs.YtkekafamfoifmaaGreatDoor
open Go.RowKit

theorem getD_lt {B : Nat} {xs : List Nat} (h : ∀ d ∈ xs, d < B + 1) (k : Nat) : xs[k]?.getD 0 < B + 1 := by
  cases e : xs[k]? with
  | none => simp
  | some d => exact h d (List.mem_of_getElem? e)

set_option maxHeartbeats 400000 in
theorem plusC_any (k : Nat) (b1 b2 : Nat) (v1 : Value) (xs : List Nat) (v2 : Value) (ys : List Nat) (lo1 hi1 lo2 hi2 : Nat) (w : World) (hk : k ≤ 200000000)
    (hb1 : w.cell? ⟨b1, 0, none⟩ = some v1) (hb2 : w.cell? ⟨b2, 0, none⟩ = some v2) (h2 : Ns w v2 ys lo2 hi2) (hy : ∀ d ∈ ys, d < 10000) (h1 : Ns w v1 xs lo1 hi1) (hx : ∀ d ∈ xs, d < 10000) :
    Calls Tryz.prog 113 #[.int .i64 k, .pointer (some ⟨b1, 0, none⟩), .pointer (some ⟨b2, 0, none⟩)] w fun e w' => e = .returned (.int .i64 ((xs[k]?.getD 0 : Nat) + (ys[k]?.getD 0 : Nat))) ∧ Still w w' := by
  have hxk := getD_lt hx k
  have hyk := getD_lt hy k
  have H2 := Lib.hid h2
  clear h2 hy
  have H1 := Lib.hid h1
  clear h1 hx
  go_enter Tryz.func113, Tryz.ntmps113
  go_wp2_with fail
  go_quiet ((go_at_call 114; exact quiet_eq (at_any _ _ _ _ _ _ (by first | exact H1.out.drewN _ | exact H2.out.drewN _) (by omega))))
  go_wp2
  go_ret
  exact ⟨rfl, Still.drewN _ _⟩

set_option maxHeartbeats 400000 in
theorem minusC_any (k : Nat) (b1 b2 : Nat) (v1 : Value) (xs : List Nat) (v2 : Value) (ys : List Nat) (lo1 hi1 lo2 hi2 : Nat) (w : World) (hk : k ≤ 200000000)
    (hb1 : w.cell? ⟨b1, 0, none⟩ = some v1) (hb2 : w.cell? ⟨b2, 0, none⟩ = some v2) (h2 : Ns w v2 ys lo2 hi2) (hy : ∀ d ∈ ys, d < 10000) (h1 : Ns w v1 xs lo1 hi1) (hx : ∀ d ∈ xs, d < 10000) :
    Calls Tryz.prog 115 #[.int .i64 k, .pointer (some ⟨b1, 0, none⟩), .pointer (some ⟨b2, 0, none⟩)] w fun e w' => e = .returned (.int .i64 ((xs[k]?.getD 0 : Nat) - (ys[k]?.getD 0 : Nat))) ∧ Still w w' := by
  have hxk := getD_lt hx k
  have hyk := getD_lt hy k
  have H2 := Lib.hid h2
  clear h2 hy
  have H1 := Lib.hid h1
  clear h1 hx
  go_enter Tryz.func115, Tryz.ntmps115
  go_wp2_with fail
  go_quiet ((go_at_call 114; exact quiet_eq (at_any _ _ _ _ _ _ (by first | exact H1.out.drewN _ | exact H2.out.drewN _) (by omega))))
  go_wp2
  go_ret
  exact ⟨rfl, Still.drewN _ _⟩

set_option maxHeartbeats 400000 in
theorem byC_any (k : Nat) (b1 b2 : Nat) (v1 : Value) (xs : List Nat) (d : Nat) (lo1 hi1 : Nat) (w : World) (hk : k ≤ 200000000)
    (hb1 : w.cell? ⟨b1, 0, none⟩ = some v1) (hb2 : w.cell? ⟨b2, 0, none⟩ = some (.int .i64 (d : Int))) (hd : d ≤ 9999) (h1 : Ns w v1 xs lo1 hi1) (hx : ∀ d ∈ xs, d < 10000) :
    Calls Tryz.prog 138 #[.int .i64 k, .pointer (some ⟨b1, 0, none⟩), .pointer (some ⟨b2, 0, none⟩)] w fun e w' => e = .returned (.int .i64 ((xs[k]?.getD 0 : Nat) * (d : Int))) ∧ Still w w' := by
  have hxk := getD_lt hx k
  have hxd : (xs[k]?.getD 0) * d ≤ 9999 * 9999 := Nat.mul_le_mul (by omega) hd
  have hxd2 : ((xs[k]?.getD 0 : Nat) : Int) * (d : Int) ≤ 99980001 := by rw [← Int.natCast_mul]; omega
  have hxd3 : 0 ≤ ((xs[k]?.getD 0 : Nat) : Int) * (d : Int) := by rw [← Int.natCast_mul]; omega
  have H1 := Lib.hid h1
  clear h1 hx
  go_enter Tryz.func138, Tryz.ntmps138
  go_wp2_with fail
  go_quiet ((go_at_call 114; exact quiet_eq (at_any _ _ _ _ _ _ (by first | exact H1.out.drewN _) (by omega))))
  go_wp2
  go_ret
  exact ⟨rfl, Still.drewN _ _⟩

theorem foldS_val (xs : List Nat) (k : Nat) : foldS (fun i => (xs[i]?.getD 0 : Nat)) k = val 10000 (xs.take k) := by
  induction k with
  | zero => rfl
  | succ k ih =>
    rw [foldS, ih]
    by_cases h : k < xs.length
    · rw [val_take_succ 10000 xs k h]; simp
    · rw [List.take_of_length_le (by omega), List.take_of_length_le (by omega), List.getElem?_eq_none (by omega)]; simp
theorem foldS_all {xs : List Nat} {k : Nat} (h : xs.length ≤ k) : foldS (fun i => (xs[i]?.getD 0 : Nat)) k = val 10000 xs := by
  rw [foldS_val, List.take_of_length_le h]
theorem foldS_add (f g : Nat → Int) (k : Nat) : foldS (fun i => f i + g i) k = foldS f k + foldS g k := by
  induction k with
  | zero => rfl
  | succ k ih => rw [foldS, foldS, foldS, ih, Int.mul_add]; omega
theorem foldS_sub (f g : Nat → Int) (k : Nat) : foldS (fun i => f i - g i) k = foldS f k - foldS g k := by
  induction k with
  | zero => rfl
  | succ k ih => rw [foldS, foldS, foldS, ih, Int.mul_sub]; omega
theorem foldS_mul (f : Nat → Int) (c : Int) (k : Nat) : foldS (fun i => f i * c) k = foldS f k * c := by
  induction k with
  | zero => simp [foldS]
  | succ k ih => rw [foldS, foldS, ih, Int.add_mul, Int.mul_assoc]


def addF (n m i : Nat) : Int := ((dig 10000 n)[i]?.getD 0 : Nat) + ((dig 10000 m)[i]?.getD 0 : Nat)
def subF (n m i : Nat) : Int := ((dig 10000 n)[i]?.getD 0 : Nat) - ((dig 10000 m)[i]?.getD 0 : Nat)
def mulF (n d i : Nat) : Int := ((dig 10000 n)[i]?.getD 0 : Nat) * (d : Int)

theorem plusFold_any (k : Nat) (bx1 bx2 : Nat) (v1 : Value) (n lo1 hi1 : Nat) (v2 : Value) (m lo2 hi2 : Nat) (W : World) (hk : k ≤ 1000000) (e1 : bx1 < W.heap.size) (e2 : bx2 < W.heap.size)
    (hb1 : W.cell? ⟨bx1, 0, none⟩ = some v1) (hb2 : W.cell? ⟨bx2, 0, none⟩ = some (v2)) (h1 : Nm W v1 n lo1 hi1) (r1 : hi1 ≤ W.heap.size) (l1 : (dig 10000 n).length ≤ k) (h2 : Nm W v2 m lo2 hi2) (r2 : hi2 ≤ W.heap.size) (l2 : (dig 10000 m).length ≤ k) :
    Calls Tryz.prog 112 #[.int .i64 k, .int .i64 0, .func (.func 113) #[] #[.pointer (some ⟨bx1, 0, none⟩), .pointer (some ⟨bx2, 0, none⟩)]] W fun e w' =>
      (∃ v ds, e = .returned v ∧ Ns w' v ds W.heap.size w'.heap.size ∧ trim ds = dig 10000 (n + m)) ∧ Below W.heap.size W w' := by
  have g1 := fun i => getD_lt (B := 9999) (dig_lt (B := 10000) (by omega) n) i
  have g2 := fun i => getD_lt (B := 9999) (dig_lt (B := 10000) (by omega) m) i
  have hz : ∀ i, k ≤ i → addF n m i = 0 := by
    intro i hi
    have z1 : (dig 10000 n)[i]?.getD 0 = 0 := by rw [List.getElem?_eq_none (by omega)]; rfl
    have z2 : (dig 10000 m)[i]?.getD 0 = 0 := by rw [List.getElem?_eq_none (by omega)]; rfl
    simp [addF, z1, z2]
  have htot : foldS (addF n m) k = ((n + m : Nat) : Int) := by
    unfold addF; rw [foldS_add, foldS_all l1, foldS_all l2, val_dig (by omega), val_dig (by omega)]; simp
  refine (fold_any 113 #[.pointer (some ⟨bx1, 0, none⟩), .pointer (some ⟨bx2, 0, none⟩)] (addF n m) k W (enters_of Tryz.func113 (by kernel_rfl) rfl) ?_ hk ?_ ?_ ?_ ?_).mono ?_
  · intro i w' hi hbw
    exact plusC_any i bx1 bx2 v1 _ v2 _ lo1 hi1 lo2 hi2 w' hi ((hbw.cell (p := ⟨bx1, 0, none⟩) e1).trans hb1) ((hbw.cell (p := ⟨bx2, 0, none⟩) e2).trans hb2) (h2.below hbw r2) (dig_lt (by omega) m) (h1.below hbw r1) (dig_lt (by omega) n)
  · intro i; have := g1 i; have := g2 i; unfold addF; omega
  · intro i; have := g1 i; have := g2 i; unfold addF; omega
  · exact hz
  · rw [htot]; exact Int.natCast_nonneg _
  · rintro e w' ⟨⟨v, ds, j, rfl, hv, hf, hj⟩, hb⟩
    exact ⟨⟨v, ds, rfl, hv, fold_val hf hj hz _ htot⟩, hb⟩
theorem minusFold_any (k : Nat) (bx1 bx2 : Nat) (v1 : Value) (n lo1 hi1 : Nat) (v2 : Value) (m lo2 hi2 : Nat) (W : World) (hk : k ≤ 1000000) (e1 : bx1 < W.heap.size) (e2 : bx2 < W.heap.size)
    (hb1 : W.cell? ⟨bx1, 0, none⟩ = some v1) (hb2 : W.cell? ⟨bx2, 0, none⟩ = some (v2)) (h1 : Nm W v1 n lo1 hi1) (r1 : hi1 ≤ W.heap.size) (l1 : (dig 10000 n).length ≤ k) (h2 : Nm W v2 m lo2 hi2) (r2 : hi2 ≤ W.heap.size) (l2 : (dig 10000 m).length ≤ k) (hle : m ≤ n) :
    Calls Tryz.prog 112 #[.int .i64 k, .int .i64 0, .func (.func 115) #[] #[.pointer (some ⟨bx1, 0, none⟩), .pointer (some ⟨bx2, 0, none⟩)]] W fun e w' =>
      (∃ v ds, e = .returned v ∧ Ns w' v ds W.heap.size w'.heap.size ∧ trim ds = dig 10000 (n - m)) ∧ Below W.heap.size W w' := by
  have g1 := fun i => getD_lt (B := 9999) (dig_lt (B := 10000) (by omega) n) i
  have g2 := fun i => getD_lt (B := 9999) (dig_lt (B := 10000) (by omega) m) i
  have hz : ∀ i, k ≤ i → subF n m i = 0 := by
    intro i hi
    have z1 : (dig 10000 n)[i]?.getD 0 = 0 := by rw [List.getElem?_eq_none (by omega)]; rfl
    have z2 : (dig 10000 m)[i]?.getD 0 = 0 := by rw [List.getElem?_eq_none (by omega)]; rfl
    simp [subF, z1, z2]
  have htot : foldS (subF n m) k = ((n - m : Nat) : Int) := by
    unfold subF; rw [foldS_sub, foldS_all l1, foldS_all l2, val_dig (by omega), val_dig (by omega)]; omega
  refine (fold_any 115 #[.pointer (some ⟨bx1, 0, none⟩), .pointer (some ⟨bx2, 0, none⟩)] (subF n m) k W (enters_of Tryz.func115 (by kernel_rfl) rfl) ?_ hk ?_ ?_ ?_ ?_).mono ?_
  · intro i w' hi hbw
    exact minusC_any i bx1 bx2 v1 _ v2 _ lo1 hi1 lo2 hi2 w' hi ((hbw.cell (p := ⟨bx1, 0, none⟩) e1).trans hb1) ((hbw.cell (p := ⟨bx2, 0, none⟩) e2).trans hb2) (h2.below hbw r2) (dig_lt (by omega) m) (h1.below hbw r1) (dig_lt (by omega) n)
  · intro i; have := g1 i; have := g2 i; unfold subF; omega
  · intro i; have := g1 i; have := g2 i; unfold subF; omega
  · exact hz
  · rw [htot]; exact Int.natCast_nonneg _
  · rintro e w' ⟨⟨v, ds, j, rfl, hv, hf, hj⟩, hb⟩
    exact ⟨⟨v, ds, rfl, hv, fold_val hf hj hz _ htot⟩, hb⟩
theorem byFold_any (k : Nat) (bx1 bx2 : Nat) (v1 : Value) (n lo1 hi1 : Nat) (d : Nat) (W : World) (hk : k ≤ 1000000) (e1 : bx1 < W.heap.size) (e2 : bx2 < W.heap.size)
    (hb1 : W.cell? ⟨bx1, 0, none⟩ = some v1) (hb2 : W.cell? ⟨bx2, 0, none⟩ = some (.int .i64 (d : Int))) (h1 : Nm W v1 n lo1 hi1) (r1 : hi1 ≤ W.heap.size) (l1 : (dig 10000 n).length ≤ k) (hd : d ≤ 9999) :
    Calls Tryz.prog 112 #[.int .i64 k, .int .i64 0, .func (.func 138) #[] #[.pointer (some ⟨bx1, 0, none⟩), .pointer (some ⟨bx2, 0, none⟩)]] W fun e w' =>
      (∃ v ds, e = .returned v ∧ Ns w' v ds W.heap.size w'.heap.size ∧ trim ds = dig 10000 (n * d)) ∧ Below W.heap.size W w' := by
  have g1 := fun i => getD_lt (B := 9999) (dig_lt (B := 10000) (by omega) n) i
  have hz : ∀ i, k ≤ i → mulF n d i = 0 := by
    intro i hi
    have z1 : (dig 10000 n)[i]?.getD 0 = 0 := by rw [List.getElem?_eq_none (by omega)]; rfl
    simp [mulF, z1]
  have htot : foldS (mulF n d) k = ((n * d : Nat) : Int) := by
    unfold mulF; rw [foldS_mul, foldS_all l1, val_dig (by omega)]; simp
  refine (fold_any 138 #[.pointer (some ⟨bx1, 0, none⟩), .pointer (some ⟨bx2, 0, none⟩)] (mulF n d) k W (enters_of Tryz.func138 (by kernel_rfl) rfl) ?_ hk ?_ ?_ ?_ ?_).mono ?_
  · intro i w' hi hbw
    exact byC_any i bx1 bx2 v1 _ d lo1 hi1 w' hi ((hbw.cell (p := ⟨bx1, 0, none⟩) e1).trans hb1) ((hbw.cell (p := ⟨bx2, 0, none⟩) e2).trans hb2) hd (h1.below hbw r1) (dig_lt (by omega) n)
  · intro i; unfold mulF; rw [← Int.natCast_mul]; omega
  · intro i; have hm : ((dig 10000 n)[i]?.getD 0) * d ≤ 9999 * 9999 := Nat.mul_le_mul (by have := g1 i; omega) hd; unfold mulF; rw [← Int.natCast_mul]; omega
  · exact hz
  · rw [htot]; exact Int.natCast_nonneg _
  · rintro e w' ⟨⟨v, ds, j, rfl, hv, hf, hj⟩, hb⟩
    exact ⟨⟨v, ds, rfl, hv, fold_val hf hj hz _ htot⟩, hb⟩

set_option maxRecDepth 100000 in
set_option maxHeartbeats 400000 in
theorem plus_any (v1 v2 : Value) (n m : Nat) (lo1 hi1 lo2 hi2 : Nat) (w : World) (h1 : Nm w v1 n lo1 hi1) (h2 : Nm w v2 m lo2 hi2) (b1 : hi1 ≤ w.heap.size) (b2 : hi2 ≤ w.heap.size) (l1 : Few n) (l2 : Few m) :
    Calls Tryz.prog 86 #[v1, v2] w fun e w' => (∃ v, e = .returned v ∧ Nm w' v (n + m) w.heap.size w'.heap.size) ∧ Below w.heap.size w w' := by
  obtain ⟨a1, cap1, rfl⟩ : ∃ a cap, v1 = .slice a (dig 10000 n).length cap := by obtain ⟨a, cap, e, _⟩ := h1; exact ⟨a, cap, e⟩
  obtain ⟨a2, cap2, rfl⟩ : ∃ a cap, v2 = .slice a (dig 10000 m).length cap := by obtain ⟨a, cap, e, _⟩ := h2; exact ⟨a, cap, e⟩
  have H2 := Lib.hid h2
  clear h2
  have H1 := Lib.hid h1
  clear h1
  unfold Few at l1 l2
  obtain ⟨W, hW⟩ : ∃ W, (w.alloc (.cells #[.slice a1 (dig 10000 n).length cap1] 98)).alloc (.cells #[.slice a2 (dig 10000 m).length cap2] 98) = W := ⟨_, rfl⟩
  have hWs : W.heap.size = w.heap.size + 2 := by rw [← hW]; simp
  have hWb : Below w.heap.size w W := by rw [← hW]; exact ((Below.refl _ _).alloc (Nat.le_refl _) _).alloc (by simp) _
  have c1 : W.cell? ⟨w.heap.size, 0, none⟩ = some (.slice a1 (dig 10000 n).length cap1) := by rw [← hW]; simp [go_sem]
  have c2 : W.cell? ⟨w.heap.size + 1, 0, none⟩ = some (.slice a2 (dig 10000 m).length cap2) := by rw [← hW]; simp [go_sem]
  have hf := fun k hk l1 l2 => plusFold_any k w.heap.size (w.heap.size + 1) _ n lo1 hi1 _ m lo2 hi2 W hk (by omega) (by omega) c1 c2 (H1.out.below hWb b1) (by omega) l1 (H2.out.below hWb b2) (by omega) l2
  have HW := Lib.hid hW
  have HS := Lib.hid hWs
  have HF := Lib.hid hf
  clear hW hWs c1 c2 hf
  rcases Nat.lt_or_ge (dig 10000 n).length (dig 10000 m).length with hlt | hlt
  all_goals
    go_enter Tryz.func86, Tryz.ntmps86
    go_wp2_with (first
      | (go_at_call 112; rw [HW.out]; refine (HF.out _ (by omega) (by omega) (by omega)).mono ?_; rintro e w1 ⟨⟨v, ds, rfl, hv, ht⟩, hb⟩; have HV := Lib.hid hv; have HT := Lib.hid ht; clear hv ht)
      | (go_at_call 107; refine (trimmed_any _ ds _ _ _ HV.out).mono ?_; rintro e w2 ⟨⟨v', rfl, hv'⟩, rfl⟩; have HV2 := Lib.hid hv'; clear hv'))
    go_ret
    have hs := HS.out
    have hv2 := HV2.out
    rw [HT.out] at hv2
    exact ⟨⟨_, rfl, hv2.mono (by omega) (Nat.le_refl _)⟩, hWb.trans (hb.mono (by omega))⟩

set_option maxRecDepth 100000 in
set_option maxHeartbeats 400000 in
theorem minus_any (v1 v2 : Value) (n m : Nat) (lo1 hi1 lo2 hi2 : Nat) (w : World) (h1 : Nm w v1 n lo1 hi1) (h2 : Nm w v2 m lo2 hi2) (b1 : hi1 ≤ w.heap.size) (b2 : hi2 ≤ w.heap.size) (l1 : Few n) (_l2 : Few m) (hle : m ≤ n) :
    Calls Tryz.prog 88 #[v1, v2] w fun e w' => (∃ v, e = .returned v ∧ Nm w' v (n - m) w.heap.size w'.heap.size) ∧ Below w.heap.size w w' := by
  obtain ⟨a1, cap1, rfl⟩ : ∃ a cap, v1 = .slice a (dig 10000 n).length cap := by obtain ⟨a, cap, e, _⟩ := h1; exact ⟨a, cap, e⟩
  obtain ⟨a2, cap2, rfl⟩ : ∃ a cap, v2 = .slice a (dig 10000 m).length cap := by obtain ⟨a, cap, e, _⟩ := h2; exact ⟨a, cap, e⟩
  have H2 := Lib.hid h2
  clear h2
  have H1 := Lib.hid h1
  have hlen := dig_length_mono (B := 10000) (by omega) hle
  clear h1
  unfold Few at l1
  obtain ⟨W, hW⟩ : ∃ W, (w.alloc (.cells #[.slice a1 (dig 10000 n).length cap1] 98)).alloc (.cells #[.slice a2 (dig 10000 m).length cap2] 98) = W := ⟨_, rfl⟩
  have hWs : W.heap.size = w.heap.size + 2 := by rw [← hW]; simp
  have hWb : Below w.heap.size w W := by rw [← hW]; exact ((Below.refl _ _).alloc (Nat.le_refl _) _).alloc (by simp) _
  have c1 : W.cell? ⟨w.heap.size, 0, none⟩ = some (.slice a1 (dig 10000 n).length cap1) := by rw [← hW]; simp [go_sem]
  have c2 : W.cell? ⟨w.heap.size + 1, 0, none⟩ = some (.slice a2 (dig 10000 m).length cap2) := by rw [← hW]; simp [go_sem]
  have hf := fun k hk l1 l2 => minusFold_any k w.heap.size (w.heap.size + 1) _ n lo1 hi1 _ m lo2 hi2 W hk (by omega) (by omega) c1 c2 (H1.out.below hWb b1) (by omega) l1 (H2.out.below hWb b2) (by omega) l2 hle
  have HW := Lib.hid hW
  have HS := Lib.hid hWs
  have HF := Lib.hid hf
  clear hW hWs c1 c2 hf
  go_enter Tryz.func88, Tryz.ntmps88
  go_wp2_with (first
    | (go_at_call 112; rw [HW.out]; refine (HF.out _ (by omega) (by omega) (by omega)).mono ?_; rintro e w1 ⟨⟨v, ds, rfl, hv, ht⟩, hb⟩; have HV := Lib.hid hv; have HT := Lib.hid ht; clear hv ht)
    | (go_at_call 107; refine (trimmed_any _ ds _ _ _ HV.out).mono ?_; rintro e w2 ⟨⟨v', rfl, hv'⟩, rfl⟩; have HV2 := Lib.hid hv'; clear hv'))
  all_goals
    go_ret
    have hs := HS.out
    have hv2 := HV2.out
    rw [HT.out] at hv2
    exact ⟨⟨_, rfl, hv2.mono (by omega) (Nat.le_refl _)⟩, hWb.trans (hb.mono (by omega))⟩

set_option maxRecDepth 100000 in
set_option maxHeartbeats 400000 in
theorem by_any (v1 : Value) (n d : Nat) (lo1 hi1 : Nat) (w : World) (h1 : Nm w v1 n lo1 hi1) (b1 : hi1 ≤ w.heap.size) (l1 : Few n) (hd : d ≤ 9999) :
    Calls Tryz.prog 108 #[v1, .int .i64 (d : Int)] w fun e w' => (∃ v, e = .returned v ∧ Nm w' v (n * d) w.heap.size w'.heap.size) ∧ Below w.heap.size w w' := by
  obtain ⟨a1, cap1, rfl⟩ : ∃ a cap, v1 = .slice a (dig 10000 n).length cap := by obtain ⟨a, cap, e, _⟩ := h1; exact ⟨a, cap, e⟩
  have H1 := Lib.hid h1
  clear h1
  unfold Few at l1
  obtain ⟨W, hW⟩ : ∃ W, (w.alloc (.cells #[.slice a1 (dig 10000 n).length cap1] 98)).alloc (.cells #[.int .i64 (d : Int)] 3) = W := ⟨_, rfl⟩
  have hWs : W.heap.size = w.heap.size + 2 := by rw [← hW]; simp
  have hWb : Below w.heap.size w W := by rw [← hW]; exact ((Below.refl _ _).alloc (Nat.le_refl _) _).alloc (by simp) _
  have c1 : W.cell? ⟨w.heap.size, 0, none⟩ = some (.slice a1 (dig 10000 n).length cap1) := by rw [← hW]; simp [go_sem]
  have c2 : W.cell? ⟨w.heap.size + 1, 0, none⟩ = some (.int .i64 (d : Int)) := by rw [← hW]; simp [go_sem]
  have hf := fun k hk l1 => byFold_any k w.heap.size (w.heap.size + 1) _ n lo1 hi1 d W hk (by omega) (by omega) c1 c2 (H1.out.below hWb b1) (by omega) l1 hd
  have HW := Lib.hid hW
  have HS := Lib.hid hWs
  have HF := Lib.hid hf
  clear hW hWs c1 c2 hf
  go_enter Tryz.func108, Tryz.ntmps108
  go_wp2_with (first
    | (go_at_call 112; rw [HW.out]; refine (HF.out _ (by omega) (by omega)).mono ?_; rintro e w1 ⟨⟨v, ds, rfl, hv, ht⟩, hb⟩; have HV := Lib.hid hv; have HT := Lib.hid ht; clear hv ht)
    | (go_at_call 107; refine (trimmed_any _ ds _ _ _ HV.out).mono ?_; rintro e w2 ⟨⟨v', rfl, hv'⟩, rfl⟩; have HV2 := Lib.hid hv'; clear hv'))
  all_goals
    go_ret
    have hs := HS.out
    have hv2 := HV2.out
    rw [HT.out] at hv2
    exact ⟨⟨_, rfl, hv2.mono (by omega) (Nat.le_refl _)⟩, hWb.trans (hb.mono (by omega))⟩
end Go.Proofs.YtkekafamfoifmaaGreatDoor

