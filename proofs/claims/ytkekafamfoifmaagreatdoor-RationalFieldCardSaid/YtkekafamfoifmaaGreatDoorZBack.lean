/-
  slices.Backward over a slice of groups of digits: what it hands to the rounds of a loop.
  The walks of cmp.Compare and of the comparison of two numbers of groups.
-/
import Derived.RangeFuncNested
import Derived.RangeFuncBound
import Derived.RangeFuncCalls
import Derived.RangeFuncLeaves
import Derived.RangeFuncBox
import Derived.Shelf.Abstract
import Derived.Shelf.RegionOpen
import Derived.WalkKit
import Derived.OwnWalkIn
import Derived.TacticsInMore
import Derived.LoopNIn
import Derived.LoopIn
import Derived.Test.YtkekafamfoifmaaGreatDoorZNum
namespace Go.Proofs.YtkekafamfoifmaaGreatDoor
open Go.RowKit Go.Shelf
attribute [local go_sem] Oper.semAt_some

/-- What a round is handed: an index below L, and a group of digits. -/
abbrev BkEl (L : Nat) := { p : Nat × Nat // p.1 < L ∧ p.2 < 10000 }
def bkEnc {L : Nat} (x : BkEl L) : Array Value := #[Value.int .i64 (x.1.1 : Int), Value.int .i64 (x.1.2 : Int)]
/-- What has come after k rounds. -/
def bkUp (xs : List Nat) (k : Nat) : List (Nat × Nat) := (List.range k).map fun j => (xs.length - 1 - j, xs[xs.length - 1 - j]?.getD 0)
theorem bkUp_succ (xs : List Nat) (k : Nat) : bkUp xs (k + 1) = bkUp xs k ++ [(xs.length - 1 - k, xs[xs.length - 1 - k]?.getD 0)] := by simp [bkUp, List.range_succ]
theorem bkUp_length (xs : List Nat) (k : Nat) : (bkUp xs k).length = k := by simp [bkUp]

/-- What a round keeps: what lay below n₀, and the box of the slice that is gone through. -/
def KeepB (n₀ Bs : Nat) (A B : World) : Prop := Below n₀ A B ∧ B.heap[Bs]? = A.heap[Bs]?
theorem KeepB.refl (n₀ Bs : Nat) (A : World) : KeepB n₀ Bs A A := ⟨Below.refl _ _, rfl⟩
theorem KeepB.trans {n₀ Bs : Nat} {A B C : World} (h : KeepB n₀ Bs A B) (k : KeepB n₀ Bs B C) : KeepB n₀ Bs A C := ⟨h.1.trans k.1, k.2.trans h.2⟩
theorem KeepB.of_below {n₀ Bs m : Nat} {A B : World} (h : Below m A B) (h1 : n₀ ≤ m) (h2 : Bs < m) : KeepB n₀ Bs A B := ⟨h.mono h1, h.block Bs h2⟩
theorem KeepB.setCell {n₀ Bs : Nat} {A B : World} (h : KeepB n₀ Bs A B) {p : Addr} (hp : n₀ ≤ p.block) (hq : Bs ≠ p.block) (u : Value) : KeepB n₀ Bs A (B.setCell p u) :=
  ⟨h.1.setCell hp u, (Below.heap_setCell _ _ _ _ hq).trans h.2⟩
theorem KeepB.cell {n₀ Bs : Nat} {A B : World} (h : KeepB n₀ Bs A B) (o : Nat) : B.cell? ⟨Bs, o, none⟩ = A.cell? ⟨Bs, o, none⟩ := World.cell?_of_block (w := A) h.2
theorem keepB_b {n₀ Bs : Nat} {w : World} (hn : n₀ ≤ w.heap.size) (hb : Bs < w.heap.size) (W : World) (l : Nat) (o o' : Obj) (hl : w.heap.size ≤ l) (h : W.heap[l]? = some o) (h1 : o.isCells = false) (h2 : o.isWalk = false) : KeepB n₀ Bs W (W.putObj l o') :=
  ⟨belowK_b hn W l o o' hl h h1 h2, (grownBy_putObj' W l o').block Bs (by have := (Array.getElem?_eq_some_iff.1 h).1; omega) (fun e => by simp only [Option.some.injEq] at e; omega)⟩

set_option maxRecDepth 100000 in
set_option maxHeartbeats 2000000 in
theorem back1_in (F : Fence) (n : Nat) (h8 : F.fn 137) (hro : F.round = none) (hn : 1 ≤ n) (l Bs n₀ hi lo : Nat) (sv : Value) (xs : List Nat) (hb : hi ≤ n₀) (hd : ∀ d ∈ xs, d < 10000) (J Jx : List (BkEl xs.length) → World → Prop)
    (hY : ∀ pre x W, J pre W → pre.length < xs.length → YieldAt F (n - 1) Tryz.prog l (bkEnc x) W fun e W' =>
      (e = .returned (.bool true) ∧ J (pre ++ [x]) W' ∧ KeepB n₀ Bs W W') ∨ (e = .returned (.bool false) ∧ Jx (pre ++ [x]) W'))
    (W : World) (hBs : W.cell? ⟨Bs, 0, none⟩ = some sv) (hI : Ns W sv xs lo hi) (h0 : J [] W) :
    CallsIn F n Tryz.prog 137 #[.func (.yield l) #[] #[], .pointer (some ⟨Bs, 0, none⟩)] W fun e W' => (∃ v, e = .returned v) ∧
      ((∃ ys, ys.map (·.1) = bkUp xs xs.length ∧ J ys W') ∨ (∃ pre, (∃ k, k ≤ xs.length ∧ pre.map (·.1) = bkUp xs k) ∧ Jx pre W')) := by
  obtain ⟨a, cap, rfl⟩ : ∃ a cap, sv = .slice a xs.length cap := by obtain ⟨a, cap, e, _⟩ := hI; exact ⟨a, cap, e⟩
  have hlen := hI.len
  unfold maxLen at hlen
  have HI := Lib.hid hI
  clear hI
  refine callsIn_of_wp Tryz.func137 rfl h8 ?_ hro
  simp only [Tryz.ntmps137, List.size_toArray, List.length_cons, List.length_nil, Nat.reduceAdd, Nat.reduceSub, Array.replicate_succ, Array.replicate_zero, List.push_toArray, List.append_toArray, List.nil_append, List.cons_append]
  gi_wp2
  gi_loopw [3] (fun i wr => ∃ (k : Nat) (ys : List (BkEl xs.length)), k ≤ xs.length ∧ i = .int .i64 ((xs.length : Int) - 1 - k) ∧ ys.map (·.1) = bkUp xs k ∧ J ys wr ∧ KeepB n₀ Bs W wr)
    (fun i _ => (intOf i + 1).toNat)
  case atStart => exact ⟨0, [], Nat.zero_le _, by go_num, rfl, h0, KeepB.refl _ _ _⟩
  case round =>
    obtain ⟨k, ys, hk, rfl, hys, hJs, hnx⟩ := hrel
    have hylen : ys.length = k := by have := congrArg List.length hys; simpa [bkUp_length] using this
    have HYS := Lib.hid hys
    clear hys
    by_cases hlt : k < xs.length
    · have hcB := (hnx.cell 0).trans hBs
      have hIr : Ns wr _ xs lo hi := HI.out.below hnx.1 hb
      obtain ⟨i, hk2, hi2⟩ : ∃ i, i < xs.length ∧ i = xs.length - 1 - k := ⟨_, by omega, rfl⟩
      have hi3 : (xs.length : Int) - 1 - k = i := by omega
      rw [hi3]
      have HI2 := Lib.hid hi2
      clear hi2 hi3
      obtain ⟨b, off, rfl, _, _, hcx⟩ := hIr.at (k := i) hk2
      have hx : xs[i] < 10000 := hd _ (List.getElem_mem _)
      obtain ⟨fn, tmps, assign, body, hy, hR⟩ := hY ys ⟨(i, xs[i]), hk2, hx⟩ wr hJs (by omega)
      simp only [bkEnc] at hy
      clear hIr
      gi_wp2
      refine hR.mono ?_
      rintro e W3 (⟨rfl, hJ3, hk3⟩ | ⟨rfl, hJx3⟩)
      · gi_wp2
        go_roundw
        case rel => exact ⟨k + 1, _, by omega, congrArg (Value.int .i64) (by have := HI2.out; omega), by rw [List.map_append, HYS.out, bkUp_succ]; simp [HI2.out, show xs.length - 1 - k < xs.length from by omega], hJ3, hnx.trans hk3⟩
        case measure => have := HI2.out; simp only [intOf]; omega
      · gi_wp2
        refine bodyPost_ret (results_none rfl _ _ _) rfl ?_
        exact ⟨⟨_, rfl⟩, .inr ⟨_, ⟨k + 1, by omega, by rw [List.map_append, HYS.out, bkUp_succ]; simp [HI2.out, show xs.length - 1 - k < xs.length from by omega]⟩, hJx3⟩⟩
    · obtain rfl : k = xs.length := by omega
      gi_wp2
      go_end0
      exact ⟨⟨_, rfl⟩, .inl ⟨ys, HYS.out, hJs⟩⟩

set_option maxHeartbeats 1000000 in
/-- slices.Backward boxes the slice value; the function value captures the box. -/
theorem back_in (F : Fence) (n : Nat) (h6 : F.fn 106) (hro : F.round = none) (a : Option Addr) (len cap : Nat) (w : World) :
    CallsIn F n Tryz.prog 106 #[.slice a len cap] w fun e w' => e = .returned (.func (.func 137) #[] #[.pointer (some ⟨w.heap.size, 0, none⟩)]) ∧ w.alloc (.cells #[.slice a len cap] 98) = w' := by
  refine callsIn_of_wp Tryz.func106 rfl h6 ?_ hro
  simp only [Tryz.ntmps106, List.size_toArray, List.length_cons, List.length_nil, Nat.reduceAdd, Nat.reduceSub, Array.replicate_succ, Array.replicate_zero, List.push_toArray, List.append_toArray, List.nil_append, List.cons_append]
  gi_wp2
  go_ret
  exact ⟨rfl, rfl⟩

/-- slices.Backward hands back a value whose rounds go through the slice from its end. n₀: what a round must keep. -/
theorem back_stops (F : Fence) (n : Nat) (h8 : F.fn 137) (hro : F.round = none) (hn : 1 ≤ n) (Bs n₀ lo hi : Nat) (sv : Value) (xs : List Nat) (w : World) (hBs : Bs < w.heap.size) (hn₀ : n₀ ≤ w.heap.size)
    (hc : w.cell? ⟨Bs, 0, none⟩ = some sv) (hI : Ns w sv xs lo hi) (hb : hi ≤ n₀) (hd : ∀ d ∈ xs, d < 10000) :
    SeqStopsK F n Tryz.prog 137 #[.pointer (some ⟨Bs, 0, none⟩)] (bkEnc (L := xs.length)) (KeepB n₀ Bs) (fun ys => ys.map (·.1) = bkUp xs xs.length)
      (fun pre => ∃ k, k ≤ xs.length ∧ pre.map (·.1) = bkUp xs k) xs.length w := fun l J Jx W hW _ _ hY h0 =>
  back1_in F n h8 hro hn l Bs n₀ hi lo sv xs hb hd J Jx hY W ((hW.cell (p := ⟨Bs, 0, none⟩) hBs).trans hc) (hI.below hW (by omega)) h0
end Go.Proofs.YtkekafamfoifmaaGreatDoor

namespace Go.Proofs.YtkekafamfoifmaaGreatDoor
open Go.RowKit Go.Shelf
attribute [local go_sem] Oper.semAt_some

/-- The order of two integers: -1, 0 or 1. -/
def cmpI (a b : Int) : Int := if a < b then -1 else if b < a then 1 else 0

set_option maxHeartbeats 400000 in
theorem cmpCompare_any (a b : Int) (w : World) :
    Calls Tryz.prog 105 #[.int .i64 a, .int .i64 b] w fun e w' => e = .returned (.int .i64 (cmpI a b)) ∧ w = w' := by
  have h1 : (a != a) = false := by simp
  have h2 : (b != b) = false := by simp
  rcases Int.lt_trichotomy a b with h | h | h
  · have hc : cmpI a b = -1 := by simp [cmpI, h]
    rw [hc]
    clear hc
    go_enter Tryz.func105, Tryz.ntmps105
    go_wp2
    go_ret
    exact ⟨rfl, rfl⟩
  · subst h
    have hc : cmpI a a = 0 := by simp [cmpI]
    rw [hc]
    clear hc
    go_enter Tryz.func105, Tryz.ntmps105
    go_wp2
    go_ret
    exact ⟨rfl, rfl⟩
  · have hc : cmpI a b = 1 := by simp [cmpI, h]; omega
    have hn : ¬ a < b := by omega
    rw [hc]
    clear hc
    go_enter Tryz.func105, Tryz.ntmps105
    go_wp2
    go_ret
    exact ⟨rfl, rfl⟩

/-- Of two numbers with different numbers of groups the one with more is greater. -/
theorem cmp_length {B n m : Nat} (hB : 2 ≤ B) (h : ¬ (dig B n).length = (dig B m).length) : cmpI (dig B n).length (dig B m).length = cmpI n m := by
  unfold cmpI
  rcases Nat.lt_or_gt_of_ne h with h1 | h1
  · have : n < m := by
      rcases Nat.lt_or_ge n m with h2 | h2
      · exact h2
      · have := dig_length_mono hB h2; omega
    rw [if_pos (by omega), if_pos (by omega)]
  · have : m < n := by
      rcases Nat.lt_or_ge m n with h2 | h2
      · exact h2
      · have := dig_length_mono hB h2; omega
    rw [if_neg (by omega), if_pos (by omega), if_neg (by omega), if_pos (by omega)]

theorem mem_bkUp {xs : List Nat} {k : Nat} {p : Nat × Nat} (h : p ∈ bkUp xs k) : ∃ j, j < k ∧ p = (xs.length - 1 - j, xs[xs.length - 1 - j]?.getD 0) := by
  simp only [bkUp, List.mem_map, List.mem_range] at h
  obtain ⟨j, hj, rfl⟩ := h
  exact ⟨j, hj, rfl⟩

theorem back_equal {B n m : Nat} (hB : 2 ≤ B) (hl : (dig B n).length = (dig B m).length) (ys : List (BkEl (dig B n).length)) (hys : ys.map (·.1) = bkUp (dig B n) (dig B n).length) (hp : ∀ p ∈ ys, (dig B m)[p.1.1]?.getD 0 = p.1.2) : n = m := by
  refine dig_inj hB (List.ext_getElem hl fun i h1 h2 => ?_)
  have hm : (i, (dig B n)[i]?.getD 0) ∈ ys.map (·.1) := by
    rw [hys]
    simp only [bkUp, List.mem_map, List.mem_range]
    exact ⟨(dig B n).length - 1 - i, by omega, by rw [show (dig B n).length - 1 - ((dig B n).length - 1 - i) = i from by omega]⟩
  obtain ⟨p, hp1, hp2⟩ := List.mem_map.1 hm
  have := hp p hp1
  rw [hp2] at this
  simp only [List.getElem?_eq_getElem h1, List.getElem?_eq_getElem h2, Option.getD_some] at this
  exact this.symm

theorem val_cmp {B : Nat} (hB : 2 ≤ B) : ∀ (a b : List Nat) (x y : Nat), a.length = b.length → (∀ d ∈ a, d < B) → (∀ d ∈ b, d < B) → x < y → ∀ c, val B (a ++ x :: c) < val B (b ++ y :: c) := by
  intro a b x y hl ha hb hxy c
  rw [val_append, val_append, hl]
  have h1 := val_lt hB a ha
  rw [hl] at h1
  simp only [val]
  have h2 : B ^ b.length * (x + B * val B c) + B ^ b.length ≤ B ^ b.length * (y + B * val B c) := by
    rw [← Nat.mul_succ]
    exact Nat.mul_le_mul_left _ (by omega)
  omega

theorem back_first {B n m : Nat} (hB : 2 ≤ B) (hl : (dig B n).length = (dig B m).length) (ini : List (BkEl (dig B n).length)) (last : BkEl (dig B n).length) (k : Nat) (hk : k ≤ (dig B n).length)
    (hys : (ini ++ [last]).map (·.1) = bkUp (dig B n) k) (hp : ∀ p ∈ ini, (dig B m)[p.1.1]?.getD 0 = p.1.2) (hne : ¬ (dig B m)[last.1.1]?.getD 0 = last.1.2) :
    cmpI (last.1.2 : Nat) ((dig B m)[last.1.1]?.getD 0 : Nat) = cmpI n m := by
  obtain ⟨j, rfl⟩ : ∃ j, k = j + 1 := by
    cases k with
    | zero => simp [bkUp] at hys
    | succ j => exact ⟨j, rfl⟩
  rw [bkUp_succ, List.map_append] at hys
  obtain ⟨h1, h2⟩ := List.append_inj' hys rfl
  simp only [List.map_cons, List.map_nil, List.cons.injEq, and_true] at h2
  obtain ⟨i, hi⟩ : ∃ i, i = (dig B n).length - 1 - j := ⟨_, rfl⟩
  rw [← hi] at h2
  have hin : i < (dig B n).length := by omega
  have him : i < (dig B m).length := by omega
  rw [h2] at hne ⊢
  simp only [List.getElem?_eq_getElem hin, List.getElem?_eq_getElem him, Option.getD_some] at hne ⊢
  -- behind i the digits are the same
  have htail : (dig B n).drop (i + 1) = (dig B m).drop (i + 1) := by
    refine List.ext_getElem (by simp [hl]) fun r h3 h4 => ?_
    simp only [List.length_drop] at h3 h4
    have hm : (i + 1 + r, (dig B n)[i + 1 + r]?.getD 0) ∈ ini.map (·.1) := by
      rw [h1]
      simp only [bkUp, List.mem_map, List.mem_range]
      exact ⟨(dig B n).length - 1 - (i + 1 + r), by omega, by rw [show (dig B n).length - 1 - ((dig B n).length - 1 - (i + 1 + r)) = i + 1 + r from by omega]⟩
    obtain ⟨p, hp1, hp2⟩ := List.mem_map.1 hm
    have := hp p hp1
    rw [hp2] at this
    simp only [List.getElem?_eq_getElem (show i + 1 + r < (dig B n).length from by omega), List.getElem?_eq_getElem (show i + 1 + r < (dig B m).length from by omega), Option.getD_some] at this
    simp only [List.getElem_drop]
    exact this.symm
  have en : dig B n = (dig B n).take i ++ (dig B n)[i] :: (dig B n).drop (i + 1) := by rw [List.getElem_cons_drop, List.take_append_drop]
  have em : dig B m = (dig B m).take i ++ (dig B m)[i] :: (dig B n).drop (i + 1) := by rw [htail, List.getElem_cons_drop, List.take_append_drop]
  have vn := val_dig hB n
  have vm := val_dig hB m
  have hlen : ((dig B n).take i).length = ((dig B m).take i).length := by simp; omega
  have dn : ∀ d ∈ (dig B n).take i, d < B := fun d hd => dig_lt hB n d (List.mem_of_mem_take hd)
  have dm : ∀ d ∈ (dig B m).take i, d < B := fun d hd => dig_lt hB m d (List.mem_of_mem_take hd)
  rcases Nat.lt_or_gt_of_ne (fun h => hne h.symm : (dig B n)[i] ≠ (dig B m)[i]) with h5 | h5
  · have h6 := val_cmp hB _ _ _ _ hlen dn dm h5 ((dig B n).drop (i + 1))
    rw [← en, ← em, vn, vm] at h6
    unfold cmpI
    rw [if_pos (by omega), if_pos (by omega)]
  · have h6 := val_cmp hB _ _ _ _ hlen.symm dm dn h5 ((dig B n).drop (i + 1))
    rw [← en, ← em, vn, vm] at h6
    unfold cmpI
    rw [if_neg (by omega), if_pos (by omega), if_neg (by omega), if_pos (by omega)]

theorem Sl.own {W W' : World} {row : Option Nat} {v : Value} {n sz : Nat} {cs : List Value} {lo hi : Nat} (h : Sl W v n sz cs lo hi) (hg : W.grownBy W' row) (hr : ∀ r, row = some r → ∃ o : Obj, W.heap[r]? = some o ∧ o.isCells = false) : Sl W' v n sz cs lo hi := by
  obtain ⟨a, cap, hv, h3, h4, h5, h6, h7⟩ := h
  refine ⟨a, cap, hv, h3, h4, h5, h6, fun ad ha => ?_⟩
  obtain ⟨b, off, e, l1, l2, l3⟩ := h7 ad ha
  exact ⟨b, off, e, l1, l2, fun i u hu => cell_kept (l3 i u hu) hg hr⟩

set_option maxRecDepth 100000 in
set_option maxHeartbeats 2000000 in
theorem compare_any (v1 v2 : Value) (n m : Nat) (lo1 hi1 lo2 hi2 : Nat) (w : World) (h1 : Nm w v1 n lo1 hi1) (h2 : Nm w v2 m lo2 hi2) (b1 : hi1 ≤ w.heap.size) (b2 : hi2 ≤ w.heap.size) :
    Calls Tryz.prog 80 #[v1, v2] w fun e w' => e = .returned (.int .i64 (cmpI n m)) ∧ Below w.heap.size w w' := by
  obtain ⟨a1, cap1, rfl⟩ : ∃ a cap, v1 = .slice a (dig 10000 n).length cap := by obtain ⟨a, cap, e, _⟩ := h1; exact ⟨a, cap, e⟩
  obtain ⟨a2, cap2, rfl⟩ : ∃ a cap, v2 = .slice a (dig 10000 m).length cap := by obtain ⟨a, cap, e, _⟩ := h2; exact ⟨a, cap, e⟩
  have g1 := h1.len
  have g2 := h2.len
  unfold maxLen at g1 g2
  have H1 := Lib.hid h1
  have H2 := Lib.hid h2
  clear h1 h2
  by_cases hl : (dig 10000 n).length = (dig 10000 m).length
  · have hlb : (((dig 10000 n).length : Int) != ((dig 10000 m).length : Int)) = false := by rw [bne_eq_false_iff_eq]; omega
    have HL := Lib.hid hl
    clear hl
    refine (callsIn_wide (n := 3)).1 ?_
    refine callsIn_of_wp_marks Tryz.func80 rfl trivial ?_ rfl
    simp only [Tryz.ntmps80, List.size_toArray, List.length_cons, List.length_nil, Nat.reduceAdd, Nat.reduceSub, Array.replicate_succ, Array.replicate_zero, List.push_toArray, List.append_toArray, List.nil_append, List.cons_append]
    gi_wp2_with (refine ⟨trivial, ?_⟩; gi_at_call 106; refine (back_in Fence.wide _ trivial rfl _ _ _ _).mono ?_; rintro e w' ⟨rfl, rfl⟩)
    have bM := Boxed.new w 98 (.slice a2 (dig 10000 m).length cap2)
    have bR := Boxed.new (w.alloc (.cells #[.slice a2 (dig 10000 m).length cap2] 98)) 3 (.int .i64 0)
    rw [World.size_alloc] at bR
    obtain ⟨W0, hW0⟩ : ∃ W0, (w.alloc (.cells #[.slice a2 (dig 10000 m).length cap2] 98)).alloc (.cells #[.int .i64 0] 3) = W0 := ⟨_, rfl⟩
    have hs0 : W0.heap.size = w.heap.size + 1 + 1 := by rw [← hW0]; simp
    have hB0 : Below w.heap.size w W0 := by rw [← hW0]; exact ((Below.refl _ _).alloc (Nat.le_refl _) _).alloc (by simp) _
    have bM0 : Boxed W0 w.heap.size 98 (.slice a2 (dig 10000 m).length cap2) := by rw [← hW0]; exact bM.alloc _
    have bR0 : Boxed W0 (w.heap.size + 1) 3 (.int .i64 0) := by rw [← hW0]; exact bR
    have bN := Boxed.new W0 98 (.slice a1 (dig 10000 n).length cap1)
    rw [hs0] at bN
    rw [hW0]
    clear hW0 bM bR
    have hl1 := H1.out
    have hl2 := H2.out
    have hB1 : Below W0.heap.size W0 (W0.alloc (.cells #[.slice a1 (dig 10000 n).length cap1] 98)) := (Below.refl _ _).alloc (Nat.le_refl _) _
    refine wpIn_rangeFunc_ownG rfl (by omega) (gf := 137) (lb := #[.pointer (some ⟨w.heap.size + 1 + 1, 0, none⟩)]) rfl trivial (enters_of Tryz.func137 (by kernel_rfl) rfl)
      (back_stops Fence.wide _ trivial rfl (by omega) (w.heap.size + 1 + 1) w.heap.size lo1 hi1 _ (dig 10000 n) (W0.alloc (.cells #[.slice a1 (dig 10000 n).length cap1] 98)) (by simp; omega) (by simp; omega) bN.cell ((hl1.below hB0 b1).below hB1 (by omega)) b1 (dig_lt (by omega) n))
      KeepB.trans (keepB_b (by simp; omega) (by simp; omega)) (Below.refl _ _) (fun _ => rfl)
      (fun pre W => ((∀ p ∈ pre, (dig 10000 m)[p.1.1]?.getD 0 = p.1.2) ∧ W.cell? ⟨w.heap.size, 0, none⟩ = some (.slice a2 (dig 10000 m).length cap2) ∧ Nm W (.slice a2 (dig 10000 m).length cap2) m lo2 hi2 ∧ W.cell? ⟨w.heap.size + 1, 0, none⟩ = some (.int .i64 0) ∧ W.frozen? ⟨w.heap.size + 1, 0, none⟩ = false) ∧ Below w.heap.size w W)
      (fun c pre W => (c = .ret ∧ ∃ ini last, pre = ini ++ [last] ∧ (∀ p ∈ ini, (dig 10000 m)[p.1.1]?.getD 0 = p.1.2) ∧ ¬ (dig 10000 m)[last.1.1]?.getD 0 = last.1.2 ∧ W.cell? ⟨w.heap.size + 1, 0, none⟩ = some (.int .i64 (cmpI (last.1.2 : Nat) ((dig 10000 m)[last.1.1]?.getD 0 : Nat)))) ∧ Below w.heap.size w W)
      ?I ?Ix ?h0
      (fun x => { tmps := #[.slice a1 (dig 10000 n).length cap1, .slice a2 (dig 10000 m).length cap2, undef, .pointer (some ⟨w.heap.size, 0, none⟩), .pointer (some ⟨w.heap.size + 1, 0, none⟩), .int .i64 (x.1.1 : Int), .int .i64 (x.1.2 : Int), .slice a1 (dig 10000 n).length cap1, .int .i64 (dig 10000 n).length, .slice a2 (dig 10000 m).length cap2, .int .i64 (dig 10000 m).length, .bool false, undef, undef, undef, undef, undef, .slice a1 (dig 10000 n).length cap1, .func (.func 137) #[] #[.pointer (some ⟨w.heap.size + 1 + 1, 0, none⟩)], .int .i64 (x.1.1 : Int), .int .i64 (x.1.2 : Int), undef, undef, undef, undef, undef, undef, undef, undef, undef, undef, undef, undef], defers := [] }) ?assign ?body ?done ?stop
    case I => exact OwnFrom.and (Own.from (fun s A B row hs hg hr => ⟨hs.1, cell_kept hs.2.1 hg hr, hs.2.2.1.own hg hr, cell_kept hs.2.2.2.1 hg hr, (frozen_kept hs.2.2.2.1 hg hr).trans hs.2.2.2.2⟩) _) (ownFrom_below (Nat.le_refl _) (by simp; omega))
    case Ix => exact fun c => OwnFrom.and (Own.from (fun s A B row hs hg hr => by obtain ⟨hc, ini, last, e1, e2, e3, e4⟩ := hs; exact ⟨hc, ini, last, e1, e2, e3, cell_kept e4 hg hr⟩) _) (ownFrom_below (Nat.le_refl _) (by simp; omega))
    case h0 => exact ⟨⟨by simp, (bM0.alloc _).cell, (hl2.below hB0 b2).below hB1 (by omega), (bR0.alloc _).cell, (bR0.alloc _).frozen⟩, hB0.trans (hB1.mono (by omega))⟩
    case assign =>
      intro l x W K hK
      simp only [bkEnc]
      gi_wp2
      exact hK
    case body =>
      rintro l pre x W ⟨⟨hp, hcM, hNm, hcR, hfR⟩, hB⟩ _
      obtain ⟨⟨i, d⟩, hi, hd⟩ := x
      simp only at hi hd ⊢
      have hi2 : i < (dig 10000 m).length := by rw [← HL.out]; exact hi
      obtain ⟨b, off, rfl, hlo, hhi, hcx⟩ := hNm.at (k := i) hi2
      have HN := Lib.hid hNm
      have HP := Lib.hid hp
      have hge : (dig 10000 m)[i]?.getD 0 = (dig 10000 m)[i] := by rw [List.getElem?_eq_getElem hi2]; rfl
      have HG := Lib.hid hge
      clear hNm hp hge
      by_cases he : d = (dig 10000 m)[i]
      · have hne : ((d : Int) != ((dig 10000 m)[i] : Int)) = false := by rw [bne_eq_false_iff_eq]; omega
        have HE := Lib.hid he
        clear he
        gi_wp2
        exact ⟨KeepsFrom.refl _ _, KeepB.refl _ _ _, ⟨fun p hp' => (List.mem_append.1 hp').elim (HP.out p) (fun e => by simp at e; subst e; simp only; rw [HG.out, HE.out]), hcM, HN.out, hcR, hfR⟩, hB⟩
      · have hne : ((d : Int) != ((dig 10000 m)[i] : Int)) = true := by rw [bne_iff_ne]; omega
        gi_wp2_with (refine ⟨trivial, ?_⟩; gi_at_call 105; refine (CallsIn.inRound l (callsIn_wide.2 (cmpCompare_any _ _ _))).mono ?_; rintro e w' ⟨rfl, rfl⟩)
        exact ⟨(KeepsOthers.setCell _ _ _).from _, ⟨rfl, pre, ⟨(i, d), hi, hd⟩, rfl, HP.out, by simp only; rw [HG.out]; exact fun h => he h.symm, by simp only; rw [HG.out]; exact World.cell?_setCell_same' _ _ _ (by rw [hcR]; rfl)⟩, hB.setCell (p := ⟨w.heap.size + 1, 0, none⟩) (by simp) _⟩
    case done =>
      rintro D ys W hD hys ⟨⟨hp, _, _, hcR, hfR⟩, hB⟩ hK
      have hK' := (KeepsOthers.setCell W ⟨w.heap.size + 1, 0, none⟩ (.int .i64 0)).same D _ hK rfl
      have hcz : cmpI n m = 0 := by
        have : n = m := back_equal (by omega) HL.out ys hys hp
        rw [this]; simp [cmpI]
      have HCZ := Lib.hid hcz
      clear hcz hys hp
      gi_wp2
      refine ⟨by simp, .inl ⟨_, _, rfl, run_takeDeferred hK', ?_⟩⟩
      have hc5 := cell_kept (World.cell?_setCell_same' W ⟨w.heap.size + 1, 0, none⟩ (.int .i64 0) (by rw [hcR]; rfl)) (grownBy_putObj' _ D (.deferred none)) (fun r e => by cases e; exact ⟨_, hK', rfl⟩)
      refine ⟨.int .i64 0, ?_, by rw [HCZ.out], (hB.setCell (p := ⟨w.heap.size + 1, 0, none⟩) (by simp) _).trans (belowK_b (w := w) (Nat.le_refl _) _ D _ _ (by simp at hD; omega) hK' rfl rfl)⟩
      simp [results, Tryz.f80, go_sem, hc5]
    case stop =>
      rintro D c pre W hD ⟨k, hk, hpre⟩ ⟨⟨rfl, ini, last, e1, e2, e3, hcr⟩, hB⟩ hK
      have hcz : cmpI (last.1.2 : Nat) ((dig 10000 m)[last.1.1]?.getD 0 : Nat) = cmpI n m := back_first (by omega) HL.out ini last k hk (by rw [← e1]; exact hpre) e2 e3
      rw [hcz] at hcr
      clear hcz hpre e1 e2 e3
      gi_wp2
      refine ⟨by simp, .inl ⟨_, _, rfl, run_takeDeferred hK, ?_⟩⟩
      have hc5 := cell_kept hcr (grownBy_putObj' _ D (.deferred none)) (fun r e => by cases e; exact ⟨_, hK, rfl⟩)
      refine ⟨.int .i64 (cmpI n m), ?_, rfl, hB.trans (belowK_b (w := w) (Nat.le_refl _) W D _ _ (by simp at hD; omega) hK rfl rfl)⟩
      simp [results, Tryz.f80, go_sem, hc5]
  · have hlb : (((dig 10000 n).length : Int) != ((dig 10000 m).length : Int)) = true := by rw [bne_iff_ne]; omega
    go_enter Tryz.func80, Tryz.ntmps80
    go_wp2_with (go_at_call 105; refine (cmpCompare_any _ _ _).mono ?_; rintro e w' ⟨rfl, rfl⟩)
    rw [cmp_length (by omega) hl]
    exact bodyPost_ret (v := .int .i64 (cmpI n m)) (by simp [results, Tryz.results80, go_sem]) rfl ⟨rfl, ((Below.refl _ _).alloc (Nat.le_refl _) _).alloc (by simp) _⟩
end Go.Proofs.YtkekafamfoifmaaGreatDoor

