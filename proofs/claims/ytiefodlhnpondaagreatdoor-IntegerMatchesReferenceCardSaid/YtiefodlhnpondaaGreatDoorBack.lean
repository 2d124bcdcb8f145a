/-
  slices.Backward over a slice of groups of digits: what it hands to the rounds of a loop.
-/
import Derived.RangeFuncNested
import Derived.RangeFuncBound
import Derived.RangeFuncCalls
import Derived.RangeFuncLeaves
import Derived.RangeFuncBox
import Derived.Shelf.Abstract
import Derived.Shelf.RegionOpen
import Derived.WalkKit
import Derived.OwnWalkIn
import Derived.TacticsInMore
import Derived.LoopNIn
import Derived.LoopIn
import Derived.Test.YtiefodlhnpondaaGreatDoorNum
namespace Go.Proofs.YtiefodlhnpondaaGreatDoor
open Go.RowKit Go.Shelf
attribute [local go_sem] Oper.semAt_some

/-- What a round is handed: an index below L, and a group of digits. -/
abbrev BkEl (L : Nat) := { p : Nat × Nat // p.1 < L ∧ p.2 < 10000 }
def bkEnc {L : Nat} (x : BkEl L) : Array Value := #[Value.int .i64 (x.1.1 : Int), Value.int .i64 (x.1.2 : Int)]
/-- What has come after k rounds. -/
def bkUp (xs : List Nat) (k : Nat) : List (Nat × Nat) := (List.range k).map fun j => (xs.length - 1 - j, xs[xs.length - 1 - j]?.getD 0)
theorem bkUp_succ (xs : List Nat) (k : Nat) : bkUp xs (k + 1) = bkUp xs k ++ [(xs.length - 1 - k, xs[xs.length - 1 - k]?.getD 0)] := by simp [bkUp, List.range_succ]
theorem bkUp_length (xs : List Nat) (k : Nat) : (bkUp xs k).length = k := by simp [bkUp]

/-- What a round keeps: what lay below n₀, and the box of the slice that is gone through. -/
def KeepB (n₀ Bs : Nat) (A B : World) : Prop := Below n₀ A B ∧ B.heap[Bs]? = A.heap[Bs]?
theorem KeepB.refl (n₀ Bs : Nat) (A : World) : KeepB n₀ Bs A A := ⟨Below.refl _ _, rfl⟩
theorem KeepB.trans {n₀ Bs : Nat} {A B C : World} (h : KeepB n₀ Bs A B) (k : KeepB n₀ Bs B C) : KeepB n₀ Bs A C := ⟨h.1.trans k.1, k.2.trans h.2⟩
theorem KeepB.of_below {n₀ Bs m : Nat} {A B : World} (h : Below m A B) (h1 : n₀ ≤ m) (h2 : Bs < m) : KeepB n₀ Bs A B := ⟨h.mono h1, h.block Bs h2⟩
theorem KeepB.setCell {n₀ Bs : Nat} {A B : World} (h : KeepB n₀ Bs A B) {p : Addr} (hp : n₀ ≤ p.block) (hq : Bs ≠ p.block) (u : Value) : KeepB n₀ Bs A (B.setCell p u) :=
  ⟨h.1.setCell hp u, (Below.heap_setCell _ _ _ _ hq).trans h.2⟩
theorem KeepB.cell {n₀ Bs : Nat} {A B : World} (h : KeepB n₀ Bs A B) (o : Nat) : B.cell? ⟨Bs, o, none⟩ = A.cell? ⟨Bs, o, none⟩ := World.cell?_of_block (w := A) h.2
theorem keepB_b {n₀ Bs : Nat} {w : World} (hn : n₀ ≤ w.heap.size) (hb : Bs < w.heap.size) (W : World) (l : Nat) (o o' : Obj) (hl : w.heap.size ≤ l) (h : W.heap[l]? = some o) (h1 : o.isCells = false) (h2 : o.isWalk = false) : KeepB n₀ Bs W (W.putObj l o') :=
  ⟨belowK_b hn W l o o' hl h h1 h2, (grownBy_putObj' W l o').block Bs (by have := (Array.getElem?_eq_some_iff.1 h).1; omega) (fun e => by simp only [Option.some.injEq] at e; omega)⟩

set_option maxRecDepth 100000 in
set_option maxHeartbeats 2000000 in
theorem back1_in (F : Fence) (n : Nat) (h8 : F.fn 78) (hro : F.round = none) (hn : 1 ≤ n) (l Bs n₀ hi lo : Nat) (sv : Value) (xs : List Nat) (hb : hi ≤ n₀) (hd : ∀ d ∈ xs, d < 10000) (J Jx : List (BkEl xs.length) → World → Prop)
    (hY : ∀ pre x W, J pre W → pre.length < xs.length → YieldAt F (n - 1) Tryz.prog l (bkEnc x) W fun e W' =>
      (e = .returned (.bool true) ∧ J (pre ++ [x]) W' ∧ KeepB n₀ Bs W W') ∨ (e = .returned (.bool false) ∧ Jx (pre ++ [x]) W'))
    (W : World) (hBs : W.cell? ⟨Bs, 0, none⟩ = some sv) (hI : Ns W sv xs lo hi) (h0 : J [] W) :
    CallsIn F n Tryz.prog 78 #[.func (.yield l) #[] #[], .pointer (some ⟨Bs, 0, none⟩)] W fun e W' => (∃ v, e = .returned v) ∧
      ((∃ ys, ys.map (·.1) = bkUp xs xs.length ∧ J ys W') ∨ (∃ pre, (∃ k, k ≤ xs.length ∧ pre.map (·.1) = bkUp xs k) ∧ Jx pre W')) := by
  obtain ⟨a, cap, rfl⟩ : ∃ a cap, sv = .slice a xs.length cap := by obtain ⟨a, cap, e, _⟩ := hI; exact ⟨a, cap, e⟩
  have hlen := hI.len
  unfold maxLen at hlen
  have HI := Lib.hid hI
  clear hI
  refine callsIn_of_wp Tryz.func78 rfl h8 ?_ hro
  simp only [Tryz.ntmps78, List.size_toArray, List.length_cons, List.length_nil, Nat.reduceAdd, Nat.reduceSub, Array.replicate_succ, Array.replicate_zero, List.push_toArray, List.append_toArray, List.nil_append, List.cons_append]
  gi_wp2
  gi_loopw [3] (fun i wr => ∃ (k : Nat) (ys : List (BkEl xs.length)), k ≤ xs.length ∧ i = .int .i64 ((xs.length : Int) - 1 - k) ∧ ys.map (·.1) = bkUp xs k ∧ J ys wr ∧ KeepB n₀ Bs W wr)
    (fun i _ => (intOf i + 1).toNat)
  case atStart => exact ⟨0, [], Nat.zero_le _, by go_num, rfl, h0, KeepB.refl _ _ _⟩
  case round =>
    obtain ⟨k, ys, hk, rfl, hys, hJs, hnx⟩ := hrel
    have hylen : ys.length = k := by have := congrArg List.length hys; simpa [bkUp_length] using this
    have HYS := Lib.hid hys
    clear hys
    by_cases hlt : k < xs.length
    · have hcB := (hnx.cell 0).trans hBs
      have hIr : Ns wr _ xs lo hi := HI.out.below hnx.1 hb
      obtain ⟨i, hk2, hi2⟩ : ∃ i, i < xs.length ∧ i = xs.length - 1 - k := ⟨_, by omega, rfl⟩
      have hi3 : (xs.length : Int) - 1 - k = i := by omega
      rw [hi3]
      have HI2 := Lib.hid hi2
      clear hi2 hi3
      obtain ⟨b, off, rfl, _, _, hcx⟩ := hIr.at (k := i) hk2
      have hx : xs[i] < 10000 := hd _ (List.getElem_mem _)
      obtain ⟨fn, tmps, assign, body, hy, hR⟩ := hY ys ⟨(i, xs[i]), hk2, hx⟩ wr hJs (by omega)
      simp only [bkEnc] at hy
      clear hIr
      gi_wp2
      refine hR.mono ?_
      rintro e W3 (⟨rfl, hJ3, hk3⟩ | ⟨rfl, hJx3⟩)
      · gi_wp2
        go_roundw
        case rel => exact ⟨k + 1, _, by omega, congrArg (Value.int .i64) (by have := HI2.out; omega), by rw [List.map_append, HYS.out, bkUp_succ]; simp [HI2.out, show xs.length - 1 - k < xs.length from by omega], hJ3, hnx.trans hk3⟩
        case measure => have := HI2.out; simp only [intOf]; omega
      · gi_wp2
        refine bodyPost_ret (results_none rfl _ _ _) rfl ?_
        exact ⟨⟨_, rfl⟩, .inr ⟨_, ⟨k + 1, by omega, by rw [List.map_append, HYS.out, bkUp_succ]; simp [HI2.out, show xs.length - 1 - k < xs.length from by omega]⟩, hJx3⟩⟩
    · obtain rfl : k = xs.length := by omega
      gi_wp2
      go_end0
      exact ⟨⟨_, rfl⟩, .inl ⟨ys, HYS.out, hJs⟩⟩

set_option maxHeartbeats 1000000 in
/-- slices.Backward boxes the slice value; the function value captures the box. -/
theorem back_in (F : Fence) (n : Nat) (h6 : F.fn 60) (hro : F.round = none) (a : Option Addr) (len cap : Nat) (w : World) :
    CallsIn F n Tryz.prog 60 #[.slice a len cap] w fun e w' => e = .returned (.func (.func 78) #[] #[.pointer (some ⟨w.heap.size, 0, none⟩)]) ∧ w.alloc (.cells #[.slice a len cap] 48) = w' := by
  refine callsIn_of_wp Tryz.func60 rfl h6 ?_ hro
  simp only [Tryz.ntmps60, List.size_toArray, List.length_cons, List.length_nil, Nat.reduceAdd, Nat.reduceSub, Array.replicate_succ, Array.replicate_zero, List.push_toArray, List.append_toArray, List.nil_append, List.cons_append]
  gi_wp2
  go_ret
  exact ⟨rfl, rfl⟩

/-- slices.Backward hands back a value whose rounds go through the slice from its end. n₀: what a round must keep. -/
theorem back_stops (F : Fence) (n : Nat) (h8 : F.fn 78) (hro : F.round = none) (hn : 1 ≤ n) (Bs n₀ lo hi : Nat) (sv : Value) (xs : List Nat) (w : World) (hBs : Bs < w.heap.size) (hn₀ : n₀ ≤ w.heap.size)
    (hc : w.cell? ⟨Bs, 0, none⟩ = some sv) (hI : Ns w sv xs lo hi) (hb : hi ≤ n₀) (hd : ∀ d ∈ xs, d < 10000) :
    SeqStopsK F n Tryz.prog 78 #[.pointer (some ⟨Bs, 0, none⟩)] (bkEnc (L := xs.length)) (KeepB n₀ Bs) (fun ys => ys.map (·.1) = bkUp xs xs.length)
      (fun pre => ∃ k, k ≤ xs.length ∧ pre.map (·.1) = bkUp xs k) xs.length w := fun l J Jx W hW _ _ hY h0 =>
  back1_in F n h8 hro hn l Bs n₀ hi lo sv xs hb hd J Jx hY W ((hW.cell (p := ⟨Bs, 0, none⟩) hBs).trans hc) (hI.below hW (by omega)) h0
end Go.Proofs.YtiefodlhnpondaaGreatDoor
