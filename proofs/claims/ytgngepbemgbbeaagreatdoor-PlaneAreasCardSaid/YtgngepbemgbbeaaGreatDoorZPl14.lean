/-
  Package plane: the edges of a polygon, as they are handed to the rounds of a loop.
  Package plane: Area2.
-/
import Derived.RangeFuncNested
import Derived.RangeFuncBound
import Derived.RangeFuncCalls
import Derived.RangeFuncLeaves
import Derived.RangeFuncBox
import Derived.Stop.RegionWithIn
import Derived.IntWalk
import Derived.Shelf.RegionOpen
import Derived.Test.YtgngepbemgbbeaaGreatDoorZNum
import Derived.Test.YtgngepbemgbbeaaGreatDoorZPl3
import Derived.Test.YtgngepbemgbbeaaGreatDoorZAr
import Derived.Test.YtgngepbemgbbeaaGreatDoorZLimQP
namespace Go.Proofs.YtgngepbemgbbeaaGreatDoor
open Go.RowKit Go.Shelf
attribute [local go_sem] Oper.semAt_some

/-- A pair of valid places. -/
abbrev PE := { e : Pl × Pl // vP e.1 = true ∧ vP e.2 = true }
def edEnc (x : PE) : Array Value := #[.agg #[.int .i64 x.1.1.x, .int .i64 x.1.1.y], .agg #[.int .i64 x.1.2.x, .int .i64 x.1.2.y]]
theorem edgesL_length (l : List Pl) : (edgesL l).length = l.length := by
  unfold edgesL
  rw [List.length_zip, List.length_append, List.length_drop, List.length_take]
  omega
theorem edgesL_at {l : List Pl} {k : Nat} {p q : Pl} (hp : l[k]? = some p) (hq : l[(k + 1) % l.length]? = some q) : (edgesL l)[k]? = some (p, q) := by
  have hk : k < l.length := by
    rcases Nat.lt_or_ge k l.length with h | h
    · exact h
    · rw [List.getElem?_eq_none h] at hp; cases hp
  unfold edgesL
  rw [List.getElem?_zip_eq_some]
  refine ⟨hp, ?_⟩
  by_cases h1 : k + 1 < l.length
  · rw [Nat.mod_eq_of_lt h1] at hq
    rw [List.getElem?_append_left (by rw [List.length_drop]; omega), List.getElem?_drop, Nat.add_comm]
    exact hq
  · have e : k + 1 = l.length := by omega
    rw [e, Nat.mod_self] at hq
    rw [List.getElem?_append_right (by rw [List.length_drop]; omega), List.length_drop, List.getElem?_take_of_lt (by omega)]
    rw [show k - (l.length - 1) = 0 by omega]
    exact hq
theorem edgesL_mem {l : List Pl} {e : Pl × Pl} (h : e ∈ edgesL l) : e.1 ∈ l ∧ e.2 ∈ l := by
  have := List.of_mem_zip h
  refine ⟨this.1, ?_⟩
  rcases List.mem_append.1 this.2 with h | h
  · exact List.mem_of_mem_drop h
  · exact List.mem_of_mem_take h
def edgesP (l : List Pl) (hv : ∀ p ∈ l, vP p = true) : List PE := (edgesL l).pmap (fun e h => ⟨e, h⟩) fun _ he => ⟨hv _ (edgesL_mem he).1, hv _ (edgesL_mem he).2⟩
theorem edgesP_val (l : List Pl) (hv : ∀ p ∈ l, vP p = true) : (edgesP l hv).map (·.1) = edgesL l := by
  unfold edgesP
  rw [List.map_pmap]
  simp
theorem edgesP_length (l : List Pl) (hv : ∀ p ∈ l, vP p = true) : (edgesP l hv).length = l.length := by
  unfold edgesP
  rw [List.length_pmap, edgesL_length]
theorem edgesP_at {l : List Pl} {hv : ∀ p ∈ l, vP p = true} {k : Nat} {p q : Pl} (hp : l[k]? = some p) (hq : l[(k + 1) % l.length]? = some q) :
    (edgesP l hv)[k]? = some ⟨(p, q), hv p (List.mem_of_getElem? hp), hv q (List.mem_of_getElem? hq)⟩ := by
  have h := edgesL_at hp hq
  unfold edgesP
  rw [List.getElem?_pmap]
  simp [h]
theorem below_drewN {B : Nat} {a w : World} (h : Below B a w) (k : Nat) : Below B a (w.drewN k) := ⟨h.os, h.tape, h.output, h.size, h.block⟩
set_option maxRecDepth 100000 in
set_option maxHeartbeats 4000000 in
theorem edges1_in (F : Fence) (n : Nat) (h8 : F.fn 91) (hro : F.round = none) (hn : 1 ≤ n) (l Bs n₀ B cap N : Nat) (ps : List Pl) (hv : ∀ p ∈ ps, vP p = true) (hl : ps.length = N) (hN : N ≤ 1000000) (hB : B < n₀) (J Jx : List PE → World → Prop)
    (hJ : ∀ (s : List PE) (A C : World), J s A → Below A.heap.size A C → J s C)
    (hY : ∀ pre x W, J pre W → pre.length < N → YieldAt F (n - 1) Tryz.prog l (edEnc x) W fun e W' =>
      (e = .returned (.bool true) ∧ J (pre ++ [x]) W' ∧ KeepB n₀ Bs W W') ∨ (e = .returned (.bool false) ∧ Jx (pre ++ [x]) W'))
    (W : World) (hBs : W.cell? ⟨Bs, 0, none⟩ = some (.slice (some ⟨B, 0, none⟩) N cap)) (hb : n₀ ≤ W.heap.size) (hb2 : Bs < W.heap.size) (hP : PsAt B ps W) (h0 : J [] W) :
    CallsIn F n Tryz.prog 91 #[.func (.yield l) #[] #[], .pointer (some ⟨Bs, 0, none⟩)] W fun e W' => (∃ v, e = .returned v) ∧
      (J (edgesP ps hv) W' ∨ (∃ k, k ≤ N ∧ Jx ((edgesP ps hv).take k) W')) := by
  have HL := Lib.hid hl
  have HP := Lib.hid hP
  have HJ := Lib.hid hJ
  clear hP hl hJ
  refine callsIn_of_wp Tryz.func91 rfl h8 ?_ hro
  simp only [Tryz.ntmps91, List.size_toArray, List.length_cons, List.length_nil, Nat.reduceAdd, Nat.reduceSub, Array.replicate_succ, Array.replicate_zero, List.push_toArray, List.append_toArray, List.nil_append, List.cons_append]
  gi_wp2
  gi_loopw [7] (fun i wr => ∃ k : Nat, k ≤ N ∧ i = .int .i64 (k : Int) ∧ J ((edgesP ps hv).take k) wr ∧ KeepB n₀ Bs W wr ∧ W.heap.size ≤ wr.heap.size)
    (fun i _ => N - (intOf i).toNat)
  case atStart => exact ⟨0, Nat.zero_le _, rfl, h0, KeepB.refl _ _ _, Nat.le_refl _⟩
  case round =>
    obtain ⟨k, hk, rfl, hJs, hnx, hsz⟩ := hrel
    by_cases hlt : k < N
    · obtain ⟨m, hm⟩ : ∃ m, m = (k + 1) % N := ⟨_, rfl⟩
      have hmN : m < N := by rw [hm]; exact Nat.mod_lt _ (by omega)
      obtain ⟨p, hp⟩ : ∃ p, ps[k]? = some p := ⟨ps[k]'(by have := HL.out; omega), List.getElem?_eq_getElem _⟩
      obtain ⟨q, hq⟩ : ∃ q, ps[m]? = some q := ⟨ps[m]'(by have := HL.out; omega), List.getElem?_eq_getElem _⟩
      have hcB := (hnx.cell 0).trans hBs
      have kc : ∀ o, wr.cell? ⟨B, o, none⟩ = W.cell? ⟨B, o, none⟩ := fun o => hnx.1.cell (p := ⟨B, o, none⟩) hB
      have c0 := (kc (k * 2)).trans (HP.out.row k p hp).1
      have c1 := (kc (k * 2 + 1)).trans (HP.out.row k p hp).2
      have d0 := (kc (m * 2)).trans (HP.out.row m q hq).1
      have d1 := (kc (m * 2 + 1)).trans (HP.out.row m q hq).2
      have hrem : ((k : Int) + 1).tmod (N : Int) = (m : Int) := by rw [hm]; rfl
      have hw1 : IntKind.i64.wrap ((k : Int) + 1) = (k : Int) + 1 := IntWalk.i64_in _ (by omega)
      have hN0 : ¬ N = 0 := by omega
      have s1 : B < wr.heap.size := by omega
      have s2 : Bs < wr.heap.size := by omega
      have HX := Lib.hid hnx
      have HJs := Lib.hid hJs
      have hvp := hv p (List.mem_of_getElem? hp)
      have hvq := hv q (List.mem_of_getElem? hq)
      have HH := Lib.hid (show (edgesP ps hv).take (k + 1) = (edgesP ps hv).take k ++ [⟨(p, q), hvp, hvq⟩] by rw [List.take_add_one, edgesP_at hp (by rw [HL.out, ← hm]; exact hq)]; rfl)
      clear hm hp hq kc hnx hJs
      have hmx : Tryz.prog.follows .mixedOrders = true := by kernel_rfl
      gi_wp2
      refine wpIn_region_qt0 (A := ?fr) 10 hro hmx (by kernel_rfl) ?h ?ht
      case h =>
        simp only [List.take_succ_cons, List.take_zero]
        repeat (gi_big_quiet_step (fail))
        refine wpQuietIn_nil ?_
        rfl
      case ht =>
        intro nq
        simp only [List.drop_succ_cons, List.drop_zero]
        have HJ2 := Lib.hid (show J ((edgesP ps hv).take k) ((wr.alloc (.cells #[.int .i64 p.x, .int .i64 p.y] 26)).drewN nq) from (HJ.out _ _ _ HJs.out (below_drewN ((Below.refl _ _).alloc (Nat.le_refl _) _) nq)))
        have HK0 := Lib.hid (show KeepB n₀ Bs W ((wr.alloc (.cells #[.int .i64 p.x, .int .i64 p.y] 26)).drewN nq) from HX.out.trans (KeepB.of_below (below_drewN ((Below.refl wr.heap.size wr).alloc (Nat.le_refl _) _) nq) (by omega) s2))
        obtain ⟨fn, tmps, assign, body, hy, hR⟩ := hY _ ⟨(p, q), hvp, hvq⟩ _ HJ2.out (by rw [List.length_take, edgesP_length, HL.out]; omega)
        simp only [edEnc] at hy
        gi_wp2
        refine hR.mono ?_
        rintro e W3 (⟨rfl, hJ3, hk3⟩ | ⟨rfl, hJx3⟩)
        · have HN := Lib.hid (show ∃ k' : Nat, k' ≤ N ∧ Value.int .i64 ((k : Int) + 1) = .int .i64 (k' : Int) ∧ J ((edgesP ps hv).take k') W3 ∧ KeepB n₀ Bs W W3 ∧ W.heap.size ≤ W3.heap.size from ⟨k + 1, by omega, rfl, by rw [HH.out]; exact hJ3, HK0.out.trans hk3, (HK0.out.trans hk3).1.size⟩)
          clear hJ3 hk3
          gi_wp2
          go_roundw
          case rel => exact HN.out
          case measure => simp only [intOf]; omega
        · have HN := Lib.hid (show Jx ((edgesP ps hv).take (k + 1)) W3 from by rw [HH.out]; exact hJx3)
          clear hJx3
          gi_wp2
          refine bodyPost_ret (results_none rfl _ _ _) rfl ?_
          exact ⟨⟨_, rfl⟩, .inr ⟨k + 1, by omega, HN.out⟩⟩
    · obtain rfl : k = N := by omega
      have HE := Lib.hid (show J (edgesP ps hv) wr from by have := hJs; rwa [show (edgesP ps hv).take k = edgesP ps hv by rw [List.take_of_length_le (by rw [edgesP_length, HL.out]; omega)]] at this)
      clear hJs
      gi_wp2
      go_end0
      exact ⟨⟨_, rfl⟩, .inl HE.out⟩

set_option maxHeartbeats 1000000 in
/-- edges boxes the slice; the function value captures the box. -/
theorem edges_in (F : Fence) (n : Nat) (h6 : F.fn 62) (hro : F.round = none) (a : Option Addr) (len cap : Nat) (w : World) :
    CallsIn F n Tryz.prog 62 #[.slice a len cap] w fun e w' => e = .returned (.func (.func 91) #[] #[.pointer (some ⟨w.heap.size, 0, none⟩)]) ∧ w.alloc (.cells #[.slice a len cap] 27) = w' := by
  refine callsIn_of_wp Tryz.func62 rfl h6 ?_ hro
  simp only [Tryz.ntmps62, List.size_toArray, List.length_cons, List.length_nil, Nat.reduceAdd, Nat.reduceSub, Array.replicate_succ, Array.replicate_zero, List.push_toArray, List.append_toArray, List.nil_append, List.cons_append]
  gi_wp2
  go_ret
  exact ⟨rfl, rfl⟩
/-- What the rounds of a loop over the edges are handed. -/
theorem edges_stops (F : Fence) (n : Nat) (h8 : F.fn 91) (hro : F.round = none) (hn : 1 ≤ n) (Bs n₀ B cap N : Nat) (ps : List Pl) (hv : ∀ p ∈ ps, vP p = true) (hl : ps.length = N) (hN : N ≤ 1000000) (hB : B < n₀) (w : World) (hBs : w.cell? ⟨Bs, 0, none⟩ = some (.slice (some ⟨B, 0, none⟩) N cap)) (hb : n₀ ≤ w.heap.size) (hb2 : Bs < w.heap.size) (hP : PsAt B ps w) :
    SeqStopsK F n Tryz.prog 91 #[.pointer (some ⟨Bs, 0, none⟩)] edEnc (KeepB n₀ Bs) (fun ys => ys = edgesP ps hv) (fun pre => ∃ k, k ≤ N ∧ pre = (edgesP ps hv).take k) N w := fun l J Jx W hW hJ _ hY h0 =>
  (edges1_in F n h8 hro hn l Bs n₀ B cap N ps hv hl hN hB J Jx
    (fun s A C hA hb => hJ s A C none hA ⟨hb.os, hb.tape, hb.output, hb.size, fun k hk _ => hb.block k hk⟩ (fun _ e => by cases e)) hY W ((hW.cell (p := ⟨Bs, 0, none⟩) hb2).trans hBs) (Nat.le_trans hb hW.size) (Nat.lt_of_lt_of_le hb2 hW.size) (hP.below hW) h0).mono
    fun _ _ ⟨h1, h2⟩ => ⟨h1, h2.elim (fun h => .inl ⟨_, rfl, h⟩) (fun ⟨k, hk, h⟩ => .inr ⟨_, ⟨k, hk, rfl⟩, h⟩)⟩
end Go.Proofs.YtgngepbemgbbeaaGreatDoor

namespace Go.Proofs.YtgngepbemgbbeaaGreatDoor
open Go.RowKit Go.Shelf
attribute [local go_sem] Oper.semAt_some

def areaE (x : PE) : Int := x.1.1.x * x.1.2.y - x.1.1.y * x.1.2.x
def areaS (l : List PE) : Int := (l.map areaE).foldl (· + ·) 0
theorem areaS_snoc (l : List PE) (x : PE) : areaS (l ++ [x]) = areaS l + areaE x := by simp [areaS]
theorem mulb {a b : Int} (a1 : 0 ≤ a) (a2 : a ≤ 4095) (b1 : 0 ≤ b) (b2 : b ≤ 4095) : 0 ≤ a * b ∧ a * b ≤ 16769025 :=
  ⟨Int.mul_nonneg a1 b1, by have := Int.mul_le_mul a2 b2 b1 (by omega); omega⟩
theorem areaE_b (x : PE) : -16769025 ≤ areaE x ∧ areaE x ≤ 16769025 := by
  have b1 := vP_b x.2.1
  have b2 := vP_b x.2.2
  have m1 := mulb b1.1.1 b1.1.2 b2.2.1 b2.2.2
  have m2 := mulb b1.2.1 b1.2.2 b2.1.1 b2.1.2
  unfold areaE
  omega
theorem areaS_acc (l : List PE) (c : Int) : c - 16769025 * (l.length : Int) ≤ (l.map areaE).foldl (· + ·) c ∧ (l.map areaE).foldl (· + ·) c ≤ c + 16769025 * (l.length : Int) := by
  induction l generalizing c with
  | nil => simp
  | cons x l ih =>
    have h1 := ih (c + areaE x)
    have h2 := areaE_b x
    simp only [List.map_cons, List.foldl_cons, List.length_cons]
    omega
theorem areaS_b (l : List PE) : -(16769025 * (l.length : Int)) ≤ areaS l ∧ areaS l ≤ 16769025 * (l.length : Int) := by
  have := areaS_acc l 0
  unfold areaS
  omega
theorem areaS_all (ps : List Pl) (hv : ∀ p ∈ ps, vP p = true) : areaS (edgesP ps hv) = area2L ps := by
  unfold areaS area2L
  rw [show (edgesP ps hv).map areaE = (edgesL ps).map fun e => e.1.x * e.2.y - e.1.y * e.2.x by rw [← edgesP_val ps hv, List.map_map]; rfl]
set_option maxRecDepth 100000 in
set_option maxHeartbeats 4000000 in
theorem area2_s {B cap n : Nat} {ps : List Pl} (hl : ps.length = n) (hv : fewB ps = true) (w : World) (h : PsAt B ps w) :
    Calls Tryz.prog 24 #[.slice (some ⟨B, 0, none⟩) n cap] w fun e W' => e = .returned (.tuple #[.int .i64 (area2L ps), .int .i64 0]) ∧ Below w.heap.size w W' := by
  have hn : n ≤ 40 ∧ 1 ≤ n := by
    unfold fewB at hv
    simp only [Bool.and_eq_true, decide_eq_true_eq] at hv
    omega
  have hall : ∀ q ∈ ps, vP q = true := by
    unfold fewB at hv
    simp only [Bool.and_eq_true] at hv
    exact List.all_eq_true.1 hv.2
  have KF := Lib.hid (few_s (cap := cap) hl (by omega) w h)
  rw [hv] at KF
  have HP := Lib.hid h
  have HA := Lib.hid hall
  have HL := Lib.hid hl
  have hB := h.sz
  clear h hv
  refine (callsIn_wide (n := 3)).1 ?_
  refine callsIn_of_wp_marks Tryz.func24 rfl trivial ?_ rfl
  simp only [Tryz.ntmps24, List.size_toArray, List.length_cons, List.length_nil, Nat.reduceAdd, Nat.reduceSub, Array.replicate_succ, Array.replicate_zero, List.push_toArray, List.append_toArray, List.nil_append, List.cons_append]
  gi_wp2_with (first
    | (refine ⟨trivial, ?_⟩; gi_at_call 48; with_reducible refine (callsIn_wide.2 KF.out).mono ?_; rintro e w1 ⟨rfl, hb⟩; have HB := Lib.hid hb; clear hb)
    | (refine ⟨trivial, ?_⟩; gi_at_call 62; refine (edges_in Fence.wide _ trivial rfl _ _ _ _).mono ?_; rintro e w' ⟨rfl, rfl⟩))
  obtain ⟨W0, hW0⟩ : ∃ W0, (w1.alloc (.cells #[.int .i64 0] 3)) = W0 := ⟨_, rfl⟩
  have bS : Boxed W0 w1.heap.size 3 (.int .i64 0) := by rw [← hW0]; exact Boxed.new w1 3 _
  have hs0 : W0.heap.size = w1.heap.size + 1 := by rw [← hW0]; simp
  have hB0 : Below w1.heap.size w1 W0 := by rw [← hW0]; exact (Below.refl _ _).alloc (Nat.le_refl _) _
  have bN := Boxed.new W0 27 (.slice (some ⟨B, 0, none⟩) n cap)
  rw [hs0] at bN
  rw [hW0]
  have hw1 := HB.out.size
  clear hW0
  have hB1 : Below W0.heap.size W0 (W0.alloc (.cells #[.slice (some ⟨B, 0, none⟩) n cap] 27)) := (Below.refl _ _).alloc (Nat.le_refl _) _
  refine wpIn_rangeFunc_ownH rfl (by omega) (gf := 91) (lb := #[.pointer (some ⟨w1.heap.size + 1, 0, none⟩)]) rfl trivial (enters_of Tryz.func91 (by kernel_rfl) rfl)
    (edges_stops Fence.wide _ trivial rfl (by omega) (w1.heap.size + 1) w1.heap.size B cap n ps HA.out HL.out (by omega) (by omega) (W0.alloc (.cells #[.slice (some ⟨B, 0, none⟩) n cap] 27)) bN.cell (by simp; omega) (by simp; omega) (((HP.out.below HB.out).below hB0).below hB1))
    KeepB.trans (keepB_b (by simp; omega) (by simp; omega)) (Below.refl _ _) (fun _ => rfl)
    (fun pre W => (W.cell? ⟨w1.heap.size, 0, none⟩ = some (.int .i64 (areaS pre)) ∧ W.frozen? ⟨w1.heap.size, 0, none⟩ = false ∧ w1.heap.size + 2 ≤ W.heap.size) ∧ Below w1.heap.size w1 W)
    (fun _ _ _ => False)
    ?I (fun _ _ _ _ _ hs _ _ => hs) ?h0
    (fun x a' W => ∃ A C : Nat, a' = { tmps := #[.slice (some ⟨B, 0, none⟩) n cap, undef, .int .i64 0, .int .i64 0, .pointer (some ⟨w1.heap.size, 0, none⟩), .pointer (some ⟨A, 0, none⟩), .pointer (some ⟨C, 0, none⟩), .slice (some ⟨B, 0, none⟩) n cap, .bool true, .bool false, .slice (some ⟨B, 0, none⟩) n cap, .func (.func 91) #[] #[.pointer (some ⟨w1.heap.size + 1, 0, none⟩)], .agg #[.int .i64 x.1.1.x, .int .i64 x.1.1.y], .agg #[.int .i64 x.1.2.x, .int .i64 x.1.2.y], undef, undef, undef, undef, undef, undef, undef, undef, undef, undef, undef, undef, undef, undef], defers := [] } ∧ (W.cell? ⟨A, 0, none⟩ = some (.int .i64 x.1.1.x) ∧ W.cell? ⟨A, 1, none⟩ = some (.int .i64 x.1.1.y)) ∧ (W.cell? ⟨C, 0, none⟩ = some (.int .i64 x.1.2.x) ∧ W.cell? ⟨C, 1, none⟩ = some (.int .i64 x.1.2.y)))
    ?hAx ?assign ?body ?done ?stop
  case I =>
    exact OwnFrom.and (Own.from (fun s A B row hs hg hr => ⟨cell_kept hs.1 hg hr, (frozen_kept hs.1 hg hr).trans hs.2.1, Nat.le_trans hs.2.2 hg.size⟩) _) (ownFrom_below (Nat.le_refl _) (by simp; omega))
  case h0 => exact ⟨⟨(bS.alloc _).cell, (bS.alloc _).frozen, by simp; omega⟩, hB0.trans (hB1.mono (by omega))⟩
  case hAx =>
    rintro x a' _ X Y row ⟨A, C, e, ⟨h1, h2⟩, h3, h4⟩ hg hr
    have hr' : ∀ r, row = some r → ∃ o : Obj, X.heap[r]? = some o ∧ o.isCells = false := fun r e => (hr r e).2
    exact ⟨A, C, e, ⟨cell_kept h1 hg hr', cell_kept h2 hg hr'⟩, cell_kept h3 hg hr', cell_kept h4 hg hr'⟩
  case assign =>
    intro l pre x W K hI hK
    simp only [edEnc]
    have HI := Lib.hid hI
    have HK := Lib.hid hK
    clear hI hK
    gi_wp2
    have hsz := HI.out.1.2.2
    have hb2 : Below W.heap.size W ((W.alloc (.cells #[.int .i64 x.1.1.x, .int .i64 x.1.1.y] 26)).alloc (.cells #[.int .i64 x.1.2.x, .int .i64 x.1.2.y] 26)) := ((Below.refl _ _).alloc (Nat.le_refl _) _).alloc (by simp) _
    refine HK.out _ _ ((keepsOthers_below hb2).from _) (KeepB.of_below hb2 (by omega) (by omega)) ⟨⟨(hb2.cell (p := ⟨w1.heap.size, 0, none⟩) (by show w1.heap.size < _; omega)).trans HI.out.1.1, (hb2.frozen (p := ⟨w1.heap.size, 0, none⟩) (by show w1.heap.size < _; omega)).trans HI.out.1.2.1, Nat.le_trans hsz hb2.size⟩, HI.out.2.trans (hb2.mono (by omega))⟩ ⟨W.heap.size, W.heap.size + 1, rfl, ?_, ?_⟩
    · constructor <;> simp [go_sem]
    · constructor <;> simp [go_sem]
  case body =>
    rintro l pre x a' W hl hr ⟨⟨hc, hf, hsz⟩, hB⟩ ⟨A, C, rfl, ⟨h1, h2⟩, h3, h4⟩ hlen
    have b1 := vP_b x.2.1
    have b2 := vP_b x.2.2
    have m1 := mulb b1.1.1 b1.1.2 b2.2.1 b2.2.2
    have m2 := mulb b1.2.1 b1.2.2 b2.1.1 b2.1.2
    have hS := areaS_b pre
    have hE := areaE_b x
    have HX := Lib.hid (areaS_snoc pre x)
    unfold areaE at hE HX
    obtain ⟨⟨⟨p, q⟩, hx⟩, hxe⟩ : ∃ y : PE, y = x := ⟨x, rfl⟩
    subst hxe
    simp only at h1 h2 h3 h4 b1 b2 m1 m2 hE HX ⊢
    generalize hpq : p.x * q.y = u at *
    generalize hqp : p.y * q.x = v at *
    have w1' : IntKind.i64.wrap u = u := IntWalk.i64_in _ (by omega)
    have w2' : IntKind.i64.wrap v = v := IntWalk.i64_in _ (by omega)
    have w3' : IntKind.i64.wrap (u - v) = u - v := IntWalk.i64_in _ (by omega)
    have w4' : IntKind.i64.wrap (areaS pre + (u - v)) = areaS pre + (u - v) := IntWalk.i64_in _ (by omega)
    clear hr b1 b2 m1 m2 hS hE
    gi_wp2
    refine ⟨(KeepsOthers.setCell W _ _).from _, (KeepB.refl _ _ W).setCell (p := ⟨w1.heap.size, 0, none⟩) (Nat.le_refl _) (by show w1.heap.size + 1 ≠ w1.heap.size; omega) _, ⟨?_, ?_, ?_⟩, hB.setCell (p := ⟨w1.heap.size, 0, none⟩) (Nat.le_refl _) _⟩
    · rw [HX.out]
      exact World.cell?_setCell_same _ _ _ hc
    · simpa [go_sem] using hf
    · simpa using hsz
  case done =>
    rintro D ys W hD rfl ⟨⟨hc, hf, hsz⟩, hB⟩ hK
    rw [areaS_all] at hc
    gi_wp2
    have hD' : w1.heap.size ≤ D := by simp at hD; omega
    have hbl := ((HB.out.trans (hB.mono hw1))).trans (belowK_b (w := w) (Nat.le_refl _) W D _ (.deferred none) (by omega) hK rfl rfl)
    refine ⟨by simp, .inl ⟨_, _, rfl, run_takeDeferred hK, ?_⟩⟩
    refine ⟨.tuple #[.int .i64 (area2L ps), .int .i64 0], ?_, rfl, hbl⟩
    simp [results, Tryz.f24, go_sem]
  case stop =>
    rintro D c pre W _ _ hF
    exact hF.elim
end Go.Proofs.YtgngepbemgbbeaaGreatDoor

