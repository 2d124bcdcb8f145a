/-
  The walk of the product of two numbers of groups.
  The walk of the division of two numbers of groups, and of sort.Search.
-/
import Derived.Stop.RegionWithIn
import Derived.Deep.RegionWith
import Derived.Test.YtgngepbemgbbeaaGreatDoorZNum
import Derived.Test.YtgngepbemgbbeaaGreatDoorZAri
namespace Go.Proofs.YtgngepbemgbbeaaGreatDoor
open Go.RowKit Go.Shelf
attribute [local go_sem] Oper.semAt_some

/-- The product as far as it has come: the groups of the second factor, the highest one first. -/
def prodUp (n : Nat) (l : List (Nat × Nat)) : Nat := l.foldl (fun a p => a * 10000 + n * p.2) 0
theorem prodUp_snoc (n : Nat) (l : List (Nat × Nat)) (p : Nat × Nat) : prodUp n (l ++ [p]) = prodUp n l * 10000 + n * p.2 := by simp [prodUp]
theorem prodUp_le (n : Nat) (l : List (Nat × Nat)) (h : ∀ p ∈ l, p.2 < 10000) : prodUp n l ≤ n * (10000 ^ l.length - 1) := by
  obtain ⟨r, hr⟩ : ∃ r, r = l.reverse := ⟨_, rfl⟩
  obtain rfl : l = r.reverse := by rw [hr]; simp
  clear hr
  induction r with
  | nil => simp [prodUp]
  | cons p r ih =>
    have h1 := ih (fun q hq => h q (by simp at hq ⊢; exact .inl hq))
    have h2 : p.2 < 10000 := h p (by simp)
    simp only [List.reverse_cons, prodUp_snoc, List.length_append, List.length_cons, List.length_nil, Nat.zero_add] at h1 ⊢
    have hp : 0 < 10000 ^ r.reverse.length := Nat.pow_pos (by omega)
    rw [Nat.pow_succ]
    obtain ⟨q, hq⟩ : ∃ q, 10000 ^ r.reverse.length = q + 1 := ⟨_, (Nat.succ_pred_eq_of_pos hp).symm⟩
    rw [hq] at h1 ⊢
    simp only [Nat.add_sub_cancel] at h1
    have h3 : n * ((q + 1) * 10000 - 1) = n * q * 10000 + n * 9999 := by
      rw [show (q + 1) * 10000 - 1 = q * 10000 + 9999 from by omega, Nat.mul_add, Nat.mul_assoc]
    have h4 : n * p.2 ≤ n * 9999 := Nat.mul_le_mul_left n (by omega)
    rw [h3]
    omega
theorem prodUp_few {n k : Nat} {l : List (Nat × Nat)} (h : ∀ p ∈ l, p.2 < 10000) (hk : (dig 10000 n).length + l.length ≤ k) : (dig 10000 (prodUp n l)).length ≤ k := by
  rw [dig_length_le (by omega)]
  have h1 := prodUp_le n l h
  have h2 : n < 10000 ^ (dig 10000 n).length := (dig_length_le (by omega) n _).1 (Nat.le_refl _)
  have hp : 0 < 10000 ^ l.length := Nat.pow_pos (by omega)
  have h3 : n * (10000 ^ l.length - 1) ≤ n * 10000 ^ l.length := Nat.mul_le_mul_left _ (by omega)
  have h4 : n * 10000 ^ l.length < 10000 ^ (dig 10000 n).length * 10000 ^ l.length := Nat.mul_lt_mul_of_pos_right h2 hp
  rw [← Nat.pow_add] at h4
  have h5 : 10000 ^ ((dig 10000 n).length + l.length) ≤ 10000 ^ k := Nat.pow_le_pow_right (by omega) hk
  omega
/-- From the highest group down: what has come of a list of groups. -/
theorem bkUp_take (xs : List Nat) (k : Nat) (hk : k < xs.length) : val 10000 (xs.drop (xs.length - (k + 1))) = xs[xs.length - 1 - k]?.getD 0 + 10000 * val 10000 (xs.drop (xs.length - k)) := by
  have h : xs.length - (k + 1) < xs.length := by omega
  rw [List.drop_eq_getElem_cons h, show xs.length - (k + 1) + 1 = xs.length - k from by omega]
  simp only [val]
  rw [show xs.length - 1 - k = xs.length - (k + 1) from by omega, List.getElem?_eq_getElem h]
  rfl
theorem prodUp_bk (n : Nat) (xs : List Nat) (k : Nat) (hk : k ≤ xs.length) : prodUp n (bkUp xs k) = n * val 10000 (xs.drop (xs.length - k)) := by
  induction k with
  | zero => simp [bkUp, prodUp, val]
  | succ k ih =>
    rw [bkUp_succ, prodUp_snoc, ih (by omega), bkUp_take xs k (by omega), Nat.mul_add, Nat.add_comm]
    congr 1
    rw [Nat.mul_assoc, Nat.mul_comm (val 10000 _) 10000]

theorem keepsOthers_below {W W' : World} (h : Below W.heap.size W W') : KeepsOthers W W' := ⟨h.size, fun k _ hk _ => (h.block k (Array.getElem?_eq_some_iff.1 hk).1).trans hk⟩

/-- What a round of times leaves, once the sum is stored. -/
theorem times_close {N B n A d lo1 hi1 hO : Nat} {w W Wb w2 w3 : World} {v1 vO : Value} {a : Option Addr} {L c : Nat} (hN : N = w.heap.size) (hko : KeepsOthers W Wb) (hkb : KeepB N (N + 1 + 1) W Wb) (hBw : Below N w Wb) (hs : N + 3 ≤ Wb.heap.size)
    (hcL : Wb.cell? ⟨N, 0, none⟩ = some v1) (hNl : Nm Wb v1 n lo1 hi1) (b1 : hi1 ≤ N) (hcO3 : w3.cell? ⟨N + 1, 0, none⟩ = some vO) (hfO : Wb.frozen? ⟨N + 1, 0, none⟩ = false) (hB2 : Below Wb.heap.size Wb w2) (hb3 : Below w2.heap.size w2 w3)
    (hv : Nm w3 (.slice a L c) (A + n * d) w2.heap.size hO) (hh : hO ≤ w3.heap.size) :
    KeepsFrom B W (w3.setCell ⟨N + 1, 0, none⟩ (.slice a L c)) ∧ KeepB N (N + 1 + 1) W (w3.setCell ⟨N + 1, 0, none⟩ (.slice a L c)) ∧
    ((w3.setCell ⟨N + 1, 0, none⟩ (.slice a L c)).cell? ⟨N, 0, none⟩ = some v1 ∧ Nm (w3.setCell ⟨N + 1, 0, none⟩ (.slice a L c)) v1 n lo1 hi1 ∧ (w3.setCell ⟨N + 1, 0, none⟩ (.slice a L c)).frozen? ⟨N + 1, 0, none⟩ = false ∧ N + 3 ≤ (w3.setCell ⟨N + 1, 0, none⟩ (.slice a L c)).heap.size ∧
      ∃ v, (w3.setCell ⟨N + 1, 0, none⟩ (.slice a L c)).cell? ⟨N + 1, 0, none⟩ = some v ∧ ∃ h, Nm (w3.setCell ⟨N + 1, 0, none⟩ (.slice a L c)) v (A + n * d) (N + 2) h ∧ h ≤ (w3.setCell ⟨N + 1, 0, none⟩ (.slice a L c)).heap.size) ∧ Below N w (w3.setCell ⟨N + 1, 0, none⟩ (.slice a L c)) := by
  have hsz2 := hB2.size
  have hsz3 := hb3.size
  have hB3 : Below Wb.heap.size Wb w3 := hB2.trans (hb3.mono hsz2)
  have hX : Agree 0 (N + 1) w3 (w3.setCell ⟨N + 1, 0, none⟩ (.slice a L c)) := (Agree.refl 0 (N + 1) w3).setCell (p := ⟨N + 1, 0, none⟩) (.inr (Nat.le_refl _)) _
  have hX2 : Agree (N + 2) w3.heap.size w3 (w3.setCell ⟨N + 1, 0, none⟩ (.slice a L c)) := (Agree.refl (N + 2) w3.heap.size w3).setCell (p := ⟨N + 1, 0, none⟩) (.inl (Nat.lt_succ_self _)) _
  have hsX : (w3.setCell ⟨N + 1, 0, none⟩ (.slice a L c)).heap.size = w3.heap.size := by simp [World.setCell]
  refine ⟨((hko.trans (keepsOthers_below hB3)).trans (KeepsOthers.setCell _ _ _)).from _, (hkb.trans (KeepB.of_below hB3 (by omega) (by omega))).setCell (by simp) (by simp) _, ⟨?_, ?_, ?_, by rw [hsX]; omega, ?_⟩, ?_⟩
  · rw [World.cell?_of_block (w := w3) (a := ⟨N, 0, none⟩) (hX N (Nat.zero_le _) (by omega))]
    exact (hB3.cell (p := ⟨N, 0, none⟩) (show N < Wb.heap.size by omega)).trans hcL
  · exact (hNl.below hB3 (by omega)).keep (fun k h1 h2 => hX k (Nat.zero_le _) (by omega))
  · rw [World.frozen?_setCell]
    exact (hB3.frozen (p := ⟨N + 1, 0, none⟩) (show N + 1 < Wb.heap.size by omega)).trans hfO
  · refine ⟨.slice a L c, World.cell?_setCell_same' _ _ _ (by rw [hcO3]; rfl), hO, ?_, by rw [hsX]; exact hh⟩
    exact (hv.mono (lo' := N + 2) (by omega) (Nat.le_refl _)).keep (fun k h1 h2 => hX2 k h1 (by omega))
  · exact (hBw.trans (hB3.mono (by omega))).setCell (by simp) _

set_option maxRecDepth 100000 in
set_option maxHeartbeats 4000000 in
theorem times_any (v1 v2 : Value) (n m : Nat) (lo1 hi1 lo2 hi2 : Nat) (w : World) (h1 : Nm w v1 n lo1 hi1) (h2 : Nm w v2 m lo2 hi2) (b1 : hi1 ≤ w.heap.size) (b2 : hi2 ≤ w.heap.size) (hf : (dig 10000 n).length + (dig 10000 m).length ≤ 1000000) :
    Calls Tryz.prog 201 #[v1, v2] w fun e w' => (∃ v, e = .returned v ∧ Nm w' v (n * m) w.heap.size w'.heap.size) ∧ Below w.heap.size w w' := by
  obtain ⟨i0, hi, hz0, hz1, hz2⟩ := info_parts A_info3
  obtain ⟨a1, cap1, rfl⟩ : ∃ a cap, v1 = .slice a (dig 10000 n).length cap := by obtain ⟨a, cap, e, _⟩ := h1; exact ⟨a, cap, e⟩
  obtain ⟨a2, cap2, rfl⟩ : ∃ a cap, v2 = .slice a (dig 10000 m).length cap := by obtain ⟨a, cap, e, _⟩ := h2; exact ⟨a, cap, e⟩
  have H1 := Lib.hid h1
  have H2 := Lib.hid h2
  clear h1 h2
  refine (callsIn_wide (n := 3)).1 ?_
  refine callsIn_of_wp_marks Tryz.func201 rfl trivial ?_ rfl
  simp only [Tryz.ntmps201, List.size_toArray, List.length_cons, List.length_nil, Nat.reduceAdd, Nat.reduceSub, Array.replicate_succ, Array.replicate_zero, List.push_toArray, List.append_toArray, List.nil_append, List.cons_append]
  gi_wp2_with (refine ⟨trivial, ?_⟩; gi_at_call 158; refine (back_in Fence.wide _ trivial rfl _ _ _ _).mono ?_; rintro e w' ⟨rfl, rfl⟩)
  obtain ⟨W0, hW0⟩ : ∃ W0, (w.alloc (.cells #[.slice a1 (dig 10000 n).length cap1] 121)).alloc (.cells #[.slice none 0 0] 121) = W0 := ⟨_, rfl⟩
  have hs0 : W0.heap.size = w.heap.size + 1 + 1 := by rw [← hW0]; simp
  have hB0 : Below w.heap.size w W0 := by rw [← hW0]; exact ((Below.refl _ _).alloc (Nat.le_refl _) _).alloc (by simp) _
  have bL : Boxed W0 w.heap.size 121 (.slice a1 (dig 10000 n).length cap1) := by rw [← hW0]; exact (Boxed.new w 121 _).alloc _
  have bO : Boxed W0 (w.heap.size + 1) 121 (.slice none 0 0) := by
    rw [← hW0]
    have := Boxed.new (w.alloc (.cells #[.slice a1 (dig 10000 n).length cap1] 121)) 121 (.slice none 0 0)
    rwa [World.size_alloc] at this
  have bN := Boxed.new W0 121 (.slice a2 (dig 10000 m).length cap2)
  rw [hs0] at bN
  rw [hW0]
  clear hW0
  have hB1 : Below W0.heap.size W0 (W0.alloc (.cells #[.slice a2 (dig 10000 m).length cap2] 121)) := (Below.refl _ _).alloc (Nat.le_refl _) _
  refine wpIn_rangeFunc_ownG rfl (by omega) (gf := 194) (lb := #[.pointer (some ⟨w.heap.size + 1 + 1, 0, none⟩)]) rfl trivial (enters_of Tryz.func194 (by kernel_rfl) rfl)
    (back_stops Fence.wide _ trivial rfl (by omega) (w.heap.size + 1 + 1) w.heap.size lo2 hi2 _ (dig 10000 m) (W0.alloc (.cells #[.slice a2 (dig 10000 m).length cap2] 121)) (by simp; omega) (by simp; omega) bN.cell ((H2.out.below hB0 b2).below hB1 (by omega)) b2 (dig_lt (by omega) m))
    KeepB.trans (keepB_b (by simp; omega) (by simp; omega)) (Below.refl _ _) (fun _ => rfl)
    (fun pre W => (W.cell? ⟨w.heap.size, 0, none⟩ = some (.slice a1 (dig 10000 n).length cap1) ∧ Nm W (.slice a1 (dig 10000 n).length cap1) n lo1 hi1 ∧ W.frozen? ⟨w.heap.size + 1, 0, none⟩ = false ∧ w.heap.size + 3 ≤ W.heap.size ∧
      ∃ v, W.cell? ⟨w.heap.size + 1, 0, none⟩ = some v ∧ ∃ h, Nm W v (prodUp n (pre.map (·.1))) (w.heap.size + 2) h ∧ h ≤ W.heap.size) ∧ Below w.heap.size w W)
    (fun _ _ _ => False)
    ?I (fun _ _ _ _ _ hs _ _ => hs) ?h0
    (fun x => { tmps := #[.slice a1 (dig 10000 n).length cap1, .slice a2 (dig 10000 m).length cap2, .pointer (some ⟨w.heap.size, 0, none⟩), undef, .slice none 0 0, .pointer (some ⟨w.heap.size + 1, 0, none⟩), undef, .int .i64 (x.1.2 : Int), .slice a2 (dig 10000 m).length cap2, .func (.func 194) #[] #[.pointer (some ⟨w.heap.size + 1 + 1, 0, none⟩)], .int .i64 (x.1.1 : Int), .int .i64 (x.1.2 : Int), undef, undef, undef, undef, undef, undef, undef, undef, undef, undef, undef, undef], defers := [] }) ?assign ?body ?done ?stop
  case I =>
    refine OwnFrom.and (Own.from (fun s A B row hs hg hr => ?_) _) (ownFrom_below (Nat.le_refl _) (by simp; omega))
    obtain ⟨e1, e2, e3, e7, v, e4, h, e5, e6⟩ := hs
    exact ⟨cell_kept e1 hg hr, e2.own hg hr, (frozen_kept e4 hg hr).trans e3, Nat.le_trans e7 hg.size, v, cell_kept e4 hg hr, h, e5.own hg hr, Nat.le_trans e6 hg.size⟩
  case h0 =>
    exact ⟨⟨(bL.alloc _).cell, (H1.out.below hB0 b1).below hB1 (by omega), (bO.alloc _).frozen, by simp; omega, _, (bO.alloc _).cell, w.heap.size + 2, Sl.nil _ _ _ _, by simp; omega⟩, hB0.trans (hB1.mono (by omega))⟩
  case assign =>
    intro l x W K hK
    simp only [bkEnc]
    gi_wp2
    exact hK
  case body =>
    rintro l pre x W ⟨⟨hcL, hNl, hfO, hs3, vO, hcO, h, hNo, hh⟩, hB⟩ hlen
    have hsz := hB.size
    obtain ⟨A, hA⟩ : ∃ A, A = prodUp n (pre.map (·.1)) := ⟨_, rfl⟩
    have hfew : (dig 10000 A).length ≤ (dig 10000 n).length + pre.length := by
      rw [hA]
      exact prodUp_few (fun p hp => by obtain ⟨q, _, rfl⟩ := List.mem_map.1 hp; exact q.2.2) (by simp)
    have hnext : prodUp n ((pre ++ [x]).map (·.1)) = A * 10000 + n * x.1.2 := by rw [List.map_append, hA]; exact prodUp_snoc _ _ _
    rw [← hA] at hNo
    have HX := Lib.hid hnext
    clear hA hnext
    obtain ⟨⟨i, d⟩, hxi, hxd⟩ := x
    simp only at hxi hxd HX ⊢
    obtain ⟨a, L, c, rfl, hL⟩ : ∃ a L c, vO = .slice a L c ∧ L = (dig 10000 A).length := by obtain ⟨a, c, e, _⟩ := hNo; exact ⟨a, _, c, e, rfl⟩
    have HNL := Lib.hid hNl
    have HNO := Lib.hid hNo
    have hmx : Tryz.prog.follows .mixedOrders = true := by kernel_rfl
    have HF2 : Hid (Few (n * d)) := by
      have := prodUp_few (n := n) (k := 1000000) (l := [(0, d)]) (by intro p hp; simp at hp; rw [hp]; exact hxd) (by simp; omega)
      have e : prodUp n [(0, d)] = n * d := by simp [prodUp]
      rw [e] at this
      exact this
    clear hNl hNo
    by_cases hA0 : A = 0
    · obtain rfl : L = 0 := by rw [hL, hA0]; rfl
      clear hL
      have HA := Lib.hid hA0
      have HF1 : Hid (Few A) := by show _ ≤ _; rw [hA0]; decide
      clear hA0 hfew
      gi_wp2
      gi_region_with_o (first
        | (refine ⟨trivial, ?_⟩; gi_at_call 160; refine (CallsIn.inRound l (callsIn_wide.2 (by_any _ n d lo1 hi1 _ (by exact HNL.out.keep (fun _ _ _ => rfl)) (by exact Nat.le_trans b1 hsz) (by unfold Few; omega) (by omega)))).mono ?_; rintro e w2 ⟨⟨vB, rfl, hvB⟩, hb2⟩; have HVB := Lib.hid hvB; clear hvB; have hB2 : Below W.heap.size W w2 := (by first | exact hb2 | exact ((Below.refl _ W).drew).trans hb2); clear hb2; have hcO2 := cell_later hB2 hcO; have hfO2 := (hB2.frozen (p := ⟨w.heap.size + 1, 0, none⟩) (World.block_lt_of_cell? W _ hcO)).trans hfO)
        | (refine ⟨trivial, ?_⟩; gi_at_call 119; refine (CallsIn.inRound l (callsIn_wide.2 (plus_any _ _ A (n * d) _ _ _ _ _ (by exact HNO.out.below hB2 hh) (by exact HVB.out) (by exact Nat.le_trans hh hB2.size) (by exact Nat.le_refl _) (by exact HF1.out) (by exact HF2.out)))).mono ?_; rintro e w3 ⟨⟨vP, rfl, hvP⟩, hb3⟩; obtain ⟨aP, LP, cP, rfl⟩ : ∃ a L c, vP = .slice a L c := (by obtain ⟨a, c, e, _⟩ := hvP; exact ⟨_, _, _, e⟩); have HVP := Lib.hid hvP; clear hvP; have hcO3 := cell_later hb3 hcO2; have hfO3 := (hb3.frozen (p := ⟨w.heap.size + 1, 0, none⟩) (World.block_lt_of_cell? w2 _ hcO2)).trans hfO2))
      all_goals
        gi_wp2
        have hcl := times_close (B := (W0.alloc (.cells #[.slice a2 (dig 10000 m).length cap2] 121)).heap.size) rfl (KeepsOthers.refl W) (KeepB.refl _ _ W) hB hs3 hcL HNL.out b1 hcO3 hfO hB2 hb3 HVP.out (Nat.le_refl _)
        have hx := HX.out
        rw [HA.out] at hcl hx
        simp only [Nat.zero_mul, Nat.zero_add] at hx hcl
        rw [← hx] at hcl
        exact hcl
    · have hLp : 0 < L := by rw [hL, dig_pos (by omega) (by omega)]; simp
      have hLk : L ≤ 1000000 := by omega
      have hnoL := HNO.out
      obtain ⟨bo, oo, rfl, hbo1, hbo2, hj⟩ := hnoL.at (k := 0) (by omega)
      have hsrc := HNO.out.cells
      have HL := Lib.hid hL
      have HSRC := Lib.hid hsrc
      have hnew : Hid (Few (A * 10000)) := by
        show _ ≤ _
        rw [Nat.mul_comm, ← Nat.zero_add (10000 * A), dig_cons (by omega) (by omega) (by omega)]
        simp
        omega
      have hcO1 : ∀ o, (W.alloc o).cell? ⟨w.heap.size + 1, 0, none⟩ = some (.slice (some ⟨bo, oo, none⟩) L c) := fun o => (World.cell?_of_block (w := W) (Below.heap_alloc W o _ (by show w.heap.size + 1 < W.heap.size; omega))).trans hcO
      clear hj hL hfew hnoL hsrc
      gi_wp2_with (gi_at_builtin; refine wpListIn_append_own _ rfl _ _ 121 rfl W.heap.size 3 i0 (.int .i64 0) 1 8 Tryz.underlying121 hi hz0 hz1 hz2 rfl (by decide) (.slice (some ⟨W.heap.size, 0, none⟩) 1 1) _ _ rfl (World.ownsRow_lit W #[.int .i64 0] 1 (Nat.le_refl _) (by decide) rfl) ⟨bo, oo, none⟩ L c ((dig 10000 A).map fun n : Nat => Value.int .i64 (n : Int)) rfl (by simp [HL.out]) (cells_new W bo oo _ (by omega) (HSRC.out bo oo rfl) _) (ints_one _) (by unfold maxLen; omega) (by omega) (by simp) ?_; intro v' w1 hown' hgrow _; obtain ⟨aN, LN, cN, rfl⟩ : ∃ a L c, v' = .slice a L c := (by obtain ⟨_, _, e, _⟩ := Sl.of_owns hown'; exact ⟨_, _, _, e⟩); have hBw1 : Below W.heap.size W w1 := ((Below.refl _ W).alloc (Nat.le_refl _) _).grown hgrow (by simp) (fun k e => by simp [Value.ownBlock] at e; omega); have HOWN := Lib.hid hown'; clear hown' hgrow; have hcW1 := cell_later hBw1 hcO; have hfW1 := (hBw1.frozen (p := ⟨w.heap.size + 1, 0, none⟩) (World.block_lt_of_cell? W _ hcO)).trans hfO)
      obtain ⟨Wb, hWb⟩ : ∃ Wb, w1.setCell ⟨w.heap.size + 1, 0, none⟩ (.slice aN LN cN) = Wb := ⟨_, rfl⟩
      have hsW1 := hBw1.size
      have hsWb : Wb.heap.size = w1.heap.size := by rw [← hWb]; simp [World.setCell]
      have hag1 : Agree 0 (w.heap.size + 1) w1 Wb := by rw [← hWb]; exact (Agree.refl 0 (w.heap.size + 1) w1).setCell (p := ⟨w.heap.size + 1, 0, none⟩) (.inr (Nat.le_refl _)) _
      have hag2 : Agree (w.heap.size + 2) w1.heap.size w1 Wb := by rw [← hWb]; exact (Agree.refl (w.heap.size + 2) w1.heap.size w1).setCell (p := ⟨w.heap.size + 1, 0, none⟩) (.inl (Nat.lt_succ_self _)) _
      have k1 : KeepsOthers W Wb := by rw [← hWb]; exact (keepsOthers_below hBw1).trans (KeepsOthers.setCell _ _ _)
      have k2 : KeepB w.heap.size (w.heap.size + 1 + 1) W Wb := by rw [← hWb]; exact (KeepB.of_below hBw1 (by omega) (by omega)).setCell (by simp) (by simp) _
      have k3 : Below w.heap.size w Wb := by rw [← hWb]; exact (hB.trans (hBw1.mono (by omega))).setCell (by simp) _
      have k4 : Wb.cell? ⟨w.heap.size, 0, none⟩ = some (.slice a1 (dig 10000 n).length cap1) := (World.cell?_of_block (w := w1) (hag1 w.heap.size (Nat.zero_le _) (by omega))).trans (cell_later hBw1 hcL)
      have k5 : Nm Wb (.slice a1 (dig 10000 n).length cap1) n lo1 hi1 := (HNL.out.below hBw1 (by omega)).keep (fun k h1 h2 => hag1 k (Nat.zero_le _) (by omega))
      have k6 : Wb.cell? ⟨w.heap.size + 1, 0, none⟩ = some (.slice aN LN cN) := by rw [← hWb]; exact World.cell?_setCell_same' _ _ _ (by rw [hcW1]; rfl)
      have k7 : Wb.frozen? ⟨w.heap.size + 1, 0, none⟩ = false := by rw [← hWb, World.frozen?_setCell]; exact hfW1
      have k8 : Nm Wb (.slice aN LN cN) (A * 10000) W.heap.size w1.heap.size := by
        have h1 := Sl.of_owns HOWN.out
        have h2 : dig 10000 (A * 10000) = 0 :: dig 10000 A := by
          rw [Nat.mul_comm, ← Nat.zero_add (10000 * A), dig_cons (by omega) (by omega) (by omega)]
        show Ns Wb _ (dig 10000 (A * 10000)) _ _
        rw [h2]
        have h3 : (0 :: dig 10000 A).length = 1 + L := by simp [HL.out]; omega
        have h4 : ((0 :: dig 10000 A).map fun n : Nat => Value.int .i64 (n : Int)) = [Value.int .i64 0] ++ (dig 10000 A).map fun n : Nat => Value.int .i64 (n : Int) := rfl
        show Sl Wb _ (0 :: dig 10000 A).length 1 _ _ _
        rw [h3, h4]
        exact h1.keep (fun k e1 e2 => hag2 k (by omega) (by omega))
      have K5 := Lib.hid k5
      have K8 := Lib.hid k8
      have hsb3 : w.heap.size + 3 ≤ Wb.heap.size := by omega
      rw [hWb]
      have HWB := Lib.hid hsWb
      have hw1b : w1.heap.size ≤ Wb.heap.size := by omega
      clear hWb hcW1 hfW1 k5 k8 hcO1 hcO hcL hfO hsWb hag1 hag2
      gi_region_with_o (first
        | (refine ⟨trivial, ?_⟩; gi_at_call 160; refine (CallsIn.inRound l (callsIn_wide.2 (by_any _ n d lo1 hi1 _ (by exact K5.out.keep (fun _ _ _ => rfl)) (by exact Nat.le_trans b1 (Nat.le_trans (Nat.le_add_right _ 3) hsb3)) (by unfold Few; omega) (by omega)))).mono ?_; rintro e w2 ⟨⟨vB, rfl, hvB⟩, hb2⟩; have HVB := Lib.hid hvB; clear hvB; have hB2 : Below Wb.heap.size Wb w2 := (by first | exact hb2 | exact ((Below.refl _ Wb).drew).trans hb2); clear hb2; have hcO2 := cell_later hB2 k6; have hfO2 := (hB2.frozen (p := ⟨w.heap.size + 1, 0, none⟩) (World.block_lt_of_cell? Wb _ k6)).trans k7)
        | (refine ⟨trivial, ?_⟩; gi_at_call 119; refine (CallsIn.inRound l (callsIn_wide.2 (plus_any _ _ (A * 10000) (n * d) _ _ _ _ _ (by exact K8.out.below hB2 hw1b) (by exact HVB.out) (by exact Nat.le_trans hw1b hB2.size) (by exact Nat.le_refl _) (by exact hnew.out) (by exact HF2.out)))).mono ?_; rintro e w3 ⟨⟨vP, rfl, hvP⟩, hb3⟩; obtain ⟨aP, LP, cP, rfl⟩ : ∃ a L c, vP = .slice a L c := (by obtain ⟨a, c, e, _⟩ := hvP; exact ⟨_, _, _, e⟩); have HVP := Lib.hid hvP; clear hvP; have hcO3 := cell_later hb3 hcO2; have hfO3 := (hb3.frozen (p := ⟨w.heap.size + 1, 0, none⟩) (World.block_lt_of_cell? w2 _ hcO2)).trans hfO2))
      all_goals
        gi_wp2
        have hcl := times_close (B := (W0.alloc (.cells #[.slice a2 (dig 10000 m).length cap2] 121)).heap.size) rfl k1 k2 k3 hsb3 k4 K5.out b1 hcO3 k7 hB2 hb3 HVP.out (Nat.le_refl _)
        have hx := HX.out
        rw [← hx] at hcl
        exact hcl
  case done =>
    rintro D ys W hD hys ⟨⟨_, _, hfO, _, vO, hcO, h, hNo, hh⟩, hB⟩ hK
    have hz : prodUp n (ys.map (·.1)) = n * m := by rw [hys, prodUp_bk n _ _ (Nat.le_refl _)]; simp [val_dig]
    rw [hz] at hNo
    clear hz hys
    have HNO := Lib.hid hNo
    clear hNo
    gi_wp2
    refine ⟨by simp, .inl ⟨_, _, rfl, run_takeDeferred hK, ?_⟩⟩
    refine ⟨_, results_tmp rfl _ _ _, ⟨_, rfl, ?_⟩, hB.trans (belowK_b (w := w) (Nat.le_refl _) W D _ _ (by simp at hD; omega) hK rfl rfl)⟩
    have ho := (HNO.out.own (grownBy_putObj' _ D (.deferred none)) (fun r e => by cases e; exact ⟨_, hK, rfl⟩)).mono (lo' := w.heap.size) (hi' := W.heap.size) (by omega) hh
    exact ho.mono (Nat.le_refl _) (by simp [World.putObj])
  case stop =>
    rintro D c pre W _ _ h _
    exact h.elim
end Go.Proofs.YtgngepbemgbbeaaGreatDoor

namespace Go.Proofs.YtgngepbemgbbeaaGreatDoor
open Go.RowKit Go.Shelf

set_option maxRecDepth 100000 in
set_option maxHeartbeats 1000000 in
theorem search_any (K : Nat) (caps : Array Value) (p : Nat → Bool) (n : Nat) (w : World)
    (hent : ∀ (args : Array Value) (w : World), (callFunc K args).run Tryz.prog w = .ok (.enter K args) w)
    (hK : ∀ (i : Nat) (w' : World), i < n → Below w.heap.size w w' → Calls Tryz.prog K (#[.int .i64 i] ++ caps) w' fun e w'' => e = .returned (.bool (p i)) ∧ Below w'.heap.size w' w'')
    (hmono : ∀ a b, a ≤ b → p a = true → p b = true) (hn : n ≤ 1000000) :
    Calls Tryz.prog 162 #[.int .i64 n, .func (.func K) #[] caps] w fun e w' => (∃ r : Nat, e = .returned (.int .i64 r) ∧ r ≤ n ∧ (∀ i, i < r → p i = false) ∧ (∀ i, r ≤ i → i < n → p i = true)) ∧ Below w.heap.size w w' := by
  have HK := Lib.hid hK
  have HM := Lib.hid hmono
  clear hK hmono
  go_enter Tryz.func162, Tryz.ntmps162
  go_wp2
  go_loopw [5, 6] (fun i j wr => ∃ (lo hi : Nat), i = .int .i64 lo ∧ j = .int .i64 hi ∧ lo ≤ hi ∧ hi ≤ n ∧ Hid ((∀ t, t < lo → p t = false) ∧ (∀ t, hi ≤ t → t < n → p t = true)) ∧ Below w.heap.size w wr)
    (fun i j _ => (intOf j - intOf i).toNat)
  case atStart => exact ⟨0, n, rfl, rfl, Nat.zero_le _, Nat.le_refl _, Lib.hid ⟨fun t ht => by omega, fun t h1 h2 => by omega⟩, Below.refl _ _⟩
  case round =>
    obtain ⟨lo, hi, rfl, rfl, hlh, hin, I, hB⟩ := hrel
    by_cases hlt : lo < hi
    · have hc := HK.out ((lo + hi) / 2) wr (by omega) hB
      rw [show (((lo + hi) / 2 : Nat) : Int) = ((lo : Int) + (hi : Int)) / 2 by omega] at hc
      have HC := Lib.hid hc
      clear hc
      cases hp : p ((lo + hi) / 2)
      · rw [hp] at HC
        have HP := Lib.hid hp
        clear hp
        go_wp2_with ((with_reducible refine HC.out.mono ?_); rintro e w2 ⟨rfl, hb2⟩)
        have hI := I.out
        exact ⟨⟨(lo + hi) / 2 + 1, hi, by go_num, rfl, by omega, hin, Lib.hid ⟨fun t ht => Bool.eq_false_iff.2 fun e => (by have := HM.out t ((lo + hi) / 2) (by omega) e; rw [HP.out] at this; cases this), hI.2⟩, hB.trans (hb2.mono hB.size)⟩, by simp only [intOf]; omega⟩
      · rw [hp] at HC
        have HP := Lib.hid hp
        clear hp
        go_wp2_with ((with_reducible refine HC.out.mono ?_); rintro e w2 ⟨rfl, hb2⟩)
        have hI := I.out
        exact ⟨⟨lo, (lo + hi) / 2, rfl, by go_num, by omega, by omega, Lib.hid ⟨hI.1, fun t h1 h2 => HM.out _ t h1 HP.out⟩, hB.trans (hb2.mono hB.size)⟩, by simp only [intOf]; omega⟩
    · obtain rfl : lo = hi := by omega
      go_wp2
      go_ret
      exact ⟨⟨lo, rfl, hin, I.out.1, I.out.2⟩, hB⟩

theorem cmpI_pos (a b : Int) : 0 < cmpI a b ↔ b < a := by
  unfold cmpI
  by_cases h1 : a < b
  · rw [if_pos h1]; omega
  · rw [if_neg h1]
    by_cases h2 : b < a
    · rw [if_pos h2]; omega
    · rw [if_neg h2]; omega

set_option maxRecDepth 100000 in
set_option maxHeartbeats 1000000 in
/-- The test of the search for a group of the quotient: is the divisor, times one more, too much? -/
theorem tooMuch_any (d bb br : Nat) (vm vr : Value) (m R lom him lor hir : Nat) (w : World) (hd : d < 9999) (hcb : w.cell? ⟨bb, 0, none⟩ = some (.func (.func 160) #[vm] #[])) (hcr : w.cell? ⟨br, 0, none⟩ = some vr)
    (hm : Nm w vm m lom him) (hr : Nm w vr R lor hir) (bm : him ≤ w.heap.size) (b2 : hir ≤ w.heap.size) (fm : Few m) :
    Calls Tryz.prog 161 #[.int .i64 d, .pointer (some ⟨bb, 0, none⟩), .pointer (some ⟨br, 0, none⟩)] w fun e w' => e = .returned (.bool (decide (R < m * (d + 1)))) ∧ Below w.heap.size w w' := by
  have HM := Lib.hid hm
  have HR := Lib.hid hr
  clear hm hr
  obtain ⟨d1, hd1⟩ : ∃ d1, d1 = d + 1 := ⟨_, rfl⟩
  have hd2 : (d : Int) + 1 = (d1 : Int) := by omega
  have HD := Lib.hid hd1
  have hd3 : d1 ≤ 9999 := by omega
  have hwr : IntKind.i64.wrap (d1 : Int) = d1 := IntWalk.i64_in _ (by omega)
  clear hd1
  go_enter Tryz.func161, Tryz.ntmps161
  go_wp2_with fail
  go_region_with (first
    | (go_at_call 160; refine (by_any vm m d1 lom him _ (by exact HM.out.keep (fun _ _ _ => rfl)) (by exact bm) fm hd3).mono ?_; rintro e w2 ⟨⟨vB, rfl, hvB⟩, hb2⟩; have HVB := Lib.hid hvB; clear hvB; have hB2 : Below w.heap.size w w2 := (by first | exact hb2 | exact ((Below.refl _ w).drew).trans hb2); clear hb2; have hcr2 := cell_later hB2 hcr)
    | (go_at_call 123; refine (compare_any _ _ (m * d1) R _ _ _ _ _ (by exact HVB.out) (by exact HR.out.below hB2 b2) (by exact Nat.le_refl _) (by exact Nat.le_trans b2 hB2.size)).mono ?_; rintro e w3 ⟨rfl, hb3⟩))
  all_goals go_wp2
  all_goals
    go_ret
    refine ⟨ret_bool ?_, hB2.trans (hb3.mono hB2.size)⟩
    have hc := cmpI_pos ((m : Int) * (d1 : Int)) R
    rw [decide_eq_decide, ← HD.out, hc, ← Int.natCast_mul]
    omega
end Go.Proofs.YtgngepbemgbbeaaGreatDoor

