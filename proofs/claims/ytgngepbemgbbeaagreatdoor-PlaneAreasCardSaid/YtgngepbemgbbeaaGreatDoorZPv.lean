/-
  Package plane: Covered, of a polygon that is its own hull.
-/
import Derived.Shelf.RegionOpen
import Derived.Test.YtgngepbemgbbeaaGreatDoorZPl14
import Derived.Test.YtgngepbemgbbeaaGreatDoorZPl17
import Derived.Test.YtgngepbemgbbeaaGreatDoorZPu
import Derived.Test.YtgngepbemgbbeaaGreatDoorZPl3
namespace Go.Proofs.YtgngepbemgbbeaaGreatDoor
open Go.RowKit Go.Shelf Go.Sort
attribute [local go_sem] Oper.semAt_some

def accO (r : Rc) (l : List PE) : Option Rat := (l.map (·.1)).foldl (coverS r) (whO 0)
theorem accO_snoc (r : Rc) (l : List PE) (x : PE) : accO r (l ++ [x]) = coverS r (accO r l) x.1 := by simp [accO]
theorem accO_FO (r : Rc) (l : List PE) : FO (accO r l) := by
  unfold accO
  generalize hk : l.map (·.1) = k
  clear hk
  have key : ∀ (k : List (Pl × Pl)) (c : Option Rat), FO c → FO (k.foldl (coverS r) c) := by
    intro k
    induction k with
    | nil => intro c hc; exact hc
    | cons x k ih =>
      intro c _
      refine ih _ ?_
      unfold coverS
      split
      · exact FO.sub _ _
      · exact FO.add _ _
  exact key k _ (whO_FO (by decide) (by decide))
theorem accO_all (r : Rc) (ps : List Pl) (hv : ∀ p ∈ ps, vP p = true) : accO r (edgesP ps hv) = coveredO ps r := by
  unfold accO coveredO
  rw [edgesP_val]
theorem underO_FO (a b : Pl) (r : Rc) : FO (underO a b r) := by
  have key : ∀ (l : List (Option Rat)) (c : Option Rat), FO c → FO (sumO a b r l c) := by
    intro l
    induction l with
    | nil => intro c hc; exact hc
    | cons s l ih =>
      intro c hc
      cases l with
      | nil => exact hc
      | cons t l => exact ih _ (FO.add _ _)
  unfold underO
  split
  · exact key _ _ (whO_FO (by decide) (by decide))
  · exact whO_FO (by decide) (by decide)
theorem cover_close {S B0 : Nat} {w4 W w6 : World} {x y u v : Value} (hB : Below S w4 W) (hs : S + 2 ≤ W.heap.size) (h6 : Below W.heap.size W w6) (c0 : W.cell? ⟨S, 0, none⟩ = some x) (c1 : W.cell? ⟨S, 1, none⟩ = some y)
    (f0 : W.frozen? ⟨S, 0, none⟩ = false) (f1 : W.frozen? ⟨S, 1, none⟩ = false) :
    KeepsFrom B0 W ((w6.setCell ⟨S, 0, none⟩ u).setCell ⟨S, 1, none⟩ v) ∧ KeepB S (S + 1) W ((w6.setCell ⟨S, 0, none⟩ u).setCell ⟨S, 1, none⟩ v) ∧
      ((((w6.setCell ⟨S, 0, none⟩ u).setCell ⟨S, 1, none⟩ v).cell? ⟨S, 0, none⟩ = some u ∧ ((w6.setCell ⟨S, 0, none⟩ u).setCell ⟨S, 1, none⟩ v).cell? ⟨S, 1, none⟩ = some v) ∧
        (((w6.setCell ⟨S, 0, none⟩ u).setCell ⟨S, 1, none⟩ v).frozen? ⟨S, 0, none⟩ = false ∧ ((w6.setCell ⟨S, 0, none⟩ u).setCell ⟨S, 1, none⟩ v).frozen? ⟨S, 1, none⟩ = false) ∧
        S + 2 ≤ ((w6.setCell ⟨S, 0, none⟩ u).setCell ⟨S, 1, none⟩ v).heap.size) ∧ Below S w4 ((w6.setCell ⟨S, 0, none⟩ u).setCell ⟨S, 1, none⟩ v) := by
  have hlt : S < W.heap.size := by omega
  have d0 := (h6.cell (p := ⟨S, 0, none⟩) hlt).trans c0
  have d1 := (h6.cell (p := ⟨S, 1, none⟩) hlt).trans c1
  have g0 := (h6.frozen (p := ⟨S, 0, none⟩) hlt).trans f0
  have g1 := (h6.frozen (p := ⟨S, 1, none⟩) hlt).trans f1
  have n1 : (⟨S, 0, none⟩ : Addr) ≠ ⟨S, 1, none⟩ := fun e => by have := congrArg Addr.off e; simp at this
  refine ⟨((keepsOthers_below h6).trans ((KeepsOthers.setCell _ _ _).trans (KeepsOthers.setCell _ _ _))).from _, ?_, ⟨⟨?_, ?_⟩, ⟨?_, ?_⟩, ?_⟩, ?_⟩
  · exact ((KeepB.of_below (n₀ := S) (Bs := S + 1) h6 (Nat.le_of_lt hlt) hs).setCell (p := ⟨S, 0, none⟩) (Nat.le_refl _) (by show S + 1 ≠ S; omega) _).setCell (p := ⟨S, 1, none⟩) (Nat.le_refl _) (by show S + 1 ≠ S; omega) _
  · rw [World.cell?_setCell_other _ _ _ _ n1.symm]
    exact World.cell?_setCell_same _ _ _ d0
  · exact World.cell?_setCell_same _ _ _ ((World.cell?_setCell_other _ _ _ _ n1).trans d1)
  · simpa [go_sem] using g0
  · simpa [go_sem] using g1
  · have := h6.size
    simp
    omega
  · exact ((hB.trans (h6.mono (by omega))).setCell (p := ⟨S, 0, none⟩) (Nat.le_refl _) _).setCell (p := ⟨S, 1, none⟩) (Nat.le_refl _) _
set_option maxRecDepth 100000 in
set_option maxHeartbeats 8000000 in
theorem covered_s {B cap n : Nat} {ps : List Pl} {r : Rc} (hl : ps.length = n) (hv : fewB ps = true) (hn : n ≤ 12) (h3 : 3 ≤ n) (hd : ∀ k p q, (sortN ltP ps)[k]? = some p → (sortN ltP ps)[k + 1]? = some q → p ≠ q) (hh : hullL ps = ps) (hr : vRc r = true)
    {w : World} (hi : IOps w) (hf : FrOp w) (h : PsAt B ps w) :
    Calls Tryz.prog 27 #[.slice (some ⟨B, 0, none⟩) n cap, .agg #[.int .i64 r.x, .int .i64 r.y, .int .i64 r.w, .int .i64 r.h]] w fun e W' => e = .returned (.tuple #[.agg #[.string (qN (coveredO ps r)), .string (qD (coveredO ps r))], .int .i64 0]) ∧ Below w.heap.size w W' := by
  have hall : ∀ q ∈ ps, vP q = true := by
    unfold fewB at hv
    simp only [Bool.and_eq_true] at hv
    exact List.all_eq_true.1 hv.2
  have K1 := Lib.hid (fun (W : World) (hb : Below w.heap.size w W) => hull_s (cap := cap) hl hv hn h3 hd W (h.below hb))
  rw [hh, hl] at K1
  have K2 := Lib.hid (fun (g c : Nat) (W : World) (hb : Below w.heap.size w W) (hg : PsAt g ps W) => equal_s (c1 := c) (c2 := cap) hl (by omega) W hg (h.below hb))
  have K3 := Lib.hid (fun (W : World) => by have := vRect_s r W; rw [hr] at this; exact this)
  have K4 := Lib.hid (fun (W : World) (hb : Below w.heap.size w W) => whole_s (n := 0) (by decide) (by decide) (hi.below hb) (hf.below hb))
  have HA := Lib.hid hall
  have HP := Lib.hid h
  have HL := Lib.hid hl
  have HR := Lib.hid hr
  have HI := Lib.hid hi
  have HF := Lib.hid hf
  have hB := h.sz
  have H0 := Lib.hid (show AzAt [(w.heap.size + 1, [.string ⟨#[]⟩, .string ⟨#[]⟩]), (w.heap.size, [.int .i64 r.x, .int .i64 r.y, .int .i64 r.w, .int .i64 r.h])] w _ from by
    have hp := ((AzAt.start w).push [.int .i64 r.x, .int .i64 r.y, .int .i64 r.w, .int .i64 r.h] 29).push [.string ⟨#[]⟩, .string ⟨#[]⟩] 47
    simp only [World.size_alloc] at hp
    exact hp)
  clear hall hv hh hr hi hf h hl hd
  refine (callsIn_wide (n := 3)).1 ?_
  refine callsIn_of_wp_marks Tryz.func27 rfl trivial ?_ rfl
  simp only [Tryz.ntmps27, List.size_toArray, List.length_cons, List.length_nil, Nat.reduceAdd, Nat.reduceSub, Array.replicate_succ, Array.replicate_zero, List.push_toArray, List.append_toArray, List.nil_append, List.cons_append]
  gi_wp2_with (first
    | (refine ⟨trivial, ?_⟩; gi_at_call 22; with_reducible refine (callsIn_wide.2 (K1.out _ H0.out.bw)).mono ?_; rintro e w1 ⟨⟨g, c, rfl, hg⟩, hb⟩; have H1 := Lib.hid (H0.out.below hb); have G1 := Lib.hid (PsAt.of hg); clear hb hg)
    | (refine ⟨trivial, ?_⟩; gi_at_call 63; with_reducible refine (callsIn_wide.2 (K2.out _ _ _ H1.out.bw G1.out)).mono ?_; rintro e w2 ⟨rfl, hb⟩; have H2 := Lib.hid (H1.out.below hb); clear hb; have x0 := ((H2.out.row (w.heap.size, [.int .i64 r.x, .int .i64 r.y, .int .i64 r.w, .int .i64 r.h]) (by simp)).row 0 _ rfl); have x1 := ((H2.out.row (w.heap.size, [.int .i64 r.x, .int .i64 r.y, .int .i64 r.w, .int .i64 r.h]) (by simp)).row 1 _ rfl); have x2 := ((H2.out.row (w.heap.size, [.int .i64 r.x, .int .i64 r.y, .int .i64 r.w, .int .i64 r.h]) (by simp)).row 2 _ rfl); have x3 := ((H2.out.row (w.heap.size, [.int .i64 r.x, .int .i64 r.y, .int .i64 r.w, .int .i64 r.h]) (by simp)).row 3 _ rfl))
    | (refine ⟨trivial, ?_⟩; gi_at_call 14; with_reducible refine (callsIn_wide.2 (K3.out _)).mono ?_; rintro e w3 ⟨rfl, hb⟩; have H3 := Lib.hid (H2.out.below hb); clear hb x0 x1 x2 x3)
    | (refine ⟨trivial, ?_⟩; gi_at_call 64; with_reducible refine (callsIn_wide.2 (K4.out _ H3.out.bw)).mono ?_; rintro e w4 ⟨rfl, hb⟩; have H4 := Lib.hid (H3.out.below hb); clear hb)
    | (refine ⟨trivial, ?_⟩; gi_at_call 62; refine (edges_in Fence.wide _ trivial rfl _ _ _ _).mono ?_; rintro e w' ⟨rfl, rfl⟩))
  obtain ⟨W0, hW0⟩ : ∃ W0, (w4.alloc (.cells #[.string (qN (whO 0)), .string (qD (whO 0))] 85)) = W0 := ⟨_, rfl⟩
  have cS := Lib.hid (show ArAt w4.heap.size [.string (qN (whO 0)), .string (qD (whO 0))] W0 from by rw [← hW0]; exact ArAt.mk' w4 _ _)
  have hs0 : W0.heap.size = w4.heap.size + 1 := by rw [← hW0]; simp
  have hB0 : Below w4.heap.size w4 W0 := by rw [← hW0]; exact (Below.refl _ _).alloc (Nat.le_refl _) _
  have bN := Boxed.new W0 27 (.slice (some ⟨B, 0, none⟩) n cap)
  rw [hs0] at bN
  rw [hW0]
  have hw4 := H4.out.bw.size
  have hRB := (H4.out.row (w.heap.size, [.int .i64 r.x, .int .i64 r.y, .int .i64 r.w, .int .i64 r.h]) (by simp)).sz
  have hRES := (H4.out.row (w.heap.size + 1, [.string ⟨#[]⟩, .string ⟨#[]⟩]) (by simp)).sz
  simp only at hRB hRES
  clear hW0 K1 K2 K3 K4 H1 H2 H3 H0 G1
  have hB1 : Below W0.heap.size W0 (W0.alloc (.cells #[.slice (some ⟨B, 0, none⟩) n cap] 27)) := (Below.refl _ _).alloc (Nat.le_refl _) _
  refine wpIn_rangeFunc_ownH rfl (by omega) (gf := 91) (lb := #[.pointer (some ⟨w4.heap.size + 1, 0, none⟩)]) rfl trivial (enters_of Tryz.func91 (by kernel_rfl) rfl)
    (edges_stops Fence.wide _ trivial rfl (by omega) (w4.heap.size + 1) w4.heap.size B cap n ps HA.out HL.out (by omega) (by omega) (W0.alloc (.cells #[.slice (some ⟨B, 0, none⟩) n cap] 27)) bN.cell (by simp; omega) (by simp; omega) (((HP.out.below H4.out.bw).below hB0).below hB1))
    KeepB.trans (keepB_b (by simp; omega) (by simp; omega)) (Below.refl _ _) (fun _ => rfl)
    (fun pre W => ((W.cell? ⟨w4.heap.size, 0, none⟩ = some (.string (qN (accO r pre))) ∧ W.cell? ⟨w4.heap.size, 1, none⟩ = some (.string (qD (accO r pre)))) ∧ (W.frozen? ⟨w4.heap.size, 0, none⟩ = false ∧ W.frozen? ⟨w4.heap.size, 1, none⟩ = false) ∧ w4.heap.size + 2 ≤ W.heap.size) ∧ Below w4.heap.size w4 W)
    (fun _ _ _ => False)
    ?I (fun _ _ _ _ _ hs _ _ => hs) ?h0
    (fun x a' W => ∃ A C : Nat, a' = { tmps := #[.slice (some ⟨B, 0, none⟩) n cap, .agg #[.int .i64 r.x, .int .i64 r.y, .int .i64 r.w, .int .i64 r.h], undef, .pointer (some ⟨w.heap.size, 0, none⟩), .pointer (some ⟨w.heap.size + 1, 0, none⟩), .int .i64 0, .slice (some ⟨g, 0, none⟩) n c, .int .i64 0, .pointer (some ⟨w4.heap.size, 0, none⟩), .pointer (some ⟨A, 0, none⟩), .pointer (some ⟨C, 0, none⟩), .tuple #[.slice (some ⟨g, 0, none⟩) n c, .int .i64 0], .slice (some ⟨B, 0, none⟩) n cap, .tuple #[.slice (some ⟨g, 0, none⟩) n c, .int .i64 0], .slice (some ⟨g, 0, none⟩) n c, .int .i64 0, .int .i64 0, .bool false, .bool false, .slice (some ⟨g, 0, none⟩) n c, .slice (some ⟨B, 0, none⟩) n cap, .bool true, .bool false, .bool false, .bool false, .agg #[.int .i64 r.x, .int .i64 r.y, .int .i64 r.w, .int .i64 r.h], .bool true, .bool false, .bool false, undef, .agg #[.string (qN (whO 0)), .string (qD (whO 0))], .slice (some ⟨B, 0, none⟩) n cap, .func (.func 91) #[] #[.pointer (some ⟨w4.heap.size + 1, 0, none⟩)], .agg #[.int .i64 x.1.1.x, .int .i64 x.1.1.y], .agg #[.int .i64 x.1.2.x, .int .i64 x.1.2.y], undef, undef, undef, undef, undef, undef, undef, undef, undef, undef, undef, undef, undef, undef, undef, undef, undef, undef, undef], defers := [] } ∧ (W.cell? ⟨A, 0, none⟩ = some (.int .i64 x.1.1.x) ∧ W.cell? ⟨A, 1, none⟩ = some (.int .i64 x.1.1.y)) ∧ (W.cell? ⟨C, 0, none⟩ = some (.int .i64 x.1.2.x) ∧ W.cell? ⟨C, 1, none⟩ = some (.int .i64 x.1.2.y)))
    ?hAx ?assign ?body ?done ?stop
  case I =>
    exact OwnFrom.and (Own.from (fun s A B row hs hg hr => ⟨⟨cell_kept hs.1.1 hg hr, cell_kept hs.1.2 hg hr⟩, ⟨(frozen_kept hs.1.1 hg hr).trans hs.2.1.1, (frozen_kept hs.1.2 hg hr).trans hs.2.1.2⟩, Nat.le_trans hs.2.2 hg.size⟩) _) (ownFrom_below (Nat.le_refl _) (by simp; omega))
  case h0 => exact ⟨⟨⟨(cS.out.al _).row 0 _ rfl, (cS.out.al _).row 1 _ rfl⟩, ⟨(cS.out.al _).fz 0 (by simp), (cS.out.al _).fz 1 (by simp)⟩, by simp; omega⟩, hB0.trans (hB1.mono (by omega))⟩
  case hAx =>
    rintro x a' _ X Y row ⟨A, C, e, ⟨h1, h2⟩, h3, h4⟩ hg hr
    have hr' : ∀ r, row = some r → ∃ o : Obj, X.heap[r]? = some o ∧ o.isCells = false := fun r e => (hr r e).2
    exact ⟨A, C, e, ⟨cell_kept h1 hg hr', cell_kept h2 hg hr'⟩, cell_kept h3 hg hr', cell_kept h4 hg hr'⟩
  case assign =>
    intro l pre x W K hI hK
    simp only [edEnc]
    have HI := Lib.hid hI
    have HK := Lib.hid hK
    clear hI hK
    gi_wp2
    have hsz := HI.out.1.2.2
    have hb2 : Below W.heap.size W ((W.alloc (.cells #[.int .i64 x.1.1.x, .int .i64 x.1.1.y] 26)).alloc (.cells #[.int .i64 x.1.2.x, .int .i64 x.1.2.y] 26)) := ((Below.refl _ _).alloc (Nat.le_refl _) _).alloc (by simp) _
    have hlt : w4.heap.size < W.heap.size := by omega
    refine HK.out _ _ ((keepsOthers_below hb2).from _) (KeepB.of_below hb2 (by omega) (by omega)) ⟨⟨⟨(hb2.cell (p := ⟨w4.heap.size, 0, none⟩) hlt).trans HI.out.1.1.1, (hb2.cell (p := ⟨w4.heap.size, 1, none⟩) hlt).trans HI.out.1.1.2⟩, ⟨(hb2.frozen (p := ⟨w4.heap.size, 0, none⟩) hlt).trans HI.out.1.2.1.1, (hb2.frozen (p := ⟨w4.heap.size, 1, none⟩) hlt).trans HI.out.1.2.1.2⟩, Nat.le_trans hsz hb2.size⟩, HI.out.2.trans (hb2.mono (by omega))⟩ ⟨W.heap.size, W.heap.size + 1, rfl, ?_, ?_⟩
    · constructor <;> simp [go_sem]
    · constructor <;> simp [go_sem]
  case body =>
    rintro l pre x a' W hl hr ⟨⟨⟨c0, c1⟩, ⟨f0, f1⟩, hsz⟩, hBl⟩ ⟨A, C, rfl, ⟨h1, h2⟩, h3, h4⟩ hlen
    obtain ⟨⟨⟨p, q⟩, hx⟩, hxe⟩ : ∃ y : PE, y = x := ⟨x, rfl⟩
    subst hxe
    simp only at h1 h2 h3 h4 hx ⊢
    have HX := Lib.hid (accO_snoc r pre ⟨(p, q), hx⟩)
    have fa := accO_FO r pre
    generalize accO r pre = acc at c0 c1 HX fa
    have hbD : Below w.heap.size w W.drew := (H4.out.bw.trans (hBl.mono hw4)).drew
    have hlt : w4.heap.size < W.heap.size := by omega
    have hmx : Tryz.prog.follows .mixedOrders = true := by kernel_rfl
    have x0 := (hBl.cell (p := ⟨w.heap.size, 0, none⟩) hRB).trans ((H4.out.row (w.heap.size, [.int .i64 r.x, .int .i64 r.y, .int .i64 r.w, .int .i64 r.h]) (by simp)).row 0 _ rfl)
    have x1 := (hBl.cell (p := ⟨w.heap.size, 1, none⟩) hRB).trans ((H4.out.row (w.heap.size, [.int .i64 r.x, .int .i64 r.y, .int .i64 r.w, .int .i64 r.h]) (by simp)).row 1 _ rfl)
    have x2 := (hBl.cell (p := ⟨w.heap.size, 2, none⟩) hRB).trans ((H4.out.row (w.heap.size, [.int .i64 r.x, .int .i64 r.y, .int .i64 r.w, .int .i64 r.h]) (by simp)).row 2 _ rfl)
    have x3 := (hBl.cell (p := ⟨w.heap.size, 3, none⟩) hRB).trans ((H4.out.row (w.heap.size, [.int .i64 r.x, .int .i64 r.y, .int .i64 r.w, .int .i64 r.h]) (by simp)).row 3 _ rfl)
    clear hr hl
    by_cases hle : p.x ≤ q.x
    · have HN := Lib.hid (show accO r (pre ++ [⟨(p, q), hx⟩]) = miO acc (underO p q r) from by rw [HX.out]; unfold coverS; rw [if_pos hle])
      have KU := Lib.hid (fun (V : World) (hb : Below w.heap.size w V) => under_s hx.1 hx.2 HR.out (HI.out.below hb) (HF.out.below hb))
      have KM := Lib.hid (fun (V : World) (hb : Below w.heap.size w V) => minus_s fa (underO_FO p q r) (HI.out.below hb))
      generalize underO p q r = u at KU KM HN
      obtain ⟨nx, hnx⟩ : ∃ nx, nx = miO acc u := ⟨_, rfl⟩
      rw [← hnx] at KM HN
      clear hnx
      gi_wp2
      gi_region_with_o (first
        | (refine ⟨trivial, ?_⟩; gi_at_call 66; (with_reducible refine (CallsIn.inRound l (callsIn_wide.2 (KU.out _ hbD))).mono ?_); rintro e w5 ⟨rfl, hb5⟩; have HB5 := Lib.hid hb5; have y0 := (hb5.cell (p := ⟨w4.heap.size, 0, none⟩) hlt).trans c0; have y1 := (hb5.cell (p := ⟨w4.heap.size, 1, none⟩) hlt).trans c1; clear hb5)
        | (refine ⟨trivial, ?_⟩; gi_at_call 65; (with_reducible refine (CallsIn.inRound l (callsIn_wide.2 (KM.out _ (hbD.trans (HB5.out.mono hbD.size))))).mono ?_); rintro e w6 ⟨rfl, hb6⟩; have HB6 := Lib.hid (HB5.out.trans (hb6.mono HB5.out.size)); have z0 := (HB6.out.cell (p := ⟨w4.heap.size, 0, none⟩) hlt).trans c0; have z1 := (HB6.out.cell (p := ⟨w4.heap.size, 1, none⟩) hlt).trans c1; have g0 := (HB6.out.frozen (p := ⟨w4.heap.size, 0, none⟩) hlt).trans f0; have g1 := (HB6.out.frozen (p := ⟨w4.heap.size, 1, none⟩) hlt).trans f1; clear hb6)
        | fail)
      all_goals
        gi_wp2
        have cc := cover_close (B0 := (W0.alloc (.cells #[.slice (some ⟨B, 0, none⟩) n cap] 27)).heap.size) (u := .string (qN nx)) (v := .string (qD nx)) hBl hsz (show Below W.heap.size W _ from ((Below.refl W.heap.size W).drew).trans HB6.out) c0 c1 f0 f1
        refine ⟨cc.1, cc.2.1, ?_⟩
        simp only [HN.out]
        exact cc.2.2
    · have HN := Lib.hid (show accO r (pre ++ [⟨(p, q), hx⟩]) = plO acc (underO q p r) from by rw [HX.out]; unfold coverS; rw [if_neg hle])
      have KU := Lib.hid (fun (V : World) (hb : Below w.heap.size w V) => under_s hx.2 hx.1 HR.out (HI.out.below hb) (HF.out.below hb))
      have KM := Lib.hid (fun (V : World) (hb : Below w.heap.size w V) => plus_s fa (underO_FO q p r) (HI.out.below hb))
      generalize underO q p r = u at KU KM HN
      obtain ⟨nx, hnx⟩ : ∃ nx, nx = plO acc u := ⟨_, rfl⟩
      rw [← hnx] at KM HN
      clear hnx
      gi_wp2
      gi_region_with_o (first
        | (refine ⟨trivial, ?_⟩; gi_at_call 66; (with_reducible refine (CallsIn.inRound l (callsIn_wide.2 (KU.out _ hbD))).mono ?_); rintro e w5 ⟨rfl, hb5⟩; have HB5 := Lib.hid hb5; have y0 := (hb5.cell (p := ⟨w4.heap.size, 0, none⟩) hlt).trans c0; have y1 := (hb5.cell (p := ⟨w4.heap.size, 1, none⟩) hlt).trans c1; clear hb5)
        | (refine ⟨trivial, ?_⟩; gi_at_call 67; (with_reducible refine (CallsIn.inRound l (callsIn_wide.2 (KM.out _ (hbD.trans (HB5.out.mono hbD.size))))).mono ?_); rintro e w6 ⟨rfl, hb6⟩; have HB6 := Lib.hid (HB5.out.trans (hb6.mono HB5.out.size)); have z0 := (HB6.out.cell (p := ⟨w4.heap.size, 0, none⟩) hlt).trans c0; have z1 := (HB6.out.cell (p := ⟨w4.heap.size, 1, none⟩) hlt).trans c1; have g0 := (HB6.out.frozen (p := ⟨w4.heap.size, 0, none⟩) hlt).trans f0; have g1 := (HB6.out.frozen (p := ⟨w4.heap.size, 1, none⟩) hlt).trans f1; clear hb6)
        | fail)
      all_goals
        gi_wp2
        have cc := cover_close (B0 := (W0.alloc (.cells #[.slice (some ⟨B, 0, none⟩) n cap] 27)).heap.size) (u := .string (qN nx)) (v := .string (qD nx)) hBl hsz (show Below W.heap.size W _ from ((Below.refl W.heap.size W).drew).trans HB6.out) c0 c1 f0 f1
        refine ⟨cc.1, cc.2.1, ?_⟩
        simp only [HN.out]
        exact cc.2.2
  case done =>
    rintro D ys W hD rfl ⟨⟨⟨c0, c1⟩, ⟨f0, f1⟩, hsz⟩, hBl⟩ hK
    rw [accO_all] at c0 c1
    have HRES := Lib.hid (AzAt.mk (L := [(w.heap.size + 1, [.string ⟨#[]⟩, .string ⟨#[]⟩])]) (H4.out.bw.trans (hBl.mono hw4)) (fun u hu => by
      obtain rfl : u = (w.heap.size + 1, [.string ⟨#[]⟩, .string ⟨#[]⟩]) := by simpa using hu
      exact (H4.out.row (w.heap.size + 1, [.string ⟨#[]⟩, .string ⟨#[]⟩]) (by simp)).of_block (hBl.block _ hRES) hBl.size))
    have y0 := ((HRES.out.row (w.heap.size + 1, [.string ⟨#[]⟩, .string ⟨#[]⟩]) (by simp)).row 0 _ rfl)
    have y1 := ((HRES.out.row (w.heap.size + 1, [.string ⟨#[]⟩, .string ⟨#[]⟩]) (by simp)).row 1 _ rfl)
    have g0 := ((HRES.out.row (w.heap.size + 1, [.string ⟨#[]⟩, .string ⟨#[]⟩]) (by simp)).fz 0 (by simp))
    have g1 := ((HRES.out.row (w.heap.size + 1, [.string ⟨#[]⟩, .string ⟨#[]⟩]) (by simp)).fz 1 (by simp))
    obtain ⟨sn, hsn⟩ : ∃ sn, sn = qN (coveredO ps r) := ⟨_, rfl⟩
    obtain ⟨sd, hsd⟩ : ∃ sd, sd = qD (coveredO ps r) := ⟨_, rfl⟩
    rw [← hsn] at c0
    rw [← hsd] at c1
    have HSN := Lib.hid (And.intro hsn hsd)
    clear hsn hsd
    gi_wp2
    have hp := HRES.out.set2 (by omega) (by simp <;> omega) (.string sn) (.string sd)
    generalize hWF : ((W.setCell ⟨w.heap.size + 1, 0, none⟩ (.string sn)).setCell ⟨w.heap.size + 1, 1, none⟩ (.string sd)) = WF at hp ⊢
    have hD' : w4.heap.size + 2 ≤ D := by simp [hs0] at hD; omega
    have hKF : WF.heap[D]? = some (.deferred (some [])) := by
      rw [← hWF]
      rw [Below.heap_setCell _ _ _ _ (by show D ≠ w.heap.size + 1; omega), Below.heap_setCell _ _ _ _ (by show D ≠ w.heap.size + 1; omega)]
      exact hK
    have hbl := hp.bw.trans (belowK_b (w := w) (Nat.le_refl _) WF D _ (.deferred none) (by omega) hKF rfl rfl)
    have q0 : (WF.putObj D (.deferred none)).cell? ⟨w.heap.size + 1, 0, none⟩ = some (.string sn) := (World.cell?_of_block (w := WF) (World.putObj_heap_other (by show w.heap.size + 1 ≠ D; omega))).trans ((hp.row (w.heap.size + 1, [.string sn, .string sd]) (by simp)).row 0 _ rfl)
    have q1 : (WF.putObj D (.deferred none)).cell? ⟨w.heap.size + 1, 1, none⟩ = some (.string sd) := (World.cell?_of_block (w := WF) (World.putObj_heap_other (by show w.heap.size + 1 ≠ D; omega))).trans ((hp.row (w.heap.size + 1, [.string sn, .string sd]) (by simp)).row 1 _ rfl)
    refine ⟨by simp, .inl ⟨_, _, rfl, run_takeDeferred hKF, ?_⟩⟩
    refine ⟨.tuple #[.agg #[.string sn, .string sd], .int .i64 0], ?_, by rw [HSN.out.1, HSN.out.2], hbl⟩
    simp [results, Tryz.f27, go_sem, Result.andThen, q0, q1]
  case stop =>
    rintro D c pre W _ _ hF
    exact hF.elim
end Go.Proofs.YtgngepbemgbbeaaGreatDoor

