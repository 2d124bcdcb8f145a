/-
  Package plane: Hull, of at most twelve places of which no two are equal.
-/
import Derived.Test.YtgngepbemgbbeaaGreatDoorZPr
import Derived.Test.YtgngepbemgbbeaaGreatDoorZPl3
namespace Go.Proofs.YtgngepbemgbbeaaGreatDoor
open Go.RowKit Go.Shelf Go.Sort
attribute [local go_sem] Oper.semAt_some

theorem popL_ne (ok : Pl → Pl → Pl → Bool) (x : Pl) : ∀ r : List Pl, r ≠ [] → popL ok x r ≠ []
  | [], h => absurd rfl h
  | [b], _ => by unfold popL; simp
  | b :: a :: l, _ => by
    unfold popL
    split
    · simp
    · exact popL_ne ok x (a :: l) (by simp)
theorem chainR_two {ok : Pl → Pl → Pl → Bool} {l : List Pl} (h : 2 ≤ l.length) : 2 ≤ (chainR ok l).length := by
  obtain ⟨k, hk⟩ : ∃ k, l.length = k + 2 := ⟨l.length - 2, by omega⟩
  have e : chainR ok l = chainR ok (l.take (k + 1 + 1)) := by rw [List.take_of_length_le (by omega)]
  rw [e, chainR_succ (List.getElem?_eq_getElem (show k + 1 < l.length by omega)), chainR_succ (List.getElem?_eq_getElem (show k < l.length by omega))]
  have := popL_ne ok l[k + 1] (l[k] :: popL ok l[k] (chainR ok (l.take k))) (by simp)
  have := List.length_pos_iff.2 this
  simp only [List.length_cons] at this ⊢
  omega
theorem chainR_le {ok : Pl → Pl → Pl → Bool} {l : List Pl} : (chainR ok l).length ≤ l.length := by
  have := chainR_len ok l l.length (Nat.le_refl _)
  rwa [List.take_length] at this
theorem chainL_mem {ok : Pl → Pl → Pl → Bool} {l : List Pl} {q : Pl} (h : q ∈ chainL ok l) : q ∈ l := by
  have := chainR_mem ok l l.length (Nat.le_refl _) q
  rw [List.take_length] at this
  exact this (List.mem_reverse.1 h)
theorem ArAt.dropLast {B : Nat} {l : List Pl} {W : World} (h : ArAt B (plC l) W) : ArAt B (plC l.dropLast) W := by
  refine ⟨fun i v hv => h.row i v ?_, fun o ho => h.fz o ?_, h.sz⟩
  · rcases List.eq_nil_or_concat l with rfl | ⟨k, x, rfl⟩
    · exact hv
    · have hi : i < (plC k).length := by
        rcases Nat.lt_or_ge i (plC k).length with h | h
        · exact h
        · rw [List.concat_eq_append, List.dropLast_concat, List.getElem?_eq_none h] at hv; cases hv
      rw [List.concat_eq_append, List.dropLast_concat] at hv
      rw [List.concat_eq_append, plC_append, List.getElem?_append_left hi]
      exact hv
  · rw [plC_length, List.length_dropLast] at ho
    rw [plC_length]
    omega
theorem own_pos {e : TypeId} {n : Nat} {v : Value} {xs : List Value} {R : List (Nat × List Value)} {w W : World} (h : OzAt e v n xs R w W) (hn : 1 ≤ n) : ∃ g c, v = .slice (some ⟨g, 0, none⟩) n c := by
  rcases h.own.2 with ⟨rfl, h0⟩ | ⟨g', cap, cur, hv, _⟩
  · omega
  · exact ⟨g', cap, hv⟩
theorem compactL_id : ∀ (l : List Pl), (∀ k p q, l[k]? = some p → l[k + 1]? = some q → p ≠ q) → compactL l = l
  | [], _ => rfl
  | [x], _ => rfl
  | x :: y :: l, h => by
    unfold compactL
    rw [if_neg (h 0 x y rfl rfl), compactL_id (y :: l) (fun k p q h1 h2 => h (k + 1) p q (by simpa using h1) (by simpa using h2))]
set_option maxHeartbeats 8000000 in
set_option maxRecDepth 100000 in
theorem hull_s {B cap n : Nat} {ps : List Pl} (hl : ps.length = n) (hv : fewB ps = true) (hn : n ≤ 12) (h3 : 3 ≤ n) (hd : ∀ k p q, (sortN ltP ps)[k]? = some p → (sortN ltP ps)[k + 1]? = some q → p ≠ q) (w : World) (h : PsAt B ps w) :
    Calls Tryz.prog 22 #[.slice (some ⟨B, 0, none⟩) n cap] w fun e W' => (∃ g c, e = .returned (.tuple #[.slice (some ⟨g, 0, none⟩) (hullL ps).length c, .int .i64 0]) ∧ ArAt g (plC (hullL ps)) W') ∧ Below w.heap.size w W' := by
  have hall : ∀ q ∈ ps, vP q = true := by
    unfold fewB at hv
    simp only [Bool.and_eq_true] at hv
    exact List.all_eq_true.1 hv.2
  obtain ⟨Q, hQ⟩ : ∃ Q, Q = sortN ltP ps := ⟨_, rfl⟩
  have hQl : Q.length = n := by rw [hQ, sortN_length, hl]
  have hQv : ∀ p ∈ Q, vP p = true := fun p hp => hall p (sortN_mem (by rwa [hQ] at hp))
  have hH : hullL ps = (chainL leftP Q).dropLast ++ (chainL leftP Q.reverse).dropLast := by
    unfold hullL
    simp only
    rw [compactL_id _ hd, ← hQ, if_neg (by omega)]
  have KF := Lib.hid (few_s (cap := cap) hl (by omega) w h)
  rw [hv] at KF
  obtain ⟨p1, hp1⟩ : ∃ p1, (chainR leftP Q).length = p1 + 1 := ⟨(chainR leftP Q).length - 1, by have := chainR_two (ok := leftP) (l := Q) (by omega); omega⟩
  obtain ⟨p2, hp2⟩ : ∃ p2, (chainR leftP Q.reverse).length = p2 + 1 := ⟨(chainR leftP Q.reverse).length - 1, by have := chainR_two (ok := leftP) (l := Q.reverse) (by simp; omega); omega⟩
  have b1 := chainR_two (ok := leftP) (l := Q) (by omega)
  have b2 := chainR_le (ok := leftP) (l := Q)
  have b3 := chainR_le (ok := leftP) (l := Q.reverse)
  rw [List.length_reverse] at b3
  have hHl : (hullL ps).length = p1 + p2 := by
    rw [hH, List.length_append, List.length_dropLast, List.length_dropLast]
    unfold chainL
    rw [List.length_reverse, List.length_reverse]
    omega
  have HH := Lib.hid hH
  rw [hHl]
  have K1 := Lib.hid (fun (W : World) (hb : Below w.heap.size w W) => clone_s (cap := cap) hl (by omega) (R := []) (w := w) (W := W) ⟨hb, fun x hx => by cases hx⟩ (h.below hb))
  have K2 := Lib.hid (fun (g c : Nat) (W : World) (hz : OzAt 26 (.slice (some ⟨g, 0, none⟩) n c) n (plC ps) [] w W) => sortP_s (cap := c) hl hn hz.pz)
  rw [← hQ] at K2 hd
  have K3 := Lib.hid (fun (g c : Nat) (W : World) (hz : PsAt g Q W) => compact_s (c1 := c) hQl (by omega) hd W hz)
  have K4 := Lib.hid (fun (g c : Nat) (W : World) (hz : PsAt g Q W) => chain_s (cap := c) hQl (by omega) hQv hz)
  rw [hp1] at K4
  have K5 := Lib.hid (fun (g c : Nat) (R : List (Nat × List Value)) (W : World) (hz : PzAt g Q R w W) => reverse_s (cap := c) hQl (by omega) (by omega) hz)
  have K6 := Lib.hid (fun (g c : Nat) (W : World) (hz : PsAt g Q.reverse W) => chain_s (cap := c) (n := n) (l := Q.reverse) (by rw [List.length_reverse, hQl]) (by omega) (fun p hp => hQv p (List.mem_reverse.1 hp)) hz)
  rw [hp2] at K6
  have d1 : (chainL leftP Q).dropLast.length = p1 := by unfold chainL; rw [List.length_dropLast, List.length_reverse]; omega
  have d2 : (chainL leftP Q.reverse).dropLast.length = p2 := by unfold chainL; rw [List.length_dropLast, List.length_reverse]; omega
  have K7 := Lib.hid (fun (S g1 g2 c1 c2 cs : Nat) (W : World) hA => concat_s (S := S) (g1 := g1) (g2 := g2) (c1 := c1) (c2 := c2) (cs := cs) (w := w) (W := W) d1 d2 (by omega) hA)
  rw [← hH] at K7
  have hw1 : IntKind.i64.wrap (p1 : Int) = (p1 : Int) := IntWalk.i64_in _ (by omega)
  have hw2 : IntKind.i64.wrap (p2 : Int) = (p2 : Int) := IntWalk.i64_in _ (by omega)
  have hn3 : ¬ n < 3 := by omega
  clear hall hQ hQl hQv hH hv hd hp1 hp2 b1 b2 b3 hHl d1 d2 h hl
  go_enter Tryz.func22, Tryz.ntmps22
  go_wp2_with (first
    | (go_at_call 48; (with_reducible refine (KF.out).mono ?_); rintro e w1 ⟨rfl, hb⟩; have H1 := Lib.hid hb; clear hb)
    | (go_at_call 50; (with_reducible refine (K1.out _ H1.out).mono ?_); rintro e w2 ⟨v, rfl, hz⟩; obtain ⟨g, c, rfl⟩ : ∃ g c, v = .slice (some ⟨g, 0, none⟩) n c := own_pos hz (by omega); have H2 := Lib.hid hz; clear hz)
    | (go_at_call 51; (with_reducible refine (K2.out _ _ _ H2.out).mono ?_); rintro e w3 ⟨rfl, hz⟩; have H3 := Lib.hid hz; clear hz)
    | (go_at_call 53; (with_reducible refine (K3.out _ _ _ H3.out.ps).mono ?_); rintro e w4 ⟨rfl, hb⟩; have H4 := Lib.hid (H3.out.below hb); clear hb)
    | (go_at_call 57; (with_reducible refine (K5.out _ _ _ _ H5.out).mono ?_); rintro e w6 ⟨rfl, hz⟩; have H6 := Lib.hid hz; clear hz)
    | (go_at_call 56; have _ := H6; (with_reducible refine (K6.out _ _ _ H6.out.ps).mono ?_); rintro e w7 ⟨v, rfl, hb, hz⟩; obtain ⟨g2, c2, rfl⟩ : ∃ g c, v = .slice (some ⟨g, 0, none⟩) (p2 + 1) c := own_pos hz (by omega); have H7 := Lib.hid (show AzAt [(g2, plC (chainL leftP Q.reverse)), (g1, plC (chainL leftP Q))] w _ from (H6.out.below hb).az.cons (hz.ar.row (g2, plC (chainL leftP Q.reverse)) (by simp))); have hq2 := hz.cap_le; clear hb hz)
    | (go_at_call 56; (with_reducible refine (K4.out _ _ _ H4.out.ps).mono ?_); rintro e w5 ⟨v, rfl, hb, hz⟩; obtain ⟨g1, c1, rfl⟩ : ∃ g c, v = .slice (some ⟨g, 0, none⟩) (p1 + 1) c := own_pos hz (by omega); have H5 := Lib.hid (show PzAt g Q [(g1, plC (chainL leftP Q))] w _ from (H4.out.below hb).cons (hz.ar.row (g1, plC (chainL leftP Q)) (by simp)) (by have := (hz.blk rfl).2.1; have := H4.out.ns.sz; omega)); have hq1 := hz.cap_le; clear hb hz)
    | fail)
  have H8 := Lib.hid (show AzAt [(w7.heap.size, [.slice (some ⟨g1, 0, none⟩) p1 c1, .slice (some ⟨g2, 0, none⟩) p2 c2]), (g1, plC (chainL leftP Q).dropLast), (g2, plC (chainL leftP Q.reverse).dropLast)] w _ from
    ((AzAt.mk (L := [(g1, plC (chainL leftP Q).dropLast), (g2, plC (chainL leftP Q.reverse).dropLast)]) H7.out.bw (fun x hx => by
      rcases List.mem_cons.1 hx with rfl | hx
      · exact (H7.out.row (g1, plC (chainL leftP Q)) (by simp)).dropLast
      · rcases List.mem_cons.1 hx with rfl | hx
        · exact (H7.out.row (g2, plC (chainL leftP Q.reverse)) (by simp)).dropLast
        · cases hx)).push [.slice (some ⟨g1, 0, none⟩) p1 c1, .slice (some ⟨g2, 0, none⟩) p2 c2] 27).drew)
  have hc1 : (p1 : Int) ≤ (c1 : Int) := by omega
  have hc2 : (p2 : Int) ≤ (c2 : Int) := by omega
  clear H7 H6 H5 H4 H3 H2 H1 K1 K2 K3 K4 K5 K6
  go_region_with (first
    | (go_at_call 58; (with_reducible refine (K7.out _ _ _ _ _ _ _ H8.out).mono ?_); rintro e w8 ⟨g3, c3, rfl, hz⟩; have H9 := Lib.hid hz; clear hz)
    | fail)
  all_goals
    go_wp2
    refine bodyPost_ret (v := .tuple #[.slice (some ⟨g3, 0, none⟩) (p1 + p2) c3, .int .i64 0]) ?_ rfl ⟨⟨g3, c3, rfl, H9.out.ar.row (g3, plC (hullL ps)) (by simp)⟩, H9.out.az.bw⟩
    simp [results, Tryz.results22, go_sem]
end Go.Proofs.YtgngepbemgbbeaaGreatDoor

