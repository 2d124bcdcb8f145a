/-
  A region that draws its order, in which one of the first operations may come after the first store: walked in the two ways in which it can end.
  What PlaneDistances asks of fractions.
  PlaneSides, walked: the law answers true.
  PlaneDistances, walked: the law answers true.
-/
import Derived.Test.YtgngepbemgbbeaaGreatDoorZAr
import Derived.Test.YtgngepbemgbbeaaGreatDoorZPlD
import Derived.Test.YtgngepbemgbbeaaGreatDoorZPl6
import Derived.Test.YtgngepbemgbbeaaGreatDoorZPl7
import Derived.Test.YtgngepbemgbbeaaGreatDoorZPw
namespace Go.Proofs.YtgngepbemgbbeaaGreatDoor
open Go.RowKit Go.Shelf Go.Sort

section
variable {P : Program} {ops : Array Oper} {Q : Exit → Act → World → Prop} {w : World} {a A : Act} {n : Nat} {objs : List (List Value × TypeId × (Nat → Value))}
/-- The first store waits for all but e, and after it e alone is ready. -/
def lateB (ops : Array Oper) (e n N : Nat) : Bool :=
  decide (e < n) && ((List.range N).all fun i => i == e || Region.waitsFor .any ops N i) && decide (Region.ready .any ops (((Array.replicate N true ++ Array.replicate (ops.size - N) false).setIfInBounds e false).setIfInBounds N true) = [e])
def qlB (ops : Array Oper) (e n N sz : Nat) : Bool :=
  Region.noSelect ops && decide (n ≤ N) && decide (N < ops.size) && distB ops N && lookB ops n N && edgeB ops N && slotB ops N sz && lateB ops e n N && Region.chainB .any ops N && Region.seqB .any ops (ops.size - N) N (Array.replicate N true ++ Array.replicate (ops.size - N) false)

theorem wpAny_ql {e de : Nat} {u : Value} {oN oe : Oper} (hB : qlB ops e n (n + objs.length) a.tmps.size = true) (hoN : ops[n + objs.length]? = some oN) (hoe : ops[e]? = some oe) (hde : dstOf ops e = some de) (hu : a.tmps[de]? = some u)
    (hal : ∀ k x, objs[k]? = some x → ∃ o, ops[n + k]? = some o ∧ Region.wanted o (yielded ops A.tmps) = true ∧ ∀ (W : World), (execOp A.eval o).run P W = .ok (.value (x.2.2 W.heap.size)) (W.alloc (.cells x.1.toArray x.2.1)))
    (hq : ∀ U, Below w.heap.size w U → ∀ i, i < n → ∃ o, ops[i]? = some o ∧ YieldsIn P ops (fun W => ∃ p : Regrown, W = grow (redrawn U p.d) p.os) o (valOf ops A i) (putAll ops (valOf ops A) (List.range i).reverse a))
    (hA : A = putAll ops (valOf ops A) (List.range n).reverse a)
    (ht : ∀ (g : Nat → Nat) (W : World), Below w.heap.size w W → (∀ k x, objs[k]? = some x → w.heap.size ≤ g (n + k) ∧ ArAt (g (n + k)) x.1 W) → (∀ i j, i < objs.length → j < objs.length → g (n + i) = g (n + j) → i = j) →
      wpList P ops Q (ops.toList.drop (n + objs.length)) (putAll ops (vgOf ops A n objs g) ((List.range objs.length).map (n + ·)) A) W)
    (ht2 : ∀ (g : Nat → Nat) (W : World), Below w.heap.size w W → (∀ k x, objs[k]? = some x → w.heap.size ≤ g (n + k) ∧ ArAt (g (n + k)) x.1 W) → (∀ i j, i < objs.length → j < objs.length → g (n + i) = g (n + j) → i = j) →
      wpList P ops Q (oN :: oe :: ops.toList.drop (n + objs.length + 1)) (putAll ops (vgOf ops A n objs g) ((List.range objs.length).map (n + ·)) (A.put (some de) u)) W) :
    ∀ (F : Nat) (S : List Nat) (g : Nat → Nat) (listed : Array Bool) (W : World), listed.toList.count false = F → (∀ i, i ∈ S ↔ (i < n + objs.length ∧ listed.getD i false = true)) → HeadInv .any ops (n + objs.length) listed → Below w.heap.size w W →
      (∀ k x, objs[k]? = some x → n + k ∈ S → w.heap.size ≤ g (n + k) ∧ ArAt (g (n + k)) x.1 W) → (∀ i j, n + i ∈ S → n + j ∈ S → g (n + i) = g (n + j) → i = j) →
      wpAny P .any ops Q F listed (putAll ops (vgOf ops A n objs g) S a) W := by
  simp only [qlB, lateB, Bool.and_eq_true, decide_eq_true_eq] at hB
  obtain ⟨⟨⟨⟨⟨⟨⟨⟨⟨hsel, hnN⟩, hNs⟩, hd⟩, hlk⟩, hed⟩, hz⟩, ⟨⟨hen, hsk⟩, hrd⟩⟩, hch⟩, hsq⟩ := hB
  generalize hN : n + objs.length = N at *
  intro F
  induction F with
  | zero =>
    intro S g listed W hc hS inv hb _ _
    have h1 := inv.tail N (Nat.le_refl _) hNs
    have := List.count_pos_iff.2 (List.mem_of_getElem? (unlisted_at' h1))
    omega
  | succ F ih =>
    intro S g listed W hc hS inv hb hG hinj
    have hSN : ∀ i ∈ S, i < N := fun i hi => ((hS i).1 hi).1
    by_cases hall : ∀ i, i < N → listed.getD i false = true
    · have hlisted : listed = Array.replicate N true ++ Array.replicate (ops.size - N) false := by
        apply Array.ext_getElem?
        intro i
        rw [Array.getElem?_append, Array.size_replicate]
        split
        · rename_i h
          have h1 := hall i h
          have h2 : i < listed.size := by rw [inv.size]; omega
          rw [Array.getElem?_replicate, if_pos h, Array.getElem?_eq_getElem h2]
          simp [Array.getD, h2] at h1
          rw [h1]
        · rename_i h
          rw [Array.getElem?_replicate]
          by_cases h3 : i < ops.size
          · rw [if_pos (by omega)]
            have h1 := inv.tail i (by omega) h3
            have h2 : i < listed.size := by rw [inv.size]; omega
            rw [Array.getElem?_eq_getElem h2]
            simp [Array.getD, h2] at h1
            rw [h1]
          · rw [if_neg (by omega), Array.getElem?_eq_none (by rw [inv.size]; omega)]
      have hF : F + 1 = (ops.toList.drop N).length := by
        rw [← hc, hlisted]
        simp [List.count_replicate]
      rw [hF]
      have e : putAll ops (vgOf ops A n objs g) S a = putAll ops (vgOf ops A n objs g) ((List.range objs.length).map (n + ·)) A := by
        refine act_ext (by rw [putAll_defers, putAll_defers, hA, putAll_defers]) fun t => ?_
        rw [putAll_at, putAll_at]
        have hsz : A.tmps.size = a.tmps.size := by rw [hA, putAll_size]
        have hAt : A.tmps[t]? = _ := (congrArg (fun x : Act => x.tmps[t]?) hA).trans (putAll_at _ _ _ _ _)
        rw [hsz]
        split
        · rename_i htl
          rw [if_pos htl] at hAt
          rw [hAt]
          have hM : ∀ i ∈ (List.range objs.length).map (n + ·), i < N := fun i hi => by
            obtain ⟨k, hk, rfl⟩ := List.mem_map.1 hi
            have := List.mem_range.1 hk
            omega
          by_cases hx : ∃ j, j < N ∧ dstOf ops j = some t
          · obtain ⟨j, hj, hjt⟩ := hx
            rw [found_in hd hSN ((hS j).2 ⟨hj, hall j hj⟩) hjt]
            by_cases hjn : j < n
            · rw [found_out (S := (List.range objs.length).map (n + ·)) (fun i hi hit => by
                have := dist_spec hd hj (hM i hi) hjt hit
                obtain ⟨k, hk, rfl⟩ := List.mem_map.1 hi
                omega), found_in (S := (List.range n).reverse) hd (fun i hi => by have := List.mem_range.1 (List.mem_reverse.1 hi); omega) (List.mem_reverse.2 (List.mem_range.2 hjn)) hjt]
              unfold vgOf
              rw [if_pos hjn]
              rfl
            · rw [found_in (S := (List.range objs.length).map (n + ·)) hd hM (j := j) (List.mem_map.2 ⟨j - n, List.mem_range.2 (by omega), by omega⟩) hjt]
              rfl
          · have hn' : ∀ (S' : List Nat), (∀ i ∈ S', i < N) → ∀ val, found ops val S' t = none := fun S' h val => found_out fun i hi hit => hx ⟨i, h i hi, hit⟩
            rw [hn' S hSN, hn' _ hM, hn' (List.range n).reverse (fun i hi => by have := List.mem_range.1 (List.mem_reverse.1 hi); omega)]
            rfl
        · rfl
      rw [e]
      have hsq' : Region.seqB .any ops (ops.toList.drop N).length N listed = true := by rw [hlisted]; simpa using hsq
      exact wpAny_of_seq (md := .any) (ops.toList.drop N) N listed _ W (fun j => by simp [List.getElem?_drop]) hsq' (ht g W hb (fun k x hk => hG k x hk ((hS _).2 ⟨by have := (List.getElem?_eq_some_iff.1 hk).1; omega, hall _ (by have := (List.getElem?_eq_some_iff.1 hk).1; omega)⟩)) (fun i j hi hj h => hinj i j ((hS _).2 ⟨by omega, hall _ (by omega)⟩) ((hS _).2 ⟨by omega, hall _ (by omega)⟩) h))
    · obtain ⟨i0, hi0⟩ : ∃ i, i < N ∧ listed.getD i false = false := by
        refine Classical.byContradiction fun hx => hall fun i hi => ?_
        cases hl : listed.getD i false with
        | true => rfl
        | false => exact absurd ⟨i, hi, hl⟩ hx
      refine ⟨fun h0 => absurd h0 (exists_ready hed (Nat.le_of_lt hNs) inv.size ⟨i0, hi0⟩), fun i hi => ?_⟩
      have hcase : i < N ∨ (i = N ∧ ∀ j, j < N → j ≠ e → listed.getD j false = true) := by
        rcases Nat.lt_or_ge i N with h | h
        · exact .inl h
        · obtain ⟨_, ot, hot, hdt⟩ := mem_ready.1 hi
          rcases Nat.eq_or_lt_of_le h with h | h
          · refine .inr ⟨h.symm, fun j hj hje => ?_⟩
            have h1 := List.all_eq_true.1 hsk j (List.mem_range.2 hj)
            simp only [Bool.or_eq_true, beq_iff_eq] at h1
            obtain ⟨o2, ho2, x, hx, hbx, hon⟩ := Region.waitsFor_spec (h1.resolve_left hje)
            rw [h] at ho2
            obtain rfl : ot = o2 := Option.some.inj (hot.symm.trans ho2)
            have h4 := hdt x hx hbx
            rwa [hon] at h4
          · have his : i < ops.size := (Array.getElem?_eq_some_iff.1 hot).1
            have h1 := List.all_eq_true.1 hch i (List.mem_range.2 his)
            simp only [Bool.or_eq_true, decide_eq_true_eq] at h1
            obtain ⟨o2, ho2, x, hx, hbx, hon⟩ := Region.waitsFor_spec (h1.resolve_left (by omega))
            obtain rfl : ot = o2 := Option.some.inj (hot.symm.trans ho2)
            have h4 := hdt x hx hbx
            rw [hon, getD_both (inv.tail (i - 1) (by omega) (by omega))] at h4
            cases h4
      rcases hcase with hiN | ⟨hiN, hallE⟩
      case inr =>
        subst hiN
        have heN : e < i := Nat.lt_of_lt_of_le hen hnN
        have hue : listed.getD e false = false := by
          by_cases h : i0 = e
          · exact h ▸ hi0.2
          · exact absurd (hallE i0 hi0.1 h) (by rw [hi0.2]; decide)
        have hlisted : listed = (Array.replicate i true ++ Array.replicate (ops.size - i) false).setIfInBounds e false := by
          apply Array.ext_getElem?
          intro j
          rw [Array.getElem?_setIfInBounds, Array.getElem?_append, Array.size_replicate]
          have hval : ∀ v, j < ops.size → listed.getD j false = v → listed[j]? = some v := fun v h1 h2 => by
            have h3 : j < listed.size := by rw [inv.size]; exact h1
            rw [Array.getElem?_eq_getElem h3]
            simp [Array.getD, h3] at h2
            rw [h2]
          by_cases hej : e = j
          · subst hej
            rw [if_pos rfl, if_pos (by simp; omega)]
            exact hval _ (by omega) hue
          · rw [if_neg hej]
            by_cases hji : j < i
            · rw [if_pos hji, Array.getElem?_replicate, if_pos hji]
              exact hval _ (by omega) (hallE j hji (Ne.symm hej))
            · rw [if_neg hji, Array.getElem?_replicate]
              by_cases hjs : j < ops.size
              · rw [if_pos (by omega)]
                exact hval _ hjs (getD_both (inv.tail j (by omega) hjs))
              · rw [if_neg (by omega), Array.getElem?_eq_none (by rw [inv.size]; omega)]
        have hF : F = (ops.toList.drop (i + 1)).length + 1 := by
          have h1 : (Array.replicate i true ++ Array.replicate (ops.size - i) false)[e]? = some true := by
            rw [Array.getElem?_append, Array.size_replicate, if_pos heN, Array.getElem?_replicate, if_pos heN]
          have h2 := count_set' listed.toList e (unlisted_at' (getD_in (by rw [inv.size]; omega) hue))
          have h3 : listed.toList.set e true = (Array.replicate i true ++ Array.replicate (ops.size - i) false).toList := by
            rw [← Array.toList_setIfInBounds, hlisted]
            congr 1
            apply Array.ext_getElem?
            intro j
            rw [Array.getElem?_setIfInBounds, Array.getElem?_setIfInBounds]
            by_cases hej : e = j
            · subst hej
              rw [if_pos rfl, if_pos (by simp; omega), h1]
            · rw [if_neg hej, if_neg hej]
          rw [h3, hc] at h2
          simp [List.count_replicate] at h2
          simp
          omega
        have eA : putAll ops (vgOf ops A n objs g) S a = putAll ops (vgOf ops A n objs g) ((List.range objs.length).map (n + ·)) (A.put (some de) u) := by
          refine act_ext (by rw [putAll_defers, putAll_defers]; show _ = A.defers; rw [hA, putAll_defers]) fun t => ?_
          rw [putAll_at, putAll_at]
          have hsz : A.tmps.size = a.tmps.size := by rw [hA, putAll_size]
          have hAt : A.tmps[t]? = _ := (congrArg (fun x : Act => x.tmps[t]?) hA).trans (putAll_at _ _ _ _ _)
          have hput : (A.put (some de) u).tmps[t]? = if de = t then (if de < A.tmps.size then some u else none) else A.tmps[t]? := by
            show (A.tmps.setIfInBounds de u)[t]? = _
            rw [Array.getElem?_setIfInBounds]
          rw [hput, show (A.put (some de) u).tmps.size = a.tmps.size by rw [← hsz]; simp [Act.put], hsz]
          split
          · rename_i htl
            rw [if_pos htl] at hAt
            rw [hAt]
            have hM : ∀ j ∈ (List.range objs.length).map (n + ·), j < i := fun j hj => by
              obtain ⟨k, hk, rfl⟩ := List.mem_map.1 hj
              have := List.mem_range.1 hk
              omega
            have hSe : ∀ j ∈ S, j ≠ e := fun j hj h => by
              have h1 := ((hS j).1 hj).2
              rw [h, hue] at h1
              cases h1
            by_cases htd : de = t
            · subst htd
              rw [if_pos rfl, if_pos htl, found_out (S := S) (fun j hj hjt => hSe j hj (dist_spec hd (hSN j hj) heN hjt hde)), found_out (S := (List.range objs.length).map (n + ·)) (fun j hj hjt => by
                have := dist_spec hd (hM j hj) heN hjt hde
                obtain ⟨k, hk, rfl⟩ := List.mem_map.1 hj
                omega), hu]
            · rw [if_neg htd]
              by_cases hx : ∃ j, j < i ∧ dstOf ops j = some t
              · obtain ⟨j, hj, hjt⟩ := hx
                have hje : j ≠ e := fun h => by
                  rw [h, hde] at hjt
                  exact htd (Option.some.inj hjt)
                rw [found_in hd hSN ((hS j).2 ⟨hj, hallE j hj hje⟩) hjt]
                by_cases hjn : j < n
                · rw [found_out (S := (List.range objs.length).map (n + ·)) (fun i' hi' hit => by
                    have := dist_spec hd hj (hM i' hi') hjt hit
                    obtain ⟨k, hk, rfl⟩ := List.mem_map.1 hi'
                    omega), found_in (S := (List.range n).reverse) hd (fun i' hi' => by have := List.mem_range.1 (List.mem_reverse.1 hi'); omega) (List.mem_reverse.2 (List.mem_range.2 hjn)) hjt]
                  unfold vgOf
                  rw [if_pos hjn]
                  rfl
                · rw [found_in (S := (List.range objs.length).map (n + ·)) hd hM (j := j) (List.mem_map.2 ⟨j - n, List.mem_range.2 (by omega), by omega⟩) hjt]
                  rfl
              · have hn' : ∀ (S' : List Nat), (∀ j ∈ S', j < i) → ∀ val, found ops val S' t = none := fun S' h val => found_out fun j hj hjt => hx ⟨j, h j hj, hjt⟩
                rw [hn' S hSN, hn' _ hM, hn' (List.range n).reverse (fun j hj => by have := List.mem_range.1 (List.mem_reverse.1 hj); omega)]
                rfl
          · rfl
        have hin' : ∀ k, k < objs.length → n + k ∈ S := fun k hk => (hS _).2 ⟨by omega, hallE _ (by omega) (by omega)⟩
        have H2 := ht2 g W hb (fun k x hk => hG k x hk (hin' k (List.getElem?_eq_some_iff.1 hk).1)) (fun j1 j2 h1 h2 h => hinj j1 j2 (hin' j1 h1) (hin' j2 h2) h)
        rw [eA]
        have hw : wpOp P ops Q i (wpList P ops Q (oe :: ops.toList.drop (i + 1))) (putAll ops (vgOf ops A n objs g) ((List.range objs.length).map (n + ·)) (A.put (some de) u)) W := by unfold wpOp; simp only [hoN]; exact H2
        refine wpOp_mono (fun a' w' h' => ?_) hw
        rw [hF, hlisted]
        refine ⟨fun h0 => (by rw [hrd] at h0; cases h0), fun j hj => ?_⟩
        rw [hrd] at hj
        obtain rfl : j = e := by simpa using hj
        have hw2 : wpOp P ops Q j (wpList P ops Q (ops.toList.drop (i + 1))) a' w' := by unfold wpOp; simp only [hoe]; exact h'
        refine wpOp_mono (fun a2 w2 h2 => ?_) hw2
        have hset : (((Array.replicate i true ++ Array.replicate (ops.size - i) false).setIfInBounds j false).setIfInBounds i true).setIfInBounds j true = (Array.replicate i true ++ Array.replicate (ops.size - i) false).setIfInBounds i true := by
          apply Array.ext_getElem?
          intro k
          simp only [Array.getElem?_setIfInBounds, Array.getElem?_append, Array.size_replicate, Array.size_append, Array.size_setIfInBounds, Array.getElem?_replicate]
          by_cases h1 : j = k
          · subst h1
            rw [if_pos rfl, if_pos (by omega), if_neg (by omega), if_pos heN, if_pos heN]
          · rw [if_neg h1, if_neg h1]
        rw [hset]
        obtain ⟨m, hm⟩ : ∃ m, ops.size - i = m + 1 := ⟨ops.size - i - 1, by omega⟩
        have hsq' := hsq
        rw [hm] at hsq'
        simp only [Region.seqB, Bool.and_eq_true, decide_eq_true_eq] at hsq'
        refine wpAny_of_seq (md := .any) (ops.toList.drop (i + 1)) (i + 1) _ a2 w2 (fun j => by simp [List.getElem?_drop]) ?_ h2
        rw [show (ops.toList.drop (i + 1)).length = m by simp; omega, hm]
        exact hsq'.2
      obtain ⟨hun, oi, hoi, hdone⟩ := mem_ready.1 hi
      have hisz : i < listed.size := by rw [inv.size]; omega
      have hiS : i ∉ S := fun h => by
        have := ((hS i).1 h).2
        rw [getD_both hun] at this
        cases this
      have hS' : ∀ j, j ∈ i :: S ↔ (j < N ∧ (listed.setIfInBounds i true).getD j false = true) := fun j => by
        rw [List.mem_cons, hS j]
        by_cases hij : i = j
        · subst hij
          simp [hiN, Array.getD, hisz]
        · rw [getD_set_ne false hij]
          exact ⟨fun h => h.resolve_left (Ne.symm hij), .inr⟩
      have hc' : (listed.setIfInBounds i true).toList.count false = F := by
        have := count_set' _ _ (unlisted_at' hun)
        rw [Array.toList_setIfInBounds]
        omega
      have hdi : dstOf ops i = oi.dst := by unfold dstOf; rw [hoi]; rfl
      by_cases hin : i < n
      · obtain ⟨o, ho, hy⟩ := hq W hb i hin
        obtain rfl : oi = o := Option.some.inj (hoi.symm.trans ho)
        have hsm := act_same (ops := ops) (o := oi) (Region.noSelect_spec hsel i oi · · hoi) (a := putAll ops (vgOf ops A n objs g) S a) (b := putAll ops (valOf ops A) (List.range i).reverse a) (fun t htl => by
          rw [putAll_at, putAll_at]
          congr 2
          have hR : ∀ j ∈ (List.range i).reverse, j < N := fun j hj => by have := List.mem_range.1 (List.mem_reverse.1 hj); omega
          by_cases hx : ∃ j, j < N ∧ dstOf ops j = some t
          · obtain ⟨j, hj, hjt⟩ := hx
            have h1 := List.all_eq_true.1 (List.all_eq_true.1 hlk i (List.mem_range.2 (Nat.lt_of_lt_of_le hin hnN))) j (List.mem_range.2 hj)
            rw [hoi, hjt] at h1
            have h2 : j < i ∧ Region.waitsFor .any ops i j = true := by
              have h3 : (oi.looksAt ops).contains t = true := by simpa using htl
              simp only [h3, Bool.not_true, Bool.false_or, Bool.and_eq_true, decide_eq_true_eq] at h1
              exact ⟨h1.1.1, h1.2⟩
            obtain ⟨o2, ho2, e, hee, hbe, hon⟩ := Region.waitsFor_spec h2.2
            obtain rfl : oi = o2 := Option.some.inj (hoi.symm.trans ho2)
            have h4 := hdone e hee hbe
            rw [hon] at h4
            rw [found_in hd hSN ((hS j).2 ⟨hj, h4⟩) hjt, found_in hd hR (List.mem_reverse.2 (List.mem_range.2 h2.1)) hjt]
            unfold vgOf
            rw [if_pos (by omega)]
          · rw [found_out fun j hj hjt => hx ⟨j, hSN j hj, hjt⟩, found_out fun j hj hjt => hx ⟨j, hR j hj, hjt⟩])
        have hy' := hy.of_same hsm.1 hsm.2
        refine wpOp_of_qOp (C := fun W' => ∃ p : Regrown, W' = grow (redrawn W p.d) p.os) (K := fun a1 => a1 = (putAll ops (vgOf ops A n objs g) S a).put oi.dst (valOf ops A i)) (regrown_of_below (Below.refl _ _)) ?_ (hy'.qOp hoi rfl)
        rintro a1 W1 ⟨⟨dq, osq⟩, hp⟩ rfl
        have hbW : Below W.heap.size W W1 := by rw [hp]; exact below_regrown W dq osq
        have e : (putAll ops (vgOf ops A n objs g) S a).put oi.dst (valOf ops A i) = putAll ops (vgOf ops A n objs g) (i :: S) a := by
          show _ = (putAll ops (vgOf ops A n objs g) S a).put (dstOf ops i) (vgOf ops A n objs g i)
          rw [hdi]
          unfold vgOf
          rw [if_pos hin]
        rw [e]
        exact ih (i :: S) g _ W1 hc' hS' (inv.set hi hiN) (hb.trans (hbW.mono hb.size)) (fun k x hk hm => by
          have := hG k x hk ((List.mem_cons.1 hm).resolve_left (by omega))
          exact ⟨this.1, this.2.below hbW⟩) (fun j1 j2 h1 h2 h => hinj j1 j2 ((List.mem_cons.1 h1).resolve_left (by omega)) ((List.mem_cons.1 h2).resolve_left (by omega)) h)
      · obtain ⟨k0, rfl⟩ : ∃ k, i = n + k := ⟨i - n, by omega⟩
        have hk0 : k0 < objs.length := by omega
        obtain ⟨o, ho, hwa, hrun⟩ := hal k0 _ (List.getElem?_eq_getElem hk0)
        obtain rfl : oi = o := Option.some.inj (hoi.symm.trans ho)
        have hsm := act_same (ops := ops) (o := oi) (Region.noSelect_spec hsel (n + k0) oi · · hoi) (a := putAll ops (vgOf ops A n objs g) S a) (b := A) (fun t htl => by
          have hAt : A.tmps[t]? = _ := (congrArg (fun x : Act => x.tmps[t]?) hA).trans (putAll_at _ _ _ _ _)
          rw [hAt, putAll_at]
          congr 2
          have hR : ∀ j ∈ (List.range n).reverse, j < N := fun j hj => by have := List.mem_range.1 (List.mem_reverse.1 hj); omega
          by_cases hx : ∃ j, j < N ∧ dstOf ops j = some t
          · obtain ⟨j, hj, hjt⟩ := hx
            have h1 := List.all_eq_true.1 (List.all_eq_true.1 hlk (n + k0) (List.mem_range.2 hiN)) j (List.mem_range.2 hj)
            rw [hoi, hjt] at h1
            have h2 : j < n ∧ Region.waitsFor .any ops (n + k0) j = true := by
              have h3 : (oi.looksAt ops).contains t = true := by simpa using htl
              simp only [h3, Bool.not_true, Bool.false_or, Bool.and_eq_true, decide_eq_true_eq] at h1
              exact ⟨h1.1.2, h1.2⟩
            obtain ⟨o2, ho2, e, hee, hbe, hon⟩ := Region.waitsFor_spec h2.2
            obtain rfl : oi = o2 := Option.some.inj (hoi.symm.trans ho2)
            have h4 := hdone e hee hbe
            rw [hon] at h4
            rw [found_in hd hSN ((hS j).2 ⟨hj, h4⟩) hjt, found_in (S := (List.range n).reverse) hd hR (List.mem_reverse.2 (List.mem_range.2 h2.1)) hjt]
            unfold vgOf
            rw [if_pos h2.1]
          · rw [found_out fun j hj hjt => hx ⟨j, hSN j hj, hjt⟩, found_out (S := (List.range n).reverse) fun j hj hjt => hx ⟨j, hR j hj, hjt⟩])
        unfold wpOp
        simp only [hoi]
        rw [hsm.2, hwa, if_pos rfl]
        refine .inl ?_
        unfold Oper.wp
        rw [hsm.1, hrun]
        show wpAny _ _ _ _ _ _ ((putAll ops (vgOf ops A n objs g) S a).put oi.dst _) _
        have hgS : ∀ j ∈ S, j ≠ n + k0 := fun j hj h => hiS (h ▸ hj)
        have e : (putAll ops (vgOf ops A n objs g) S a).put oi.dst (objs[k0].2.2 W.heap.size) = putAll ops (vgOf ops A n objs (fun j => if j = n + k0 then W.heap.size else g j)) ((n + k0) :: S) a := by
          show _ = (putAll ops (vgOf ops A n objs (fun j => if j = n + k0 then W.heap.size else g j)) S a).put (dstOf ops (n + k0)) (vgOf ops A n objs (fun j => if j = n + k0 then W.heap.size else g j) (n + k0))
          rw [hdi]
          congr 1
          · clear hS hS' hSN hG hinj hiS hsm
            induction S with
            | nil => rfl
            | cons j S ihS =>
              show (putAll ops (vgOf ops A n objs g) S a).put _ _ = (putAll ops (vgOf ops A n objs _) S a).put _ _
              rw [ihS (fun j hj => hgS j (List.mem_cons_of_mem _ hj))]
              congr 1
              unfold vgOf
              simp only
              rw [if_neg (hgS j List.mem_cons_self)]
          · unfold vgOf
            simp only
            rw [if_neg (by omega), if_pos trivial, show n + k0 - n = k0 by omega]
            unfold vfOf
            rw [List.getElem?_eq_getElem hk0]
        rw [e]
        have hbW : Below W.heap.size W (W.alloc (.cells objs[k0].1.toArray objs[k0].2.1)) := (Below.refl _ _).alloc (Nat.le_refl _) _
        refine ih ((n + k0) :: S) _ _ _ hc' hS' (inv.set hi hiN) (hb.trans (hbW.mono hb.size)) (fun k x hk hm => ?_) (fun j1 j2 h1 h2 h => ?_)
        · by_cases hkk : k = k0
          · subst hkk
            simp only [if_true]
            rw [List.getElem?_eq_getElem hk0] at hk
            cases hk
            exact ⟨hb.size, ArAt.mk' W _ _⟩
          · simp only [show (n + k = n + k0) = False by simp; omega, if_false]
            have := hG k x hk ((List.mem_cons.1 hm).resolve_left (by omega))
            exact ⟨this.1, this.2.below hbW⟩
        · have old : ∀ j, n + j ∈ S → g (n + j) < W.heap.size := fun j hj => by
            have h3 := hSN _ hj
            exact (hG j _ (List.getElem?_eq_getElem (by omega)) hj).2.sz
          by_cases a1 : j1 = k0
          · by_cases a2 : j2 = k0
            · omega
            · have := old j2 ((List.mem_cons.1 h2).resolve_left (by omega))
              simp only [a1, if_true, show (n + j2 = n + k0) = False by simp; omega, if_false] at h
              omega
          · have b1 := (List.mem_cons.1 h1).resolve_left (by omega)
            by_cases a2 : j2 = k0
            · have := old j1 b1
              simp only [a2, if_true, show (n + j1 = n + k0) = False by simp; omega, if_false] at h
              omega
            · simp only [show (n + j1 = n + k0) = False by simp; omega, show (n + j2 = n + k0) = False by simp; omega, if_false] at h
              exact hinj j1 j2 b1 ((List.mem_cons.1 h2).resolve_left (by omega)) h
/-- The whole region, whose operations are written out. -/
theorem wp_region_ql {id : Nat} {l : List Oper} {e de : Nat} {u : Value} {oN oe : Oper} (n : Nat) (objs : List (List Value × TypeId × (Nat → Value))) (hm : P.follows .mixedOrders = true) (hB : qlB l.toArray e n (n + objs.length) a.tmps.size = true) (hoN : l.toArray[n + objs.length]? = some oN) (hoe : l.toArray[e]? = some oe) (hde : dstOf l.toArray e = some de) (hu : a.tmps[de]? = some u)
    (hal : ∀ k x, objs[k]? = some x → ∃ o, l.toArray[n + k]? = some o ∧ Region.wanted o (yielded l.toArray A.tmps) = true ∧ ∀ (W : World), (execOp A.eval o).run P W = .ok (.value (x.2.2 W.heap.size)) (W.alloc (.cells x.1.toArray x.2.1)))
    (h : ∀ U, Below w.heap.size w U → wpQuiet P l.toArray (fun W => ∃ p : Regrown, W = grow (redrawn U p.d) p.os) (fun a' => a' = A) (l.take n) a)
    (ht : ∀ (g : Nat → Nat) (W : World), Below w.heap.size w W → (∀ k x, objs[k]? = some x → w.heap.size ≤ g (n + k) ∧ ArAt (g (n + k)) x.1 W) → (∀ i j, i < objs.length → j < objs.length → g (n + i) = g (n + j) → i = j) →
      wpList P l.toArray Q (l.drop (n + objs.length)) (putAll l.toArray (vgOf l.toArray A n objs g) ((List.range objs.length).map (n + ·)) A) W)
    (ht2 : ∀ (g : Nat → Nat) (W : World), Below w.heap.size w W → (∀ k x, objs[k]? = some x → w.heap.size ≤ g (n + k) ∧ ArAt (g (n + k)) x.1 W) → (∀ i j, i < objs.length → j < objs.length → g (n + i) = g (n + j) → i = j) →
      wpList P l.toArray Q (oN :: oe :: l.drop (n + objs.length + 1)) (putAll l.toArray (vgOf l.toArray A n objs g) ((List.range objs.length).map (n + ·)) (A.put (some de) u)) W) : (Code.region id l.toArray true).wp P Q a w := by
  have hB' := hB
  simp only [qlB, Bool.and_eq_true, decide_eq_true_eq] at hB'
  obtain ⟨⟨⟨⟨⟨⟨⟨⟨⟨hsel, hnN⟩, hNs⟩, hd⟩, hlk⟩, hed⟩, hz⟩, hsk⟩, hch⟩, hsq⟩ := hB'
  have hNs' : n + objs.length < l.length := by simpa using hNs
  have tab : ∀ U, Below w.heap.size w U → _ := fun U hU => quiet_table (P := P) (C := fun W => ∃ p : Regrown, W = grow (redrawn U p.d) p.os) (a := a) (A := A) hd hz hnN (l.take n) 0 (fun j hj => by
    have hj' : j < n := by rw [List.length_take] at hj; omega
    simp [hj']) (by rw [List.length_take]; omega) (h U hU)
  refine wp_region_any hm ?_
  have H := wpAny_ql (P := P) (Q := Q) (w := w) (a := a) (A := A) hB hoN hoe hde hu hal (fun U hU i hi => (tab U hU).1 i (Nat.zero_le _) hi) (tab w (Below.refl _ _)).2 ht ht2 l.toArray.size [] (fun _ => 0) (Array.replicate l.toArray.size false) { w with drawn := w.drawn + 1 } (by simp)
    (fun i => ⟨fun hi => (by cases hi), fun hi => (by rw [getD_replicate_false] at hi; cases hi.2)⟩)
    ⟨by simp, fun j oj _ hl => (by rw [getD_replicate_false] at hl; cases hl), fun t _ ht => getD_in (by simpa using ht) (getD_replicate_false _ _)⟩
    ⟨rfl, rfl, rfl, Nat.le_refl _, fun _ _ => rfl⟩ (fun k x _ hm => by cases hm) (fun i j hi => by cases hi)
  exact H
/-- One new block, whose address goes into slot d. -/
theorem wp_region_ql1 {id : Nat} {l : List Oper} {u : Value} {oN oe : Oper} (e de n d : Nat) (vs : List Value) (t : TypeId) (hm : P.follows .mixedOrders = true) (hB : qlB l.toArray e n (n + 1) a.tmps.size = true)
    (hoN : l.toArray[n + 1]? = some oN) (hoe : l.toArray[e]? = some oe) (hde : dstOf l.toArray e = some de) (hu : a.tmps[de]? = some u)
    (hal : ∃ o, l.toArray[n]? = some o ∧ o.dst = some d ∧ o.guard = none ∧ ∀ (b : Act) (W : World), (execOp b.eval o).run P W = .ok (.value (.pointer (some ⟨W.heap.size, 0, none⟩))) (W.alloc (.cells vs.toArray t)))
    (h : ∀ U, Below w.heap.size w U → wpQuiet P l.toArray (fun W => ∃ p : Regrown, W = grow (redrawn U p.d) p.os) (fun a' => a' = A) (l.take n) a)
    (ht : ∀ (B : Nat) (W : World), Below w.heap.size w W → w.heap.size ≤ B → ArAt B vs W → wpList P l.toArray Q (l.drop (n + 1)) (A.put (some d) (.pointer (some ⟨B, 0, none⟩))) W ∧ wpList P l.toArray Q (oN :: oe :: l.drop (n + 2)) ((A.put (some de) u).put (some d) (.pointer (some ⟨B, 0, none⟩))) W) : (Code.region id l.toArray true).wp P Q a w := by
  obtain ⟨o, ho, hd, hg, hr⟩ := hal
  have ed : dstOf l.toArray n = some d := by unfold dstOf; rw [ho]; exact hd
  have e2 : ∀ g : Nat → Nat, vgOf l.toArray A n [(vs, t, fun B => .pointer (some ⟨B, 0, none⟩))] g n = .pointer (some ⟨g n, 0, none⟩) := fun g => by unfold vgOf; rw [if_neg (Nat.lt_irrefl _), Nat.sub_self]; rfl
  refine wp_region_ql (A := A) n [(vs, t, fun B => .pointer (some ⟨B, 0, none⟩))] hm hB hoN hoe hde hu (fun k x hk => ?_) h (fun g W hb hG _ => ?_) (fun g W hb hG _ => ?_)
  · cases k with
    | zero => cases hk; exact ⟨o, ho, by unfold Region.wanted; rw [hg], hr A⟩
    | succ k => simp at hk
  · have h1 := hG 0 (vs, t, fun B => .pointer (some ⟨B, 0, none⟩)) rfl
    have := (ht (g n) W hb h1.1 h1.2).1
    show wpList _ _ _ _ ((A.put (dstOf l.toArray n) (vgOf l.toArray A n [(vs, t, fun B => .pointer (some ⟨B, 0, none⟩))] g n))) W
    rw [ed, e2]
    exact this
  · have h1 := hG 0 (vs, t, fun B => .pointer (some ⟨B, 0, none⟩)) rfl
    have := (ht (g n) W hb h1.1 h1.2).2
    show wpList _ _ _ _ (((A.put (some de) u).put (dstOf l.toArray n) (vgOf l.toArray A n [(vs, t, fun B => .pointer (some ⟨B, 0, none⟩))] g n))) W
    rw [ed, e2]
    exact this
end
end Go.Proofs.YtgngepbemgbbeaaGreatDoor

namespace Go.Proofs.YtgngepbemgbbeaaGreatDoor
open Go.RowKit Go.Shelf

theorem divInt_le {n d s : Int} (hd : 0 < d) (h : n ≤ s * d) : Rat.divInt n d ≤ Rat.divInt s 1 := by
  rw [Rat.le_iff]
  have ha : (Rat.divInt n d).num * d = n * (Rat.divInt n d).den := rat_cross (by omega) rfl
  have hb : (Rat.divInt s 1).num * 1 = s * (Rat.divInt s 1).den := rat_cross (by decide) rfl
  have da := rat_dpos (Rat.divInt n d)
  have db := rat_dpos (Rat.divInt s 1)
  generalize (Rat.divInt n d).num = an at *
  generalize ((Rat.divInt n d).den : Int) = ad at *
  generalize (Rat.divInt s 1).num = bn at *
  generalize ((Rat.divInt s 1).den : Int) = bd at *
  rw [Int.mul_one] at hb
  subst hb
  have h1 : an ≤ s * ad := by
    refine Int.le_of_mul_le_mul_right ?_ hd
    rw [ha]
    have h2 := Int.mul_le_mul_of_nonneg_right h (show (0 : Int) ≤ ad by omega)
    rw [show s * ad * d = s * d * ad by grind]
    exact h2
  have h3 := Int.mul_le_mul_of_nonneg_right h1 (show (0 : Int) ≤ bd by omega)
  rw [show s * bd * ad = s * ad * bd by grind]
  exact h3
theorem cmpO_le {x y : Rat} (h : x ≤ y) : cmpOO (some x) (some y) ≤ 0 := by
  show cmpR x y ≤ 0
  rcases cmpR_cases x y with ⟨_, e⟩ | ⟨_, e⟩ | ⟨h1, e⟩
  · omega
  · omega
  · exact absurd h (Rat.not_le.2 h1)
theorem cmpO_ge {x y : Rat} (h : y ≤ x) : 0 ≤ cmpOO (some x) (some y) := by
  show 0 ≤ cmpR x y
  rcases cmpR_cases x y with ⟨h1, e⟩ | ⟨_, e⟩ | ⟨_, e⟩
  · exact absurd h (Rat.not_le.2 h1)
  · omega
  · omega
theorem dDen_b {p a b : Pl} (ha : vP a = true) (hb : vP b = true) : dDen p a b ≤ 33538050 := by
  have := sqP_b ha hb
  unfold dDen
  split
  · decide
  · split
    · decide
    · omega
theorem dNum_b {p a b : Pl} (hp : vP p = true) (ha : vP a = true) (hb : vP b = true) : dNum p a b ≤ 1600000000000000 := by
  have h1 := sqP_b hp ha
  have h2 := sqP_b hp hb
  have h3 := turn_b ha hb hp
  have h4 := prod_big (u := turnP a b p) (v := turnP a b p) (by omega) (by omega)
  unfold dNum
  split
  · omega
  · split <;> omega
theorem dO_make (p a b : Pl) : some (dRat p a b) = makeR (dNum p a b) (dDen p a b) := by
  have := dDen_pos p a b
  unfold makeR
  rw [if_neg (by omega)]
  rfl
theorem dO_FO {p a b : Pl} (hp : vP p = true) (ha : vP a = true) (hb : vP b = true) : FO (some (dRat p a b)) := by
  rw [dO_make]
  have h1 := dDen_pos p a b
  have h2 := dDen_b (p := p) ha hb
  have h3 := dNum_nonneg p a b
  have h4 := dNum_b hp ha hb
  exact fun _ hr => make_fits (small_i64 (by omega) (by omega)) (small_i64 (by omega) (by omega)) hr
theorem dRat_same (p a : Pl) : dRat p a a = Rat.divInt (sqP p a) 1 := by
  unfold dRat
  rw [(d_same p a).1, (d_same p a).2]
theorem dRat_back (p a b : Pl) : dRat p b a = dRat p a b := by
  unfold dRat
  rw [(d_back p a b).1, (d_back p a b).2]
theorem dRat_mv (p a b : Pl) (dx dy : Int) : dRat (p.mv dx dy) (a.mv dx dy) (b.mv dx dy) = dRat p a b := by
  unfold dRat
  rw [(d_mv p a b dx dy).1, (d_mv p a b dx dy).2]
theorem dRat_le (p a b : Pl) : dRat p a b ≤ dRat p a a := by
  rw [dRat_same]
  exact divInt_le (dDen_pos p a b) (d_le p a b)
theorem dRat_le2 (p a b : Pl) : dRat p a b ≤ dRat p b b := by
  rw [dRat_same]
  exact divInt_le (dDen_pos p a b) (d_le2 p a b)
theorem zero_make : makeR 0 1 = some 0 := by decide +kernel
theorem dRat_nonneg (p a b : Pl) : 0 ≤ dRat p a b := Rat.divInt_nonneg (dNum_nonneg p a b) (by have := dDen_pos p a b; omega)
theorem dRat_zero (p a b : Pl) : some (dRat p a b) = makeR 0 1 ↔ dNum p a b = 0 := by
  rw [zero_make]
  have h := dDen_pos p a b
  constructor
  · intro e
    have e' : Rat.divInt (dNum p a b) (dDen p a b) = Rat.divInt 0 1 := by
      have := Option.some.inj e
      rw [Rat.zero_divInt]
      exact this
    have := (Rat.divInt_eq_divInt_iff (by omega) (by decide)).1 e'
    omega
  · intro e
    unfold dRat
    rw [e, Rat.zero_divInt]
/-- Two fractions that are not equal differ in a text. -/
theorem texts_ne {x y : Option Rat} (h : x ≠ y) : ((qN x).toList == (qN y).toList) = false ∨ (((qN x).toList == (qN y).toList) = true ∧ ((qD x).toList == (qD y).toList) = false) := by
  have inj : ∀ {a b : ByteArray}, a.toList = b.toList → a = b := fun {a b} e => by
    rw [ByteArray.toList_eq, ByteArray.toList_eq] at e
    exact ByteArray.ext (Array.toList_inj.1 e)
  by_cases h1 : (qN x).toList = (qN y).toList
  · refine .inr ⟨beq_iff_eq.2 h1, beq_eq_false_iff_ne.2 fun h2 => h (q_inj (inj h1) (inj h2))⟩
  · exact .inl (beq_eq_false_iff_ne.2 h1)
end Go.Proofs.YtgngepbemgbbeaaGreatDoor

namespace Go.Proofs.YtgngepbemgbbeaaGreatDoor
open Go.RowKit Go.Shelf Go.Sort
attribute [local go_sem] Oper.semAt_some

/-- The place that two integers determine. -/
def plN (x y : Int) : Pl := ⟨(pickN x 40 : Nat), (pickN y 40 : Nat)⟩
theorem plN_b (x y : Int) : (0 ≤ (plN x y).x ∧ (plN x y).x ≤ 39) ∧ (0 ≤ (plN x y).y ∧ (plN x y).y ≤ 39) := by
  have h1 := pickN_lt x (n := 40) (by decide)
  have h2 := pickN_lt y (n := 40) (by decide)
  unfold plN
  simp only
  omega
theorem vP_of {p : Pl} (h : (0 ≤ p.x ∧ p.x ≤ 4095) ∧ (0 ≤ p.y ∧ p.y ≤ 4095)) : vP p = true := by
  unfold vP
  simp only [Bool.and_eq_true, decide_eq_true_eq]
  omega
theorem plN_v (x y : Int) : vP (plN x y) = true := vP_of (by have := plN_b x y; omega)
theorem plN_s {x y : Int} (hx : -9223372036854775808 ≤ x ∧ x ≤ 9223372036854775807) (hy : -9223372036854775808 ≤ y ∧ y ≤ 9223372036854775807) (w : World) :
    Calls Tryz.prog 37 #[.agg #[.int .i64 x, .int .i64 y]] w fun e W' => e = .returned (.agg #[.int .i64 (plN x y).x, .int .i64 (plN x y).y]) ∧ Below w.heap.size w W' := place_s hx.1 hx.2 hy.1 hy.2 w
/-- What a place is moved to. -/
def mvN (p : Pl) (x y : Int) : Pl := p.mv (pickN x 1000 : Nat) (pickN y 1000 : Nat)
theorem mvN_v {p : Pl} (h : (0 ≤ p.x ∧ p.x ≤ 39) ∧ (0 ≤ p.y ∧ p.y ≤ 39)) (x y : Int) : vP (mvN p x y) = true := vP_of (by
  have h1 := pickN_lt x (n := 1000) (by decide)
  have h2 := pickN_lt y (n := 1000) (by decide)
  unfold mvN Pl.mv
  simp only
  omega)
theorem mvN_s {p : Pl} {x y : Int} (hv : vP p = true) (hx : -9223372036854775808 ≤ x ∧ x ≤ 9223372036854775807) (hy : -9223372036854775808 ≤ y ∧ y ≤ 9223372036854775807) (w : World) :
    Calls Tryz.prog 38 #[.agg #[.int .i64 p.x, .int .i64 p.y], .agg #[.int .i64 x, .int .i64 y]] w fun e W' => e = .returned (.agg #[.int .i64 (mvN p x y).x, .int .i64 (mvN p x y).y]) ∧ Below w.heap.size w W' := moved_s hv hx.1 hx.2 hy.1 hy.2 w
set_option maxHeartbeats 8000000 in
set_option maxRecDepth 100000 in
theorem PlaneSides_law (a0 a1 b0 b1 c0 c1 m0 m1 : Int) (ha0 : -9223372036854775808 ≤ a0 ∧ a0 ≤ 9223372036854775807) (ha1 : -9223372036854775808 ≤ a1 ∧ a1 ≤ 9223372036854775807) (hb0 : -9223372036854775808 ≤ b0 ∧ b0 ≤ 9223372036854775807) (hb1 : -9223372036854775808 ≤ b1 ∧ b1 ≤ 9223372036854775807) (hc0 : -9223372036854775808 ≤ c0 ∧ c0 ≤ 9223372036854775807) (hc1 : -9223372036854775808 ≤ c1 ∧ c1 ≤ 9223372036854775807) (hm0 : -9223372036854775808 ≤ m0 ∧ m0 ≤ 9223372036854775807) (hm1 : -9223372036854775808 ≤ m1 ∧ m1 ≤ 9223372036854775807) (w : World) (hq : IOps w ∧ FrOp w) :
    Calls Tryz.prog 4 #[.agg #[.int .i64 a0, .int .i64 a1, .int .i64 b0, .int .i64 b1, .int .i64 c0, .int .i64 c1], .agg #[.int .i64 m0, .int .i64 m1]] w fun e W' => e = .returned (.bool true) ∧ Below w.heap.size w W' := by
  have KS := Lib.hid (fun (W : World) (hb : Below w.heap.size w W) => sane7_s (hq.1.below hb) (hq.2.below hb))
  have KP := Lib.hid (fun (W : World) => plN_s ha0 ha1 W)
  have KQ := Lib.hid (fun (W : World) => plN_s hb0 hb1 W)
  have KR := Lib.hid (fun (W : World) => plN_s hc0 hc1 W)
  have bp := plN_b a0 a1
  have bq := plN_b b0 b1
  have br := plN_b c0 c1
  generalize plN a0 a1 = p at KP bp
  generalize plN b0 b1 = q at KQ bq
  generalize plN c0 c1 = r at KR br
  have vp : vP p = true := vP_of (by omega)
  have vq : vP q = true := vP_of (by omega)
  have vr : vP r = true := vP_of (by omega)
  have MP := Lib.hid (fun (W : World) => mvN_s vp hm0 hm1 W)
  have MQ := Lib.hid (fun (W : World) => mvN_s vq hm0 hm1 W)
  have MR := Lib.hid (fun (W : World) => mvN_s vr hm0 hm1 W)
  have S1 := Lib.hid (fun (W : World) => side_s p q r W)
  have S2 := Lib.hid (fun (W : World) => side_s q p r W)
  rw [side_swap] at S2
  have S3 := Lib.hid (fun (W : World) => side_s p r q W)
  rw [side_swap2] at S3
  have S4 := Lib.hid (fun (W : World) => side_s q r p W)
  rw [side_cyc] at S4
  have S5 := Lib.hid (fun (W : World) => side_s (mvN p m0 m1) (mvN q m0 m1) (mvN r m0 m1) W)
  rw [show sideP (mvN p m0 m1) (mvN q m0 m1) (mvN r m0 m1) = sideP p q r from side_mv (by simp [vp, vq, vr]) (by
    have h1 := mvN_v bp m0 m1
    have h2 := mvN_v bq m0 m1
    have h3 := mvN_v br m0 m1
    unfold mvN at h1 h2 h3
    simp [h1, h2, h3])] at S5
  obtain ⟨n1, n2⟩ := side_range p q r
  generalize sideP p q r = n at S1 S2 S3 S4 S5 n1 n2
  generalize mvN p m0 m1 = p' at MP S5
  generalize mvN q m0 m1 = q' at MQ S5
  generalize mvN r m0 m1 = r' at MR S5
  have hwn : IntKind.i64.wrap (-n) = -n := IntWalk.i64_in _ (by omega)
  have t1 : decide ((-1 : Int) ≤ n) = true := decide_eq_true n1
  have t2 : decide (n ≤ 1) = true := decide_eq_true n2
  have HC := Lib.hid (show AzAt [(w.heap.size + 1, [.int .i64 m0, .int .i64 m1]), (w.heap.size, [.int .i64 a0, .int .i64 a1, .int .i64 b0, .int .i64 b1, .int .i64 c0, .int .i64 c1])] w _ from by
    have hp := ((AzAt.start w).push [.int .i64 a0, .int .i64 a1, .int .i64 b0, .int .i64 b1, .int .i64 c0, .int .i64 c1] 56).push [.int .i64 m0, .int .i64 m1] 55
    simp only [World.size_alloc] at hp
    exact hp)
  clear ha0 ha1 hb0 hb1 hc0 hc1 hm0 hm1 bp bq br vp vq vr hq
  go_enter Tryz.func4, Tryz.ntmps4
  go_wp2_with (first
    | (go_at_call 10; (with_reducible refine (KS.out _ HC.out.bw).mono ?_); rintro e w1 ⟨rfl, hb⟩; replace HC := Lib.hid (HC.out.below hb); clear hb; have x0 := ((HC.out.at (B := w.heap.size) (l := [.int .i64 a0, .int .i64 a1, .int .i64 b0, .int .i64 b1, .int .i64 c0, .int .i64 c1]) (by simp)).row 0 _ rfl); have x1 := ((HC.out.at (B := w.heap.size) (l := [.int .i64 a0, .int .i64 a1, .int .i64 b0, .int .i64 b1, .int .i64 c0, .int .i64 c1]) (by simp)).row 1 _ rfl))
    | (go_at_call 37; (with_reducible refine (KP.out _).mono ?_); rintro e wP ⟨rfl, hb⟩; replace HC := Lib.hid ((HC.out.below hb).push [.int .i64 p.x, .int .i64 p.y] 26); clear hb x0 x1; have x2 := ((HC.out.at (B := w.heap.size) (l := [.int .i64 a0, .int .i64 a1, .int .i64 b0, .int .i64 b1, .int .i64 c0, .int .i64 c1]) (by simp)).row 2 _ rfl); have x3 := ((HC.out.at (B := w.heap.size) (l := [.int .i64 a0, .int .i64 a1, .int .i64 b0, .int .i64 b1, .int .i64 c0, .int .i64 c1]) (by simp)).row 3 _ rfl))
    | (go_at_call 37; (with_reducible refine (KQ.out _).mono ?_); rintro e wQ ⟨rfl, hb⟩; replace HC := Lib.hid ((HC.out.below hb).push [.int .i64 q.x, .int .i64 q.y] 26); clear hb x2 x3; have x4 := ((HC.out.at (B := w.heap.size) (l := [.int .i64 a0, .int .i64 a1, .int .i64 b0, .int .i64 b1, .int .i64 c0, .int .i64 c1]) (by simp)).row 4 _ rfl); have x5 := ((HC.out.at (B := w.heap.size) (l := [.int .i64 a0, .int .i64 a1, .int .i64 b0, .int .i64 b1, .int .i64 c0, .int .i64 c1]) (by simp)).row 5 _ rfl))
    | (go_at_call 37; (with_reducible refine (KR.out _).mono ?_); rintro e wR ⟨rfl, hb⟩; replace HC := Lib.hid ((HC.out.below hb).push [.int .i64 r.x, .int .i64 r.y] 26); clear hb x4 x5; have y0 := ((HC.out.at (B := wP.heap.size) (l := [.int .i64 p.x, .int .i64 p.y]) (by simp)).row 0 _ rfl); have y1 := ((HC.out.at (B := wP.heap.size) (l := [.int .i64 p.x, .int .i64 p.y]) (by simp)).row 1 _ rfl); have y2 := ((HC.out.at (B := wQ.heap.size) (l := [.int .i64 q.x, .int .i64 q.y]) (by simp)).row 0 _ rfl); have y3 := ((HC.out.at (B := wQ.heap.size) (l := [.int .i64 q.x, .int .i64 q.y]) (by simp)).row 1 _ rfl); have y4 := ((HC.out.at (B := wR.heap.size) (l := [.int .i64 r.x, .int .i64 r.y]) (by simp)).row 0 _ rfl); have y5 := ((HC.out.at (B := wR.heap.size) (l := [.int .i64 r.x, .int .i64 r.y]) (by simp)).row 1 _ rfl))
    | (go_at_call 31; (with_reducible refine (S1.out _).mono ?_); rintro e w2 ⟨rfl, hb⟩; replace HC := Lib.hid (HC.out.below hb); clear hb y0 y1 y2 y3 y4 y5)
    | fail)
  have z0 := cell_regrown ((HC.out.at (B := wP.heap.size) (l := [.int .i64 p.x, .int .i64 p.y]) (by simp)).row 0 _ rfl)
  have z1 := cell_regrown ((HC.out.at (B := wP.heap.size) (l := [.int .i64 p.x, .int .i64 p.y]) (by simp)).row 1 _ rfl)
  have z2 := cell_regrown ((HC.out.at (B := wQ.heap.size) (l := [.int .i64 q.x, .int .i64 q.y]) (by simp)).row 0 _ rfl)
  have z3 := cell_regrown ((HC.out.at (B := wQ.heap.size) (l := [.int .i64 q.x, .int .i64 q.y]) (by simp)).row 1 _ rfl)
  have z4 := cell_regrown ((HC.out.at (B := wR.heap.size) (l := [.int .i64 r.x, .int .i64 r.y]) (by simp)).row 0 _ rfl)
  have z5 := cell_regrown ((HC.out.at (B := wR.heap.size) (l := [.int .i64 r.x, .int .i64 r.y]) (by simp)).row 1 _ rfl)
  have z6 := cell_regrown ((HC.out.at (B := w.heap.size + 1) (l := [.int .i64 m0, .int .i64 m1]) (by simp)).row 0 _ rfl)
  have z7 := cell_regrown ((HC.out.at (B := w.heap.size + 1) (l := [.int .i64 m0, .int .i64 m1]) (by simp)).row 1 _ rfl)
  have c0 := fun d os => Calls.regrown_of (d := d) (os := os) (S2.out (grow (redrawn w2 d) os))
  have c1 := fun d os => Calls.regrown_of (d := d) (os := os) (S3.out (grow (redrawn w2 d) os))
  have c2 := fun d os => Calls.regrown_of (d := d) (os := os) (S4.out (grow (redrawn w2 d) os))
  have c3 := fun d os => Calls.regrown_of (d := d) (os := os) (MP.out (grow (redrawn w2 d) os))
  have c4 := fun d os => Calls.regrown_of (d := d) (os := os) (MQ.out (grow (redrawn w2 d) os))
  have c5 := fun d os => Calls.regrown_of (d := d) (os := os) (MR.out (grow (redrawn w2 d) os))
  have c6 := fun d os => Calls.regrown_of (d := d) (os := os) (S5.out (grow (redrawn w2 d) os))
  clear S1 S2 S3 S4 S5 MP MQ MR KS KP KQ KR
  refine wp_region_quiet_below (by kernel_rfl) (by kernel_rfl) ?_
  repeat (go_big_quiet_step (first | with_reducible exact c0 _ _ | with_reducible exact c1 _ _ | with_reducible exact c2 _ _ | with_reducible exact c3 _ _ | with_reducible exact c4 _ _ | with_reducible exact c5 _ _ | with_reducible exact c6 _ _))
  refine wpQuiet_nil ?_
  intro W1 hw'
  have hb1 : Below w2.heap.size w2 W1 := by obtain ⟨⟨dq, osq⟩, hw''⟩ := hw'; rw [hw'']; exact below_regrown w2 dq osq
  have H1 := Lib.hid (HC.out.bw.trans (hb1.mono HC.out.bw.size))
  clear hw' hb1
  go_wp2
  go_ret
  exact ⟨rfl, H1.out⟩
end Go.Proofs.YtgngepbemgbbeaaGreatDoor

namespace Go.Proofs.YtgngepbemgbbeaaGreatDoor
open Go.RowKit Go.Shelf Go.Sort
attribute [local go_sem] Oper.semAt_some

set_option maxHeartbeats 16000000 in
set_option maxRecDepth 100000 in
theorem PlaneDistances_law (a0 a1 b0 b1 c0 c1 m0 m1 : Int) (ha0 : -9223372036854775808 ≤ a0 ∧ a0 ≤ 9223372036854775807) (ha1 : -9223372036854775808 ≤ a1 ∧ a1 ≤ 9223372036854775807) (hb0 : -9223372036854775808 ≤ b0 ∧ b0 ≤ 9223372036854775807) (hb1 : -9223372036854775808 ≤ b1 ∧ b1 ≤ 9223372036854775807) (hc0 : -9223372036854775808 ≤ c0 ∧ c0 ≤ 9223372036854775807) (hc1 : -9223372036854775808 ≤ c1 ∧ c1 ≤ 9223372036854775807) (hm0 : -9223372036854775808 ≤ m0 ∧ m0 ≤ 9223372036854775807) (hm1 : -9223372036854775808 ≤ m1 ∧ m1 ≤ 9223372036854775807) (w : World) (hq : IOps w ∧ FrOp w) :
    Calls Tryz.prog 7 #[.agg #[.int .i64 a0, .int .i64 a1, .int .i64 b0, .int .i64 b1, .int .i64 c0, .int .i64 c1], .agg #[.int .i64 m0, .int .i64 m1]] w fun e W' => e = .returned (.bool true) ∧ Below w.heap.size w W' := by
  have hmx : Tryz.prog.follows .mixedOrders = true := by kernel_rfl
  have KS := Lib.hid (fun (W : World) (hb : Below w.heap.size w W) => sane7_s (hq.1.below hb) (hq.2.below hb))
  have Kp := Lib.hid (fun (W : World) => plN_s ha0 ha1 W)
  have bp := plN_b a0 a1
  have Kq := Lib.hid (fun (W : World) => plN_s hb0 hb1 W)
  have bq := plN_b b0 b1
  have Kr := Lib.hid (fun (W : World) => plN_s hc0 hc1 W)
  have br := plN_b c0 c1
  generalize plN a0 a1 = p at Kp bp
  generalize plN b0 b1 = q at Kq bq
  generalize plN c0 c1 = r at Kr br
  have vp : vP p = true := vP_of (by omega)
  have Mp := Lib.hid (fun (W : World) => mvN_s vp hm0 hm1 W)
  have vq : vP q = true := vP_of (by omega)
  have Mq := Lib.hid (fun (W : World) => mvN_s vq hm0 hm1 W)
  have vr : vP r = true := vP_of (by omega)
  have Mr := Lib.hid (fun (W : World) => mvN_s vr hm0 hm1 W)
  have D1 := Lib.hid (fun (W : World) (hb : Below w.heap.size w W) => dist_yes vp vq vr (hq.1.below hb) (hq.2.below hb))
  have D2 := Lib.hid (fun (W : World) (hb : Below w.heap.size w W) => dist_yes vp vr vq (hq.1.below hb) (hq.2.below hb))
  rw [dRat_back] at D2
  have D3 := Lib.hid (fun (W : World) (hb : Below w.heap.size w W) => dist_yes (mvN_v bp m0 m1) (mvN_v bq m0 m1) (mvN_v br m0 m1) (hq.1.below hb) (hq.2.below hb))
  rw [show dRat (mvN p m0 m1) (mvN q m0 m1) (mvN r m0 m1) = dRat p q r from dRat_mv p q r _ _] at D3
  have D4 := Lib.hid (fun (W : World) (hb : Below w.heap.size w W) => dist_yes vp vq vq (hq.1.below hb) (hq.2.below hb))
  have D5 := Lib.hid (fun (W : World) (hb : Below w.heap.size w W) => dist_yes vp vr vr (hq.1.below hb) (hq.2.below hb))
  have R0 := Lib.hid (fun (W : World) => ratio_s (n := 0) (d := 1) (by decide) (by decide) (by decide) (by decide) (by decide) W)
  have sb := sqP_b vp vq
  have R1 := Lib.hid (fun (W : World) => ratio_s (n := sqP p q) (d := 1) (by decide) (by omega) (by omega) (by decide) (by decide) W)
  rw [show makeR (sqP p q) 1 = some (dRat p q q) from by rw [dRat_same]; exact if_neg (by decide)] at R1
  have X1 := Lib.hid (fun (W : World) => cross_s p p q r W)
  rw [cross_pp vp vq vr] at X1
  have fD := dO_FO vp vq vr
  have fE := dO_FO vp vq vq
  have fF := dO_FO vp vr vr
  have fZ : FO (makeR 0 1) := whO_FO (n := 0) (by decide) (by decide)
  have C1 := Lib.hid (fun (W : World) (hb : Below w.heap.size w W) => by have := RCompare_q (hq.1.below hb) (qN_sz _ fD) (qD_sz _ fD) (qN_sz _ fZ) (qD_sz _ fZ); rw [cmpS_q fD fZ] at this; exact this)
  have C2 := Lib.hid (fun (W : World) (hb : Below w.heap.size w W) => by have := RCompare_q (hq.1.below hb) (qN_sz _ fD) (qD_sz _ fD) (qN_sz _ fE) (qD_sz _ fE); rw [cmpS_q fD fE] at this; exact this)
  have C3 := Lib.hid (fun (W : World) (hb : Below w.heap.size w W) => by have := RCompare_q (hq.1.below hb) (qN_sz _ fD) (qD_sz _ fD) (qN_sz _ fF) (qD_sz _ fF); rw [cmpS_q fD fF] at this; exact this)
  have k1 : 0 ≤ cmpOO (some (dRat p q r)) (makeR 0 1) := by rw [zero_make]; exact cmpO_ge (dRat_nonneg p q r)
  have k2 : cmpOO (some (dRat p q r)) (some (dRat p q q)) ≤ 0 := cmpO_le (dRat_le p q r)
  have k3 : cmpOO (some (dRat p q r)) (some (dRat p r r)) ≤ 0 := cmpO_le (dRat_le2 p q r)
  have hz := dRat_zero p q r
  have hne := texts_ne (x := some (dRat p q r)) (y := makeR 0 1)
  generalize cmpOO (some (dRat p q r)) (makeR 0 1) = e1 at C1 k1
  generalize cmpOO (some (dRat p q r)) (some (dRat p q q)) = e2 at C2 k2
  generalize cmpOO (some (dRat p q r)) (some (dRat p r r)) = e3 at C3 k3
  generalize mvN p m0 m1 = p' at Mp D3
  generalize mvN q m0 m1 = q' at Mq D3
  generalize mvN r m0 m1 = r' at Mr D3
  generalize dNum p q r = N at X1 hz
  generalize some (dRat p q r) = D at D1 D2 D3 C1 C2 C3 hz hne fD
  generalize some (dRat p q q) = E at D4 R1 C2 fE
  generalize some (dRat p r r) = F at D5 C3 fF
  generalize makeR 0 1 = Z at R0 C1 hz hne fZ
  have t1 : decide (0 ≤ e1) = true := decide_eq_true k1
  have t2 : decide (e2 ≤ 0) = true := decide_eq_true k2
  have t3 : decide (e3 ≤ 0) = true := decide_eq_true k3
  have hsq : (p.x - q.x) * (p.x - q.x) + (p.y - q.y) * (p.y - q.y) = sqP p q := rfl
  have u1 := sqP_nonneg ⟨p.x, 0⟩ ⟨q.x, 0⟩
  have u2 := sqP_nonneg ⟨0, p.y⟩ ⟨0, q.y⟩
  have g1 : 0 ≤ (p.x - q.x) * (p.x - q.x) := sq_self _
  have g2 : 0 ≤ (p.y - q.y) * (p.y - q.y) := sq_self _
  have w1' : IntKind.i64.wrap (p.x - q.x) = p.x - q.x := IntWalk.i64_in _ (by omega)
  have w2' : IntKind.i64.wrap (p.y - q.y) = p.y - q.y := IntWalk.i64_in _ (by omega)
  have w3' : IntKind.i64.wrap ((p.x - q.x) * (p.x - q.x)) = (p.x - q.x) * (p.x - q.x) := IntWalk.i64_in _ (by omega)
  have w4' : IntKind.i64.wrap ((p.y - q.y) * (p.y - q.y)) = (p.y - q.y) * (p.y - q.y) := IntWalk.i64_in _ (by omega)
  have w5' : IntKind.i64.wrap ((p.x - q.x) * (p.x - q.x) + (p.y - q.y) * (p.y - q.y)) = sqP p q := by rw [hsq]; exact IntWalk.i64_in _ (by omega)
  generalize sqP p q = sq at R1 w5' sb hsq
  have HZ := Lib.hid (And.intro hz hne)
  have HC := Lib.hid (show AzAt [(w.heap.size + 1, [.int .i64 m0, .int .i64 m1]), (w.heap.size, [.int .i64 a0, .int .i64 a1, .int .i64 b0, .int .i64 b1, .int .i64 c0, .int .i64 c1])] w _ from by
    have hp := ((AzAt.start w).push [.int .i64 a0, .int .i64 a1, .int .i64 b0, .int .i64 b1, .int .i64 c0, .int .i64 c1] 56).push [.int .i64 m0, .int .i64 m1] 55
    simp only [World.size_alloc] at hp
    exact hp)
  clear ha0 ha1 hb0 hb1 hc0 hc1 hm0 hm1 bp bq br vp vq vr hq fD fE fF fZ k1 k2 k3 hz hne hsq u1 u2 g1 g2 sb
  go_enter Tryz.func7, Tryz.ntmps7
  go_wp2_with (first
    | (go_at_call 10; (with_reducible refine (KS.out _ HC.out.bw).mono ?_); rintro e w1 ⟨rfl, hb⟩; replace HC := Lib.hid (HC.out.below hb); clear hb; have x0 := ((HC.out.at (B := w.heap.size) (l := [.int .i64 a0, .int .i64 a1, .int .i64 b0, .int .i64 b1, .int .i64 c0, .int .i64 c1]) (by simp)).row 0 _ rfl); have x1 := ((HC.out.at (B := w.heap.size) (l := [.int .i64 a0, .int .i64 a1, .int .i64 b0, .int .i64 b1, .int .i64 c0, .int .i64 c1]) (by simp)).row 1 _ rfl))
    | (go_at_call 37; (with_reducible refine (Kp.out _).mono ?_); rintro e wP ⟨rfl, hb⟩; replace HC := Lib.hid ((HC.out.below hb).push [.int .i64 p.x, .int .i64 p.y] 26); clear hb x0 x1; have x2 := ((HC.out.at (B := w.heap.size) (l := [.int .i64 a0, .int .i64 a1, .int .i64 b0, .int .i64 b1, .int .i64 c0, .int .i64 c1]) (by simp)).row 2 _ rfl); have x3 := ((HC.out.at (B := w.heap.size) (l := [.int .i64 a0, .int .i64 a1, .int .i64 b0, .int .i64 b1, .int .i64 c0, .int .i64 c1]) (by simp)).row 3 _ rfl))
    | (go_at_call 37; (with_reducible refine (Kq.out _).mono ?_); rintro e wQ ⟨rfl, hb⟩; replace HC := Lib.hid ((HC.out.below hb).push [.int .i64 q.x, .int .i64 q.y] 26); clear hb x2 x3; have x4 := ((HC.out.at (B := w.heap.size) (l := [.int .i64 a0, .int .i64 a1, .int .i64 b0, .int .i64 b1, .int .i64 c0, .int .i64 c1]) (by simp)).row 4 _ rfl); have x5 := ((HC.out.at (B := w.heap.size) (l := [.int .i64 a0, .int .i64 a1, .int .i64 b0, .int .i64 b1, .int .i64 c0, .int .i64 c1]) (by simp)).row 5 _ rfl))
    | (go_at_call 37; (with_reducible refine (Kr.out _).mono ?_); rintro e wR ⟨rfl, hb⟩; replace HC := Lib.hid ((HC.out.below hb).push [.int .i64 r.x, .int .i64 r.y] 26); clear hb x4 x5; have y0 := ((HC.out.at (B := wP.heap.size) (l := [.int .i64 p.x, .int .i64 p.y]) (by simp)).row 0 _ rfl); have y1 := ((HC.out.at (B := wP.heap.size) (l := [.int .i64 p.x, .int .i64 p.y]) (by simp)).row 1 _ rfl); have y2 := ((HC.out.at (B := wQ.heap.size) (l := [.int .i64 q.x, .int .i64 q.y]) (by simp)).row 0 _ rfl); have y3 := ((HC.out.at (B := wQ.heap.size) (l := [.int .i64 q.x, .int .i64 q.y]) (by simp)).row 1 _ rfl); have y4 := ((HC.out.at (B := wR.heap.size) (l := [.int .i64 r.x, .int .i64 r.y]) (by simp)).row 0 _ rfl); have y5 := ((HC.out.at (B := wR.heap.size) (l := [.int .i64 r.x, .int .i64 r.y]) (by simp)).row 1 _ rfl))
    | (go_at_call 29; (with_reducible refine (D1.out _ HC.out.bw).mono ?_); rintro e wD ⟨rfl, hb⟩; replace HC := Lib.hid ((HC.out.below hb).push [.string (qN D), .string (qD D)] 47); clear hb; clear y0 y1 y2 y3 y4 y5; have y0 := ((HC.out.at (B := wP.heap.size) (l := [.int .i64 p.x, .int .i64 p.y]) (by simp)).row 0 _ rfl); have y1 := ((HC.out.at (B := wP.heap.size) (l := [.int .i64 p.x, .int .i64 p.y]) (by simp)).row 1 _ rfl); have y2 := ((HC.out.at (B := wQ.heap.size) (l := [.int .i64 q.x, .int .i64 q.y]) (by simp)).row 0 _ rfl); have y3 := ((HC.out.at (B := wQ.heap.size) (l := [.int .i64 q.x, .int .i64 q.y]) (by simp)).row 1 _ rfl); have y4 := ((HC.out.at (B := wR.heap.size) (l := [.int .i64 r.x, .int .i64 r.y]) (by simp)).row 0 _ rfl); have y5 := ((HC.out.at (B := wR.heap.size) (l := [.int .i64 r.x, .int .i64 r.y]) (by simp)).row 1 _ rfl))
    | (go_at_call 29; (with_reducible refine (D2.out _ HC.out.bw).mono ?_); rintro e wB ⟨rfl, hb⟩; replace HC := Lib.hid ((HC.out.below hb).push [.string (qN D), .string (qD D)] 47); clear hb; clear y0 y1 y2 y3 y4 y5)
    | fail)
  obtain ⟨WB, hWB⟩ : ∃ WB, WB = wB.alloc (.cells #[.string (qN D), .string (qD D)] 47) := ⟨_, rfl⟩
  rw [← hWB] at HC ⊢
  clear hWB
  refine wp_region_ql1 (A := ?fr8) 12 57 13 12 [.string ⟨#[]⟩, .string ⟨#[]⟩] 47 hmx (by kernel_rfl) rfl rfl rfl rfl ⟨_, rfl, rfl, rfl, fun b W => ?al1⟩ ?h ?ht
  case al1 => simp [go_sem]
  case h =>
    intro U hU
    have hp := HC.out.below hU
    have z0 := cell_regrown ((hp.at (B := wP.heap.size) (l := [.int .i64 p.x, .int .i64 p.y]) (by simp)).row 0 _ rfl)
    have z1 := cell_regrown ((hp.at (B := wP.heap.size) (l := [.int .i64 p.x, .int .i64 p.y]) (by simp)).row 1 _ rfl)
    have z2 := cell_regrown ((hp.at (B := wQ.heap.size) (l := [.int .i64 q.x, .int .i64 q.y]) (by simp)).row 0 _ rfl)
    have z3 := cell_regrown ((hp.at (B := wQ.heap.size) (l := [.int .i64 q.x, .int .i64 q.y]) (by simp)).row 1 _ rfl)
    have z4 := cell_regrown ((hp.at (B := wR.heap.size) (l := [.int .i64 r.x, .int .i64 r.y]) (by simp)).row 0 _ rfl)
    have z5 := cell_regrown ((hp.at (B := wR.heap.size) (l := [.int .i64 r.x, .int .i64 r.y]) (by simp)).row 1 _ rfl)
    have z6 := cell_regrown ((hp.at (B := w.heap.size + 1) (l := [.int .i64 m0, .int .i64 m1]) (by simp)).row 0 _ rfl)
    have z7 := cell_regrown ((hp.at (B := w.heap.size + 1) (l := [.int .i64 m0, .int .i64 m1]) (by simp)).row 1 _ rfl)
    have c0 := fun d os => Calls.regrown_of (d := d) (os := os) (Mp.out (grow (redrawn U d) os))
    have c1 := fun d os => Calls.regrown_of (d := d) (os := os) (Mq.out (grow (redrawn U d) os))
    have c2 := fun d os => Calls.regrown_of (d := d) (os := os) (Mr.out (grow (redrawn U d) os))
    have c3 := fun d os => Calls.regrown_of (d := d) (os := os) (D3.out _ (hp.bw.trans ((below_regrown U d os).mono hp.bw.size)))
    clear hp
    simp only [List.take_succ_cons, List.take_zero]
    repeat (go_big_quiet_step (first | with_reducible exact c0 _ _ | with_reducible exact c1 _ _ | with_reducible exact c2 _ _ | with_reducible exact c3 _ _))
    refine wpQuiet_nil ?_
    rfl
  case ht =>
    intro XM WM hW hXM cXM
    have HC' := HC.out.below hW
    have HK := Lib.hid (show AzAt [(XM, [.string (qN D), .string (qD D)]), (wB.heap.size, [.string (qN D), .string (qD D)]), (wD.heap.size, [.string (qN D), .string (qD D)]), (wR.heap.size, [.int .i64 r.x, .int .i64 r.y]), (wQ.heap.size, [.int .i64 q.x, .int .i64 q.y]), (wP.heap.size, [.int .i64 p.x, .int .i64 p.y]), (w.heap.size + 1, [.int .i64 m0, .int .i64 m1]), (w.heap.size, [.int .i64 a0, .int .i64 a1, .int .i64 b0, .int .i64 b1, .int .i64 c0, .int .i64 c1])] w _ from (HC'.cons cXM).set2 (by have := HC.out.bw.size; omega) (fun u hu => by have := (HC.out.row u hu).sz; omega) (.string (qN D)) (.string (qD D)))
    have z0 := cXM.row 0 _ rfl
    have z1 := cXM.row 1 _ rfl
    have f0 := cXM.fz 0 (by simp)
    have f1 := cXM.fz 1 (by simp)
    clear cXM hW HC' HC
    simp only [List.drop_succ_cons, List.drop_zero]
    refine ⟨?t1, ?t2⟩
    iterate 6 go_step
    with_reducible refine wpList_nil ?cont
    rotate_left
    iterate 7 go_step
    with_reducible refine wpList_nil ?cont
    clear z0 z1 f0 f1 hXM
    have y0 := ((HK.out.at (B := wP.heap.size) (l := [.int .i64 p.x, .int .i64 p.y]) (by simp)).row 0 _ rfl)
    have y1 := ((HK.out.at (B := wP.heap.size) (l := [.int .i64 p.x, .int .i64 p.y]) (by simp)).row 1 _ rfl)
    have y2 := ((HK.out.at (B := wQ.heap.size) (l := [.int .i64 q.x, .int .i64 q.y]) (by simp)).row 0 _ rfl)
    have y3 := ((HK.out.at (B := wQ.heap.size) (l := [.int .i64 q.x, .int .i64 q.y]) (by simp)).row 1 _ rfl)
    have y4 := ((HK.out.at (B := wR.heap.size) (l := [.int .i64 r.x, .int .i64 r.y]) (by simp)).row 0 _ rfl)
    have y5 := ((HK.out.at (B := wR.heap.size) (l := [.int .i64 r.x, .int .i64 r.y]) (by simp)).row 1 _ rfl)
    go_wp2_with (first
      | (go_at_call 29; (with_reducible refine (D4.out _ HK.out.bw).mono ?_); rintro e wE ⟨rfl, hb⟩; replace HK := Lib.hid ((HK.out.below hb).push [.string (qN E), .string (qD E)] 47); clear hb y0 y1 y2 y3 y4 y5; have y0 := ((HK.out.at (B := wP.heap.size) (l := [.int .i64 p.x, .int .i64 p.y]) (by simp)).row 0 _ rfl); have y1 := ((HK.out.at (B := wP.heap.size) (l := [.int .i64 p.x, .int .i64 p.y]) (by simp)).row 1 _ rfl); have y2 := ((HK.out.at (B := wQ.heap.size) (l := [.int .i64 q.x, .int .i64 q.y]) (by simp)).row 0 _ rfl); have y3 := ((HK.out.at (B := wQ.heap.size) (l := [.int .i64 q.x, .int .i64 q.y]) (by simp)).row 1 _ rfl); have y4 := ((HK.out.at (B := wR.heap.size) (l := [.int .i64 r.x, .int .i64 r.y]) (by simp)).row 0 _ rfl); have y5 := ((HK.out.at (B := wR.heap.size) (l := [.int .i64 r.x, .int .i64 r.y]) (by simp)).row 1 _ rfl))
      | (go_at_call 29; (with_reducible refine (D5.out _ HK.out.bw).mono ?_); rintro e wF ⟨rfl, hb⟩; replace HK := Lib.hid ((HK.out.below hb).push [.string (qN F), .string (qD F)] 47); clear hb y0 y1 y2 y3 y4 y5; have d0 := ((HK.out.at (B := wD.heap.size) (l := [.string (qN D), .string (qD D)]) (by simp)).row 0 _ rfl); have d1 := ((HK.out.at (B := wD.heap.size) (l := [.string (qN D), .string (qD D)]) (by simp)).row 1 _ rfl); have k0 := ((HK.out.at (B := wB.heap.size) (l := [.string (qN D), .string (qD D)]) (by simp)).row 0 _ rfl); have k1 := ((HK.out.at (B := wB.heap.size) (l := [.string (qN D), .string (qD D)]) (by simp)).row 1 _ rfl); have mm0 := ((HK.out.at (B := XM) (l := [.string (qN D), .string (qD D)]) (by simp)).row 0 _ rfl); have mm1 := ((HK.out.at (B := XM) (l := [.string (qN D), .string (qD D)]) (by simp)).row 1 _ rfl))
      | (go_at_call 39; (with_reducible refine (R0.out _).mono ?_); rintro e wZ ⟨rfl, hb⟩; replace HK := Lib.hid ((HK.out.below hb).push [.string (qN Z), .string (qD Z)] 47); clear hb d0 d1 k0 k1 mm0 mm1; have y0 := ((HK.out.at (B := wP.heap.size) (l := [.int .i64 p.x, .int .i64 p.y]) (by simp)).row 0 _ rfl); have y1 := ((HK.out.at (B := wP.heap.size) (l := [.int .i64 p.x, .int .i64 p.y]) (by simp)).row 1 _ rfl); have y2 := ((HK.out.at (B := wQ.heap.size) (l := [.int .i64 q.x, .int .i64 q.y]) (by simp)).row 0 _ rfl); have y3 := ((HK.out.at (B := wQ.heap.size) (l := [.int .i64 q.x, .int .i64 q.y]) (by simp)).row 1 _ rfl))
      | fail)
    obtain ⟨WZ, hWZ⟩ : ∃ WZ, WZ = wZ.alloc (.cells #[.string (qN Z), .string (qD Z)] 47) := ⟨_, rfl⟩
    rw [← hWZ] at HK ⊢
    clear hWZ y0 y1 y2 y3 w1' w2' w3' w4' w5'
    have z0 := cell_regrown ((HK.out.at (B := wP.heap.size) (l := [.int .i64 p.x, .int .i64 p.y]) (by simp)).row 0 _ rfl)
    have z1 := cell_regrown ((HK.out.at (B := wP.heap.size) (l := [.int .i64 p.x, .int .i64 p.y]) (by simp)).row 1 _ rfl)
    have z2 := cell_regrown ((HK.out.at (B := wQ.heap.size) (l := [.int .i64 q.x, .int .i64 q.y]) (by simp)).row 0 _ rfl)
    have z3 := cell_regrown ((HK.out.at (B := wQ.heap.size) (l := [.int .i64 q.x, .int .i64 q.y]) (by simp)).row 1 _ rfl)
    have z4 := cell_regrown ((HK.out.at (B := wR.heap.size) (l := [.int .i64 r.x, .int .i64 r.y]) (by simp)).row 0 _ rfl)
    have z5 := cell_regrown ((HK.out.at (B := wR.heap.size) (l := [.int .i64 r.x, .int .i64 r.y]) (by simp)).row 1 _ rfl)
    have d0 := cell_regrown ((HK.out.at (B := wD.heap.size) (l := [.string (qN D), .string (qD D)]) (by simp)).row 0 _ rfl)
    have d1 := cell_regrown ((HK.out.at (B := wD.heap.size) (l := [.string (qN D), .string (qD D)]) (by simp)).row 1 _ rfl)
    have g0 := cell_regrown ((HK.out.at (B := wE.heap.size) (l := [.string (qN E), .string (qD E)]) (by simp)).row 0 _ rfl)
    have g1 := cell_regrown ((HK.out.at (B := wE.heap.size) (l := [.string (qN E), .string (qD E)]) (by simp)).row 1 _ rfl)
    have h0 := cell_regrown ((HK.out.at (B := wF.heap.size) (l := [.string (qN F), .string (qD F)]) (by simp)).row 0 _ rfl)
    have h1 := cell_regrown ((HK.out.at (B := wF.heap.size) (l := [.string (qN F), .string (qD F)]) (by simp)).row 1 _ rfl)
    have k0 := cell_regrown ((HK.out.at (B := wZ.heap.size) (l := [.string (qN Z), .string (qD Z)]) (by simp)).row 0 _ rfl)
    have k1 := cell_regrown ((HK.out.at (B := wZ.heap.size) (l := [.string (qN Z), .string (qD Z)]) (by simp)).row 1 _ rfl)
    have c0 := fun d os => Calls.regrown_of (d := d) (os := os) (X1.out (grow (redrawn WZ d) os))
    have c1 := fun d os => Calls.regrown_of (d := d) (os := os) (C1.out _ (HK.out.bw.trans ((below_regrown WZ d os).mono HK.out.bw.size)))
    have c2 := fun d os => Calls.regrown_of (d := d) (os := os) (C2.out _ (HK.out.bw.trans ((below_regrown WZ d os).mono HK.out.bw.size)))
    have c3 := fun d os => Calls.regrown_of (d := d) (os := os) (C3.out _ (HK.out.bw.trans ((below_regrown WZ d os).mono HK.out.bw.size)))
    have c4 := fun d os => Calls.regrown_of (d := d) (os := os) (R1.out (grow (redrawn WZ d) os))
    clear X1 C1 C2 C3 R1 KS Kp Kq Kr Mp Mq Mr D1 D2 D3 D4 D5 R0
    have hcase : (decide (N = 0) = true ∧ D = Z) ∨ (decide (N = 0) = false ∧ ((qN D).toList == (qN Z).toList) = false) ∨ (decide (N = 0) = false ∧ ((qN D).toList == (qN Z).toList) = true ∧ ((qD D).toList == (qD Z).toList) = false) := by
      by_cases hN : N = 0
      · exact .inl ⟨decide_eq_true hN, HZ.out.1.2 hN⟩
      · rcases HZ.out.2 (fun h => hN (HZ.out.1.1 h)) with h | h
        · exact .inr (.inl ⟨decide_eq_false hN, h⟩)
        · exact .inr (.inr ⟨decide_eq_false hN, h⟩)
    clear HZ
    generalize decide (N = 0) = zb at hcase c0
    rcases hcase with ⟨rfl, rfl⟩ | ⟨rfl, h1⟩ | ⟨rfl, h1, h2⟩
    all_goals
      refine wp_region_quiet_below (by kernel_rfl) (by kernel_rfl) ?_
      repeat (go_big_quiet_step (first | with_reducible exact c0 _ _ | with_reducible exact c1 _ _ | with_reducible exact c2 _ _ | with_reducible exact c3 _ _ | with_reducible exact c4 _ _))
      refine wpQuiet_nil ?_
      intro W1 hw'
      have hb1 : Below WZ.heap.size WZ W1 := by obtain ⟨⟨dq, osq⟩, hw''⟩ := hw'; rw [hw'']; exact below_regrown WZ dq osq
      have H1 := Lib.hid (HK.out.bw.trans (hb1.mono HK.out.bw.size))
      clear hw' hb1
      go_wp2
      go_ret
      exact ⟨rfl, H1.out⟩
end Go.Proofs.YtgngepbemgbbeaaGreatDoor

