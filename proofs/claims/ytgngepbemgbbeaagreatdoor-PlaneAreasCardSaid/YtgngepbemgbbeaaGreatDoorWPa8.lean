/-
  Chains of left turns: which they are, what lies on their inner side, and that there is but one. No code of the program is named here.
  Sorting, leaving out equal neighbours, and hulls: a hull depends on which places there are alone, and is its own hull. No code of the program is named here.
  What a hull is: its corners are among the places, no place is outside of an edge, its corners turn left; the hull of a hull is this hull. No code of the program is named here.
  Hulls of lists of places. No code of the program is named here.
  Areas under edges, over fractions: what a polygon covers of a rectangle, as a sum over its edges; parts of rectangles; bounds. No code of the program is named here.
  What the package computes of an edge, as fractions that may be there: it is there, and it is what is under the edge. No code of the program is named here.
  What a polygon covers, as the package computes it: it is there, and it is the sum over the edges; what hulls cover. No code of the program is named here.
  DERIVED: THE SHELF's CONTRACTS AT THIS DUMP, IN PLAIN WORDS (tools/lay-plain.mjs out of 'TryzShelfS.lean', which tools/lay-shelf.mjs wrote): THE SAME DECLARATIONS UNDER THE SAME NAMES: 'import', 'name
  Package plane: the library's sort of places, however many; the order of places as it is called there.
  Package plane: the library's Compact of places, whichever they are.
  Package plane: Hull, of places whichever they are.
  Package plane: Covered, of a polygon that is its own hull, whichever it is.
  PlaneSides, walked: the law answers true.
  What the reference makes of integers: rectangles, lists of places; what the law calls at.
  Arguments of the laws of chapter 07 that lie in memory: slices of pairs of integers; rectangles; what lies in places reads behind the call as it did.
  What PlaneDistances asks of fractions.
  What the law on areas asks, of the hull of places near each other. No code of the program is named here.
  PlaneAreas, walked: the law answers true.
-/
import Derived.Shelf.SlSortCmp.WholeK
import Derived.Lib.SliceRun
import Derived.Carry
import Derived.Deep.Slices
import Derived.Deep.CutRange
import Derived.Test.YtgngepbemgbbeaaGreatDoorZLimQP
import Derived.Test.YtgngepbemgbbeaaGreatDoorProg
import Derived.Test.YtgngepbemgbbeaaGreatDoorZPq
import Derived.Test.YtgngepbemgbbeaaGreatDoorZPr
import Derived.Test.YtgngepbemgbbeaaGreatDoorZPu
import Derived.Test.YtgngepbemgbbeaaGreatDoorZPv
import Derived.Test.YtgngepbemgbbeaaGreatDoorZPw
import Derived.Test.YtgngepbemgbbeaaGreatDoorZQOps
import Derived.Test.YtgngepbemgbbeaaGreatDoorZPlD
import Derived.Test.YtgngepbemgbbeaaGreatDoorZPl6
import Derived.Test.YtgngepbemgbbeaaGreatDoorZPl7
namespace Go.Proofs.YtgngepbemgbbeaaGreatDoor

/-- The place of a place in the order by rows, then by columns. -/
def kp (p : Pl) : Int := p.y * 4096 + p.x
theorem turn_kp (a b c : Pl) : turnP a b c = (kp b - kp a) * (c.y - a.y) - (b.y - a.y) * (kp c - kp a) := by unfold turnP kp; grind
theorem turn_affine (u v a b p : Pl) : (kp b - kp a) * turnP u v p = (kp b - kp p) * turnP u v a + (kp p - kp a) * turnP u v b + (kp v - kp u) * turnP a b p := by unfold turnP kp; grind
theorem turn_aba (a b : Pl) : turnP a b a = 0 := by unfold turnP; grind
theorem turn_abb (a b : Pl) : turnP a b b = 0 := by unfold turnP; grind
theorem turn_aab (a b : Pl) : turnP a a b = 0 := by unfold turnP; grind
/-- How two directions turn. -/
def crE (u v a b : Pl) : Int := (kp v - kp u) * (b.y - a.y) - (v.y - u.y) * (kp b - kp a)
theorem turn_add (u v a b : Pl) : turnP u v b = turnP u v a + crE u v a b := by rw [turn_kp, turn_kp]; unfold crE; grind
theorem crE_add (a b c u v : Pl) : crE a c u v = crE a b u v + crE b c u v := by unfold crE; grind
theorem crE_turn (u v x : Pl) : crE u v v x = turnP u v x := by rw [turn_kp]; unfold crE; grind
theorem crE_trans {a b c d e f : Pl} (h1 : kp a < kp b) (h2 : kp c < kp d) (h3 : kp e < kp f) (k1 : 0 < crE a b c d) (k2 : 0 < crE c d e f) : 0 < crE a b e f := by
  have e1 : (kp d - kp c) * crE a b e f = (kp f - kp e) * crE a b c d + (kp b - kp a) * crE c d e f := by unfold crE; grind
  have p1 := Int.mul_pos (show 0 < kp f - kp e by omega) k1
  have p2 := Int.mul_pos (show 0 < kp b - kp a by omega) k2
  exact Int.pos_of_mul_pos_right (a := kp d - kp c) (by omega) (by omega)
/-- What is above both ends of an edge, and above the edge between them. -/
theorem turn_above {u v a b p : Pl} (hab : kp a < kp b) (huv : kp u < kp v) (h1 : kp a ≤ kp p) (h2 : kp p ≤ kp b) (k1 : 0 ≤ turnP u v a) (k2 : 0 ≤ turnP u v b) (k3 : 0 ≤ turnP a b p) :
    0 ≤ turnP u v p := by
  have e := turn_affine u v a b p
  have p1 := Int.mul_nonneg (show 0 ≤ kp b - kp p by omega) k1
  have p2 := Int.mul_nonneg (show 0 ≤ kp p - kp a by omega) k2
  have p3 := Int.mul_nonneg (show 0 ≤ kp v - kp u by omega) k3
  exact Int.le_of_mul_le_mul_left (a := kp b - kp a) (by omega) (by omega)
/-- .. and where it is on the line. -/
theorem turn_above0 {u v a b p : Pl} (hab : kp a < kp b) (huv : kp u < kp v) (h1 : kp a ≤ kp p) (h2 : kp p ≤ kp b) (k1 : 0 ≤ turnP u v a) (k2 : 0 ≤ turnP u v b) (k3 : 0 ≤ turnP a b p) (k : turnP u v p = 0) :
    (kp p = kp b ∨ turnP u v a = 0) ∧ (kp p = kp a ∨ turnP u v b = 0) := by
  have e := turn_affine u v a b p
  have p1 := Int.mul_nonneg (show 0 ≤ kp b - kp p by omega) k1
  have p2 := Int.mul_nonneg (show 0 ≤ kp p - kp a by omega) k2
  have p3 := Int.mul_nonneg (show 0 ≤ kp v - kp u by omega) k3
  rw [k, Int.mul_zero] at e
  have q1 : (kp b - kp p) * turnP u v a = 0 := by omega
  have q2 : (kp p - kp a) * turnP u v b = 0 := by omega
  rcases Int.mul_eq_zero.1 q1 with q1 | q1 <;> rcases Int.mul_eq_zero.1 q2 with q2 | q2 <;> omega

/-! A chain lies last element first. -/
def edR : List Pl → List (Pl × Pl)
  | b :: a :: l => (a, b) :: edR (a :: l)
  | _ => []
def descL : List Pl → Prop
  | b :: a :: l => kp a < kp b ∧ descL (a :: l)
  | _ => True
def convL : List Pl → Prop
  | c :: b :: a :: l => 0 < turnP a b c ∧ convL (b :: a :: l)
  | _ => True
/-- p is over the chain: in its own interval on the inner side. -/
def covL (p : Pl) : List Pl → Prop
  | b :: a :: l => (kp a ≤ kp p ∧ kp p ≤ kp b ∧ 0 ≤ turnP a b p) ∨ covL p (a :: l)
  | [a] => p = a
  | [] => False
theorem convL_tail {x : Pl} {l : List Pl} (h : convL (x :: l)) : convL l := by
  match l, h with
  | [], _ => trivial
  | [_], _ => trivial
  | _ :: _ :: _, h => exact h.2
theorem descL_tail {x : Pl} {l : List Pl} (h : descL (x :: l)) : descL l := by
  match l, h with
  | [], _ => trivial
  | _ :: _, h => exact h.2
theorem covL_cons {p x : Pl} {l : List Pl} (h : covL p l) : covL p (x :: l) := by
  match l, h with
  | [], h => exact h.elim
  | [_], h => exact .inr h
  | _ :: _ :: _, h => exact .inr h
theorem covL_self (x : Pl) (l : List Pl) (h : ∀ a, l.head? = some a → kp a < kp x) : covL x (x :: l) := by
  match l, h with
  | [], _ => rfl
  | a :: l, h => exact .inl ⟨Int.le_of_lt (h a rfl), Int.le_refl _, by rw [turn_abb]; exact Int.le_refl _⟩
theorem pop_inv (x : Pl) : ∀ r : List Pl, descL r → convL r → (∀ a, r.head? = some a → kp a < kp x) →
    descL (x :: popL leftP x r) ∧ convL (x :: popL leftP x r) ∧ ∀ p, covL p (x :: r) → covL p (x :: popL leftP x r)
  | [], _, _, _ => ⟨trivial, trivial, fun _ h => h⟩
  | [b], _, _, hx => ⟨⟨hx b rfl, trivial⟩, trivial, fun _ h => h⟩
  | b :: a :: l, hd, hc, hx => by
    have hbx := hx b rfl
    have hab := hd.1
    unfold popL
    split
    · rename_i ho
      have ho : 0 < turnP a b x := of_decide_eq_true ho
      exact ⟨⟨hbx, hd⟩, ⟨ho, hc⟩, fun _ h => h⟩
    · rename_i ho
      have ho : turnP a b x ≤ 0 := by
        have : ¬ 0 < turnP a b x := fun h => ho (decide_eq_true h)
        omega
      obtain ⟨h1, h2, h3⟩ := pop_inv x (a :: l) hd.2 (convL_tail hc) (fun c hc => by cases hc; omega)
      refine ⟨h1, h2, fun p hp => h3 p ?_⟩
      have hb : 0 ≤ turnP a x b := by rw [turn_swap2]; omega
      rcases hp with ⟨p1, p2, p3⟩ | hp
      · exact .inl ⟨by omega, p2, turn_above hbx (by omega) p1 p2 hb (by rw [turn_abb]; exact Int.le_refl _) p3⟩
      · rcases hp with ⟨p1, p2, p3⟩ | hp
        · exact .inl ⟨by omega, by omega, turn_above hab (by omega) p1 p2 (by rw [turn_aba]; exact Int.le_refl _) hb p3⟩
        · exact .inr hp
theorem popL_getLast (ok : Pl → Pl → Pl → Bool) (x : Pl) : ∀ r : List Pl, (popL ok x r).getLast? = r.getLast?
  | [] => rfl
  | [_] => rfl
  | b :: a :: l => by
    unfold popL
    split
    · rfl
    · rw [popL_getLast ok x (a :: l)]; simp
theorem popL_sub (ok : Pl → Pl → Pl → Bool) (x : Pl) : ∀ (r : List Pl) (q : Pl), q ∈ popL ok x r → q ∈ r
  | [], _, h => h
  | [_], _, h => h
  | b :: a :: l, q, h => by
    unfold popL at h
    split at h
    · exact h
    · exact List.mem_cons_of_mem _ (popL_sub ok x (a :: l) q h)
/-- The chain goes on. -/
def chainF (ok : Pl → Pl → Pl → Bool) (r l : List Pl) : List Pl := l.foldl (fun out x => x :: popL ok x out) r
theorem chainF_inv : ∀ (l r done : List Pl), descL r → convL r → (∀ p ∈ done, covL p r) → (∀ x ∈ l, ∀ a, r.head? = some a → kp a < kp x) → l.Pairwise (kp · < kp ·) →
    descL (chainF leftP r l) ∧ convL (chainF leftP r l) ∧ ∀ p, p ∈ done ∨ p ∈ l → covL p (chainF leftP r l)
  | [], r, done, hd, hc, hv, _, _ => ⟨hd, hc, fun p hp => by rcases hp with hp | hp; exact hv p hp; cases hp⟩
  | x :: l, r, done, hd, hc, hv, hx, hp => by
    obtain ⟨h1, h2, h3⟩ := pop_inv x r hd hc (hx x (by simp))
    obtain ⟨g1, g2, g3⟩ := chainF_inv l (x :: popL leftP x r) (x :: done) h1 h2 (fun p hp => by
      rcases List.mem_cons.1 hp with rfl | hp
      · exact h3 p (covL_self p r (hx p (by simp)))
      · exact h3 p (covL_cons (hv p hp))) (fun y hy a ha => by cases ha; exact (List.pairwise_cons.1 hp).1 y hy) (List.pairwise_cons.1 hp).2
    refine ⟨g1, g2, fun p hp => g3 p ?_⟩
    rcases hp with hp | hp
    · exact .inl (List.mem_cons_of_mem _ hp)
    · rcases List.mem_cons.1 hp with rfl | hp
      · exact .inl (by simp)
      · exact .inr hp
theorem chainF_sub (ok : Pl → Pl → Pl → Bool) : ∀ (l r : List Pl) (q : Pl), q ∈ chainF ok r l → q ∈ r ∨ q ∈ l
  | [], _, _, h => .inl h
  | x :: l, r, q, h => by
    rcases chainF_sub ok l (x :: popL ok x r) q h with h | h
    · rcases List.mem_cons.1 h with rfl | h
      · exact .inr (by simp)
      · exact .inl (popL_sub ok x r q h)
    · exact .inr (by simp [h])
theorem chainF_last (ok : Pl → Pl → Pl → Bool) : ∀ (l r : List Pl) (a : Pl), r.getLast? = some a → (chainF ok r l).getLast? = some a
  | [], _, _, h => h
  | x :: l, r, a, h => by
    refine chainF_last ok l (x :: popL ok x r) a ?_
    rw [← popL_getLast ok x r] at h
    cases hr : popL ok x r with
    | nil => rw [hr] at h; cases h
    | cons b t => rw [hr] at h; rw [List.getLast?_cons_cons]; exact h
theorem chainF_head (ok : Pl → Pl → Pl → Bool) : ∀ (l r : List Pl), (chainF ok r l).head? = (r.reverse ++ l).getLast?
  | [], r => by show r.head? = _; simp
  | x :: l, r => by
    show (chainF ok (x :: popL ok x r) l).head? = _
    rw [chainF_head ok l]
    simp [List.getLast?_cons]
theorem edR_mem : ∀ (r : List Pl) (e : Pl × Pl), e ∈ edR r → e.1 ∈ r ∧ e.2 ∈ r
  | [], _, h => by cases h
  | [_], _, h => by cases h
  | b :: a :: l, e, h => by
    rcases List.mem_cons.1 h with rfl | h
    · simp
    · have := edR_mem (a :: l) e h
      exact ⟨List.mem_cons_of_mem _ this.1, List.mem_cons_of_mem _ this.2⟩
theorem edR_lt : ∀ (r : List Pl), descL r → ∀ e ∈ edR r, kp e.1 < kp e.2
  | [], _, _, h => by cases h
  | [_], _, _, h => by cases h
  | b :: a :: l, hd, e, h => by
    rcases List.mem_cons.1 h with rfl | h
    · exact hd.1
    · exact edR_lt (a :: l) hd.2 e h
/-- All edges turn the same way, however far they are from each other. -/
def goodL : List Pl → Prop
  | x :: h :: l => kp h < kp x ∧ (∀ e ∈ edR (h :: l), 0 < crE e.1 e.2 h x) ∧ goodL (h :: l)
  | _ => True
theorem good_of : ∀ r : List Pl, descL r → convL r → goodL r
  | [], _, _ => trivial
  | [_], _, _ => trivial
  | [_, _], hd, _ => ⟨hd.1, (fun _ h => by cases h), trivial⟩
  | x :: h :: g :: l, hd, hc => by
    have ih := good_of (h :: g :: l) hd.2 hc.2
    have e1 : 0 < crE g h h x := by rw [crE_turn]; exact hc.1
    refine ⟨hd.1, fun e he => ?_, ih⟩
    rcases List.mem_cons.1 he with rfl | he
    · exact e1
    · exact crE_trans (edR_lt (g :: l) hd.2.2 e he) hd.2.1 hd.1 (ih.2.1 e he) e1
theorem cr_path (u v : Pl) : ∀ (l : List Pl) (h : Pl), (∀ e ∈ edR (h :: l), 0 < crE e.1 e.2 u v) → ∀ c ∈ l, 0 < crE c h u v
  | [], _, _, _, hc => by cases hc
  | g :: l, h, hE, c, hc => by
    have h1 := hE (g, h) (by simp [edR])
    rcases List.mem_cons.1 hc with rfl | hc
    · exact h1
    · have h2 := cr_path u v l g (fun e he => hE e (by simp [edR, he])) c hc
      rw [crE_add c g h u v]
      simp only at h1
      omega
theorem good_edge : ∀ r : List Pl, goodL r → ∀ e ∈ edR r, ∀ c ∈ r, c = e.1 ∨ c = e.2 ∨ 0 < turnP e.1 e.2 c
  | [], _, _, h, _, _ => by cases h
  | [_], _, _, h, _, _ => by cases h
  | x :: h :: l, hg, e, he, c, hc => by
    obtain ⟨h1, h2, h3⟩ := hg
    rcases List.mem_cons.1 he with rfl | he2
    · rcases List.mem_cons.1 hc with rfl | hc
      · exact .inr (.inl rfl)
      · rcases List.mem_cons.1 hc with rfl | hc
        · exact .inl rfl
        · have := cr_path h x l h h2 c hc
          rw [crE_turn, ← turn_cyc] at this
          exact .inr (.inr this)
    · rcases List.mem_cons.1 hc with rfl | hc2
      · refine .inr (.inr ?_)
        rw [turn_add e.1 e.2 h c]
        have k := h2 e he2
        rcases good_edge (h :: l) h3 e he2 h (by simp) with q | q | q
        · have := turn_aba e.1 e.2
          rw [← q] at this
          rw [← q] at k ⊢
          omega
        · have := turn_abb e.1 e.2
          rw [← q] at this
          rw [← q] at k ⊢
          omega
        · omega
      · exact good_edge (h :: l) h3 e he2 c hc2
theorem good_edge0 {r : List Pl} (hg : goodL r) {e : Pl × Pl} (he : e ∈ edR r) {c : Pl} (hc : c ∈ r) : 0 ≤ turnP e.1 e.2 c := by
  rcases good_edge r hg e he c hc with h | h | h
  · rw [h, turn_aba]; exact Int.le_refl _
  · rw [h, turn_abb]; exact Int.le_refl _
  · omega
theorem cov_edge (p : Pl) : ∀ r : List Pl, descL r → covL p r → r = [p] ∨ ∃ e ∈ edR r, kp e.1 ≤ kp p ∧ kp p ≤ kp e.2 ∧ 0 ≤ turnP e.1 e.2 p
  | [], _, h => h.elim
  | [a], _, h => .inl (by rw [show p = a from h])
  | b :: a :: l, hd, h => by
    rcases h with h | h
    · exact .inr ⟨(a, b), by simp [edR], h⟩
    · rcases cov_edge p (a :: l) hd.2 h with h | ⟨e, he, h⟩
      · injection h with h1 h2
        subst h1
        exact .inr ⟨(a, b), by simp [edR], Int.le_refl _, Int.le_of_lt hd.1, by rw [turn_aba]; exact Int.le_refl _⟩
      · exact .inr ⟨e, by simp [edR, he], h⟩
/-- All of s lies on the inner side of each edge, and what lies on its line lies between its ends. -/
def DomL (r s : List Pl) : Prop := ∀ e ∈ edR r, ∀ p ∈ s, 0 < turnP e.1 e.2 p ∨ (turnP e.1 e.2 p = 0 ∧ kp e.1 ≤ kp p ∧ kp p ≤ kp e.2)
theorem cov_dom {r : List Pl} {p : Pl} (hd : descL r) (hg : goodL r) (hc : covL p r) {e : Pl × Pl} (he : e ∈ edR r) : 0 < turnP e.1 e.2 p ∨ (turnP e.1 e.2 p = 0 ∧ kp e.1 ≤ kp p ∧ kp p ≤ kp e.2) := by
  rcases cov_edge p r hd hc with rfl | ⟨⟨a, b⟩, hf, h1, h2, h3⟩
  · cases he
  · simp only at h1 h2 h3
    have hab := edR_lt r hd _ hf
    have huv := edR_lt r hd _ he
    obtain ⟨ma, mb⟩ := edR_mem r _ hf
    simp only at hab ma mb
    have ka := good_edge0 hg he ma
    have kb := good_edge0 hg he mb
    have h0 := turn_above hab huv h1 h2 ka kb h3
    rcases Int.lt_or_eq_of_le h0 with h | h
    · exact .inl h
    · have hz : turnP e.1 e.2 p = 0 := h.symm
      refine .inr ⟨hz, ?_⟩
      obtain ⟨q1, q2⟩ := turn_above0 hab huv h1 h2 ka kb h3 hz
      have ea := good_edge r hg e he a ma
      have eb := good_edge r hg e he b mb
      have ra : turnP e.1 e.2 a = 0 → kp e.1 ≤ kp a ∧ kp a ≤ kp e.2 := fun hz => by
        rcases ea with q | q | q
        · rw [q]; omega
        · rw [q]; omega
        · omega
      have rb : turnP e.1 e.2 b = 0 → kp e.1 ≤ kp b ∧ kp b ≤ kp e.2 := fun hz => by
        rcases eb with q | q | q
        · rw [q]; omega
        · rw [q]; omega
        · omega
      rcases q1 with q1 | q1 <;> rcases q2 with q2 | q2
      · omega
      · have := rb q2; omega
      · have := ra q1; omega
      · have := ra q1; have := rb q2; omega
theorem chainR_F (ok : Pl → Pl → Pl → Bool) (l : List Pl) : chainR ok l = chainF ok [] l := rfl
/-- What the chain of an ascending list is. -/
structure ChainOf (r s : List Pl) : Prop where
  desc : descL r
  good : goodL r
  dom : DomL r s
  sub : ∀ q ∈ r, q ∈ s
  head : r.head? = s.getLast?
  last : r.getLast? = s.head?
theorem chain_of (l : List Pl) (hs : l.Pairwise (kp · < kp ·)) : ChainOf (chainR leftP l) l := by
  rw [chainR_F]
  obtain ⟨h1, h2, h3⟩ := chainF_inv l [] [] trivial trivial (fun _ h => by cases h) (fun _ _ _ h => by cases h) hs
  have hg := good_of _ h1 h2
  refine ⟨h1, hg, fun e he p hp => cov_dom h1 hg (h3 p (.inr hp)) he, fun q hq => ?_, by rw [chainF_head]; rfl, ?_⟩
  · rcases chainF_sub leftP l [] q hq with h | h
    · cases h
    · exact h
  · cases l with
    | nil => rfl
    | cons x l => exact chainF_last leftP l [x] x rfl
theorem desc_head : ∀ (l : List Pl) (x : Pl), descL (x :: l) → ∀ y ∈ l, kp y < kp x
  | [], _, _, _, h => by cases h
  | z :: l, x, hd, y, h => by
    rcases List.mem_cons.1 h with rfl | h
    · exact hd.1
    · have := desc_head l z hd.2 y h
      have := hd.1
      omega
theorem DomL.tail {x : Pl} {l s s' : List Pl} (h : DomL (x :: l) s) (hs : ∀ q ∈ s', q ∈ s) : DomL l s' := fun e he p hp => h e (by
  cases l with
  | nil => cases he
  | cons _ l => exact List.mem_cons_of_mem _ he) p (hs p hp)
/-- Two chains with the same ends that lie on each other's inner sides are one. -/
theorem chain_uniq : ∀ r r' : List Pl, descL r → descL r' → r.head? = r'.head? → r.getLast? = r'.getLast? → DomL r r' → DomL r' r → (∀ a ∈ r, ∀ b ∈ r', kp a = kp b → a = b) → r = r'
  | [], [], _, _, _, _, _, _, _ => rfl
  | [], _ :: _, _, _, h, _, _, _, _ => by cases h
  | _ :: _, [], _, _, h, _, _, _, _ => by cases h
  | [x], [y], _, _, h, _, _, _, _ => by cases h; rfl
  | [x], y :: z :: l, _, hd, h, hl, _, _, _ => by
    cases h
    rw [List.getLast?_cons_cons] at hl
    have hm : x ∈ z :: l := List.mem_of_getLast? hl.symm
    have := desc_head _ _ hd x hm
    omega
  | y :: z :: l, [x], hd, _, h, hl, _, _, _ => by
    cases h
    rw [List.getLast?_cons_cons] at hl
    have hm : y ∈ z :: l := List.mem_of_getLast? hl
    have := desc_head _ _ hd y hm
    omega
  | x :: h :: l, x' :: h' :: l', hd, hd', hh, hl, h1, h2, hi => by
    cases hh
    have k1 := h1 (h, x) (by simp [edR]) h' (by simp)
    have k2 := h2 (h', x) (by simp [edR]) h (by simp)
    simp only at k1 k2
    have e : turnP h' x h = -turnP h x h' := by unfold turnP; grind
    rw [e] at k2
    have heq : h = h' := hi h (by simp) h' (by simp) (by omega)
    subst heq
    rw [List.getLast?_cons_cons, List.getLast?_cons_cons] at hl
    rw [chain_uniq (h :: l) (h :: l') hd.2 hd'.2 rfl hl (fun e he p hp => h1 e (by simp [edR, he]) p (List.mem_cons_of_mem _ hp)) (fun e he p hp => h2 e (by simp [edR, he]) p (List.mem_cons_of_mem _ hp)) (fun a ha b hb => hi a (List.mem_cons_of_mem _ ha) b (List.mem_cons_of_mem _ hb))]
/-! The way back: all of it turned around. -/
def ngP (p : Pl) : Pl := ⟨-p.x, -p.y⟩
theorem kp_ng (p : Pl) : kp (ngP p) = -kp p := by unfold kp ngP; simp only; omega
theorem turn_ng (a b c : Pl) : turnP (ngP a) (ngP b) (ngP c) = turnP a b c := by unfold turnP ngP; grind
theorem ng_ng (p : Pl) : ngP (ngP p) = p := by unfold ngP; simp
theorem left_ng (a b c : Pl) : leftP (ngP a) (ngP b) (ngP c) = leftP a b c := by unfold leftP; rw [turn_ng]
theorem popL_ng (x : Pl) : ∀ r : List Pl, popL leftP (ngP x) (r.map ngP) = (popL leftP x r).map ngP
  | [] => rfl
  | [_] => rfl
  | b :: a :: l => by
    show popL leftP (ngP x) (ngP b :: ngP a :: l.map ngP) = _
    unfold popL
    rw [left_ng]
    split
    · rfl
    · exact popL_ng x (a :: l)
theorem chainF_ng : ∀ l r : List Pl, chainF leftP (r.map ngP) (l.map ngP) = (chainF leftP r l).map ngP
  | [], _ => rfl
  | x :: l, r => by
    show chainF leftP (ngP x :: popL leftP (ngP x) (r.map ngP)) (l.map ngP) = _
    rw [popL_ng]
    exact chainF_ng l (x :: popL leftP x r)
theorem chainR_ng (l : List Pl) : chainR leftP (l.map ngP) = (chainR leftP l).map ngP := chainF_ng l []
theorem edR_map (f : Pl → Pl) : ∀ r : List Pl, edR (r.map f) = (edR r).map fun e => (f e.1, f e.2)
  | [] => rfl
  | [_] => rfl
  | b :: a :: l => by
    show (f a, f b) :: edR ((a :: l).map f) = _
    rw [edR_map f (a :: l)]
    rfl
end Go.Proofs.YtgngepbemgbbeaaGreatDoor

namespace Go.Proofs.YtgngepbemgbbeaaGreatDoor

section
variable {α : Type} [Inhabited α] (lt : α → α → Bool)
def insR (x : α) : List α → List α
  | [] => [x]
  | b :: r => if lt x b then b :: insR x r else x :: b :: r
theorem swpN_at (p post : List α) (b x : α) : swpN (p ++ b :: x :: post) p.length = p ++ x :: b :: post := by
  unfold swpN
  simp
theorem innerN_at (x : α) : ∀ (r post : List α), innerN lt (r.reverse ++ x :: post) r.length = (insR lt x r).reverse ++ post
  | [], _ => rfl
  | b :: r, post => by
    have e : (b :: r).reverse ++ x :: post = r.reverse ++ b :: x :: post := by simp
    have h1 : (r.reverse ++ b :: x :: post)[r.length + 1]?.getD default = x := by simp
    have h0 : (r.reverse ++ b :: x :: post)[r.length]?.getD default = b := by simp
    rw [e]
    show innerN lt _ (r.length + 1) = _
    unfold innerN insR
    rw [h1, h0]
    split
    · have hs := swpN_at r.reverse post b x
      rw [List.length_reverse] at hs
      rw [hs, innerN_at x r (b :: post)]
      simp
    · simp
theorem outN_at : ∀ (rest r : List α), outN lt (r.reverse ++ rest) r.length rest.length = (rest.foldl (fun r x => insR lt x r) r).reverse
  | [], r => by simp [outN]
  | x :: rest, r => by
    show outN lt (innerN lt (r.reverse ++ x :: rest) r.length) (r.length + 1) rest.length = _
    rw [innerN_at]
    have hl : (insR lt x r).length = r.length + 1 := by
      have := innerN_length lt (r.reverse ++ x :: rest) r.length
      rw [innerN_at] at this
      simp at this
      omega
    rw [← hl, outN_at rest (insR lt x r)]
    rfl
theorem sortN_at (a : α) (l : List α) : sortN lt (a :: l) = (l.foldl (fun r x => insR lt x r) [a]).reverse := by
  unfold sortN
  exact outN_at lt l [a]
omit [Inhabited α] in
theorem insR_perm (x : α) : ∀ r : List α, (insR lt x r).Perm (x :: r)
  | [] => .refl _
  | b :: r => by
    unfold insR
    split
    · exact (List.Perm.cons b (insR_perm x r)).trans (.swap x b r)
    · exact .refl _
variable {lt} (hirr : ∀ x y, lt x y = true → lt y x = false) (hnt : ∀ x y z, lt x y = false → lt y z = false → lt x z = false)
include hirr hnt
omit [Inhabited α] in
theorem insR_sorted (x : α) : ∀ r : List α, r.Pairwise (fun a b => lt a b = false) → (insR lt x r).Pairwise (fun a b => lt a b = false)
  | [], _ => by simp [insR]
  | b :: r, h => by
    obtain ⟨h1, h2⟩ := List.pairwise_cons.1 h
    unfold insR
    split
    · rename_i hx
      refine List.pairwise_cons.2 ⟨fun y hy => ?_, insR_sorted x r h2⟩
      rcases List.mem_cons.1 ((insR_perm lt x r).mem_iff.1 hy) with rfl | hy
      · exact hirr _ _ hx
      · exact h1 y hy
    · rename_i hx
      have hx : lt x b = false := by simpa using hx
      refine List.pairwise_cons.2 ⟨fun y hy => ?_, h⟩
      rcases List.mem_cons.1 hy with rfl | hy
      · exact hx
      · exact hnt _ _ _ hx (h1 y hy)
omit [Inhabited α] in
theorem fold_sorted : ∀ l r : List α, r.Pairwise (fun a b => lt a b = false) → (l.foldl (fun r x => insR lt x r) r).Pairwise (fun a b => lt a b = false) ∧ (l.foldl (fun r x => insR lt x r) r).Perm (l ++ r)
  | [], r, h => ⟨h, .refl _⟩
  | x :: l, r, h => by
    obtain ⟨h1, h2⟩ := fold_sorted l (insR lt x r) (insR_sorted hirr hnt x r h)
    refine ⟨h1, h2.trans ?_⟩
    exact ((List.Perm.append_left l (insR_perm lt x r)).trans List.perm_middle)
theorem sortN_sorted (l : List α) : (sortN lt l).Pairwise (fun a b => lt b a = false) ∧ (sortN lt l).Perm l := by
  cases l with
  | nil => exact ⟨by simp [sortN, outN], by simp [sortN, outN]⟩
  | cons a l =>
    rw [sortN_at]
    obtain ⟨h1, h2⟩ := fold_sorted hirr hnt l [a] (by simp)
    refine ⟨List.pairwise_reverse.2 h1, (List.reverse_perm _).trans (h2.trans ?_)⟩
    exact List.perm_append_comm.trans (.refl _)
end

theorem ltP_iff {a b : Pl} (ha : vP a = true) (hb : vP b = true) : ltP a b = true ↔ kp a < kp b := by
  unfold vP at ha hb
  simp only [Bool.and_eq_true, decide_eq_true_eq] at ha hb
  unfold ltP kp
  simp only [Bool.or_eq_true, Bool.and_eq_true, decide_eq_true_eq]
  omega
theorem kp_inj {a b : Pl} (ha : vP a = true) (hb : vP b = true) (h : kp a = kp b) : a = b := by
  unfold vP at ha hb
  simp only [Bool.and_eq_true, decide_eq_true_eq] at ha hb
  unfold kp at h
  have h1 : a.x = b.x := by omega
  have h2 : a.y = b.y := by omega
  cases a
  cases b
  simp only at h1 h2
  rw [h1, h2]
theorem ltP_irr (x y : Pl) (h : ltP x y = true) : ltP y x = false := by
  unfold ltP at *
  simp only [Bool.or_eq_true, Bool.and_eq_true, decide_eq_true_eq, Bool.or_eq_false_iff, Bool.and_eq_false_iff, decide_eq_false_iff_not] at *
  omega
theorem ltP_nt (x y z : Pl) (h : ltP x y = false) (k : ltP y z = false) : ltP x z = false := by
  unfold ltP at *
  simp only [Bool.or_eq_false_iff, Bool.and_eq_false_iff, decide_eq_false_iff_not] at *
  omega
abbrev Asc (l : List Pl) : Prop := l.Pairwise (kp · < kp ·)
theorem compactL_asc : ∀ l : List Pl, (∀ p ∈ l, vP p = true) → l.Pairwise (kp · ≤ kp ·) → Asc (compactL l) ∧ ∀ q, q ∈ compactL l ↔ q ∈ l
  | [], _, _ => ⟨List.Pairwise.nil, fun _ => Iff.rfl⟩
  | [x], _, _ => ⟨by simp [compactL], fun _ => Iff.rfl⟩
  | x :: y :: l, hv, h => by
    obtain ⟨h1, h2⟩ := List.pairwise_cons.1 h
    obtain ⟨k1, k2⟩ := compactL_asc (y :: l) (fun p hp => hv p (List.mem_cons_of_mem _ hp)) h2
    unfold compactL
    split
    · rename_i hxy
      subst hxy
      exact ⟨k1, fun q => (k2 q).trans (by simp)⟩
    · rename_i hxy
      refine ⟨List.pairwise_cons.2 ⟨fun q hq => ?_, k1⟩, fun q => by rw [List.mem_cons, k2 q]; exact List.mem_cons.symm⟩
      have hlt : kp x < kp y := by
        have := h1 y (by simp)
        rcases Int.lt_or_eq_of_le this with h | h
        · exact h
        · exact absurd (kp_inj (hv x (by simp)) (hv y (by simp)) h) hxy
      rcases List.mem_cons.1 ((k2 q).1 hq) with rfl | hq
      · exact hlt
      · have := (List.pairwise_cons.1 h2).1 q hq
        omega
/-- The places in order, each once. -/
def sP (l : List Pl) : List Pl := compactL (sortN ltP l)
theorem sP_asc {l : List Pl} (hv : ∀ p ∈ l, vP p = true) : Asc (sP l) ∧ ∀ q, q ∈ sP l ↔ q ∈ l := by
  obtain ⟨h1, h2⟩ := sortN_sorted (lt := ltP) ltP_irr ltP_nt l
  have hv' : ∀ p ∈ sortN ltP l, vP p = true := fun p hp => hv p (h2.mem_iff.1 hp)
  obtain ⟨k1, k2⟩ := compactL_asc (sortN ltP l) hv' (h1.imp_of_mem fun {a b} ha hb hab => by
    have : ¬ kp b < kp a := fun h => by
      rw [(ltP_iff (hv' b hb) (hv' a ha)).2 h] at hab
      cases hab
    omega)
  exact ⟨k1, fun q => (k2 q).trans h2.mem_iff⟩
/-- Ascending lists of the same places are one. -/
theorem asc_uniq : ∀ l l' : List Pl, Asc l → Asc l' → (∀ q, q ∈ l ↔ q ∈ l') → l = l'
  | [], [], _, _, _ => rfl
  | [], y :: _, _, _, h => by have := (h y).2 (by simp); cases this
  | x :: _, [], _, _, h => by have := (h x).1 (by simp); cases this
  | x :: l, y :: l', h1, h2, h => by
    obtain ⟨a1, a2⟩ := List.pairwise_cons.1 h1
    obtain ⟨b1, b2⟩ := List.pairwise_cons.1 h2
    have hxy : x = y := by
      rcases List.mem_cons.1 ((h x).1 (by simp)) with e | hx
      · exact e
      · rcases List.mem_cons.1 ((h y).2 (by simp)) with e | hy
        · exact e.symm
        · have := a1 y hy
          have := b1 x hx
          omega
    subst hxy
    rw [asc_uniq l l' a2 b2 fun q => ⟨fun hq => by
      rcases List.mem_cons.1 ((h q).1 (List.mem_cons_of_mem _ hq)) with rfl | h'
      · have := a1 q hq; omega
      · exact h', fun hq => by
      rcases List.mem_cons.1 ((h q).2 (List.mem_cons_of_mem _ hq)) with rfl | h'
      · have := b1 q hq; omega
      · exact h'⟩]
/-- A sorted list with equal neighbours left out: whichever way it was sorted. -/
theorem sP_of {l t : List Pl} (hv : ∀ p ∈ l, vP p = true) (hm : ∀ q, q ∈ t ↔ q ∈ l) (hs : t.Pairwise (fun a b => ltP b a = false)) : compactL t = sP l := by
  have hv' : ∀ p ∈ t, vP p = true := fun p hp => hv p ((hm p).1 hp)
  obtain ⟨k1, k2⟩ := compactL_asc t hv' (hs.imp_of_mem fun {a b} ha hb hab => by
    have : ¬ kp b < kp a := fun h => by
      rw [(ltP_iff (hv' b hb) (hv' a ha)).2 h] at hab
      cases hab
    omega)
  obtain ⟨j1, j2⟩ := sP_asc hv
  exact asc_uniq _ _ k1 j1 fun q => ((k2 q).trans (hm q)).trans (j2 q).symm
theorem sP_same {l l' : List Pl} (hv : ∀ p ∈ l, vP p = true) (h : ∀ q, q ∈ l' ↔ q ∈ l) : sP l' = sP l := by
  obtain ⟨j1, j2⟩ := sP_asc hv
  obtain ⟨k1, k2⟩ := sP_asc (l := l') (fun p hp => hv p ((h p).1 hp))
  exact asc_uniq _ _ k1 j1 fun q => ((k2 q).trans (h q)).trans (j2 q).symm
theorem asc_self {l : List Pl} (hv : ∀ p ∈ l, vP p = true) (h : Asc l) : sP l = l := by
  obtain ⟨j1, j2⟩ := sP_asc hv
  exact asc_uniq _ _ j1 h j2
theorem hullL_sP (l : List Pl) : hullL l = if (sP l).length < 3 then sP l else (chainL leftP (sP l)).dropLast ++ (chainL leftP (sP l).reverse).dropLast := rfl
theorem hullL_two {l : List Pl} (h : 2 ≤ (sP l).length) : hullL l = (chainL leftP (sP l)).dropLast ++ (chainL leftP (sP l).reverse).dropLast := by
  rw [hullL_sP]
  by_cases h3 : (sP l).length < 3
  · rw [if_pos h3]
    match hs : sP l, h, h3 with
    | [], h, _ => simp at h
    | [_], h, _ => simp at h
    | [a, b], _, _ => rfl
    | _ :: _ :: _ :: _, _, h => simp at h; omega
  · rw [if_neg h3]
/-- The hull hangs on which places there are, and on nothing else. -/
theorem hullL_same {l l' : List Pl} (hv : ∀ p ∈ l, vP p = true) (h : ∀ q, q ∈ l' ↔ q ∈ l) : hullL l' = hullL l := by rw [hullL_sP, hullL_sP, sP_same hv h]
end Go.Proofs.YtgngepbemgbbeaaGreatDoor

namespace Go.Proofs.YtgngepbemgbbeaaGreatDoor

theorem asc_head : ∀ {s : List Pl} {m : Pl}, Asc s → s.head? = some m → ∀ p ∈ s, kp m ≤ kp p
  | x :: s, m, h, hm, p, hp => by
    cases hm
    rcases List.mem_cons.1 hp with rfl | hp
    · exact Int.le_refl _
    · exact Int.le_of_lt ((List.pairwise_cons.1 h).1 p hp)
theorem asc_last {s : List Pl} {m : Pl} (h : Asc s) (hm : s.getLast? = some m) : ∀ p ∈ s, kp p ≤ kp m := by
  rcases List.eq_nil_or_concat s with rfl | ⟨k, x, rfl⟩
  · cases hm
  · rw [List.concat_eq_append, List.getLast?_append] at hm
    cases hm
    intro p hp
    rw [List.concat_eq_append] at hp h
    rcases List.mem_append.1 hp with hp | hp
    · exact Int.le_of_lt ((List.pairwise_append.1 h).2.2 p hp _ (by simp))
    · rw [List.mem_singleton.1 hp]; exact Int.le_refl _
theorem edR_pred : ∀ (r : List Pl) (c : Pl), c ∈ r → r.getLast? ≠ some c → ∃ a, (a, c) ∈ edR r
  | [], _, h, _ => by cases h
  | [x], c, h, hl => by
    rcases List.mem_cons.1 h with rfl | h
    · exact absurd rfl hl
    · cases h
  | b :: a :: l, c, h, hl => by
    rcases List.mem_cons.1 h with rfl | h
    · exact ⟨a, by simp [edR]⟩
    · rw [List.getLast?_cons_cons] at hl
      obtain ⟨d, hd⟩ := edR_pred (a :: l) c h hl
      exact ⟨d, by simp [edR, hd]⟩
theorem asc_ng {s : List Pl} (h : Asc s) : Asc (s.map ngP).reverse := by
  refine List.pairwise_reverse.2 (List.pairwise_map.2 (h.imp ?_))
  intro a b hab
  rw [kp_ng, kp_ng]
  omega
theorem map_ng_ng (s : List Pl) : (s.map ngP).map ngP = s := by
  rw [List.map_map]
  conv => rhs; rw [← List.map_id s]
  exact List.map_congr_left fun p _ => ng_ng p
/-- The chain down of s, and the one up. -/
structure Pair (r r' s : List Pl) : Prop where
  asc : Asc s
  one : ChainOf r s
  two : ChainOf (r'.map ngP) (s.map ngP).reverse
theorem pair_of {s : List Pl} (h : Asc s) : Pair (chainR leftP s) (chainR leftP s.reverse) s := by
  refine ⟨h, chain_of s h, ?_⟩
  rw [← chainR_ng, List.map_reverse]
  exact chain_of _ (asc_ng h)
theorem Pair.sym {r r' s : List Pl} (h : Pair r r' s) : Pair (r'.map ngP) (r.map ngP) (s.map ngP).reverse := by
  refine ⟨asc_ng h.asc, h.two, ?_⟩
  rw [map_ng_ng, List.map_reverse, map_ng_ng, List.reverse_reverse]
  exact h.one
theorem up_mem {r' : List Pl} {e : Pl × Pl} (he : e ∈ edR r') : (ngP e.1, ngP e.2) ∈ edR (r'.map ngP) := by
  rw [edR_map]
  exact List.mem_map_of_mem he
section
variable {r r' s : List Pl} (h : Pair r r' s)
include h
theorem Pair.up_lt {e : Pl × Pl} (he : e ∈ edR r') : kp e.2 < kp e.1 := by
  have := edR_lt _ h.two.desc _ (up_mem he)
  simp only [kp_ng] at this
  omega
theorem Pair.up_dom {e : Pl × Pl} (he : e ∈ edR r') {p : Pl} (hp : p ∈ s) : 0 < turnP e.1 e.2 p ∨ (turnP e.1 e.2 p = 0 ∧ kp e.2 ≤ kp p ∧ kp p ≤ kp e.1) := by
  have := h.two.dom _ (up_mem he) (ngP p) (List.mem_reverse.2 (List.mem_map_of_mem hp))
  simp only [kp_ng, turn_ng] at this
  omega
theorem Pair.up_sub {q : Pl} (hq : q ∈ r') : q ∈ s := by
  have := List.mem_reverse.1 (h.two.sub (ngP q) (List.mem_map_of_mem hq))
  obtain ⟨p, hp, e⟩ := List.mem_map.1 this
  have e2 := congrArg ngP e
  rw [ng_ng, ng_ng] at e2
  rwa [← e2]
theorem Pair.up_good {e : Pl × Pl} (he : e ∈ edR r') {c : Pl} (hc : c ∈ r') : c = e.1 ∨ c = e.2 ∨ 0 < turnP e.1 e.2 c := by
  have := good_edge _ h.two.good _ (up_mem he) (ngP c) (List.mem_map_of_mem hc)
  simp only [turn_ng] at this
  rcases this with q | q | q
  · exact .inl (by rw [← ng_ng c, q, ng_ng])
  · exact .inr (.inl (by rw [← ng_ng c, q, ng_ng]))
  · exact .inr (.inr q)
theorem Pair.up_head : r'.head? = s.head? := by
  have := h.two.head
  rw [List.getLast?_reverse, List.head?_map, List.head?_map] at this
  cases hr : r'.head? <;> cases hs : s.head? <;> rw [hr, hs] at this <;> simp at this ⊢
  have := congrArg ngP this
  rwa [ng_ng, ng_ng] at this
theorem Pair.up_last : r'.getLast? = s.getLast? := by
  have := h.two.last
  rw [List.head?_reverse, List.getLast?_map, List.getLast?_map] at this
  cases hr : r'.getLast? <;> cases hs : s.getLast? <;> rw [hr, hs] at this <;> simp at this ⊢
  have := congrArg ngP this
  rwa [ng_ng, ng_ng] at this
/-- No corner of the chain up lies on an edge of the chain down, but at its ends. -/
theorem Pair.cross (hv : ∀ p ∈ s, ∀ q ∈ s, kp p = kp q → p = q) {e : Pl × Pl} (he : e ∈ edR r) {c : Pl} (hc : c ∈ r') : c = e.1 ∨ c = e.2 ∨ 0 < turnP e.1 e.2 c := by
  have hcs := h.up_sub hc
  have hm := edR_mem r e he
  have m1 := h.one.sub _ hm.1
  have m2 := h.one.sub _ hm.2
  rcases h.one.dom e he c hcs with k | ⟨k, k1, k2⟩
  · exact .inr (.inr k)
  · by_cases e1 : c = e.1
    · exact .inl e1
    by_cases e2 : c = e.2
    · exact .inr (.inl e2)
    exfalso
    have n1 : kp e.1 ≠ kp c := fun x => e1 (hv _ m1 _ hcs x).symm
    have n2 : kp c ≠ kp e.2 := fun x => e2 (hv _ hcs _ m2 x)
    have hl : r'.getLast? ≠ some c := fun x => by
      rw [h.up_last] at x
      have := asc_last h.asc x _ m2
      omega
    obtain ⟨a, ha⟩ := edR_pred r' c hc hl
    have q1 := h.up_dom ha m1
    have q2 := h.up_dom ha m2
    have q3 := h.up_lt ha
    simp only at q1 q2 q3
    have id := turn_affine a c e.1 e.2 c
    rw [turn_abb, k] at id
    have p1 := Int.mul_pos (show 0 < kp e.2 - kp c by omega) (show 0 < turnP a c e.1 by omega)
    have p2 := Int.mul_nonneg (show 0 ≤ kp c - kp e.1 by omega) (show 0 ≤ turnP a c e.2 by omega)
    omega
/-- A corner of both chains is an end of both. -/
theorem Pair.apart {c : Pl} (hc : c ∈ r) (hc' : c ∈ r') (h1 : r.getLast? ≠ some c) (h2 : r'.getLast? ≠ some c) : False := by
  obtain ⟨a, ha⟩ := edR_pred r c hc h1
  obtain ⟨b, hb⟩ := edR_pred r' c hc' h2
  have k1 := h.one.dom _ ha b (h.up_sub (edR_mem r' _ hb).1)
  have k2 := h.up_dom hb (h.one.sub _ (edR_mem r _ ha).1)
  have k3 := h.up_lt hb
  have k4 := edR_lt _ h.one.desc _ ha
  simp only at k1 k2 k3 k4
  have e : turnP b c a = -turnP a c b := by unfold turnP; grind
  omega
end
theorem Pair.cross2 {r r' s : List Pl} (h : Pair r r' s) (hv : ∀ p ∈ s, ∀ q ∈ s, kp p = kp q → p = q) {e : Pl × Pl} (he : e ∈ edR r') {c : Pl} (hc : c ∈ r) : c = e.1 ∨ c = e.2 ∨ 0 < turnP e.1 e.2 c := by
  have := h.sym.cross (fun p hp q hq hk => by
    obtain ⟨p', hp', rfl⟩ := List.mem_map.1 (List.mem_reverse.1 hp)
    obtain ⟨q', hq', rfl⟩ := List.mem_map.1 (List.mem_reverse.1 hq)
    rw [kp_ng, kp_ng] at hk
    rw [hv p' hp' q' hq' (by omega)]) (up_mem he) (List.mem_map_of_mem hc)
  simp only [turn_ng] at this
  rcases this with q | q | q
  · exact .inl (by rw [← ng_ng c, q, ng_ng])
  · exact .inr (.inl (by rw [← ng_ng c, q, ng_ng]))
  · exact .inr (.inr q)
/-! Edges in the order of the list. -/
def edF : List Pl → List (Pl × Pl)
  | a :: b :: l => (a, b) :: edF (b :: l)
  | _ => []
theorem edF_zip (y : Pl) : ∀ (t : List Pl) (x : Pl), edF (x :: (t ++ [y])) = (x :: t).zip (t ++ [y])
  | [], _ => rfl
  | z :: t, x => by
    show (x, z) :: edF (z :: (t ++ [y])) = _
    rw [edF_zip y t z]
    rfl
theorem edgesL_F (x : Pl) (t : List Pl) : edgesL (x :: t) = edF (x :: (t ++ [x])) := by
  rw [edF_zip]
  rfl
theorem edF_append (b : Pl) (C : List Pl) : ∀ A : List Pl, edF (A ++ b :: C) = edF (A ++ [b]) ++ edF (b :: C)
  | [] => rfl
  | [a] => rfl
  | a :: a' :: A => by
    show (a, a') :: edF ((a' :: A) ++ b :: C) = (a, a') :: edF ((a' :: A) ++ [b]) ++ _
    rw [edF_append b C (a' :: A)]
    rfl
theorem edF_rev : ∀ (r : List Pl) (e : Pl × Pl), e ∈ edF r.reverse ↔ e ∈ edR r
  | [], _ => Iff.rfl
  | [_], _ => Iff.rfl
  | b :: a :: l, e => by
    have e1 : (b :: a :: l).reverse = l.reverse ++ a :: [b] := by simp
    rw [e1, edF_append, List.mem_append]
    have e2 : l.reverse ++ [a] = (a :: l).reverse := by simp
    rw [e2, edF_rev (a :: l) e]
    show e ∈ edR (a :: l) ∨ e ∈ [(a, b)] ↔ e ∈ (a, b) :: edR (a :: l)
    simp only [List.mem_cons, List.not_mem_nil, or_false]
    exact Or.comm
theorem nodup_rev {l : List Pl} (h : l.Nodup) : l.reverse.Nodup := List.pairwise_reverse.2 (h.imp fun hne e => hne e.symm)
/-- What a hull is. -/
structure HullOf (h s : List Pl) : Prop where
  sub : ∀ q ∈ h, q ∈ s
  nodup : h.Nodup
  head : h.head? = s.head?
  edge : ∀ e ∈ edgesL h, ∀ p ∈ s, 0 < turnP e.1 e.2 p ∨ (turnP e.1 e.2 p = 0 ∧ min (kp e.1) (kp e.2) ≤ kp p ∧ kp p ≤ max (kp e.1) (kp e.2))
  vert : ∀ e ∈ edgesL h, ∀ c ∈ h, c = e.1 ∨ c = e.2 ∨ 0 < turnP e.1 e.2 c
theorem desc_nodup : ∀ r : List Pl, descL r → r.Nodup
  | [], _ => List.nodup_nil
  | x :: l, h => List.nodup_cons.2 ⟨fun hx => by have := desc_head l x h x hx; omega, desc_nodup l (descL_tail h)⟩
/-- The two chains of at least two places, taken apart. -/
theorem pair_parts {r r' s : List Pl} (h : Pair r r' s) (h2 : 2 ≤ s.length) : ∃ lo hi t t', r = hi :: t ∧ r' = lo :: t' ∧ s.head? = some lo ∧ s.getLast? = some hi ∧ kp lo < kp hi ∧ t.getLast? = some lo ∧ t'.getLast? = some hi := by
  obtain ⟨lo, s', hs⟩ : ∃ lo s', s = lo :: s' := by
    cases s with
    | nil => simp at h2
    | cons lo s' => exact ⟨lo, s', rfl⟩
  obtain ⟨hi, hhi⟩ : ∃ hi, s.getLast? = some hi := by
    rw [hs]
    exact ⟨_, List.getLast?_cons⟩
  have hlo : s.head? = some lo := by rw [hs]; rfl
  have hne : kp lo < kp hi := by
    have hs2 : s' ≠ [] := by rintro rfl; rw [hs] at h2; simp at h2
    have hm : hi ∈ s' := by
      rw [hs] at hhi
      cases s' with
      | nil => exact absurd rfl hs2
      | cons a s' => rw [List.getLast?_cons_cons] at hhi; exact List.mem_of_getLast? hhi
    have := h.asc
    rw [hs] at this
    exact (List.pairwise_cons.1 this).1 hi hm
  have hd := h.one.head
  have hl := h.one.last
  have ud := h.up_head
  have ul := h.up_last
  rw [hhi] at hd
  rw [hlo] at hl
  rw [hlo] at ud
  rw [hhi] at ul
  cases r with
  | nil => cases hd
  | cons a t =>
    cases hd
    cases r' with
    | nil => cases ud
    | cons b t' =>
      cases ud
      refine ⟨lo, hi, t, t', rfl, rfl, hlo, hhi, hne, ?_, ?_⟩
      · cases t with
        | nil => simp at hl; rw [hl] at hne; omega
        | cons c t => rw [List.getLast?_cons_cons] at hl; exact hl
      · cases t' with
        | nil => simp at ul; rw [ul] at hne; omega
        | cons c t' => rw [List.getLast?_cons_cons] at ul; exact ul
theorem hull_pair {r r' s : List Pl} (h : Pair r r' s) (h2 : 2 ≤ s.length) (hv : ∀ p ∈ s, ∀ q ∈ s, kp p = kp q → p = q) : HullOf (r.reverse.dropLast ++ r'.reverse.dropLast) s ∧ (∀ e ∈ edgesL (r.reverse.dropLast ++ r'.reverse.dropLast), e ∈ edR r ∨ e ∈ edR r') ∧ ∀ q, q ∈ r.reverse.dropLast ++ r'.reverse.dropLast ↔ q ∈ r ∨ q ∈ r' := by
  obtain ⟨lo, hi, t, t', e1, e2, hlo, hhi, hne, ht, ht'⟩ := pair_parts h h2
  have hr : r.reverse.dropLast = t.reverse := by rw [e1, List.reverse_cons, List.dropLast_concat]
  have hr' : r'.reverse.dropLast = t'.reverse := by rw [e2, List.reverse_cons, List.dropLast_concat]
  rw [hr, hr']
  have hth : t.reverse.head? = some lo := by rw [List.head?_reverse, ht]
  have hth' : t'.reverse.head? = some hi := by rw [List.head?_reverse, ht']
  obtain ⟨T, hT⟩ : ∃ T, t.reverse = lo :: T := by
    cases hh : t.reverse with
    | nil => rw [hh] at hth; cases hth
    | cons a T => rw [hh] at hth; cases hth; exact ⟨T, rfl⟩
  obtain ⟨T', hT'⟩ : ∃ T', t'.reverse = hi :: T' := by
    cases hh : t'.reverse with
    | nil => rw [hh] at hth'; cases hth'
    | cons a T => rw [hh] at hth'; cases hth'; exact ⟨T, rfl⟩
  have hmem : ∀ q, q ∈ t.reverse ++ t'.reverse ↔ q ∈ r ∨ q ∈ r' := by
    intro q
    have hl : lo ∈ t := List.mem_of_getLast? ht
    have hh : hi ∈ t' := List.mem_of_getLast? ht'
    rw [e1, e2, List.mem_append, List.mem_reverse, List.mem_reverse, List.mem_cons, List.mem_cons]
    constructor
    · rintro (k | k)
      · exact .inl (.inr k)
      · exact .inr (.inr k)
    · rintro ((rfl | k) | (rfl | k))
      · exact .inr hh
      · exact .inl k
      · exact .inl hl
      · exact .inr k
  have hed : ∀ e ∈ edgesL (t.reverse ++ t'.reverse), e ∈ edR r ∨ e ∈ edR r' := by
    intro e he
    have x1 : edgesL (t.reverse ++ t'.reverse) = edF ((t.reverse ++ t'.reverse) ++ [lo]) := by
      rw [hT, List.cons_append, edgesL_F]
      rfl
    have x2 : (t.reverse ++ t'.reverse) ++ [lo] = t.reverse ++ hi :: (T' ++ [lo]) := by rw [hT']; simp
    have x3 : t.reverse ++ [hi] = r.reverse := by rw [e1, List.reverse_cons]
    have x4 : hi :: (T' ++ [lo]) = r'.reverse := by rw [e2, List.reverse_cons, hT']; rfl
    rw [x1, x2, edF_append, x3, x4, List.mem_append, edF_rev, edF_rev] at he
    exact he
  refine ⟨⟨fun q hq => ?_, ?_, by rw [hT, hlo]; rfl, fun e he p hp => ?_, fun e he c hc => ?_⟩, hed, hmem⟩
  · rcases (hmem q).1 hq with k | k
    · exact h.one.sub q k
    · exact h.up_sub k
  · have d1 := h.one.desc
    have d2 := h.two.desc
    rw [e1] at d1
    rw [e2] at d2
    refine List.nodup_append.2 ⟨nodup_rev (desc_nodup _ (descL_tail d1)), nodup_rev ?_, fun a ha b hb hab => ?_⟩
    · have := desc_nodup _ (descL_tail d2)
      exact List.Pairwise.of_map ngP (fun a b k e => k (by rw [e])) this
    · subst hab
      have m1 := List.mem_reverse.1 ha
      have m2 := List.mem_reverse.1 hb
      have k1 := desc_head _ _ d1 a m1
      have k2 := desc_head _ _ d2 (ngP a) (List.mem_map_of_mem m2)
      rw [kp_ng, kp_ng] at k2
      refine h.apart (c := a) (by rw [e1]; exact List.mem_cons_of_mem _ m1) (by rw [e2]; exact List.mem_cons_of_mem _ m2) ?_ ?_
      · rw [h.one.last, hlo]
        intro e
        cases e
        omega
      · rw [h.up_last, hhi]
        intro e
        cases e
        omega
  · rcases hed e he with k | k
    · have := h.one.dom e k p hp
      omega
    · have := h.up_dom k hp
      omega
  · rcases hed e he with k | k <;> rcases (hmem c).1 hc with m | m
    · exact good_edge _ h.one.good e k c m
    · exact h.cross hv k m
    · exact h.cross2 hv k m
    · exact h.up_good k m
end Go.Proofs.YtgngepbemgbbeaaGreatDoor

namespace Go.Proofs.YtgngepbemgbbeaaGreatDoor

theorem sP_inj {l : List Pl} (hv : ∀ p ∈ l, vP p = true) : ∀ p ∈ sP l, ∀ q ∈ sP l, kp p = kp q → p = q := fun p hp q hq h =>
  kp_inj (hv p (((sP_asc hv).2 p).1 hp)) (hv q (((sP_asc hv).2 q).1 hq)) h
theorem hull_form {l : List Pl} (h : 2 ≤ (sP l).length) : hullL l = (chainR leftP (sP l)).reverse.dropLast ++ (chainR leftP (sP l).reverse).reverse.dropLast := hullL_two h
theorem hull_one {l : List Pl} (h : (sP l).length < 2) : hullL l = sP l := by rw [hullL_sP, if_pos (by omega)]
theorem edgesL_one (a : Pl) : edgesL [a] = [(a, a)] := rfl
theorem hull_of {l : List Pl} (hv : ∀ p ∈ l, vP p = true) : HullOf (hullL l) (sP l) := by
  by_cases h : 2 ≤ (sP l).length
  · rw [hull_form h]
    exact (hull_pair (pair_of (sP_asc hv).1) h (sP_inj hv)).1
  · rw [hull_one (by omega)]
    match hs : sP l with
    | [] => exact ⟨fun _ h => h, List.nodup_nil, rfl, (fun _ h => by cases h), (fun _ h => by cases h)⟩
    | [a] => exact ⟨fun _ h => h, by simp, rfl, fun e he p hp => by
        rw [edgesL_one, List.mem_singleton] at he
        subst he
        rw [List.mem_singleton.1 hp]
        exact .inr ⟨turn_aab a a, by simp only; omega⟩, fun e he c hc => by
        rw [edgesL_one, List.mem_singleton] at he
        subst he
        exact .inl (List.mem_singleton.1 hc)⟩
    | _ :: _ :: _ => rw [hs] at h; simp at h
theorem hull_sub {l : List Pl} (hv : ∀ p ∈ l, vP p = true) {q : Pl} (hq : q ∈ hullL l) : q ∈ l := ((sP_asc hv).2 q).1 ((hull_of hv).sub q hq)
theorem hull_valid {l : List Pl} (hv : ∀ p ∈ l, vP p = true) : ∀ p ∈ hullL l, vP p = true := fun _ hp => hv _ (hull_sub hv hp)
theorem nodup_le : ∀ (h l : List Pl), h.Nodup → (∀ q ∈ h, q ∈ l) → h.length ≤ l.length
  | [], _, _, _ => Nat.zero_le _
  | x :: h, l, hn, hs => by
    obtain ⟨h1, h2⟩ := List.nodup_cons.1 hn
    have := nodup_le h (l.erase x) h2 fun q hq => (List.mem_erase_of_ne (fun e => h1 (by rw [← e]; exact hq))).2 (hs q (List.mem_cons_of_mem _ hq))
    have hl := List.length_erase_of_mem (hs x (by simp))
    have hp := List.length_pos_of_mem (hs x (by simp))
    simp only [List.length_cons]
    omega
theorem hull_len {l : List Pl} (hv : ∀ p ∈ l, vP p = true) : (hullL l).length ≤ l.length := nodup_le _ _ (hull_of hv).nodup fun _ hq => hull_sub hv hq
theorem hull_ne {l : List Pl} (hv : ∀ p ∈ l, vP p = true) (h : l ≠ []) : hullL l ≠ [] := by
  intro e
  have hh := (hull_of hv).head
  rw [e] at hh
  cases l with
  | nil => exact h rfl
  | cons x l =>
    have : x ∈ sP (x :: l) := ((sP_asc hv).2 x).2 (by simp)
    cases hs : sP (x :: l) with
    | nil => rw [hs] at this; cases this
    | cons y t => rw [hs] at hh; cases hh
theorem asc_head_eq {s s' : List Pl} {m : Pl} (h : Asc s) (h' : Asc s') (hs : ∀ q ∈ s', q ∈ s) (hi : ∀ p ∈ s, ∀ q ∈ s, kp p = kp q → p = q) (hm : s.head? = some m) (hin : m ∈ s') : s'.head? = some m := by
  cases e : s'.head? with
  | none => rw [List.head?_eq_none_iff.1 e] at hin; cases hin
  | some z =>
    have hz : z ∈ s' := List.mem_of_head? e
    have h1 := asc_head h hm z (hs z hz)
    have h2 := asc_head h' e m hin
    rw [hi z (hs z hz) m (hs m hin) (by omega)]
theorem asc_last_eq {s s' : List Pl} {m : Pl} (h : Asc s) (h' : Asc s') (hs : ∀ q ∈ s', q ∈ s) (hi : ∀ p ∈ s, ∀ q ∈ s, kp p = kp q → p = q) (hm : s.getLast? = some m) (hin : m ∈ s') : s'.getLast? = some m := by
  cases e : s'.getLast? with
  | none => rw [List.getLast?_eq_none_iff.1 e] at hin; cases hin
  | some z =>
    have hz : z ∈ s' := List.mem_of_getLast? e
    have h1 := asc_last h hm z (hs z hz)
    have h2 := asc_last h' e m hin
    rw [hi z (hs z hz) m (hs m hin) (by omega)]
/-- A chain of s is the chain of each list between it and s. -/
theorem chain_again {r s s' : List Pl} (h : ChainOf r s) (ha : Asc s) (ha' : Asc s') (hs : ∀ q ∈ s', q ∈ s) (hr : ∀ q ∈ r, q ∈ s') (hi : ∀ p ∈ s, ∀ q ∈ s, kp p = kp q → p = q) : chainR leftP s' = r := by
  have k := chain_of s' ha'
  refine chain_uniq _ _ k.desc h.desc ?_ ?_ (fun e he p hp => k.dom e he p (hr p hp)) (fun e he p hp => h.dom e he p (hs p (k.sub p hp))) (fun a ha b hb => hi a (hs a (k.sub a ha)) b (h.sub b hb))
  · rw [k.head, h.head]
    cases e : s.getLast? with
    | none =>
      rw [List.getLast?_eq_none_iff.1 e] at hs
      rw [List.getLast?_eq_none_iff]
      exact List.eq_nil_iff_forall_not_mem.2 fun q hq => by cases hs q hq
    | some m => exact asc_last_eq ha ha' hs hi e (hr m (List.mem_of_head? (h.head.trans e)))
  · rw [k.last, h.last]
    cases e : s.head? with
    | none =>
      rw [List.head?_eq_none_iff.1 e] at hs
      rw [List.head?_eq_none_iff]
      exact List.eq_nil_iff_forall_not_mem.2 fun q hq => by cases hs q hq
    | some m => exact asc_head_eq ha ha' hs hi e (hr m (List.mem_of_getLast? (h.last.trans e)))
/-- The hull of a hull is this hull. -/
theorem hull_idem {l : List Pl} (hv : ∀ p ∈ l, vP p = true) : hullL (hullL l) = hullL l := by
  have hv' := hull_valid hv
  obtain ⟨a1, a2⟩ := sP_asc hv
  obtain ⟨b1, b2⟩ := sP_asc hv'
  by_cases h : 2 ≤ (sP l).length
  · have hp := pair_of a1
    obtain ⟨_, _, hm⟩ := hull_pair hp h (sP_inj hv)
    rw [← hull_form h] at hm
    have hs : ∀ q ∈ sP (hullL l), q ∈ sP l := fun q hq => (hull_of hv).sub q ((b2 q).1 hq)
    have r1 := chain_again hp.one a1 b1 hs (fun q hq => (b2 q).2 ((hm q).2 (.inl hq))) (sP_inj hv)
    have r2 := chain_again (s' := ((sP (hullL l)).map ngP).reverse) hp.two (asc_ng a1) (asc_ng b1) (fun q hq => by
      obtain ⟨p, hp, rfl⟩ := List.mem_map.1 (List.mem_reverse.1 hq)
      exact List.mem_reverse.2 (List.mem_map_of_mem (hs p hp))) (fun q hq => by
      obtain ⟨p, hp, rfl⟩ := List.mem_map.1 hq
      exact List.mem_reverse.2 (List.mem_map_of_mem ((b2 p).2 ((hm p).2 (.inr hp))))) (fun p hp q hq hk => by
      obtain ⟨p', hp', rfl⟩ := List.mem_map.1 (List.mem_reverse.1 hp)
      obtain ⟨q', hq', rfl⟩ := List.mem_map.1 (List.mem_reverse.1 hq)
      rw [kp_ng, kp_ng] at hk
      rw [sP_inj hv p' hp' q' hq' (by omega)])
    have r3 : chainR leftP (sP (hullL l)).reverse = chainR leftP (sP l).reverse := by
      rw [← List.map_reverse, chainR_ng] at r2
      have := congrArg (List.map ngP) r2
      rwa [map_ng_ng, map_ng_ng] at this
    obtain ⟨lo, hi, t, t', e1, e2, _, _, hne, ht, _⟩ := pair_parts hp h
    have h2 : 2 ≤ (sP (hullL l)).length := by
      have m1 : lo ∈ sP (hullL l) := (b2 lo).2 ((hm lo).2 (.inr (by rw [e2]; simp)))
      have m2 : hi ∈ sP (hullL l) := (b2 hi).2 ((hm hi).2 (.inl (by rw [e1]; simp)))
      match hh : sP (hullL l), m1, m2 with
      | [], m1, _ => cases m1
      | [z], m1, m2 =>
        have := List.mem_singleton.1 m1
        have := List.mem_singleton.1 m2
        subst_vars
        omega
      | _ :: _ :: _, _, _ => simp
    rw [hull_form h2, r1, r3, ← hull_form h]
  · have e := hull_one (show (sP l).length < 2 by omega)
    have hvs : ∀ p ∈ sP l, vP p = true := fun p hp => hv p ((a2 p).1 hp)
    rw [e, hull_one (by rw [asc_self hvs a1]; omega), asc_self hvs a1]
/-- The first corner is the first of the places. -/
theorem hull_first {l h : List Pl} {p : Pl} (hv : ∀ p ∈ l, vP p = true) (hh : hullL l = p :: h) : (∀ q ∈ l, kp p ≤ kp q) ∧ ∀ q ∈ h, kp p < kp q := by
  have H := hull_of hv
  obtain ⟨a1, a2⟩ := sP_asc hv
  have hd := H.head
  rw [hh] at hd
  have k : ∀ q ∈ l, kp p ≤ kp q := fun q hq => asc_head a1 hd.symm q ((a2 q).2 hq)
  refine ⟨k, fun q hq => ?_⟩
  have hn := H.nodup
  rw [hh] at hn
  have hql := hull_sub hv (q := q) (by rw [hh]; simp [hq])
  have hpl := hull_sub hv (q := p) (by rw [hh]; simp)
  have := k q hql
  rcases Int.lt_or_eq_of_le this with h | h
  · exact h
  · exact absurd hq (by rw [← kp_inj (hv p hpl) (hv q hql) h]; exact (List.nodup_cons.1 hn).1)
theorem edgesL_getElem {h : List Pl} {i : Nat} {a b : Pl} (ha : h[i]? = some a) (hb : h[(i + 1) % h.length]? = some b) : (a, b) ∈ edgesL h := by
  have hi : i < h.length := (List.getElem?_eq_some_iff.1 ha).1
  refine List.mem_of_getElem? (i := i) ?_
  unfold edgesL
  rw [List.getElem?_zip_eq_some]
  refine ⟨ha, ?_⟩
  simp only
  by_cases hl : i + 1 < h.length
  · rw [Nat.mod_eq_of_lt hl] at hb
    rw [List.getElem?_append_left (by rw [List.length_drop]; omega), List.getElem?_drop, Nat.add_comm]
    exact hb
  · have e : i + 1 = h.length := by omega
    rw [e, Nat.mod_self] at hb
    rw [List.getElem?_append_right (by rw [List.length_drop]; omega), List.length_drop, show i - (h.length - 1) = 0 by omega]
    cases h with
    | nil => simp at hi
    | cons x t => exact hb
/-- No place is outside of an edge. -/
theorem hull_in {l : List Pl} (hv : ∀ p ∈ l, vP p = true) {i : Nat} {a b p : Pl} (ha : (hullL l)[i]? = some a) (hb : (hullL l)[(i + 1) % (hullL l).length]? = some b) (hp : p ∈ l) : 0 ≤ sideP a b p := by
  have := (hull_of hv).edge _ (edgesL_getElem ha hb) p (((sP_asc hv).2 p).2 hp)
  simp only at this
  unfold sideP
  split
  · rcases cmpI_sign (turnP a b p) with ⟨h, e⟩ | ⟨h, e⟩ | ⟨h, e⟩ <;> omega
  · exact Int.le_refl _
/-- The corners of a hull turn left. -/
theorem hull_left {l : List Pl} (hv : ∀ p ∈ l, vP p = true) {i : Nat} {a b c : Pl} (hn : 2 < (hullL l).length) (ha : (hullL l)[i]? = some a) (hb : (hullL l)[(i + 1) % (hullL l).length]? = some b) (hc : (hullL l)[(i + 2) % (hullL l).length]? = some c) : sideP a b c = 1 := by
  have H := hull_of hv
  have hi : i < (hullL l).length := (List.getElem?_eq_some_iff.1 ha).1
  have hne : ∀ {j k : Nat} {x : Pl}, (hullL l)[j]? = some x → (hullL l)[k]? = some x → j = k := fun {j k x} hj hk => by
    have e : (hullL l)[j]? = (hullL l)[k]? := hj.trans hk.symm
    exact (List.getElem?_inj (List.getElem?_eq_some_iff.1 hj).1 H.nodup).1 e
  have m := H.vert _ (edgesL_getElem ha hb) c (List.mem_of_getElem? hc)
  simp only at m
  have k : 0 < turnP a b c := by
    rcases m with m | m | m
    · rw [m] at hc
      have := hne ha hc
      rcases Nat.lt_or_ge (i + 2) (hullL l).length with q | q
      · rw [Nat.mod_eq_of_lt q] at this; omega
      · rw [Nat.mod_eq_sub_mod q, Nat.mod_eq_of_lt (by omega)] at this; omega
    · rw [m] at hc
      have := hne hb hc
      rcases Nat.lt_or_ge (i + 2) (hullL l).length with q | q
      · rw [Nat.mod_eq_of_lt q, Nat.mod_eq_of_lt (by omega)] at this; omega
      · rw [Nat.mod_eq_sub_mod q, Nat.mod_eq_of_lt (show i + 2 - (hullL l).length < _ by omega)] at this
        rcases Nat.lt_or_ge (i + 1) (hullL l).length with q' | q'
        · rw [Nat.mod_eq_of_lt q'] at this; omega
        · rw [Nat.mod_eq_sub_mod q', Nat.mod_eq_of_lt (by omega)] at this; omega
    · exact m
  rw [side_valid (by simp [hull_valid hv a (List.mem_of_getElem? ha), hull_valid hv b (List.mem_of_getElem? hb), hull_valid hv c (List.mem_of_getElem? hc)])]
  rcases cmpI_sign (turnP a b c) with ⟨h, e⟩ | ⟨h, e⟩ | ⟨h, e⟩ <;> omega
end Go.Proofs.YtgngepbemgbbeaaGreatDoor

namespace Go.Proofs.YtgngepbemgbbeaaGreatDoor

def phi (u v : Rat) : Rat := if 0 ≤ u then (if 0 ≤ v then (u + v) / 2 else u * u / (2 * (u - v))) else (if 0 ≤ v then v * v / (2 * (v - u)) else 0)
theorem div_le_of {a b c : Rat} (hb : 0 < b) (h : a ≤ c * b) : a / b ≤ c := by
  rw [← Rat.not_lt, Rat.lt_div_iff hb, Rat.not_lt]; exact h
theorem le_div_of {a b c : Rat} (hb : 0 < b) (h : c * b ≤ a) : c ≤ a / b := by
  rw [← Rat.not_lt, Rat.div_lt_iff hb, Rat.not_lt]; exact h
theorem div_le_div_of {a b c d : Rat} (hb : 0 < b) (hd : 0 < d) (h : a * d ≤ c * b) : a / b ≤ c / d := by
  refine div_le_of hb ?_
  have e : c / d * b = (c * b) / d := by grind
  rw [e]
  exact le_div_of hd h
theorem phi_comm (u v : Rat) : phi u v = phi v u := by
  unfold phi
  split <;> split <;> first | rfl | grind
theorem phi_mono {u u' : Rat} (v : Rat) (h : u ≤ u') : phi u v ≤ phi u' v := by
  unfold phi
  by_cases hv : 0 ≤ v
  · simp only [hv, if_true]
    by_cases hu : 0 ≤ u
    · have hu' : 0 ≤ u' := by grind
      rw [if_pos hu, if_pos hu']
      grind
    · rw [if_neg hu]
      by_cases hu' : 0 ≤ u'
      · rw [if_pos hu']
        refine div_le_of (by grind) ?_
        have := Rat.mul_nonneg hv (show 0 ≤ -u by grind)
        have := Rat.mul_nonneg hu' (show 0 ≤ v - u by grind)
        grind
      · rw [if_neg hu']
        refine div_le_div_of (by grind) (by grind) ?_
        have := Rat.mul_nonneg (Rat.mul_nonneg hv hv) (show 0 ≤ u' - u by grind)
        grind
  · simp only [hv, if_false]
    by_cases hu' : 0 ≤ u'
    · rw [if_pos hu']
      by_cases hu : 0 ≤ u
      · rw [if_pos hu]
        refine div_le_div_of (by grind) (by grind) ?_
        have p1 := Rat.mul_nonneg (Rat.mul_nonneg hu hu') (show 0 ≤ u' - u by grind)
        have p2 := Rat.mul_nonneg (Rat.mul_nonneg (show 0 ≤ u' - u by grind) (show 0 ≤ u' + u by grind)) (show 0 ≤ -v by grind)
        grind
      · rw [if_neg hu]
        refine le_div_of (by grind) ?_
        have := Rat.mul_nonneg hu' hu'
        grind
    · have hu : ¬ 0 ≤ u := by grind
      rw [if_neg hu, if_neg hu']
      exact Rat.le_refl
theorem phi_neg (u v : Rat) : phi u v = (u + v) / 2 + phi (-u) (-v) := by
  unfold phi
  by_cases hu : 0 ≤ u <;> by_cases hv : 0 ≤ v <;> by_cases hu' : 0 ≤ -u <;> by_cases hv' : 0 ≤ -v <;> simp only [hu, hv, hu', hv', if_true, if_false] <;> grind
theorem phi_pos {u v : Rat} (hu : 0 ≤ u) (hv : 0 ≤ v) : phi u v = (u + v) / 2 := by unfold phi; rw [if_pos hu, if_pos hv]
theorem phi_non {u v : Rat} (hu : u ≤ 0) (hv : v ≤ 0) : phi u v = 0 := by
  rw [phi_neg, phi_pos (by grind) (by grind)]; grind
theorem cut_den {d k x : Rat} (hd : d ≠ 0) : d * (x / (2 * (k * d))) = x / (2 * k) := by
  by_cases hk : k = 0
  · subst hk; grind
  · grind
/-- A line is parted anywhere. -/
theorem phi_line {p q L M R : Rat} (h1 : L ≤ M) (h2 : M ≤ R) : (R - L) * phi (p + q * L) (p + q * R) = (M - L) * phi (p + q * L) (p + q * M) + (R - M) * phi (p + q * M) (p + q * R) := by
  by_cases e1 : L = M
  · subst e1; grind
  by_cases e2 : M = R
  · subst e2; grind
  have l1 : 0 < M - L := by grind
  have l2 : 0 < R - M := by grind
  have l3 : 0 < R - L := by grind
  have n1 : M - L ≠ 0 := by grind
  have n2 : R - M ≠ 0 := by grind
  have n3 : R - L ≠ 0 := by grind
  have d1 : p + q * L - (p + q * R) = -q * (R - L) := by grind
  have d2 : p + q * M - (p + q * R) = -q * (R - M) := by grind
  have d3 : p + q * L - (p + q * M) = -q * (M - L) := by grind
  have d4 : p + q * R - (p + q * L) = q * (R - L) := by grind
  have d5 : p + q * R - (p + q * M) = q * (R - M) := by grind
  have d6 : p + q * M - (p + q * L) = q * (M - L) := by grind
  have c1 : ∀ k x : Rat, (R - L) * (x / (2 * (k * (R - L)))) = x / (2 * k) := fun k x => cut_den n3
  have c2 : ∀ k x : Rat, (R - M) * (x / (2 * (k * (R - M)))) = x / (2 * k) := fun k x => cut_den n2
  have c3 : ∀ k x : Rat, (M - L) * (x / (2 * (k * (M - L)))) = x / (2 * k) := fun k x => cut_den n1
  have q1 : q * (M - L) = (p + q * M) - (p + q * L) := by grind
  have q2 : q * (R - M) = (p + q * R) - (p + q * M) := by grind
  have qm : 0 < q → 0 < q * (M - L) ∧ 0 < q * (R - M) := fun h => ⟨Rat.mul_pos h l1, Rat.mul_pos h l2⟩
  have qn : q < 0 → q * (M - L) < 0 ∧ q * (R - M) < 0 := fun h => by
    have := Rat.mul_pos (show 0 < -q by grind) l1
    have := Rat.mul_pos (show 0 < -q by grind) l2
    grind
  have qz : q = 0 → p + q * L = p ∧ p + q * M = p ∧ p + q * R = p := fun h => by subst h; grind
  unfold phi
  by_cases hu : 0 ≤ p + q * L <;> by_cases hw : 0 ≤ p + q * M <;> by_cases hv : 0 ≤ p + q * R <;> simp only [hu, hw, hv, if_true, if_false]
  · grind
  · have hq : q ≠ 0 := by grind
    rw [d1, d2, c1, c2]
    grind
  · exfalso
    rcases Rat.le_total (a := q) (b := 0) with k | k <;> by_cases h0 : q = 0 <;> grind
  · have hq : q ≠ 0 := by grind
    rw [d1, d3, c1, c3]
    grind
  · have hq : q ≠ 0 := by grind
    rw [d4, d6, c1, c3]
    grind
  · exfalso
    rcases Rat.le_total (a := q) (b := 0) with k | k <;> by_cases h0 : q = 0 <;> grind
  · have hq : q ≠ 0 := by grind
    rw [d4, d5, c1, c2]
    grind
  · grind
/-- The mean of what a line is between 0 and H. -/
def psi (H u v : Rat) : Rat := phi u v - phi (u - H) (v - H)
theorem psi_comm (H u v : Rat) : psi H u v = psi H v u := by unfold psi; rw [phi_comm, phi_comm (u - H)]
theorem psi_flip (H u v : Rat) : psi H u v = H - psi H (H - u) (H - v) := by
  unfold psi
  have h1 := phi_neg u v
  have h2 := phi_neg (u - H) (v - H)
  have e1 : H - u - H = -u := by grind
  have e2 : H - v - H = -v := by grind
  have e3 : -(u - H) = H - u := by grind
  have e4 : -(v - H) = H - v := by grind
  rw [e3, e4] at h2
  rw [e1, e2]
  grind
theorem psi_a {H u u' v : Rat} (hv : v ≤ H) (h : u ≤ u') (hu : u' ≤ H) : psi H u v ≤ psi H u' v := by
  unfold psi
  rw [phi_non (u := u - H) (v := v - H) (by grind) (by grind), phi_non (u := u' - H) (v := v - H) (by grind) (by grind)]
  have := phi_mono v h
  grind
theorem psi_a' {H u u' v : Rat} (hv : 0 ≤ v) (h : u ≤ u') (hu : 0 ≤ u) : psi H u v ≤ psi H u' v := by
  have := psi_a (H := H) (u := H - u') (u' := H - u) (v := H - v) (by grind) (by grind) (by grind)
  rw [psi_flip H u v, psi_flip H u' v]
  grind
theorem psi_out {H u v : Rat} (hH : 0 ≤ H) (hv : v ≤ 0) (hu : H ≤ u) (hne : v < u) : psi H u v = H * (2 * u - H) / (2 * (u - v)) := by
  unfold psi phi
  by_cases v0 : v = 0
  · subst v0
    rw [if_pos (by grind), if_pos (by grind), if_pos (by grind)]
    by_cases h0 : H = 0
    · rw [if_pos (by grind)]; grind
    · rw [if_neg (by grind)]; grind
  · rw [if_pos (by grind), if_neg (by grind), if_pos (by grind), if_neg (by grind)]
    have e : u - H - (v - H) = u - v := by grind
    rw [e]
    grind
theorem psi_b {H u u' v : Rat} (hH : 0 ≤ H) (hv : v ≤ 0) (hu : H ≤ u) (h : u ≤ u') : psi H u v ≤ psi H u' v := by
  by_cases hne : v < u
  · rw [psi_out hH hv hu hne, psi_out hH hv (by grind) (by grind)]
    refine div_le_div_of (by grind) (by grind) ?_
    have p1 := Rat.mul_nonneg (Rat.mul_nonneg hH (show 0 ≤ u' - u by grind)) (show 0 ≤ H - 2 * v by grind)
    grind
  · have hu0 : u = 0 := by grind
    have hv0 : v = 0 := by grind
    have h0 : H = 0 := by grind
    subst hu0 hv0 h0
    unfold psi
    have e1 : (0 : Rat) - 0 = 0 := by grind
    have e2 : u' - 0 = u' := by grind
    rw [e1, e2]
    grind
theorem psi_b' {H u u' v : Rat} (hH : 0 ≤ H) (hv : H ≤ v) (hu : u' ≤ 0) (h : u ≤ u') : psi H u v ≤ psi H u' v := by
  have := psi_b (H := H) (u := H - u') (u' := H - u) (v := H - v) hH (by grind) (by grind) (by grind)
  rw [psi_flip H u v, psi_flip H u' v]
  grind
theorem psi_mono1 {H u u' : Rat} (v : Rat) (hH : 0 ≤ H) (h : u ≤ u') : psi H u v ≤ psi H u' v := by
  by_cases v0 : v ≤ 0
  · by_cases h1 : u' ≤ H
    · exact psi_a (by grind) h h1
    · by_cases h2 : H ≤ u
      · exact psi_b hH v0 h2 h
      · exact Rat.le_trans (psi_a (by grind) (by grind) Rat.le_refl) (psi_b hH v0 Rat.le_refl (by grind))
  · by_cases v1 : H ≤ v
    · by_cases h1 : 0 ≤ u
      · exact psi_a' (by grind) h h1
      · by_cases h2 : u' ≤ 0
        · exact psi_b' hH v1 h2 h
        · exact Rat.le_trans (psi_b' hH v1 Rat.le_refl (by grind)) (psi_a' (by grind) (by grind) Rat.le_refl)
    · by_cases h1 : 0 ≤ u
      · exact psi_a' (by grind) h h1
      · by_cases h2 : u' ≤ H
        · exact psi_a (by grind) h h2
        · exact Rat.le_trans (psi_a (u' := H) (by grind) (by grind) Rat.le_refl) (psi_a' (by grind) (by grind) hH)
theorem psi_mono {H u u' v v' : Rat} (hH : 0 ≤ H) (h : u ≤ u') (k : v ≤ v') : psi H u v ≤ psi H u' v' := by
  refine Rat.le_trans (psi_mono1 v hH h) ?_
  rw [psi_comm, psi_comm H u' v']
  exact psi_mono1 u' hH k
theorem psi_nonneg {H : Rat} (u v : Rat) (hH : 0 ≤ H) : 0 ≤ psi H u v := by
  have h1 : psi H (-(if 0 ≤ u then u else -u)) (-(if 0 ≤ v then v else -v)) = 0 := by
    unfold psi
    rw [phi_non (by grind) (by grind), phi_non (by grind) (by grind)]
    grind
  rw [← h1]
  exact psi_mono hH (by grind) (by grind)
theorem psi_le {H : Rat} (u v : Rat) (hH : 0 ≤ H) : psi H u v ≤ H := by
  rw [psi_flip]
  have := psi_nonneg (H - u) (H - v) hH
  grind
theorem psi_lip {H u u' v v' : Rat} (h : u ≤ u') (k : v ≤ v') : psi H u' v' - psi H u v ≤ (u' - u + (v' - v)) / 2 := by
  have m : ∀ {a a' b b' : Rat}, a ≤ a' → b ≤ b' → phi a b ≤ phi a' b' := fun {a a' b b'} h k => by
    refine Rat.le_trans (phi_mono b h) ?_
    rw [phi_comm, phi_comm a' b']
    exact phi_mono a' k
  have e1 := phi_neg u v
  have e2 := phi_neg u' v'
  have m1 := m (show u - H ≤ u' - H by grind) (show v - H ≤ v' - H by grind)
  have m2 := m (show -u' ≤ -u by grind) (show -v' ≤ -v by grind)
  unfold psi
  grind
theorem psi_in {H u v : Rat} (hu : 0 ≤ u) (hv : 0 ≤ v) (hu' : u ≤ H) (hv' : v ≤ H) : psi H u v = (u + v) / 2 := by
  unfold psi
  rw [phi_pos hu hv, phi_non (by grind) (by grind)]
  grind
theorem psi_add (H K u v : Rat) : psi (H + K) u v = psi H u v + psi K (u - H) (v - H) := by
  unfold psi
  have e1 : u - (H + K) = u - H - K := by grind
  have e2 : v - (H + K) = v - H - K := by grind
  rw [e1, e2]
  grind
/-- What is under a line, from L to R. -/
def arS (H p q L R : Rat) : Rat := (R - L) * psi H (p + q * L) (p + q * R)
theorem arS_anti (H p q L R : Rat) : arS H p q R L = -arS H p q L R := by
  unfold arS
  rw [psi_comm]
  grind
theorem arS_mid {H p q L M R : Rat} (h1 : L ≤ M) (h2 : M ≤ R) : arS H p q L R = arS H p q L M + arS H p q M R := by
  unfold arS psi
  have e1 := phi_line (p := p) (q := q) h1 h2
  have e2 := phi_line (p := p - H) (q := q) h1 h2
  have f : ∀ x, p - H + q * x = p + q * x - H := fun x => by grind
  rw [f, f, f] at e2
  grind
theorem arS_add (H p q L M R : Rat) : arS H p q L R = arS H p q L M + arS H p q M R := by
  rcases Rat.le_total (a := L) (b := M) with a | a <;> rcases Rat.le_total (a := M) (b := R) with b | b <;> rcases Rat.le_total (a := L) (b := R) with c | c
  · exact arS_mid a b
  · have := arS_mid (H := H) (p := p) (q := q) a b; exact this
  · have := arS_mid (H := H) (p := p) (q := q) c b
    rw [arS_anti H p q R M]
    grind
  · have := arS_mid (H := H) (p := p) (q := q) c a
    rw [arS_anti H p q R M, arS_anti H p q R L]
    have x := arS_anti H p q R M
    grind
  · have := arS_mid (H := H) (p := p) (q := q) a c
    rw [arS_anti H p q M L]
    grind
  · have := arS_mid (H := H) (p := p) (q := q) b c
    rw [arS_anti H p q M L, arS_anti H p q R L]
    grind
  · have := arS_mid (H := H) (p := p) (q := q) b a
    have x1 := arS_anti H p q R L
    have x2 := arS_anti H p q R M
    have x3 := arS_anti H p q M L
    grind
  · have := arS_mid (H := H) (p := p) (q := q) b a
    have x1 := arS_anti H p q R L
    have x2 := arS_anti H p q R M
    have x3 := arS_anti H p q M L
    grind
theorem arS_self (H p q L : Rat) : arS H p q L L = 0 := by unfold arS; grind
/-- Two lines, one of which is nowhere over the other. -/
theorem arS_cmp {H p q p' q' A B L R : Rat} (hH : 0 ≤ H) (hA : p + q * A ≤ p' + q' * A) (hB : p + q * B ≤ p' + q' * B) (h1 : A ≤ L) (h2 : L ≤ R) (h3 : R ≤ B) :
    0 ≤ arS H p' q' L R - arS H p q L R ∧ arS H p' q' L R - arS H p q L R ≤ (B - A) * ((p' + q' * A - (p + q * A)) + (p' + q' * B - (p + q * B))) / 2 := by
  by_cases hAB : A = B
  · have e1 : L = A := by grind
    have e2 : R = A := by grind
    rw [e1, e2, arS_self, arS_self, ← hAB]
    grind
  have d : ∀ x, A ≤ x → x ≤ B → 0 ≤ (p' + q' * x) - (p + q * x) := fun x a b => by
    have m1 := Rat.mul_nonneg (show 0 ≤ B - x by grind) (show 0 ≤ (p' + q' * A) - (p + q * A) by grind)
    have m2 := Rat.mul_nonneg (show 0 ≤ x - A by grind) (show 0 ≤ (p' + q' * B) - (p + q * B) by grind)
    have e : (B - A) * ((p' + q' * x) - (p + q * x)) = (B - x) * ((p' + q' * A) - (p + q * A)) + (x - A) * ((p' + q' * B) - (p + q * B)) := by grind
    exact Rat.le_of_mul_le_mul_left (c := B - A) (by grind) (by grind)
  have dL := d L h1 (by grind)
  have dR := d R (by grind) h3
  have dA := d A (by grind) (by grind)
  have dB := d B (by grind) (by grind)
  have m1 := psi_mono (H := H) (u := p + q * L) (u' := p' + q' * L) (v := p + q * R) (v' := p' + q' * R) hH (by grind) (by grind)
  have m2 := psi_lip (H := H) (u := p + q * L) (u' := p' + q' * L) (v := p + q * R) (v' := p' + q' * R) (by grind) (by grind)
  have k1 := Rat.mul_nonneg (show 0 ≤ R - L by grind) (show 0 ≤ psi H (p' + q' * L) (p' + q' * R) - psi H (p + q * L) (p + q * R) by grind)
  have k2 := Rat.mul_nonneg (show 0 ≤ R - L by grind) (show 0 ≤ (p' + q' * L - (p + q * L) + (p' + q' * R - (p + q * R))) / 2 - (psi H (p' + q' * L) (p' + q' * R) - psi H (p + q * L) (p + q * R)) by grind)
  have k3 := Rat.mul_nonneg (show 0 ≤ L - A by grind) (show 0 ≤ (p' + q' * A - (p + q * A)) + (p' + q' * L - (p + q * L)) by grind)
  have k4 := Rat.mul_nonneg (show 0 ≤ B - R by grind) (show 0 ≤ (p' + q' * B - (p + q * B)) + (p' + q' * R - (p + q * R)) by grind)
  unfold arS
  generalize psi H (p' + q' * L) (p' + q' * R) = P' at *
  generalize psi H (p + q * L) (p + q * R) = P at *
  clear m1 m2 d hA hB
  constructor
  · grind
  · grind

/-! An edge, as a line. -/
def slQ (a b : Pl) : Rat := ((b.y : Rat) - a.y) / ((b.x : Rat) - a.x)
def icQ (a b : Pl) (Y : Int) : Rat := (a.y : Rat) - Y - slQ a b * a.x
theorem line_a (a b : Pl) (Y : Int) : icQ a b Y + slQ a b * a.x = (a.y : Rat) - Y := by unfold icQ; grind
theorem cast_ne {a b : Int} (h : a ≠ b) : (b : Rat) - a ≠ 0 := fun e => h (by
  have : (b : Rat) = a := by grind
  exact (Rat.intCast_inj.1 this).symm)
theorem line_b {a b : Pl} (Y : Int) (h : a.x ≠ b.x) : icQ a b Y + slQ a b * b.x = (b.y : Rat) - Y := by
  have := cast_ne h
  unfold icQ slQ
  grind
def clI (X W x : Int) : Int := max X (min x (X + W))
theorem cl_mono {X W x y : Int} (h : x ≤ y) : clI X W x ≤ clI X W y := by unfold clI; omega
/-- What an edge adds to what is covered. -/
def covK (r : Rc) (a b : Pl) : Rat := arS r.h (icQ a b r.y) (slQ a b) (clI r.x r.w b.x) (clI r.x r.w a.x)
theorem sl_sym (a b : Pl) : slQ b a = slQ a b := by
  unfold slQ
  by_cases h : (b.x : Rat) - a.x = 0
  · have : (a.x : Rat) - b.x = 0 := by grind
    rw [h, this]; grind
  · have : (a.x : Rat) - b.x ≠ 0 := by grind
    grind
theorem covK_anti (r : Rc) (a b : Pl) : covK r b a = -covK r a b := by
  unfold covK
  by_cases h : a.x = b.x
  · rw [h, arS_self, arS_self]; grind
  · rw [arS_anti, sl_sym]
    have e : icQ b a r.y = icQ a b r.y := by
      have h1 := line_b r.y h
      have h2 := line_a b a r.y
      rw [sl_sym] at h2
      grind
    rw [e]
theorem covK_self (r : Rc) (a : Pl) : covK r a a = 0 := by unfold covK; exact arS_self _ _ _ _
/-- What three edges add. -/
def triK (r : Rc) (a b c : Pl) : Rat := covK r a b + covK r b c + covK r c a
theorem triK_cyc (r : Rc) (a b c : Pl) : triK r b c a = triK r a b c := by unfold triK; grind
theorem triK_swap (r : Rc) (a b c : Pl) : triK r b a c = -triK r a b c := by
  unfold triK
  rw [covK_anti r a b, covK_anti r c a, covK_anti r b c]
  grind
theorem le_cast {a b : Int} (h : a ≤ b) : (a : Rat) ≤ b := Rat.intCast_le_intCast.2 h
theorem cast_turn (a b c : Pl) : ((turnP a b c : Int) : Rat) = ((b.x : Rat) - a.x) * ((c.y : Rat) - a.y) - ((b.y : Rat) - a.y) * ((c.x : Rat) - a.x) := by
  unfold turnP
  simp only [Rat.intCast_sub, Rat.intCast_mul]
theorem cl_in {X W x : Int} (h1 : X ≤ x) (h2 : x ≤ X + W) : clI X W x = x := by unfold clI; omega
/-- The window of two numbers: between them, if there is one at all. -/
theorem cl_between {X W x y : Int} (h : x ≤ y) : clI X W x = clI X W y ∨ (x ≤ clI X W x ∧ clI X W x ≤ clI X W y ∧ clI X W y ≤ y) := by unfold clI; omega
theorem tri_part {r : Rc} {p q : Rat} {a b : Pl} (hH : 0 ≤ r.h) (hab : a.x ≤ b.x) (d : Rat) (hd : 0 ≤ d) (h1 : (p + q * a.x) - ((a.y : Rat) - r.y) + ((p + q * b.x) - ((b.y : Rat) - r.y)) = d) (k1 : (a.y : Rat) - r.y ≤ p + q * a.x) (k2 : (b.y : Rat) - r.y ≤ p + q * b.x) :
    0 ≤ arS r.h p q (clI r.x r.w a.x) (clI r.x r.w b.x) + covK r a b ∧ arS r.h p q (clI r.x r.w a.x) (clI r.x r.w b.x) + covK r a b ≤ ((b.x : Rat) - a.x) * d / 2 := by
  have hx := le_cast hab
  have m := Rat.mul_nonneg (show 0 ≤ (b.x : Rat) - a.x by grind) hd
  rcases cl_between (X := r.x) (W := r.w) hab with e | ⟨c1, c2, c3⟩
  · unfold covK
    rw [e, arS_self, arS_self]
    grind
  · by_cases hne : a.x = b.x
    · have e : clI r.x r.w a.x = clI r.x r.w b.x := by rw [hne]
      unfold covK
      rw [e, arS_self, arS_self]
      grind
    · have la := line_a a b r.y
      have lb := line_b r.y hne
      have hh := le_cast hH
      have := arS_cmp (H := r.h) (p := icQ a b r.y) (q := slQ a b) (p' := p) (q' := q) (A := a.x) (B := b.x) (L := clI r.x r.w a.x) (R := clI r.x r.w b.x) (by grind) (by grind) (by grind) (le_cast c1) (le_cast c2) (le_cast c3)
      have hX : p + q * a.x - (icQ a b r.y + slQ a b * a.x) + (p + q * b.x - (icQ a b r.y + slQ a b * b.x)) = d := by rw [la, lb]; exact h1
      rw [hX] at this
      have e : covK r a b = -arS r.h (icQ a b r.y) (slQ a b) (clI r.x r.w a.x) (clI r.x r.w b.x) := by unfold covK; rw [arS_anti]
      rw [e]
      grind
theorem tri_part' {r : Rc} {p q : Rat} {a b : Pl} (hH : 0 ≤ r.h) (hab : a.x ≤ b.x) (d : Rat) (hd : 0 ≤ d) (h1 : ((a.y : Rat) - r.y) - (p + q * a.x) + (((b.y : Rat) - r.y) - (p + q * b.x)) = d) (k1 : p + q * a.x ≤ (a.y : Rat) - r.y) (k2 : p + q * b.x ≤ (b.y : Rat) - r.y) :
    arS r.h p q (clI r.x r.w a.x) (clI r.x r.w b.x) + covK r a b ≤ 0 ∧ -(((b.x : Rat) - a.x) * d / 2) ≤ arS r.h p q (clI r.x r.w a.x) (clI r.x r.w b.x) + covK r a b := by
  have hx := le_cast hab
  have m := Rat.mul_nonneg (show 0 ≤ (b.x : Rat) - a.x by grind) hd
  rcases cl_between (X := r.x) (W := r.w) hab with e | ⟨c1, c2, c3⟩
  · unfold covK
    rw [e, arS_self, arS_self]
    grind
  · by_cases hne : a.x = b.x
    · have e : clI r.x r.w a.x = clI r.x r.w b.x := by rw [hne]
      unfold covK
      rw [e, arS_self, arS_self]
      grind
    · have la := line_a a b r.y
      have lb := line_b r.y hne
      have hh := le_cast hH
      have := arS_cmp (H := r.h) (p' := icQ a b r.y) (q' := slQ a b) (p := p) (q := q) (A := a.x) (B := b.x) (L := clI r.x r.w a.x) (R := clI r.x r.w b.x) (by grind) (by grind) (by grind) (le_cast c1) (le_cast c2) (le_cast c3)
      have hX : icQ a b r.y + slQ a b * a.x - (p + q * a.x) + (icQ a b r.y + slQ a b * b.x - (p + q * b.x)) = d := by rw [la, lb]; exact h1
      rw [hX] at this
      have e : covK r a b = -arS r.h (icQ a b r.y) (slQ a b) (clI r.x r.w a.x) (clI r.x r.w b.x) := by unfold covK; rw [arS_anti]
      rw [e]
      grind
theorem tri_sorted {r : Rc} {a b c : Pl} (hH : 0 ≤ r.h) (h1 : a.x ≤ b.x) (h2 : b.x ≤ c.x) :
    (0 ≤ turnP a b c → 0 ≤ triK r a b c ∧ triK r a b c ≤ (turnP a b c : Rat) / 2) ∧ (turnP a b c ≤ 0 → triK r a b c ≤ 0 ∧ (turnP a b c : Rat) / 2 ≤ triK r a b c) := by
  by_cases hac : a.x = c.x
  · have e1 : a.x = b.x := by omega
    have t0 : turnP a b c = 0 := by unfold turnP; rw [← e1, ← hac]; grind
    have k0 : triK r a b c = 0 := by
      unfold triK covK
      rw [← e1, ← hac, arS_self, arS_self, arS_self]
      grind
    rw [t0, k0]
    grind
  · have la := line_a a c r.y
    have lc := line_b r.y hac
    have ht := cast_turn a b c
    have hn := cast_ne hac
    have e : triK r a b c = (arS r.h (icQ a c r.y) (slQ a c) (clI r.x r.w a.x) (clI r.x r.w b.x) + covK r a b) + (arS r.h (icQ a c r.y) (slQ a c) (clI r.x r.w b.x) (clI r.x r.w c.x) + covK r b c) := by
      have e1 : covK r c a = arS r.h (icQ a c r.y) (slQ a c) (clI r.x r.w a.x) (clI r.x r.w c.x) := by
        rw [covK_anti]
        unfold covK
        rw [arS_anti]
        grind
      unfold triK
      rw [e1, arS_add r.h _ _ (clI r.x r.w a.x) (clI r.x r.w b.x)]
      grind
    have hx1 := le_cast h1
    have hx2 := le_cast h2
    have hx : (0 : Rat) < (c.x : Rat) - a.x := by grind
    generalize hD : (icQ a c r.y + slQ a c * b.x) - ((b.y : Rat) - r.y) = D at *
    have hturn : (turnP a b c : Rat) = ((c.x : Rat) - a.x) * D := by grind
    rw [e, hturn]
    constructor
    · intro t
      have ht0 : (0 : Rat) ≤ turnP a b c := by have := le_cast t; grind
      have hD0 : 0 ≤ D := by
        rw [hturn] at ht0
        exact Rat.le_of_mul_le_mul_left (c := (c.x : Rat) - a.x) (by grind) hx
      have p1 := tri_part (r := r) (p := icQ a c r.y) (q := slQ a c) hH h1 D hD0 (by grind) (by grind) (by grind)
      have p2 := tri_part (r := r) (p := icQ a c r.y) (q := slQ a c) hH h2 D hD0 (by grind) (by grind) (by grind)
      grind
    · intro t
      have ht0 : (turnP a b c : Rat) ≤ 0 := by have := le_cast t; grind
      have hD0 : 0 ≤ -D := by
        rw [hturn] at ht0
        exact Rat.le_of_mul_le_mul_left (c := (c.x : Rat) - a.x) (by grind) hx
      have p1 := tri_part' (r := r) (p := icQ a c r.y) (q := slQ a c) hH h1 (-D) hD0 (by grind) (by grind) (by grind)
      have p2 := tri_part' (r := r) (p := icQ a c r.y) (q := slQ a c) hH h2 (-D) hD0 (by grind) (by grind) (by grind)
      grind
/-- Three edges that turn left cover something, and at most what is between them. -/
theorem tri_ok {r : Rc} {a b c : Pl} (hH : 0 ≤ r.h) (ht : 0 ≤ turnP a b c) : 0 ≤ triK r a b c ∧ triK r a b c ≤ (turnP a b c : Rat) / 2 := by
  have t1 : turnP b c a = turnP a b c := by unfold turnP; grind
  have t2 : turnP c a b = turnP a b c := by unfold turnP; grind
  have t3 : turnP b a c = -turnP a b c := by unfold turnP; grind
  have t4 : turnP c b a = -turnP a b c := by unfold turnP; grind
  have t5 : turnP a c b = -turnP a b c := by unfold turnP; grind
  have k1 := triK_cyc r a b c
  have k2 := triK_cyc r b c a
  have k3 := triK_swap r a b c
  have k4 : triK r c b a = -triK r a b c := by rw [triK_swap, k1]
  have k5 : triK r a c b = -triK r a b c := by rw [triK_swap, k2, k1]
  have cs : ∀ n m : Int, m = -n → (m : Rat) = -(n : Rat) := fun n m e => by rw [e, Rat.intCast_neg]
  have cz : (0 : Rat) ≤ turnP a b c := by have := le_cast ht; grind
  rcases Int.le_total a.x b.x with o1 | o1 <;> rcases Int.le_total b.x c.x with o2 | o2 <;> rcases Int.le_total a.x c.x with o3 | o3
  · exact (tri_sorted hH o1 o2).1 ht
  · exact (tri_sorted hH o1 o2).1 ht
  · have := (tri_sorted hH o3 o2).2 (by omega)
    rw [k5, cs _ _ t5] at this
    grind
  · have := (tri_sorted hH o3 o1).1 (by omega)
    rw [k2, k1, t2] at this
    exact this
  · have := (tri_sorted hH o1 o3).2 (by omega)
    rw [k3, cs _ _ t3] at this
    grind
  · have := (tri_sorted hH o2 o3).1 (by omega)
    rw [k1, t1] at this
    exact this
  · have := (tri_sorted hH o2 o1).2 (by omega)
    rw [k4, cs _ _ t4] at this
    grind
  · have := (tri_sorted hH o2 o1).2 (by omega)
    rw [k4, cs _ _ t4] at this
    grind
/-! Sums over edges. -/
def sumE (f : Pl → Pl → Rat) : List (Pl × Pl) → Rat
  | [] => 0
  | e :: l => f e.1 e.2 + sumE f l
theorem sumE_add (f g : Pl → Pl → Rat) : ∀ l, sumE (fun a b => f a b + g a b) l = sumE f l + sumE g l
  | [] => by unfold sumE; grind
  | e :: l => by
    unfold sumE
    rw [sumE_add f g l]
    grind
theorem sumE_congr {f g : Pl → Pl → Rat} : ∀ l, (∀ e ∈ l, f e.1 e.2 = g e.1 e.2) → sumE f l = sumE g l
  | [], _ => rfl
  | e :: l, h => by
    unfold sumE
    rw [h e (by simp), sumE_congr l fun x hx => h x (by simp [hx])]
theorem sumE_le {f g : Pl → Pl → Rat} : ∀ l, (∀ e ∈ l, f e.1 e.2 ≤ g e.1 e.2) → sumE f l ≤ sumE g l
  | [], _ => Rat.le_refl
  | e :: l, h => by
    unfold sumE
    have h1 := h e (by simp)
    have h2 := sumE_le l fun x hx => h x (by simp [hx])
    grind
theorem sumE_tele (g : Pl → Rat) (y : Pl) : ∀ (t : List Pl) (x : Pl), sumE (fun a b => g b - g a) (edF (x :: (t ++ [y]))) = g y - g x
  | [], x => by
    show (g y - g x) + 0 = _
    grind
  | z :: t, x => by
    show (g z - g x) + sumE _ (edF (z :: (t ++ [y]))) = _
    rw [sumE_tele g y t z]
    grind
/-- All the way around nothing is left of differences. -/
theorem sumE_round (g : Pl → Rat) (l : List Pl) : sumE (fun a b => g b - g a) (edgesL l) = 0 := by
  cases l with
  | nil => rfl
  | cons x t => rw [edgesL_F, sumE_tele]; grind
/-- What a polygon covers. -/
def coverQ (l : List Pl) (r : Rc) : Rat := sumE (covK r) (edgesL l)
theorem cover_tri (x : Pl) (l : List Pl) (r : Rc) : coverQ l r = sumE (triK r x) (edgesL l) := by
  have h := sumE_round (fun p => covK r p x) l
  have e : sumE (triK r x) (edgesL l) = sumE (covK r) (edgesL l) + sumE (fun a b => covK r b x - covK r a x) (edgesL l) := by
    rw [← sumE_add]
    refine sumE_congr _ fun e _ => ?_
    unfold triK
    rw [covK_anti r e.1 x]
    grind
  rw [e, h]
  unfold coverQ
  grind
theorem fold_int : ∀ (l : List Int) (n : Int), l.foldl (· + ·) n = n + l.foldl (· + ·) 0
  | [], n => by simp
  | x :: l, n => by
    show l.foldl (· + ·) (n + x) = n + l.foldl (· + ·) (0 + x)
    rw [fold_int l (n + x), fold_int l (0 + x)]
    omega
theorem sumE_int (f : Pl → Pl → Int) : ∀ l : List (Pl × Pl), sumE (fun a b => (f a b : Rat)) l = (((l.map fun e => f e.1 e.2).foldl (· + ·) 0 : Int) : Rat)
  | [] => rfl
  | e :: l => by
    unfold sumE
    rw [List.map_cons, List.foldl_cons, fold_int, sumE_int f l, Rat.intCast_add, Int.zero_add]
theorem area_sum (l : List Pl) : ((area2L l : Int) : Rat) = sumE (fun a b => ((a.x * b.y - a.y * b.x : Int) : Rat)) (edgesL l) := by
  rw [sumE_int]
  rfl
theorem areaQ_tri (x : Pl) (l : List Pl) : ((area2L l : Int) : Rat) = sumE (fun a b => ((turnP x a b : Int) : Rat)) (edgesL l) := by
  have h := sumE_round (fun p => (((x.y * p.x - x.x * p.y : Int)) : Rat)) l
  rw [area_sum]
  have e : sumE (fun a b => ((turnP x a b : Int) : Rat)) (edgesL l) = sumE (fun a b => ((a.x * b.y - a.y * b.x : Int) : Rat)) (edgesL l) + sumE (fun a b => (((x.y * b.x - x.x * b.y : Int)) : Rat) - (((x.y * a.x - x.x * a.y : Int)) : Rat)) (edgesL l) := by
    rw [← sumE_add]
    refine sumE_congr _ fun e _ => ?_
    have : turnP x e.1 e.2 = (e.1.x * e.2.y - e.1.y * e.2.x) + ((x.y * e.2.x - x.x * e.2.y) - (x.y * e.1.x - x.x * e.1.y)) := by unfold turnP; grind
    rw [this, Rat.intCast_add, Rat.intCast_sub (x.y * e.2.x - x.x * e.2.y)]
  rw [e, h]
  grind
/-- What a convex polygon covers is at least 0, and at most its area. -/
theorem cover_range {l : List Pl} {r : Rc} (hH : 0 ≤ r.h) (x : Pl) (h : ∀ e ∈ edgesL l, 0 ≤ turnP x e.1 e.2) : 0 ≤ coverQ l r ∧ coverQ l r ≤ (area2L l : Rat) / 2 := by
  rw [cover_tri x, areaQ_tri x]
  constructor
  · have h0 : sumE (fun _ _ => (0 : Rat)) (edgesL l) = 0 := by
      have := sumE_round (fun _ => (0 : Rat)) l
      have e : sumE (fun _ _ => (0 : Rat)) (edgesL l) = sumE (fun _ _ => (0 : Rat) - 0) (edgesL l) := sumE_congr _ fun _ _ => by grind
      rw [e, this]
    rw [← h0]
    exact sumE_le _ fun e he => (tri_ok hH (h e he)).1
  · have e : sumE (fun a b => ((turnP x a b : Int) : Rat)) (edgesL l) / 2 = sumE (fun a b => ((turnP x a b : Int) : Rat) / 2) (edgesL l) := by
      generalize edgesL l = k
      induction k with
      | nil => unfold sumE; grind
      | cons y k ih => unfold sumE; rw [← ih]; grind
    rw [e]
    exact sumE_le _ fun e he => (tri_ok hH (h e he)).2
/-- What is covered of two parts. -/
theorem covK_x (r : Rc) (k : Int) (h0 : 0 ≤ k) (h1 : k ≤ r.w) (a b : Pl) : covK r a b = covK { r with w := k } a b + covK { r with x := r.x + k, w := r.w - k } a b := by
  unfold covK
  simp only
  have e : ∀ x, (clI r.x r.w x = clI r.x k x ∧ clI (r.x + k) (r.w - k) x = r.x + k) ∨ (clI r.x r.w x = clI (r.x + k) (r.w - k) x ∧ clI r.x k x = r.x + k) := fun x => by unfold clI; omega
  rcases e a.x with ⟨a1, a2⟩ | ⟨a1, a2⟩ <;> rcases e b.x with ⟨b1, b2⟩ | ⟨b1, b2⟩
  · rw [a1, b1, a2, b2, arS_self]; grind
  · rw [a1, b1, a2, b2, arS_add _ _ _ _ ((r.x + k : Int) : Rat)]; grind
  · rw [a1, b1, a2, b2, arS_add _ _ _ _ ((r.x + k : Int) : Rat)]
  · rw [a1, b1, a2, b2, arS_self]; grind
theorem covK_y (r : Rc) (k : Int) (a b : Pl) : covK r a b = covK { r with h := k } a b + covK { r with y := r.y + k, h := r.h - k } a b := by
  unfold covK
  simp only
  have e1 : icQ a b (r.y + k) = icQ a b r.y - k := by unfold icQ; rw [Rat.intCast_add]; grind
  have e2 : ((r.h - k : Int) : Rat) = (r.h : Rat) - k := Rat.intCast_sub _ _
  rw [e1, e2]
  unfold arS
  have h := psi_add (k : Rat) ((r.h : Rat) - k) (icQ a b r.y + slQ a b * clI r.x r.w b.x) (icQ a b r.y + slQ a b * clI r.x r.w a.x)
  have e3 : (k : Rat) + ((r.h : Rat) - k) = r.h := by grind
  have e4 : ∀ x, icQ a b r.y - k + x = icQ a b r.y + x - k := fun x => by grind
  rw [e3] at h
  rw [h, e4, e4]
  grind
theorem cover_x (l : List Pl) (r : Rc) (k : Int) (h0 : 0 ≤ k) (h1 : k ≤ r.w) : coverQ l r = coverQ l { r with w := k } + coverQ l { r with x := r.x + k, w := r.w - k } := by
  unfold coverQ
  rw [← sumE_add]
  exact sumE_congr _ fun e _ => covK_x r k h0 h1 e.1 e.2
theorem cover_y (l : List Pl) (r : Rc) (k : Int) : coverQ l r = coverQ l { r with h := k } + coverQ l { r with y := r.y + k, h := r.h - k } := by
  unfold coverQ
  rw [← sumE_add]
  exact sumE_congr _ fun e _ => covK_y r k e.1 e.2
/-- A polygon inside of the rectangle is covered whole. -/
theorem cover_all {l : List Pl} {r : Rc} (h : ∀ p ∈ l, r.x ≤ p.x ∧ p.x ≤ r.x + r.w ∧ r.y ≤ p.y ∧ p.y ≤ r.y + r.h) (hm : ∀ e ∈ edgesL l, e.1 ∈ l ∧ e.2 ∈ l) : coverQ l r = (area2L l : Rat) / 2 := by
  have hr := sumE_round (fun p => (p.x : Rat) * r.y - (p.x : Rat) * p.y / 2) l
  have e : sumE (covK r) (edgesL l) = sumE (fun a b => ((a.x * b.y - a.y * b.x : Int) : Rat) / 2 + (((b.x : Rat) * r.y - (b.x : Rat) * b.y / 2) - ((a.x : Rat) * r.y - (a.x : Rat) * a.y / 2))) (edgesL l) := by
    refine sumE_congr _ fun e he => ?_
    obtain ⟨m1, m2⟩ := hm e he
    have b1 := h _ m1
    have b2 := h _ m2
    rw [Rat.intCast_sub, Rat.intCast_mul, Rat.intCast_mul]
    unfold covK
    rw [cl_in b1.1 b1.2.1, cl_in b2.1 b2.2.1]
    by_cases hx : e.1.x = e.2.x
    · rw [hx, arS_self]; grind
    · unfold arS
      rw [line_a, line_b r.y hx]
      have i : ∀ p : Pl, r.y ≤ p.y → p.y ≤ r.y + r.h → 0 ≤ (p.y : Rat) - r.y ∧ (p.y : Rat) - r.y ≤ r.h := fun p h1 h2 => by
        have := le_cast h1
        have := le_cast h2
        rw [Rat.intCast_add] at this
        grind
      have i1 := i e.1 b1.2.2.1 b1.2.2.2
      have i2 := i e.2 b2.2.2.1 b2.2.2.2
      rw [psi_in i2.1 i1.1 i2.2 i1.2]
      grind
  unfold coverQ
  rw [e, sumE_add, hr, area_sum]
  generalize edgesL l = k
  have : sumE (fun a b => ((a.x * b.y - a.y * b.x : Int) : Rat) / 2) k = sumE (fun a b => ((a.x * b.y - a.y * b.x : Int) : Rat)) k / 2 := by
    induction k with
    | nil => unfold sumE; grind
    | cons y k ih => unfold sumE; rw [ih]; grind
  rw [this]
  grind
/-! At most one edge to the left is over each column. -/
theorem aff_between {P Q c d k : Int} (h1 : d ≤ k) (h2 : k ≤ c) (h : d < c) (hc : 0 ≤ P + Q * c) (hd : 0 ≤ P + Q * d) : 0 ≤ P + Q * k := by
  have e : (c - d) * (P + Q * k) = (c - k) * (P + Q * d) + (k - d) * (P + Q * c) := by grind
  have m1 := Int.mul_nonneg (show 0 ≤ c - k by omega) hd
  have m2 := Int.mul_nonneg (show 0 ≤ k - d by omega) hc
  exact Int.le_of_mul_le_mul_left (a := c - d) (by omega) (by omega)
theorem turn_both {a b c d : Pl} {k : Int} (b1 : b.x ≤ k) (b2 : k + 1 ≤ a.x) (b3 : d.x ≤ k) (b4 : k + 1 ≤ c.x) (t1 : 0 ≤ turnP a b c) (t2 : 0 ≤ turnP a b d) (t3 : 0 ≤ turnP c d a) (t4 : 0 ≤ turnP c d b) :
    turnP a b c = 0 ∧ turnP a b d = 0 := by
  obtain ⟨Q, hQ⟩ : ∃ Q, Q = (a.x - b.x) * (d.y - c.y) - (c.x - d.x) * (b.y - a.y) := ⟨_, rfl⟩
  obtain ⟨P, hP⟩ : ∃ P, P = (c.x - d.x) * ((a.x - b.x) * a.y + (b.y - a.y) * a.x) - (a.x - b.x) * ((c.x - d.x) * c.y + (d.y - c.y) * c.x) := ⟨_, rfl⟩
  have f1 : P + Q * c.x = (c.x - d.x) * turnP a b c := by unfold turnP; grind
  have f2 : P + Q * d.x = (c.x - d.x) * turnP a b d := by unfold turnP; grind
  have f3 : P + Q * a.x = -((a.x - b.x) * turnP c d a) := by unfold turnP; grind
  have f4 : P + Q * b.x = -((a.x - b.x) * turnP c d b) := by unfold turnP; grind
  have m1 := Int.mul_nonneg (show 0 ≤ c.x - d.x by omega) t1
  have m2 := Int.mul_nonneg (show 0 ≤ c.x - d.x by omega) t2
  have m3 := Int.mul_nonneg (show 0 ≤ a.x - b.x by omega) t3
  have m4 := Int.mul_nonneg (show 0 ≤ a.x - b.x by omega) t4
  have g1 := aff_between (P := P) (Q := Q) b3 (by omega : k ≤ c.x) (by omega) (by omega) (by omega)
  have g2 := aff_between (P := P) (Q := Q) (by omega : d.x ≤ k + 1) b4 (by omega) (by omega) (by omega)
  have n : ∀ x, -P + -Q * x = -(P + Q * x) := fun x => by grind
  have g3 := aff_between (P := -P) (Q := -Q) b1 (by omega : k ≤ a.x) (by omega) (by rw [n]; omega) (by rw [n]; omega)
  have g4 := aff_between (P := -P) (Q := -Q) (by omega : b.x ≤ k + 1) b2 (by omega) (by rw [n]; omega) (by rw [n]; omega)
  rw [n] at g3 g4
  rw [Int.mul_add, Int.mul_one] at g2 g4
  have q0 : Q = 0 := by omega
  subst q0
  rw [Int.zero_mul, Int.add_zero] at f1 f2 g1 g3
  have p0 : P = 0 := by omega
  rw [p0] at f1 f2
  constructor
  · rcases Int.mul_eq_zero.1 f1.symm with h | h
    · omega
    · exact h
  · rcases Int.mul_eq_zero.1 f2.symm with h | h
    · omega
    · exact h
/-- How much of a window an edge to the left is over. -/
def lenI (X W : Int) (e : Pl × Pl) : Int := max 0 (clI X W e.1.x - clI X W e.2.x)
def lenZ (X W : Int) : List (Pl × Pl) → Int
  | [] => 0
  | e :: l => lenI X W e + lenZ X W l
def Apart (e f : Pl × Pl) : Prop := ∀ k : Int, ¬ (e.2.x ≤ k ∧ k + 1 ≤ e.1.x ∧ f.2.x ≤ k ∧ k + 1 ≤ f.1.x)
theorem len_step (X : Int) (w : Nat) (e : Pl × Pl) : lenI X (w + 1 : Nat) e = lenI X w e + (if e.2.x ≤ X + w ∧ X + w + 1 ≤ e.1.x then 1 else 0) := by
  unfold lenI clI
  split <;> omega
theorem lenZ_step (X : Int) (w : Nat) : ∀ l : List (Pl × Pl), l.Pairwise Apart → lenZ X (w + 1 : Nat) l ≤ lenZ X w l + 1 ∧ ((∀ e ∈ l, ¬ (e.2.x ≤ X + w ∧ X + w + 1 ≤ e.1.x)) → lenZ X (w + 1 : Nat) l = lenZ X w l)
  | [], _ => ⟨by unfold lenZ; omega, fun _ => rfl⟩
  | e :: l, h => by
    obtain ⟨h1, h2⟩ := List.pairwise_cons.1 h
    obtain ⟨k1, k2⟩ := lenZ_step X w l h2
    unfold lenZ
    rw [len_step]
    constructor
    · split
      · rename_i hc
        have := k2 fun f hf hc' => h1 f hf (X + w) ⟨hc.1, hc.2, hc'.1, hc'.2⟩
        omega
      · omega
    · intro ha
      rw [if_neg (ha e (by simp)), k2 fun f hf => ha f (by simp [hf])]
      omega
theorem lenZ_le (X : Int) (l : List (Pl × Pl)) (h : l.Pairwise Apart) : ∀ w : Nat, lenZ X w l ≤ w
  | 0 => by
    have z : ∀ l : List (Pl × Pl), lenZ X (0 : Nat) l = 0 := by
      intro l
      induction l with
      | nil => rfl
      | cons e l ih => unfold lenZ; rw [ih]; unfold lenI clI; omega
    rw [z]
    omega
  | w + 1 => by
    have := (lenZ_step X w l h).1
    have := lenZ_le X l h w
    omega
theorem covK_len {r : Rc} (hH : 0 ≤ r.h) (a b : Pl) : covK r a b ≤ ((lenI r.x r.w (a, b) : Int) : Rat) * r.h := by
  have hh := le_cast hH
  unfold covK arS lenI
  generalize hA : clI r.x r.w a.x = A
  generalize hB : clI r.x r.w b.x = B
  have p1 := psi_nonneg (H := (r.h : Rat)) (icQ a b r.y + slQ a b * B) (icQ a b r.y + slQ a b * A) (by grind)
  have p2 := psi_le (H := (r.h : Rat)) (icQ a b r.y + slQ a b * B) (icQ a b r.y + slQ a b * A) (by grind)
  generalize psi _ _ _ = P at *
  rcases Int.le_total A B with h | h
  · rw [show max 0 (A - B) = 0 by omega]
    have hc := le_cast h
    have := Rat.mul_nonneg (show 0 ≤ (B : Rat) - A by grind) p1
    grind
  · rw [show max 0 (A - B) = A - B by omega, Rat.intCast_sub]
    have hc := le_cast h
    have := Rat.mul_nonneg (show 0 ≤ (A : Rat) - B by grind) (show 0 ≤ (r.h : Rat) - P by grind)
    grind
theorem cover_rect {l : List Pl} {r : Rc} (hH : 0 ≤ r.h) (hW : 0 ≤ r.w) (h : (edgesL l).Pairwise Apart) : coverQ l r ≤ (r.w : Rat) * r.h := by
  have h1 : coverQ l r ≤ ((lenZ r.x r.w (edgesL l) : Int) : Rat) * r.h := by
    unfold coverQ
    generalize edgesL l = k
    induction k with
    | nil => unfold sumE lenZ; grind
    | cons e k ih =>
      unfold sumE lenZ
      have := covK_len hH (r := r) e.1 e.2
      rw [Rat.intCast_add]
      grind
  have h2 := lenZ_le r.x (edgesL l) h r.w.toNat
  rw [Int.toNat_of_nonneg hW] at h2
  have h3 := le_cast h2
  have h4 := le_cast hH
  have := Rat.mul_nonneg (show 0 ≤ (r.w : Rat) - (lenZ r.x r.w (edgesL l) : Int) by grind) (show 0 ≤ (r.h : Rat) by grind)
  grind
end Go.Proofs.YtgngepbemgbbeaaGreatDoor

namespace Go.Proofs.YtgngepbemgbbeaaGreatDoor

/-- Bounds of both integers of a fraction. -/
def bdR (A P : Nat) (q : Rat) : Prop := q.num.natAbs ≤ A ∧ q.den ≤ P
theorem bdR.mono {A P A' P' : Nat} {q : Rat} (h : bdR A P q) (h1 : A ≤ A') (h2 : P ≤ P') : bdR A' P' q := ⟨Nat.le_trans h.1 h1, Nat.le_trans h.2 h2⟩
theorem bd_divInt {n d : Int} {A P : Nat} (hd : d ≠ 0) (h1 : n.natAbs ≤ A) (h2 : d.natAbs ≤ P) : bdR A P (Rat.divInt n d) := by
  rcases Int.lt_or_gt_of_ne hd with h | h
  · have e1 := num_neg (p := n) h
    have e2 := den_neg (p := n) h
    constructor
    · rw [e1]
      refine Nat.le_trans (Int.natAbs_ediv_le_natAbs _ _) ?_
      rw [Int.natAbs_neg]
      exact h1
    · have := Int.natAbs_ediv_le_natAbs (-d) ((Nat.gcd (-n).natAbs (-d).natAbs : Nat) : Int)
      rw [← e2, Int.natAbs_neg] at this
      simp at this
      omega
  · have e1 := num_pos (p := n) h
    have e2 := den_pos (p := n) h
    constructor
    · rw [e1]
      exact Nat.le_trans (Int.natAbs_ediv_le_natAbs _ _) h1
    · have := Int.natAbs_ediv_le_natAbs d ((Nat.gcd n.natAbs d.natAbs : Nat) : Int)
      rw [← e2] at this
      simp at this
      omega
theorem bd_frac {n : Int} {d : Nat} {A P : Nat} (hd : 0 < d) (h1 : n.natAbs ≤ A) (h2 : d ≤ P) : bdR A P ((n : Rat) / (d : Int)) := by
  rw [← Rat.divInt_eq_div]
  exact bd_divInt (by omega) h1 (by omega)
theorem bd_int {n : Int} {A : Nat} (h : n.natAbs ≤ A) : bdR A 1 (n : Rat) := ⟨h, Nat.le_refl _⟩
theorem small_nat {z : Int} {k : Nat} (h : z.natAbs ≤ k) (hk : k < 10 ^ 200) : small z = true := by
  rw [small_iff10]
  exact decide_eq_true (by omega)
theorem nabs_mul {a b : Int} {A B : Nat} (ha : a.natAbs ≤ A) (hb : b.natAbs ≤ B) : (a * b).natAbs ≤ A * B := by
  rw [Int.natAbs_mul]
  exact Nat.mul_le_mul ha hb
theorem add_ok {a b : Rat} {A P B Q : Nat} (ha : bdR A P a) (hb : bdR B Q b) (h1 : A * Q + B * P < 10 ^ 200) (h2 : P * Q < 10 ^ 200) : addR a b = some (a + b) ∧ bdR (A * Q + B * P) (P * Q) (a + b) := by
  have m1 := nabs_mul ha.1 (show ((b.den : Int)).natAbs ≤ Q by simpa using hb.2)
  have m2 := nabs_mul hb.1 (show ((a.den : Int)).natAbs ≤ P by simpa using ha.2)
  have m3 : ((a.den : Int) * b.den).natAbs ≤ P * Q := nabs_mul (by simpa using ha.2) (by simpa using hb.2)
  have m4 : (a.num * b.den + b.num * a.den).natAbs ≤ A * Q + B * P := Nat.le_trans (Int.natAbs_add_le _ _) (Nat.add_le_add m1 m2)
  refine ⟨?_, ?_⟩
  · unfold addR
    exact if_pos ⟨small_nat m1 (by omega), small_nat m2 (by omega), small_nat m4 h1, small_nat m3 h2⟩
  · rw [add_eq]
    exact bd_divInt (den_mul_ne a b) m4 m3
theorem sub_ok {a b : Rat} {A P B Q : Nat} (ha : bdR A P a) (hb : bdR B Q b) (h1 : A * Q + B * P < 10 ^ 200) (h2 : P * Q < 10 ^ 200) : subR a b = some (a - b) ∧ bdR (A * Q + B * P) (P * Q) (a - b) := by
  have m1 := nabs_mul ha.1 (show ((b.den : Int)).natAbs ≤ Q by simpa using hb.2)
  have m2 := nabs_mul hb.1 (show ((a.den : Int)).natAbs ≤ P by simpa using ha.2)
  have m3 : ((a.den : Int) * b.den).natAbs ≤ P * Q := nabs_mul (by simpa using ha.2) (by simpa using hb.2)
  have m4 : (a.num * b.den - b.num * a.den).natAbs ≤ A * Q + B * P := Nat.le_trans (Int.natAbs_sub_le _ _) (Nat.add_le_add m1 m2)
  refine ⟨?_, ?_⟩
  · unfold subR
    exact if_pos ⟨small_nat m1 (by omega), small_nat m2 (by omega), small_nat m4 h1, small_nat m3 h2⟩
  · rw [sub_eq]
    exact bd_divInt (den_mul_ne a b) m4 m3
theorem mul_ok {a b : Rat} {A P B Q : Nat} (ha : bdR A P a) (hb : bdR B Q b) (h1 : A * B < 10 ^ 200) (h2 : P * Q < 10 ^ 200) : mulR a b = some (a * b) ∧ bdR (A * B) (P * Q) (a * b) := by
  have m1 := nabs_mul ha.1 hb.1
  have m3 : ((a.den : Int) * b.den).natAbs ≤ P * Q := nabs_mul (by simpa using ha.2) (by simpa using hb.2)
  refine ⟨?_, ?_⟩
  · unfold mulR
    exact if_pos ⟨small_nat m1 h1, small_nat m3 h2⟩
  · rw [mul_eq]
    exact bd_divInt (den_mul_ne a b) m1 m3
theorem div_ok {a b : Rat} {A P B Q : Nat} (ha : bdR A P a) (hb : bdR B Q b) (h0 : b ≠ 0) (h1 : A * Q < 10 ^ 200) (h2 : P * B < 10 ^ 200) : divR a b = some (a / b) ∧ bdR (A * Q) (P * B) (a / b) := by
  have hn : b.num ≠ 0 := fun e => h0 (Rat.num_eq_zero.1 e)
  have m1 := nabs_mul ha.1 (show ((b.den : Int)).natAbs ≤ Q by simpa using hb.2)
  have m3 : ((a.den : Int) * b.num).natAbs ≤ P * B := nabs_mul (by simpa using ha.2) hb.1
  refine ⟨?_, ?_⟩
  · unfold divR
    exact if_pos ⟨small_nat m1 h1, small_nat m3 h2, hn⟩
  · rw [div_eq]
    exact bd_divInt (fun e => by
      rcases Int.mul_eq_zero.1 e with e | e
      · have := rat_dpos a; omega
      · exact hn e) m1 m3
theorem whO_val (n : Int) : whO n = some (n : Rat) := by
  unfold whO makeR
  rw [if_neg (by decide), Rat.divInt_eq_div]
  have : ((1 : Int) : Rat) = 1 := rfl
  rw [this]
  congr 1
  grind
theorem leO_val (a b : Rat) : leO (some a) (some b) = decide (a < b) := by
  unfold leO cmpOO
  refine decide_eq_decide.2 ?_
  rcases cmpR_cases a b with ⟨h, e⟩ | ⟨h, e⟩ | ⟨h, e⟩
  · simp [e, h]
  · subst h; simp [e]
  · have : ¬ a < b := by grind
    simp [e, this]
/-- What the package takes a height for: at least 0, at most H. -/
def cpQ (H z : Rat) : Rat := if z < 0 then 0 else if H < z then H else z
/-- Between heights that cross neither side, the mean is the mean of the ends. -/
theorem psi_ends {H u v : Rat} (hH : 0 ≤ H) (h0 : (u ≤ 0 ∧ v ≤ 0) ∨ (0 ≤ u ∧ 0 ≤ v)) (h1 : (u ≤ H ∧ v ≤ H) ∨ (H ≤ u ∧ H ≤ v)) : psi H u v = (cpQ H u + cpQ H v) / 2 := by
  unfold psi cpQ
  rcases h0 with ⟨a, b⟩ | ⟨a, b⟩ <;> rcases h1 with ⟨c, d⟩ | ⟨c, d⟩
  · rw [phi_non a b, phi_non (by grind) (by grind)]
    have e1 : (if u < 0 then (0 : Rat) else if H < u then H else u) = 0 := by split; rfl; split; grind; grind
    have e2 : (if v < 0 then (0 : Rat) else if H < v then H else v) = 0 := by split; rfl; split; grind; grind
    rw [e1, e2]; grind
  · have : u = 0 := by grind
    have : v = 0 := by grind
    have : H = 0 := by grind
    subst_vars
    rw [phi_non (by grind) (by grind), phi_non (by grind) (by grind)]
    simp
    grind
  · have n1 : ¬ u < 0 := by grind
    have n2 : ¬ v < 0 := by grind
    have n3 : ¬ H < u := by grind
    have n4 : ¬ H < v := by grind
    rw [phi_pos a b, phi_non (by grind) (by grind), if_neg n1, if_neg n2, if_neg n3, if_neg n4]
    grind
  · have n1 : ¬ u < 0 := by grind
    have n2 : ¬ v < 0 := by grind
    rw [phi_pos a b, phi_pos (by grind) (by grind), if_neg n1, if_neg n2]
    have e1 : (if H < u then H else u) = H := by split; rfl; grind
    have e2 : (if H < v then H else v) = H := by split; rfl; grind
    rw [e1, e2]; grind
/-! Sorting, where numbers are there. -/
section
variable {α β : Type} [Inhabited α] [Inhabited β] (f : α → β) {lt : α → α → Bool} {lt' : β → β → Bool} (h : ∀ a b, lt' (f a) (f b) = lt a b)
include h
omit [Inhabited α] [Inhabited β] in
theorem insR_map (x : α) : ∀ r : List α, insR lt' (f x) (r.map f) = (insR lt x r).map f
  | [] => rfl
  | b :: r => by
    have e1 : insR lt' (f x) (f b :: r.map f) = if lt' (f x) (f b) then f b :: insR lt' (f x) (r.map f) else f x :: f b :: r.map f := rfl
    have e2 : insR lt x (b :: r) = if lt x b then b :: insR lt x r else x :: b :: r := rfl
    rw [List.map_cons, e1, e2, h, insR_map x r]
    split
    · rfl
    · rfl
omit [Inhabited α] [Inhabited β] in
theorem foldR_map : ∀ l r : List α, (l.map f).foldl (fun r x => insR lt' x r) (r.map f) = (l.foldl (fun r x => insR lt x r) r).map f
  | [], _ => rfl
  | x :: l, r => by
    show (l.map f).foldl _ (insR lt' (f x) (r.map f)) = _
    rw [insR_map f h]
    exact foldR_map l (insR lt x r)
theorem sortN_map (l : List α) : sortN lt' (l.map f) = (sortN lt l).map f := by
  cases l with
  | nil => rfl
  | cons a l =>
    rw [List.map_cons, sortN_at, sortN_at, List.map_reverse]
    congr 1
    exact foldR_map f h l [a]
end
def ltQ (a b : Rat) : Bool := decide (a < b)
theorem sortQ (l : List Rat) : (sortN ltQ l).Pairwise (· ≤ ·) ∧ (sortN ltQ l).Perm l := by
  have := sortN_sorted (lt := ltQ) (fun x y h => by
    have h := of_decide_eq_true h
    exact decide_eq_false (by grind)) (fun x y z h k => by
    have h := of_decide_eq_false h
    have k := of_decide_eq_false k
    exact decide_eq_false (by grind)) l
  exact ⟨this.1.imp fun {a b} h => by
    have h := of_decide_eq_false h
    grind, this.2⟩
/-- Where a line comes to a height. -/
theorem cross_at {p q s t c : Rat} (hst : s ≤ t) (h : (p + q * s < c ∧ c < p + q * t) ∨ (p + q * t < c ∧ c < p + q * s)) : ∃ x, s < x ∧ x < t ∧ p + q * x = c ∧ q ≠ 0 := by
  have hne : s ≠ t := fun e => by rw [e] at h; grind
  have hst' : 0 < t - s := by grind
  have hq : q ≠ 0 := fun e => by rw [e] at h; grind
  have ex : p + q * ((c - p) / q) = c := by grind
  have k1 : q * ((c - p) / q - s) = c - (p + q * s) := by grind
  have k2 : q * (t - (c - p) / q) = p + q * t - c := by grind
  have k3 : q * (t - s) = (p + q * t) - (p + q * s) := by grind
  refine ⟨(c - p) / q, ?_, ?_, ex, hq⟩
  all_goals
    rcases h with ⟨h1, h2⟩ | ⟨h1, h2⟩
    · have hq0 : 0 < q := by
        rcases Rat.le_total (a := q) (b := 0) with k | k
        · have := Rat.mul_nonneg (show 0 ≤ -q by grind) (show 0 ≤ t - s by grind)
          grind
        · grind
      have m1 : 0 < (c - p) / q - s := (Rat.mul_pos_iff_of_pos_left hq0).1 (by grind)
      have m2 : 0 < t - (c - p) / q := (Rat.mul_pos_iff_of_pos_left hq0).1 (by grind)
      grind
    · have hq0 : 0 < -q := by
        rcases Rat.le_total (a := 0) (b := q) with k | k
        · have := Rat.mul_nonneg k (show 0 ≤ t - s by grind)
          grind
        · grind
      have m1 : 0 < (c - p) / q - s := (Rat.mul_pos_iff_of_pos_left hq0).1 (by grind)
      have m2 : 0 < t - (c - p) / q := (Rat.mul_pos_iff_of_pos_left hq0).1 (by grind)
      grind
/-! An edge to the right. -/
def stQ (a b : Pl) (y : Int) : Rat := (a.x : Rat) + ((y - a.y : Int) : Rat) / slQ a b
section
variable {a b : Pl} {r : Rc} (ha : vP a = true) (hb : vP b = true) (hr : vRc r = true) (hab : a.x < b.x)
include ha hb hab
theorem slope_ok : slopeO a b = some (slQ a b) ∧ bdR 4095 4095 (slQ a b) := by
  have v1 := vP_iff.1 ha
  have v2 := vP_iff.1 hb
  have hx : ((b.x - a.x : Int) : Rat) ≠ 0 := fun e => by
    have := Rat.intCast_eq_zero_iff.1 e
    omega
  have h := div_ok (a := ((b.y - a.y : Int) : Rat)) (b := ((b.x - a.x : Int) : Rat)) (bd_int (A := 4095) (by omega)) (bd_int (A := 4095) (by omega)) hx (by decide) (by decide)
  unfold slopeO ovO lift2
  rw [whO_val, whO_val]
  have e : slQ a b = ((b.y - a.y : Int) : Rat) / ((b.x - a.x : Int) : Rat) := by unfold slQ; rw [Rat.intCast_sub, Rat.intCast_sub]
  rw [e]
  exact ⟨h.1, h.2.mono (by decide) (by decide)⟩
omit ha hb in
theorem slope_ne (hy : a.y ≠ b.y) : slQ a b ≠ 0 := by
  have h1 := cast_ne hy
  have h2 := cast_ne (show a.x ≠ b.x by omega)
  unfold slQ
  intro e
  have : (b.y : Rat) - a.y = 0 := by grind
  exact h1 this
theorem stop_ok {y : Int} (hy : a.y ≠ b.y) (h0 : 0 ≤ y) (h1 : y ≤ 4095) : stopO a b y = some (stQ a b y) ∧ bdR (2 * 4095 ^ 2) 4095 (stQ a b y) := by
  have v1 := vP_iff.1 ha
  obtain ⟨s1, s2⟩ := slope_ok ha hb hab
  have d := div_ok (a := ((y - a.y : Int) : Rat)) (bd_int (A := 4095) (by omega)) s2 (slope_ne hab hy) (by decide) (by decide)
  have p := add_ok (a := (a.x : Rat)) (bd_int (A := 4095) (by omega)) d.2 (by decide) (by decide)
  unfold stopO ovO plO
  rw [whO_val, whO_val, s1]
  simp only [lift2, d.1, p.1]
  exact ⟨rfl, p.2.mono (by decide) (by decide)⟩
include hr
theorem height_ok {x : Rat} (hx : bdR (2 * 4095 ^ 2) 4095 x) : withinO r (heightO a b (some x)) = some (cpQ r.h (icQ a b r.y + slQ a b * x)) ∧ bdR (5 * 4095 ^ 3) (4095 ^ 2) (cpQ r.h (icQ a b r.y + slQ a b * x)) := by
  have v1 := vP_iff.1 ha
  have v2 := vRc_iff.1 hr
  obtain ⟨s1, s2⟩ := slope_ok ha hb hab
  have d := sub_ok (b := (a.x : Rat)) hx (bd_int (A := 4095) (by omega)) (by decide) (by decide)
  have m := mul_ok s2 d.2 (by decide) (by decide)
  have p := add_ok (a := (a.y : Rat)) (bd_int (A := 4095) (by omega)) m.2 (by decide) (by decide)
  have z := sub_ok (b := (r.y : Rat)) p.2 (bd_int (A := 4095) (by omega)) (by decide) (by decide)
  have e : (a.y : Rat) + slQ a b * (x - a.x) - r.y = icQ a b r.y + slQ a b * x := by unfold icQ; grind
  rw [e] at z
  unfold withinO heightO
  rw [whO_val, whO_val, whO_val, whO_val, whO_val, s1]
  simp only [plO, tiO, miO, lift2, d.1, m.1, p.1, z.1, leO_val]
  unfold cpQ
  have z0 : ((0 : Int) : Rat) = 0 := rfl
  rw [z0]
  by_cases c1 : icQ a b r.y + slQ a b * x < 0
  · rw [if_pos (decide_eq_true c1), if_pos c1]
    exact ⟨rfl, by decide, by decide⟩
  · rw [if_neg (by simpa using c1), if_neg c1]
    by_cases c2 : (r.h : Rat) < icQ a b r.y + slQ a b * x
    · rw [if_pos (decide_eq_true c2), if_pos c2]
      exact ⟨rfl, (bd_int (A := 4095) (by omega)).mono (by decide) (by decide)⟩
    · rw [if_neg (by simpa using c2), if_neg c2]
      exact ⟨rfl, z.2.mono (by decide) (by decide)⟩
theorem part_ok {s t : Rat} (hs : bdR (2 * 4095 ^ 2) 4095 s) (ht : bdR (2 * 4095 ^ 2) 4095 t) :
    partO a b r (some s) (some t) = some ((cpQ r.h (icQ a b r.y + slQ a b * s) + cpQ r.h (icQ a b r.y + slQ a b * t)) / 2 * (t - s)) ∧ bdR (10 ^ 31) (10 ^ 31) ((cpQ r.h (icQ a b r.y + slQ a b * s) + cpQ r.h (icQ a b r.y + slQ a b * t)) / 2 * (t - s)) := by
  obtain ⟨h1, h2⟩ := height_ok ha hb hr hab hs
  obtain ⟨k1, k2⟩ := height_ok ha hb hr hab ht
  have p := add_ok h2 k2 (by decide) (by decide)
  have two : ((2 : Int) : Rat) ≠ 0 := by decide
  have d := div_ok (b := ((2 : Int) : Rat)) p.2 (bd_int (A := 2) (by decide)) two (by decide) (by decide)
  have m := sub_ok ht hs (by decide) (by decide)
  have u := mul_ok d.2 m.2 (by decide) (by decide)
  unfold partO
  rw [h1, k1, whO_val]
  simp only [plO, ovO, tiO, miO, lift2, p.1, d.1, m.1, u.1]
  exact ⟨rfl, u.2.mono (by decide) (by decide)⟩
theorem sum_run (L R : Rat) : ∀ (l : List Rat) (s acc : Rat) (k : Nat), (s :: l).Pairwise (· ≤ ·) → (∀ x ∈ s :: l, L ≤ x ∧ x ≤ R ∧ bdR (2 * 4095 ^ 2) 4095 x) →
    (∀ x, L < x → x < R → slQ a b ≠ 0 → (icQ a b r.y + slQ a b * x = 0 ∨ icQ a b r.y + slQ a b * x = r.h) → x ≤ s ∨ x ∈ l) → k + l.length ≤ 4 → bdR ((k + 1) * (10 ^ 31) ^ k) ((10 ^ 31) ^ k) acc →
    ∃ e, (s :: l).getLast? = some e ∧ sumO a b r ((s :: l).map some) (some acc) = some (acc + arS r.h (icQ a b r.y) (slQ a b) s e)
  | [], s, acc, _, _, _, _, _, _ => ⟨s, rfl, by
      show some acc = _
      rw [arS_self]
      congr 1
      grind⟩
  | t :: l, s, acc, k, hp, hm, hc, hk, ha' => by
    have v2 := vRc_iff.1 hr
    have hH : (0 : Rat) ≤ r.h := le_cast v2.2.2.2.2.2.2.1
    obtain ⟨p1, p2⟩ := List.pairwise_cons.1 hp
    have hst := p1 t (by simp)
    have ms := hm s (by simp)
    have mt := hm t (by simp)
    obtain ⟨q1, q2⟩ := part_ok ha hb hr hab ms.2.2 mt.2.2
    have no : ∀ c, (c = 0 ∨ c = (r.h : Rat)) → ¬ ((icQ a b r.y + slQ a b * s < c ∧ c < icQ a b r.y + slQ a b * t) ∨ (icQ a b r.y + slQ a b * t < c ∧ c < icQ a b r.y + slQ a b * s)) := fun c hcc hx => by
      obtain ⟨x, x1, x2, x3, x4⟩ := cross_at hst hx
      rcases hc x (by grind) (by grind) x4 (by rcases hcc with rfl | rfl; exact .inl x3; exact .inr x3) with h | h
      · grind
      · rcases List.mem_cons.1 h with h | h
        · grind
        · have := (List.pairwise_cons.1 p2).1 x h
          grind
    have n0 := no 0 (.inl rfl)
    have n1 := no r.h (.inr rfl)
    have ep : (cpQ r.h (icQ a b r.y + slQ a b * s) + cpQ r.h (icQ a b r.y + slQ a b * t)) / 2 * (t - s) = arS r.h (icQ a b r.y) (slQ a b) s t := by
      unfold arS
      rw [psi_ends hH (by grind) (by grind)]
      grind
    rw [ep] at q1 q2
    have hk4 : k = 0 ∨ k = 1 ∨ k = 2 ∨ k = 3 := by simp only [List.length_cons] at hk; omega
    have sm : ((k + 1) * (10 ^ 31) ^ k) * 10 ^ 31 + 10 ^ 31 * (10 ^ 31) ^ k < 10 ^ 200 ∧ (10 ^ 31) ^ k * 10 ^ 31 < 10 ^ 200 := by
      rcases hk4 with rfl | rfl | rfl | rfl <;> decide
    obtain ⟨s1, s2⟩ := add_ok ha' q2 sm.1 sm.2
    obtain ⟨e, e1, e2⟩ := sum_run L R l t (acc + arS r.h (icQ a b r.y) (slQ a b) s t) (k + 1) p2 (fun x hx => hm x (List.mem_cons_of_mem _ hx)) (fun x x1 x2 x3 x4 => by
      rcases hc x x1 x2 x3 x4 with h | h
      · exact .inl (by grind)
      · rcases List.mem_cons.1 h with h | h
        · exact .inl (by grind)
        · exact .inr h) (by simp only [List.length_cons] at hk; omega) (s2.mono (by
      rw [Nat.pow_succ]
      have : (10 ^ 31) ^ k * 10 ^ 31 = 10 ^ 31 * (10 ^ 31) ^ k := Nat.mul_comm _ _
      grind) (by rw [Nat.pow_succ]; exact Nat.le_refl _))
    refine ⟨e, by rw [List.getLast?_cons_cons]; exact e1, ?_⟩
    show sumO a b r ((t :: l).map some) (plO (some acc) (partO a b r (some s) (some t))) = _
    rw [q1]
    show sumO a b r ((t :: l).map some) (addR acc _) = _
    rw [s1, e2, arS_add r.h _ _ s t e]
    congr 1
    grind
end
theorem stops_eq {a b : Pl} {r : Rc} (ha : vP a = true) (hb : vP b = true) (hr : vRc r = true) (hab : a.x < b.x) : ∃ S : List Rat, stopsO a b r = S.map some ∧ S.length ≤ 4 ∧ ((max a.x r.x : Int) : Rat) ∈ S ∧ ((min b.x (r.x + r.w) : Int) : Rat) ∈ S ∧
    (∀ x ∈ S, x = ((max a.x r.x : Int) : Rat) ∨ x = ((min b.x (r.x + r.w) : Int) : Rat) ∨ (((max a.x r.x : Int) : Rat) < x ∧ x < ((min b.x (r.x + r.w) : Int) : Rat) ∧ bdR (2 * 4095 ^ 2) 4095 x)) ∧
    (∀ x, ((max a.x r.x : Int) : Rat) < x → x < ((min b.x (r.x + r.w) : Int) : Rat) → slQ a b ≠ 0 → (icQ a b r.y + slQ a b * x = 0 ∨ icQ a b r.y + slQ a b * x = r.h) → x ∈ S) := by
  have v1 := vP_iff.1 ha
  have v2 := vRc_iff.1 hr
  obtain ⟨L, hL⟩ : ∃ L : Rat, L = ((max a.x r.x : Int) : Rat) := ⟨_, rfl⟩
  obtain ⟨R, hR⟩ : ∃ R : Rat, R = ((min b.x (r.x + r.w) : Int) : Rat) := ⟨_, rfl⟩
  have eL : leftO a r = some L := by unfold leftO; rw [whO_val, hL]
  have eR : rightO b r = some R := by unfold rightO; rw [whO_val, hR]
  rw [← hL, ← hR]
  unfold stopsO
  rw [eL, eR]
  by_cases hy : a.y = b.y
  · refine ⟨[L, R], ?_, by simp, by simp, by simp, fun x hx => ?_, fun x _ _ h0 _ => ?_⟩
    · have e : (List.filter (fun y => decide (a.y ≠ b.y) && leO (some L) (stopO a b y) && leO (stopO a b y) (some R)) [r.y, r.y + r.h]) = [] := by
        rw [List.filter_eq_nil_iff]
        intro y _
        simp [hy]
      rw [e]
      rfl
    · simp only [List.mem_cons, List.not_mem_nil, or_false] at hx
      rcases hx with h | h
      · exact .inl h
      · exact .inr (.inl h)
    · exfalso
      refine h0 ?_
      unfold slQ
      rw [hy]
      grind
  · have st : ∀ y ∈ [r.y, r.y + r.h], stopO a b y = some (stQ a b y) ∧ bdR (2 * 4095 ^ 2) 4095 (stQ a b y) := fun y hyy => by
      simp only [List.mem_cons, List.not_mem_nil, or_false] at hyy
      exact stop_ok ha hb hab hy (by omega) (by omega)
    have e1 : List.filter (fun y => decide (a.y ≠ b.y) && leO (some L) (stopO a b y) && leO (stopO a b y) (some R)) [r.y, r.y + r.h] = List.filter (fun y => decide (L < stQ a b y) && decide (stQ a b y < R)) [r.y, r.y + r.h] := by
      refine List.filter_congr fun y hyy => ?_
      rw [(st y hyy).1, leO_val, leO_val, decide_eq_true hy, Bool.true_and]
    rw [e1]
    have e2 : (List.filter (fun y => decide (L < stQ a b y) && decide (stQ a b y < R)) [r.y, r.y + r.h]).map (stopO a b) = ((List.filter (fun y => decide (L < stQ a b y) && decide (stQ a b y < R)) [r.y, r.y + r.h]).map (stQ a b)).map some := by
      rw [List.map_map]
      exact List.map_congr_left fun y hyy => (st y (List.mem_filter.1 hyy).1).1
    rw [e2]
    have hlen : (List.filter (fun y => decide (L < stQ a b y) && decide (stQ a b y < R)) [r.y, r.y + r.h]).length ≤ 2 := List.length_filter_le _ _
    refine ⟨[L, R] ++ (List.filter (fun y => decide (L < stQ a b y) && decide (stQ a b y < R)) [r.y, r.y + r.h]).map (stQ a b), by simp, by simp only [List.length_append, List.length_map, List.length_cons, List.length_nil]; omega, by simp, by simp, fun x hx => ?_, fun x x1 x2 h0 hc => ?_⟩
    · rcases List.mem_append.1 hx with hx | hx
      · simp only [List.mem_cons, List.not_mem_nil, or_false] at hx
        rcases hx with h | h
        · exact .inl h
        · exact .inr (.inl h)
      · obtain ⟨y, hy1, rfl⟩ := List.mem_map.1 hx
        obtain ⟨hy2, hy3⟩ := List.mem_filter.1 hy1
        simp only [Bool.and_eq_true, decide_eq_true_eq] at hy3
        exact .inr (.inr ⟨hy3.1, hy3.2, (st y hy2).2⟩)
    · refine List.mem_append.2 (.inr (List.mem_map.2 ?_))
      have key : ∀ y : Int, icQ a b r.y + slQ a b * x = (y : Rat) - r.y → x = stQ a b y := fun y h => by
        have : slQ a b * (x - a.x) = (y : Rat) - a.y := by unfold icQ at h; grind
        unfold stQ
        rw [Rat.intCast_sub]
        grind
      rcases hc with h | h
      · have e := key r.y (by grind)
        exact ⟨r.y, List.mem_filter.2 ⟨by simp, by rw [← e]; simp [x1, x2]⟩, e.symm⟩
      · have e := key (r.y + r.h) (by rw [Rat.intCast_add]; grind)
        exact ⟨r.y + r.h, List.mem_filter.2 ⟨by simp, by rw [← e]; simp [x1, x2]⟩, e.symm⟩
/-- What the package computes of an edge is there, and is what is under it. -/
theorem under_ok {a b : Pl} {r : Rc} (ha : vP a = true) (hb : vP b = true) (hr : vRc r = true) (hab : a.x ≤ b.x) : underO a b r = some (-(covK r a b)) := by
  have v1 := vP_iff.1 ha
  have v2 := vRc_iff.1 hr
  have v3 := vP_iff.1 hb
  unfold underO
  have eL : leftO a r = some ((max a.x r.x : Int) : Rat) := by unfold leftO; rw [whO_val]
  have eR : rightO b r = some ((min b.x (r.x + r.w) : Int) : Rat) := by unfold rightO; rw [whO_val]
  rw [eL, eR, leO_val]
  by_cases hLR : max a.x r.x < min b.x (r.x + r.w)
  · have hLR' : ((max a.x r.x : Int) : Rat) < ((min b.x (r.x + r.w) : Int) : Rat) := Rat.intCast_lt_intCast.2 hLR
    rw [if_pos (decide_eq_true hLR')]
    have hlt : a.x < b.x := by omega
    obtain ⟨S, e1, e2, e3, e4, e5, e6⟩ := stops_eq ha hb hr hlt
    obtain ⟨so, sp⟩ := sortQ S
    rw [e1, sortN_map (lt := ltQ) some (fun a b => leO_val a b) S, whO_val]
    have cA : clI r.x r.w a.x = max a.x r.x := by unfold clI; omega
    have cB : clI r.x r.w b.x = min b.x (r.x + r.w) := by unfold clI; omega
    have bL : bdR (2 * 4095 ^ 2) 4095 ((max a.x r.x : Int) : Rat) := (bd_int (A := 4095) (by omega)).mono (by decide) (by decide)
    have bR : bdR (2 * 4095 ^ 2) 4095 ((min b.x (r.x + r.w) : Int) : Rat) := (bd_int (A := 4095) (by omega)).mono (by decide) (by decide)
    unfold covK
    rw [cA, cB, arS_anti]
    generalize ((max a.x r.x : Int) : Rat) = L at *
    generalize ((min b.x (r.x + r.w) : Int) : Rat) = R at *
    have hin : ∀ x ∈ sortN ltQ S, L ≤ x ∧ x ≤ R ∧ bdR (2 * 4095 ^ 2) 4095 x := fun x hx => by
      rcases e5 x (sp.mem_iff.1 hx) with rfl | rfl | ⟨k1, k2, k3⟩
      · exact ⟨Rat.le_refl, by grind, bL⟩
      · exact ⟨by grind, Rat.le_refl, bR⟩
      · exact ⟨by grind, by grind, k3⟩
    have hlen : (sortN ltQ S).length ≤ 4 := by rw [sortN_length]; exact e2
    have mL := sp.mem_iff.2 e3
    have mR := sp.mem_iff.2 e4
    have hc : ∀ x, L < x → x < R → slQ a b ≠ 0 → (icQ a b r.y + slQ a b * x = 0 ∨ icQ a b r.y + slQ a b * x = r.h) → x ∈ sortN ltQ S := fun x x1 x2 x3 x4 => sp.mem_iff.2 (e6 x x1 x2 x3 x4)
    cases hs : sortN ltQ S with
    | nil => rw [hs] at mL; cases mL
    | cons s l =>
      rw [hs] at so hin hlen mL mR hc
      have hsL : s = L := by
        have h1 := (hin s (by simp)).1
        rcases List.mem_cons.1 mL with h | h
        · exact h.symm
        · have := (List.pairwise_cons.1 so).1 L h
          grind
      obtain ⟨e, g1, g2⟩ := sum_run ha hb hr hlt L R l s ((0 : Int) : Rat) 0 so hin (fun x x1 x2 x3 x4 => by
        rcases List.mem_cons.1 (hc x x1 x2 x3 x4) with h | h
        · exact .inl (by grind)
        · exact .inr h) (by simp only [List.length_cons] at hlen; omega) ⟨by decide, by decide⟩
      have heR : e = R := by
        have h1 := (hin e (List.mem_of_getLast? g1)).2.1
        have h2 : ∀ (l : List Rat) (e : Rat), l.Pairwise (· ≤ ·) → l.getLast? = some e → ∀ x ∈ l, x ≤ e := by
          intro l e hp hl x hx
          rcases List.eq_nil_or_concat l with rfl | ⟨k, y, rfl⟩
          · cases hx
          · rw [List.concat_eq_append] at hp hl hx
            rw [List.getLast?_append] at hl
            cases hl
            rcases List.mem_append.1 hx with hx | hx
            · exact (List.pairwise_append.1 hp).2.2 x hx _ (by simp)
            · rw [List.mem_singleton.1 hx]; exact Rat.le_refl
        have h3 := h2 _ e so g1 R mR
        grind
      rw [g2, hsL, heR]
      congr 1
      have : ((0 : Int) : Rat) = 0 := rfl
      rw [this]
      grind
  · have hLR' : ¬ ((max a.x r.x : Int) : Rat) < ((min b.x (r.x + r.w) : Int) : Rat) := fun h => hLR (Rat.intCast_lt_intCast.1 h)
    rw [if_neg (by simpa using hLR'), whO_val]
    have e : clI r.x r.w a.x = clI r.x r.w b.x := by unfold clI; omega
    unfold covK
    rw [e, arS_self]
    congr 1
end Go.Proofs.YtgngepbemgbbeaaGreatDoor

namespace Go.Proofs.YtgngepbemgbbeaaGreatDoor

theorem cast_zero_ne {n : Int} (h : n ≠ 0) : (n : Rat) ≠ 0 := fun e => h (Rat.intCast_eq_zero_iff.1 e)
/-- A fraction of bounded denominator. -/
def rpR (D M : Nat) (k : Nat) (q : Rat) : Prop := (∃ n e : Int, e ≠ 0 ∧ e.natAbs ≤ D ^ k ∧ q = (n : Rat) / e) ∧ -((k * M : Nat) : Rat) ≤ q ∧ q ≤ ((k * M : Nat) : Rat)
theorem rpR.bd {D M k : Nat} {q : Rat} (h : rpR D M k q) : bdR (k * M * D ^ k) (D ^ k) q := by
  obtain ⟨⟨n, e, he, hd, hq⟩, h1, h2⟩ := h
  have hen := cast_zero_ne he
  have hn : (n : Rat) = q * e := by rw [hq]; grind
  have hb : n.natAbs ≤ k * M * e.natAbs := by
    have c1 : (((k * M : Nat) : Int) : Rat) = ((k * M : Nat) : Rat) := rfl
    rcases Int.lt_or_gt_of_ne he with hs | hs
    · have ep : (0 : Rat) < -(e : Rat) := by
        have := Rat.intCast_lt_intCast.2 hs
        have z : ((0 : Int) : Rat) = 0 := rfl
        grind
      have u1 := Rat.mul_nonneg (show 0 ≤ ((k * M : Nat) : Rat) - q by grind) (Rat.le_of_lt ep)
      have u2 := Rat.mul_nonneg (show 0 ≤ q + ((k * M : Nat) : Rat) by grind) (Rat.le_of_lt ep)
      have g1 : ((-(((k * M : Nat) : Int) * -e) : Int) : Rat) ≤ (n : Rat) := by
        rw [Rat.intCast_neg, Rat.intCast_mul, Rat.intCast_neg, c1]; grind
      have g2 : (n : Rat) ≤ (((((k * M : Nat) : Int) * -e) : Int) : Rat) := by
        rw [Rat.intCast_mul, Rat.intCast_neg, c1]; grind
      have g1 := Rat.intCast_le_intCast.1 g1
      have g2 := Rat.intCast_le_intCast.1 g2
      have he2 : (e.natAbs : Int) = -e := by omega
      have e1 : ((k * M * e.natAbs : Nat) : Int) = ((k * M : Nat) : Int) * -e := by
        rw [← he2]
        exact Int.natCast_mul _ _
      omega
    · have ep : (0 : Rat) < (e : Rat) := by
        have := Rat.intCast_lt_intCast.2 hs
        have z : ((0 : Int) : Rat) = 0 := rfl
        grind
      have u1 := Rat.mul_nonneg (show 0 ≤ ((k * M : Nat) : Rat) - q by grind) (Rat.le_of_lt ep)
      have u2 := Rat.mul_nonneg (show 0 ≤ q + ((k * M : Nat) : Rat) by grind) (Rat.le_of_lt ep)
      have g1 : ((-(((k * M : Nat) : Int) * e) : Int) : Rat) ≤ (n : Rat) := by
        rw [Rat.intCast_neg, Rat.intCast_mul, c1]; grind
      have g2 : (n : Rat) ≤ (((((k * M : Nat) : Int) * e) : Int) : Rat) := by
        rw [Rat.intCast_mul, c1]; grind
      have g1 := Rat.intCast_le_intCast.1 g1
      have g2 := Rat.intCast_le_intCast.1 g2
      have he2 : (e.natAbs : Int) = e := by omega
      have e1 : ((k * M * e.natAbs : Nat) : Int) = ((k * M : Nat) : Int) * e := by
        rw [show ((k * M * e.natAbs : Nat) : Int) = ((k * M : Nat) : Int) * (e.natAbs : Int) from Int.natCast_mul _ _, he2]
      omega
  rw [hq, ← Rat.divInt_eq_div]
  exact bd_divInt he (Nat.le_trans hb (Nat.mul_le_mul_left _ hd)) hd
theorem rpR.zero (D M : Nat) : rpR D M 0 0 := ⟨⟨0, 1, by decide, by simp, by grind⟩, by simp, by simp⟩
theorem rpR.add {D M k : Nat} {a b : Rat} (ha : rpR D M k a) (hb : rpR D M 1 b) (h : (k + 1) * M * D ^ (k + 1) < 10 ^ 200) (hD : D ^ (k + 1) < 10 ^ 200) : addR a b = some (a + b) ∧ rpR D M (k + 1) (a + b) := by
  have b1 := ha.bd
  have b2 := hb.bd
  have e1 : D ^ k * D ^ 1 = D ^ (k + 1) := by rw [Nat.pow_one, Nat.pow_succ]
  have e2 : k * M * D ^ k * D ^ 1 + 1 * M * D ^ 1 * D ^ k = (k + 1) * M * D ^ (k + 1) := by
    rw [Nat.pow_one, Nat.pow_succ, Nat.add_mul, Nat.add_mul, Nat.one_mul, Nat.mul_assoc (k * M), Nat.mul_assoc M, Nat.mul_comm D]
  have s := add_ok b1 b2 (by rw [e2]; exact h) (by rw [e1]; exact hD)
  refine ⟨s.1, ?_, ?_, ?_⟩
  · obtain ⟨⟨n1, d1, h1, k1, q1⟩, _⟩ := ha
    obtain ⟨⟨n2, d2, h2, k2, q2⟩, _⟩ := hb
    refine ⟨n1 * d2 + n2 * d1, d1 * d2, Int.mul_ne_zero h1 h2, ?_, ?_⟩
    · rw [Int.natAbs_mul, ← e1]
      exact Nat.mul_le_mul k1 k2
    · have c1 := cast_zero_ne h1
      have c2 := cast_zero_ne h2
      rw [q1, q2, Rat.intCast_add, Rat.intCast_mul, Rat.intCast_mul, Rat.intCast_mul]
      grind
  · have x1 := ha.2.1
    have x2 := hb.2.1
    have : ((((k + 1) * M : Nat)) : Rat) = ((k * M : Nat) : Rat) + ((1 * M : Nat) : Rat) := by rw [Nat.add_mul, Rat.natCast_add]
    grind
  · have x1 := ha.2.2
    have x2 := hb.2.2
    have : ((((k + 1) * M : Nat)) : Rat) = ((k * M : Nat) : Rat) + ((1 * M : Nat) : Rat) := by rw [Nat.add_mul, Rat.natCast_add]
    grind
/-- What is under a line of integers, as a fraction. -/
theorem phi_frac {X Y U V dx dy : Int} (hx : dx ≠ 0) (hV : V - U = dy * (Y - X)) : ∃ n : Int, ((Y : Rat) - X) * phi ((U : Rat) / dx) ((V : Rat) / dx) = (n : Rat) / ((2 * dx * (if dy = 0 then 1 else dy) : Int) : Rat) := by
  have cx := cast_zero_ne hx
  have hV' : (V : Rat) - U = dy * ((Y : Rat) - X) := by
    have := congrArg (fun z : Int => (z : Rat)) hV
    simp only [Rat.intCast_sub, Rat.intCast_mul] at this
    exact this
  by_cases hy : dy = 0
  · rw [if_pos hy]
    have hUV : (V : Rat) = U := by rw [hy] at hV'; have z : ((0 : Int) : Rat) = 0 := rfl; rw [z] at hV'; grind
    rw [hUV]
    by_cases hu : (0 : Rat) ≤ (U : Rat) / dx
    · refine ⟨(Y - X) * (2 * U), ?_⟩
      rw [phi_pos hu hu]
      simp only [Rat.intCast_sub, Rat.intCast_mul]
      have z1 : ((1 : Int) : Rat) = 1 := rfl
      have z2 : ((2 : Int) : Rat) = 2 := rfl
      rw [z1, z2]
      grind
    · refine ⟨0, ?_⟩
      rw [phi_non (by grind) (by grind)]
      have z0 : ((0 : Int) : Rat) = 0 := rfl
      rw [z0]
      grind
  · rw [if_neg hy]
    have cy := cast_zero_ne hy
    have z2 : ((2 : Int) : Rat) = 2 := rfl
    have z0 : ((0 : Int) : Rat) = 0 := rfl
    unfold phi
    by_cases hu : (0 : Rat) ≤ (U : Rat) / dx <;> by_cases hv : (0 : Rat) ≤ (V : Rat) / dx <;> simp only [hu, hv, if_true, if_false]
    · refine ⟨(Y - X) * (U + V) * dy, ?_⟩
      simp only [Rat.intCast_sub, Rat.intCast_mul, Rat.intCast_add]
      rw [z2]
      grind
    · refine ⟨-(U * U), ?_⟩
      have hne : (U : Rat) - V ≠ 0 := fun e => by
        have : (U : Rat) = V := by grind
        rw [this] at hu
        exact hv hu
      simp only [Rat.intCast_neg, Rat.intCast_mul]
      rw [z2]
      have hyx : (Y : Rat) - X ≠ 0 := fun e => by rw [e] at hV'; grind
      have e1 : (U : Rat) / dx - (V : Rat) / dx = -(dy / dx) * ((Y : Rat) - X) := by grind
      rw [e1, cut_den hyx]
      grind
    · refine ⟨V * V, ?_⟩
      have hne : (V : Rat) - U ≠ 0 := fun e => by
        have : (V : Rat) = U := by grind
        rw [this] at hv
        exact hu hv
      simp only [Rat.intCast_mul]
      rw [z2]
      have hyx : (Y : Rat) - X ≠ 0 := fun e => by rw [e] at hV'; grind
      have e1 : (V : Rat) / dx - (U : Rat) / dx = (dy / dx) * ((Y : Rat) - X) := by grind
      rw [e1, cut_den hyx]
      grind
    · refine ⟨0, ?_⟩
      rw [z0]
      grind
theorem covK_rp {a b : Pl} {r : Rc} (B : Nat) (hr : vRc r = true) (hx : (b.x - a.x).natAbs ≤ B) (hy : (b.y - a.y).natAbs ≤ B) (hB : 1 ≤ B) : rpR (2 * B * B) (4095 * 4095) 1 (covK r a b) := by
  have v := vRc_iff.1 hr
  refine ⟨?_, ?_⟩
  · by_cases hab : a.x = b.x
    · refine ⟨0, 1, by decide, ?_, ?_⟩
      · rw [Nat.pow_one]
        exact Nat.mul_pos (show 0 < 2 * B by omega) (by omega)
      · unfold covK
        rw [hab, arS_self]
        have z0 : ((0 : Int) : Rat) = 0 := rfl
        rw [z0]
        grind
    · have hdx : b.x - a.x ≠ 0 := by omega
      have cdx := cast_zero_ne hdx
      obtain ⟨X, hX⟩ : ∃ X, X = clI r.x r.w b.x := ⟨_, rfl⟩
      obtain ⟨Y, hY⟩ : ∃ Y, Y = clI r.x r.w a.x := ⟨_, rfl⟩
      have key : ∀ z : Int, icQ a b r.y + slQ a b * z = (((a.y - r.y) * (b.x - a.x) + (b.y - a.y) * (z - a.x) : Int) : Rat) / ((b.x - a.x : Int) : Rat) := fun z => by
        unfold icQ slQ
        simp only [Rat.intCast_add, Rat.intCast_mul, Rat.intCast_sub] at cdx ⊢
        grind
      have key2 : ∀ z : Int, icQ a b r.y + slQ a b * z - r.h = (((a.y - r.y - r.h) * (b.x - a.x) + (b.y - a.y) * (z - a.x) : Int) : Rat) / ((b.x - a.x : Int) : Rat) := fun z => by
        unfold icQ slQ
        simp only [Rat.intCast_add, Rat.intCast_mul, Rat.intCast_sub] at cdx ⊢
        grind
      obtain ⟨n1, e1⟩ := phi_frac (X := X) (Y := Y) (U := (a.y - r.y) * (b.x - a.x) + (b.y - a.y) * (X - a.x)) (V := (a.y - r.y) * (b.x - a.x) + (b.y - a.y) * (Y - a.x)) (dy := b.y - a.y) hdx (by grind)
      obtain ⟨n2, e2⟩ := phi_frac (X := X) (Y := Y) (U := (a.y - r.y - r.h) * (b.x - a.x) + (b.y - a.y) * (X - a.x)) (V := (a.y - r.y - r.h) * (b.x - a.x) + (b.y - a.y) * (Y - a.x)) (dy := b.y - a.y) hdx (by grind)
      refine ⟨n1 - n2, 2 * (b.x - a.x) * (if b.y - a.y = 0 then 1 else b.y - a.y), ?_, ?_, ?_⟩
      · refine Int.mul_ne_zero (by omega) ?_
        split <;> omega
      · rw [Nat.pow_one, Int.natAbs_mul, Int.natAbs_mul]
        have h1 : (if b.y - a.y = 0 then 1 else b.y - a.y : Int).natAbs ≤ B := by split <;> omega
        exact Nat.mul_le_mul (Nat.mul_le_mul_left 2 hx) h1
      · unfold covK arS psi
        rw [← hX, ← hY, key, key, ← key, ← key, key2, key2, key, key]
        rw [Rat.intCast_sub n1]
        generalize ((2 * (b.x - a.x) * (if b.y - a.y = 0 then 1 else b.y - a.y) : Int) : Rat) = E at *
        grind
  · have hH : (0 : Rat) ≤ r.h := le_cast v.2.2.2.2.2.2.1
    have c1 : 0 ≤ clI r.x r.w a.x ∧ clI r.x r.w a.x ≤ 4095 := by unfold clI; omega
    have c2 : 0 ≤ clI r.x r.w b.x ∧ clI r.x r.w b.x ≤ 4095 := by unfold clI; omega
    have p1 := psi_nonneg (icQ a b r.y + slQ a b * clI r.x r.w b.x) (icQ a b r.y + slQ a b * clI r.x r.w a.x) hH
    have p2 := psi_le (icQ a b r.y + slQ a b * clI r.x r.w b.x) (icQ a b r.y + slQ a b * clI r.x r.w a.x) hH
    have hh : (r.h : Rat) ≤ 4095 := le_cast (show r.h ≤ 4095 by omega)
    unfold covK arS
    generalize psi (r.h : Rat) (icQ a b r.y + slQ a b * clI r.x r.w b.x) (icQ a b r.y + slQ a b * clI r.x r.w a.x) = P at *
    have d1 : (clI r.x r.w a.x : Rat) ≤ 4095 := le_cast c1.2
    have d2 : (0 : Rat) ≤ (clI r.x r.w a.x : Rat) := le_cast c1.1
    have d3 : (clI r.x r.w b.x : Rat) ≤ 4095 := le_cast c2.2
    have d4 : (0 : Rat) ≤ (clI r.x r.w b.x : Rat) := le_cast c2.1
    generalize (clI r.x r.w a.x : Rat) = A at *
    generalize (clI r.x r.w b.x : Rat) = C at *
    have m : (((1 * (4095 * 4095) : Nat)) : Rat) = 4095 * 4095 := by decide +kernel
    rw [m]
    have u1 := Rat.mul_nonneg (show 0 ≤ 4095 - (A - C) by grind) p1
    have u2 := Rat.mul_nonneg (show 0 ≤ 4095 + (A - C) by grind) p1
    have u3 : (4095 : Rat) * P ≤ 4095 * 4095 := by grind
    constructor
    · grind
    · grind
theorem cover_fold {r : Rc} (hr : vRc r = true) (B : Nat) (hB : 1 ≤ B) (K : Nat) (hK : K * (4095 * 4095) * (2 * B * B) ^ K < 10 ^ 200) (hK2 : (2 * B * B) ^ K < 10 ^ 200) : ∀ (l : List (Pl × Pl)) (acc : Rat) (k : Nat),
    (∀ e ∈ l, vP e.1 = true ∧ vP e.2 = true ∧ (e.2.x - e.1.x).natAbs ≤ B ∧ (e.2.y - e.1.y).natAbs ≤ B) → k + l.length ≤ K → rpR (2 * B * B) (4095 * 4095) k acc →
    l.foldl (coverS r) (some acc) = some (acc + sumE (covK r) l) ∧ rpR (2 * B * B) (4095 * 4095) (k + l.length) (acc + sumE (covK r) l)
  | [], acc, k, _, _, ha => by
    have e : acc + sumE (covK r) [] = acc := by unfold sumE; grind
    rw [e]
    exact ⟨rfl, ha⟩
  | e :: l, acc, k, hl, hk, ha => by
    obtain ⟨v1, v2, bx, by'⟩ := hl e (by simp)
    have hrp := covK_rp (a := e.1) (b := e.2) B hr bx by' hB
    have h2B : 1 ≤ 2 * B * B := Nat.mul_pos (show 0 < 2 * B by omega) (by omega)
    have hle : k + 1 ≤ K := by simp only [List.length_cons] at hk; omega
    have hp : (2 * B * B) ^ (k + 1) ≤ (2 * B * B) ^ K := Nat.pow_le_pow_right h2B hle
    have hs := ha.add hrp (Nat.lt_of_le_of_lt (Nat.mul_le_mul (Nat.mul_le_mul_right _ hle) hp) hK) (Nat.lt_of_le_of_lt hp hK2)
    have hstep : coverS r (some acc) e = some (acc + covK r e.1 e.2) := by
      unfold coverS
      split
      · rename_i h
        rw [under_ok v1 v2 hr h]
        unfold miO
        show subR acc (-(covK r e.1 e.2)) = _
        have hsub : subR acc (-(covK r e.1 e.2)) = some (acc - -(covK r e.1 e.2)) := by
          have b1 := ha.bd
          have b2 := hrp.bd
          have b3 : bdR (1 * (4095 * 4095) * (2 * B * B) ^ 1) ((2 * B * B) ^ 1) (-(covK r e.1 e.2)) := by
            refine ⟨?_, ?_⟩
            · show (-(covK r e.1 e.2).num).natAbs ≤ _
              rw [Int.natAbs_neg]; exact b2.1
            · exact b2.2
          have e1 : (2 * B * B) ^ k * (2 * B * B) ^ 1 = (2 * B * B) ^ (k + 1) := by rw [Nat.pow_one, Nat.pow_succ]
          have e2 : k * (4095 * 4095) * (2 * B * B) ^ k * (2 * B * B) ^ 1 + 1 * (4095 * 4095) * (2 * B * B) ^ 1 * (2 * B * B) ^ k = (k + 1) * (4095 * 4095) * (2 * B * B) ^ (k + 1) := by
            rw [Nat.pow_one, Nat.pow_succ]
            generalize (2 * B * B) = D
            generalize D ^ k = E
            grind
          exact (sub_ok b1 b3 (by rw [e2]; exact Nat.lt_of_le_of_lt (Nat.mul_le_mul (Nat.mul_le_mul_right _ hle) hp) hK) (by rw [e1]; exact Nat.lt_of_le_of_lt hp hK2)).1
        rw [hsub]
        congr 1
        grind
      · rename_i h
        rw [under_ok v2 v1 hr (by omega)]
        have e1 : -(covK r e.2 e.1) = covK r e.1 e.2 := by rw [covK_anti r e.1 e.2]; grind
        rw [e1]
        exact hs.1
    obtain ⟨g1, g2⟩ := cover_fold hr B hB K hK hK2 l (acc + covK r e.1 e.2) (k + 1) (fun x hx => hl x (List.mem_cons_of_mem _ hx)) (by simp only [List.length_cons] at hk; omega) hs.2
    have eq : acc + covK r e.1 e.2 + sumE (covK r) l = acc + sumE (covK r) (e :: l) := by
      show _ = acc + (covK r e.1 e.2 + sumE (covK r) l)
      grind
    rw [List.foldl_cons, hstep, g1, eq]
    rw [eq] at g2
    exact ⟨rfl, by rw [List.length_cons, show k + (l.length + 1) = k + 1 + l.length by omega]; exact g2⟩
/-- What the package computes of a polygon of at most K edges. -/
theorem cover_some {l : List Pl} {r : Rc} (hv : ∀ p ∈ l, vP p = true) (hr : vRc r = true) (B : Nat) (hB : 1 ≤ B) (hb : ∀ p ∈ l, ∀ q ∈ l, (q.x - p.x).natAbs ≤ B ∧ (q.y - p.y).natAbs ≤ B) (K : Nat) (hl : l.length ≤ K)
    (hK : K * (4095 * 4095) * (2 * B * B) ^ K < 10 ^ 200) (hK2 : (2 * B * B) ^ K < 10 ^ 200) (hm : ∀ e ∈ edgesL l, e.1 ∈ l ∧ e.2 ∈ l) (hel : (edgesL l).length = l.length) :
    coveredO l r = some (coverQ l r) ∧ rpR (2 * B * B) (4095 * 4095) l.length (coverQ l r) := by
  have h := cover_fold hr B hB K hK hK2 (edgesL l) 0 0 (fun e he => ⟨hv _ (hm e he).1, hv _ (hm e he).2, hb _ (hm e he).1 _ (hm e he).2⟩) (by rw [hel]; omega) (rpR.zero _ _)
  unfold coveredO coverQ
  rw [whO_val]
  have z0 : ((0 : Int) : Rat) = 0 := rfl
  have e : (0 : Rat) + sumE (covK r) (edgesL l) = sumE (covK r) (edgesL l) := by grind
  rw [e, Nat.zero_add, hel] at h
  rw [z0]
  exact h
/-- Edges of a hull to the left are over different columns. -/
theorem hull_apart {l : List Pl} (hv : ∀ p ∈ l, vP p = true) (hm : ∀ e ∈ edgesL (hullL l), e.1 ∈ hullL l ∧ e.2 ∈ hullL l) (h1 : ∀ (i : Nat) (e : Pl × Pl), (edgesL (hullL l))[i]? = some e → (hullL l)[i]? = some e.1) : (edgesL (hullL l)).Pairwise Apart := by
  have H := hull_of hv
  rw [List.pairwise_iff_getElem]
  intro i j hi hj hij k hk
  obtain ⟨k1, k2, k3, k4⟩ := hk
  have me := hm _ (List.getElem_mem hi)
  have mf := hm _ (List.getElem_mem hj)
  have ge := h1 i _ (List.getElem?_eq_getElem hi)
  have gf := h1 j _ (List.getElem?_eq_getElem hj)
  have he := List.getElem_mem hi
  have hf := List.getElem_mem hj
  generalize (edgesL (hullL l))[i] = e at *
  generalize (edgesL (hullL l))[j] = f at *
  have hne : f.1 ≠ e.1 := fun x => by
    rw [x, ← ge] at gf
    have := (List.getElem?_inj (List.getElem?_eq_some_iff.1 (gf.trans ge)).1 H.nodup).1 gf
    omega
  have pos : ∀ e ∈ edgesL (hullL l), ∀ p ∈ hullL l, 0 ≤ turnP e.1 e.2 p := fun e he p hp => by
    have := H.edge e he p (H.sub p hp)
    omega
  obtain ⟨t1, t2⟩ := turn_both k1 k2 k3 k4 (pos e he _ mf.1) (pos e he _ mf.2) (pos f hf _ me.1) (pos f hf _ me.2)
  have := H.vert e he f.1 mf.1
  rcases this with q | q | q
  · exact hne q
  · rw [q] at k4; omega
  · omega
/-- All that the law on areas asks of a hull. -/
theorem hull_cover {l : List Pl} (hv : ∀ p ∈ l, vP p = true) (hne : hullL l ≠ []) (hm : ∀ e ∈ edgesL (hullL l), e.1 ∈ hullL l ∧ e.2 ∈ hullL l) (h1 : ∀ (i : Nat) (e : Pl × Pl), (edgesL (hullL l))[i]? = some e → (hullL l)[i]? = some e.1) {r : Rc} (hr : vRc r = true) :
    0 ≤ coverQ (hullL l) r ∧ coverQ (hullL l) r ≤ (area2L (hullL l) : Rat) / 2 ∧ coverQ (hullL l) r ≤ (r.w : Rat) * r.h := by
  have H := hull_of hv
  have v := vRc_iff.1 hr
  obtain ⟨p, t, hp⟩ : ∃ p t, hullL l = p :: t := by
    cases h : hullL l with
    | nil => exact absurd h hne
    | cons p t => exact ⟨p, t, rfl⟩
  have hmem : p ∈ hullL l := by rw [hp]; simp
  have := cover_range (l := hullL l) (r := r) (by omega) p (fun e he => by
    have := H.edge e he p (H.sub p hmem)
    rw [← turn_cyc]
    omega)
  exact ⟨this.1, this.2, cover_rect (by omega) (by omega) (hull_apart hv hm h1)⟩
end Go.Proofs.YtgngepbemgbbeaaGreatDoor

namespace Go.Proofs
open Go.Shelf
def Tryz.laysSORT_ren : Go.Shelf.Ren := ⟨fun | 6 => 51 | 15 => 88 | 14 => 87 | 28 => 137 | 29 => 138 | 20 => 129 | 21 => 130 | 22 => 131 | 23 => 132 | 24 => 133 | 25 => 134 | 26 => 135 | 27 => 136 | 46 => 172 | 47 => 173 | 48 => 174 | 49 => 175 | 50 => 176 | 57 => 203 | n => n, fun | 22 => 27 | 24 => 26 | 25 => 75 | 3 => 3 | 39 => 107 | 0 => 0 | 53 => 148 | 55 => 150 | 4 => 4 | 46 => 141 | 45 => 140 | 50 => 145 | 5 => 5 | 9 => 9 | 66 => 182 | 70 => 186 | 76 => 203 | 77 => 204 | n => n, fun | n => n⟩
theorem Tryz.laysSORT : Go.Proofs.SlLaysF0.n6 Tryz.prog Tryz.laysSORT_ren := {
  mixed := by kernel_rfl
  f6 := ⟨Tryz.f51.name, by decide, Tryz.func51.trans (congrArg some (by kernel_rfl))⟩
  f14 := ⟨Tryz.f87.name, by decide, Tryz.func87.trans (congrArg some (by kernel_rfl))⟩
  f15 := Tryz.func88.trans (congrArg some (by kernel_rfl))
  f20 := ⟨Tryz.f129.name, by decide, Tryz.func129.trans (congrArg some (by kernel_rfl))⟩
  f21 := ⟨Tryz.f130.name, by decide, Tryz.func130.trans (congrArg some (by kernel_rfl))⟩
  f22 := ⟨Tryz.f131.name, by decide, Tryz.func131.trans (congrArg some (by kernel_rfl))⟩
  f23 := ⟨Tryz.f132.name, by decide, Tryz.func132.trans (congrArg some (by kernel_rfl))⟩
  f24 := ⟨Tryz.f133.name, by decide, Tryz.func133.trans (congrArg some (by kernel_rfl))⟩
  f25 := ⟨Tryz.f134.name, by decide, Tryz.func134.trans (congrArg some (by kernel_rfl))⟩
  f26 := ⟨Tryz.f135.name, by decide, Tryz.func135.trans (congrArg some (by kernel_rfl))⟩
  f27 := ⟨Tryz.f136.name, by decide, Tryz.func136.trans (congrArg some (by kernel_rfl))⟩
  f28 := Tryz.func137.trans (congrArg some (by kernel_rfl))
  f29 := Tryz.func138.trans (congrArg some (by kernel_rfl))
  f46 := ⟨Tryz.f172.name, by decide, Tryz.func172.trans (congrArg some (by kernel_rfl))⟩
  f47 := Tryz.func173.trans (congrArg some (by kernel_rfl))
  f48 := Tryz.func174.trans (congrArg some (by kernel_rfl))
  f49 := ⟨Tryz.f175.name, by decide, Tryz.func175.trans (congrArg some (by kernel_rfl))⟩
  f50 := ⟨Tryz.f176.name, by decide, Tryz.func176.trans (congrArg some (by kernel_rfl))⟩
  f57 := ⟨Tryz.f203.name, by decide, Tryz.func203.trans (congrArg some (by kernel_rfl))⟩
  t0 := Tryz.underlying0
  a0 := Tryz.isAgg0
  z0 := Tryz.sizeOf0
  v0 := Tryz.zeroValue0
  t3 := Tryz.underlying3
  a3 := Tryz.isAgg3
  z3 := Tryz.sizeOf3
  v3 := Tryz.zeroValue3
  t4 := Tryz.underlying4
  a4 := Tryz.isAgg4
  z4 := Tryz.sizeOf4
  v4 := Tryz.zeroValue4
  t5 := Tryz.underlying5
  a5 := Tryz.isAgg5
  z5 := Tryz.sizeOf5
  v5 := Tryz.zeroValue5
  t9 := Tryz.underlying9
  a9 := Tryz.isAgg9
  z9 := Tryz.sizeOf9
  v9 := Tryz.zeroValue9
  t22 := Tryz.underlying27
  a22 := Tryz.isAgg27
  z22 := Tryz.sizeOf27
  v22 := Tryz.zeroValue27
  t25 := Tryz.underlying75
  a25 := Tryz.isAgg75
  z25 := Tryz.sizeOf75
  v25 := Tryz.zeroValue75
  t39 := Tryz.underlying107
  a39 := Tryz.isAgg107
  z39 := Tryz.sizeOf107
  v39 := Tryz.zeroValue107
  t45 := Tryz.underlying140
  a45 := Tryz.isAgg140
  z45 := Tryz.sizeOf140
  v45 := Tryz.zeroValue140
  t46 := Tryz.underlying141
  a46 := Tryz.isAgg141
  z46 := Tryz.sizeOf141
  v46 := Tryz.zeroValue141
  t50 := Tryz.underlying145
  a50 := Tryz.isAgg145
  z50 := Tryz.sizeOf145
  v50 := Tryz.zeroValue145
  t53 := Tryz.underlying148
  a53 := Tryz.isAgg148
  z53 := Tryz.sizeOf148
  v53 := Tryz.zeroValue148
  t55 := Tryz.underlying150
  a55 := Tryz.isAgg150
  z55 := Tryz.sizeOf150
  v55 := Tryz.zeroValue150
  t66 := Tryz.underlying182
  a66 := Tryz.isAgg182
  z66 := Tryz.sizeOf182
  v66 := Tryz.zeroValue182
  t70 := Tryz.underlying186
  a70 := Tryz.isAgg186
  z70 := Tryz.sizeOf186
  v70 := Tryz.zeroValue186
  t76 := Tryz.underlying203
  a76 := Tryz.isAgg203
  z76 := Tryz.sizeOf203
  v76 := Tryz.zeroValue203
  t77 := Tryz.underlying204
  a77 := Tryz.isAgg204
  z77 := Tryz.sizeOf204
  v77 := Tryz.zeroValue204 }
end Go.Proofs

namespace Go.Proofs.YtgngepbemgbbeaaGreatDoor
open Go.RowKit Go.Shelf Go.Sort
attribute [local go_sem] Oper.semAt_some

set_option maxHeartbeats 2000000 in
theorem order_x (a b : Pl) (w : World) :
    Calls Tryz.prog 52 #[.agg #[.int .i64 a.x, .int .i64 a.y], .agg #[.int .i64 b.x, .int .i64 b.y]] w fun e W' => e = .returned (.int .i64 (ordP a b)) ∧ ∃ q os', W' = grow (w.drewN q) os' := by
  have KY := Lib.hid (fun W => cmp_s a.y b.y W)
  have KX := Lib.hid (fun W => cmp_s a.x b.x W)
  have KO := Lib.hid (fun (W : World) (h : ArAt (w.heap.size + 1 + 1) [.int .i64 (cmpI a.y b.y), .int .i64 (cmpI a.x b.x)] W) => or_s W (h.row 0 _ rfl) (h.row 1 _ rfl))
  unfold ordP
  generalize cmpI a.y b.y = p at *
  generalize cmpI a.x b.x = q at *
  have H1 := Lib.hid (show AzAt [(w.heap.size + 1, [.int .i64 b.x, .int .i64 b.y]), (w.heap.size, [.int .i64 a.x, .int .i64 a.y])] w _ from by have hp := ((AzAt.start w).push [.int .i64 a.x, .int .i64 a.y] 26).push [.int .i64 b.x, .int .i64 b.y] 26; simp only [World.size_alloc] at hp; exact hp)
  have H2 := Lib.hid (show AzAt [(w.heap.size + 1 + 1, [.int .i64 p, .int .i64 q]), (w.heap.size + 1, [.int .i64 b.x, .int .i64 b.y]), (w.heap.size, [.int .i64 a.x, .int .i64 a.y])] w _ from by have hp := H1.out.push [.int .i64 p, .int .i64 q] 3; simp only [World.size_alloc] at hp; exact hp)
  go_enter Tryz.func52, Tryz.ntmps52
  go_wp2
  go_region_held3 (fun W => W.cell? ⟨w.heap.size, 0, none⟩ = some (.int .i64 a.x) ∧ W.cell? ⟨w.heap.size, 1, none⟩ = some (.int .i64 a.y) ∧ W.cell? ⟨w.heap.size + 1, 0, none⟩ = some (.int .i64 b.x) ∧ W.cell? ⟨w.heap.size + 1, 1, none⟩ = some (.int .i64 b.y)) (first | with_reducible exact ⟨(H2.out.drew.row (w.heap.size, [.int .i64 a.x, .int .i64 a.y]) (by simp)).row 0 _ rfl, (H2.out.drew.row (w.heap.size, [.int .i64 a.x, .int .i64 a.y]) (by simp)).row 1 _ rfl, (H2.out.drew.row (w.heap.size + 1, [.int .i64 b.x, .int .i64 b.y]) (by simp)).row 0 _ rfl, (H2.out.drew.row (w.heap.size + 1, [.int .i64 b.x, .int .i64 b.y]) (by simp)).row 1 _ rfl⟩ | with_reducible exact ⟨(H1.out.drew.row (w.heap.size, [.int .i64 a.x, .int .i64 a.y]) (by simp)).row 0 _ rfl, (H1.out.drew.row (w.heap.size, [.int .i64 a.x, .int .i64 a.y]) (by simp)).row 1 _ rfl, (H1.out.drew.row (w.heap.size + 1, [.int .i64 b.x, .int .i64 b.y]) (by simp)).row 0 _ rfl, (H1.out.drew.row (w.heap.size + 1, [.int .i64 b.x, .int .i64 b.y]) (by simp)).row 1 _ rfl⟩) (first
    | (go_at_call 79; (with_reducible refine (KY.out _).mono ?_); rintro e w' ⟨rfl, rfl⟩)
    | (go_at_call 79; (with_reducible refine (KX.out _).mono ?_); rintro e w' ⟨rfl, rfl⟩)
    | (go_at_call 89; (with_reducible refine (KO.out _ (H2.out.drew.at (by simp))).mono ?_); rintro e w' ⟨rfl, rfl⟩)
    | fail)
  all_goals
    go_wp2
    go_ret
    exact ⟨rfl, 1, _, by simp only [alloc_eq_grow, grow_grow]; rfl⟩
/-- The two cells of a place. -/
def encP (p : Pl) : List Value := [.int .i64 p.x, .int .i64 p.y]
theorem ltOf_ord : ltOf ordP = ltP := by
  funext a b
  rw [ltP_ord]
  rfl
theorem swo_ord : SWO (ltOf ordP) := by
  rw [ltOf_ord]
  constructor
  · intro x; unfold ltP; simp
  · intro x y z h k
    unfold ltP at *
    simp only [Bool.or_eq_true, Bool.and_eq_true, decide_eq_true_eq] at *
    omega
  · intro x y z h k
    unfold ltP at *
    simp only [Bool.or_eq_false_iff, Bool.and_eq_false_iff, decide_eq_false_iff_not] at *
    omega
theorem lays_ord (blk off size : Nat) (w : World) : CmpLays Tryz.prog 52 #[] encP 2 ordP blk off size w :=
  fun _ _ _ _ x y => order_x x y _
theorem get_bang {l : List Pl} {k : Nat} {x : Pl} (h : l[k]? = some x) : l.toArray[k]! = x := by
  simp [h]
theorem holds_pl {B : Nat} {l : List Pl} {W : World} (h : PqAt B l W) : HoldsK encP 2 W B 0 l.toArray := by
  intro j hj
  have hs : j < l.toArray.size * 2 := by simpa [flatK] using hj
  rw [get_flatK _ _ _ _ hs]
  have hl : j / 2 < l.length := by simp at hs; omega
  obtain ⟨x, hx⟩ : ∃ x, l[j / 2]? = some x := ⟨l[j / 2], List.getElem?_eq_getElem hl⟩
  rw [get_bang hx, Nat.zero_add]
  obtain ⟨c0, c1⟩ := h.row _ _ hx
  refine ⟨?_, h.fz j (by simp at hs; omega)⟩
  rcases Nat.mod_two_eq_zero_or_one j with e | e
  · rw [e]
    rw [show j / 2 * 2 = j by omega] at c0
    exact c0
  · rw [e]
    rw [show j / 2 * 2 + 1 = j by omega] at c1
    exact c1
theorem heap_mapBlock {w : World} {blk k : Nat} (f : Array Value → Array Value) (h : k ≠ blk) : (mapBlock w blk f).heap[k]? = w.heap[k]? := by
  unfold mapBlock
  simp [Array.getElem?_modify, Ne.symm h]
theorem heap_sorted {W : World} {B n : Nat} {d : Array Pl} {os : Array Obj} {k : Nat} (h : k ≠ B) (hk : k < W.heap.size) : (sortWorldK encP 2 W B 0 n d os).heap[k]? = W.heap[k]? := by
  unfold sortWorldK putRowK putRow grow
  have e := heap_mapBlock (w := Sort.ahead W n) (putCells id 0 (flatK encP 2 d)) h
  have hs : k < (mapBlock (Sort.ahead W n) B (putCells id 0 (flatK encP 2 d))).heap.size := by
    simp [mapBlock, Sort.ahead]
    exact hk
  rw [Array.getElem?_append_left hs]
  exact e
theorem sorted_pz {B : Nat} {l : List Pl} {R : List (Nat × List Value)} {w W : World} (h : PzAt B l R w W) {n : Nat} {d : Array Pl} {os : Array Obj} (hs : d.size = l.toArray.size) : PzAt B d.toList R w (sortWorldK encP 2 W B 0 n d os) := by
  have hh := holdsK_sortWorldK_c (enc := encP) (k := 2) (w := W) (blk := B) (off := 0) l.toArray d n os (holds_pl h.ns) h.ns.sz hs
  have hz : W.heap.size ≤ (sortWorldK encP 2 W B 0 n d os).heap.size := size_sortWorldK_c (enc := encP) (k := 2) (w := W) (blk := B) (off := 0) n d os
  refine ⟨⟨⟨?_, ?_, ?_, Nat.le_trans h.az.bw.size hz, fun k hk => ?_⟩, fun x hx => ?_⟩, ⟨fun k x hx => ?_, fun o ho => ?_, Nat.lt_of_lt_of_le h.ns.sz hz⟩, h.hB, h.ne⟩
  · exact h.az.bw.os
  · exact h.az.bw.tape
  · exact h.az.bw.output
  · rw [heap_sorted (by have := h.hB; omega) (Nat.lt_of_lt_of_le hk h.az.bw.size)]
    exact h.az.bw.block k hk
  · exact (h.az.row x hx).of_block (heap_sorted (h.ne x hx).symm (h.az.row x hx).sz) hz
  · have hk : k < d.size := by have := (List.getElem?_eq_some_iff.1 hx).1; simpa using this
    have e : d[k]! = x := by
      have : d[k]? = some x := by rw [← hx]; simp
      rw [getElem!_pos d k hk]
      rw [Array.getElem?_eq_getElem hk] at this
      exact Option.some.inj this
    have c0 := (HoldsK.cell hh hk (c := 0) (by omega)).1
    have c1 := (HoldsK.cell hh hk (c := 1) (by omega)).1
    rw [e] at c0 c1
    constructor
    · simpa [encP] using c0
    · simpa [encP] using c1
  · have := hh o (by simpa [flatK] using ho)
    simpa using this.2
set_option maxHeartbeats 2000000 in
theorem sortG_s {B cap n : Nat} {l : List Pl} {R : List (Nat × List Value)} {w W : World} (hl : l.length = n) (hn : n ≤ 1000000) (h : PzAt B l R w W) :
    Calls Tryz.prog 51 #[.slice (some ⟨B, 0, none⟩) n cap, .func (.func 52) #[] #[]] W fun e W' => e = .returned (.tuple #[]) ∧ ∃ l' : List Pl, l'.length = n ∧ (∀ q, q ∈ l' ↔ q ∈ l) ∧ l'.Pairwise (fun a b => ltP b a = false) ∧ PzAt B l' R w W' := by
  have eg : ∀ args w, (callFunc 52 args).run Tryz.prog w = .ok (.enter 52 args) w := enters_of Tryz.func52 (by kernel_rfl) rfl
  have hcon := AnyQ.slices_SortFunc Tryz.laysSORT 2 Tryz.isAgg26 Tryz.sizeOf26 encP (fun _ => rfl) (fun x v hv => by simp [encP] at hv; rcases hv with rfl | rfl <;> rfl) ordP swo_ord 52 #[] B 0 cap l.toArray W eg (lays_ord B 0 _ W) (holds_pl h.ns) h.ns.sz (by simp; omega)
  rw [show l.toArray.size = n by simpa using hl] at hcon
  refine Calls.mono hcon ?_
  rintro e W' ⟨rfl, d', m, os, ⟨hs, _, hp⟩, hsort, rfl⟩
  rw [ltOf_ord] at hsort
  have hsz : d'.size = n := by rw [hs]; simpa using hl
  refine ⟨rfl, d'.toList, by simpa using hsz, fun q => ?_, ?_, sorted_pz h (by rw [hs])⟩
  · have e1 : d'.extract 0 n = d' := by rw [← hsz]; simp
    have e2 : l.toArray.extract 0 n = l.toArray := by rw [← hl]; simp
    rw [e1, e2] at hp
    have := hp.mem_iff (a := q)
    simpa using this
  · rw [List.pairwise_iff_getElem]
    intro i j hi hj hij
    have hj' : j < d'.size := by simpa using hj
    have hi' : i < d'.size := by simpa using hi
    have := hsort i j (Nat.zero_le _) hij (by omega)
    rw [getElem!_pos d' j hj', getElem!_pos d' i hi'] at this
    simpa using this
end Go.Proofs.YtgngepbemgbbeaaGreatDoor

namespace Go.Proofs.YtgngepbemgbbeaaGreatDoor
open Go.RowKit Go.Shelf Go.Sort
attribute [local go_sem] Oper.semAt_some

theorem compact_snoc (a b : Pl) : ∀ p : List Pl, compactL (p ++ [a, b]) = if a = b then compactL (p ++ [a]) else compactL (p ++ [a]) ++ [b]
  | [] => by
    show compactL [a, b] = _
    unfold compactL
    split
    · rename_i h; subst h; rfl
    · rfl
  | [x] => by
    have ih := compact_snoc a b []
    show compactL (x :: a :: [b]) = if a = b then compactL (x :: [a]) else compactL (x :: [a]) ++ [b]
    have e1 : compactL (x :: a :: [b]) = if x = a then compactL (a :: [b]) else x :: compactL (a :: [b]) := compactL.eq_3 _ _ _
    have e2 : compactL (x :: [a]) = if x = a then compactL [a] else x :: compactL [a] := compactL.eq_3 _ _ _
    rw [e1, e2]
    simp only [List.nil_append] at ih
    rw [ih]
    split <;> split <;> simp
  | x :: y :: p => by
    have ih := compact_snoc a b (y :: p)
    have e1 : ∀ t, compactL (x :: y :: t) = if x = y then compactL (y :: t) else x :: compactL (y :: t) := fun t => compactL.eq_3 _ _ _
    simp only [List.cons_append] at ih ⊢
    rw [e1, e1, ih]
    split <;> split <;> simp
theorem compact_take {l : List Pl} {k : Nat} {p q : Pl} (hp : l[k]? = some p) (hq : l[k + 1]? = some q) : compactL (l.take (k + 1 + 1)) = if p = q then compactL (l.take (k + 1)) else compactL (l.take (k + 1)) ++ [q] := by
  have e1 : l.take (k + 1) = l.take k ++ [p] := by rw [List.take_add_one, hp]; rfl
  have e2 : l.take (k + 1 + 1) = l.take k ++ [p, q] := by rw [List.take_add_one, hq, e1]; simp
  rw [e1, e2, compact_snoc]
theorem compact_len : ∀ l : List Pl, (compactL l).length ≤ l.length
  | [] => Nat.le_refl _
  | [_] => Nat.le_refl _
  | x :: y :: l => by
    have := compact_len (y :: l)
    rw [compactL.eq_3]
    split
    · simp only [List.length_cons] at this ⊢; omega
    · simp only [List.length_cons] at this ⊢; omega
section
variable {B : Nat} {l : List Pl} {R : List (Nat × List Value)} {w W : World}
theorem PzAt.far (h : PzAt B l R w W) {o : Nat} (ho : l.length * 2 ≤ o) (v : Value) : PzAt B l R w (W.setCell ⟨B, o, none⟩ v) := by
  refine ⟨⟨h.az.bw.setCell h.hB _, fun x hx => (h.az.row x hx).other (h.ne x hx) _ _⟩, ⟨fun k x hx => ?_, fun o' ho' => ?_, by simpa using h.ns.sz⟩, h.hB, h.ne⟩
  · have hk : k < l.length := (List.getElem?_eq_some_iff.1 hx).1
    obtain ⟨c0, c1⟩ := h.ns.row k x hx
    constructor
    · rw [World.cell?_setCell_other _ _ _ _ (fun e => by have := congrArg Addr.off e; simp at this; omega)]
      exact c0
    · rw [World.cell?_setCell_other _ _ _ _ (fun e => by have := congrArg Addr.off e; simp at this; omega)]
      exact c1
  · have := h.ns.fz o' ho'
    simpa [go_sem] using this
theorem PzAt.fars (h : PzAt B l R w W) : ∀ (vs : List Value) (o : Nat), l.length * 2 ≤ o → PzAt B l R w (W.setCells B o vs) := by
  intro vs
  induction vs generalizing W with
  | nil => intro o _; exact h
  | cons v vs ih => intro o ho; exact ih (h.far ho v) (o + 1) (by omega)
theorem PzAt.take (h : PzAt B l R w W) (k : Nat) : PzAt B (l.take k) R w W := by
  refine ⟨h.az, ⟨fun j x hx => ?_, fun o ho => h.ns.fz o ?_, h.ns.sz⟩, h.hB, h.ne⟩
  · rw [List.getElem?_take] at hx
    split at hx
    · exact h.ns.row j x hx
    · cases hx
  · rw [List.length_take] at ho; omega
theorem zeros_one (n : Nat) : ∀ v ∈ (Builtin.zeroCells #[.int .i64 0, .int .i64 0] n).toList, v.oneCell' = true := by
  intro v hv
  simp [Builtin.zeroCells] at hv
  obtain ⟨i, _, rfl⟩ := hv
  rcases Nat.mod_two_eq_zero_or_one i with e | e <;> rw [e] <;> rfl
theorem clear_run (h : PzAt B l R w W) {k n cap : Nat} (hk : k < n) (hl : l.length = n) (ty : TypeId) :
    (Builtin.clear_ #[27] ty #[.slice (some ⟨B, k * 2, none⟩) (n - k) cap]).run Tryz.prog W = .ok (.tuple #[]) (W.setCells B (k * 2) (Builtin.zeroCells #[.int .i64 0, .int .i64 0] (n - k)).toList) := by
  have hsz := zeroCells_size #[.int .i64 0, .int .i64 0] (n - k)
  have hl2 : (Builtin.zeroCells #[.int .i64 0, .int .i64 0] (n - k)).toList.length = (n - k) * 2 := by simpa using hsz
  have hst := run_storeCells_cells (P := Tryz.prog) B (k * 2) (Builtin.zeroCells #[.int .i64 0, .int .i64 0] (n - k)).toList 0 W (by
    intro j hj
    rw [hl2] at hj
    rw [Nat.add_zero]
    have hx : l[(k * 2 + j) / 2]? = some l[(k * 2 + j) / 2] := List.getElem?_eq_getElem (by omega)
    obtain ⟨c0, c1⟩ := h.ns.row _ _ hx
    rcases Nat.mod_two_eq_zero_or_one (k * 2 + j) with e | e
    · rw [show k * 2 + j = (k * 2 + j) / 2 * 2 by omega, c0]; rfl
    · rw [show k * 2 + j = (k * 2 + j) / 2 * 2 + 1 by omega, c1]; rfl) (by
    intro j hj
    rw [hl2] at hj
    exact h.ns.fz _ (by omega)) (zeros_one _)
  simp only [Nat.add_zero] at hst
  obtain ⟨m, hm⟩ : ∃ m, n - k = m + 1 := ⟨n - k - 1, by omega⟩
  rw [hm] at hst ⊢
  have ht : Tryz.prog.underlying 27 = some (.slice 26) := Tryz.underlying27
  have hv : ∀ w, (zeroValue 26).run Tryz.prog w = .ok (.agg #[.int .i64 0, .int .i64 0]) w := Tryz.zeroValue26
  have hz : (Value.agg #[.int .i64 0, .int .i64 0]).cells = #[.int .i64 0, .int .i64 0] := rfl
  simp [Builtin.clear_, run_underlying ht, hv, hz, hst]
end
theorem beq_pl {p q : Pl} (h : q ≠ p) : (q.x == p.x) = false ∨ ((q.x == p.x) = true ∧ (q.y == p.y) = false) := by
  by_cases hx : q.x = p.x
  · right
    refine ⟨beq_iff_eq.2 hx, beq_eq_false_iff_ne.2 fun hy => h ?_⟩
    cases p
    cases q
    simp_all
  · exact .inl (beq_eq_false_iff_ne.2 hx)
set_option maxHeartbeats 8000000 in
set_option maxRecDepth 100000 in
theorem compactG_s {B n cap : Nat} {l : List Pl} {R : List (Nat × List Value)} {w W : World} (hl : l.length = n) (hn : n ≤ 1000000) (hc : n ≤ cap) (h : PzAt B l R w W) :
    Calls Tryz.prog 53 #[.slice (some ⟨B, 0, none⟩) n cap] W fun e W' => e = .returned (.slice (some ⟨B, 0, none⟩) (compactL l).length cap) ∧ PzAt B (compactL l) R w W' := by
  have HL := Lib.hid hl
  have HZ := Lib.hid h
  obtain ⟨T, hT⟩ : ∃ T, T = compactL l := ⟨_, rfl⟩
  obtain ⟨m, hm⟩ : ∃ m, m = T.length := ⟨_, rfl⟩
  rw [← hT, ← hm]
  have HT := Lib.hid (And.intro hT hm)
  clear hl h hT hm
  by_cases hn2 : n < 2
  · have hn3 : (n : Int) < 2 := by omega
    have e : compactL l = l := by
      have := HL.out
      match l, this with
      | [], _ => rfl
      | [_], _ => rfl
      | _ :: _ :: _, h => simp at h; omega
    obtain ⟨h1, h2⟩ := HT.out
    rw [e] at h1
    subst h1
    rw [HL.out] at h2
    subst h2
    clear e
    go_enter Tryz.func53, Tryz.ntmps53
    go_wp2
    go_ret
    exact ⟨rfl, HZ.out⟩
  go_enter Tryz.func53, Tryz.ntmps53
  go_wp2
  go_loopw [3] (fun i wr => ∃ k : Nat, 1 ≤ k ∧ k ≤ n ∧ i = .int .i64 (k : Int) ∧ compactL (l.take k) = l.take k ∧ PzAt B l R w wr) (fun i _ => n - (intOf i).toNat)
  case atStart =>
    refine ⟨1, by omega, by omega, rfl, ?_, HZ.out⟩
    have := HL.out
    match l, this with
    | [], h => simp at h; omega
    | _ :: _, _ => rfl
  case round =>
    obtain ⟨k, hk1, hk, rfl, hct, hz⟩ := hrel
    by_cases hlt : k < n
    · obtain ⟨kp, rfl⟩ : ∃ kp, k = kp + 1 := ⟨k - 1, by omega⟩
      obtain ⟨p, hp⟩ : ∃ p, l[kp]? = some p := ⟨l[kp]'(by have := HL.out; omega), List.getElem?_eq_getElem _⟩
      obtain ⟨q, hq⟩ : ∃ q, l[kp + 1]? = some q := ⟨l[kp + 1]'(by have := HL.out; omega), List.getElem?_eq_getElem _⟩
      obtain ⟨c0, c1'⟩ := hz.ns.row kp p hp
      obtain ⟨d0, d1⟩ := hz.ns.row (kp + 1) q hq
      have HC := Lib.hid (And.intro (compact_take hp hq) hct)
      have HK := Lib.hid hz
      have HPQ := Lib.hid (And.intro hp hq)
      clear hct hz hp hq
      have hwp : IntKind.i64.wrap (kp : Int) = (kp : Int) := IntWalk.i64_in _ (by omega)
      have jz : (kp : Int) + 1 < (n : Int) := by omega
      have jz1 : (kp : Int) < (n : Int) := by omega
      have p0 : (0 : Int) ≤ (kp : Int) + 1 := by omega
      have e0 : ((kp : Int) + 1).toNat = kp + 1 := by omega
      rw [show ((kp + 1 : Nat) : Int) = (kp : Int) + 1 from by omega]
      by_cases hpq : q = p
      · subst hpq
        go_wp2
        go_region
        all_goals
          obtain ⟨d, hd⟩ : ∃ d, d = n - (kp + 1) := ⟨_, rfl⟩
          obtain ⟨cd, hcd⟩ : ∃ cd, cd = cap - (kp + 1) := ⟨_, rfl⟩
          have HC1 := Lib.hid (show compactL (l.take (kp + 1 + 0 + 1)) = l.take (kp + 1) from by rw [Nat.add_zero, HC.out.1, if_pos trivial, HC.out.2])
          clear HC d0 d1 c0 c1'
          go_wp2
          rw [← hd, ← hcd]
          have HD := Lib.hid (And.intro hd hcd)
          clear hd hcd
          go_loopw [3, 5] (fun v3 v5 wq => ∃ (kk j : Nat) (cur : List Pl), v3 = .int .i64 (kk : Int) ∧ v5 = .int .i64 ((j : Int) + 1) ∧ kp + 1 + j + 1 ≤ n ∧ kk = (compactL (l.take (kp + 1 + j + 1))).length ∧ kk < kp + 1 + j + 1 ∧ cur.length = n ∧ cur.take kk = compactL (l.take (kp + 1 + j + 1)) ∧ (∀ i, kk ≤ i → cur[i]? = l[i]?) ∧ PzAt B cur R w wq) (fun _ v5 _ => n - (intOf v5).toNat)
          case atStart =>
            refine ⟨kp + 1, 0, l, by go_num, rfl, by omega, ?_, by omega, HL.out, HC1.out.symm, fun _ _ => rfl, HK.out.drew⟩
            rw [HC1.out, List.length_take, HL.out]
            omega
          case round =>
            obtain ⟨kk, j, cur, rfl, rfl, hj, hkk, hkj, hcl, hct, hcr, hq⟩ := hrel
            have HQ := Lib.hid hq
            have HR := Lib.hid (And.intro hkk (And.intro hcl (And.intro hct hcr)))
            clear hq hkk hcl hct hcr
            have wj : IntKind.i64.wrap (j : Int) = (j : Int) := IntWalk.i64_in _ (by omega)
            have wk : IntKind.i64.wrap ((kk : Int) + 1) = (kk : Int) + 1 := IntWalk.i64_in _ (by omega)
            have kn : (kk : Int) < (n : Int) := by omega
            have kz : (0 : Int) ≤ (kk : Int) := by omega
            have jz2 : (0 : Int) ≤ (j : Int) := by omega
            have jz3 : (0 : Int) ≤ (j : Int) + 1 := by omega
            have je : ((j : Int) + 1).toNat = j + 1 := by omega
            by_cases hlt2 : kp + 1 + j + 1 < n
            · obtain ⟨a, hla⟩ : ∃ a, l[kp + 1 + j]? = some a := ⟨l[kp + 1 + j]'(by have := HL.out; omega), List.getElem?_eq_getElem _⟩
              obtain ⟨b, hlb⟩ : ∃ b, l[kp + 1 + j + 1]? = some b := ⟨l[kp + 1 + j + 1]'(by have := HL.out; omega), List.getElem?_eq_getElem _⟩
              obtain ⟨a0, a1⟩ := HQ.out.ns.row (kp + 1 + j) a (by rw [HR.out.2.2.2 _ (by omega)]; exact hla)
              obtain ⟨b0, b1⟩ := HQ.out.ns.row (kp + 1 + j + 1) b (by rw [HR.out.2.2.2 _ (by omega)]; exact hlb)
              have HC2 := Lib.hid (compact_take hla hlb)
              rw [show (kp + 1 + j) * 2 = (kp + 1) * 2 + j * 2 by omega] at a0 a1
              rw [show (kp + 1 + j + 1) * 2 = (kp + 1) * 2 + (j + 1) * 2 by omega] at b0 b1
              have HLB := Lib.hid hlb
              clear hla hlb
              have jd : (j : Int) + 1 < (d : Int) := by have := HD.out.1; omega
              have jd0 : (j : Int) < (d : Int) := by omega
              have jdd : decide ((j : Int) + 1 < (d : Int)) = true := decide_eq_true jd
              by_cases hab : b = a
              · subst hab
                go_wp2
                go_region
                all_goals
                  go_wp2
                  refine ⟨⟨kk, j + 1, cur, rfl, by go_num, by omega, ?_, by omega, HR.out.2.1, ?_, HR.out.2.2.2, HQ.out.drew⟩, by simp only [intOf]; omega⟩
                  · rw [show kp + 1 + (j + 1) + 1 = kp + 1 + j + 1 + 1 by omega, HC2.out, if_pos trivial]
                    exact HR.out.1
                  · rw [show kp + 1 + (j + 1) + 1 = kp + 1 + j + 1 + 1 by omega, HC2.out, if_pos trivial]
                    exact HR.out.2.2.1
              · have hne : ¬ a = b := fun e => hab e.symm
                rcases beq_pl hab with hx | ⟨hx, hy⟩
                all_goals
                  clear hab
                  go_wp2
                  go_region
                  all_goals
                    obtain ⟨y, hy'⟩ : ∃ y, cur[kk]? = some y := ⟨cur[kk]'(by have := HR.out.2.1; omega), List.getElem?_eq_getElem _⟩
                    obtain ⟨t0, t1⟩ := HQ.out.ns.row kk y hy'
                    have f0 := HQ.out.ns.fz (kk * 2) (by rw [HR.out.2.1]; omega)
                    have f1 := HQ.out.ns.fz (kk * 2 + 1) (by rw [HR.out.2.1]; omega)
                    clear hy'
                    go_wp2
                    refine ⟨⟨kk + 1, j + 1, cur.set kk b, by go_num, by go_num, by omega, ?_, by omega, by rw [List.length_set]; exact HR.out.2.1, ?_, ?_, HQ.out.drew.set (by rw [HR.out.2.1]; omega) b⟩, by simp only [intOf]; omega⟩
                    · rw [show kp + 1 + (j + 1) + 1 = kp + 1 + j + 1 + 1 by omega, HC2.out, if_neg hne, List.length_append, ← HR.out.1]
                      rfl
                    · rw [show kp + 1 + (j + 1) + 1 = kp + 1 + j + 1 + 1 by omega, HC2.out, if_neg hne, ← HR.out.2.2.1, List.take_add_one, List.getElem?_set_self (by have := HR.out.2.1; omega), List.take_set_of_le (Nat.le_refl _)]
                      rfl
                    · intro i hi
                      rw [List.getElem?_set_ne (by omega)]
                      exact HR.out.2.2.2 i (by omega)
            · have hjn : kp + 1 + j + 1 = n := by omega
              have hdd : (d : Int) = (j : Int) + 1 := by have := HD.out.1; omega
              have jdd : decide ((j : Int) + 1 < (d : Int)) = false := decide_eq_false (by omega)
              have jd : ¬ (j : Int) + 1 < (d : Int) := by omega
              have hT2 : compactL (l.take (kp + 1 + j + 1)) = T := by rw [hjn, HT.out.1, List.take_of_length_le (by rw [HL.out]; exact Nat.le_refl _)]
              have hkm : kk = m := by rw [HR.out.1, hT2, HT.out.2]
              have hkt : cur.take kk = T := by rw [HR.out.2.2.1, hT2]
              subst hkm
              have hcl := fun ty => clear_run HQ.out (k := kk) (n := n) (cap := cap - kk) (by omega) HR.out.2.1 ty
              have HW := Lib.hid (show PzAt B T R w (wr.setCells B (kk * 2) (Builtin.zeroCells #[.int .i64 0, .int .i64 0] (n - kk)).toList) from by
                have := HQ.out.take kk
                rw [hkt] at this
                exact this.fars _ _ (by rw [← hkt, List.length_take]; omega))
              have kn2 : (kk : Int) ≤ (n : Int) := by omega
              have kc : (kk : Int) ≤ (cap : Int) := by omega
              clear hT2 hkt hdd hjn
              go_wp2
              go_ret
              exact ⟨rfl, HW.out⟩
      · have hne : ¬ p = q := fun e => hpq e.symm
        rcases beq_pl hpq with hx | ⟨hx, hy⟩
        all_goals
          clear hpq
          go_wp2
          go_region
          all_goals
            go_wp2
            refine ⟨⟨kp + 1 + 1, by omega, by omega, by go_num, ?_, HK.out.drew⟩, by simp only [intOf]; omega⟩
            rw [HC.out.1, if_neg hne, HC.out.2, List.take_add_one (i := kp + 1), HPQ.out.2]
            rfl
    · obtain rfl : k = n := by omega
      have HK := Lib.hid hz
      have e : compactL l = l := by rwa [List.take_of_length_le (by rw [HL.out]; exact Nat.le_refl _)] at hct
      obtain ⟨h1, h2⟩ := HT.out
      rw [e] at h1
      subst h1
      rw [HL.out] at h2
      subst h2
      clear hz hct e
      go_wp2
      go_ret
      exact ⟨rfl, HK.out⟩
end Go.Proofs.YtgngepbemgbbeaaGreatDoor

namespace Go.Proofs.YtgngepbemgbbeaaGreatDoor
open Go.RowKit Go.Shelf Go.Sort
attribute [local go_sem] Oper.semAt_some

theorem few_all {ps : List Pl} (hv : fewB ps = true) : ∀ q ∈ ps, vP q = true := by
  unfold fewB at hv
  simp only [Bool.and_eq_true] at hv
  exact List.all_eq_true.1 hv.2
theorem few_len {ps : List Pl} (hv : fewB ps = true) : 1 ≤ ps.length ∧ ps.length ≤ 40 := by
  unfold fewB at hv
  simp only [Bool.and_eq_true, decide_eq_true_eq] at hv
  exact hv.1
theorem sP_len {ps : List Pl} (hv : fewB ps = true) : 1 ≤ (sP ps).length ∧ (sP ps).length ≤ ps.length := by
  have hall := few_all hv
  have hl := few_len hv
  obtain ⟨a1, a2⟩ := sP_asc hall
  refine ⟨?_, ?_⟩
  · cases ps with
    | nil => simp at hl
    | cons x l => exact List.length_pos_of_mem ((a2 x).2 (by simp))
  · have := compact_len (sortN ltP ps)
    rw [sortN_length] at this
    exact this
set_option maxHeartbeats 8000000 in
set_option maxRecDepth 100000 in
theorem hullG_s {B cap n : Nat} {ps : List Pl} (hl : ps.length = n) (hv : fewB ps = true) (w : World) (h : PsAt B ps w) :
    Calls Tryz.prog 22 #[.slice (some ⟨B, 0, none⟩) n cap] w fun e W' => (∃ g c, e = .returned (.tuple #[.slice (some ⟨g, 0, none⟩) (hullL ps).length c, .int .i64 0]) ∧ ArAt g (plC (hullL ps)) W') ∧ Below w.heap.size w W' := by
  have hall := few_all hv
  have hlen := few_len hv
  have hsl := sP_len hv
  obtain ⟨Q, hQ⟩ : ∃ Q, Q = sP ps := ⟨_, rfl⟩
  obtain ⟨m, hQl⟩ : ∃ m, Q.length = m := ⟨_, rfl⟩
  rw [← hQ, hQl] at hsl
  have hn1 : 1 ≤ n := by omega
  have hQv : ∀ p ∈ Q, vP p = true := fun p hp => hall p (((sP_asc hall).2 p).1 (by rwa [hQ] at hp))
  have KF := Lib.hid (few_s (cap := cap) hl (by omega) w h)
  rw [hv] at KF
  have K1 := Lib.hid (fun (W : World) (hb : Below w.heap.size w W) => clone_s (cap := cap) hl (by omega) (R := []) (w := w) (W := W) ⟨hb, fun x hx => by cases hx⟩ (h.below hb))
  have K2 := Lib.hid (fun (g c : Nat) (W : World) (hz : OzAt 26 (.slice (some ⟨g, 0, none⟩) n c) n (plC ps) [] w W) => sortG_s (cap := c) hl (by omega) hz.pz)
  have K3 := Lib.hid (fun (g c : Nat) (l' : List Pl) (W : World) (hc : n ≤ c) (hz : l'.length = n ∧ (∀ q, q ∈ l' ↔ q ∈ ps) ∧ l'.Pairwise (fun a b => ltP b a = false) ∧ PzAt g l' [] w W) =>
    (show Calls Tryz.prog 53 #[.slice (some ⟨g, 0, none⟩) n c] W fun e W' => e = .returned (.slice (some ⟨g, 0, none⟩) m c) ∧ PzAt g Q [] w W' from by
      have := compactG_s (cap := c) hz.1 (by omega) hc hz.2.2.2
      rw [sP_of hall hz.2.1 hz.2.2.1, ← hQ, hQl] at this
      exact this))
  by_cases h3 : m < 3
  · have hH : hullL ps = Q := by rw [hullL_sP, ← hQ, if_pos (by omega)]
    rw [hH, hQl]
    have hg3 : decide ((m : Int) < 3) = true := decide_eq_true (by omega)
    have hg4 : (m : Int) < 3 := by omega
    clear hall hQ hQl hQv hH hv h hl hsl hlen
    go_enter Tryz.func22, Tryz.ntmps22
    go_wp2_with (first
      | (go_at_call 48; (with_reducible refine (KF.out).mono ?_); rintro e w1 ⟨rfl, hb⟩; have H1 := Lib.hid hb; clear hb)
      | (go_at_call 50; (with_reducible refine (K1.out _ H1.out).mono ?_); rintro e w2 ⟨v, rfl, hz⟩; obtain ⟨g, c, rfl⟩ : ∃ g c, v = .slice (some ⟨g, 0, none⟩) n c := own_pos hz (by omega); have H2 := Lib.hid hz; have hcap := hz.cap_le.1; clear hz)
      | (go_at_call 51; (with_reducible refine (K2.out _ _ _ H2.out).mono ?_); rintro e w3 ⟨rfl, l', hz⟩; have H3 := Lib.hid hz; clear hz)
      | (go_at_call 53; (with_reducible refine (K3.out _ _ _ _ hcap H3.out).mono ?_); rintro e w4 ⟨rfl, hz⟩; have H4 := Lib.hid hz; clear hz)
      | fail)
    refine bodyPost_ret (v := .tuple #[.slice (some ⟨g, 0, none⟩) m c, .int .i64 0]) ?_ rfl ⟨⟨g, c, rfl, H4.out.ar.row (g, plC Q) (by simp)⟩, H4.out.az.bw⟩
    simp [results, Tryz.results22, go_sem]
  have hH : hullL ps = (chainL leftP Q).dropLast ++ (chainL leftP Q.reverse).dropLast := by rw [hullL_sP, ← hQ, if_neg (by omega)]
  obtain ⟨p1, hp1⟩ : ∃ p1, (chainR leftP Q).length = p1 + 1 := ⟨(chainR leftP Q).length - 1, by have := chainR_two (ok := leftP) (l := Q) (by omega); omega⟩
  obtain ⟨p2, hp2⟩ : ∃ p2, (chainR leftP Q.reverse).length = p2 + 1 := ⟨(chainR leftP Q.reverse).length - 1, by have := chainR_two (ok := leftP) (l := Q.reverse) (by simp; omega); omega⟩
  have b1 := chainR_two (ok := leftP) (l := Q) (by omega)
  have b2 := chainR_le (ok := leftP) (l := Q)
  have b3 := chainR_le (ok := leftP) (l := Q.reverse)
  rw [List.length_reverse] at b3
  have hHl : (hullL ps).length = p1 + p2 := by
    rw [hH, List.length_append, List.length_dropLast, List.length_dropLast]
    unfold chainL
    rw [List.length_reverse, List.length_reverse]
    omega
  have HH := Lib.hid hH
  rw [hHl]
  have K4 := Lib.hid (fun (g c : Nat) (W : World) (hz : PsAt g Q W) => chain_s (cap := c) hQl (by omega) hQv hz)
  rw [hp1] at K4
  have K5 := Lib.hid (fun (g c : Nat) (R : List (Nat × List Value)) (W : World) (hz : PzAt g Q R w W) => reverse_s (cap := c) hQl (by omega) (by omega) hz)
  have K6 := Lib.hid (fun (g c : Nat) (W : World) (hz : PsAt g Q.reverse W) => chain_s (cap := c) (n := m) (l := Q.reverse) (by rw [List.length_reverse, hQl]) (by omega) (fun p hp => hQv p (List.mem_reverse.1 hp)) hz)
  rw [hp2] at K6
  have d1 : (chainL leftP Q).dropLast.length = p1 := by unfold chainL; rw [List.length_dropLast, List.length_reverse]; omega
  have d2 : (chainL leftP Q.reverse).dropLast.length = p2 := by unfold chainL; rw [List.length_dropLast, List.length_reverse]; omega
  have K7 := Lib.hid (fun (S g1 g2 c1 c2 cs : Nat) (W : World) hA => concat_s (S := S) (g1 := g1) (g2 := g2) (c1 := c1) (c2 := c2) (cs := cs) (w := w) (W := W) d1 d2 (by omega) hA)
  rw [← hH] at K7
  have hw1 : IntKind.i64.wrap (p1 : Int) = (p1 : Int) := IntWalk.i64_in _ (by omega)
  have hw2 : IntKind.i64.wrap (p2 : Int) = (p2 : Int) := IntWalk.i64_in _ (by omega)
  have hn3 : ¬ (m : Int) < 3 := by omega
  have hn4 : ¬ m < 3 := by omega
  clear hall hQ hQl hQv hH hv hp1 hp2 b1 b2 b3 hHl d1 d2 h hl hsl hlen h3
  go_enter Tryz.func22, Tryz.ntmps22
  go_wp2_with (first
    | (go_at_call 48; (with_reducible refine (KF.out).mono ?_); rintro e w1 ⟨rfl, hb⟩; have H1 := Lib.hid hb; clear hb)
    | (go_at_call 50; (with_reducible refine (K1.out _ H1.out).mono ?_); rintro e w2 ⟨v, rfl, hz⟩; obtain ⟨g, c, rfl⟩ : ∃ g c, v = .slice (some ⟨g, 0, none⟩) n c := own_pos hz (by omega); have H2 := Lib.hid hz; have hcap := hz.cap_le.1; clear hz)
    | (go_at_call 51; (with_reducible refine (K2.out _ _ _ H2.out).mono ?_); rintro e w3 ⟨rfl, l', hz⟩; have H3 := Lib.hid hz; clear hz)
    | (go_at_call 53; (with_reducible refine (K3.out _ _ _ _ hcap H3.out).mono ?_); rintro e w4 ⟨rfl, hz⟩; have H4 := Lib.hid hz; clear hz)
    | (go_at_call 57; (with_reducible refine (K5.out _ _ _ _ H5.out).mono ?_); rintro e w6 ⟨rfl, hz⟩; have H6 := Lib.hid hz; clear hz)
    | (go_at_call 56; have _ := H6; (with_reducible refine (K6.out _ _ _ H6.out.ps).mono ?_); rintro e w7 ⟨v, rfl, hb, hz⟩; obtain ⟨g2, c2, rfl⟩ : ∃ g c, v = .slice (some ⟨g, 0, none⟩) (p2 + 1) c := own_pos hz (by omega); have H7 := Lib.hid (show AzAt [(g2, plC (chainL leftP Q.reverse)), (g1, plC (chainL leftP Q))] w _ from (H6.out.below hb).az.cons (hz.ar.row (g2, plC (chainL leftP Q.reverse)) (by simp))); have hq2 := hz.cap_le; clear hb hz)
    | (go_at_call 56; (with_reducible refine (K4.out _ _ _ H4.out.ps).mono ?_); rintro e w5 ⟨v, rfl, hb, hz⟩; obtain ⟨g1, c1, rfl⟩ : ∃ g c, v = .slice (some ⟨g, 0, none⟩) (p1 + 1) c := own_pos hz (by omega); have H5 := Lib.hid (show PzAt g Q [(g1, plC (chainL leftP Q))] w _ from (H4.out.below hb).cons (hz.ar.row (g1, plC (chainL leftP Q)) (by simp)) (by have := (hz.blk rfl).2.1; have := H4.out.ns.sz; omega)); have hq1 := hz.cap_le; clear hb hz)
    | fail)
  have H8 := Lib.hid (show AzAt [(w7.heap.size, [.slice (some ⟨g1, 0, none⟩) p1 c1, .slice (some ⟨g2, 0, none⟩) p2 c2]), (g1, plC (chainL leftP Q).dropLast), (g2, plC (chainL leftP Q.reverse).dropLast)] w _ from
    ((AzAt.mk (L := [(g1, plC (chainL leftP Q).dropLast), (g2, plC (chainL leftP Q.reverse).dropLast)]) H7.out.bw (fun x hx => by
      rcases List.mem_cons.1 hx with rfl | hx
      · exact (H7.out.row (g1, plC (chainL leftP Q)) (by simp)).dropLast
      · rcases List.mem_cons.1 hx with rfl | hx
        · exact (H7.out.row (g2, plC (chainL leftP Q.reverse)) (by simp)).dropLast
        · cases hx)).push [.slice (some ⟨g1, 0, none⟩) p1 c1, .slice (some ⟨g2, 0, none⟩) p2 c2] 27).drew)
  have hc1 : (p1 : Int) ≤ (c1 : Int) := by omega
  have hc2 : (p2 : Int) ≤ (c2 : Int) := by omega
  clear H7 H6 H5 H4 H3 H2 H1 K1 K2 K3 K4 K5 K6
  go_region_with (first
    | (go_at_call 58; (with_reducible refine (K7.out _ _ _ _ _ _ _ H8.out).mono ?_); rintro e w8 ⟨g3, c3, rfl, hz⟩; have H9 := Lib.hid hz; clear hz)
    | fail)
  all_goals
    go_wp2
    refine bodyPost_ret (v := .tuple #[.slice (some ⟨g3, 0, none⟩) (p1 + p2) c3, .int .i64 0]) ?_ rfl ⟨⟨g3, c3, rfl, H9.out.ar.row (g3, plC (hullL ps)) (by simp)⟩, H9.out.az.bw⟩
    simp [results, Tryz.results22, go_sem]
end Go.Proofs.YtgngepbemgbbeaaGreatDoor

namespace Go.Proofs.YtgngepbemgbbeaaGreatDoor
open Go.RowKit Go.Shelf Go.Sort
attribute [local go_sem] Oper.semAt_some

set_option maxRecDepth 100000 in
set_option maxHeartbeats 8000000 in
theorem coveredG_s {B cap n : Nat} {ps : List Pl} {r : Rc} (hl : ps.length = n) (hv : fewB ps = true) (hh : hullL ps = ps) (hr : vRc r = true)
    {w : World} (hi : IOps w) (hf : FrOp w) (h : PsAt B ps w) :
    Calls Tryz.prog 27 #[.slice (some ⟨B, 0, none⟩) n cap, .agg #[.int .i64 r.x, .int .i64 r.y, .int .i64 r.w, .int .i64 r.h]] w fun e W' => e = .returned (.tuple #[.agg #[.string (qN (coveredO ps r)), .string (qD (coveredO ps r))], .int .i64 0]) ∧ Below w.heap.size w W' := by
  have hall : ∀ q ∈ ps, vP q = true := by
    unfold fewB at hv
    simp only [Bool.and_eq_true] at hv
    exact List.all_eq_true.1 hv.2
  have hnn := few_len hv
  rw [hl] at hnn
  obtain ⟨hn1, hn⟩ := hnn
  have K1 := Lib.hid (fun (W : World) (hb : Below w.heap.size w W) => hullG_s (cap := cap) hl hv W (h.below hb))
  rw [hh, hl] at K1
  have K2 := Lib.hid (fun (g c : Nat) (W : World) (hb : Below w.heap.size w W) (hg : PsAt g ps W) => equal_s (c1 := c) (c2 := cap) hl (by omega) W hg (h.below hb))
  have K3 := Lib.hid (fun (W : World) => by have := vRect_s r W; rw [hr] at this; exact this)
  have K4 := Lib.hid (fun (W : World) (hb : Below w.heap.size w W) => whole_s (n := 0) (by decide) (by decide) (hi.below hb) (hf.below hb))
  have HA := Lib.hid hall
  have HP := Lib.hid h
  have HL := Lib.hid hl
  have HR := Lib.hid hr
  have HI := Lib.hid hi
  have HF := Lib.hid hf
  have hB := h.sz
  have H0 := Lib.hid (show AzAt [(w.heap.size + 1, [.string ⟨#[]⟩, .string ⟨#[]⟩]), (w.heap.size, [.int .i64 r.x, .int .i64 r.y, .int .i64 r.w, .int .i64 r.h])] w _ from by
    have hp := ((AzAt.start w).push [.int .i64 r.x, .int .i64 r.y, .int .i64 r.w, .int .i64 r.h] 29).push [.string ⟨#[]⟩, .string ⟨#[]⟩] 47
    simp only [World.size_alloc] at hp
    exact hp)
  clear hall hv hh hr hi hf h hl
  refine (callsIn_wide (n := 3)).1 ?_
  refine callsIn_of_wp_marks Tryz.func27 rfl trivial ?_ rfl
  simp only [Tryz.ntmps27, List.size_toArray, List.length_cons, List.length_nil, Nat.reduceAdd, Nat.reduceSub, Array.replicate_succ, Array.replicate_zero, List.push_toArray, List.append_toArray, List.nil_append, List.cons_append]
  gi_wp2_with (first
    | (refine ⟨trivial, ?_⟩; gi_at_call 22; with_reducible refine (callsIn_wide.2 (K1.out _ H0.out.bw)).mono ?_; rintro e w1 ⟨⟨g, c, rfl, hg⟩, hb⟩; have H1 := Lib.hid (H0.out.below hb); have G1 := Lib.hid (PsAt.of hg); clear hb hg)
    | (refine ⟨trivial, ?_⟩; gi_at_call 63; with_reducible refine (callsIn_wide.2 (K2.out _ _ _ H1.out.bw G1.out)).mono ?_; rintro e w2 ⟨rfl, hb⟩; have H2 := Lib.hid (H1.out.below hb); clear hb; have x0 := ((H2.out.row (w.heap.size, [.int .i64 r.x, .int .i64 r.y, .int .i64 r.w, .int .i64 r.h]) (by simp)).row 0 _ rfl); have x1 := ((H2.out.row (w.heap.size, [.int .i64 r.x, .int .i64 r.y, .int .i64 r.w, .int .i64 r.h]) (by simp)).row 1 _ rfl); have x2 := ((H2.out.row (w.heap.size, [.int .i64 r.x, .int .i64 r.y, .int .i64 r.w, .int .i64 r.h]) (by simp)).row 2 _ rfl); have x3 := ((H2.out.row (w.heap.size, [.int .i64 r.x, .int .i64 r.y, .int .i64 r.w, .int .i64 r.h]) (by simp)).row 3 _ rfl))
    | (refine ⟨trivial, ?_⟩; gi_at_call 14; with_reducible refine (callsIn_wide.2 (K3.out _)).mono ?_; rintro e w3 ⟨rfl, hb⟩; have H3 := Lib.hid (H2.out.below hb); clear hb x0 x1 x2 x3)
    | (refine ⟨trivial, ?_⟩; gi_at_call 64; with_reducible refine (callsIn_wide.2 (K4.out _ H3.out.bw)).mono ?_; rintro e w4 ⟨rfl, hb⟩; have H4 := Lib.hid (H3.out.below hb); clear hb)
    | (refine ⟨trivial, ?_⟩; gi_at_call 62; refine (edges_in Fence.wide _ trivial rfl _ _ _ _).mono ?_; rintro e w' ⟨rfl, rfl⟩))
  obtain ⟨W0, hW0⟩ : ∃ W0, (w4.alloc (.cells #[.string (qN (whO 0)), .string (qD (whO 0))] 85)) = W0 := ⟨_, rfl⟩
  have cS := Lib.hid (show ArAt w4.heap.size [.string (qN (whO 0)), .string (qD (whO 0))] W0 from by rw [← hW0]; exact ArAt.mk' w4 _ _)
  have hs0 : W0.heap.size = w4.heap.size + 1 := by rw [← hW0]; simp
  have hB0 : Below w4.heap.size w4 W0 := by rw [← hW0]; exact (Below.refl _ _).alloc (Nat.le_refl _) _
  have bN := Boxed.new W0 27 (.slice (some ⟨B, 0, none⟩) n cap)
  rw [hs0] at bN
  rw [hW0]
  have hw4 := H4.out.bw.size
  have hRB := (H4.out.row (w.heap.size, [.int .i64 r.x, .int .i64 r.y, .int .i64 r.w, .int .i64 r.h]) (by simp)).sz
  have hRES := (H4.out.row (w.heap.size + 1, [.string ⟨#[]⟩, .string ⟨#[]⟩]) (by simp)).sz
  simp only at hRB hRES
  clear hW0 K1 K2 K3 K4 H1 H2 H3 H0 G1
  have hB1 : Below W0.heap.size W0 (W0.alloc (.cells #[.slice (some ⟨B, 0, none⟩) n cap] 27)) := (Below.refl _ _).alloc (Nat.le_refl _) _
  refine wpIn_rangeFunc_ownH rfl (by omega) (gf := 91) (lb := #[.pointer (some ⟨w4.heap.size + 1, 0, none⟩)]) rfl trivial (enters_of Tryz.func91 (by kernel_rfl) rfl)
    (edges_stops Fence.wide _ trivial rfl (by omega) (w4.heap.size + 1) w4.heap.size B cap n ps HA.out HL.out (by omega) (by omega) (W0.alloc (.cells #[.slice (some ⟨B, 0, none⟩) n cap] 27)) bN.cell (by simp; omega) (by simp; omega) (((HP.out.below H4.out.bw).below hB0).below hB1))
    KeepB.trans (keepB_b (by simp; omega) (by simp; omega)) (Below.refl _ _) (fun _ => rfl)
    (fun pre W => ((W.cell? ⟨w4.heap.size, 0, none⟩ = some (.string (qN (accO r pre))) ∧ W.cell? ⟨w4.heap.size, 1, none⟩ = some (.string (qD (accO r pre)))) ∧ (W.frozen? ⟨w4.heap.size, 0, none⟩ = false ∧ W.frozen? ⟨w4.heap.size, 1, none⟩ = false) ∧ w4.heap.size + 2 ≤ W.heap.size) ∧ Below w4.heap.size w4 W)
    (fun _ _ _ => False)
    ?I (fun _ _ _ _ _ hs _ _ => hs) ?h0
    (fun x a' W => ∃ A C : Nat, a' = { tmps := #[.slice (some ⟨B, 0, none⟩) n cap, .agg #[.int .i64 r.x, .int .i64 r.y, .int .i64 r.w, .int .i64 r.h], undef, .pointer (some ⟨w.heap.size, 0, none⟩), .pointer (some ⟨w.heap.size + 1, 0, none⟩), .int .i64 0, .slice (some ⟨g, 0, none⟩) n c, .int .i64 0, .pointer (some ⟨w4.heap.size, 0, none⟩), .pointer (some ⟨A, 0, none⟩), .pointer (some ⟨C, 0, none⟩), .tuple #[.slice (some ⟨g, 0, none⟩) n c, .int .i64 0], .slice (some ⟨B, 0, none⟩) n cap, .tuple #[.slice (some ⟨g, 0, none⟩) n c, .int .i64 0], .slice (some ⟨g, 0, none⟩) n c, .int .i64 0, .int .i64 0, .bool false, .bool false, .slice (some ⟨g, 0, none⟩) n c, .slice (some ⟨B, 0, none⟩) n cap, .bool true, .bool false, .bool false, .bool false, .agg #[.int .i64 r.x, .int .i64 r.y, .int .i64 r.w, .int .i64 r.h], .bool true, .bool false, .bool false, undef, .agg #[.string (qN (whO 0)), .string (qD (whO 0))], .slice (some ⟨B, 0, none⟩) n cap, .func (.func 91) #[] #[.pointer (some ⟨w4.heap.size + 1, 0, none⟩)], .agg #[.int .i64 x.1.1.x, .int .i64 x.1.1.y], .agg #[.int .i64 x.1.2.x, .int .i64 x.1.2.y], undef, undef, undef, undef, undef, undef, undef, undef, undef, undef, undef, undef, undef, undef, undef, undef, undef, undef, undef], defers := [] } ∧ (W.cell? ⟨A, 0, none⟩ = some (.int .i64 x.1.1.x) ∧ W.cell? ⟨A, 1, none⟩ = some (.int .i64 x.1.1.y)) ∧ (W.cell? ⟨C, 0, none⟩ = some (.int .i64 x.1.2.x) ∧ W.cell? ⟨C, 1, none⟩ = some (.int .i64 x.1.2.y)))
    ?hAx ?assign ?body ?done ?stop
  case I =>
    exact OwnFrom.and (Own.from (fun s A B row hs hg hr => ⟨⟨cell_kept hs.1.1 hg hr, cell_kept hs.1.2 hg hr⟩, ⟨(frozen_kept hs.1.1 hg hr).trans hs.2.1.1, (frozen_kept hs.1.2 hg hr).trans hs.2.1.2⟩, Nat.le_trans hs.2.2 hg.size⟩) _) (ownFrom_below (Nat.le_refl _) (by simp; omega))
  case h0 => exact ⟨⟨⟨(cS.out.al _).row 0 _ rfl, (cS.out.al _).row 1 _ rfl⟩, ⟨(cS.out.al _).fz 0 (by simp), (cS.out.al _).fz 1 (by simp)⟩, by simp; omega⟩, hB0.trans (hB1.mono (by omega))⟩
  case hAx =>
    rintro x a' _ X Y row ⟨A, C, e, ⟨h1, h2⟩, h3, h4⟩ hg hr
    have hr' : ∀ r, row = some r → ∃ o : Obj, X.heap[r]? = some o ∧ o.isCells = false := fun r e => (hr r e).2
    exact ⟨A, C, e, ⟨cell_kept h1 hg hr', cell_kept h2 hg hr'⟩, cell_kept h3 hg hr', cell_kept h4 hg hr'⟩
  case assign =>
    intro l pre x W K hI hK
    simp only [edEnc]
    have HI := Lib.hid hI
    have HK := Lib.hid hK
    clear hI hK
    gi_wp2
    have hsz := HI.out.1.2.2
    have hb2 : Below W.heap.size W ((W.alloc (.cells #[.int .i64 x.1.1.x, .int .i64 x.1.1.y] 26)).alloc (.cells #[.int .i64 x.1.2.x, .int .i64 x.1.2.y] 26)) := ((Below.refl _ _).alloc (Nat.le_refl _) _).alloc (by simp) _
    have hlt : w4.heap.size < W.heap.size := by omega
    refine HK.out _ _ ((keepsOthers_below hb2).from _) (KeepB.of_below hb2 (by omega) (by omega)) ⟨⟨⟨(hb2.cell (p := ⟨w4.heap.size, 0, none⟩) hlt).trans HI.out.1.1.1, (hb2.cell (p := ⟨w4.heap.size, 1, none⟩) hlt).trans HI.out.1.1.2⟩, ⟨(hb2.frozen (p := ⟨w4.heap.size, 0, none⟩) hlt).trans HI.out.1.2.1.1, (hb2.frozen (p := ⟨w4.heap.size, 1, none⟩) hlt).trans HI.out.1.2.1.2⟩, Nat.le_trans hsz hb2.size⟩, HI.out.2.trans (hb2.mono (by omega))⟩ ⟨W.heap.size, W.heap.size + 1, rfl, ?_, ?_⟩
    · constructor <;> simp [go_sem]
    · constructor <;> simp [go_sem]
  case body =>
    rintro l pre x a' W hl hr ⟨⟨⟨c0, c1⟩, ⟨f0, f1⟩, hsz⟩, hBl⟩ ⟨A, C, rfl, ⟨h1, h2⟩, h3, h4⟩ hlen
    obtain ⟨⟨⟨p, q⟩, hx⟩, hxe⟩ : ∃ y : PE, y = x := ⟨x, rfl⟩
    subst hxe
    simp only at h1 h2 h3 h4 hx ⊢
    have HX := Lib.hid (accO_snoc r pre ⟨(p, q), hx⟩)
    have fa := accO_FO r pre
    generalize accO r pre = acc at c0 c1 HX fa
    have hbD : Below w.heap.size w W.drew := (H4.out.bw.trans (hBl.mono hw4)).drew
    have hlt : w4.heap.size < W.heap.size := by omega
    have hmx : Tryz.prog.follows .mixedOrders = true := by kernel_rfl
    have x0 := (hBl.cell (p := ⟨w.heap.size, 0, none⟩) hRB).trans ((H4.out.row (w.heap.size, [.int .i64 r.x, .int .i64 r.y, .int .i64 r.w, .int .i64 r.h]) (by simp)).row 0 _ rfl)
    have x1 := (hBl.cell (p := ⟨w.heap.size, 1, none⟩) hRB).trans ((H4.out.row (w.heap.size, [.int .i64 r.x, .int .i64 r.y, .int .i64 r.w, .int .i64 r.h]) (by simp)).row 1 _ rfl)
    have x2 := (hBl.cell (p := ⟨w.heap.size, 2, none⟩) hRB).trans ((H4.out.row (w.heap.size, [.int .i64 r.x, .int .i64 r.y, .int .i64 r.w, .int .i64 r.h]) (by simp)).row 2 _ rfl)
    have x3 := (hBl.cell (p := ⟨w.heap.size, 3, none⟩) hRB).trans ((H4.out.row (w.heap.size, [.int .i64 r.x, .int .i64 r.y, .int .i64 r.w, .int .i64 r.h]) (by simp)).row 3 _ rfl)
    clear hr hl
    by_cases hle : p.x ≤ q.x
    · have HN := Lib.hid (show accO r (pre ++ [⟨(p, q), hx⟩]) = miO acc (underO p q r) from by rw [HX.out]; unfold coverS; rw [if_pos hle])
      have KU := Lib.hid (fun (V : World) (hb : Below w.heap.size w V) => under_s hx.1 hx.2 HR.out (HI.out.below hb) (HF.out.below hb))
      have KM := Lib.hid (fun (V : World) (hb : Below w.heap.size w V) => minus_s fa (underO_FO p q r) (HI.out.below hb))
      generalize underO p q r = u at KU KM HN
      obtain ⟨nx, hnx⟩ : ∃ nx, nx = miO acc u := ⟨_, rfl⟩
      rw [← hnx] at KM HN
      clear hnx
      gi_wp2
      gi_region_with_o (first
        | (refine ⟨trivial, ?_⟩; gi_at_call 66; (with_reducible refine (CallsIn.inRound l (callsIn_wide.2 (KU.out _ hbD))).mono ?_); rintro e w5 ⟨rfl, hb5⟩; have HB5 := Lib.hid hb5; have y0 := (hb5.cell (p := ⟨w4.heap.size, 0, none⟩) hlt).trans c0; have y1 := (hb5.cell (p := ⟨w4.heap.size, 1, none⟩) hlt).trans c1; clear hb5)
        | (refine ⟨trivial, ?_⟩; gi_at_call 65; (with_reducible refine (CallsIn.inRound l (callsIn_wide.2 (KM.out _ (hbD.trans (HB5.out.mono hbD.size))))).mono ?_); rintro e w6 ⟨rfl, hb6⟩; have HB6 := Lib.hid (HB5.out.trans (hb6.mono HB5.out.size)); have z0 := (HB6.out.cell (p := ⟨w4.heap.size, 0, none⟩) hlt).trans c0; have z1 := (HB6.out.cell (p := ⟨w4.heap.size, 1, none⟩) hlt).trans c1; have g0 := (HB6.out.frozen (p := ⟨w4.heap.size, 0, none⟩) hlt).trans f0; have g1 := (HB6.out.frozen (p := ⟨w4.heap.size, 1, none⟩) hlt).trans f1; clear hb6)
        | fail)
      all_goals
        gi_wp2
        have cc := cover_close (B0 := (W0.alloc (.cells #[.slice (some ⟨B, 0, none⟩) n cap] 27)).heap.size) (u := .string (qN nx)) (v := .string (qD nx)) hBl hsz (show Below W.heap.size W _ from ((Below.refl W.heap.size W).drew).trans HB6.out) c0 c1 f0 f1
        refine ⟨cc.1, cc.2.1, ?_⟩
        simp only [HN.out]
        exact cc.2.2
    · have HN := Lib.hid (show accO r (pre ++ [⟨(p, q), hx⟩]) = plO acc (underO q p r) from by rw [HX.out]; unfold coverS; rw [if_neg hle])
      have KU := Lib.hid (fun (V : World) (hb : Below w.heap.size w V) => under_s hx.2 hx.1 HR.out (HI.out.below hb) (HF.out.below hb))
      have KM := Lib.hid (fun (V : World) (hb : Below w.heap.size w V) => plus_s fa (underO_FO q p r) (HI.out.below hb))
      generalize underO q p r = u at KU KM HN
      obtain ⟨nx, hnx⟩ : ∃ nx, nx = plO acc u := ⟨_, rfl⟩
      rw [← hnx] at KM HN
      clear hnx
      gi_wp2
      gi_region_with_o (first
        | (refine ⟨trivial, ?_⟩; gi_at_call 66; (with_reducible refine (CallsIn.inRound l (callsIn_wide.2 (KU.out _ hbD))).mono ?_); rintro e w5 ⟨rfl, hb5⟩; have HB5 := Lib.hid hb5; have y0 := (hb5.cell (p := ⟨w4.heap.size, 0, none⟩) hlt).trans c0; have y1 := (hb5.cell (p := ⟨w4.heap.size, 1, none⟩) hlt).trans c1; clear hb5)
        | (refine ⟨trivial, ?_⟩; gi_at_call 67; (with_reducible refine (CallsIn.inRound l (callsIn_wide.2 (KM.out _ (hbD.trans (HB5.out.mono hbD.size))))).mono ?_); rintro e w6 ⟨rfl, hb6⟩; have HB6 := Lib.hid (HB5.out.trans (hb6.mono HB5.out.size)); have z0 := (HB6.out.cell (p := ⟨w4.heap.size, 0, none⟩) hlt).trans c0; have z1 := (HB6.out.cell (p := ⟨w4.heap.size, 1, none⟩) hlt).trans c1; have g0 := (HB6.out.frozen (p := ⟨w4.heap.size, 0, none⟩) hlt).trans f0; have g1 := (HB6.out.frozen (p := ⟨w4.heap.size, 1, none⟩) hlt).trans f1; clear hb6)
        | fail)
      all_goals
        gi_wp2
        have cc := cover_close (B0 := (W0.alloc (.cells #[.slice (some ⟨B, 0, none⟩) n cap] 27)).heap.size) (u := .string (qN nx)) (v := .string (qD nx)) hBl hsz (show Below W.heap.size W _ from ((Below.refl W.heap.size W).drew).trans HB6.out) c0 c1 f0 f1
        refine ⟨cc.1, cc.2.1, ?_⟩
        simp only [HN.out]
        exact cc.2.2
  case done =>
    rintro D ys W hD rfl ⟨⟨⟨c0, c1⟩, ⟨f0, f1⟩, hsz⟩, hBl⟩ hK
    rw [accO_all] at c0 c1
    have HRES := Lib.hid (AzAt.mk (L := [(w.heap.size + 1, [.string ⟨#[]⟩, .string ⟨#[]⟩])]) (H4.out.bw.trans (hBl.mono hw4)) (fun u hu => by
      obtain rfl : u = (w.heap.size + 1, [.string ⟨#[]⟩, .string ⟨#[]⟩]) := by simpa using hu
      exact (H4.out.row (w.heap.size + 1, [.string ⟨#[]⟩, .string ⟨#[]⟩]) (by simp)).of_block (hBl.block _ hRES) hBl.size))
    have y0 := ((HRES.out.row (w.heap.size + 1, [.string ⟨#[]⟩, .string ⟨#[]⟩]) (by simp)).row 0 _ rfl)
    have y1 := ((HRES.out.row (w.heap.size + 1, [.string ⟨#[]⟩, .string ⟨#[]⟩]) (by simp)).row 1 _ rfl)
    have g0 := ((HRES.out.row (w.heap.size + 1, [.string ⟨#[]⟩, .string ⟨#[]⟩]) (by simp)).fz 0 (by simp))
    have g1 := ((HRES.out.row (w.heap.size + 1, [.string ⟨#[]⟩, .string ⟨#[]⟩]) (by simp)).fz 1 (by simp))
    obtain ⟨sn, hsn⟩ : ∃ sn, sn = qN (coveredO ps r) := ⟨_, rfl⟩
    obtain ⟨sd, hsd⟩ : ∃ sd, sd = qD (coveredO ps r) := ⟨_, rfl⟩
    rw [← hsn] at c0
    rw [← hsd] at c1
    have HSN := Lib.hid (And.intro hsn hsd)
    clear hsn hsd
    gi_wp2
    have hp := HRES.out.set2 (by omega) (by simp <;> omega) (.string sn) (.string sd)
    generalize hWF : ((W.setCell ⟨w.heap.size + 1, 0, none⟩ (.string sn)).setCell ⟨w.heap.size + 1, 1, none⟩ (.string sd)) = WF at hp ⊢
    have hD' : w4.heap.size + 2 ≤ D := by simp [hs0] at hD; omega
    have hKF : WF.heap[D]? = some (.deferred (some [])) := by
      rw [← hWF]
      rw [Below.heap_setCell _ _ _ _ (by show D ≠ w.heap.size + 1; omega), Below.heap_setCell _ _ _ _ (by show D ≠ w.heap.size + 1; omega)]
      exact hK
    have hbl := hp.bw.trans (belowK_b (w := w) (Nat.le_refl _) WF D _ (.deferred none) (by omega) hKF rfl rfl)
    have q0 : (WF.putObj D (.deferred none)).cell? ⟨w.heap.size + 1, 0, none⟩ = some (.string sn) := (World.cell?_of_block (w := WF) (World.putObj_heap_other (by show w.heap.size + 1 ≠ D; omega))).trans ((hp.row (w.heap.size + 1, [.string sn, .string sd]) (by simp)).row 0 _ rfl)
    have q1 : (WF.putObj D (.deferred none)).cell? ⟨w.heap.size + 1, 1, none⟩ = some (.string sd) := (World.cell?_of_block (w := WF) (World.putObj_heap_other (by show w.heap.size + 1 ≠ D; omega))).trans ((hp.row (w.heap.size + 1, [.string sn, .string sd]) (by simp)).row 1 _ rfl)
    refine ⟨by simp, .inl ⟨_, _, rfl, run_takeDeferred hKF, ?_⟩⟩
    refine ⟨.tuple #[.agg #[.string sn, .string sd], .int .i64 0], ?_, by rw [HSN.out.1, HSN.out.2], hbl⟩
    simp [results, Tryz.f27, go_sem, Result.andThen, q0, q1]
  case stop =>
    rintro D c pre W _ _ hF
    exact hF.elim
end Go.Proofs.YtgngepbemgbbeaaGreatDoor

namespace Go.Proofs.YtgngepbemgbbeaaGreatDoor
open Go.RowKit Go.Shelf Go.Sort
attribute [local go_sem] Oper.semAt_some

/-- The place that two integers determine. -/
def plN (x y : Int) : Pl := ⟨(pickN x 40 : Nat), (pickN y 40 : Nat)⟩
theorem plN_b (x y : Int) : (0 ≤ (plN x y).x ∧ (plN x y).x ≤ 39) ∧ (0 ≤ (plN x y).y ∧ (plN x y).y ≤ 39) := by
  have h1 := pickN_lt x (n := 40) (by decide)
  have h2 := pickN_lt y (n := 40) (by decide)
  unfold plN
  simp only
  omega
theorem vP_of {p : Pl} (h : (0 ≤ p.x ∧ p.x ≤ 4095) ∧ (0 ≤ p.y ∧ p.y ≤ 4095)) : vP p = true := by
  unfold vP
  simp only [Bool.and_eq_true, decide_eq_true_eq]
  omega
theorem plN_v (x y : Int) : vP (plN x y) = true := vP_of (by have := plN_b x y; omega)
theorem plN_s {x y : Int} (hx : -9223372036854775808 ≤ x ∧ x ≤ 9223372036854775807) (hy : -9223372036854775808 ≤ y ∧ y ≤ 9223372036854775807) (w : World) :
    Calls Tryz.prog 37 #[.agg #[.int .i64 x, .int .i64 y]] w fun e W' => e = .returned (.agg #[.int .i64 (plN x y).x, .int .i64 (plN x y).y]) ∧ Below w.heap.size w W' := place_s hx.1 hx.2 hy.1 hy.2 w
/-- What a place is moved to. -/
def mvN (p : Pl) (x y : Int) : Pl := p.mv (pickN x 1000 : Nat) (pickN y 1000 : Nat)
theorem mvN_v {p : Pl} (h : (0 ≤ p.x ∧ p.x ≤ 39) ∧ (0 ≤ p.y ∧ p.y ≤ 39)) (x y : Int) : vP (mvN p x y) = true := vP_of (by
  have h1 := pickN_lt x (n := 1000) (by decide)
  have h2 := pickN_lt y (n := 1000) (by decide)
  unfold mvN Pl.mv
  simp only
  omega)
theorem mvN_s {p : Pl} {x y : Int} (hv : vP p = true) (hx : -9223372036854775808 ≤ x ∧ x ≤ 9223372036854775807) (hy : -9223372036854775808 ≤ y ∧ y ≤ 9223372036854775807) (w : World) :
    Calls Tryz.prog 38 #[.agg #[.int .i64 p.x, .int .i64 p.y], .agg #[.int .i64 x, .int .i64 y]] w fun e W' => e = .returned (.agg #[.int .i64 (mvN p x y).x, .int .i64 (mvN p x y).y]) ∧ Below w.heap.size w W' := moved_s hv hx.1 hx.2 hy.1 hy.2 w
set_option maxHeartbeats 8000000 in
set_option maxRecDepth 100000 in
theorem PlaneSides_law (a0 a1 b0 b1 c0 c1 m0 m1 : Int) (ha0 : -9223372036854775808 ≤ a0 ∧ a0 ≤ 9223372036854775807) (ha1 : -9223372036854775808 ≤ a1 ∧ a1 ≤ 9223372036854775807) (hb0 : -9223372036854775808 ≤ b0 ∧ b0 ≤ 9223372036854775807) (hb1 : -9223372036854775808 ≤ b1 ∧ b1 ≤ 9223372036854775807) (hc0 : -9223372036854775808 ≤ c0 ∧ c0 ≤ 9223372036854775807) (hc1 : -9223372036854775808 ≤ c1 ∧ c1 ≤ 9223372036854775807) (hm0 : -9223372036854775808 ≤ m0 ∧ m0 ≤ 9223372036854775807) (hm1 : -9223372036854775808 ≤ m1 ∧ m1 ≤ 9223372036854775807) (w : World) (hq : IOps w ∧ FrOp w) :
    Calls Tryz.prog 4 #[.agg #[.int .i64 a0, .int .i64 a1, .int .i64 b0, .int .i64 b1, .int .i64 c0, .int .i64 c1], .agg #[.int .i64 m0, .int .i64 m1]] w fun e W' => e = .returned (.bool true) ∧ Below w.heap.size w W' := by
  have KS := Lib.hid (fun (W : World) (hb : Below w.heap.size w W) => sane7_s (hq.1.below hb) (hq.2.below hb))
  have KP := Lib.hid (fun (W : World) => plN_s ha0 ha1 W)
  have KQ := Lib.hid (fun (W : World) => plN_s hb0 hb1 W)
  have KR := Lib.hid (fun (W : World) => plN_s hc0 hc1 W)
  have bp := plN_b a0 a1
  have bq := plN_b b0 b1
  have br := plN_b c0 c1
  generalize plN a0 a1 = p at KP bp
  generalize plN b0 b1 = q at KQ bq
  generalize plN c0 c1 = r at KR br
  have vp : vP p = true := vP_of (by omega)
  have vq : vP q = true := vP_of (by omega)
  have vr : vP r = true := vP_of (by omega)
  have MP := Lib.hid (fun (W : World) => mvN_s vp hm0 hm1 W)
  have MQ := Lib.hid (fun (W : World) => mvN_s vq hm0 hm1 W)
  have MR := Lib.hid (fun (W : World) => mvN_s vr hm0 hm1 W)
  have S1 := Lib.hid (fun (W : World) => side_s p q r W)
  have S2 := Lib.hid (fun (W : World) => side_s q p r W)
  rw [side_swap] at S2
  have S3 := Lib.hid (fun (W : World) => side_s p r q W)
  rw [side_swap2] at S3
  have S4 := Lib.hid (fun (W : World) => side_s q r p W)
  rw [side_cyc] at S4
  have S5 := Lib.hid (fun (W : World) => side_s (mvN p m0 m1) (mvN q m0 m1) (mvN r m0 m1) W)
  rw [show sideP (mvN p m0 m1) (mvN q m0 m1) (mvN r m0 m1) = sideP p q r from side_mv (by simp [vp, vq, vr]) (by
    have h1 := mvN_v bp m0 m1
    have h2 := mvN_v bq m0 m1
    have h3 := mvN_v br m0 m1
    unfold mvN at h1 h2 h3
    simp [h1, h2, h3])] at S5
  obtain ⟨n1, n2⟩ := side_range p q r
  generalize sideP p q r = n at S1 S2 S3 S4 S5 n1 n2
  generalize mvN p m0 m1 = p' at MP S5
  generalize mvN q m0 m1 = q' at MQ S5
  generalize mvN r m0 m1 = r' at MR S5
  have hwn : IntKind.i64.wrap (-n) = -n := IntWalk.i64_in _ (by omega)
  have t1 : decide ((-1 : Int) ≤ n) = true := decide_eq_true n1
  have t2 : decide (n ≤ 1) = true := decide_eq_true n2
  have HC := Lib.hid (show AzAt [(w.heap.size + 1, [.int .i64 m0, .int .i64 m1]), (w.heap.size, [.int .i64 a0, .int .i64 a1, .int .i64 b0, .int .i64 b1, .int .i64 c0, .int .i64 c1])] w _ from by
    have hp := ((AzAt.start w).push [.int .i64 a0, .int .i64 a1, .int .i64 b0, .int .i64 b1, .int .i64 c0, .int .i64 c1] 56).push [.int .i64 m0, .int .i64 m1] 55
    simp only [World.size_alloc] at hp
    exact hp)
  clear ha0 ha1 hb0 hb1 hc0 hc1 hm0 hm1 bp bq br vp vq vr hq
  go_enter Tryz.func4, Tryz.ntmps4
  go_wp2_with (first
    | (go_at_call 10; (with_reducible refine (KS.out _ HC.out.bw).mono ?_); rintro e w1 ⟨rfl, hb⟩; replace HC := Lib.hid (HC.out.below hb); clear hb; have x0 := ((HC.out.at (B := w.heap.size) (l := [.int .i64 a0, .int .i64 a1, .int .i64 b0, .int .i64 b1, .int .i64 c0, .int .i64 c1]) (by simp)).row 0 _ rfl); have x1 := ((HC.out.at (B := w.heap.size) (l := [.int .i64 a0, .int .i64 a1, .int .i64 b0, .int .i64 b1, .int .i64 c0, .int .i64 c1]) (by simp)).row 1 _ rfl))
    | (go_at_call 37; (with_reducible refine (KP.out _).mono ?_); rintro e wP ⟨rfl, hb⟩; replace HC := Lib.hid ((HC.out.below hb).push [.int .i64 p.x, .int .i64 p.y] 26); clear hb x0 x1; have x2 := ((HC.out.at (B := w.heap.size) (l := [.int .i64 a0, .int .i64 a1, .int .i64 b0, .int .i64 b1, .int .i64 c0, .int .i64 c1]) (by simp)).row 2 _ rfl); have x3 := ((HC.out.at (B := w.heap.size) (l := [.int .i64 a0, .int .i64 a1, .int .i64 b0, .int .i64 b1, .int .i64 c0, .int .i64 c1]) (by simp)).row 3 _ rfl))
    | (go_at_call 37; (with_reducible refine (KQ.out _).mono ?_); rintro e wQ ⟨rfl, hb⟩; replace HC := Lib.hid ((HC.out.below hb).push [.int .i64 q.x, .int .i64 q.y] 26); clear hb x2 x3; have x4 := ((HC.out.at (B := w.heap.size) (l := [.int .i64 a0, .int .i64 a1, .int .i64 b0, .int .i64 b1, .int .i64 c0, .int .i64 c1]) (by simp)).row 4 _ rfl); have x5 := ((HC.out.at (B := w.heap.size) (l := [.int .i64 a0, .int .i64 a1, .int .i64 b0, .int .i64 b1, .int .i64 c0, .int .i64 c1]) (by simp)).row 5 _ rfl))
    | (go_at_call 37; (with_reducible refine (KR.out _).mono ?_); rintro e wR ⟨rfl, hb⟩; replace HC := Lib.hid ((HC.out.below hb).push [.int .i64 r.x, .int .i64 r.y] 26); clear hb x4 x5; have y0 := ((HC.out.at (B := wP.heap.size) (l := [.int .i64 p.x, .int .i64 p.y]) (by simp)).row 0 _ rfl); have y1 := ((HC.out.at (B := wP.heap.size) (l := [.int .i64 p.x, .int .i64 p.y]) (by simp)).row 1 _ rfl); have y2 := ((HC.out.at (B := wQ.heap.size) (l := [.int .i64 q.x, .int .i64 q.y]) (by simp)).row 0 _ rfl); have y3 := ((HC.out.at (B := wQ.heap.size) (l := [.int .i64 q.x, .int .i64 q.y]) (by simp)).row 1 _ rfl); have y4 := ((HC.out.at (B := wR.heap.size) (l := [.int .i64 r.x, .int .i64 r.y]) (by simp)).row 0 _ rfl); have y5 := ((HC.out.at (B := wR.heap.size) (l := [.int .i64 r.x, .int .i64 r.y]) (by simp)).row 1 _ rfl))
    | (go_at_call 31; (with_reducible refine (S1.out _).mono ?_); rintro e w2 ⟨rfl, hb⟩; replace HC := Lib.hid (HC.out.below hb); clear hb y0 y1 y2 y3 y4 y5)
    | fail)
  have z0 := cell_regrown ((HC.out.at (B := wP.heap.size) (l := [.int .i64 p.x, .int .i64 p.y]) (by simp)).row 0 _ rfl)
  have z1 := cell_regrown ((HC.out.at (B := wP.heap.size) (l := [.int .i64 p.x, .int .i64 p.y]) (by simp)).row 1 _ rfl)
  have z2 := cell_regrown ((HC.out.at (B := wQ.heap.size) (l := [.int .i64 q.x, .int .i64 q.y]) (by simp)).row 0 _ rfl)
  have z3 := cell_regrown ((HC.out.at (B := wQ.heap.size) (l := [.int .i64 q.x, .int .i64 q.y]) (by simp)).row 1 _ rfl)
  have z4 := cell_regrown ((HC.out.at (B := wR.heap.size) (l := [.int .i64 r.x, .int .i64 r.y]) (by simp)).row 0 _ rfl)
  have z5 := cell_regrown ((HC.out.at (B := wR.heap.size) (l := [.int .i64 r.x, .int .i64 r.y]) (by simp)).row 1 _ rfl)
  have z6 := cell_regrown ((HC.out.at (B := w.heap.size + 1) (l := [.int .i64 m0, .int .i64 m1]) (by simp)).row 0 _ rfl)
  have z7 := cell_regrown ((HC.out.at (B := w.heap.size + 1) (l := [.int .i64 m0, .int .i64 m1]) (by simp)).row 1 _ rfl)
  have c0 := fun d os => Calls.regrown_of (d := d) (os := os) (S2.out (grow (redrawn w2 d) os))
  have c1 := fun d os => Calls.regrown_of (d := d) (os := os) (S3.out (grow (redrawn w2 d) os))
  have c2 := fun d os => Calls.regrown_of (d := d) (os := os) (S4.out (grow (redrawn w2 d) os))
  have c3 := fun d os => Calls.regrown_of (d := d) (os := os) (MP.out (grow (redrawn w2 d) os))
  have c4 := fun d os => Calls.regrown_of (d := d) (os := os) (MQ.out (grow (redrawn w2 d) os))
  have c5 := fun d os => Calls.regrown_of (d := d) (os := os) (MR.out (grow (redrawn w2 d) os))
  have c6 := fun d os => Calls.regrown_of (d := d) (os := os) (S5.out (grow (redrawn w2 d) os))
  clear S1 S2 S3 S4 S5 MP MQ MR KS KP KQ KR
  refine wp_region_quiet_below (by kernel_rfl) (by kernel_rfl) ?_
  repeat (go_big_quiet_step (first | with_reducible exact c0 _ _ | with_reducible exact c1 _ _ | with_reducible exact c2 _ _ | with_reducible exact c3 _ _ | with_reducible exact c4 _ _ | with_reducible exact c5 _ _ | with_reducible exact c6 _ _))
  refine wpQuiet_nil ?_
  intro W1 hw'
  have hb1 : Below w2.heap.size w2 W1 := by obtain ⟨⟨dq, osq⟩, hw''⟩ := hw'; rw [hw'']; exact below_regrown w2 dq osq
  have H1 := Lib.hid (HC.out.bw.trans (hb1.mono HC.out.bw.size))
  clear hw' hb1
  go_wp2
  go_ret
  exact ⟨rfl, H1.out⟩
end Go.Proofs.YtgngepbemgbbeaaGreatDoor

namespace Go.Proofs.YtgngepbemgbbeaaGreatDoor
open Go.RowKit Go.Shelf Go.Sort
attribute [local go_sem] Oper.semAt_some

/-- The rectangle that four integers determine. -/
def rcN (x y u v : Int) : Rc := ⟨(pickN x 40 : Nat), (pickN y 40 : Nat), (pickN u 30 : Nat), (pickN v 30 : Nat)⟩
theorem rcN_v (x y u v : Int) : vRc (rcN x y u v) = true := by
  have h1 := pickN_lt x (n := 40) (by decide)
  have h2 := pickN_lt y (n := 40) (by decide)
  have h3 := pickN_lt u (n := 30) (by decide)
  have h4 := pickN_lt v (n := 30) (by decide)
  rw [vRc_iff]
  unfold rcN
  simp only
  omega
set_option maxRecDepth 100000 in
theorem rect_s {x y u v : Int} (hx : -9223372036854775808 ≤ x ∧ x ≤ 9223372036854775807) (hy : -9223372036854775808 ≤ y ∧ y ≤ 9223372036854775807) (hu : -9223372036854775808 ≤ u ∧ u ≤ 9223372036854775807) (hv : -9223372036854775808 ≤ v ∧ v ≤ 9223372036854775807) (w : World) :
    Calls Tryz.prog 13 #[.agg #[.int .i64 x, .int .i64 y, .int .i64 u, .int .i64 v]] w fun e W' => e = .returned (.agg #[.int .i64 (rcN x y u v).x, .int .i64 (rcN x y u v).y, .int .i64 (rcN x y u v).w, .int .i64 (rcN x y u v).h]) ∧ Below w.heap.size w W' := by
  have hmx : Tryz.prog.follows .mixedOrders = true := by kernel_rfl
  have K0 := Lib.hid (show ∀ W : World, Calls Tryz.prog 43 #[.int .i64 x, .int .i64 40] W fun e W' => e = .returned (.int .i64 (pickN x 40 : Nat)) ∧ Below W.heap.size W W' from fun W => (pick_f x 40 hx.1 hx.2 (by decide) (by decide) W).mono fun e W' h => ⟨h.1, h.2 ▸ Below.refl _ _⟩)
  have K1 := Lib.hid (show ∀ W : World, Calls Tryz.prog 43 #[.int .i64 y, .int .i64 40] W fun e W' => e = .returned (.int .i64 (pickN y 40 : Nat)) ∧ Below W.heap.size W W' from fun W => (pick_f y 40 hy.1 hy.2 (by decide) (by decide) W).mono fun e W' h => ⟨h.1, h.2 ▸ Below.refl _ _⟩)
  have K2 := Lib.hid (show ∀ W : World, Calls Tryz.prog 43 #[.int .i64 u, .int .i64 30] W fun e W' => e = .returned (.int .i64 (pickN u 30 : Nat)) ∧ Below W.heap.size W W' from fun W => (pick_f u 30 hu.1 hu.2 (by decide) (by decide) W).mono fun e W' h => ⟨h.1, h.2 ▸ Below.refl _ _⟩)
  have K3 := Lib.hid (show ∀ W : World, Calls Tryz.prog 43 #[.int .i64 v, .int .i64 30] W fun e W' => e = .returned (.int .i64 (pickN v 30 : Nat)) ∧ Below W.heap.size W W' from fun W => (pick_f v 30 hv.1 hv.2 (by decide) (by decide) W).mono fun e W' h => ⟨h.1, h.2 ▸ Below.refl _ _⟩)
  show Calls _ _ _ _ fun e W' => e = .returned (.agg #[.int .i64 (pickN x 40 : Nat), .int .i64 (pickN y 40 : Nat), .int .i64 (pickN u 30 : Nat), .int .i64 (pickN v 30 : Nat)]) ∧ _
  generalize pickN x 40 = n0 at K0 ⊢
  generalize pickN y 40 = n1 at K1 ⊢
  generalize pickN u 30 = n2 at K2 ⊢
  generalize pickN v 30 = n3 at K3 ⊢
  have H0 := Lib.hid (show AzAt [(w.heap.size + 1, [.int .i64 0, .int .i64 0, .int .i64 0, .int .i64 0]), (w.heap.size, [.int .i64 x, .int .i64 y, .int .i64 u, .int .i64 v])] w _ from by
    have hp := ((AzAt.start w).push [.int .i64 x, .int .i64 y, .int .i64 u, .int .i64 v] 23).push [.int .i64 0, .int .i64 0, .int .i64 0, .int .i64 0] 29
    simp only [World.size_alloc] at hp
    exact hp)
  clear hx hy hu hv
  go_enter Tryz.func13, Tryz.ntmps13
  go_wp2
  obtain ⟨W0, hW0⟩ : ∃ W0, W0 = (w.alloc (.cells #[.int .i64 x, .int .i64 y, .int .i64 u, .int .i64 v] 23)).alloc (.cells #[.int .i64 0, .int .i64 0, .int .i64 0, .int .i64 0] 29) := ⟨_, rfl⟩
  have H1 := Lib.hid H0.out
  rw [← hW0] at H1 ⊢
  clear hW0 H0
  refine wp_region_qt0 (A := ?fr) 13 hmx (by kernel_rfl) ?h ?ht
  case h =>
    intro U hU
    have hp := H1.out.below hU
    have z0 := cell_regrown ((hp.at (B := w.heap.size) (l := [.int .i64 x, .int .i64 y, .int .i64 u, .int .i64 v]) (by simp)).row 0 _ rfl)
    have z1 := cell_regrown ((hp.at (B := w.heap.size) (l := [.int .i64 x, .int .i64 y, .int .i64 u, .int .i64 v]) (by simp)).row 1 _ rfl)
    have z2 := cell_regrown ((hp.at (B := w.heap.size) (l := [.int .i64 x, .int .i64 y, .int .i64 u, .int .i64 v]) (by simp)).row 2 _ rfl)
    have z3 := cell_regrown ((hp.at (B := w.heap.size) (l := [.int .i64 x, .int .i64 y, .int .i64 u, .int .i64 v]) (by simp)).row 3 _ rfl)
    have c0 := fun d os => Calls.regrown_of (d := d) (os := os) (K0.out (grow (redrawn U d) os))
    have c1 := fun d os => Calls.regrown_of (d := d) (os := os) (K1.out (grow (redrawn U d) os))
    have c2 := fun d os => Calls.regrown_of (d := d) (os := os) (K2.out (grow (redrawn U d) os))
    have c3 := fun d os => Calls.regrown_of (d := d) (os := os) (K3.out (grow (redrawn U d) os))
    clear hp
    simp only [List.take_succ_cons, List.take_zero]
    repeat (go_big_quiet_step (first | with_reducible exact c0 _ _ | with_reducible exact c1 _ _ | with_reducible exact c2 _ _ | with_reducible exact c3 _ _))
    refine wpQuiet_nil ?_
    rfl
  case ht =>
    intro WM hW
    have H2 := Lib.hid (H1.out.below hW)
    clear hW H1
    have z0 := ((H2.out.at (B := w.heap.size + 1) (l := [.int .i64 0, .int .i64 0, .int .i64 0, .int .i64 0]) (by simp)).row 0 _ rfl)
    have z1 := ((H2.out.at (B := w.heap.size + 1) (l := [.int .i64 0, .int .i64 0, .int .i64 0, .int .i64 0]) (by simp)).row 1 _ rfl)
    have z2 := ((H2.out.at (B := w.heap.size + 1) (l := [.int .i64 0, .int .i64 0, .int .i64 0, .int .i64 0]) (by simp)).row 2 _ rfl)
    have z3 := ((H2.out.at (B := w.heap.size + 1) (l := [.int .i64 0, .int .i64 0, .int .i64 0, .int .i64 0]) (by simp)).row 3 _ rfl)
    have f0 := (H2.out.at (B := w.heap.size + 1) (l := [.int .i64 0, .int .i64 0, .int .i64 0, .int .i64 0]) (by simp)).fz 0 (by simp)
    have f1 := (H2.out.at (B := w.heap.size + 1) (l := [.int .i64 0, .int .i64 0, .int .i64 0, .int .i64 0]) (by simp)).fz 1 (by simp)
    have f2 := (H2.out.at (B := w.heap.size + 1) (l := [.int .i64 0, .int .i64 0, .int .i64 0, .int .i64 0]) (by simp)).fz 2 (by simp)
    have f3 := (H2.out.at (B := w.heap.size + 1) (l := [.int .i64 0, .int .i64 0, .int .i64 0, .int .i64 0]) (by simp)).fz 3 (by simp)
    simp only [List.drop_succ_cons, List.drop_zero]
    go_wp2
    refine bodyPost_ret (v := .agg #[.int .i64 (n0 : Int), .int .i64 (n1 : Int), .int .i64 (n2 : Int), .int .i64 (n3 : Int)]) ?_ rfl ⟨rfl, ?_⟩
    · simp [results, Tryz.results13, go_sem, Result.andThen, z0, z1, z2, z3]
    · exact (((H2.out.bw.setCell (show w.heap.size ≤ w.heap.size + 1 by omega) _).setCell (show w.heap.size ≤ w.heap.size + 1 by omega) _).setCell (show w.heap.size ≤ w.heap.size + 1 by omega) _).setCell (show w.heap.size ≤ w.heap.size + 1 by omega) _
/-- A slice of pairs of integers, as an argument brings it. -/
structure XsAt (a : Option Addr) (xs : List (Int × Int)) (W : World) : Prop where
  row : ∀ (k : Nat) (x : Int × Int), xs[k]? = some x → ∃ b o : Nat, a = some ⟨b, o, none⟩ ∧ b < W.heap.size ∧ W.cell? ⟨b, o + k * 2, none⟩ = some (.int .i64 x.1) ∧ W.cell? ⟨b, o + k * 2 + 1, none⟩ = some (.int .i64 x.2)
  lo : ∀ x ∈ xs, (-9223372036854775808 ≤ x.1 ∧ x.1 ≤ 9223372036854775807) ∧ (-9223372036854775808 ≤ x.2 ∧ x.2 ≤ 9223372036854775807)
theorem XsAt.below {a : Option Addr} {xs : List (Int × Int)} {W W' : World} (h : XsAt a xs W) (hb : Below W.heap.size W W') : XsAt a xs W' :=
  ⟨fun k x hx => by
    obtain ⟨b, o, e, h1, h2, h3⟩ := h.row k x hx
    exact ⟨b, o, e, Nat.lt_of_lt_of_le h1 hb.size, (World.cell?_of_block (w := W) (hb.block b h1)).trans h2, (World.cell?_of_block (w := W) (hb.block b h1)).trans h3⟩, h.lo⟩
/-- The places that pairs determine: the first twelve, and one where there is none. -/
def plsK (xs : List (Int × Int)) (k : Nat) : List Pl := if k = 0 then [⟨3, 4⟩] else (xs.take k).map fun x => plN x.1 x.2
def plsN (xs : List (Int × Int)) : List Pl := plsK xs (min xs.length 12)
theorem plsK_len {xs : List (Int × Int)} {k : Nat} (h : k ≤ xs.length) : (plsK xs k).length = max k 1 := by
  unfold plsK
  split
  · rename_i h0; subst h0; rfl
  · rw [List.length_map, List.length_take]; omega
theorem plsK_succ {xs : List (Int × Int)} {k : Nat} {x : Int × Int} (h : xs[k]? = some x) : plsK xs (k + 1) = (if k = 0 then [] else plsK xs k) ++ [plN x.1 x.2] := by
  unfold plsK
  rw [if_neg (by omega), List.take_add_one, h]
  by_cases h0 : k = 0
  · subst h0; rfl
  · rw [if_neg h0, if_neg h0]; simp
theorem lowL_snoc (q : Pl) : ∀ (l : List Pl) (p : Pl), lowL p (l ++ [q]) = ⟨min (lowL p l).x q.x, min (lowL p l).y q.y⟩
  | [], _ => rfl
  | _ :: l, _ => lowL_snoc q l _
theorem highL_snoc (q : Pl) : ∀ (l : List Pl) (p : Pl), highL p (l ++ [q]) = ⟨max (highL p l).x q.x, max (highL p l).y q.y⟩
  | [], _ => rfl
  | _ :: l, _ => highL_snoc q l _
theorem lowL_head (p : Pl) (l : List Pl) : lowL p (p :: l) = lowL p l := by
  show lowL ⟨min p.x p.x, min p.y p.y⟩ l = _
  simp
theorem highL_head (p : Pl) (l : List Pl) : highL p (p :: l) = highL p l := by
  show highL ⟨max p.x p.x, max p.y p.y⟩ l = _
  simp
theorem plsN_len (xs : List (Int × Int)) : (plsN xs).length = max (min xs.length 12) 1 := plsK_len (by omega)
theorem plsN_v (xs : List (Int × Int)) : ∀ q ∈ plsN xs, vP q = true := by
  intro q hq
  unfold plsN plsK at hq
  split at hq
  · simp only [List.mem_singleton] at hq
    subst hq
    decide
  · obtain ⟨x, _, rfl⟩ := List.mem_map.1 hq
    exact plN_v _ _
theorem plsN_few (xs : List (Int × Int)) : fewB (plsN xs) = true := by
  unfold fewB
  simp only [Bool.and_eq_true, decide_eq_true_eq]
  have := plsN_len xs
  exact ⟨by omega, List.all_eq_true.2 (plsN_v xs)⟩
theorem plsN_cons (xs : List (Int × Int)) : ∃ p l, plsN xs = p :: l := by
  have := plsN_len xs
  match h : plsN xs with
  | [] => rw [h] at this; simp at this; omega
  | p :: l => exact ⟨p, l, rfl⟩
set_option maxHeartbeats 8000000 in
set_option maxRecDepth 100000 in
theorem places_s {a : Option Addr} {n cap : Nat} {xs : List (Int × Int)} (hn : xs.length = n) {W : World} (h : XsAt a xs W) :
    Calls Tryz.prog 11 #[.slice a n cap] W fun e W' => ∃ g m c, e = .returned (.slice (some ⟨g, 0, none⟩) m c) ∧ m = (plsN xs).length ∧ OzAt 26 (.slice (some ⟨g, 0, none⟩) m c) m (plC (plsN xs)) [] W W' := by
  have HN := Lib.hid hn
  have HX := Lib.hid h
  clear h hn
  obtain ⟨i0, hi0, hz0, hz1, hz2⟩ := info_parts info_place
  have H0 := Lib.hid (OzAt.lit (AzAt.start W) [.int .i64 3, .int .i64 4] 26 1 rfl (by decide))
  go_enter Tryz.func11, Tryz.ntmps11
  go_wp2
  go_loopw [3, 4] (fun v3 v4 wr => ∃ (k m g c : Nat), k ≤ n ∧ k ≤ 12 ∧ v4 = .int .i64 (k : Int) ∧ v3 = .slice (some ⟨g, 0, none⟩) m c ∧ m = (plsK xs k).length ∧ OzAt 26 (.slice (some ⟨g, 0, none⟩) m c) m (plC (plsK xs k)) [] W wr) (fun _ v4 _ => 12 - (intOf v4).toNat)
  case atStart => exact ⟨0, 1, _, _, by omega, by omega, rfl, rfl, rfl, H0.out⟩
  case round =>
    obtain ⟨k, m, g, c, hk, hk2, rfl, rfl, hm, hZ⟩ := hrel
    have HZ := Lib.hid hZ
    have HM := Lib.hid hm
    clear hZ hm
    by_cases hlt : k < n ∧ k < 12
    · obtain ⟨hlt1, hlt2⟩ := hlt
      obtain ⟨x, hx⟩ : ∃ x, xs[k]? = some x := ⟨xs[k]'(by have := HN.out; omega), List.getElem?_eq_getElem _⟩
      obtain ⟨b, o, rfl, hb, c0, c1⟩ := HX.out.row k x hx
      have hlo := HX.out.lo x (List.mem_of_getElem? hx)
      have KX := Lib.hid (fun (W : World) => plN_s hlo.1 hlo.2 W)
      have HS := Lib.hid (plsK_succ hx)
      generalize plN x.1 x.2 = p at KX HS
      have d0 := (World.cell?_of_block (w := W) (HZ.out.az.bw.block b hb)).trans c0
      have d1 := (World.cell?_of_block (w := W) (HZ.out.az.bw.block b hb)).trans c1
      obtain ⟨x1, x2⟩ := x
      simp only at d0 d1 KX
      clear c0 c1 hlo hx hb
      have hg1 : decide ((k : Int) < (n : Int)) = true := decide_eq_true (by omega)
      have hg2 : decide ((k : Int) < 12) = true := decide_eq_true (by omega)
      by_cases hk0 : k = 0
      · subst hk0
        simp only [Nat.zero_mul, Nat.add_zero] at d0 d1
        have H1' := Lib.hid (OzAt.nil HZ.out.az 26)
        go_wp2_with (first
          | (go_at_call 37; (with_reducible refine (KX.out _).mono ?_); rintro e w1 ⟨rfl, hb1⟩; have H1 := Lib.hid (H1'.out.below hb1); have hs1 := H1.out.az.bw.size; clear hb1)
          | (at_builtin; refine wpList_append_own_at _ rfl _ _ 27 rfl W.heap.size 26 i0 (.agg #[.int .i64 0, .int .i64 0]) 2 16 Tryz.underlying27 hi0 hz0 hz1 hz2 rfl (by decide) (.slice none 0 0) 0 []  rfl (H1.out.own.alloc _) ⟨w1.heap.size, 0, none⟩ 1 1 [.int .i64 p.x, .int .i64 p.y] rfl rfl (two_new _ _ _ _) (by simp [Value.oneCell']) (by unfold maxLen; omega) (by omega) (by simp; omega) ?_; intro v' w7 hown' hgrow _ hat; have HZ7 := Lib.hid (H1.out.append hown' hgrow hat); clear hown' hgrow hat)
          | fail)
        obtain ⟨g7, c7, rfl⟩ := ownsRow_succ HZ7.out.own
        have e := HS.out
        simp only [if_true, List.nil_append, Nat.zero_add] at e
        refine ⟨⟨1, 1, g7, c7, by omega, by omega, rfl, rfl, by rw [e]; rfl, ?_⟩, by simp only [intOf]; omega⟩
        rw [e]
        exact HZ7.out
      · have hm12 : m ≤ 12 := by rw [HM.out, plsK_len (by have := HN.out; omega)]; omega
        have hk1 : ((k : Int) == 0) = false := by simpa using hk0
        have hk2 : ¬ (k : Int) = 0 := by omega
        go_wp2_with (first
          | (go_at_call 37; (with_reducible refine (KX.out _).mono ?_); rintro e w1 ⟨rfl, hb1⟩; have H1 := Lib.hid (HZ.out.below hb1); have hs1 := H1.out.az.bw.size; clear hb1)
          | (at_builtin; refine wpList_append_own_at _ rfl _ _ 27 rfl W.heap.size 26 i0 (.agg #[.int .i64 0, .int .i64 0]) 2 16 Tryz.underlying27 hi0 hz0 hz1 hz2 rfl (by decide) (.slice (some ⟨g, 0, none⟩) m c) m (plC (plsK xs k)) rfl (H1.out.own.alloc _) ⟨w1.heap.size, 0, none⟩ 1 1 [.int .i64 p.x, .int .i64 p.y] rfl rfl (two_new _ _ _ _) (by simp [Value.oneCell']) (by unfold maxLen; omega) (by omega) (by simp; omega) ?_; intro v' w7 hown' hgrow _ hat; have HZ7 := Lib.hid (H1.out.append hown' hgrow hat); clear hown' hgrow hat)
          | fail)
        obtain ⟨g7, c7, rfl⟩ := ownsRow_succ HZ7.out.own
        have e := HS.out
        rw [if_neg hk0] at e
        refine ⟨⟨k + 1, m + 1, g7, c7, by omega, by omega, by go_num, rfl, by rw [e, HM.out]; simp, ?_⟩, by simp only [intOf]; omega⟩
        rw [e, plC_append]
        exact HZ7.out
    · have hk' : k = min n 12 := by omega
      have HR := Lib.hid (show plsN xs = plsK xs k by unfold plsN; rw [HN.out, ← hk'])
      clear hk'
      by_cases hlt1 : k < n
      · have hg1 : decide ((k : Int) < (n : Int)) = true := decide_eq_true (by omega)
        have hg2 : decide ((k : Int) < 12) = false := decide_eq_false (by omega)
        go_wp2
        go_ret
        refine ⟨g, m, c, rfl, by rw [HR.out]; exact HM.out, by rw [HR.out]; exact HZ.out⟩
      · have hg1 : decide ((k : Int) < (n : Int)) = false := decide_eq_false (by omega)
        go_wp2
        go_ret
        refine ⟨g, m, c, rfl, by rw [HR.out]; exact HM.out, by rw [HR.out]; exact HZ.out⟩
end Go.Proofs.YtgngepbemgbbeaaGreatDoor

namespace Go.Proofs.YtgngepbemgbbeaaGreatDoor
open Go.ChangeShapes Go.WideShapes Go.ChangeAt Go.RowKit
open Go.ChangeMaps (open_string shut_string)

theorem laidOut7 : laidOutB Tryz.prog = true := by kernel_rfl
/-- A call that leaves what lay; its arguments lie in places, or in none. -/
theorem post_mem {H : Type} {enc : TypeId × Value → H} {P : Program} {f : Func} {s : ChangeSpec} {apart fresh handsOn : Bool} {W W' : World} {args : Array Value} {v : Value} {ds gs : List (DataW H)} {before pa : List MemPlace}
    (hW : DataW.Whole enc P f.params.toList s.vars apart W args.toList ds gs before)
    (hres : ∀ (b : Nat) (sp : Nat → Bool) (hd : Bool), DataW.TrodAll enc P W' b sp hd f.resultTypes.toList (v.resultList f.resultTypes.size) (s.fn H (ds ++ gs)).results [])
    (hargs : DataW.TrodAll enc P W' 0 (fun b => decide (b < W.heap.size)) true f.params.toList args.toList (s.fn H (ds ++ gs)).args pa)
    (hvars : DataW.TrodVars enc P W' (fun b => decide (b < W.heap.size)) s.vars (s.fn H (ds ++ gs)).vars [])
    (hb : Below W.heap.size W W') :
    s.post enc P f apart fresh handsOn false W args v W' :=
  ⟨ds, gs, before, [], pa, [], hW, hres _ _ _, hargs, hvars, hb.frame _, fun h => by cases h⟩
theorem cell_blk {W : World} {a : Addr} {v : Value} (h : W.cell? a = some v) : a.block < W.heap.size := by
  rcases Nat.lt_or_ge a.block W.heap.size with h' | h'
  · exact h'
  · simp [World.cell?, Array.getElem?_eq_none h'] at h
set_option maxRecDepth 100000 in
theorem open_xs {H : Type} {enc : TypeId × Value → H} {W : World} {b0 base : Nat} {sp : Nat → Bool} {hd : Bool} {v : Value} {d : DataW H} {p : List MemPlace} (hv : Value.okWide Tryz.prog W .any b0 22 v) (h : DataW.Trod enc Tryz.prog W base sp hd 22 v d p) :
    ∃ (a : Option Addr) (n cap : Nat) (xs : List (Int × Int)), v = .slice a n cap ∧ xs.length = n ∧ XsAt a xs W := by
  obtain ⟨a, len, cap, rfl⟩ := okWide_slice Tryz.underlying22 hv
  obtain ⟨fuel, hf⟩ := h
  rcases Go.Deep.open_slice Tryz.underlying22 hf with ⟨hcs, _⟩ | ⟨b, len', cap', m, n, D, Pl, hcs, _, hl, hmx, hm, hx, hall⟩
  · simp [Value.cells] at hcs
    obtain ⟨rfl, rfl, rfl⟩ := hcs
    exact ⟨none, 0, 0, [], rfl, rfl, fun k x hk => by simp at hk, fun x hx => by cases hx⟩
  · simp [Value.cells] at hcs
    obtain ⟨rfl, rfl, rfl⟩ := hcs
    have hlm : len ≤ m := by rw [hm]; split <;> omega
    have each : ∀ i, i < len → ∃ q : Int × Int, (W.cell? (b.add (i * 2)) = some (.int .i64 q.1) ∧ W.cell? (b.add (i * 2 + 1)) = some (.int .i64 q.2)) ∧ (Lit.int .i64 q.1).wf = true ∧ (Lit.int .i64 q.2).wf = true := by
      intro i hi
      obtain ⟨cs', h1, h2⟩ := hall i (by omega)
      rw [cells_two] at h1
      obtain ⟨_, hlen, hcell⟩ := World.cells?_some h1
      match cs', hlen with
      | [c0, c1], _ =>
        obtain ⟨xa, xb, ⟨e0, e1⟩, _, w0, w1⟩ := trod_pair (c0 := c0) (c1 := c1) h2
        have g0 := hcell 0 (by omega)
        have g1 := hcell 1 (by omega)
        rw [Go.Deep.add_add] at g0 g1
        subst e0 e1
        exact ⟨(xa, xb), ⟨by simpa using g0, by simpa using g1⟩, w0, w1⟩
    obtain ⟨q, hq⟩ := Go.Deep.choose_lt each
    refine ⟨some b, len, cap, (List.range len).map q, rfl, by simp, fun k x hk => ?_, fun x hx => ?_⟩
    · have hk2 : k < len := by have := (List.getElem?_eq_some_iff.1 hk).1; simpa using this
      have hxe : x = q k := by
        rw [List.getElem?_map, List.getElem?_range hk2] at hk
        exact (Option.some.inj hk).symm
      obtain ⟨⟨c0, c1⟩, _⟩ := hq k hk2
      have s0 := World.cell?_spot (hq 0 (by omega)).1.1
      obtain ⟨blk, off, spot⟩ := b
      have hs : spot = none := by simpa [Addr.add] using s0
      subst hs
      rw [add_plain] at c0 c1
      rw [hxe]
      exact ⟨blk, off, rfl, cell_blk c0, c0, by rw [Nat.add_assoc]; exact c1⟩
    · obtain ⟨i, hi, rfl⟩ := List.mem_map.1 hx
      obtain ⟨_, w0, w1⟩ := hq i (List.mem_range.1 hi)
      exact ⟨bounds_i64 w0, bounds_i64 w1⟩
theorem cells_34 : Tryz.prog.cellsOf 67 = 12 := by kernel_rfl
theorem cells_four : Tryz.prog.cellsOf 23 = 4 := by kernel_rfl
set_option maxRecDepth 100000 in
theorem trod_four {H : Type} {enc : TypeId × Value → H} {W : World} {base : Nat} {sp : Nat → Bool} {hd : Bool} {m : Nat} {cs : List Value} {c0 c1 c2 c3 : Value} {y : DataW H × List MemPlace} (h : DataW.trod enc Tryz.prog W base sp hd m 23 cs = some y) (hc : cs = [c0, c1, c2, c3] := by rfl) :
    ∃ a b c d : Int, (c0 = .int .i64 a ∧ c1 = .int .i64 b ∧ c2 = .int .i64 c ∧ c3 = .int .i64 d) ∧ (Lit.int .i64 a).wf = true ∧ (Lit.int .i64 b).wf = true ∧ (Lit.int .i64 c).wf = true ∧ (Lit.int .i64 d).wf = true := by
  subst hc
  obtain ⟨ys, m', _, hx, _, hl, hy⟩ := DataW.trod_array Tryz.underlying23 h
  match ys, hl with
  | [y0, y1, y2, y3], _ =>
  have hy0 := hy 0 (by decide)
  have hy1 := hy 1 (by decide)
  have hy2 := hy 2 (by decide)
  have hy3 := hy 3 (by decide)
  simp [cells_int] at hy0 hy1 hy2 hy3
  obtain ⟨xa, e0, _, w0⟩ := DataW.trod_int Tryz.underlying3 hy0
  obtain ⟨xb, e1, _, w1⟩ := DataW.trod_int Tryz.underlying3 hy1
  obtain ⟨xc, e2, _, w2⟩ := DataW.trod_int Tryz.underlying3 hy2
  obtain ⟨xd, e3, _, w3⟩ := DataW.trod_int Tryz.underlying3 hy3
  simp at e0 e1 e2 e3
  exact ⟨xa, xb, xc, xd, ⟨e0, e1, e2, e3⟩, w0, w1, w2, w3⟩
set_option maxRecDepth 100000 in
theorem open_four {H : Type} {enc : TypeId × Value → H} {W : World} {b0 base : Nat} {sp : Nat → Bool} {hd : Bool} {v : Value} {d : DataW H} {p : List MemPlace} (hv : Value.okWide Tryz.prog W .any b0 23 v) (h : DataW.Trod enc Tryz.prog W base sp hd 23 v d p) :
    ∃ a0 a1 a2 a3 : Int, v = .agg #[.int .i64 a0, .int .i64 a1, .int .i64 a2, .int .i64 a3] ∧ (Lit.int .i64 a0).wf = true ∧ (Lit.int .i64 a1).wf = true ∧ (Lit.int .i64 a2).wf = true ∧ (Lit.int .i64 a3).wf = true := by
  obtain ⟨cs, rfl, hsz⟩ := okWide_array Tryz.underlying23 hv
  rw [cells_four] at hsz
  obtain ⟨l⟩ := cs
  match l, hsz with
  | [c0, c1, c2, c3], _ =>
  obtain ⟨fuel, hf⟩ := h
  obtain ⟨a0, a1, a2, a3, ⟨rfl, rfl, rfl, rfl⟩, w⟩ := trod_four (c0 := c0) (c1 := c1) (c2 := c2) (c3 := c3) hf
  exact ⟨a0, a1, a2, a3, rfl, w⟩
set_option maxRecDepth 100000 in
theorem open_fours3 {H : Type} {enc : TypeId × Value → H} {W : World} {b0 base : Nat} {sp : Nat → Bool} {hd : Bool} {v : Value} {d : DataW H} {p : List MemPlace} (hv : Value.okWide Tryz.prog W .any b0 67 v) (h : DataW.Trod enc Tryz.prog W base sp hd 67 v d p) :
    ∃ a0 a1 a2 a3 b0 b1 b2 b3 c0 c1 c2 c3 : Int, v = .agg #[.int .i64 a0, .int .i64 a1, .int .i64 a2, .int .i64 a3, .int .i64 b0, .int .i64 b1, .int .i64 b2, .int .i64 b3, .int .i64 c0, .int .i64 c1, .int .i64 c2, .int .i64 c3] ∧ ((Lit.int .i64 a0).wf = true ∧ (Lit.int .i64 a1).wf = true ∧ (Lit.int .i64 a2).wf = true ∧ (Lit.int .i64 a3).wf = true) ∧ ((Lit.int .i64 b0).wf = true ∧ (Lit.int .i64 b1).wf = true ∧ (Lit.int .i64 b2).wf = true ∧ (Lit.int .i64 b3).wf = true) ∧ ((Lit.int .i64 c0).wf = true ∧ (Lit.int .i64 c1).wf = true ∧ (Lit.int .i64 c2).wf = true ∧ (Lit.int .i64 c3).wf = true) := by
  obtain ⟨cs, rfl, hsz⟩ := okWide_array Tryz.underlying67 hv
  rw [cells_34] at hsz
  obtain ⟨l⟩ := cs
  match l, hsz with
  | [c0, c1, c2, c3, c4, c5, c6, c7, c8, c9, c10, c11], _ =>
  obtain ⟨fuel, hf⟩ := h
  obtain ⟨ys, m, _, hx, _, hl, hy⟩ := DataW.trod_array Tryz.underlying67 hf
  match ys, hl with
  | [y0, y1, y2], _ =>
  have hy0 := hy 0 (by decide)
  have hy1 := hy 1 (by decide)
  have hy2 := hy 2 (by decide)
  rw [cells_four] at hy0 hy1 hy2
  obtain ⟨a0, a1, a2, a3, ⟨rfl, rfl, rfl, rfl⟩, wa⟩ := trod_four (c0 := c0) (c1 := c1) (c2 := c2) (c3 := c3) hy0
  obtain ⟨b0, b1, b2, b3, ⟨rfl, rfl, rfl, rfl⟩, wb⟩ := trod_four (c0 := c4) (c1 := c5) (c2 := c6) (c3 := c7) hy1
  obtain ⟨d0, d1, d2, d3, ⟨rfl, rfl, rfl, rfl⟩, wd⟩ := trod_four (c0 := c8) (c1 := c9) (c2 := c10) (c3 := c11) hy2
  exact ⟨a0, a1, a2, a3, b0, b1, b2, b3, d0, d1, d2, d3, rfl, wa, wb, wd⟩
end Go.Proofs.YtgngepbemgbbeaaGreatDoor

namespace Go.Proofs.YtgngepbemgbbeaaGreatDoor
open Go.RowKit Go.Shelf

theorem divInt_le {n d s : Int} (hd : 0 < d) (h : n ≤ s * d) : Rat.divInt n d ≤ Rat.divInt s 1 := by
  rw [Rat.le_iff]
  have ha : (Rat.divInt n d).num * d = n * (Rat.divInt n d).den := rat_cross (by omega) rfl
  have hb : (Rat.divInt s 1).num * 1 = s * (Rat.divInt s 1).den := rat_cross (by decide) rfl
  have da := rat_dpos (Rat.divInt n d)
  have db := rat_dpos (Rat.divInt s 1)
  generalize (Rat.divInt n d).num = an at *
  generalize ((Rat.divInt n d).den : Int) = ad at *
  generalize (Rat.divInt s 1).num = bn at *
  generalize ((Rat.divInt s 1).den : Int) = bd at *
  rw [Int.mul_one] at hb
  subst hb
  have h1 : an ≤ s * ad := by
    refine Int.le_of_mul_le_mul_right ?_ hd
    rw [ha]
    have h2 := Int.mul_le_mul_of_nonneg_right h (show (0 : Int) ≤ ad by omega)
    rw [show s * ad * d = s * d * ad by grind]
    exact h2
  have h3 := Int.mul_le_mul_of_nonneg_right h1 (show (0 : Int) ≤ bd by omega)
  rw [show s * bd * ad = s * ad * bd by grind]
  exact h3
theorem cmpO_le {x y : Rat} (h : x ≤ y) : cmpOO (some x) (some y) ≤ 0 := by
  show cmpR x y ≤ 0
  rcases cmpR_cases x y with ⟨_, e⟩ | ⟨_, e⟩ | ⟨h1, e⟩
  · omega
  · omega
  · exact absurd h (Rat.not_le.2 h1)
theorem cmpO_ge {x y : Rat} (h : y ≤ x) : 0 ≤ cmpOO (some x) (some y) := by
  show 0 ≤ cmpR x y
  rcases cmpR_cases x y with ⟨h1, e⟩ | ⟨_, e⟩ | ⟨_, e⟩
  · exact absurd h (Rat.not_le.2 h1)
  · omega
  · omega
theorem dDen_b {p a b : Pl} (ha : vP a = true) (hb : vP b = true) : dDen p a b ≤ 33538050 := by
  have := sqP_b ha hb
  unfold dDen
  split
  · decide
  · split
    · decide
    · omega
theorem dNum_b {p a b : Pl} (hp : vP p = true) (ha : vP a = true) (hb : vP b = true) : dNum p a b ≤ 1600000000000000 := by
  have h1 := sqP_b hp ha
  have h2 := sqP_b hp hb
  have h3 := turn_b ha hb hp
  have h4 := prod_big (u := turnP a b p) (v := turnP a b p) (by omega) (by omega)
  unfold dNum
  split
  · omega
  · split <;> omega
theorem dO_make (p a b : Pl) : some (dRat p a b) = makeR (dNum p a b) (dDen p a b) := by
  have := dDen_pos p a b
  unfold makeR
  rw [if_neg (by omega)]
  rfl
theorem dO_FO {p a b : Pl} (hp : vP p = true) (ha : vP a = true) (hb : vP b = true) : FO (some (dRat p a b)) := by
  rw [dO_make]
  have h1 := dDen_pos p a b
  have h2 := dDen_b (p := p) ha hb
  have h3 := dNum_nonneg p a b
  have h4 := dNum_b hp ha hb
  exact fun _ hr => make_fits (small_i64 (by omega) (by omega)) (small_i64 (by omega) (by omega)) hr
theorem dRat_same (p a : Pl) : dRat p a a = Rat.divInt (sqP p a) 1 := by
  unfold dRat
  rw [(d_same p a).1, (d_same p a).2]
theorem dRat_back (p a b : Pl) : dRat p b a = dRat p a b := by
  unfold dRat
  rw [(d_back p a b).1, (d_back p a b).2]
theorem dRat_mv (p a b : Pl) (dx dy : Int) : dRat (p.mv dx dy) (a.mv dx dy) (b.mv dx dy) = dRat p a b := by
  unfold dRat
  rw [(d_mv p a b dx dy).1, (d_mv p a b dx dy).2]
theorem dRat_le (p a b : Pl) : dRat p a b ≤ dRat p a a := by
  rw [dRat_same]
  exact divInt_le (dDen_pos p a b) (d_le p a b)
theorem dRat_le2 (p a b : Pl) : dRat p a b ≤ dRat p b b := by
  rw [dRat_same]
  exact divInt_le (dDen_pos p a b) (d_le2 p a b)
theorem zero_make : makeR 0 1 = some 0 := by decide +kernel
theorem dRat_nonneg (p a b : Pl) : 0 ≤ dRat p a b := Rat.divInt_nonneg (dNum_nonneg p a b) (by have := dDen_pos p a b; omega)
theorem dRat_zero (p a b : Pl) : some (dRat p a b) = makeR 0 1 ↔ dNum p a b = 0 := by
  rw [zero_make]
  have h := dDen_pos p a b
  constructor
  · intro e
    have e' : Rat.divInt (dNum p a b) (dDen p a b) = Rat.divInt 0 1 := by
      have := Option.some.inj e
      rw [Rat.zero_divInt]
      exact this
    have := (Rat.divInt_eq_divInt_iff (by omega) (by decide)).1 e'
    omega
  · intro e
    unfold dRat
    rw [e, Rat.zero_divInt]
/-- Two fractions that are not equal differ in a text. -/
theorem texts_ne {x y : Option Rat} (h : x ≠ y) : ((qN x).toList == (qN y).toList) = false ∨ (((qN x).toList == (qN y).toList) = true ∧ ((qD x).toList == (qD y).toList) = false) := by
  have inj : ∀ {a b : ByteArray}, a.toList = b.toList → a = b := fun {a b} e => by
    rw [ByteArray.toList_eq, ByteArray.toList_eq] at e
    exact ByteArray.ext (Array.toList_inj.1 e)
  by_cases h1 : (qN x).toList = (qN y).toList
  · refine .inr ⟨beq_iff_eq.2 h1, beq_eq_false_iff_ne.2 fun h2 => h (q_inj (inj h1) (inj h2))⟩
  · exact .inl (beq_eq_false_iff_ne.2 h1)
end Go.Proofs.YtgngepbemgbbeaaGreatDoor

namespace Go.Proofs.YtgngepbemgbbeaaGreatDoor

theorem plsN_b (xs : List (Int × Int)) : ∀ q ∈ plsN xs, (0 ≤ q.x ∧ q.x ≤ 39) ∧ (0 ≤ q.y ∧ q.y ≤ 39) := by
  intro q hq
  unfold plsN plsK at hq
  split at hq
  · rw [List.mem_singleton.1 hq]; decide
  · obtain ⟨x, _, rfl⟩ := List.mem_map.1 hq
    exact plN_b _ _
theorem coveredO_FO {l : List Pl} (hv : ∀ p ∈ l, vP p = true) (r : Rc) : FO (coveredO l r) := by
  rw [← accO_all r l hv]
  exact accO_FO r _
theorem edgesL_first {l : List Pl} {i : Nat} {e : Pl × Pl} (h : (edgesL l)[i]? = some e) : l[i]? = some e.1 := by
  unfold edgesL at h
  exact ((List.getElem?_zip_eq_some (z := e)).1 h).1
theorem makeR_half (n : Int) : makeR n 2 = some ((n : Rat) / 2) := by
  unfold makeR
  rw [if_neg (by decide), Rat.divInt_eq_div]
  rfl
theorem area2_b {l : List Pl} (hv : ∀ p ∈ l, vP p = true) : -(16769025 * (l.length : Int)) ≤ area2L l ∧ area2L l ≤ 16769025 * (l.length : Int) := by
  have := areaS_b (edgesP l hv)
  rwa [areaS_all, edgesP_length] at this
theorem around_box {p q : Pl} {t : List Pl} (hq : q ∈ p :: t) : (aroundL p t).x ≤ q.x ∧ q.x ≤ (aroundL p t).x + (aroundL p t).w ∧ (aroundL p t).y ≤ q.y ∧ q.y ≤ (aroundL p t).y + (aroundL p t).h := by
  have h1 := low_le p t
  have h2 := high_ge p t
  rw [aroundL_low]
  simp only
  rcases List.mem_cons.1 hq with rfl | hq
  · omega
  · have := h1.2.2 q hq
    have := h2.2.2 q hq
    omega
/-- What the law asks. -/
structure AreaLaw (h : List Pl) (r o q ar : Rc) : Prop where
  fh : fewB h = true
  idem : hullL h = h
  vr : vRc r = true
  vo : vRc o = true
  vq : vRc q = true
  va : vRc ar = true
  sum : lift2 addR (coveredO h o) (coveredO h q) = coveredO h r
  area : 0 ≤ area2L h ∧ area2L h ≤ 1000000000
  rect : cmpOO (coveredO h r) (makeR (r.w * r.h) 1) ≤ 0
  whole : cmpOO (coveredO h r) (makeR (area2L h) 2) ≤ 0
  zero : 0 ≤ cmpOO (coveredO h r) (makeR 0 1)
  all : coveredO h ar = makeR (area2L h) 2
  inside : insideR ar r = true → coveredO h r = makeR (area2L h) 2
  fr : FO (coveredO h r)
  fo : FO (coveredO h o)
  fq : FO (coveredO h q)
  one : qE (coveredO h r) = 0
theorem area_law {L : List Pl} {r o q : Rc} (hL : fewB L = true) (hl : L.length ≤ 12) (hb : ∀ q ∈ L, (0 ≤ q.x ∧ q.x ≤ 39) ∧ (0 ≤ q.y ∧ q.y ≤ 39)) (hr : vRc r = true) {k : Int}
    (hk : (0 ≤ k ∧ k ≤ r.w ∧ o = { r with w := k } ∧ q = { r with x := r.x + k, w := r.w - k }) ∨ (0 ≤ k ∧ k ≤ r.h ∧ o = { r with h := k } ∧ q = { r with y := r.y + k, h := r.h - k })) :
    ∃ p t, hullL L = p :: t ∧ AreaLaw (hullL L) r o q (aroundL p t) := by
  have hv := few_all hL
  have hlen := few_len hL
  have hv' := hull_valid hv
  have hne : hullL L ≠ [] := hull_ne hv (by rintro rfl; simp at hlen)
  have hpos := List.length_pos_iff.2 hne
  have hle := hull_len hv
  have vr := vRc_iff.1 hr
  have hbh : ∀ q ∈ hullL L, (0 ≤ q.x ∧ q.x ≤ 39) ∧ (0 ≤ q.y ∧ q.y ≤ 39) := fun q hq => hb q (hull_sub hv hq)
  have hmem : ∀ e ∈ edgesL (hullL L), e.1 ∈ hullL L ∧ e.2 ∈ hullL L := fun e he => edgesL_mem he
  have hidem := hull_idem hv
  obtain ⟨p, t, hp⟩ : ∃ p t, hullL L = p :: t := by
    cases h : hullL L with
    | nil => exact absurd h hne
    | cons p t => exact ⟨p, t, rfl⟩
  have hvp : vP p = true := hv' p (by rw [hp]; simp)
  have hvt : ∀ q ∈ t, vP q = true := fun q hq => hv' q (by rw [hp]; simp [hq])
  have va := around_valid p t hvp hvt
  have vo : vRc o = true := by
    rcases hk with ⟨k0, k1, rfl, rfl⟩ | ⟨k0, k1, rfl, rfl⟩ <;> refine vRc_iff.2 ?_ <;> simp only <;> omega
  have vq : vRc q = true := by
    rcases hk with ⟨k0, k1, rfl, rfl⟩ | ⟨k0, k1, rfl, rfl⟩ <;> refine vRc_iff.2 ?_ <;> simp only <;> omega
  have cs : ∀ {r : Rc}, vRc r = true → coveredO (hullL L) r = some (coverQ (hullL L) r) ∧ rpR (2 * 39 * 39) (4095 * 4095) (hullL L).length (coverQ (hullL L) r) := fun {r} hr =>
    cover_some hv' hr 39 (by decide) (fun p hp q hq => by have := hbh p hp; have := hbh q hq; omega) 12 (by omega) (by decide) (by decide) hmem (edgesL_length _)
  have c1 := cs hr
  have c2 := cs vo
  have c3 := cs vq
  have c4 := cs va
  have hc := hull_cover hv hne hmem (fun i e he => edgesL_first he) hr
  have esum : coverQ (hullL L) r = coverQ (hullL L) o + coverQ (hullL L) q := by
    rcases hk with ⟨k0, k1, rfl, rfl⟩ | ⟨k0, k1, rfl, rfl⟩
    · exact cover_x _ r k k0 k1
    · exact cover_y _ r k
  have hlb : (hullL L).length ≤ 12 := by omega
  have p1 : (2 * 39 * 39) ^ (hullL L).length ≤ (2 * 39 * 39) ^ 12 := Nat.pow_le_pow_right (by decide) hlb
  have bd : ∀ {q : Rat}, rpR (2 * 39 * 39) (4095 * 4095) (hullL L).length q → bdR (12 * (4095 * 4095) * (2 * 39 * 39) ^ 12) ((2 * 39 * 39) ^ 12) q := fun h =>
    h.bd.mono (Nat.mul_le_mul (Nat.mul_le_mul_right _ hlb) p1) p1
  have hadd := add_ok (bd c2.2) (bd c3.2) (by decide) (by decide)
  have call : coverQ (hullL L) (aroundL p t) = (area2L (hullL L) : Rat) / 2 := cover_all (fun q hq => around_box (by rw [← hp]; exact hq)) hmem
  have a0 : 0 ≤ area2L (hullL L) := by
    have h1 := hc.1
    have h2 := hc.2.1
    have : (0 : Rat) ≤ (area2L (hullL L) : Rat) := by grind
    exact Rat.intCast_nonneg.1 this
  have ab := area2_b hv'
  refine ⟨p, t, hp, ⟨?_, hidem, hr, vo, vq, va, ?_, ⟨a0, by omega⟩, ?_, ?_, ?_, ?_, ?_, coveredO_FO hv' r, coveredO_FO hv' o, coveredO_FO hv' q, by rw [c1.1]; rfl⟩⟩
  · unfold fewB
    simp only [Bool.and_eq_true, decide_eq_true_eq]
    exact ⟨⟨by omega, by omega⟩, List.all_eq_true.2 hv'⟩
  · rw [c1.1, c2.1, c3.1]
    show addR _ _ = _
    rw [hadd.1, esum]
  · have e : makeR (r.w * r.h) 1 = some ((r.w * r.h : Int) : Rat) := whO_val _
    rw [c1.1, e]
    refine cmpO_le ?_
    rw [Rat.intCast_mul]
    exact hc.2.2
  · rw [c1.1, makeR_half]
    exact cmpO_le hc.2.1
  · rw [c1.1, zero_make]
    exact cmpO_ge hc.1
  · rw [c4.1, makeR_half, call]
  · intro hin
    rw [c1.1, makeR_half]
    congr 1
    obtain ⟨_, _, i1, i2, i3, i4⟩ := inside_iff.1 hin
    refine cover_all (fun q hq => ?_) hmem
    have := around_box (p := p) (t := t) (q := q) (by rw [← hp]; exact hq)
    omega
end Go.Proofs.YtgngepbemgbbeaaGreatDoor

namespace Go.Proofs.YtgngepbemgbbeaaGreatDoor
open Go.RowKit Go.Shelf Go.Sort
attribute [local go_sem] Oper.semAt_some

theorem pick_int (c d : Int) (h0 : -9223372036854775808 ≤ c) (h1 : c ≤ 9223372036854775807) (hd : 0 < d) (hd2 : d ≤ 4294967296) :
    ∃ k : Int, (0 ≤ k ∧ k < d) ∧ ∀ w : World, Calls Tryz.prog 12 #[.int .i64 c, .int .i64 d] w fun e w' => e = .returned (.int .i64 k) ∧ w = w' := by
  have e : d = ((d.toNat : Nat) : Int) := by omega
  refine ⟨(pickN c d.toNat : Nat), ⟨by omega, ?_⟩, fun w => ?_⟩
  · have := pickN_lt c (n := d.toNat) (by omega)
    omega
  · have := pick_l c d.toNat h0 h1 (by omega) (by omega) w
    rwa [← e] at this
set_option maxHeartbeats 16000000 in
set_option maxRecDepth 100000 in
theorem PlaneAreas_law (y0 y1 y2 y3 dv ax : Int) {a : Option Addr} {n cap : Nat} {xs : List (Int × Int)} (hy0 : -9223372036854775808 ≤ y0 ∧ y0 ≤ 9223372036854775807) (hy1 : -9223372036854775808 ≤ y1 ∧ y1 ≤ 9223372036854775807) (hy2 : -9223372036854775808 ≤ y2 ∧ y2 ≤ 9223372036854775807) (hy3 : -9223372036854775808 ≤ y3 ∧ y3 ≤ 9223372036854775807) (hdv : -9223372036854775808 ≤ dv ∧ dv ≤ 9223372036854775807) (hax : -9223372036854775808 ≤ ax ∧ ax ≤ 9223372036854775807) (hn : xs.length = n) (w : World) (hX : XsAt a xs w) (hq : IOps w ∧ FrOp w) :
    Calls Tryz.prog 8 #[.slice a n cap, .agg #[.int .i64 y0, .int .i64 y1, .int .i64 y2, .int .i64 y3], .int .i64 dv, .int .i64 ax] w fun e W' => e = .returned (.bool true) ∧ Below w.heap.size w W' := by
  have hmx : Tryz.prog.follows .mixedOrders = true := by kernel_rfl
  have KS := Lib.hid (fun (W : World) (hb : Below w.heap.size w W) => sane7_s (hq.1.below hb) (hq.2.below hb))
  have KL := Lib.hid (fun (W : World) (hb : Below w.heap.size w W) => places_s (cap := cap) hn (hX.below hb))
  have KR := Lib.hid (fun (W : World) => rect_s hy0 hy1 hy2 hy3 W)
  have vr := rcN_v y0 y1 y2 y3
  have hpl := plsN_b xs
  have hfew := plsN_few xs
  have hll := plsN_len xs
  generalize rcN y0 y1 y2 y3 = r at KR vr
  generalize plsN xs = L at KL hpl hfew hll
  have vr2 := vRc_iff.1 vr
  obtain ⟨s, hs, KX⟩ := pick_int ax 2 hax.1 hax.2 (by decide) (by decide)
  obtain ⟨kw, hkw, KW⟩ := pick_int dv (r.w + 1) hdv.1 hdv.2 (by omega) (by omega)
  obtain ⟨kh, hkh, KH⟩ := pick_int dv (r.h + 1) hdv.1 hdv.2 (by omega) (by omega)
  obtain ⟨o, q, k, hk, HO⟩ : ∃ (o q : Rc) (k : Int), ((0 ≤ k ∧ k ≤ r.w ∧ o = { r with w := k } ∧ q = { r with x := r.x + k, w := r.w - k }) ∨ (0 ≤ k ∧ k ≤ r.h ∧ o = { r with h := k } ∧ q = { r with y := r.y + k, h := r.h - k })) ∧
      ((s = 0 ∧ o = ⟨r.x, r.y, kw, r.h⟩ ∧ q = ⟨r.x + kw, r.y, r.w - kw, r.h⟩) ∨ (s = 1 ∧ o = ⟨r.x, r.y, r.w, kh⟩ ∧ q = ⟨r.x, r.y + kh, r.w, r.h - kh⟩)) := by
    rcases (show s = 0 ∨ s = 1 by omega) with h | h
    · exact ⟨_, _, kw, .inl ⟨hkw.1, by omega, rfl, rfl⟩, .inl ⟨h, rfl, rfl⟩⟩
    · exact ⟨_, _, kh, .inr ⟨hkh.1, by omega, rfl, rfl⟩, .inr ⟨h, rfl, rfl⟩⟩
  obtain ⟨p, t, hpt, HA⟩ := area_law hfew (by omega) hpl vr hk
  have hvh := few_all HA.fh
  have hnh := few_len HA.fh
  obtain ⟨ar, har⟩ : ∃ ar, ar = aroundL p t := ⟨_, rfl⟩
  rw [← har] at HA
  obtain ⟨m, hm⟩ : ∃ m, m = L.length := ⟨_, rfl⟩
  have K1 := Lib.hid (fun (g c : Nat) (W : World) (hp : PsAt g L W) => hullG_s (cap := c) hm.symm hfew W hp)
  obtain ⟨h, hh⟩ : ∃ h, h = hullL L := ⟨_, rfl⟩
  rw [← hh] at HA K1 hpt hvh hnh
  obtain ⟨mh, hmh⟩ : ∃ mh, mh = h.length := ⟨_, rfl⟩
  rw [← hmh] at K1
  have CR := Lib.hid (fun (g c : Nat) (W : World) (hb : Below w.heap.size w W) (hp : PsAt g h W) => coveredG_s (cap := c) hmh.symm HA.fh HA.idem HA.vr (hq.1.below hb) (hq.2.below hb) hp)
  have CO := Lib.hid (fun (g c : Nat) (W : World) (hb : Below w.heap.size w W) (hp : PsAt g h W) => coveredG_s (cap := c) hmh.symm HA.fh HA.idem HA.vo (hq.1.below hb) (hq.2.below hb) hp)
  have CQ := Lib.hid (fun (g c : Nat) (W : World) (hb : Below w.heap.size w W) (hp : PsAt g h W) => coveredG_s (cap := c) hmh.symm HA.fh HA.idem HA.vq (hq.1.below hb) (hq.2.below hb) hp)
  have CA := Lib.hid (fun (g c : Nat) (W : World) (hb : Below w.heap.size w W) (hp : PsAt g h W) => coveredG_s (cap := c) hmh.symm HA.fh HA.idem HA.va (hq.1.below hb) (hq.2.below hb) hp)
  rw [HA.all] at CA
  have KD := Lib.hid (fun (W : World) (hb : Below w.heap.size w W) => by have := Add_q (hq.1.below hb) (qN_sz _ HA.fo) (qD_sz _ HA.fo) (qN_sz _ HA.fq) (qD_sz _ HA.fq); rw [op2_q HA.fo HA.fq, HA.sum, HA.one] at this; exact this)
  have KA2 := Lib.hid (fun (g c : Nat) (W : World) (hp : PsAt g h W) => area2_s (cap := c) hmh.symm HA.fh W hp)
  have KAR := Lib.hid (fun (g c : Nat) (W : World) (hp : PsAt g (p :: t) W) => around_s (n := mh) (cap := c) (by rw [← hpt]; exact hmh.symm) (by rw [← hpt]; exact HA.fh) W hp)
  rw [← har, ← hpt] at KAR
  have KI := Lib.hid (fun (W : World) => inside_s ar r W)
  have KZ1 := Lib.hid (fun (W : World) => ratio_s (n := r.w * r.h) (d := 1) (by decide) (by have := mulb vr2.2.2.2.2.1 (show r.w ≤ 4095 by omega) vr2.2.2.2.2.2.2.1 (show r.h ≤ 4095 by omega); omega) (by have := mulb vr2.2.2.2.2.1 (show r.w ≤ 4095 by omega) vr2.2.2.2.2.2.2.1 (show r.h ≤ 4095 by omega); omega) (by decide) (by decide) W)
  have KZ2 := Lib.hid (fun (W : World) => ratio_s (n := area2L h) (d := 2) (by decide) (by have := HA.area; omega) (by have := HA.area; omega) (by decide) (by decide) W)
  have KZ0 := Lib.hid (fun (W : World) => ratio_s (n := 0) (d := 1) (by decide) (by decide) (by decide) (by decide) (by decide) W)
  have f0 : FO (makeR 0 1) := whO_FO (n := 0) (by decide) (by decide)
  have f1 : FO (makeR (r.w * r.h) 1) := whO_FO (by have := mulb vr2.2.2.2.2.1 (show r.w ≤ 4095 by omega) vr2.2.2.2.2.2.2.1 (show r.h ≤ 4095 by omega); omega) (by have := mulb vr2.2.2.2.2.1 (show r.w ≤ 4095 by omega) vr2.2.2.2.2.2.2.1 (show r.h ≤ 4095 by omega); omega)
  have f2 : FO (makeR (area2L h) 2) := by rw [← HA.all]; exact coveredO_FO hvh ar
  have C1 := Lib.hid (fun (W : World) (hb : Below w.heap.size w W) => by have := RCompare_q (hq.1.below hb) (qN_sz _ HA.fr) (qD_sz _ HA.fr) (qN_sz _ f1) (qD_sz _ f1); rw [cmpS_q HA.fr f1] at this; exact this)
  have C2 := Lib.hid (fun (W : World) (hb : Below w.heap.size w W) => by have := RCompare_q (hq.1.below hb) (qN_sz _ HA.fr) (qD_sz _ HA.fr) (qN_sz _ f2) (qD_sz _ f2); rw [cmpS_q HA.fr f2] at this; exact this)
  have C0 := Lib.hid (fun (W : World) (hb : Below w.heap.size w W) => by have := RCompare_q (hq.1.below hb) (qN_sz _ HA.fr) (qD_sz _ HA.fr) (qN_sz _ f0) (qD_sz _ f0); rw [cmpS_q HA.fr f0] at this; exact this)
  have e0 := HA.zero
  have e1 := HA.rect
  have e2 := HA.whole
  have ein := HA.inside
  have ea := HA.area.1
  have wm : IntKind.i64.wrap (r.w * r.h) = r.w * r.h := IntWalk.i64_in _ (by have := mulb vr2.2.2.2.2.1 (show r.w ≤ 4095 by omega) vr2.2.2.2.2.2.2.1 (show r.h ≤ 4095 by omega); omega)
  generalize cmpOO (coveredO h r) (makeR 0 1) = c0 at C0 e0
  generalize cmpOO (coveredO h r) (makeR (r.w * r.h) 1) = c1 at C1 e1
  generalize cmpOO (coveredO h r) (makeR (area2L h) 2) = c2 at C2 e2
  generalize coveredO h r = cw at CR KD C0 C1 C2 ein
  generalize coveredO h o = ca at CO KD
  generalize coveredO h q = cb at CQ KD
  generalize makeR (r.w * r.h) 1 = Z1 at KZ1 C1
  generalize makeR (area2L h) 2 = Z2 at KZ2 C2 CA ein
  generalize makeR 0 1 = Z0 at KZ0 C0
  generalize area2L h = D at KA2 KZ2 ea
  generalize insideR ar r = bi at KI ein
  have HE := Lib.hid ein
  have HOO := Lib.hid HO
  have b0 : decide (0 ≤ c0) = true := decide_eq_true e0
  have b1 : decide (c1 ≤ 0) = true := decide_eq_true e1
  have b2 : decide (c2 ≤ 0) = true := decide_eq_true e2
  have bD : decide (D < 0) = false := decide_eq_false (by omega)
  have bD2 : ¬ D < 0 := by omega
  have HB := Lib.hid (And.intro vr2 (And.intro hkw (And.intro hkh hs)))
  have HKP := Lib.hid (And.intro KX (And.intro KW KH))
  have HHM := Lib.hid (And.intro hm hmh)
  have HC := Lib.hid (show AzAt [(w.heap.size, [.int .i64 y0, .int .i64 y1, .int .i64 y2, .int .i64 y3])] w _ from (AzAt.start w).push [.int .i64 y0, .int .i64 y1, .int .i64 y2, .int .i64 y3] 23)
  clear hX hq hn vr hpl hfew hll vr2 hk HO hvh hnh har hpt hh HA f0 f1 f2 ein hkw hkh hs hm hmh KX KW KH ea e0 e1 e2 hy0 hy1 hy2 hy3 hdv hax
  go_enter Tryz.func8, Tryz.ntmps8
  go_upto_region 5 with (first
    | (go_at_call 10; (with_reducible refine (KS.out _ HC.out.bw).mono ?_); rintro e w1 ⟨rfl, hb⟩; replace HC := Lib.hid (HC.out.below hb); clear hb)
    | (go_at_call 11; (with_reducible refine (KL.out _ HC.out.bw).mono ?_); rintro e wL ⟨g, m', c, rfl, hm', hZ⟩; obtain rfl : m' = m := hm'.trans HHM.out.1.symm; replace HC := Lib.hid ((HC.out.below hZ.az.bw).cons (hZ.ar.at (B := g) (l := plC L) (by simp))); clear hZ hm')
    | (go_at_call 22; (with_reducible refine (K1.out _ _ _ (PsAt.of (HC.out.at (B := g) (l := plC L) (by simp)))).mono ?_); rintro e w2 ⟨⟨gh, ch, rfl, hg⟩, hb⟩; replace HC := Lib.hid ((HC.out.below hb).cons hg); clear hb hg; have x0 := ((HC.out.at (B := w.heap.size) (l := [.int .i64 y0, .int .i64 y1, .int .i64 y2, .int .i64 y3]) (by simp)).row 0 _ rfl); have x1 := ((HC.out.at (B := w.heap.size) (l := [.int .i64 y0, .int .i64 y1, .int .i64 y2, .int .i64 y3]) (by simp)).row 1 _ rfl); have x2 := ((HC.out.at (B := w.heap.size) (l := [.int .i64 y0, .int .i64 y1, .int .i64 y2, .int .i64 y3]) (by simp)).row 2 _ rfl); have x3 := ((HC.out.at (B := w.heap.size) (l := [.int .i64 y0, .int .i64 y1, .int .i64 y2, .int .i64 y3]) (by simp)).row 3 _ rfl))
    | (go_at_call 13; (with_reducible refine (KR.out _).mono ?_); rintro e wR ⟨rfl, hb⟩; replace HC := Lib.hid ((HC.out.below hb).push [.int .i64 r.x, .int .i64 r.y, .int .i64 r.w, .int .i64 r.h] 29); clear hb x0 x1 x2 x3)
    | fail)
  have HO1 := HC
  obtain ⟨WR, hWR⟩ : ∃ WR, WR = wR.alloc (.cells #[.int .i64 r.x, .int .i64 r.y, .int .i64 r.w, .int .i64 r.h] 29) := ⟨_, rfl⟩
  rw [← hWR] at HC ⊢
  clear hWR
  have x0 := ((HC.out.at (B := wR.heap.size) (l := [.int .i64 r.x, .int .i64 r.y, .int .i64 r.w, .int .i64 r.h]) (by simp)).row 0 _ rfl)
  have x1 := ((HC.out.at (B := wR.heap.size) (l := [.int .i64 r.x, .int .i64 r.y, .int .i64 r.w, .int .i64 r.h]) (by simp)).row 1 _ rfl)
  have x2 := ((HC.out.at (B := wR.heap.size) (l := [.int .i64 r.x, .int .i64 r.y, .int .i64 r.w, .int .i64 r.h]) (by simp)).row 2 _ rfl)
  have x3 := ((HC.out.at (B := wR.heap.size) (l := [.int .i64 r.x, .int .i64 r.y, .int .i64 r.w, .int .i64 r.h]) (by simp)).row 3 _ rfl)
  go_upto_region 6 with fail
  clear x0 x1 x2 x3
  have HO2 := HC
  replace HC := Lib.hid (HC.out.push [.int .i64 r.x, .int .i64 r.y, .int .i64 r.w, .int .i64 r.h] 29)
  obtain ⟨WO, hWO⟩ : ∃ WO, WO = WR.alloc (.cells #[.int .i64 r.x, .int .i64 r.y, .int .i64 r.w, .int .i64 r.h] 29) := ⟨_, rfl⟩
  rw [← hWO] at HC ⊢
  clear hWO
  have HO3 := HC
  have x0 := ((HC.out.at (B := wR.heap.size) (l := [.int .i64 r.x, .int .i64 r.y, .int .i64 r.w, .int .i64 r.h]) (by simp)).row 0 _ rfl)
  have x1 := ((HC.out.at (B := wR.heap.size) (l := [.int .i64 r.x, .int .i64 r.y, .int .i64 r.w, .int .i64 r.h]) (by simp)).row 1 _ rfl)
  have x2 := ((HC.out.at (B := wR.heap.size) (l := [.int .i64 r.x, .int .i64 r.y, .int .i64 r.w, .int .i64 r.h]) (by simp)).row 2 _ rfl)
  have x3 := ((HC.out.at (B := wR.heap.size) (l := [.int .i64 r.x, .int .i64 r.y, .int .i64 r.w, .int .i64 r.h]) (by simp)).row 3 _ rfl)
  go_upto_region 7 with fail
  clear x0 x1 x2 x3
  replace HC := Lib.hid (HC.out.push [.int .i64 r.x, .int .i64 r.y, .int .i64 r.w, .int .i64 r.h] 29)
  obtain ⟨WQ, hWQ⟩ : ∃ WQ, WQ = WO.alloc (.cells #[.int .i64 r.x, .int .i64 r.y, .int .i64 r.w, .int .i64 r.h] 29) := ⟨_, rfl⟩
  rw [← hWQ] at HC ⊢
  clear hWQ
  obtain ⟨R1, hR1⟩ : ∃ R1, R1 = wR.heap.size := ⟨_, rfl⟩
  obtain ⟨R2, hR2⟩ : ∃ R2, R2 = WR.heap.size := ⟨_, rfl⟩
  obtain ⟨R3, hR3⟩ : ∃ R3, R3 = WO.heap.size := ⟨_, rfl⟩
  have hd : (w.heap.size ≤ R2 ∧ w.heap.size ≤ R3) ∧ (R2 ≠ R1 ∧ R2 ≠ R3 ∧ R3 ≠ R1) ∧ (R2 ≠ gh ∧ R3 ≠ gh) := by
    have a1 := (HO2.out.at (B := wR.heap.size) (l := rcC r) (by simp [rcC])).sz
    have a2 := (HO2.out.at (B := gh) (l := plC h) (by simp)).sz
    have a3 := (HO3.out.at (B := wR.heap.size) (l := rcC r) (by simp [rcC])).sz
    have a4 := (HO3.out.at (B := WR.heap.size) (l := rcC r) (by simp [rcC])).sz
    have a5 := (HO3.out.at (B := gh) (l := plC h) (by simp)).sz
    have a6 := HO2.out.bw.size
    have a7 := HO3.out.bw.size
    omega
  rw [← hR1, ← hR2, ← hR3]
  have H0 := Lib.hid (show AzAt [(R2, rcC r), (R3, rcC r), (R1, rcC r), (gh, plC h)] w WQ from by
    rw [hR1, hR2, hR3]
    exact HC.out.sub (fun x hx => by
      simp only [List.mem_cons, List.not_mem_nil, or_false] at hx
      rcases hx with rfl | rfl | rfl | rfl <;> simp [rcC]))
  have HDD := Lib.hid hd
  clear hR1 hR2 hR3 HC HO1 HO2 HO3 hd KS KL KR K1
  have HXX := HKP.out.1
  have KXX := Lib.hid HXX
  clear HXX
  go_upto_if 43 with (first
    | (go_at_call 12; (with_reducible refine (KXX.out _).mono ?_); rintro e w4 ⟨rfl, rfl⟩)
    | fail)
  obtain ⟨sb, hsb⟩ : ∃ sb, sb = (s == 0) := ⟨_, rfl⟩
  rw [← hsb]
  have HSB := Lib.hid hsb
  clear hsb
  go_cut [] from 44 to 79 (fun wX => AzAt [(R3, rcC q), (R2, rcC o), (R1, rcC r), (gh, plC h)] w wX)
  case first =>
    clear CR CO CQ KD KA2 KAR CA KI C0 C1 C2 KZ0 KZ1 KZ2
    rcases HOO.out with ⟨hs0, ho, hq⟩ | ⟨hs0, ho, hq⟩
    · subst ho hq
      have hs1 : sb = true := by rw [HSB.out, hs0]; rfl
      clear hs0
      subst hs1
      have KPK := Lib.hid HKP.out.2.1
      have wr1 : IntKind.i64.wrap (r.w + 1) = r.w + 1 := IntWalk.i64_in _ (by have := HB.out; omega)
      have wr2 : IntKind.i64.wrap (r.x + kw) = r.x + kw := IntWalk.i64_in _ (by have := HB.out; omega)
      have wr3 : IntKind.i64.wrap (r.w - kw) = r.w - kw := IntWalk.i64_in _ (by have := HB.out; omega)
      have x2 := ((H0.out.at (B := R1) (l := rcC r) (by simp)).row 2 _ rfl)
      have z2 := ((H0.out.at (B := R2) (l := rcC r) (by simp)).row 2 _ rfl)
      have f0 := (H0.out.at (B := R2) (l := rcC r) (by simp)).fz 2 (by simp [rcC])
      go_upto_region 9 with (first | (go_at_call 12; (with_reducible refine (KPK.out _).mono ?_); rintro e w4 ⟨rfl, rfl⟩) | fail)
      have H1 := Lib.hid (show AzAt [(R3, rcC r), (R2, rcC ⟨r.x, r.y, kw, r.h⟩), (R1, rcC r), (gh, plC h)] w _ from AzAt.swap (H0.out.set (i := 2) HDD.out.1.1 (fun x hx => by
        have hh := HDD.out
        simp only [List.mem_cons, List.not_mem_nil, or_false] at hx
        rcases hx with rfl | rfl | rfl <;> simp only <;> omega) rfl (.int .i64 kw)))
      generalize WQ.setCell ⟨R2, 2, none⟩ (.int .i64 kw) = W8 at H1 ⊢
      clear f0 x2 z2
      have x0 := ((H1.out.at (B := R1) (l := rcC r) (by simp)).row 0 _ rfl)
      have y2 := ((H1.out.at (B := R2) (l := rcC ⟨r.x, r.y, kw, r.h⟩) (by simp)).row 2 _ rfl)
      have z0 := ((H1.out.at (B := R3) (l := rcC r) (by simp)).row 0 _ rfl)
      have f0 := (H1.out.at (B := R3) (l := rcC r) (by simp)).fz 0 (by simp [rcC])
      go_upto_region 10 with fail
      have H2 := Lib.hid (show AzAt [(R3, rcC ⟨r.x + kw, r.y, r.w, r.h⟩), (R2, rcC ⟨r.x, r.y, kw, r.h⟩), (R1, rcC r), (gh, plC h)] w _ from (H1.out.set (i := 0) HDD.out.1.2 (fun x hx => by
        have hh := HDD.out
        simp only [List.mem_cons, List.not_mem_nil, or_false] at hx
        rcases hx with rfl | rfl | rfl <;> simp only <;> omega) rfl (.int .i64 (r.x + kw))))
      generalize W8.setCell ⟨R3, 0, none⟩ (.int .i64 (r.x + kw)) = W9 at H2 ⊢
      clear f0 x0 y2 z0
      have x2 := ((H2.out.at (B := R1) (l := rcC r) (by simp)).row 2 _ rfl)
      have y2 := ((H2.out.at (B := R2) (l := rcC ⟨r.x, r.y, kw, r.h⟩) (by simp)).row 2 _ rfl)
      have z2 := ((H2.out.at (B := R3) (l := rcC ⟨r.x + kw, r.y, r.w, r.h⟩) (by simp)).row 2 _ rfl)
      have f0 := (H2.out.at (B := R3) (l := rcC ⟨r.x + kw, r.y, r.w, r.h⟩) (by simp)).fz 2 (by simp [rcC])
      have H3 := Lib.hid (show AzAt [(R3, rcC ⟨r.x + kw, r.y, r.w - kw, r.h⟩), (R2, rcC ⟨r.x, r.y, kw, r.h⟩), (R1, rcC r), (gh, plC h)] w _ from (H2.out.set (i := 2) HDD.out.1.2 (fun x hx => by
        have hh := HDD.out
        simp only [List.mem_cons, List.not_mem_nil, or_false] at hx
        rcases hx with rfl | rfl | rfl <;> simp only <;> omega) rfl (.int .i64 (r.w - kw))))
      go_wp2
      go_meet
      exact H3.out
    · subst ho hq
      have hs1 : sb = false := by rw [HSB.out, hs0]; rfl
      clear hs0
      subst hs1
      have KPK := Lib.hid HKP.out.2.2
      have wr1 : IntKind.i64.wrap (r.h + 1) = r.h + 1 := IntWalk.i64_in _ (by have := HB.out; omega)
      have wr2 : IntKind.i64.wrap (r.y + kh) = r.y + kh := IntWalk.i64_in _ (by have := HB.out; omega)
      have wr3 : IntKind.i64.wrap (r.h - kh) = r.h - kh := IntWalk.i64_in _ (by have := HB.out; omega)
      have x3 := ((H0.out.at (B := R1) (l := rcC r) (by simp)).row 3 _ rfl)
      have z3 := ((H0.out.at (B := R2) (l := rcC r) (by simp)).row 3 _ rfl)
      have f0 := (H0.out.at (B := R2) (l := rcC r) (by simp)).fz 3 (by simp [rcC])
      go_upto_region 12 with (first | (go_at_call 12; (with_reducible refine (KPK.out _).mono ?_); rintro e w4 ⟨rfl, rfl⟩) | fail)
      have H1 := Lib.hid (show AzAt [(R3, rcC r), (R2, rcC ⟨r.x, r.y, r.w, kh⟩), (R1, rcC r), (gh, plC h)] w _ from AzAt.swap (H0.out.set (i := 3) HDD.out.1.1 (fun x hx => by
        have hh := HDD.out
        simp only [List.mem_cons, List.not_mem_nil, or_false] at hx
        rcases hx with rfl | rfl | rfl <;> simp only <;> omega) rfl (.int .i64 kh)))
      generalize WQ.setCell ⟨R2, 3, none⟩ (.int .i64 kh) = W8 at H1 ⊢
      clear f0 x3 z3
      have x1 := ((H1.out.at (B := R1) (l := rcC r) (by simp)).row 1 _ rfl)
      have y3 := ((H1.out.at (B := R2) (l := rcC ⟨r.x, r.y, r.w, kh⟩) (by simp)).row 3 _ rfl)
      have z1 := ((H1.out.at (B := R3) (l := rcC r) (by simp)).row 1 _ rfl)
      have f0 := (H1.out.at (B := R3) (l := rcC r) (by simp)).fz 1 (by simp [rcC])
      go_upto_region 13 with fail
      have H2 := Lib.hid (show AzAt [(R3, rcC ⟨r.x, r.y + kh, r.w, r.h⟩), (R2, rcC ⟨r.x, r.y, r.w, kh⟩), (R1, rcC r), (gh, plC h)] w _ from (H1.out.set (i := 1) HDD.out.1.2 (fun x hx => by
        have hh := HDD.out
        simp only [List.mem_cons, List.not_mem_nil, or_false] at hx
        rcases hx with rfl | rfl | rfl <;> simp only <;> omega) rfl (.int .i64 (r.y + kh))))
      generalize W8.setCell ⟨R3, 1, none⟩ (.int .i64 (r.y + kh)) = W9 at H2 ⊢
      clear f0 x1 y3 z1
      have x3 := ((H2.out.at (B := R1) (l := rcC r) (by simp)).row 3 _ rfl)
      have y3 := ((H2.out.at (B := R2) (l := rcC ⟨r.x, r.y, r.w, kh⟩) (by simp)).row 3 _ rfl)
      have z3 := ((H2.out.at (B := R3) (l := rcC ⟨r.x, r.y + kh, r.w, r.h⟩) (by simp)).row 3 _ rfl)
      have f0 := (H2.out.at (B := R3) (l := rcC ⟨r.x, r.y + kh, r.w, r.h⟩) (by simp)).fz 3 (by simp [rcC])
      have H3 := Lib.hid (show AzAt [(R3, rcC ⟨r.x, r.y + kh, r.w, r.h - kh⟩), (R2, rcC ⟨r.x, r.y, r.w, kh⟩), (R1, rcC r), (gh, plC h)] w _ from (H2.out.set (i := 3) HDD.out.1.2 (fun x hx => by
        have hh := HDD.out
        simp only [List.mem_cons, List.not_mem_nil, or_false] at hx
        rcases hx with rfl | rfl | rfl <;> simp only <;> omega) rfl (.int .i64 (r.h - kh))))
      go_wp2
      go_meet
      exact H3.out
  case rest =>
    have HX := Lib.hid hcut
    clear hcut H0 HDD HOO HKP HSB KXX HB
    have x0 := (((HX.out).at (B := R1) (l := rcC r) (by simp)).row 0 _ rfl)
    have x1 := (((HX.out).at (B := R1) (l := rcC r) (by simp)).row 1 _ rfl)
    have x2 := (((HX.out).at (B := R1) (l := rcC r) (by simp)).row 2 _ rfl)
    have x3 := (((HX.out).at (B := R1) (l := rcC r) (by simp)).row 3 _ rfl)
    go_upto_region 24 with (first
    | (go_at_call 27; (with_reducible refine (CR.out _ _ _ HX.out.bw (PsAt.of (HX.out.at (B := gh) (l := plC h) (by simp)))).mono ?_); rintro e wA ⟨rfl, hb⟩; replace HX := Lib.hid ((HX.out.below hb).push [.string (qN cw), .string (qD cw)] 47); clear hb x0 x1 x2 x3; have y0 := (((HX.out).at (B := R2) (l := rcC o) (by simp)).row 0 _ rfl); have y1 := (((HX.out).at (B := R2) (l := rcC o) (by simp)).row 1 _ rfl); have y2 := (((HX.out).at (B := R2) (l := rcC o) (by simp)).row 2 _ rfl); have y3 := (((HX.out).at (B := R2) (l := rcC o) (by simp)).row 3 _ rfl))
    | (go_at_call 27; (with_reducible refine (CO.out _ _ _ HX.out.bw (PsAt.of (HX.out.at (B := gh) (l := plC h) (by simp)))).mono ?_); rintro e wB ⟨rfl, hb⟩; replace HX := Lib.hid ((HX.out.below hb).push [.string (qN ca), .string (qD ca)] 47); clear hb y0 y1 y2 y3; have z0 := (((HX.out).at (B := R3) (l := rcC q) (by simp)).row 0 _ rfl); have z1 := (((HX.out).at (B := R3) (l := rcC q) (by simp)).row 1 _ rfl); have z2 := (((HX.out).at (B := R3) (l := rcC q) (by simp)).row 2 _ rfl); have z3 := (((HX.out).at (B := R3) (l := rcC q) (by simp)).row 3 _ rfl))
    | (go_at_call 27; (with_reducible refine (CQ.out _ _ _ HX.out.bw (PsAt.of (HX.out.at (B := gh) (l := plC h) (by simp)))).mono ?_); rintro e wC ⟨rfl, hb⟩; replace HX := Lib.hid ((HX.out.below hb).push [.string (qN cb), .string (qD cb)] 47); clear hb z0 z1 z2 z3; have x0 := (((HX.out).at (B := wB.heap.size) (l := [.string (qN ca), .string (qD ca)]) (by simp)).row 0 _ rfl); have x1 := (((HX.out).at (B := wB.heap.size) (l := [.string (qN ca), .string (qD ca)]) (by simp)).row 1 _ rfl); have y0 := (((HX.out).at (B := wC.heap.size) (l := [.string (qN cb), .string (qD cb)]) (by simp)).row 0 _ rfl); have y1 := (((HX.out).at (B := wC.heap.size) (l := [.string (qN cb), .string (qD cb)]) (by simp)).row 1 _ rfl))
    | (go_at_call 41; (with_reducible refine (KD.out _ HX.out.bw).mono ?_); rintro e wD ⟨rfl, hb⟩; replace HX := Lib.hid ((HX.out.below hb).push [.string (qN cw), .string (qD cw)] 47); clear hb x0 x1 y0 y1)
    | (go_at_call 24; (with_reducible refine (KA2.out _ _ _ (PsAt.of (HX.out.at (B := gh) (l := plC h) (by simp)))).mono ?_); rintro e wE ⟨rfl, hb⟩; replace HX := Lib.hid (HX.out.below hb); clear hb)
    | (go_at_call 20; (with_reducible refine (KAR.out _ _ _ (PsAt.of (HX.out.at (B := gh) (l := plC h) (by simp)))).mono ?_); rintro e wF ⟨rfl, hb⟩; replace HX := Lib.hid ((HX.out.below hb).push [.int .i64 ar.x, .int .i64 ar.y, .int .i64 ar.w, .int .i64 ar.h] 29); clear hb; have x0 := (((HX.out).at (B := wF.heap.size) (l := [.int .i64 ar.x, .int .i64 ar.y, .int .i64 ar.w, .int .i64 ar.h]) (by simp)).row 0 _ rfl); have x1 := (((HX.out).at (B := wF.heap.size) (l := [.int .i64 ar.x, .int .i64 ar.y, .int .i64 ar.w, .int .i64 ar.h]) (by simp)).row 1 _ rfl); have x2 := (((HX.out).at (B := wF.heap.size) (l := [.int .i64 ar.x, .int .i64 ar.y, .int .i64 ar.w, .int .i64 ar.h]) (by simp)).row 2 _ rfl); have x3 := (((HX.out).at (B := wF.heap.size) (l := [.int .i64 ar.x, .int .i64 ar.y, .int .i64 ar.w, .int .i64 ar.h]) (by simp)).row 3 _ rfl))
    | (go_at_call 27; (with_reducible refine (CA.out _ _ _ HX.out.bw (PsAt.of (HX.out.at (B := gh) (l := plC h) (by simp)))).mono ?_); rintro e wG ⟨rfl, hb⟩; replace HX := Lib.hid ((HX.out.below hb).push [.string (qN Z2), .string (qD Z2)] 47); clear hb x0 x1 x2 x3; have x0 := (((HX.out).at (B := wD.heap.size) (l := [.string (qN cw), .string (qD cw)]) (by simp)).row 0 _ rfl); have x1 := (((HX.out).at (B := wD.heap.size) (l := [.string (qN cw), .string (qD cw)]) (by simp)).row 1 _ rfl); have y0 := (((HX.out).at (B := wA.heap.size) (l := [.string (qN cw), .string (qD cw)]) (by simp)).row 0 _ rfl); have y1 := (((HX.out).at (B := wA.heap.size) (l := [.string (qN cw), .string (qD cw)]) (by simp)).row 1 _ rfl))
    | (go_at_call 39; (with_reducible refine (KZ2.out _).mono ?_); rintro e wH ⟨rfl, hb⟩; replace HX := Lib.hid ((HX.out.below hb).push [.string (qN Z2), .string (qD Z2)] 47); clear hb x0 x1 y0 y1)
    | fail)
    obtain ⟨WH, hWH⟩ : ∃ W, W = wH.alloc (.cells #[.string (qN Z2), .string (qD Z2)] 47) := ⟨_, rfl⟩
    rw [← hWH] at HX ⊢
    clear hWH
    clear CR CO CQ KD KA2 KAR CA KZ2
    cases bi with
    | true =>
      obtain rfl := HE.out rfl
      have a0 := cell_regrown ((HX.out.at (B := wA.heap.size) (l := [.string (qN cw), .string (qD cw)]) (by simp)).row 0 _ rfl)
      have a1 := cell_regrown ((HX.out.at (B := wA.heap.size) (l := [.string (qN cw), .string (qD cw)]) (by simp)).row 1 _ rfl)
      have x0 := cell_regrown ((HX.out.at (B := R1) (l := rcC r) (by simp)).row 0 _ rfl)
      have x1 := cell_regrown ((HX.out.at (B := R1) (l := rcC r) (by simp)).row 1 _ rfl)
      have x2 := cell_regrown ((HX.out.at (B := R1) (l := rcC r) (by simp)).row 2 _ rfl)
      have x3 := cell_regrown ((HX.out.at (B := R1) (l := rcC r) (by simp)).row 3 _ rfl)
      have h0 := cell_regrown ((HX.out.at (B := wH.heap.size) (l := [.string (qN cw), .string (qD cw)]) (by simp)).row 0 _ rfl)
      have h1 := cell_regrown ((HX.out.at (B := wH.heap.size) (l := [.string (qN cw), .string (qD cw)]) (by simp)).row 1 _ rfl)
      have g0 := cell_regrown ((HX.out.at (B := wG.heap.size) (l := [.string (qN cw), .string (qD cw)]) (by simp)).row 0 _ rfl)
      have g1 := cell_regrown ((HX.out.at (B := wG.heap.size) (l := [.string (qN cw), .string (qD cw)]) (by simp)).row 1 _ rfl)
      have f0 := cell_regrown ((HX.out.at (B := wF.heap.size) (l := [.int .i64 ar.x, .int .i64 ar.y, .int .i64 ar.w, .int .i64 ar.h]) (by simp)).row 0 _ rfl)
      have f1 := cell_regrown ((HX.out.at (B := wF.heap.size) (l := [.int .i64 ar.x, .int .i64 ar.y, .int .i64 ar.w, .int .i64 ar.h]) (by simp)).row 1 _ rfl)
      have f2 := cell_regrown ((HX.out.at (B := wF.heap.size) (l := [.int .i64 ar.x, .int .i64 ar.y, .int .i64 ar.w, .int .i64 ar.h]) (by simp)).row 2 _ rfl)
      have f3 := cell_regrown ((HX.out.at (B := wF.heap.size) (l := [.int .i64 ar.x, .int .i64 ar.y, .int .i64 ar.w, .int .i64 ar.h]) (by simp)).row 3 _ rfl)
      have cz1 := fun d os => Calls.regrown_of (d := d) (os := os) (KZ1.out (grow (redrawn WH d) os))
      have cc1 := fun d os => Calls.regrown_of (d := d) (os := os) (C1.out (grow (redrawn WH d) os) (HX.out.below (below_regrown WH d os)).bw)
      have cc2 := fun d os => Calls.regrown_of (d := d) (os := os) (C2.out (grow (redrawn WH d) os) (HX.out.below (below_regrown WH d os)).bw)
      have cz0 := fun d os => Calls.regrown_of (d := d) (os := os) (KZ0.out (grow (redrawn WH d) os))
      have cc0 := fun d os => Calls.regrown_of (d := d) (os := os) (C0.out (grow (redrawn WH d) os) (HX.out.below (below_regrown WH d os)).bw)
      have ci := fun d os => Calls.regrown_of (d := d) (os := os) (KI.out (grow (redrawn WH d) os))
      refine wp_region_quiet_below (by kernel_rfl) (by kernel_rfl) ?_
      repeat (go_big_quiet_step (first | with_reducible exact cz1 _ _ | with_reducible exact cc1 _ _ | with_reducible exact cc2 _ _ | with_reducible exact cz0 _ _ | with_reducible exact cc0 _ _ | with_reducible exact ci _ _))
      refine wpQuiet_nil ?_
      intro W1 hw1
      have hb1 : Below WH.heap.size WH W1 := by obtain ⟨⟨dq, osq⟩, hw2⟩ := hw1; rw [hw2]; exact below_regrown WH dq osq
      have HY := Lib.hid (HX.out.below hb1)
      clear hw1 hb1 HX a0 a1 x0 x1 x2 x3 h0 h1 g0 g1 f0 f1 f2 f3 cz1 cc1 cc2 cz0 cc0 ci
      go_wp2
      go_ret
      exact ⟨rfl, HY.out.bw⟩
    | false =>
      have a0 := cell_regrown ((HX.out.at (B := wA.heap.size) (l := [.string (qN cw), .string (qD cw)]) (by simp)).row 0 _ rfl)
      have a1 := cell_regrown ((HX.out.at (B := wA.heap.size) (l := [.string (qN cw), .string (qD cw)]) (by simp)).row 1 _ rfl)
      have x0 := cell_regrown ((HX.out.at (B := R1) (l := rcC r) (by simp)).row 0 _ rfl)
      have x1 := cell_regrown ((HX.out.at (B := R1) (l := rcC r) (by simp)).row 1 _ rfl)
      have x2 := cell_regrown ((HX.out.at (B := R1) (l := rcC r) (by simp)).row 2 _ rfl)
      have x3 := cell_regrown ((HX.out.at (B := R1) (l := rcC r) (by simp)).row 3 _ rfl)
      have h0 := cell_regrown ((HX.out.at (B := wH.heap.size) (l := [.string (qN Z2), .string (qD Z2)]) (by simp)).row 0 _ rfl)
      have h1 := cell_regrown ((HX.out.at (B := wH.heap.size) (l := [.string (qN Z2), .string (qD Z2)]) (by simp)).row 1 _ rfl)
      have g0 := cell_regrown ((HX.out.at (B := wG.heap.size) (l := [.string (qN Z2), .string (qD Z2)]) (by simp)).row 0 _ rfl)
      have g1 := cell_regrown ((HX.out.at (B := wG.heap.size) (l := [.string (qN Z2), .string (qD Z2)]) (by simp)).row 1 _ rfl)
      have f0 := cell_regrown ((HX.out.at (B := wF.heap.size) (l := [.int .i64 ar.x, .int .i64 ar.y, .int .i64 ar.w, .int .i64 ar.h]) (by simp)).row 0 _ rfl)
      have f1 := cell_regrown ((HX.out.at (B := wF.heap.size) (l := [.int .i64 ar.x, .int .i64 ar.y, .int .i64 ar.w, .int .i64 ar.h]) (by simp)).row 1 _ rfl)
      have f2 := cell_regrown ((HX.out.at (B := wF.heap.size) (l := [.int .i64 ar.x, .int .i64 ar.y, .int .i64 ar.w, .int .i64 ar.h]) (by simp)).row 2 _ rfl)
      have f3 := cell_regrown ((HX.out.at (B := wF.heap.size) (l := [.int .i64 ar.x, .int .i64 ar.y, .int .i64 ar.w, .int .i64 ar.h]) (by simp)).row 3 _ rfl)
      have cz1 := fun d os => Calls.regrown_of (d := d) (os := os) (KZ1.out (grow (redrawn WH d) os))
      have cc1 := fun d os => Calls.regrown_of (d := d) (os := os) (C1.out (grow (redrawn WH d) os) (HX.out.below (below_regrown WH d os)).bw)
      have cc2 := fun d os => Calls.regrown_of (d := d) (os := os) (C2.out (grow (redrawn WH d) os) (HX.out.below (below_regrown WH d os)).bw)
      have cz0 := fun d os => Calls.regrown_of (d := d) (os := os) (KZ0.out (grow (redrawn WH d) os))
      have cc0 := fun d os => Calls.regrown_of (d := d) (os := os) (C0.out (grow (redrawn WH d) os) (HX.out.below (below_regrown WH d os)).bw)
      have ci := fun d os => Calls.regrown_of (d := d) (os := os) (KI.out (grow (redrawn WH d) os))
      refine wp_region_quiet_below (by kernel_rfl) (by kernel_rfl) ?_
      repeat (go_big_quiet_step (first | with_reducible exact cz1 _ _ | with_reducible exact cc1 _ _ | with_reducible exact cc2 _ _ | with_reducible exact cz0 _ _ | with_reducible exact cc0 _ _ | with_reducible exact ci _ _))
      refine wpQuiet_nil ?_
      intro W1 hw1
      have hb1 : Below WH.heap.size WH W1 := by obtain ⟨⟨dq, osq⟩, hw2⟩ := hw1; rw [hw2]; exact below_regrown WH dq osq
      have HY := Lib.hid (HX.out.below hb1)
      clear hw1 hb1 HX a0 a1 x0 x1 x2 x3 h0 h1 g0 g1 f0 f1 f2 f3 cz1 cc1 cc2 cz0 cc0 ci
      go_wp2
      go_ret
      exact ⟨rfl, HY.out.bw⟩
end Go.Proofs.YtgngepbemgbbeaaGreatDoor

