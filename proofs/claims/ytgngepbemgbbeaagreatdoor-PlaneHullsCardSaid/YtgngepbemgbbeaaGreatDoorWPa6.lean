/-
  Chains of left turns: which they are, what lies on their inner side, and that there is but one. No code of the program is named here.
  Sorting, leaving out equal neighbours, and hulls: a hull depends on which places there are alone, and is its own hull. No code of the program is named here.
  What a hull is: its corners are among the places, no place is outside of an edge, its corners turn left; the hull of a hull is this hull. No code of the program is named here.
  Hulls of lists of places. No code of the program is named here.
  DERIVED: THE SHELF's CONTRACTS AT THIS DUMP, IN PLAIN WORDS (tools/lay-plain.mjs out of 'TryzShelfS.lean', which tools/lay-shelf.mjs wrote): THE SAME DECLARATIONS UNDER THE SAME NAMES: 'import', 'name
  Package plane: the library's sort of places, however many; the order of places as it is called there.
  Package plane: the library's Compact of places, whichever they are.
  Package plane: Hull, of places whichever they are.
  append to a slice of places of the call's own, inside a region that draws its order.
  PlaneSides, walked: the law answers true.
  What the reference makes of integers: rectangles, lists of places; what the law calls at.
  Arguments of the laws of chapter 07 that lie in memory: slices of pairs of integers; rectangles; what lies in places reads behind the call as it did.
  PlaneHulls, walked: the law answers true.
-/
import Derived.Shelf.SlSortCmp.WholeK
import Derived.Lib.SliceRun
import Derived.Deep.RegionLaw
import Derived.Carry
import Derived.Deep.Slices
import Derived.Deep.CutRange
import Derived.Test.YtgngepbemgbbeaaGreatDoorZLimQP
import Derived.Test.YtgngepbemgbbeaaGreatDoorProg
import Derived.Test.YtgngepbemgbbeaaGreatDoorZPq
import Derived.Test.YtgngepbemgbbeaaGreatDoorZPr
import Derived.Test.YtgngepbemgbbeaaGreatDoorZPu
import Derived.Test.YtgngepbemgbbeaaGreatDoorZPw
import Derived.Test.YtgngepbemgbbeaaGreatDoorZQOps
namespace Go.Proofs.YtgngepbemgbbeaaGreatDoor

/-- The place of a place in the order by rows, then by columns. -/
def kp (p : Pl) : Int := p.y * 4096 + p.x
theorem turn_kp (a b c : Pl) : turnP a b c = (kp b - kp a) * (c.y - a.y) - (b.y - a.y) * (kp c - kp a) := by unfold turnP kp; grind
theorem turn_affine (u v a b p : Pl) : (kp b - kp a) * turnP u v p = (kp b - kp p) * turnP u v a + (kp p - kp a) * turnP u v b + (kp v - kp u) * turnP a b p := by unfold turnP kp; grind
theorem turn_aba (a b : Pl) : turnP a b a = 0 := by unfold turnP; grind
theorem turn_abb (a b : Pl) : turnP a b b = 0 := by unfold turnP; grind
theorem turn_aab (a b : Pl) : turnP a a b = 0 := by unfold turnP; grind
/-- How two directions turn. -/
def crE (u v a b : Pl) : Int := (kp v - kp u) * (b.y - a.y) - (v.y - u.y) * (kp b - kp a)
theorem turn_add (u v a b : Pl) : turnP u v b = turnP u v a + crE u v a b := by rw [turn_kp, turn_kp]; unfold crE; grind
theorem crE_add (a b c u v : Pl) : crE a c u v = crE a b u v + crE b c u v := by unfold crE; grind
theorem crE_turn (u v x : Pl) : crE u v v x = turnP u v x := by rw [turn_kp]; unfold crE; grind
theorem crE_trans {a b c d e f : Pl} (h1 : kp a < kp b) (h2 : kp c < kp d) (h3 : kp e < kp f) (k1 : 0 < crE a b c d) (k2 : 0 < crE c d e f) : 0 < crE a b e f := by
  have e1 : (kp d - kp c) * crE a b e f = (kp f - kp e) * crE a b c d + (kp b - kp a) * crE c d e f := by unfold crE; grind
  have p1 := Int.mul_pos (show 0 < kp f - kp e by omega) k1
  have p2 := Int.mul_pos (show 0 < kp b - kp a by omega) k2
  exact Int.pos_of_mul_pos_right (a := kp d - kp c) (by omega) (by omega)
/-- What is above both ends of an edge, and above the edge between them. -/
theorem turn_above {u v a b p : Pl} (hab : kp a < kp b) (huv : kp u < kp v) (h1 : kp a ≤ kp p) (h2 : kp p ≤ kp b) (k1 : 0 ≤ turnP u v a) (k2 : 0 ≤ turnP u v b) (k3 : 0 ≤ turnP a b p) :
    0 ≤ turnP u v p := by
  have e := turn_affine u v a b p
  have p1 := Int.mul_nonneg (show 0 ≤ kp b - kp p by omega) k1
  have p2 := Int.mul_nonneg (show 0 ≤ kp p - kp a by omega) k2
  have p3 := Int.mul_nonneg (show 0 ≤ kp v - kp u by omega) k3
  exact Int.le_of_mul_le_mul_left (a := kp b - kp a) (by omega) (by omega)
/-- .. and where it is on the line. -/
theorem turn_above0 {u v a b p : Pl} (hab : kp a < kp b) (huv : kp u < kp v) (h1 : kp a ≤ kp p) (h2 : kp p ≤ kp b) (k1 : 0 ≤ turnP u v a) (k2 : 0 ≤ turnP u v b) (k3 : 0 ≤ turnP a b p) (k : turnP u v p = 0) :
    (kp p = kp b ∨ turnP u v a = 0) ∧ (kp p = kp a ∨ turnP u v b = 0) := by
  have e := turn_affine u v a b p
  have p1 := Int.mul_nonneg (show 0 ≤ kp b - kp p by omega) k1
  have p2 := Int.mul_nonneg (show 0 ≤ kp p - kp a by omega) k2
  have p3 := Int.mul_nonneg (show 0 ≤ kp v - kp u by omega) k3
  rw [k, Int.mul_zero] at e
  have q1 : (kp b - kp p) * turnP u v a = 0 := by omega
  have q2 : (kp p - kp a) * turnP u v b = 0 := by omega
  rcases Int.mul_eq_zero.1 q1 with q1 | q1 <;> rcases Int.mul_eq_zero.1 q2 with q2 | q2 <;> omega

/-! A chain lies last element first. -/
def edR : List Pl → List (Pl × Pl)
  | b :: a :: l => (a, b) :: edR (a :: l)
  | _ => []
def descL : List Pl → Prop
  | b :: a :: l => kp a < kp b ∧ descL (a :: l)
  | _ => True
def convL : List Pl → Prop
  | c :: b :: a :: l => 0 < turnP a b c ∧ convL (b :: a :: l)
  | _ => True
/-- p is over the chain: in its own interval on the inner side. -/
def covL (p : Pl) : List Pl → Prop
  | b :: a :: l => (kp a ≤ kp p ∧ kp p ≤ kp b ∧ 0 ≤ turnP a b p) ∨ covL p (a :: l)
  | [a] => p = a
  | [] => False
theorem convL_tail {x : Pl} {l : List Pl} (h : convL (x :: l)) : convL l := by
  match l, h with
  | [], _ => trivial
  | [_], _ => trivial
  | _ :: _ :: _, h => exact h.2
theorem descL_tail {x : Pl} {l : List Pl} (h : descL (x :: l)) : descL l := by
  match l, h with
  | [], _ => trivial
  | _ :: _, h => exact h.2
theorem covL_cons {p x : Pl} {l : List Pl} (h : covL p l) : covL p (x :: l) := by
  match l, h with
  | [], h => exact h.elim
  | [_], h => exact .inr h
  | _ :: _ :: _, h => exact .inr h
theorem covL_self (x : Pl) (l : List Pl) (h : ∀ a, l.head? = some a → kp a < kp x) : covL x (x :: l) := by
  match l, h with
  | [], _ => rfl
  | a :: l, h => exact .inl ⟨Int.le_of_lt (h a rfl), Int.le_refl _, by rw [turn_abb]; exact Int.le_refl _⟩
theorem pop_inv (x : Pl) : ∀ r : List Pl, descL r → convL r → (∀ a, r.head? = some a → kp a < kp x) →
    descL (x :: popL leftP x r) ∧ convL (x :: popL leftP x r) ∧ ∀ p, covL p (x :: r) → covL p (x :: popL leftP x r)
  | [], _, _, _ => ⟨trivial, trivial, fun _ h => h⟩
  | [b], _, _, hx => ⟨⟨hx b rfl, trivial⟩, trivial, fun _ h => h⟩
  | b :: a :: l, hd, hc, hx => by
    have hbx := hx b rfl
    have hab := hd.1
    unfold popL
    split
    · rename_i ho
      have ho : 0 < turnP a b x := of_decide_eq_true ho
      exact ⟨⟨hbx, hd⟩, ⟨ho, hc⟩, fun _ h => h⟩
    · rename_i ho
      have ho : turnP a b x ≤ 0 := by
        have : ¬ 0 < turnP a b x := fun h => ho (decide_eq_true h)
        omega
      obtain ⟨h1, h2, h3⟩ := pop_inv x (a :: l) hd.2 (convL_tail hc) (fun c hc => by cases hc; omega)
      refine ⟨h1, h2, fun p hp => h3 p ?_⟩
      have hb : 0 ≤ turnP a x b := by rw [turn_swap2]; omega
      rcases hp with ⟨p1, p2, p3⟩ | hp
      · exact .inl ⟨by omega, p2, turn_above hbx (by omega) p1 p2 hb (by rw [turn_abb]; exact Int.le_refl _) p3⟩
      · rcases hp with ⟨p1, p2, p3⟩ | hp
        · exact .inl ⟨by omega, by omega, turn_above hab (by omega) p1 p2 (by rw [turn_aba]; exact Int.le_refl _) hb p3⟩
        · exact .inr hp
theorem popL_getLast (ok : Pl → Pl → Pl → Bool) (x : Pl) : ∀ r : List Pl, (popL ok x r).getLast? = r.getLast?
  | [] => rfl
  | [_] => rfl
  | b :: a :: l => by
    unfold popL
    split
    · rfl
    · rw [popL_getLast ok x (a :: l)]; simp
theorem popL_sub (ok : Pl → Pl → Pl → Bool) (x : Pl) : ∀ (r : List Pl) (q : Pl), q ∈ popL ok x r → q ∈ r
  | [], _, h => h
  | [_], _, h => h
  | b :: a :: l, q, h => by
    unfold popL at h
    split at h
    · exact h
    · exact List.mem_cons_of_mem _ (popL_sub ok x (a :: l) q h)
/-- The chain goes on. -/
def chainF (ok : Pl → Pl → Pl → Bool) (r l : List Pl) : List Pl := l.foldl (fun out x => x :: popL ok x out) r
theorem chainF_inv : ∀ (l r done : List Pl), descL r → convL r → (∀ p ∈ done, covL p r) → (∀ x ∈ l, ∀ a, r.head? = some a → kp a < kp x) → l.Pairwise (kp · < kp ·) →
    descL (chainF leftP r l) ∧ convL (chainF leftP r l) ∧ ∀ p, p ∈ done ∨ p ∈ l → covL p (chainF leftP r l)
  | [], r, done, hd, hc, hv, _, _ => ⟨hd, hc, fun p hp => by rcases hp with hp | hp; exact hv p hp; cases hp⟩
  | x :: l, r, done, hd, hc, hv, hx, hp => by
    obtain ⟨h1, h2, h3⟩ := pop_inv x r hd hc (hx x (by simp))
    obtain ⟨g1, g2, g3⟩ := chainF_inv l (x :: popL leftP x r) (x :: done) h1 h2 (fun p hp => by
      rcases List.mem_cons.1 hp with rfl | hp
      · exact h3 p (covL_self p r (hx p (by simp)))
      · exact h3 p (covL_cons (hv p hp))) (fun y hy a ha => by cases ha; exact (List.pairwise_cons.1 hp).1 y hy) (List.pairwise_cons.1 hp).2
    refine ⟨g1, g2, fun p hp => g3 p ?_⟩
    rcases hp with hp | hp
    · exact .inl (List.mem_cons_of_mem _ hp)
    · rcases List.mem_cons.1 hp with rfl | hp
      · exact .inl (by simp)
      · exact .inr hp
theorem chainF_sub (ok : Pl → Pl → Pl → Bool) : ∀ (l r : List Pl) (q : Pl), q ∈ chainF ok r l → q ∈ r ∨ q ∈ l
  | [], _, _, h => .inl h
  | x :: l, r, q, h => by
    rcases chainF_sub ok l (x :: popL ok x r) q h with h | h
    · rcases List.mem_cons.1 h with rfl | h
      · exact .inr (by simp)
      · exact .inl (popL_sub ok x r q h)
    · exact .inr (by simp [h])
theorem chainF_last (ok : Pl → Pl → Pl → Bool) : ∀ (l r : List Pl) (a : Pl), r.getLast? = some a → (chainF ok r l).getLast? = some a
  | [], _, _, h => h
  | x :: l, r, a, h => by
    refine chainF_last ok l (x :: popL ok x r) a ?_
    rw [← popL_getLast ok x r] at h
    cases hr : popL ok x r with
    | nil => rw [hr] at h; cases h
    | cons b t => rw [hr] at h; rw [List.getLast?_cons_cons]; exact h
theorem chainF_head (ok : Pl → Pl → Pl → Bool) : ∀ (l r : List Pl), (chainF ok r l).head? = (r.reverse ++ l).getLast?
  | [], r => by show r.head? = _; simp
  | x :: l, r => by
    show (chainF ok (x :: popL ok x r) l).head? = _
    rw [chainF_head ok l]
    simp [List.getLast?_cons]
theorem edR_mem : ∀ (r : List Pl) (e : Pl × Pl), e ∈ edR r → e.1 ∈ r ∧ e.2 ∈ r
  | [], _, h => by cases h
  | [_], _, h => by cases h
  | b :: a :: l, e, h => by
    rcases List.mem_cons.1 h with rfl | h
    · simp
    · have := edR_mem (a :: l) e h
      exact ⟨List.mem_cons_of_mem _ this.1, List.mem_cons_of_mem _ this.2⟩
theorem edR_lt : ∀ (r : List Pl), descL r → ∀ e ∈ edR r, kp e.1 < kp e.2
  | [], _, _, h => by cases h
  | [_], _, _, h => by cases h
  | b :: a :: l, hd, e, h => by
    rcases List.mem_cons.1 h with rfl | h
    · exact hd.1
    · exact edR_lt (a :: l) hd.2 e h
/-- All edges turn the same way, however far they are from each other. -/
def goodL : List Pl → Prop
  | x :: h :: l => kp h < kp x ∧ (∀ e ∈ edR (h :: l), 0 < crE e.1 e.2 h x) ∧ goodL (h :: l)
  | _ => True
theorem good_of : ∀ r : List Pl, descL r → convL r → goodL r
  | [], _, _ => trivial
  | [_], _, _ => trivial
  | [_, _], hd, _ => ⟨hd.1, (fun _ h => by cases h), trivial⟩
  | x :: h :: g :: l, hd, hc => by
    have ih := good_of (h :: g :: l) hd.2 hc.2
    have e1 : 0 < crE g h h x := by rw [crE_turn]; exact hc.1
    refine ⟨hd.1, fun e he => ?_, ih⟩
    rcases List.mem_cons.1 he with rfl | he
    · exact e1
    · exact crE_trans (edR_lt (g :: l) hd.2.2 e he) hd.2.1 hd.1 (ih.2.1 e he) e1
theorem cr_path (u v : Pl) : ∀ (l : List Pl) (h : Pl), (∀ e ∈ edR (h :: l), 0 < crE e.1 e.2 u v) → ∀ c ∈ l, 0 < crE c h u v
  | [], _, _, _, hc => by cases hc
  | g :: l, h, hE, c, hc => by
    have h1 := hE (g, h) (by simp [edR])
    rcases List.mem_cons.1 hc with rfl | hc
    · exact h1
    · have h2 := cr_path u v l g (fun e he => hE e (by simp [edR, he])) c hc
      rw [crE_add c g h u v]
      simp only at h1
      omega
theorem good_edge : ∀ r : List Pl, goodL r → ∀ e ∈ edR r, ∀ c ∈ r, c = e.1 ∨ c = e.2 ∨ 0 < turnP e.1 e.2 c
  | [], _, _, h, _, _ => by cases h
  | [_], _, _, h, _, _ => by cases h
  | x :: h :: l, hg, e, he, c, hc => by
    obtain ⟨h1, h2, h3⟩ := hg
    rcases List.mem_cons.1 he with rfl | he2
    · rcases List.mem_cons.1 hc with rfl | hc
      · exact .inr (.inl rfl)
      · rcases List.mem_cons.1 hc with rfl | hc
        · exact .inl rfl
        · have := cr_path h x l h h2 c hc
          rw [crE_turn, ← turn_cyc] at this
          exact .inr (.inr this)
    · rcases List.mem_cons.1 hc with rfl | hc2
      · refine .inr (.inr ?_)
        rw [turn_add e.1 e.2 h c]
        have k := h2 e he2
        rcases good_edge (h :: l) h3 e he2 h (by simp) with q | q | q
        · have := turn_aba e.1 e.2
          rw [← q] at this
          rw [← q] at k ⊢
          omega
        · have := turn_abb e.1 e.2
          rw [← q] at this
          rw [← q] at k ⊢
          omega
        · omega
      · exact good_edge (h :: l) h3 e he2 c hc2
theorem good_edge0 {r : List Pl} (hg : goodL r) {e : Pl × Pl} (he : e ∈ edR r) {c : Pl} (hc : c ∈ r) : 0 ≤ turnP e.1 e.2 c := by
  rcases good_edge r hg e he c hc with h | h | h
  · rw [h, turn_aba]; exact Int.le_refl _
  · rw [h, turn_abb]; exact Int.le_refl _
  · omega
theorem cov_edge (p : Pl) : ∀ r : List Pl, descL r → covL p r → r = [p] ∨ ∃ e ∈ edR r, kp e.1 ≤ kp p ∧ kp p ≤ kp e.2 ∧ 0 ≤ turnP e.1 e.2 p
  | [], _, h => h.elim
  | [a], _, h => .inl (by rw [show p = a from h])
  | b :: a :: l, hd, h => by
    rcases h with h | h
    · exact .inr ⟨(a, b), by simp [edR], h⟩
    · rcases cov_edge p (a :: l) hd.2 h with h | ⟨e, he, h⟩
      · injection h with h1 h2
        subst h1
        exact .inr ⟨(a, b), by simp [edR], Int.le_refl _, Int.le_of_lt hd.1, by rw [turn_aba]; exact Int.le_refl _⟩
      · exact .inr ⟨e, by simp [edR, he], h⟩
/-- All of s lies on the inner side of each edge, and what lies on its line lies between its ends. -/
def DomL (r s : List Pl) : Prop := ∀ e ∈ edR r, ∀ p ∈ s, 0 < turnP e.1 e.2 p ∨ (turnP e.1 e.2 p = 0 ∧ kp e.1 ≤ kp p ∧ kp p ≤ kp e.2)
theorem cov_dom {r : List Pl} {p : Pl} (hd : descL r) (hg : goodL r) (hc : covL p r) {e : Pl × Pl} (he : e ∈ edR r) : 0 < turnP e.1 e.2 p ∨ (turnP e.1 e.2 p = 0 ∧ kp e.1 ≤ kp p ∧ kp p ≤ kp e.2) := by
  rcases cov_edge p r hd hc with rfl | ⟨⟨a, b⟩, hf, h1, h2, h3⟩
  · cases he
  · simp only at h1 h2 h3
    have hab := edR_lt r hd _ hf
    have huv := edR_lt r hd _ he
    obtain ⟨ma, mb⟩ := edR_mem r _ hf
    simp only at hab ma mb
    have ka := good_edge0 hg he ma
    have kb := good_edge0 hg he mb
    have h0 := turn_above hab huv h1 h2 ka kb h3
    rcases Int.lt_or_eq_of_le h0 with h | h
    · exact .inl h
    · have hz : turnP e.1 e.2 p = 0 := h.symm
      refine .inr ⟨hz, ?_⟩
      obtain ⟨q1, q2⟩ := turn_above0 hab huv h1 h2 ka kb h3 hz
      have ea := good_edge r hg e he a ma
      have eb := good_edge r hg e he b mb
      have ra : turnP e.1 e.2 a = 0 → kp e.1 ≤ kp a ∧ kp a ≤ kp e.2 := fun hz => by
        rcases ea with q | q | q
        · rw [q]; omega
        · rw [q]; omega
        · omega
      have rb : turnP e.1 e.2 b = 0 → kp e.1 ≤ kp b ∧ kp b ≤ kp e.2 := fun hz => by
        rcases eb with q | q | q
        · rw [q]; omega
        · rw [q]; omega
        · omega
      rcases q1 with q1 | q1 <;> rcases q2 with q2 | q2
      · omega
      · have := rb q2; omega
      · have := ra q1; omega
      · have := ra q1; have := rb q2; omega
theorem chainR_F (ok : Pl → Pl → Pl → Bool) (l : List Pl) : chainR ok l = chainF ok [] l := rfl
/-- What the chain of an ascending list is. -/
structure ChainOf (r s : List Pl) : Prop where
  desc : descL r
  good : goodL r
  dom : DomL r s
  sub : ∀ q ∈ r, q ∈ s
  head : r.head? = s.getLast?
  last : r.getLast? = s.head?
theorem chain_of (l : List Pl) (hs : l.Pairwise (kp · < kp ·)) : ChainOf (chainR leftP l) l := by
  rw [chainR_F]
  obtain ⟨h1, h2, h3⟩ := chainF_inv l [] [] trivial trivial (fun _ h => by cases h) (fun _ _ _ h => by cases h) hs
  have hg := good_of _ h1 h2
  refine ⟨h1, hg, fun e he p hp => cov_dom h1 hg (h3 p (.inr hp)) he, fun q hq => ?_, by rw [chainF_head]; rfl, ?_⟩
  · rcases chainF_sub leftP l [] q hq with h | h
    · cases h
    · exact h
  · cases l with
    | nil => rfl
    | cons x l => exact chainF_last leftP l [x] x rfl
theorem desc_head : ∀ (l : List Pl) (x : Pl), descL (x :: l) → ∀ y ∈ l, kp y < kp x
  | [], _, _, _, h => by cases h
  | z :: l, x, hd, y, h => by
    rcases List.mem_cons.1 h with rfl | h
    · exact hd.1
    · have := desc_head l z hd.2 y h
      have := hd.1
      omega
theorem DomL.tail {x : Pl} {l s s' : List Pl} (h : DomL (x :: l) s) (hs : ∀ q ∈ s', q ∈ s) : DomL l s' := fun e he p hp => h e (by
  cases l with
  | nil => cases he
  | cons _ l => exact List.mem_cons_of_mem _ he) p (hs p hp)
/-- Two chains with the same ends that lie on each other's inner sides are one. -/
theorem chain_uniq : ∀ r r' : List Pl, descL r → descL r' → r.head? = r'.head? → r.getLast? = r'.getLast? → DomL r r' → DomL r' r → (∀ a ∈ r, ∀ b ∈ r', kp a = kp b → a = b) → r = r'
  | [], [], _, _, _, _, _, _, _ => rfl
  | [], _ :: _, _, _, h, _, _, _, _ => by cases h
  | _ :: _, [], _, _, h, _, _, _, _ => by cases h
  | [x], [y], _, _, h, _, _, _, _ => by cases h; rfl
  | [x], y :: z :: l, _, hd, h, hl, _, _, _ => by
    cases h
    rw [List.getLast?_cons_cons] at hl
    have hm : x ∈ z :: l := List.mem_of_getLast? hl.symm
    have := desc_head _ _ hd x hm
    omega
  | y :: z :: l, [x], hd, _, h, hl, _, _, _ => by
    cases h
    rw [List.getLast?_cons_cons] at hl
    have hm : y ∈ z :: l := List.mem_of_getLast? hl
    have := desc_head _ _ hd y hm
    omega
  | x :: h :: l, x' :: h' :: l', hd, hd', hh, hl, h1, h2, hi => by
    cases hh
    have k1 := h1 (h, x) (by simp [edR]) h' (by simp)
    have k2 := h2 (h', x) (by simp [edR]) h (by simp)
    simp only at k1 k2
    have e : turnP h' x h = -turnP h x h' := by unfold turnP; grind
    rw [e] at k2
    have heq : h = h' := hi h (by simp) h' (by simp) (by omega)
    subst heq
    rw [List.getLast?_cons_cons, List.getLast?_cons_cons] at hl
    rw [chain_uniq (h :: l) (h :: l') hd.2 hd'.2 rfl hl (fun e he p hp => h1 e (by simp [edR, he]) p (List.mem_cons_of_mem _ hp)) (fun e he p hp => h2 e (by simp [edR, he]) p (List.mem_cons_of_mem _ hp)) (fun a ha b hb => hi a (List.mem_cons_of_mem _ ha) b (List.mem_cons_of_mem _ hb))]
/-! The way back: all of it turned around. -/
def ngP (p : Pl) : Pl := ⟨-p.x, -p.y⟩
theorem kp_ng (p : Pl) : kp (ngP p) = -kp p := by unfold kp ngP; simp only; omega
theorem turn_ng (a b c : Pl) : turnP (ngP a) (ngP b) (ngP c) = turnP a b c := by unfold turnP ngP; grind
theorem ng_ng (p : Pl) : ngP (ngP p) = p := by unfold ngP; simp
theorem left_ng (a b c : Pl) : leftP (ngP a) (ngP b) (ngP c) = leftP a b c := by unfold leftP; rw [turn_ng]
theorem popL_ng (x : Pl) : ∀ r : List Pl, popL leftP (ngP x) (r.map ngP) = (popL leftP x r).map ngP
  | [] => rfl
  | [_] => rfl
  | b :: a :: l => by
    show popL leftP (ngP x) (ngP b :: ngP a :: l.map ngP) = _
    unfold popL
    rw [left_ng]
    split
    · rfl
    · exact popL_ng x (a :: l)
theorem chainF_ng : ∀ l r : List Pl, chainF leftP (r.map ngP) (l.map ngP) = (chainF leftP r l).map ngP
  | [], _ => rfl
  | x :: l, r => by
    show chainF leftP (ngP x :: popL leftP (ngP x) (r.map ngP)) (l.map ngP) = _
    rw [popL_ng]
    exact chainF_ng l (x :: popL leftP x r)
theorem chainR_ng (l : List Pl) : chainR leftP (l.map ngP) = (chainR leftP l).map ngP := chainF_ng l []
theorem edR_map (f : Pl → Pl) : ∀ r : List Pl, edR (r.map f) = (edR r).map fun e => (f e.1, f e.2)
  | [] => rfl
  | [_] => rfl
  | b :: a :: l => by
    show (f a, f b) :: edR ((a :: l).map f) = _
    rw [edR_map f (a :: l)]
    rfl
end Go.Proofs.YtgngepbemgbbeaaGreatDoor

namespace Go.Proofs.YtgngepbemgbbeaaGreatDoor

section
variable {α : Type} [Inhabited α] (lt : α → α → Bool)
def insR (x : α) : List α → List α
  | [] => [x]
  | b :: r => if lt x b then b :: insR x r else x :: b :: r
theorem swpN_at (p post : List α) (b x : α) : swpN (p ++ b :: x :: post) p.length = p ++ x :: b :: post := by
  unfold swpN
  simp
theorem innerN_at (x : α) : ∀ (r post : List α), innerN lt (r.reverse ++ x :: post) r.length = (insR lt x r).reverse ++ post
  | [], _ => rfl
  | b :: r, post => by
    have e : (b :: r).reverse ++ x :: post = r.reverse ++ b :: x :: post := by simp
    have h1 : (r.reverse ++ b :: x :: post)[r.length + 1]?.getD default = x := by simp
    have h0 : (r.reverse ++ b :: x :: post)[r.length]?.getD default = b := by simp
    rw [e]
    show innerN lt _ (r.length + 1) = _
    unfold innerN insR
    rw [h1, h0]
    split
    · have hs := swpN_at r.reverse post b x
      rw [List.length_reverse] at hs
      rw [hs, innerN_at x r (b :: post)]
      simp
    · simp
theorem outN_at : ∀ (rest r : List α), outN lt (r.reverse ++ rest) r.length rest.length = (rest.foldl (fun r x => insR lt x r) r).reverse
  | [], r => by simp [outN]
  | x :: rest, r => by
    show outN lt (innerN lt (r.reverse ++ x :: rest) r.length) (r.length + 1) rest.length = _
    rw [innerN_at]
    have hl : (insR lt x r).length = r.length + 1 := by
      have := innerN_length lt (r.reverse ++ x :: rest) r.length
      rw [innerN_at] at this
      simp at this
      omega
    rw [← hl, outN_at rest (insR lt x r)]
    rfl
theorem sortN_at (a : α) (l : List α) : sortN lt (a :: l) = (l.foldl (fun r x => insR lt x r) [a]).reverse := by
  unfold sortN
  exact outN_at lt l [a]
omit [Inhabited α] in
theorem insR_perm (x : α) : ∀ r : List α, (insR lt x r).Perm (x :: r)
  | [] => .refl _
  | b :: r => by
    unfold insR
    split
    · exact (List.Perm.cons b (insR_perm x r)).trans (.swap x b r)
    · exact .refl _
variable {lt} (hirr : ∀ x y, lt x y = true → lt y x = false) (hnt : ∀ x y z, lt x y = false → lt y z = false → lt x z = false)
include hirr hnt
omit [Inhabited α] in
theorem insR_sorted (x : α) : ∀ r : List α, r.Pairwise (fun a b => lt a b = false) → (insR lt x r).Pairwise (fun a b => lt a b = false)
  | [], _ => by simp [insR]
  | b :: r, h => by
    obtain ⟨h1, h2⟩ := List.pairwise_cons.1 h
    unfold insR
    split
    · rename_i hx
      refine List.pairwise_cons.2 ⟨fun y hy => ?_, insR_sorted x r h2⟩
      rcases List.mem_cons.1 ((insR_perm lt x r).mem_iff.1 hy) with rfl | hy
      · exact hirr _ _ hx
      · exact h1 y hy
    · rename_i hx
      have hx : lt x b = false := by simpa using hx
      refine List.pairwise_cons.2 ⟨fun y hy => ?_, h⟩
      rcases List.mem_cons.1 hy with rfl | hy
      · exact hx
      · exact hnt _ _ _ hx (h1 y hy)
omit [Inhabited α] in
theorem fold_sorted : ∀ l r : List α, r.Pairwise (fun a b => lt a b = false) → (l.foldl (fun r x => insR lt x r) r).Pairwise (fun a b => lt a b = false) ∧ (l.foldl (fun r x => insR lt x r) r).Perm (l ++ r)
  | [], r, h => ⟨h, .refl _⟩
  | x :: l, r, h => by
    obtain ⟨h1, h2⟩ := fold_sorted l (insR lt x r) (insR_sorted hirr hnt x r h)
    refine ⟨h1, h2.trans ?_⟩
    exact ((List.Perm.append_left l (insR_perm lt x r)).trans List.perm_middle)
theorem sortN_sorted (l : List α) : (sortN lt l).Pairwise (fun a b => lt b a = false) ∧ (sortN lt l).Perm l := by
  cases l with
  | nil => exact ⟨by simp [sortN, outN], by simp [sortN, outN]⟩
  | cons a l =>
    rw [sortN_at]
    obtain ⟨h1, h2⟩ := fold_sorted hirr hnt l [a] (by simp)
    refine ⟨List.pairwise_reverse.2 h1, (List.reverse_perm _).trans (h2.trans ?_)⟩
    exact List.perm_append_comm.trans (.refl _)
end

theorem ltP_iff {a b : Pl} (ha : vP a = true) (hb : vP b = true) : ltP a b = true ↔ kp a < kp b := by
  unfold vP at ha hb
  simp only [Bool.and_eq_true, decide_eq_true_eq] at ha hb
  unfold ltP kp
  simp only [Bool.or_eq_true, Bool.and_eq_true, decide_eq_true_eq]
  omega
theorem kp_inj {a b : Pl} (ha : vP a = true) (hb : vP b = true) (h : kp a = kp b) : a = b := by
  unfold vP at ha hb
  simp only [Bool.and_eq_true, decide_eq_true_eq] at ha hb
  unfold kp at h
  have h1 : a.x = b.x := by omega
  have h2 : a.y = b.y := by omega
  cases a
  cases b
  simp only at h1 h2
  rw [h1, h2]
theorem ltP_irr (x y : Pl) (h : ltP x y = true) : ltP y x = false := by
  unfold ltP at *
  simp only [Bool.or_eq_true, Bool.and_eq_true, decide_eq_true_eq, Bool.or_eq_false_iff, Bool.and_eq_false_iff, decide_eq_false_iff_not] at *
  omega
theorem ltP_nt (x y z : Pl) (h : ltP x y = false) (k : ltP y z = false) : ltP x z = false := by
  unfold ltP at *
  simp only [Bool.or_eq_false_iff, Bool.and_eq_false_iff, decide_eq_false_iff_not] at *
  omega
abbrev Asc (l : List Pl) : Prop := l.Pairwise (kp · < kp ·)
theorem compactL_asc : ∀ l : List Pl, (∀ p ∈ l, vP p = true) → l.Pairwise (kp · ≤ kp ·) → Asc (compactL l) ∧ ∀ q, q ∈ compactL l ↔ q ∈ l
  | [], _, _ => ⟨List.Pairwise.nil, fun _ => Iff.rfl⟩
  | [x], _, _ => ⟨by simp [compactL], fun _ => Iff.rfl⟩
  | x :: y :: l, hv, h => by
    obtain ⟨h1, h2⟩ := List.pairwise_cons.1 h
    obtain ⟨k1, k2⟩ := compactL_asc (y :: l) (fun p hp => hv p (List.mem_cons_of_mem _ hp)) h2
    unfold compactL
    split
    · rename_i hxy
      subst hxy
      exact ⟨k1, fun q => (k2 q).trans (by simp)⟩
    · rename_i hxy
      refine ⟨List.pairwise_cons.2 ⟨fun q hq => ?_, k1⟩, fun q => by rw [List.mem_cons, k2 q]; exact List.mem_cons.symm⟩
      have hlt : kp x < kp y := by
        have := h1 y (by simp)
        rcases Int.lt_or_eq_of_le this with h | h
        · exact h
        · exact absurd (kp_inj (hv x (by simp)) (hv y (by simp)) h) hxy
      rcases List.mem_cons.1 ((k2 q).1 hq) with rfl | hq
      · exact hlt
      · have := (List.pairwise_cons.1 h2).1 q hq
        omega
/-- The places in order, each once. -/
def sP (l : List Pl) : List Pl := compactL (sortN ltP l)
theorem sP_asc {l : List Pl} (hv : ∀ p ∈ l, vP p = true) : Asc (sP l) ∧ ∀ q, q ∈ sP l ↔ q ∈ l := by
  obtain ⟨h1, h2⟩ := sortN_sorted (lt := ltP) ltP_irr ltP_nt l
  have hv' : ∀ p ∈ sortN ltP l, vP p = true := fun p hp => hv p (h2.mem_iff.1 hp)
  obtain ⟨k1, k2⟩ := compactL_asc (sortN ltP l) hv' (h1.imp_of_mem fun {a b} ha hb hab => by
    have : ¬ kp b < kp a := fun h => by
      rw [(ltP_iff (hv' b hb) (hv' a ha)).2 h] at hab
      cases hab
    omega)
  exact ⟨k1, fun q => (k2 q).trans h2.mem_iff⟩
/-- Ascending lists of the same places are one. -/
theorem asc_uniq : ∀ l l' : List Pl, Asc l → Asc l' → (∀ q, q ∈ l ↔ q ∈ l') → l = l'
  | [], [], _, _, _ => rfl
  | [], y :: _, _, _, h => by have := (h y).2 (by simp); cases this
  | x :: _, [], _, _, h => by have := (h x).1 (by simp); cases this
  | x :: l, y :: l', h1, h2, h => by
    obtain ⟨a1, a2⟩ := List.pairwise_cons.1 h1
    obtain ⟨b1, b2⟩ := List.pairwise_cons.1 h2
    have hxy : x = y := by
      rcases List.mem_cons.1 ((h x).1 (by simp)) with e | hx
      · exact e
      · rcases List.mem_cons.1 ((h y).2 (by simp)) with e | hy
        · exact e.symm
        · have := a1 y hy
          have := b1 x hx
          omega
    subst hxy
    rw [asc_uniq l l' a2 b2 fun q => ⟨fun hq => by
      rcases List.mem_cons.1 ((h q).1 (List.mem_cons_of_mem _ hq)) with rfl | h'
      · have := a1 q hq; omega
      · exact h', fun hq => by
      rcases List.mem_cons.1 ((h q).2 (List.mem_cons_of_mem _ hq)) with rfl | h'
      · have := b1 q hq; omega
      · exact h'⟩]
/-- A sorted list with equal neighbours left out: whichever way it was sorted. -/
theorem sP_of {l t : List Pl} (hv : ∀ p ∈ l, vP p = true) (hm : ∀ q, q ∈ t ↔ q ∈ l) (hs : t.Pairwise (fun a b => ltP b a = false)) : compactL t = sP l := by
  have hv' : ∀ p ∈ t, vP p = true := fun p hp => hv p ((hm p).1 hp)
  obtain ⟨k1, k2⟩ := compactL_asc t hv' (hs.imp_of_mem fun {a b} ha hb hab => by
    have : ¬ kp b < kp a := fun h => by
      rw [(ltP_iff (hv' b hb) (hv' a ha)).2 h] at hab
      cases hab
    omega)
  obtain ⟨j1, j2⟩ := sP_asc hv
  exact asc_uniq _ _ k1 j1 fun q => ((k2 q).trans (hm q)).trans (j2 q).symm
theorem sP_same {l l' : List Pl} (hv : ∀ p ∈ l, vP p = true) (h : ∀ q, q ∈ l' ↔ q ∈ l) : sP l' = sP l := by
  obtain ⟨j1, j2⟩ := sP_asc hv
  obtain ⟨k1, k2⟩ := sP_asc (l := l') (fun p hp => hv p ((h p).1 hp))
  exact asc_uniq _ _ k1 j1 fun q => ((k2 q).trans (h q)).trans (j2 q).symm
theorem asc_self {l : List Pl} (hv : ∀ p ∈ l, vP p = true) (h : Asc l) : sP l = l := by
  obtain ⟨j1, j2⟩ := sP_asc hv
  exact asc_uniq _ _ j1 h j2
theorem hullL_sP (l : List Pl) : hullL l = if (sP l).length < 3 then sP l else (chainL leftP (sP l)).dropLast ++ (chainL leftP (sP l).reverse).dropLast := rfl
theorem hullL_two {l : List Pl} (h : 2 ≤ (sP l).length) : hullL l = (chainL leftP (sP l)).dropLast ++ (chainL leftP (sP l).reverse).dropLast := by
  rw [hullL_sP]
  by_cases h3 : (sP l).length < 3
  · rw [if_pos h3]
    match hs : sP l, h, h3 with
    | [], h, _ => simp at h
    | [_], h, _ => simp at h
    | [a, b], _, _ => rfl
    | _ :: _ :: _ :: _, _, h => simp at h; omega
  · rw [if_neg h3]
/-- The hull hangs on which places there are, and on nothing else. -/
theorem hullL_same {l l' : List Pl} (hv : ∀ p ∈ l, vP p = true) (h : ∀ q, q ∈ l' ↔ q ∈ l) : hullL l' = hullL l := by rw [hullL_sP, hullL_sP, sP_same hv h]
end Go.Proofs.YtgngepbemgbbeaaGreatDoor

namespace Go.Proofs.YtgngepbemgbbeaaGreatDoor

theorem asc_head : ∀ {s : List Pl} {m : Pl}, Asc s → s.head? = some m → ∀ p ∈ s, kp m ≤ kp p
  | x :: s, m, h, hm, p, hp => by
    cases hm
    rcases List.mem_cons.1 hp with rfl | hp
    · exact Int.le_refl _
    · exact Int.le_of_lt ((List.pairwise_cons.1 h).1 p hp)
theorem asc_last {s : List Pl} {m : Pl} (h : Asc s) (hm : s.getLast? = some m) : ∀ p ∈ s, kp p ≤ kp m := by
  rcases List.eq_nil_or_concat s with rfl | ⟨k, x, rfl⟩
  · cases hm
  · rw [List.concat_eq_append, List.getLast?_append] at hm
    cases hm
    intro p hp
    rw [List.concat_eq_append] at hp h
    rcases List.mem_append.1 hp with hp | hp
    · exact Int.le_of_lt ((List.pairwise_append.1 h).2.2 p hp _ (by simp))
    · rw [List.mem_singleton.1 hp]; exact Int.le_refl _
theorem edR_pred : ∀ (r : List Pl) (c : Pl), c ∈ r → r.getLast? ≠ some c → ∃ a, (a, c) ∈ edR r
  | [], _, h, _ => by cases h
  | [x], c, h, hl => by
    rcases List.mem_cons.1 h with rfl | h
    · exact absurd rfl hl
    · cases h
  | b :: a :: l, c, h, hl => by
    rcases List.mem_cons.1 h with rfl | h
    · exact ⟨a, by simp [edR]⟩
    · rw [List.getLast?_cons_cons] at hl
      obtain ⟨d, hd⟩ := edR_pred (a :: l) c h hl
      exact ⟨d, by simp [edR, hd]⟩
theorem asc_ng {s : List Pl} (h : Asc s) : Asc (s.map ngP).reverse := by
  refine List.pairwise_reverse.2 (List.pairwise_map.2 (h.imp ?_))
  intro a b hab
  rw [kp_ng, kp_ng]
  omega
theorem map_ng_ng (s : List Pl) : (s.map ngP).map ngP = s := by
  rw [List.map_map]
  conv => rhs; rw [← List.map_id s]
  exact List.map_congr_left fun p _ => ng_ng p
/-- The chain down of s, and the one up. -/
structure Pair (r r' s : List Pl) : Prop where
  asc : Asc s
  one : ChainOf r s
  two : ChainOf (r'.map ngP) (s.map ngP).reverse
theorem pair_of {s : List Pl} (h : Asc s) : Pair (chainR leftP s) (chainR leftP s.reverse) s := by
  refine ⟨h, chain_of s h, ?_⟩
  rw [← chainR_ng, List.map_reverse]
  exact chain_of _ (asc_ng h)
theorem Pair.sym {r r' s : List Pl} (h : Pair r r' s) : Pair (r'.map ngP) (r.map ngP) (s.map ngP).reverse := by
  refine ⟨asc_ng h.asc, h.two, ?_⟩
  rw [map_ng_ng, List.map_reverse, map_ng_ng, List.reverse_reverse]
  exact h.one
theorem up_mem {r' : List Pl} {e : Pl × Pl} (he : e ∈ edR r') : (ngP e.1, ngP e.2) ∈ edR (r'.map ngP) := by
  rw [edR_map]
  exact List.mem_map_of_mem he
section
variable {r r' s : List Pl} (h : Pair r r' s)
include h
theorem Pair.up_lt {e : Pl × Pl} (he : e ∈ edR r') : kp e.2 < kp e.1 := by
  have := edR_lt _ h.two.desc _ (up_mem he)
  simp only [kp_ng] at this
  omega
theorem Pair.up_dom {e : Pl × Pl} (he : e ∈ edR r') {p : Pl} (hp : p ∈ s) : 0 < turnP e.1 e.2 p ∨ (turnP e.1 e.2 p = 0 ∧ kp e.2 ≤ kp p ∧ kp p ≤ kp e.1) := by
  have := h.two.dom _ (up_mem he) (ngP p) (List.mem_reverse.2 (List.mem_map_of_mem hp))
  simp only [kp_ng, turn_ng] at this
  omega
theorem Pair.up_sub {q : Pl} (hq : q ∈ r') : q ∈ s := by
  have := List.mem_reverse.1 (h.two.sub (ngP q) (List.mem_map_of_mem hq))
  obtain ⟨p, hp, e⟩ := List.mem_map.1 this
  have e2 := congrArg ngP e
  rw [ng_ng, ng_ng] at e2
  rwa [← e2]
theorem Pair.up_good {e : Pl × Pl} (he : e ∈ edR r') {c : Pl} (hc : c ∈ r') : c = e.1 ∨ c = e.2 ∨ 0 < turnP e.1 e.2 c := by
  have := good_edge _ h.two.good _ (up_mem he) (ngP c) (List.mem_map_of_mem hc)
  simp only [turn_ng] at this
  rcases this with q | q | q
  · exact .inl (by rw [← ng_ng c, q, ng_ng])
  · exact .inr (.inl (by rw [← ng_ng c, q, ng_ng]))
  · exact .inr (.inr q)
theorem Pair.up_head : r'.head? = s.head? := by
  have := h.two.head
  rw [List.getLast?_reverse, List.head?_map, List.head?_map] at this
  cases hr : r'.head? <;> cases hs : s.head? <;> rw [hr, hs] at this <;> simp at this ⊢
  have := congrArg ngP this
  rwa [ng_ng, ng_ng] at this
theorem Pair.up_last : r'.getLast? = s.getLast? := by
  have := h.two.last
  rw [List.head?_reverse, List.getLast?_map, List.getLast?_map] at this
  cases hr : r'.getLast? <;> cases hs : s.getLast? <;> rw [hr, hs] at this <;> simp at this ⊢
  have := congrArg ngP this
  rwa [ng_ng, ng_ng] at this
/-- No corner of the chain up lies on an edge of the chain down, but at its ends. -/
theorem Pair.cross (hv : ∀ p ∈ s, ∀ q ∈ s, kp p = kp q → p = q) {e : Pl × Pl} (he : e ∈ edR r) {c : Pl} (hc : c ∈ r') : c = e.1 ∨ c = e.2 ∨ 0 < turnP e.1 e.2 c := by
  have hcs := h.up_sub hc
  have hm := edR_mem r e he
  have m1 := h.one.sub _ hm.1
  have m2 := h.one.sub _ hm.2
  rcases h.one.dom e he c hcs with k | ⟨k, k1, k2⟩
  · exact .inr (.inr k)
  · by_cases e1 : c = e.1
    · exact .inl e1
    by_cases e2 : c = e.2
    · exact .inr (.inl e2)
    exfalso
    have n1 : kp e.1 ≠ kp c := fun x => e1 (hv _ m1 _ hcs x).symm
    have n2 : kp c ≠ kp e.2 := fun x => e2 (hv _ hcs _ m2 x)
    have hl : r'.getLast? ≠ some c := fun x => by
      rw [h.up_last] at x
      have := asc_last h.asc x _ m2
      omega
    obtain ⟨a, ha⟩ := edR_pred r' c hc hl
    have q1 := h.up_dom ha m1
    have q2 := h.up_dom ha m2
    have q3 := h.up_lt ha
    simp only at q1 q2 q3
    have id := turn_affine a c e.1 e.2 c
    rw [turn_abb, k] at id
    have p1 := Int.mul_pos (show 0 < kp e.2 - kp c by omega) (show 0 < turnP a c e.1 by omega)
    have p2 := Int.mul_nonneg (show 0 ≤ kp c - kp e.1 by omega) (show 0 ≤ turnP a c e.2 by omega)
    omega
/-- A corner of both chains is an end of both. -/
theorem Pair.apart {c : Pl} (hc : c ∈ r) (hc' : c ∈ r') (h1 : r.getLast? ≠ some c) (h2 : r'.getLast? ≠ some c) : False := by
  obtain ⟨a, ha⟩ := edR_pred r c hc h1
  obtain ⟨b, hb⟩ := edR_pred r' c hc' h2
  have k1 := h.one.dom _ ha b (h.up_sub (edR_mem r' _ hb).1)
  have k2 := h.up_dom hb (h.one.sub _ (edR_mem r _ ha).1)
  have k3 := h.up_lt hb
  have k4 := edR_lt _ h.one.desc _ ha
  simp only at k1 k2 k3 k4
  have e : turnP b c a = -turnP a c b := by unfold turnP; grind
  omega
end
theorem Pair.cross2 {r r' s : List Pl} (h : Pair r r' s) (hv : ∀ p ∈ s, ∀ q ∈ s, kp p = kp q → p = q) {e : Pl × Pl} (he : e ∈ edR r') {c : Pl} (hc : c ∈ r) : c = e.1 ∨ c = e.2 ∨ 0 < turnP e.1 e.2 c := by
  have := h.sym.cross (fun p hp q hq hk => by
    obtain ⟨p', hp', rfl⟩ := List.mem_map.1 (List.mem_reverse.1 hp)
    obtain ⟨q', hq', rfl⟩ := List.mem_map.1 (List.mem_reverse.1 hq)
    rw [kp_ng, kp_ng] at hk
    rw [hv p' hp' q' hq' (by omega)]) (up_mem he) (List.mem_map_of_mem hc)
  simp only [turn_ng] at this
  rcases this with q | q | q
  · exact .inl (by rw [← ng_ng c, q, ng_ng])
  · exact .inr (.inl (by rw [← ng_ng c, q, ng_ng]))
  · exact .inr (.inr q)
/-! Edges in the order of the list. -/
def edF : List Pl → List (Pl × Pl)
  | a :: b :: l => (a, b) :: edF (b :: l)
  | _ => []
theorem edF_zip (y : Pl) : ∀ (t : List Pl) (x : Pl), edF (x :: (t ++ [y])) = (x :: t).zip (t ++ [y])
  | [], _ => rfl
  | z :: t, x => by
    show (x, z) :: edF (z :: (t ++ [y])) = _
    rw [edF_zip y t z]
    rfl
theorem edgesL_F (x : Pl) (t : List Pl) : edgesL (x :: t) = edF (x :: (t ++ [x])) := by
  rw [edF_zip]
  rfl
theorem edF_append (b : Pl) (C : List Pl) : ∀ A : List Pl, edF (A ++ b :: C) = edF (A ++ [b]) ++ edF (b :: C)
  | [] => rfl
  | [a] => rfl
  | a :: a' :: A => by
    show (a, a') :: edF ((a' :: A) ++ b :: C) = (a, a') :: edF ((a' :: A) ++ [b]) ++ _
    rw [edF_append b C (a' :: A)]
    rfl
theorem edF_rev : ∀ (r : List Pl) (e : Pl × Pl), e ∈ edF r.reverse ↔ e ∈ edR r
  | [], _ => Iff.rfl
  | [_], _ => Iff.rfl
  | b :: a :: l, e => by
    have e1 : (b :: a :: l).reverse = l.reverse ++ a :: [b] := by simp
    rw [e1, edF_append, List.mem_append]
    have e2 : l.reverse ++ [a] = (a :: l).reverse := by simp
    rw [e2, edF_rev (a :: l) e]
    show e ∈ edR (a :: l) ∨ e ∈ [(a, b)] ↔ e ∈ (a, b) :: edR (a :: l)
    simp only [List.mem_cons, List.not_mem_nil, or_false]
    exact Or.comm
theorem nodup_rev {l : List Pl} (h : l.Nodup) : l.reverse.Nodup := List.pairwise_reverse.2 (h.imp fun hne e => hne e.symm)
/-- What a hull is. -/
structure HullOf (h s : List Pl) : Prop where
  sub : ∀ q ∈ h, q ∈ s
  nodup : h.Nodup
  head : h.head? = s.head?
  edge : ∀ e ∈ edgesL h, ∀ p ∈ s, 0 < turnP e.1 e.2 p ∨ (turnP e.1 e.2 p = 0 ∧ min (kp e.1) (kp e.2) ≤ kp p ∧ kp p ≤ max (kp e.1) (kp e.2))
  vert : ∀ e ∈ edgesL h, ∀ c ∈ h, c = e.1 ∨ c = e.2 ∨ 0 < turnP e.1 e.2 c
theorem desc_nodup : ∀ r : List Pl, descL r → r.Nodup
  | [], _ => List.nodup_nil
  | x :: l, h => List.nodup_cons.2 ⟨fun hx => by have := desc_head l x h x hx; omega, desc_nodup l (descL_tail h)⟩
/-- The two chains of at least two places, taken apart. -/
theorem pair_parts {r r' s : List Pl} (h : Pair r r' s) (h2 : 2 ≤ s.length) : ∃ lo hi t t', r = hi :: t ∧ r' = lo :: t' ∧ s.head? = some lo ∧ s.getLast? = some hi ∧ kp lo < kp hi ∧ t.getLast? = some lo ∧ t'.getLast? = some hi := by
  obtain ⟨lo, s', hs⟩ : ∃ lo s', s = lo :: s' := by
    cases s with
    | nil => simp at h2
    | cons lo s' => exact ⟨lo, s', rfl⟩
  obtain ⟨hi, hhi⟩ : ∃ hi, s.getLast? = some hi := by
    rw [hs]
    exact ⟨_, List.getLast?_cons⟩
  have hlo : s.head? = some lo := by rw [hs]; rfl
  have hne : kp lo < kp hi := by
    have hs2 : s' ≠ [] := by rintro rfl; rw [hs] at h2; simp at h2
    have hm : hi ∈ s' := by
      rw [hs] at hhi
      cases s' with
      | nil => exact absurd rfl hs2
      | cons a s' => rw [List.getLast?_cons_cons] at hhi; exact List.mem_of_getLast? hhi
    have := h.asc
    rw [hs] at this
    exact (List.pairwise_cons.1 this).1 hi hm
  have hd := h.one.head
  have hl := h.one.last
  have ud := h.up_head
  have ul := h.up_last
  rw [hhi] at hd
  rw [hlo] at hl
  rw [hlo] at ud
  rw [hhi] at ul
  cases r with
  | nil => cases hd
  | cons a t =>
    cases hd
    cases r' with
    | nil => cases ud
    | cons b t' =>
      cases ud
      refine ⟨lo, hi, t, t', rfl, rfl, hlo, hhi, hne, ?_, ?_⟩
      · cases t with
        | nil => simp at hl; rw [hl] at hne; omega
        | cons c t => rw [List.getLast?_cons_cons] at hl; exact hl
      · cases t' with
        | nil => simp at ul; rw [ul] at hne; omega
        | cons c t' => rw [List.getLast?_cons_cons] at ul; exact ul
theorem hull_pair {r r' s : List Pl} (h : Pair r r' s) (h2 : 2 ≤ s.length) (hv : ∀ p ∈ s, ∀ q ∈ s, kp p = kp q → p = q) : HullOf (r.reverse.dropLast ++ r'.reverse.dropLast) s ∧ (∀ e ∈ edgesL (r.reverse.dropLast ++ r'.reverse.dropLast), e ∈ edR r ∨ e ∈ edR r') ∧ ∀ q, q ∈ r.reverse.dropLast ++ r'.reverse.dropLast ↔ q ∈ r ∨ q ∈ r' := by
  obtain ⟨lo, hi, t, t', e1, e2, hlo, hhi, hne, ht, ht'⟩ := pair_parts h h2
  have hr : r.reverse.dropLast = t.reverse := by rw [e1, List.reverse_cons, List.dropLast_concat]
  have hr' : r'.reverse.dropLast = t'.reverse := by rw [e2, List.reverse_cons, List.dropLast_concat]
  rw [hr, hr']
  have hth : t.reverse.head? = some lo := by rw [List.head?_reverse, ht]
  have hth' : t'.reverse.head? = some hi := by rw [List.head?_reverse, ht']
  obtain ⟨T, hT⟩ : ∃ T, t.reverse = lo :: T := by
    cases hh : t.reverse with
    | nil => rw [hh] at hth; cases hth
    | cons a T => rw [hh] at hth; cases hth; exact ⟨T, rfl⟩
  obtain ⟨T', hT'⟩ : ∃ T', t'.reverse = hi :: T' := by
    cases hh : t'.reverse with
    | nil => rw [hh] at hth'; cases hth'
    | cons a T => rw [hh] at hth'; cases hth'; exact ⟨T, rfl⟩
  have hmem : ∀ q, q ∈ t.reverse ++ t'.reverse ↔ q ∈ r ∨ q ∈ r' := by
    intro q
    have hl : lo ∈ t := List.mem_of_getLast? ht
    have hh : hi ∈ t' := List.mem_of_getLast? ht'
    rw [e1, e2, List.mem_append, List.mem_reverse, List.mem_reverse, List.mem_cons, List.mem_cons]
    constructor
    · rintro (k | k)
      · exact .inl (.inr k)
      · exact .inr (.inr k)
    · rintro ((rfl | k) | (rfl | k))
      · exact .inr hh
      · exact .inl k
      · exact .inl hl
      · exact .inr k
  have hed : ∀ e ∈ edgesL (t.reverse ++ t'.reverse), e ∈ edR r ∨ e ∈ edR r' := by
    intro e he
    have x1 : edgesL (t.reverse ++ t'.reverse) = edF ((t.reverse ++ t'.reverse) ++ [lo]) := by
      rw [hT, List.cons_append, edgesL_F]
      rfl
    have x2 : (t.reverse ++ t'.reverse) ++ [lo] = t.reverse ++ hi :: (T' ++ [lo]) := by rw [hT']; simp
    have x3 : t.reverse ++ [hi] = r.reverse := by rw [e1, List.reverse_cons]
    have x4 : hi :: (T' ++ [lo]) = r'.reverse := by rw [e2, List.reverse_cons, hT']; rfl
    rw [x1, x2, edF_append, x3, x4, List.mem_append, edF_rev, edF_rev] at he
    exact he
  refine ⟨⟨fun q hq => ?_, ?_, by rw [hT, hlo]; rfl, fun e he p hp => ?_, fun e he c hc => ?_⟩, hed, hmem⟩
  · rcases (hmem q).1 hq with k | k
    · exact h.one.sub q k
    · exact h.up_sub k
  · have d1 := h.one.desc
    have d2 := h.two.desc
    rw [e1] at d1
    rw [e2] at d2
    refine List.nodup_append.2 ⟨nodup_rev (desc_nodup _ (descL_tail d1)), nodup_rev ?_, fun a ha b hb hab => ?_⟩
    · have := desc_nodup _ (descL_tail d2)
      exact List.Pairwise.of_map ngP (fun a b k e => k (by rw [e])) this
    · subst hab
      have m1 := List.mem_reverse.1 ha
      have m2 := List.mem_reverse.1 hb
      have k1 := desc_head _ _ d1 a m1
      have k2 := desc_head _ _ d2 (ngP a) (List.mem_map_of_mem m2)
      rw [kp_ng, kp_ng] at k2
      refine h.apart (c := a) (by rw [e1]; exact List.mem_cons_of_mem _ m1) (by rw [e2]; exact List.mem_cons_of_mem _ m2) ?_ ?_
      · rw [h.one.last, hlo]
        intro e
        cases e
        omega
      · rw [h.up_last, hhi]
        intro e
        cases e
        omega
  · rcases hed e he with k | k
    · have := h.one.dom e k p hp
      omega
    · have := h.up_dom k hp
      omega
  · rcases hed e he with k | k <;> rcases (hmem c).1 hc with m | m
    · exact good_edge _ h.one.good e k c m
    · exact h.cross hv k m
    · exact h.cross2 hv k m
    · exact h.up_good k m
end Go.Proofs.YtgngepbemgbbeaaGreatDoor

namespace Go.Proofs.YtgngepbemgbbeaaGreatDoor

theorem sP_inj {l : List Pl} (hv : ∀ p ∈ l, vP p = true) : ∀ p ∈ sP l, ∀ q ∈ sP l, kp p = kp q → p = q := fun p hp q hq h =>
  kp_inj (hv p (((sP_asc hv).2 p).1 hp)) (hv q (((sP_asc hv).2 q).1 hq)) h
theorem hull_form {l : List Pl} (h : 2 ≤ (sP l).length) : hullL l = (chainR leftP (sP l)).reverse.dropLast ++ (chainR leftP (sP l).reverse).reverse.dropLast := hullL_two h
theorem hull_one {l : List Pl} (h : (sP l).length < 2) : hullL l = sP l := by rw [hullL_sP, if_pos (by omega)]
theorem edgesL_one (a : Pl) : edgesL [a] = [(a, a)] := rfl
theorem hull_of {l : List Pl} (hv : ∀ p ∈ l, vP p = true) : HullOf (hullL l) (sP l) := by
  by_cases h : 2 ≤ (sP l).length
  · rw [hull_form h]
    exact (hull_pair (pair_of (sP_asc hv).1) h (sP_inj hv)).1
  · rw [hull_one (by omega)]
    match hs : sP l with
    | [] => exact ⟨fun _ h => h, List.nodup_nil, rfl, (fun _ h => by cases h), (fun _ h => by cases h)⟩
    | [a] => exact ⟨fun _ h => h, by simp, rfl, fun e he p hp => by
        rw [edgesL_one, List.mem_singleton] at he
        subst he
        rw [List.mem_singleton.1 hp]
        exact .inr ⟨turn_aab a a, by simp only; omega⟩, fun e he c hc => by
        rw [edgesL_one, List.mem_singleton] at he
        subst he
        exact .inl (List.mem_singleton.1 hc)⟩
    | _ :: _ :: _ => rw [hs] at h; simp at h
theorem hull_sub {l : List Pl} (hv : ∀ p ∈ l, vP p = true) {q : Pl} (hq : q ∈ hullL l) : q ∈ l := ((sP_asc hv).2 q).1 ((hull_of hv).sub q hq)
theorem hull_valid {l : List Pl} (hv : ∀ p ∈ l, vP p = true) : ∀ p ∈ hullL l, vP p = true := fun _ hp => hv _ (hull_sub hv hp)
theorem nodup_le : ∀ (h l : List Pl), h.Nodup → (∀ q ∈ h, q ∈ l) → h.length ≤ l.length
  | [], _, _, _ => Nat.zero_le _
  | x :: h, l, hn, hs => by
    obtain ⟨h1, h2⟩ := List.nodup_cons.1 hn
    have := nodup_le h (l.erase x) h2 fun q hq => (List.mem_erase_of_ne (fun e => h1 (by rw [← e]; exact hq))).2 (hs q (List.mem_cons_of_mem _ hq))
    have hl := List.length_erase_of_mem (hs x (by simp))
    have hp := List.length_pos_of_mem (hs x (by simp))
    simp only [List.length_cons]
    omega
theorem hull_len {l : List Pl} (hv : ∀ p ∈ l, vP p = true) : (hullL l).length ≤ l.length := nodup_le _ _ (hull_of hv).nodup fun _ hq => hull_sub hv hq
theorem hull_ne {l : List Pl} (hv : ∀ p ∈ l, vP p = true) (h : l ≠ []) : hullL l ≠ [] := by
  intro e
  have hh := (hull_of hv).head
  rw [e] at hh
  cases l with
  | nil => exact h rfl
  | cons x l =>
    have : x ∈ sP (x :: l) := ((sP_asc hv).2 x).2 (by simp)
    cases hs : sP (x :: l) with
    | nil => rw [hs] at this; cases this
    | cons y t => rw [hs] at hh; cases hh
theorem asc_head_eq {s s' : List Pl} {m : Pl} (h : Asc s) (h' : Asc s') (hs : ∀ q ∈ s', q ∈ s) (hi : ∀ p ∈ s, ∀ q ∈ s, kp p = kp q → p = q) (hm : s.head? = some m) (hin : m ∈ s') : s'.head? = some m := by
  cases e : s'.head? with
  | none => rw [List.head?_eq_none_iff.1 e] at hin; cases hin
  | some z =>
    have hz : z ∈ s' := List.mem_of_head? e
    have h1 := asc_head h hm z (hs z hz)
    have h2 := asc_head h' e m hin
    rw [hi z (hs z hz) m (hs m hin) (by omega)]
theorem asc_last_eq {s s' : List Pl} {m : Pl} (h : Asc s) (h' : Asc s') (hs : ∀ q ∈ s', q ∈ s) (hi : ∀ p ∈ s, ∀ q ∈ s, kp p = kp q → p = q) (hm : s.getLast? = some m) (hin : m ∈ s') : s'.getLast? = some m := by
  cases e : s'.getLast? with
  | none => rw [List.getLast?_eq_none_iff.1 e] at hin; cases hin
  | some z =>
    have hz : z ∈ s' := List.mem_of_getLast? e
    have h1 := asc_last h hm z (hs z hz)
    have h2 := asc_last h' e m hin
    rw [hi z (hs z hz) m (hs m hin) (by omega)]
/-- A chain of s is the chain of each list between it and s. -/
theorem chain_again {r s s' : List Pl} (h : ChainOf r s) (ha : Asc s) (ha' : Asc s') (hs : ∀ q ∈ s', q ∈ s) (hr : ∀ q ∈ r, q ∈ s') (hi : ∀ p ∈ s, ∀ q ∈ s, kp p = kp q → p = q) : chainR leftP s' = r := by
  have k := chain_of s' ha'
  refine chain_uniq _ _ k.desc h.desc ?_ ?_ (fun e he p hp => k.dom e he p (hr p hp)) (fun e he p hp => h.dom e he p (hs p (k.sub p hp))) (fun a ha b hb => hi a (hs a (k.sub a ha)) b (h.sub b hb))
  · rw [k.head, h.head]
    cases e : s.getLast? with
    | none =>
      rw [List.getLast?_eq_none_iff.1 e] at hs
      rw [List.getLast?_eq_none_iff]
      exact List.eq_nil_iff_forall_not_mem.2 fun q hq => by cases hs q hq
    | some m => exact asc_last_eq ha ha' hs hi e (hr m (List.mem_of_head? (h.head.trans e)))
  · rw [k.last, h.last]
    cases e : s.head? with
    | none =>
      rw [List.head?_eq_none_iff.1 e] at hs
      rw [List.head?_eq_none_iff]
      exact List.eq_nil_iff_forall_not_mem.2 fun q hq => by cases hs q hq
    | some m => exact asc_head_eq ha ha' hs hi e (hr m (List.mem_of_getLast? (h.last.trans e)))
/-- The hull of a hull is this hull. -/
theorem hull_idem {l : List Pl} (hv : ∀ p ∈ l, vP p = true) : hullL (hullL l) = hullL l := by
  have hv' := hull_valid hv
  obtain ⟨a1, a2⟩ := sP_asc hv
  obtain ⟨b1, b2⟩ := sP_asc hv'
  by_cases h : 2 ≤ (sP l).length
  · have hp := pair_of a1
    obtain ⟨_, _, hm⟩ := hull_pair hp h (sP_inj hv)
    rw [← hull_form h] at hm
    have hs : ∀ q ∈ sP (hullL l), q ∈ sP l := fun q hq => (hull_of hv).sub q ((b2 q).1 hq)
    have r1 := chain_again hp.one a1 b1 hs (fun q hq => (b2 q).2 ((hm q).2 (.inl hq))) (sP_inj hv)
    have r2 := chain_again (s' := ((sP (hullL l)).map ngP).reverse) hp.two (asc_ng a1) (asc_ng b1) (fun q hq => by
      obtain ⟨p, hp, rfl⟩ := List.mem_map.1 (List.mem_reverse.1 hq)
      exact List.mem_reverse.2 (List.mem_map_of_mem (hs p hp))) (fun q hq => by
      obtain ⟨p, hp, rfl⟩ := List.mem_map.1 hq
      exact List.mem_reverse.2 (List.mem_map_of_mem ((b2 p).2 ((hm p).2 (.inr hp))))) (fun p hp q hq hk => by
      obtain ⟨p', hp', rfl⟩ := List.mem_map.1 (List.mem_reverse.1 hp)
      obtain ⟨q', hq', rfl⟩ := List.mem_map.1 (List.mem_reverse.1 hq)
      rw [kp_ng, kp_ng] at hk
      rw [sP_inj hv p' hp' q' hq' (by omega)])
    have r3 : chainR leftP (sP (hullL l)).reverse = chainR leftP (sP l).reverse := by
      rw [← List.map_reverse, chainR_ng] at r2
      have := congrArg (List.map ngP) r2
      rwa [map_ng_ng, map_ng_ng] at this
    obtain ⟨lo, hi, t, t', e1, e2, _, _, hne, ht, _⟩ := pair_parts hp h
    have h2 : 2 ≤ (sP (hullL l)).length := by
      have m1 : lo ∈ sP (hullL l) := (b2 lo).2 ((hm lo).2 (.inr (by rw [e2]; simp)))
      have m2 : hi ∈ sP (hullL l) := (b2 hi).2 ((hm hi).2 (.inl (by rw [e1]; simp)))
      match hh : sP (hullL l), m1, m2 with
      | [], m1, _ => cases m1
      | [z], m1, m2 =>
        have := List.mem_singleton.1 m1
        have := List.mem_singleton.1 m2
        subst_vars
        omega
      | _ :: _ :: _, _, _ => simp
    rw [hull_form h2, r1, r3, ← hull_form h]
  · have e := hull_one (show (sP l).length < 2 by omega)
    have hvs : ∀ p ∈ sP l, vP p = true := fun p hp => hv p ((a2 p).1 hp)
    rw [e, hull_one (by rw [asc_self hvs a1]; omega), asc_self hvs a1]
/-- The first corner is the first of the places. -/
theorem hull_first {l h : List Pl} {p : Pl} (hv : ∀ p ∈ l, vP p = true) (hh : hullL l = p :: h) : (∀ q ∈ l, kp p ≤ kp q) ∧ ∀ q ∈ h, kp p < kp q := by
  have H := hull_of hv
  obtain ⟨a1, a2⟩ := sP_asc hv
  have hd := H.head
  rw [hh] at hd
  have k : ∀ q ∈ l, kp p ≤ kp q := fun q hq => asc_head a1 hd.symm q ((a2 q).2 hq)
  refine ⟨k, fun q hq => ?_⟩
  have hn := H.nodup
  rw [hh] at hn
  have hql := hull_sub hv (q := q) (by rw [hh]; simp [hq])
  have hpl := hull_sub hv (q := p) (by rw [hh]; simp)
  have := k q hql
  rcases Int.lt_or_eq_of_le this with h | h
  · exact h
  · exact absurd hq (by rw [← kp_inj (hv p hpl) (hv q hql) h]; exact (List.nodup_cons.1 hn).1)
theorem edgesL_getElem {h : List Pl} {i : Nat} {a b : Pl} (ha : h[i]? = some a) (hb : h[(i + 1) % h.length]? = some b) : (a, b) ∈ edgesL h := by
  have hi : i < h.length := (List.getElem?_eq_some_iff.1 ha).1
  refine List.mem_of_getElem? (i := i) ?_
  unfold edgesL
  rw [List.getElem?_zip_eq_some]
  refine ⟨ha, ?_⟩
  simp only
  by_cases hl : i + 1 < h.length
  · rw [Nat.mod_eq_of_lt hl] at hb
    rw [List.getElem?_append_left (by rw [List.length_drop]; omega), List.getElem?_drop, Nat.add_comm]
    exact hb
  · have e : i + 1 = h.length := by omega
    rw [e, Nat.mod_self] at hb
    rw [List.getElem?_append_right (by rw [List.length_drop]; omega), List.length_drop, show i - (h.length - 1) = 0 by omega]
    cases h with
    | nil => simp at hi
    | cons x t => exact hb
/-- No place is outside of an edge. -/
theorem hull_in {l : List Pl} (hv : ∀ p ∈ l, vP p = true) {i : Nat} {a b p : Pl} (ha : (hullL l)[i]? = some a) (hb : (hullL l)[(i + 1) % (hullL l).length]? = some b) (hp : p ∈ l) : 0 ≤ sideP a b p := by
  have := (hull_of hv).edge _ (edgesL_getElem ha hb) p (((sP_asc hv).2 p).2 hp)
  simp only at this
  unfold sideP
  split
  · rcases cmpI_sign (turnP a b p) with ⟨h, e⟩ | ⟨h, e⟩ | ⟨h, e⟩ <;> omega
  · exact Int.le_refl _
/-- The corners of a hull turn left. -/
theorem hull_left {l : List Pl} (hv : ∀ p ∈ l, vP p = true) {i : Nat} {a b c : Pl} (hn : 2 < (hullL l).length) (ha : (hullL l)[i]? = some a) (hb : (hullL l)[(i + 1) % (hullL l).length]? = some b) (hc : (hullL l)[(i + 2) % (hullL l).length]? = some c) : sideP a b c = 1 := by
  have H := hull_of hv
  have hi : i < (hullL l).length := (List.getElem?_eq_some_iff.1 ha).1
  have hne : ∀ {j k : Nat} {x : Pl}, (hullL l)[j]? = some x → (hullL l)[k]? = some x → j = k := fun {j k x} hj hk => by
    have e : (hullL l)[j]? = (hullL l)[k]? := hj.trans hk.symm
    exact (List.getElem?_inj (List.getElem?_eq_some_iff.1 hj).1 H.nodup).1 e
  have m := H.vert _ (edgesL_getElem ha hb) c (List.mem_of_getElem? hc)
  simp only at m
  have k : 0 < turnP a b c := by
    rcases m with m | m | m
    · rw [m] at hc
      have := hne ha hc
      rcases Nat.lt_or_ge (i + 2) (hullL l).length with q | q
      · rw [Nat.mod_eq_of_lt q] at this; omega
      · rw [Nat.mod_eq_sub_mod q, Nat.mod_eq_of_lt (by omega)] at this; omega
    · rw [m] at hc
      have := hne hb hc
      rcases Nat.lt_or_ge (i + 2) (hullL l).length with q | q
      · rw [Nat.mod_eq_of_lt q, Nat.mod_eq_of_lt (by omega)] at this; omega
      · rw [Nat.mod_eq_sub_mod q, Nat.mod_eq_of_lt (show i + 2 - (hullL l).length < _ by omega)] at this
        rcases Nat.lt_or_ge (i + 1) (hullL l).length with q' | q'
        · rw [Nat.mod_eq_of_lt q'] at this; omega
        · rw [Nat.mod_eq_sub_mod q', Nat.mod_eq_of_lt (by omega)] at this; omega
    · exact m
  rw [side_valid (by simp [hull_valid hv a (List.mem_of_getElem? ha), hull_valid hv b (List.mem_of_getElem? hb), hull_valid hv c (List.mem_of_getElem? hc)])]
  rcases cmpI_sign (turnP a b c) with ⟨h, e⟩ | ⟨h, e⟩ | ⟨h, e⟩ <;> omega
end Go.Proofs.YtgngepbemgbbeaaGreatDoor

namespace Go.Proofs
open Go.Shelf
def Tryz.laysSORT_ren : Go.Shelf.Ren := ⟨fun | 6 => 51 | 15 => 88 | 14 => 87 | 28 => 137 | 29 => 138 | 20 => 129 | 21 => 130 | 22 => 131 | 23 => 132 | 24 => 133 | 25 => 134 | 26 => 135 | 27 => 136 | 46 => 172 | 47 => 173 | 48 => 174 | 49 => 175 | 50 => 176 | 57 => 203 | n => n, fun | 22 => 27 | 24 => 26 | 25 => 75 | 3 => 3 | 39 => 107 | 0 => 0 | 53 => 148 | 55 => 150 | 4 => 4 | 46 => 141 | 45 => 140 | 50 => 145 | 5 => 5 | 9 => 9 | 66 => 182 | 70 => 186 | 76 => 203 | 77 => 204 | n => n, fun | n => n⟩
theorem Tryz.laysSORT : Go.Proofs.SlLaysF0.n6 Tryz.prog Tryz.laysSORT_ren := {
  mixed := by kernel_rfl
  f6 := ⟨Tryz.f51.name, by decide, Tryz.func51.trans (congrArg some (by kernel_rfl))⟩
  f14 := ⟨Tryz.f87.name, by decide, Tryz.func87.trans (congrArg some (by kernel_rfl))⟩
  f15 := Tryz.func88.trans (congrArg some (by kernel_rfl))
  f20 := ⟨Tryz.f129.name, by decide, Tryz.func129.trans (congrArg some (by kernel_rfl))⟩
  f21 := ⟨Tryz.f130.name, by decide, Tryz.func130.trans (congrArg some (by kernel_rfl))⟩
  f22 := ⟨Tryz.f131.name, by decide, Tryz.func131.trans (congrArg some (by kernel_rfl))⟩
  f23 := ⟨Tryz.f132.name, by decide, Tryz.func132.trans (congrArg some (by kernel_rfl))⟩
  f24 := ⟨Tryz.f133.name, by decide, Tryz.func133.trans (congrArg some (by kernel_rfl))⟩
  f25 := ⟨Tryz.f134.name, by decide, Tryz.func134.trans (congrArg some (by kernel_rfl))⟩
  f26 := ⟨Tryz.f135.name, by decide, Tryz.func135.trans (congrArg some (by kernel_rfl))⟩
  f27 := ⟨Tryz.f136.name, by decide, Tryz.func136.trans (congrArg some (by kernel_rfl))⟩
  f28 := Tryz.func137.trans (congrArg some (by kernel_rfl))
  f29 := Tryz.func138.trans (congrArg some (by kernel_rfl))
  f46 := ⟨Tryz.f172.name, by decide, Tryz.func172.trans (congrArg some (by kernel_rfl))⟩
  f47 := Tryz.func173.trans (congrArg some (by kernel_rfl))
  f48 := Tryz.func174.trans (congrArg some (by kernel_rfl))
  f49 := ⟨Tryz.f175.name, by decide, Tryz.func175.trans (congrArg some (by kernel_rfl))⟩
  f50 := ⟨Tryz.f176.name, by decide, Tryz.func176.trans (congrArg some (by kernel_rfl))⟩
  f57 := ⟨Tryz.f203.name, by decide, Tryz.func203.trans (congrArg some (by kernel_rfl))⟩
  t0 := Tryz.underlying0
  a0 := Tryz.isAgg0
  z0 := Tryz.sizeOf0
  v0 := Tryz.zeroValue0
  t3 := Tryz.underlying3
  a3 := Tryz.isAgg3
  z3 := Tryz.sizeOf3
  v3 := Tryz.zeroValue3
  t4 := Tryz.underlying4
  a4 := Tryz.isAgg4
  z4 := Tryz.sizeOf4
  v4 := Tryz.zeroValue4
  t5 := Tryz.underlying5
  a5 := Tryz.isAgg5
  z5 := Tryz.sizeOf5
  v5 := Tryz.zeroValue5
  t9 := Tryz.underlying9
  a9 := Tryz.isAgg9
  z9 := Tryz.sizeOf9
  v9 := Tryz.zeroValue9
  t22 := Tryz.underlying27
  a22 := Tryz.isAgg27
  z22 := Tryz.sizeOf27
  v22 := Tryz.zeroValue27
  t25 := Tryz.underlying75
  a25 := Tryz.isAgg75
  z25 := Tryz.sizeOf75
  v25 := Tryz.zeroValue75
  t39 := Tryz.underlying107
  a39 := Tryz.isAgg107
  z39 := Tryz.sizeOf107
  v39 := Tryz.zeroValue107
  t45 := Tryz.underlying140
  a45 := Tryz.isAgg140
  z45 := Tryz.sizeOf140
  v45 := Tryz.zeroValue140
  t46 := Tryz.underlying141
  a46 := Tryz.isAgg141
  z46 := Tryz.sizeOf141
  v46 := Tryz.zeroValue141
  t50 := Tryz.underlying145
  a50 := Tryz.isAgg145
  z50 := Tryz.sizeOf145
  v50 := Tryz.zeroValue145
  t53 := Tryz.underlying148
  a53 := Tryz.isAgg148
  z53 := Tryz.sizeOf148
  v53 := Tryz.zeroValue148
  t55 := Tryz.underlying150
  a55 := Tryz.isAgg150
  z55 := Tryz.sizeOf150
  v55 := Tryz.zeroValue150
  t66 := Tryz.underlying182
  a66 := Tryz.isAgg182
  z66 := Tryz.sizeOf182
  v66 := Tryz.zeroValue182
  t70 := Tryz.underlying186
  a70 := Tryz.isAgg186
  z70 := Tryz.sizeOf186
  v70 := Tryz.zeroValue186
  t76 := Tryz.underlying203
  a76 := Tryz.isAgg203
  z76 := Tryz.sizeOf203
  v76 := Tryz.zeroValue203
  t77 := Tryz.underlying204
  a77 := Tryz.isAgg204
  z77 := Tryz.sizeOf204
  v77 := Tryz.zeroValue204 }
end Go.Proofs

namespace Go.Proofs.YtgngepbemgbbeaaGreatDoor
open Go.RowKit Go.Shelf Go.Sort
attribute [local go_sem] Oper.semAt_some

set_option maxHeartbeats 2000000 in
theorem order_x (a b : Pl) (w : World) :
    Calls Tryz.prog 52 #[.agg #[.int .i64 a.x, .int .i64 a.y], .agg #[.int .i64 b.x, .int .i64 b.y]] w fun e W' => e = .returned (.int .i64 (ordP a b)) ∧ ∃ q os', W' = grow (w.drewN q) os' := by
  have KY := Lib.hid (fun W => cmp_s a.y b.y W)
  have KX := Lib.hid (fun W => cmp_s a.x b.x W)
  have KO := Lib.hid (fun (W : World) (h : ArAt (w.heap.size + 1 + 1) [.int .i64 (cmpI a.y b.y), .int .i64 (cmpI a.x b.x)] W) => or_s W (h.row 0 _ rfl) (h.row 1 _ rfl))
  unfold ordP
  generalize cmpI a.y b.y = p at *
  generalize cmpI a.x b.x = q at *
  have H1 := Lib.hid (show AzAt [(w.heap.size + 1, [.int .i64 b.x, .int .i64 b.y]), (w.heap.size, [.int .i64 a.x, .int .i64 a.y])] w _ from by have hp := ((AzAt.start w).push [.int .i64 a.x, .int .i64 a.y] 26).push [.int .i64 b.x, .int .i64 b.y] 26; simp only [World.size_alloc] at hp; exact hp)
  have H2 := Lib.hid (show AzAt [(w.heap.size + 1 + 1, [.int .i64 p, .int .i64 q]), (w.heap.size + 1, [.int .i64 b.x, .int .i64 b.y]), (w.heap.size, [.int .i64 a.x, .int .i64 a.y])] w _ from by have hp := H1.out.push [.int .i64 p, .int .i64 q] 3; simp only [World.size_alloc] at hp; exact hp)
  go_enter Tryz.func52, Tryz.ntmps52
  go_wp2
  go_region_held3 (fun W => W.cell? ⟨w.heap.size, 0, none⟩ = some (.int .i64 a.x) ∧ W.cell? ⟨w.heap.size, 1, none⟩ = some (.int .i64 a.y) ∧ W.cell? ⟨w.heap.size + 1, 0, none⟩ = some (.int .i64 b.x) ∧ W.cell? ⟨w.heap.size + 1, 1, none⟩ = some (.int .i64 b.y)) (first | with_reducible exact ⟨(H2.out.drew.row (w.heap.size, [.int .i64 a.x, .int .i64 a.y]) (by simp)).row 0 _ rfl, (H2.out.drew.row (w.heap.size, [.int .i64 a.x, .int .i64 a.y]) (by simp)).row 1 _ rfl, (H2.out.drew.row (w.heap.size + 1, [.int .i64 b.x, .int .i64 b.y]) (by simp)).row 0 _ rfl, (H2.out.drew.row (w.heap.size + 1, [.int .i64 b.x, .int .i64 b.y]) (by simp)).row 1 _ rfl⟩ | with_reducible exact ⟨(H1.out.drew.row (w.heap.size, [.int .i64 a.x, .int .i64 a.y]) (by simp)).row 0 _ rfl, (H1.out.drew.row (w.heap.size, [.int .i64 a.x, .int .i64 a.y]) (by simp)).row 1 _ rfl, (H1.out.drew.row (w.heap.size + 1, [.int .i64 b.x, .int .i64 b.y]) (by simp)).row 0 _ rfl, (H1.out.drew.row (w.heap.size + 1, [.int .i64 b.x, .int .i64 b.y]) (by simp)).row 1 _ rfl⟩) (first
    | (go_at_call 79; (with_reducible refine (KY.out _).mono ?_); rintro e w' ⟨rfl, rfl⟩)
    | (go_at_call 79; (with_reducible refine (KX.out _).mono ?_); rintro e w' ⟨rfl, rfl⟩)
    | (go_at_call 89; (with_reducible refine (KO.out _ (H2.out.drew.at (by simp))).mono ?_); rintro e w' ⟨rfl, rfl⟩)
    | fail)
  all_goals
    go_wp2
    go_ret
    exact ⟨rfl, 1, _, by simp only [alloc_eq_grow, grow_grow]; rfl⟩
/-- The two cells of a place. -/
def encP (p : Pl) : List Value := [.int .i64 p.x, .int .i64 p.y]
theorem ltOf_ord : ltOf ordP = ltP := by
  funext a b
  rw [ltP_ord]
  rfl
theorem swo_ord : SWO (ltOf ordP) := by
  rw [ltOf_ord]
  constructor
  · intro x; unfold ltP; simp
  · intro x y z h k
    unfold ltP at *
    simp only [Bool.or_eq_true, Bool.and_eq_true, decide_eq_true_eq] at *
    omega
  · intro x y z h k
    unfold ltP at *
    simp only [Bool.or_eq_false_iff, Bool.and_eq_false_iff, decide_eq_false_iff_not] at *
    omega
theorem lays_ord (blk off size : Nat) (w : World) : CmpLays Tryz.prog 52 #[] encP 2 ordP blk off size w :=
  fun _ _ _ _ x y => order_x x y _
theorem get_bang {l : List Pl} {k : Nat} {x : Pl} (h : l[k]? = some x) : l.toArray[k]! = x := by
  simp [h]
theorem holds_pl {B : Nat} {l : List Pl} {W : World} (h : PqAt B l W) : HoldsK encP 2 W B 0 l.toArray := by
  intro j hj
  have hs : j < l.toArray.size * 2 := by simpa [flatK] using hj
  rw [get_flatK _ _ _ _ hs]
  have hl : j / 2 < l.length := by simp at hs; omega
  obtain ⟨x, hx⟩ : ∃ x, l[j / 2]? = some x := ⟨l[j / 2], List.getElem?_eq_getElem hl⟩
  rw [get_bang hx, Nat.zero_add]
  obtain ⟨c0, c1⟩ := h.row _ _ hx
  refine ⟨?_, h.fz j (by simp at hs; omega)⟩
  rcases Nat.mod_two_eq_zero_or_one j with e | e
  · rw [e]
    rw [show j / 2 * 2 = j by omega] at c0
    exact c0
  · rw [e]
    rw [show j / 2 * 2 + 1 = j by omega] at c1
    exact c1
theorem heap_mapBlock {w : World} {blk k : Nat} (f : Array Value → Array Value) (h : k ≠ blk) : (mapBlock w blk f).heap[k]? = w.heap[k]? := by
  unfold mapBlock
  simp [Array.getElem?_modify, Ne.symm h]
theorem heap_sorted {W : World} {B n : Nat} {d : Array Pl} {os : Array Obj} {k : Nat} (h : k ≠ B) (hk : k < W.heap.size) : (sortWorldK encP 2 W B 0 n d os).heap[k]? = W.heap[k]? := by
  unfold sortWorldK putRowK putRow grow
  have e := heap_mapBlock (w := Sort.ahead W n) (putCells id 0 (flatK encP 2 d)) h
  have hs : k < (mapBlock (Sort.ahead W n) B (putCells id 0 (flatK encP 2 d))).heap.size := by
    simp [mapBlock, Sort.ahead]
    exact hk
  rw [Array.getElem?_append_left hs]
  exact e
theorem sorted_pz {B : Nat} {l : List Pl} {R : List (Nat × List Value)} {w W : World} (h : PzAt B l R w W) {n : Nat} {d : Array Pl} {os : Array Obj} (hs : d.size = l.toArray.size) : PzAt B d.toList R w (sortWorldK encP 2 W B 0 n d os) := by
  have hh := holdsK_sortWorldK_c (enc := encP) (k := 2) (w := W) (blk := B) (off := 0) l.toArray d n os (holds_pl h.ns) h.ns.sz hs
  have hz : W.heap.size ≤ (sortWorldK encP 2 W B 0 n d os).heap.size := size_sortWorldK_c (enc := encP) (k := 2) (w := W) (blk := B) (off := 0) n d os
  refine ⟨⟨⟨?_, ?_, ?_, Nat.le_trans h.az.bw.size hz, fun k hk => ?_⟩, fun x hx => ?_⟩, ⟨fun k x hx => ?_, fun o ho => ?_, Nat.lt_of_lt_of_le h.ns.sz hz⟩, h.hB, h.ne⟩
  · exact h.az.bw.os
  · exact h.az.bw.tape
  · exact h.az.bw.output
  · rw [heap_sorted (by have := h.hB; omega) (Nat.lt_of_lt_of_le hk h.az.bw.size)]
    exact h.az.bw.block k hk
  · exact (h.az.row x hx).of_block (heap_sorted (h.ne x hx).symm (h.az.row x hx).sz) hz
  · have hk : k < d.size := by have := (List.getElem?_eq_some_iff.1 hx).1; simpa using this
    have e : d[k]! = x := by
      have : d[k]? = some x := by rw [← hx]; simp
      rw [getElem!_pos d k hk]
      rw [Array.getElem?_eq_getElem hk] at this
      exact Option.some.inj this
    have c0 := (HoldsK.cell hh hk (c := 0) (by omega)).1
    have c1 := (HoldsK.cell hh hk (c := 1) (by omega)).1
    rw [e] at c0 c1
    constructor
    · simpa [encP] using c0
    · simpa [encP] using c1
  · have := hh o (by simpa [flatK] using ho)
    simpa using this.2
set_option maxHeartbeats 2000000 in
theorem sortG_s {B cap n : Nat} {l : List Pl} {R : List (Nat × List Value)} {w W : World} (hl : l.length = n) (hn : n ≤ 1000000) (h : PzAt B l R w W) :
    Calls Tryz.prog 51 #[.slice (some ⟨B, 0, none⟩) n cap, .func (.func 52) #[] #[]] W fun e W' => e = .returned (.tuple #[]) ∧ ∃ l' : List Pl, l'.length = n ∧ (∀ q, q ∈ l' ↔ q ∈ l) ∧ l'.Pairwise (fun a b => ltP b a = false) ∧ PzAt B l' R w W' := by
  have eg : ∀ args w, (callFunc 52 args).run Tryz.prog w = .ok (.enter 52 args) w := enters_of Tryz.func52 (by kernel_rfl) rfl
  have hcon := AnyQ.slices_SortFunc Tryz.laysSORT 2 Tryz.isAgg26 Tryz.sizeOf26 encP (fun _ => rfl) (fun x v hv => by simp [encP] at hv; rcases hv with rfl | rfl <;> rfl) ordP swo_ord 52 #[] B 0 cap l.toArray W eg (lays_ord B 0 _ W) (holds_pl h.ns) h.ns.sz (by simp; omega)
  rw [show l.toArray.size = n by simpa using hl] at hcon
  refine Calls.mono hcon ?_
  rintro e W' ⟨rfl, d', m, os, ⟨hs, _, hp⟩, hsort, rfl⟩
  rw [ltOf_ord] at hsort
  have hsz : d'.size = n := by rw [hs]; simpa using hl
  refine ⟨rfl, d'.toList, by simpa using hsz, fun q => ?_, ?_, sorted_pz h (by rw [hs])⟩
  · have e1 : d'.extract 0 n = d' := by rw [← hsz]; simp
    have e2 : l.toArray.extract 0 n = l.toArray := by rw [← hl]; simp
    rw [e1, e2] at hp
    have := hp.mem_iff (a := q)
    simpa using this
  · rw [List.pairwise_iff_getElem]
    intro i j hi hj hij
    have hj' : j < d'.size := by simpa using hj
    have hi' : i < d'.size := by simpa using hi
    have := hsort i j (Nat.zero_le _) hij (by omega)
    rw [getElem!_pos d' j hj', getElem!_pos d' i hi'] at this
    simpa using this
end Go.Proofs.YtgngepbemgbbeaaGreatDoor

namespace Go.Proofs.YtgngepbemgbbeaaGreatDoor
open Go.RowKit Go.Shelf Go.Sort
attribute [local go_sem] Oper.semAt_some

theorem compact_snoc (a b : Pl) : ∀ p : List Pl, compactL (p ++ [a, b]) = if a = b then compactL (p ++ [a]) else compactL (p ++ [a]) ++ [b]
  | [] => by
    show compactL [a, b] = _
    unfold compactL
    split
    · rename_i h; subst h; rfl
    · rfl
  | [x] => by
    have ih := compact_snoc a b []
    show compactL (x :: a :: [b]) = if a = b then compactL (x :: [a]) else compactL (x :: [a]) ++ [b]
    have e1 : compactL (x :: a :: [b]) = if x = a then compactL (a :: [b]) else x :: compactL (a :: [b]) := compactL.eq_3 _ _ _
    have e2 : compactL (x :: [a]) = if x = a then compactL [a] else x :: compactL [a] := compactL.eq_3 _ _ _
    rw [e1, e2]
    simp only [List.nil_append] at ih
    rw [ih]
    split <;> split <;> simp
  | x :: y :: p => by
    have ih := compact_snoc a b (y :: p)
    have e1 : ∀ t, compactL (x :: y :: t) = if x = y then compactL (y :: t) else x :: compactL (y :: t) := fun t => compactL.eq_3 _ _ _
    simp only [List.cons_append] at ih ⊢
    rw [e1, e1, ih]
    split <;> split <;> simp
theorem compact_take {l : List Pl} {k : Nat} {p q : Pl} (hp : l[k]? = some p) (hq : l[k + 1]? = some q) : compactL (l.take (k + 1 + 1)) = if p = q then compactL (l.take (k + 1)) else compactL (l.take (k + 1)) ++ [q] := by
  have e1 : l.take (k + 1) = l.take k ++ [p] := by rw [List.take_add_one, hp]; rfl
  have e2 : l.take (k + 1 + 1) = l.take k ++ [p, q] := by rw [List.take_add_one, hq, e1]; simp
  rw [e1, e2, compact_snoc]
theorem compact_len : ∀ l : List Pl, (compactL l).length ≤ l.length
  | [] => Nat.le_refl _
  | [_] => Nat.le_refl _
  | x :: y :: l => by
    have := compact_len (y :: l)
    rw [compactL.eq_3]
    split
    · simp only [List.length_cons] at this ⊢; omega
    · simp only [List.length_cons] at this ⊢; omega
section
variable {B : Nat} {l : List Pl} {R : List (Nat × List Value)} {w W : World}
theorem PzAt.far (h : PzAt B l R w W) {o : Nat} (ho : l.length * 2 ≤ o) (v : Value) : PzAt B l R w (W.setCell ⟨B, o, none⟩ v) := by
  refine ⟨⟨h.az.bw.setCell h.hB _, fun x hx => (h.az.row x hx).other (h.ne x hx) _ _⟩, ⟨fun k x hx => ?_, fun o' ho' => ?_, by simpa using h.ns.sz⟩, h.hB, h.ne⟩
  · have hk : k < l.length := (List.getElem?_eq_some_iff.1 hx).1
    obtain ⟨c0, c1⟩ := h.ns.row k x hx
    constructor
    · rw [World.cell?_setCell_other _ _ _ _ (fun e => by have := congrArg Addr.off e; simp at this; omega)]
      exact c0
    · rw [World.cell?_setCell_other _ _ _ _ (fun e => by have := congrArg Addr.off e; simp at this; omega)]
      exact c1
  · have := h.ns.fz o' ho'
    simpa [go_sem] using this
theorem PzAt.fars (h : PzAt B l R w W) : ∀ (vs : List Value) (o : Nat), l.length * 2 ≤ o → PzAt B l R w (W.setCells B o vs) := by
  intro vs
  induction vs generalizing W with
  | nil => intro o _; exact h
  | cons v vs ih => intro o ho; exact ih (h.far ho v) (o + 1) (by omega)
theorem PzAt.take (h : PzAt B l R w W) (k : Nat) : PzAt B (l.take k) R w W := by
  refine ⟨h.az, ⟨fun j x hx => ?_, fun o ho => h.ns.fz o ?_, h.ns.sz⟩, h.hB, h.ne⟩
  · rw [List.getElem?_take] at hx
    split at hx
    · exact h.ns.row j x hx
    · cases hx
  · rw [List.length_take] at ho; omega
theorem zeros_one (n : Nat) : ∀ v ∈ (Builtin.zeroCells #[.int .i64 0, .int .i64 0] n).toList, v.oneCell' = true := by
  intro v hv
  simp [Builtin.zeroCells] at hv
  obtain ⟨i, _, rfl⟩ := hv
  rcases Nat.mod_two_eq_zero_or_one i with e | e <;> rw [e] <;> rfl
theorem clear_run (h : PzAt B l R w W) {k n cap : Nat} (hk : k < n) (hl : l.length = n) (ty : TypeId) :
    (Builtin.clear_ #[27] ty #[.slice (some ⟨B, k * 2, none⟩) (n - k) cap]).run Tryz.prog W = .ok (.tuple #[]) (W.setCells B (k * 2) (Builtin.zeroCells #[.int .i64 0, .int .i64 0] (n - k)).toList) := by
  have hsz := zeroCells_size #[.int .i64 0, .int .i64 0] (n - k)
  have hl2 : (Builtin.zeroCells #[.int .i64 0, .int .i64 0] (n - k)).toList.length = (n - k) * 2 := by simpa using hsz
  have hst := run_storeCells_cells (P := Tryz.prog) B (k * 2) (Builtin.zeroCells #[.int .i64 0, .int .i64 0] (n - k)).toList 0 W (by
    intro j hj
    rw [hl2] at hj
    rw [Nat.add_zero]
    have hx : l[(k * 2 + j) / 2]? = some l[(k * 2 + j) / 2] := List.getElem?_eq_getElem (by omega)
    obtain ⟨c0, c1⟩ := h.ns.row _ _ hx
    rcases Nat.mod_two_eq_zero_or_one (k * 2 + j) with e | e
    · rw [show k * 2 + j = (k * 2 + j) / 2 * 2 by omega, c0]; rfl
    · rw [show k * 2 + j = (k * 2 + j) / 2 * 2 + 1 by omega, c1]; rfl) (by
    intro j hj
    rw [hl2] at hj
    exact h.ns.fz _ (by omega)) (zeros_one _)
  simp only [Nat.add_zero] at hst
  obtain ⟨m, hm⟩ : ∃ m, n - k = m + 1 := ⟨n - k - 1, by omega⟩
  rw [hm] at hst ⊢
  have ht : Tryz.prog.underlying 27 = some (.slice 26) := Tryz.underlying27
  have hv : ∀ w, (zeroValue 26).run Tryz.prog w = .ok (.agg #[.int .i64 0, .int .i64 0]) w := Tryz.zeroValue26
  have hz : (Value.agg #[.int .i64 0, .int .i64 0]).cells = #[.int .i64 0, .int .i64 0] := rfl
  simp [Builtin.clear_, run_underlying ht, hv, hz, hst]
end
theorem beq_pl {p q : Pl} (h : q ≠ p) : (q.x == p.x) = false ∨ ((q.x == p.x) = true ∧ (q.y == p.y) = false) := by
  by_cases hx : q.x = p.x
  · right
    refine ⟨beq_iff_eq.2 hx, beq_eq_false_iff_ne.2 fun hy => h ?_⟩
    cases p
    cases q
    simp_all
  · exact .inl (beq_eq_false_iff_ne.2 hx)
set_option maxHeartbeats 8000000 in
set_option maxRecDepth 100000 in
theorem compactG_s {B n cap : Nat} {l : List Pl} {R : List (Nat × List Value)} {w W : World} (hl : l.length = n) (hn : n ≤ 1000000) (hc : n ≤ cap) (h : PzAt B l R w W) :
    Calls Tryz.prog 53 #[.slice (some ⟨B, 0, none⟩) n cap] W fun e W' => e = .returned (.slice (some ⟨B, 0, none⟩) (compactL l).length cap) ∧ PzAt B (compactL l) R w W' := by
  have HL := Lib.hid hl
  have HZ := Lib.hid h
  obtain ⟨T, hT⟩ : ∃ T, T = compactL l := ⟨_, rfl⟩
  obtain ⟨m, hm⟩ : ∃ m, m = T.length := ⟨_, rfl⟩
  rw [← hT, ← hm]
  have HT := Lib.hid (And.intro hT hm)
  clear hl h hT hm
  by_cases hn2 : n < 2
  · have hn3 : (n : Int) < 2 := by omega
    have e : compactL l = l := by
      have := HL.out
      match l, this with
      | [], _ => rfl
      | [_], _ => rfl
      | _ :: _ :: _, h => simp at h; omega
    obtain ⟨h1, h2⟩ := HT.out
    rw [e] at h1
    subst h1
    rw [HL.out] at h2
    subst h2
    clear e
    go_enter Tryz.func53, Tryz.ntmps53
    go_wp2
    go_ret
    exact ⟨rfl, HZ.out⟩
  go_enter Tryz.func53, Tryz.ntmps53
  go_wp2
  go_loopw [3] (fun i wr => ∃ k : Nat, 1 ≤ k ∧ k ≤ n ∧ i = .int .i64 (k : Int) ∧ compactL (l.take k) = l.take k ∧ PzAt B l R w wr) (fun i _ => n - (intOf i).toNat)
  case atStart =>
    refine ⟨1, by omega, by omega, rfl, ?_, HZ.out⟩
    have := HL.out
    match l, this with
    | [], h => simp at h; omega
    | _ :: _, _ => rfl
  case round =>
    obtain ⟨k, hk1, hk, rfl, hct, hz⟩ := hrel
    by_cases hlt : k < n
    · obtain ⟨kp, rfl⟩ : ∃ kp, k = kp + 1 := ⟨k - 1, by omega⟩
      obtain ⟨p, hp⟩ : ∃ p, l[kp]? = some p := ⟨l[kp]'(by have := HL.out; omega), List.getElem?_eq_getElem _⟩
      obtain ⟨q, hq⟩ : ∃ q, l[kp + 1]? = some q := ⟨l[kp + 1]'(by have := HL.out; omega), List.getElem?_eq_getElem _⟩
      obtain ⟨c0, c1'⟩ := hz.ns.row kp p hp
      obtain ⟨d0, d1⟩ := hz.ns.row (kp + 1) q hq
      have HC := Lib.hid (And.intro (compact_take hp hq) hct)
      have HK := Lib.hid hz
      have HPQ := Lib.hid (And.intro hp hq)
      clear hct hz hp hq
      have hwp : IntKind.i64.wrap (kp : Int) = (kp : Int) := IntWalk.i64_in _ (by omega)
      have jz : (kp : Int) + 1 < (n : Int) := by omega
      have jz1 : (kp : Int) < (n : Int) := by omega
      have p0 : (0 : Int) ≤ (kp : Int) + 1 := by omega
      have e0 : ((kp : Int) + 1).toNat = kp + 1 := by omega
      rw [show ((kp + 1 : Nat) : Int) = (kp : Int) + 1 from by omega]
      by_cases hpq : q = p
      · subst hpq
        go_wp2
        go_region
        all_goals
          obtain ⟨d, hd⟩ : ∃ d, d = n - (kp + 1) := ⟨_, rfl⟩
          obtain ⟨cd, hcd⟩ : ∃ cd, cd = cap - (kp + 1) := ⟨_, rfl⟩
          have HC1 := Lib.hid (show compactL (l.take (kp + 1 + 0 + 1)) = l.take (kp + 1) from by rw [Nat.add_zero, HC.out.1, if_pos trivial, HC.out.2])
          clear HC d0 d1 c0 c1'
          go_wp2
          rw [← hd, ← hcd]
          have HD := Lib.hid (And.intro hd hcd)
          clear hd hcd
          go_loopw [3, 5] (fun v3 v5 wq => ∃ (kk j : Nat) (cur : List Pl), v3 = .int .i64 (kk : Int) ∧ v5 = .int .i64 ((j : Int) + 1) ∧ kp + 1 + j + 1 ≤ n ∧ kk = (compactL (l.take (kp + 1 + j + 1))).length ∧ kk < kp + 1 + j + 1 ∧ cur.length = n ∧ cur.take kk = compactL (l.take (kp + 1 + j + 1)) ∧ (∀ i, kk ≤ i → cur[i]? = l[i]?) ∧ PzAt B cur R w wq) (fun _ v5 _ => n - (intOf v5).toNat)
          case atStart =>
            refine ⟨kp + 1, 0, l, by go_num, rfl, by omega, ?_, by omega, HL.out, HC1.out.symm, fun _ _ => rfl, HK.out.drew⟩
            rw [HC1.out, List.length_take, HL.out]
            omega
          case round =>
            obtain ⟨kk, j, cur, rfl, rfl, hj, hkk, hkj, hcl, hct, hcr, hq⟩ := hrel
            have HQ := Lib.hid hq
            have HR := Lib.hid (And.intro hkk (And.intro hcl (And.intro hct hcr)))
            clear hq hkk hcl hct hcr
            have wj : IntKind.i64.wrap (j : Int) = (j : Int) := IntWalk.i64_in _ (by omega)
            have wk : IntKind.i64.wrap ((kk : Int) + 1) = (kk : Int) + 1 := IntWalk.i64_in _ (by omega)
            have kn : (kk : Int) < (n : Int) := by omega
            have kz : (0 : Int) ≤ (kk : Int) := by omega
            have jz2 : (0 : Int) ≤ (j : Int) := by omega
            have jz3 : (0 : Int) ≤ (j : Int) + 1 := by omega
            have je : ((j : Int) + 1).toNat = j + 1 := by omega
            by_cases hlt2 : kp + 1 + j + 1 < n
            · obtain ⟨a, hla⟩ : ∃ a, l[kp + 1 + j]? = some a := ⟨l[kp + 1 + j]'(by have := HL.out; omega), List.getElem?_eq_getElem _⟩
              obtain ⟨b, hlb⟩ : ∃ b, l[kp + 1 + j + 1]? = some b := ⟨l[kp + 1 + j + 1]'(by have := HL.out; omega), List.getElem?_eq_getElem _⟩
              obtain ⟨a0, a1⟩ := HQ.out.ns.row (kp + 1 + j) a (by rw [HR.out.2.2.2 _ (by omega)]; exact hla)
              obtain ⟨b0, b1⟩ := HQ.out.ns.row (kp + 1 + j + 1) b (by rw [HR.out.2.2.2 _ (by omega)]; exact hlb)
              have HC2 := Lib.hid (compact_take hla hlb)
              rw [show (kp + 1 + j) * 2 = (kp + 1) * 2 + j * 2 by omega] at a0 a1
              rw [show (kp + 1 + j + 1) * 2 = (kp + 1) * 2 + (j + 1) * 2 by omega] at b0 b1
              have HLB := Lib.hid hlb
              clear hla hlb
              have jd : (j : Int) + 1 < (d : Int) := by have := HD.out.1; omega
              have jd0 : (j : Int) < (d : Int) := by omega
              have jdd : decide ((j : Int) + 1 < (d : Int)) = true := decide_eq_true jd
              by_cases hab : b = a
              · subst hab
                go_wp2
                go_region
                all_goals
                  go_wp2
                  refine ⟨⟨kk, j + 1, cur, rfl, by go_num, by omega, ?_, by omega, HR.out.2.1, ?_, HR.out.2.2.2, HQ.out.drew⟩, by simp only [intOf]; omega⟩
                  · rw [show kp + 1 + (j + 1) + 1 = kp + 1 + j + 1 + 1 by omega, HC2.out, if_pos trivial]
                    exact HR.out.1
                  · rw [show kp + 1 + (j + 1) + 1 = kp + 1 + j + 1 + 1 by omega, HC2.out, if_pos trivial]
                    exact HR.out.2.2.1
              · have hne : ¬ a = b := fun e => hab e.symm
                rcases beq_pl hab with hx | ⟨hx, hy⟩
                all_goals
                  clear hab
                  go_wp2
                  go_region
                  all_goals
                    obtain ⟨y, hy'⟩ : ∃ y, cur[kk]? = some y := ⟨cur[kk]'(by have := HR.out.2.1; omega), List.getElem?_eq_getElem _⟩
                    obtain ⟨t0, t1⟩ := HQ.out.ns.row kk y hy'
                    have f0 := HQ.out.ns.fz (kk * 2) (by rw [HR.out.2.1]; omega)
                    have f1 := HQ.out.ns.fz (kk * 2 + 1) (by rw [HR.out.2.1]; omega)
                    clear hy'
                    go_wp2
                    refine ⟨⟨kk + 1, j + 1, cur.set kk b, by go_num, by go_num, by omega, ?_, by omega, by rw [List.length_set]; exact HR.out.2.1, ?_, ?_, HQ.out.drew.set (by rw [HR.out.2.1]; omega) b⟩, by simp only [intOf]; omega⟩
                    · rw [show kp + 1 + (j + 1) + 1 = kp + 1 + j + 1 + 1 by omega, HC2.out, if_neg hne, List.length_append, ← HR.out.1]
                      rfl
                    · rw [show kp + 1 + (j + 1) + 1 = kp + 1 + j + 1 + 1 by omega, HC2.out, if_neg hne, ← HR.out.2.2.1, List.take_add_one, List.getElem?_set_self (by have := HR.out.2.1; omega), List.take_set_of_le (Nat.le_refl _)]
                      rfl
                    · intro i hi
                      rw [List.getElem?_set_ne (by omega)]
                      exact HR.out.2.2.2 i (by omega)
            · have hjn : kp + 1 + j + 1 = n := by omega
              have hdd : (d : Int) = (j : Int) + 1 := by have := HD.out.1; omega
              have jdd : decide ((j : Int) + 1 < (d : Int)) = false := decide_eq_false (by omega)
              have jd : ¬ (j : Int) + 1 < (d : Int) := by omega
              have hT2 : compactL (l.take (kp + 1 + j + 1)) = T := by rw [hjn, HT.out.1, List.take_of_length_le (by rw [HL.out]; exact Nat.le_refl _)]
              have hkm : kk = m := by rw [HR.out.1, hT2, HT.out.2]
              have hkt : cur.take kk = T := by rw [HR.out.2.2.1, hT2]
              subst hkm
              have hcl := fun ty => clear_run HQ.out (k := kk) (n := n) (cap := cap - kk) (by omega) HR.out.2.1 ty
              have HW := Lib.hid (show PzAt B T R w (wr.setCells B (kk * 2) (Builtin.zeroCells #[.int .i64 0, .int .i64 0] (n - kk)).toList) from by
                have := HQ.out.take kk
                rw [hkt] at this
                exact this.fars _ _ (by rw [← hkt, List.length_take]; omega))
              have kn2 : (kk : Int) ≤ (n : Int) := by omega
              have kc : (kk : Int) ≤ (cap : Int) := by omega
              clear hT2 hkt hdd hjn
              go_wp2
              go_ret
              exact ⟨rfl, HW.out⟩
      · have hne : ¬ p = q := fun e => hpq e.symm
        rcases beq_pl hpq with hx | ⟨hx, hy⟩
        all_goals
          clear hpq
          go_wp2
          go_region
          all_goals
            go_wp2
            refine ⟨⟨kp + 1 + 1, by omega, by omega, by go_num, ?_, HK.out.drew⟩, by simp only [intOf]; omega⟩
            rw [HC.out.1, if_neg hne, HC.out.2, List.take_add_one (i := kp + 1), HPQ.out.2]
            rfl
    · obtain rfl : k = n := by omega
      have HK := Lib.hid hz
      have e : compactL l = l := by rwa [List.take_of_length_le (by rw [HL.out]; exact Nat.le_refl _)] at hct
      obtain ⟨h1, h2⟩ := HT.out
      rw [e] at h1
      subst h1
      rw [HL.out] at h2
      subst h2
      clear hz hct e
      go_wp2
      go_ret
      exact ⟨rfl, HK.out⟩
end Go.Proofs.YtgngepbemgbbeaaGreatDoor

namespace Go.Proofs.YtgngepbemgbbeaaGreatDoor
open Go.RowKit Go.Shelf Go.Sort
attribute [local go_sem] Oper.semAt_some

theorem few_all {ps : List Pl} (hv : fewB ps = true) : ∀ q ∈ ps, vP q = true := by
  unfold fewB at hv
  simp only [Bool.and_eq_true] at hv
  exact List.all_eq_true.1 hv.2
theorem few_len {ps : List Pl} (hv : fewB ps = true) : 1 ≤ ps.length ∧ ps.length ≤ 40 := by
  unfold fewB at hv
  simp only [Bool.and_eq_true, decide_eq_true_eq] at hv
  exact hv.1
theorem sP_len {ps : List Pl} (hv : fewB ps = true) : 1 ≤ (sP ps).length ∧ (sP ps).length ≤ ps.length := by
  have hall := few_all hv
  have hl := few_len hv
  obtain ⟨a1, a2⟩ := sP_asc hall
  refine ⟨?_, ?_⟩
  · cases ps with
    | nil => simp at hl
    | cons x l => exact List.length_pos_of_mem ((a2 x).2 (by simp))
  · have := compact_len (sortN ltP ps)
    rw [sortN_length] at this
    exact this
set_option maxHeartbeats 8000000 in
set_option maxRecDepth 100000 in
theorem hullG_s {B cap n : Nat} {ps : List Pl} (hl : ps.length = n) (hv : fewB ps = true) (w : World) (h : PsAt B ps w) :
    Calls Tryz.prog 22 #[.slice (some ⟨B, 0, none⟩) n cap] w fun e W' => (∃ g c, e = .returned (.tuple #[.slice (some ⟨g, 0, none⟩) (hullL ps).length c, .int .i64 0]) ∧ ArAt g (plC (hullL ps)) W') ∧ Below w.heap.size w W' := by
  have hall := few_all hv
  have hlen := few_len hv
  have hsl := sP_len hv
  obtain ⟨Q, hQ⟩ : ∃ Q, Q = sP ps := ⟨_, rfl⟩
  obtain ⟨m, hQl⟩ : ∃ m, Q.length = m := ⟨_, rfl⟩
  rw [← hQ, hQl] at hsl
  have hn1 : 1 ≤ n := by omega
  have hQv : ∀ p ∈ Q, vP p = true := fun p hp => hall p (((sP_asc hall).2 p).1 (by rwa [hQ] at hp))
  have KF := Lib.hid (few_s (cap := cap) hl (by omega) w h)
  rw [hv] at KF
  have K1 := Lib.hid (fun (W : World) (hb : Below w.heap.size w W) => clone_s (cap := cap) hl (by omega) (R := []) (w := w) (W := W) ⟨hb, fun x hx => by cases hx⟩ (h.below hb))
  have K2 := Lib.hid (fun (g c : Nat) (W : World) (hz : OzAt 26 (.slice (some ⟨g, 0, none⟩) n c) n (plC ps) [] w W) => sortG_s (cap := c) hl (by omega) hz.pz)
  have K3 := Lib.hid (fun (g c : Nat) (l' : List Pl) (W : World) (hc : n ≤ c) (hz : l'.length = n ∧ (∀ q, q ∈ l' ↔ q ∈ ps) ∧ l'.Pairwise (fun a b => ltP b a = false) ∧ PzAt g l' [] w W) =>
    (show Calls Tryz.prog 53 #[.slice (some ⟨g, 0, none⟩) n c] W fun e W' => e = .returned (.slice (some ⟨g, 0, none⟩) m c) ∧ PzAt g Q [] w W' from by
      have := compactG_s (cap := c) hz.1 (by omega) hc hz.2.2.2
      rw [sP_of hall hz.2.1 hz.2.2.1, ← hQ, hQl] at this
      exact this))
  by_cases h3 : m < 3
  · have hH : hullL ps = Q := by rw [hullL_sP, ← hQ, if_pos (by omega)]
    rw [hH, hQl]
    have hg3 : decide ((m : Int) < 3) = true := decide_eq_true (by omega)
    have hg4 : (m : Int) < 3 := by omega
    clear hall hQ hQl hQv hH hv h hl hsl hlen
    go_enter Tryz.func22, Tryz.ntmps22
    go_wp2_with (first
      | (go_at_call 48; (with_reducible refine (KF.out).mono ?_); rintro e w1 ⟨rfl, hb⟩; have H1 := Lib.hid hb; clear hb)
      | (go_at_call 50; (with_reducible refine (K1.out _ H1.out).mono ?_); rintro e w2 ⟨v, rfl, hz⟩; obtain ⟨g, c, rfl⟩ : ∃ g c, v = .slice (some ⟨g, 0, none⟩) n c := own_pos hz (by omega); have H2 := Lib.hid hz; have hcap := hz.cap_le.1; clear hz)
      | (go_at_call 51; (with_reducible refine (K2.out _ _ _ H2.out).mono ?_); rintro e w3 ⟨rfl, l', hz⟩; have H3 := Lib.hid hz; clear hz)
      | (go_at_call 53; (with_reducible refine (K3.out _ _ _ _ hcap H3.out).mono ?_); rintro e w4 ⟨rfl, hz⟩; have H4 := Lib.hid hz; clear hz)
      | fail)
    refine bodyPost_ret (v := .tuple #[.slice (some ⟨g, 0, none⟩) m c, .int .i64 0]) ?_ rfl ⟨⟨g, c, rfl, H4.out.ar.row (g, plC Q) (by simp)⟩, H4.out.az.bw⟩
    simp [results, Tryz.results22, go_sem]
  have hH : hullL ps = (chainL leftP Q).dropLast ++ (chainL leftP Q.reverse).dropLast := by rw [hullL_sP, ← hQ, if_neg (by omega)]
  obtain ⟨p1, hp1⟩ : ∃ p1, (chainR leftP Q).length = p1 + 1 := ⟨(chainR leftP Q).length - 1, by have := chainR_two (ok := leftP) (l := Q) (by omega); omega⟩
  obtain ⟨p2, hp2⟩ : ∃ p2, (chainR leftP Q.reverse).length = p2 + 1 := ⟨(chainR leftP Q.reverse).length - 1, by have := chainR_two (ok := leftP) (l := Q.reverse) (by simp; omega); omega⟩
  have b1 := chainR_two (ok := leftP) (l := Q) (by omega)
  have b2 := chainR_le (ok := leftP) (l := Q)
  have b3 := chainR_le (ok := leftP) (l := Q.reverse)
  rw [List.length_reverse] at b3
  have hHl : (hullL ps).length = p1 + p2 := by
    rw [hH, List.length_append, List.length_dropLast, List.length_dropLast]
    unfold chainL
    rw [List.length_reverse, List.length_reverse]
    omega
  have HH := Lib.hid hH
  rw [hHl]
  have K4 := Lib.hid (fun (g c : Nat) (W : World) (hz : PsAt g Q W) => chain_s (cap := c) hQl (by omega) hQv hz)
  rw [hp1] at K4
  have K5 := Lib.hid (fun (g c : Nat) (R : List (Nat × List Value)) (W : World) (hz : PzAt g Q R w W) => reverse_s (cap := c) hQl (by omega) (by omega) hz)
  have K6 := Lib.hid (fun (g c : Nat) (W : World) (hz : PsAt g Q.reverse W) => chain_s (cap := c) (n := m) (l := Q.reverse) (by rw [List.length_reverse, hQl]) (by omega) (fun p hp => hQv p (List.mem_reverse.1 hp)) hz)
  rw [hp2] at K6
  have d1 : (chainL leftP Q).dropLast.length = p1 := by unfold chainL; rw [List.length_dropLast, List.length_reverse]; omega
  have d2 : (chainL leftP Q.reverse).dropLast.length = p2 := by unfold chainL; rw [List.length_dropLast, List.length_reverse]; omega
  have K7 := Lib.hid (fun (S g1 g2 c1 c2 cs : Nat) (W : World) hA => concat_s (S := S) (g1 := g1) (g2 := g2) (c1 := c1) (c2 := c2) (cs := cs) (w := w) (W := W) d1 d2 (by omega) hA)
  rw [← hH] at K7
  have hw1 : IntKind.i64.wrap (p1 : Int) = (p1 : Int) := IntWalk.i64_in _ (by omega)
  have hw2 : IntKind.i64.wrap (p2 : Int) = (p2 : Int) := IntWalk.i64_in _ (by omega)
  have hn3 : ¬ (m : Int) < 3 := by omega
  have hn4 : ¬ m < 3 := by omega
  clear hall hQ hQl hQv hH hv hp1 hp2 b1 b2 b3 hHl d1 d2 h hl hsl hlen h3
  go_enter Tryz.func22, Tryz.ntmps22
  go_wp2_with (first
    | (go_at_call 48; (with_reducible refine (KF.out).mono ?_); rintro e w1 ⟨rfl, hb⟩; have H1 := Lib.hid hb; clear hb)
    | (go_at_call 50; (with_reducible refine (K1.out _ H1.out).mono ?_); rintro e w2 ⟨v, rfl, hz⟩; obtain ⟨g, c, rfl⟩ : ∃ g c, v = .slice (some ⟨g, 0, none⟩) n c := own_pos hz (by omega); have H2 := Lib.hid hz; have hcap := hz.cap_le.1; clear hz)
    | (go_at_call 51; (with_reducible refine (K2.out _ _ _ H2.out).mono ?_); rintro e w3 ⟨rfl, l', hz⟩; have H3 := Lib.hid hz; clear hz)
    | (go_at_call 53; (with_reducible refine (K3.out _ _ _ _ hcap H3.out).mono ?_); rintro e w4 ⟨rfl, hz⟩; have H4 := Lib.hid hz; clear hz)
    | (go_at_call 57; (with_reducible refine (K5.out _ _ _ _ H5.out).mono ?_); rintro e w6 ⟨rfl, hz⟩; have H6 := Lib.hid hz; clear hz)
    | (go_at_call 56; have _ := H6; (with_reducible refine (K6.out _ _ _ H6.out.ps).mono ?_); rintro e w7 ⟨v, rfl, hb, hz⟩; obtain ⟨g2, c2, rfl⟩ : ∃ g c, v = .slice (some ⟨g, 0, none⟩) (p2 + 1) c := own_pos hz (by omega); have H7 := Lib.hid (show AzAt [(g2, plC (chainL leftP Q.reverse)), (g1, plC (chainL leftP Q))] w _ from (H6.out.below hb).az.cons (hz.ar.row (g2, plC (chainL leftP Q.reverse)) (by simp))); have hq2 := hz.cap_le; clear hb hz)
    | (go_at_call 56; (with_reducible refine (K4.out _ _ _ H4.out.ps).mono ?_); rintro e w5 ⟨v, rfl, hb, hz⟩; obtain ⟨g1, c1, rfl⟩ : ∃ g c, v = .slice (some ⟨g, 0, none⟩) (p1 + 1) c := own_pos hz (by omega); have H5 := Lib.hid (show PzAt g Q [(g1, plC (chainL leftP Q))] w _ from (H4.out.below hb).cons (hz.ar.row (g1, plC (chainL leftP Q)) (by simp)) (by have := (hz.blk rfl).2.1; have := H4.out.ns.sz; omega)); have hq1 := hz.cap_le; clear hb hz)
    | fail)
  have H8 := Lib.hid (show AzAt [(w7.heap.size, [.slice (some ⟨g1, 0, none⟩) p1 c1, .slice (some ⟨g2, 0, none⟩) p2 c2]), (g1, plC (chainL leftP Q).dropLast), (g2, plC (chainL leftP Q.reverse).dropLast)] w _ from
    ((AzAt.mk (L := [(g1, plC (chainL leftP Q).dropLast), (g2, plC (chainL leftP Q.reverse).dropLast)]) H7.out.bw (fun x hx => by
      rcases List.mem_cons.1 hx with rfl | hx
      · exact (H7.out.row (g1, plC (chainL leftP Q)) (by simp)).dropLast
      · rcases List.mem_cons.1 hx with rfl | hx
        · exact (H7.out.row (g2, plC (chainL leftP Q.reverse)) (by simp)).dropLast
        · cases hx)).push [.slice (some ⟨g1, 0, none⟩) p1 c1, .slice (some ⟨g2, 0, none⟩) p2 c2] 27).drew)
  have hc1 : (p1 : Int) ≤ (c1 : Int) := by omega
  have hc2 : (p2 : Int) ≤ (c2 : Int) := by omega
  clear H7 H6 H5 H4 H3 H2 H1 K1 K2 K3 K4 K5 K6
  go_region_with (first
    | (go_at_call 58; (with_reducible refine (K7.out _ _ _ _ _ _ _ H8.out).mono ?_); rintro e w8 ⟨g3, c3, rfl, hz⟩; have H9 := Lib.hid hz; clear hz)
    | fail)
  all_goals
    go_wp2
    refine bodyPost_ret (v := .tuple #[.slice (some ⟨g3, 0, none⟩) (p1 + p2) c3, .int .i64 0]) ?_ rfl ⟨⟨g3, c3, rfl, H9.out.ar.row (g3, plC (hullL ps)) (by simp)⟩, H9.out.az.bw⟩
    simp [results, Tryz.results22, go_sem]
end Go.Proofs.YtgngepbemgbbeaaGreatDoor

namespace Go.Proofs.YtgngepbemgbbeaaGreatDoor
open Go.RowKit Go.Shelf Go.Sort
attribute [local go_sem] Oper.semAt_some

/-- Part of a list of places lies as part of its cells. -/
theorem plC_part {ls qs : List Pl} {o : Nat} (h : ∀ (k : Nat) (q : Pl), qs[k]? = some q → ls[o + k]? = some q) : ∀ (j : Nat) (u : Value), (plC qs)[j]? = some u → (plC ls)[o * 2 + j]? = some u :=
  plC_cells (f := fun i => (plC ls)[o * 2 + i]?) fun k q hq => by
    have := plC_at (h k q hq)
    rw [show o * 2 + k * 2 = (o + k) * 2 by omega, show o * 2 + (k * 2 + 1) = (o + k) * 2 + 1 by omega]
    exact this
theorem drop_part (ls : List Pl) (o : Nat) : ∀ (k : Nat) (q : Pl), (ls.drop o)[k]? = some q → ls[o + k]? = some q := fun k q h => by rwa [List.getElem?_drop] at h
theorem take_part (ls : List Pl) (o : Nat) : ∀ (k : Nat) (q : Pl), (ls.take o)[k]? = some q → ls[0 + k]? = some q := fun k q h => by
  rw [List.getElem?_take] at h
  split at h
  · rwa [Nat.zero_add]
  · cases h
theorem step_append_pl {ops : Array Oper} {o : Oper} {a : Act} {w0 w : World} {K : Act → World → Prop} {Q : Exit → Act → World → Prop} {E : Prop} (hg : o.guard = none) (s x : Operand)
    (hop : o.op = Op.call { callee := Callee.builtin Builtin.append, args := #[s, x], argTypes := #[27, 27] })
    (v : Value) (n : Nat) (ps : List Pl) (R : List (Nat × List Value)) (hs : a.eval s = v) (hZ : OzAt 26 v n (plC ps) R w0 w)
    (B o2 m c : Nat) (ls qs : List Pl) (hx : a.eval x = .slice (some ⟨B, o2 * 2, none⟩) m c) (hm : qs.length = m) (hB : (B, plC ls) ∈ R) (hq : ∀ (k : Nat) (q : Pl), qs[k]? = some q → ls[o2 + k]? = some q)
    (hb : n + m ≤ 1000000)
    (hK : ∀ v' w', OzAt 26 v' (n + m) (plC (ps ++ qs)) R w0 w' → K (a.put o.dst v') w') :
    if Region.wanted o (yielded ops a.tmps) = true then Oper.wp Tryz.prog o a w K Q else E := by
  have hw : Region.wanted o (yielded ops a.tmps) = true := by simp [Region.wanted, hg]
  rw [if_pos hw]
  obtain ⟨i0, hi0, hz0, hz1, hz2⟩ := info_parts info_place
  have hrow := hZ.az.row (B, plC ls) hB
  obtain ⟨v', w', hr, h2, h3, h4, h5⟩ := run_append_own_at (P := Tryz.prog) w w0.heap.size 27 o.type 26 i0 (.agg #[.int .i64 0, .int .i64 0]) 2 16 Tryz.underlying27 hi0 hz0 hz1 hz2 rfl (by decide)
    v n (plC ps) hZ.own ⟨B, o2 * 2, none⟩ m c (plC qs) (by rw [plC_length, hm]) (fun j u hj => by
      have := hrow.row _ _ (plC_part hq j u hj)
      rw [show (⟨B, o2 * 2, none⟩ : Addr).add j = ⟨B, o2 * 2 + j, none⟩ by unfold Addr.add; split <;> simp_all]
      exact this) (plC_one qs) (by unfold maxLen; omega) (by omega) hZ.az.bw.size
  have hz := hZ.grown h2 h3 h5
  rw [← plC_append] at hz
  unfold Oper.wp
  simp [execOp, hop, resolve, invoke, builtin, hs, hx, hr, Result.andThen]
  exact hK v' w' hz
theorem OzAt.push1 {v : Value} {n : Nat} {xs : List Value} {R : List (Nat × List Value)} {w W : World} (h : OzAt 26 v n xs R w W) (z : Pl) : OzAt 26 v n xs ((W.heap.size, plC [z]) :: R) w (W.alloc (.cells #[.int .i64 z.x, .int .i64 z.y] 26)) := h.push (plC [z]) 26
theorem AzAt.push1 {R : List (Nat × List Value)} {w W : World} (h : AzAt R w W) (z : Pl) : AzAt ((W.heap.size, plC [z]) :: R) w (W.alloc (.cells #[.int .i64 z.x, .int .i64 z.y] 26)) := h.push (plC [z]) 26
theorem OzAt.lit0 {R : List (Nat × List Value)} {w W : World} (h : AzAt R w W) : OzAt 26 (.slice (some ⟨W.heap.size, 0, none⟩) 0 0) 0 (plC []) R w (W.alloc (.cells #[] 26)) := OzAt.lit h [] 26 0 rfl (by omega)
end Go.Proofs.YtgngepbemgbbeaaGreatDoor

namespace Go.Proofs.YtgngepbemgbbeaaGreatDoor
open Go.RowKit Go.Shelf Go.Sort
attribute [local go_sem] Oper.semAt_some

/-- The place that two integers determine. -/
def plN (x y : Int) : Pl := ⟨(pickN x 40 : Nat), (pickN y 40 : Nat)⟩
theorem plN_b (x y : Int) : (0 ≤ (plN x y).x ∧ (plN x y).x ≤ 39) ∧ (0 ≤ (plN x y).y ∧ (plN x y).y ≤ 39) := by
  have h1 := pickN_lt x (n := 40) (by decide)
  have h2 := pickN_lt y (n := 40) (by decide)
  unfold plN
  simp only
  omega
theorem vP_of {p : Pl} (h : (0 ≤ p.x ∧ p.x ≤ 4095) ∧ (0 ≤ p.y ∧ p.y ≤ 4095)) : vP p = true := by
  unfold vP
  simp only [Bool.and_eq_true, decide_eq_true_eq]
  omega
theorem plN_v (x y : Int) : vP (plN x y) = true := vP_of (by have := plN_b x y; omega)
theorem plN_s {x y : Int} (hx : -9223372036854775808 ≤ x ∧ x ≤ 9223372036854775807) (hy : -9223372036854775808 ≤ y ∧ y ≤ 9223372036854775807) (w : World) :
    Calls Tryz.prog 37 #[.agg #[.int .i64 x, .int .i64 y]] w fun e W' => e = .returned (.agg #[.int .i64 (plN x y).x, .int .i64 (plN x y).y]) ∧ Below w.heap.size w W' := place_s hx.1 hx.2 hy.1 hy.2 w
/-- What a place is moved to. -/
def mvN (p : Pl) (x y : Int) : Pl := p.mv (pickN x 1000 : Nat) (pickN y 1000 : Nat)
theorem mvN_v {p : Pl} (h : (0 ≤ p.x ∧ p.x ≤ 39) ∧ (0 ≤ p.y ∧ p.y ≤ 39)) (x y : Int) : vP (mvN p x y) = true := vP_of (by
  have h1 := pickN_lt x (n := 1000) (by decide)
  have h2 := pickN_lt y (n := 1000) (by decide)
  unfold mvN Pl.mv
  simp only
  omega)
theorem mvN_s {p : Pl} {x y : Int} (hv : vP p = true) (hx : -9223372036854775808 ≤ x ∧ x ≤ 9223372036854775807) (hy : -9223372036854775808 ≤ y ∧ y ≤ 9223372036854775807) (w : World) :
    Calls Tryz.prog 38 #[.agg #[.int .i64 p.x, .int .i64 p.y], .agg #[.int .i64 x, .int .i64 y]] w fun e W' => e = .returned (.agg #[.int .i64 (mvN p x y).x, .int .i64 (mvN p x y).y]) ∧ Below w.heap.size w W' := moved_s hv hx.1 hx.2 hy.1 hy.2 w
set_option maxHeartbeats 8000000 in
set_option maxRecDepth 100000 in
theorem PlaneSides_law (a0 a1 b0 b1 c0 c1 m0 m1 : Int) (ha0 : -9223372036854775808 ≤ a0 ∧ a0 ≤ 9223372036854775807) (ha1 : -9223372036854775808 ≤ a1 ∧ a1 ≤ 9223372036854775807) (hb0 : -9223372036854775808 ≤ b0 ∧ b0 ≤ 9223372036854775807) (hb1 : -9223372036854775808 ≤ b1 ∧ b1 ≤ 9223372036854775807) (hc0 : -9223372036854775808 ≤ c0 ∧ c0 ≤ 9223372036854775807) (hc1 : -9223372036854775808 ≤ c1 ∧ c1 ≤ 9223372036854775807) (hm0 : -9223372036854775808 ≤ m0 ∧ m0 ≤ 9223372036854775807) (hm1 : -9223372036854775808 ≤ m1 ∧ m1 ≤ 9223372036854775807) (w : World) (hq : IOps w ∧ FrOp w) :
    Calls Tryz.prog 4 #[.agg #[.int .i64 a0, .int .i64 a1, .int .i64 b0, .int .i64 b1, .int .i64 c0, .int .i64 c1], .agg #[.int .i64 m0, .int .i64 m1]] w fun e W' => e = .returned (.bool true) ∧ Below w.heap.size w W' := by
  have KS := Lib.hid (fun (W : World) (hb : Below w.heap.size w W) => sane7_s (hq.1.below hb) (hq.2.below hb))
  have KP := Lib.hid (fun (W : World) => plN_s ha0 ha1 W)
  have KQ := Lib.hid (fun (W : World) => plN_s hb0 hb1 W)
  have KR := Lib.hid (fun (W : World) => plN_s hc0 hc1 W)
  have bp := plN_b a0 a1
  have bq := plN_b b0 b1
  have br := plN_b c0 c1
  generalize plN a0 a1 = p at KP bp
  generalize plN b0 b1 = q at KQ bq
  generalize plN c0 c1 = r at KR br
  have vp : vP p = true := vP_of (by omega)
  have vq : vP q = true := vP_of (by omega)
  have vr : vP r = true := vP_of (by omega)
  have MP := Lib.hid (fun (W : World) => mvN_s vp hm0 hm1 W)
  have MQ := Lib.hid (fun (W : World) => mvN_s vq hm0 hm1 W)
  have MR := Lib.hid (fun (W : World) => mvN_s vr hm0 hm1 W)
  have S1 := Lib.hid (fun (W : World) => side_s p q r W)
  have S2 := Lib.hid (fun (W : World) => side_s q p r W)
  rw [side_swap] at S2
  have S3 := Lib.hid (fun (W : World) => side_s p r q W)
  rw [side_swap2] at S3
  have S4 := Lib.hid (fun (W : World) => side_s q r p W)
  rw [side_cyc] at S4
  have S5 := Lib.hid (fun (W : World) => side_s (mvN p m0 m1) (mvN q m0 m1) (mvN r m0 m1) W)
  rw [show sideP (mvN p m0 m1) (mvN q m0 m1) (mvN r m0 m1) = sideP p q r from side_mv (by simp [vp, vq, vr]) (by
    have h1 := mvN_v bp m0 m1
    have h2 := mvN_v bq m0 m1
    have h3 := mvN_v br m0 m1
    unfold mvN at h1 h2 h3
    simp [h1, h2, h3])] at S5
  obtain ⟨n1, n2⟩ := side_range p q r
  generalize sideP p q r = n at S1 S2 S3 S4 S5 n1 n2
  generalize mvN p m0 m1 = p' at MP S5
  generalize mvN q m0 m1 = q' at MQ S5
  generalize mvN r m0 m1 = r' at MR S5
  have hwn : IntKind.i64.wrap (-n) = -n := IntWalk.i64_in _ (by omega)
  have t1 : decide ((-1 : Int) ≤ n) = true := decide_eq_true n1
  have t2 : decide (n ≤ 1) = true := decide_eq_true n2
  have HC := Lib.hid (show AzAt [(w.heap.size + 1, [.int .i64 m0, .int .i64 m1]), (w.heap.size, [.int .i64 a0, .int .i64 a1, .int .i64 b0, .int .i64 b1, .int .i64 c0, .int .i64 c1])] w _ from by
    have hp := ((AzAt.start w).push [.int .i64 a0, .int .i64 a1, .int .i64 b0, .int .i64 b1, .int .i64 c0, .int .i64 c1] 56).push [.int .i64 m0, .int .i64 m1] 55
    simp only [World.size_alloc] at hp
    exact hp)
  clear ha0 ha1 hb0 hb1 hc0 hc1 hm0 hm1 bp bq br vp vq vr hq
  go_enter Tryz.func4, Tryz.ntmps4
  go_wp2_with (first
    | (go_at_call 10; (with_reducible refine (KS.out _ HC.out.bw).mono ?_); rintro e w1 ⟨rfl, hb⟩; replace HC := Lib.hid (HC.out.below hb); clear hb; have x0 := ((HC.out.at (B := w.heap.size) (l := [.int .i64 a0, .int .i64 a1, .int .i64 b0, .int .i64 b1, .int .i64 c0, .int .i64 c1]) (by simp)).row 0 _ rfl); have x1 := ((HC.out.at (B := w.heap.size) (l := [.int .i64 a0, .int .i64 a1, .int .i64 b0, .int .i64 b1, .int .i64 c0, .int .i64 c1]) (by simp)).row 1 _ rfl))
    | (go_at_call 37; (with_reducible refine (KP.out _).mono ?_); rintro e wP ⟨rfl, hb⟩; replace HC := Lib.hid ((HC.out.below hb).push [.int .i64 p.x, .int .i64 p.y] 26); clear hb x0 x1; have x2 := ((HC.out.at (B := w.heap.size) (l := [.int .i64 a0, .int .i64 a1, .int .i64 b0, .int .i64 b1, .int .i64 c0, .int .i64 c1]) (by simp)).row 2 _ rfl); have x3 := ((HC.out.at (B := w.heap.size) (l := [.int .i64 a0, .int .i64 a1, .int .i64 b0, .int .i64 b1, .int .i64 c0, .int .i64 c1]) (by simp)).row 3 _ rfl))
    | (go_at_call 37; (with_reducible refine (KQ.out _).mono ?_); rintro e wQ ⟨rfl, hb⟩; replace HC := Lib.hid ((HC.out.below hb).push [.int .i64 q.x, .int .i64 q.y] 26); clear hb x2 x3; have x4 := ((HC.out.at (B := w.heap.size) (l := [.int .i64 a0, .int .i64 a1, .int .i64 b0, .int .i64 b1, .int .i64 c0, .int .i64 c1]) (by simp)).row 4 _ rfl); have x5 := ((HC.out.at (B := w.heap.size) (l := [.int .i64 a0, .int .i64 a1, .int .i64 b0, .int .i64 b1, .int .i64 c0, .int .i64 c1]) (by simp)).row 5 _ rfl))
    | (go_at_call 37; (with_reducible refine (KR.out _).mono ?_); rintro e wR ⟨rfl, hb⟩; replace HC := Lib.hid ((HC.out.below hb).push [.int .i64 r.x, .int .i64 r.y] 26); clear hb x4 x5; have y0 := ((HC.out.at (B := wP.heap.size) (l := [.int .i64 p.x, .int .i64 p.y]) (by simp)).row 0 _ rfl); have y1 := ((HC.out.at (B := wP.heap.size) (l := [.int .i64 p.x, .int .i64 p.y]) (by simp)).row 1 _ rfl); have y2 := ((HC.out.at (B := wQ.heap.size) (l := [.int .i64 q.x, .int .i64 q.y]) (by simp)).row 0 _ rfl); have y3 := ((HC.out.at (B := wQ.heap.size) (l := [.int .i64 q.x, .int .i64 q.y]) (by simp)).row 1 _ rfl); have y4 := ((HC.out.at (B := wR.heap.size) (l := [.int .i64 r.x, .int .i64 r.y]) (by simp)).row 0 _ rfl); have y5 := ((HC.out.at (B := wR.heap.size) (l := [.int .i64 r.x, .int .i64 r.y]) (by simp)).row 1 _ rfl))
    | (go_at_call 31; (with_reducible refine (S1.out _).mono ?_); rintro e w2 ⟨rfl, hb⟩; replace HC := Lib.hid (HC.out.below hb); clear hb y0 y1 y2 y3 y4 y5)
    | fail)
  have z0 := cell_regrown ((HC.out.at (B := wP.heap.size) (l := [.int .i64 p.x, .int .i64 p.y]) (by simp)).row 0 _ rfl)
  have z1 := cell_regrown ((HC.out.at (B := wP.heap.size) (l := [.int .i64 p.x, .int .i64 p.y]) (by simp)).row 1 _ rfl)
  have z2 := cell_regrown ((HC.out.at (B := wQ.heap.size) (l := [.int .i64 q.x, .int .i64 q.y]) (by simp)).row 0 _ rfl)
  have z3 := cell_regrown ((HC.out.at (B := wQ.heap.size) (l := [.int .i64 q.x, .int .i64 q.y]) (by simp)).row 1 _ rfl)
  have z4 := cell_regrown ((HC.out.at (B := wR.heap.size) (l := [.int .i64 r.x, .int .i64 r.y]) (by simp)).row 0 _ rfl)
  have z5 := cell_regrown ((HC.out.at (B := wR.heap.size) (l := [.int .i64 r.x, .int .i64 r.y]) (by simp)).row 1 _ rfl)
  have z6 := cell_regrown ((HC.out.at (B := w.heap.size + 1) (l := [.int .i64 m0, .int .i64 m1]) (by simp)).row 0 _ rfl)
  have z7 := cell_regrown ((HC.out.at (B := w.heap.size + 1) (l := [.int .i64 m0, .int .i64 m1]) (by simp)).row 1 _ rfl)
  have c0 := fun d os => Calls.regrown_of (d := d) (os := os) (S2.out (grow (redrawn w2 d) os))
  have c1 := fun d os => Calls.regrown_of (d := d) (os := os) (S3.out (grow (redrawn w2 d) os))
  have c2 := fun d os => Calls.regrown_of (d := d) (os := os) (S4.out (grow (redrawn w2 d) os))
  have c3 := fun d os => Calls.regrown_of (d := d) (os := os) (MP.out (grow (redrawn w2 d) os))
  have c4 := fun d os => Calls.regrown_of (d := d) (os := os) (MQ.out (grow (redrawn w2 d) os))
  have c5 := fun d os => Calls.regrown_of (d := d) (os := os) (MR.out (grow (redrawn w2 d) os))
  have c6 := fun d os => Calls.regrown_of (d := d) (os := os) (S5.out (grow (redrawn w2 d) os))
  clear S1 S2 S3 S4 S5 MP MQ MR KS KP KQ KR
  refine wp_region_quiet_below (by kernel_rfl) (by kernel_rfl) ?_
  repeat (go_big_quiet_step (first | with_reducible exact c0 _ _ | with_reducible exact c1 _ _ | with_reducible exact c2 _ _ | with_reducible exact c3 _ _ | with_reducible exact c4 _ _ | with_reducible exact c5 _ _ | with_reducible exact c6 _ _))
  refine wpQuiet_nil ?_
  intro W1 hw'
  have hb1 : Below w2.heap.size w2 W1 := by obtain ⟨⟨dq, osq⟩, hw''⟩ := hw'; rw [hw'']; exact below_regrown w2 dq osq
  have H1 := Lib.hid (HC.out.bw.trans (hb1.mono HC.out.bw.size))
  clear hw' hb1
  go_wp2
  go_ret
  exact ⟨rfl, H1.out⟩
end Go.Proofs.YtgngepbemgbbeaaGreatDoor

namespace Go.Proofs.YtgngepbemgbbeaaGreatDoor
open Go.RowKit Go.Shelf Go.Sort
attribute [local go_sem] Oper.semAt_some

/-- The rectangle that four integers determine. -/
def rcN (x y u v : Int) : Rc := ⟨(pickN x 40 : Nat), (pickN y 40 : Nat), (pickN u 30 : Nat), (pickN v 30 : Nat)⟩
theorem rcN_v (x y u v : Int) : vRc (rcN x y u v) = true := by
  have h1 := pickN_lt x (n := 40) (by decide)
  have h2 := pickN_lt y (n := 40) (by decide)
  have h3 := pickN_lt u (n := 30) (by decide)
  have h4 := pickN_lt v (n := 30) (by decide)
  rw [vRc_iff]
  unfold rcN
  simp only
  omega
set_option maxRecDepth 100000 in
theorem rect_s {x y u v : Int} (hx : -9223372036854775808 ≤ x ∧ x ≤ 9223372036854775807) (hy : -9223372036854775808 ≤ y ∧ y ≤ 9223372036854775807) (hu : -9223372036854775808 ≤ u ∧ u ≤ 9223372036854775807) (hv : -9223372036854775808 ≤ v ∧ v ≤ 9223372036854775807) (w : World) :
    Calls Tryz.prog 13 #[.agg #[.int .i64 x, .int .i64 y, .int .i64 u, .int .i64 v]] w fun e W' => e = .returned (.agg #[.int .i64 (rcN x y u v).x, .int .i64 (rcN x y u v).y, .int .i64 (rcN x y u v).w, .int .i64 (rcN x y u v).h]) ∧ Below w.heap.size w W' := by
  have hmx : Tryz.prog.follows .mixedOrders = true := by kernel_rfl
  have K0 := Lib.hid (show ∀ W : World, Calls Tryz.prog 43 #[.int .i64 x, .int .i64 40] W fun e W' => e = .returned (.int .i64 (pickN x 40 : Nat)) ∧ Below W.heap.size W W' from fun W => (pick_f x 40 hx.1 hx.2 (by decide) (by decide) W).mono fun e W' h => ⟨h.1, h.2 ▸ Below.refl _ _⟩)
  have K1 := Lib.hid (show ∀ W : World, Calls Tryz.prog 43 #[.int .i64 y, .int .i64 40] W fun e W' => e = .returned (.int .i64 (pickN y 40 : Nat)) ∧ Below W.heap.size W W' from fun W => (pick_f y 40 hy.1 hy.2 (by decide) (by decide) W).mono fun e W' h => ⟨h.1, h.2 ▸ Below.refl _ _⟩)
  have K2 := Lib.hid (show ∀ W : World, Calls Tryz.prog 43 #[.int .i64 u, .int .i64 30] W fun e W' => e = .returned (.int .i64 (pickN u 30 : Nat)) ∧ Below W.heap.size W W' from fun W => (pick_f u 30 hu.1 hu.2 (by decide) (by decide) W).mono fun e W' h => ⟨h.1, h.2 ▸ Below.refl _ _⟩)
  have K3 := Lib.hid (show ∀ W : World, Calls Tryz.prog 43 #[.int .i64 v, .int .i64 30] W fun e W' => e = .returned (.int .i64 (pickN v 30 : Nat)) ∧ Below W.heap.size W W' from fun W => (pick_f v 30 hv.1 hv.2 (by decide) (by decide) W).mono fun e W' h => ⟨h.1, h.2 ▸ Below.refl _ _⟩)
  show Calls _ _ _ _ fun e W' => e = .returned (.agg #[.int .i64 (pickN x 40 : Nat), .int .i64 (pickN y 40 : Nat), .int .i64 (pickN u 30 : Nat), .int .i64 (pickN v 30 : Nat)]) ∧ _
  generalize pickN x 40 = n0 at K0 ⊢
  generalize pickN y 40 = n1 at K1 ⊢
  generalize pickN u 30 = n2 at K2 ⊢
  generalize pickN v 30 = n3 at K3 ⊢
  have H0 := Lib.hid (show AzAt [(w.heap.size + 1, [.int .i64 0, .int .i64 0, .int .i64 0, .int .i64 0]), (w.heap.size, [.int .i64 x, .int .i64 y, .int .i64 u, .int .i64 v])] w _ from by
    have hp := ((AzAt.start w).push [.int .i64 x, .int .i64 y, .int .i64 u, .int .i64 v] 23).push [.int .i64 0, .int .i64 0, .int .i64 0, .int .i64 0] 29
    simp only [World.size_alloc] at hp
    exact hp)
  clear hx hy hu hv
  go_enter Tryz.func13, Tryz.ntmps13
  go_wp2
  obtain ⟨W0, hW0⟩ : ∃ W0, W0 = (w.alloc (.cells #[.int .i64 x, .int .i64 y, .int .i64 u, .int .i64 v] 23)).alloc (.cells #[.int .i64 0, .int .i64 0, .int .i64 0, .int .i64 0] 29) := ⟨_, rfl⟩
  have H1 := Lib.hid H0.out
  rw [← hW0] at H1 ⊢
  clear hW0 H0
  refine wp_region_qt0 (A := ?fr) 13 hmx (by kernel_rfl) ?h ?ht
  case h =>
    intro U hU
    have hp := H1.out.below hU
    have z0 := cell_regrown ((hp.at (B := w.heap.size) (l := [.int .i64 x, .int .i64 y, .int .i64 u, .int .i64 v]) (by simp)).row 0 _ rfl)
    have z1 := cell_regrown ((hp.at (B := w.heap.size) (l := [.int .i64 x, .int .i64 y, .int .i64 u, .int .i64 v]) (by simp)).row 1 _ rfl)
    have z2 := cell_regrown ((hp.at (B := w.heap.size) (l := [.int .i64 x, .int .i64 y, .int .i64 u, .int .i64 v]) (by simp)).row 2 _ rfl)
    have z3 := cell_regrown ((hp.at (B := w.heap.size) (l := [.int .i64 x, .int .i64 y, .int .i64 u, .int .i64 v]) (by simp)).row 3 _ rfl)
    have c0 := fun d os => Calls.regrown_of (d := d) (os := os) (K0.out (grow (redrawn U d) os))
    have c1 := fun d os => Calls.regrown_of (d := d) (os := os) (K1.out (grow (redrawn U d) os))
    have c2 := fun d os => Calls.regrown_of (d := d) (os := os) (K2.out (grow (redrawn U d) os))
    have c3 := fun d os => Calls.regrown_of (d := d) (os := os) (K3.out (grow (redrawn U d) os))
    clear hp
    simp only [List.take_succ_cons, List.take_zero]
    repeat (go_big_quiet_step (first | with_reducible exact c0 _ _ | with_reducible exact c1 _ _ | with_reducible exact c2 _ _ | with_reducible exact c3 _ _))
    refine wpQuiet_nil ?_
    rfl
  case ht =>
    intro WM hW
    have H2 := Lib.hid (H1.out.below hW)
    clear hW H1
    have z0 := ((H2.out.at (B := w.heap.size + 1) (l := [.int .i64 0, .int .i64 0, .int .i64 0, .int .i64 0]) (by simp)).row 0 _ rfl)
    have z1 := ((H2.out.at (B := w.heap.size + 1) (l := [.int .i64 0, .int .i64 0, .int .i64 0, .int .i64 0]) (by simp)).row 1 _ rfl)
    have z2 := ((H2.out.at (B := w.heap.size + 1) (l := [.int .i64 0, .int .i64 0, .int .i64 0, .int .i64 0]) (by simp)).row 2 _ rfl)
    have z3 := ((H2.out.at (B := w.heap.size + 1) (l := [.int .i64 0, .int .i64 0, .int .i64 0, .int .i64 0]) (by simp)).row 3 _ rfl)
    have f0 := (H2.out.at (B := w.heap.size + 1) (l := [.int .i64 0, .int .i64 0, .int .i64 0, .int .i64 0]) (by simp)).fz 0 (by simp)
    have f1 := (H2.out.at (B := w.heap.size + 1) (l := [.int .i64 0, .int .i64 0, .int .i64 0, .int .i64 0]) (by simp)).fz 1 (by simp)
    have f2 := (H2.out.at (B := w.heap.size + 1) (l := [.int .i64 0, .int .i64 0, .int .i64 0, .int .i64 0]) (by simp)).fz 2 (by simp)
    have f3 := (H2.out.at (B := w.heap.size + 1) (l := [.int .i64 0, .int .i64 0, .int .i64 0, .int .i64 0]) (by simp)).fz 3 (by simp)
    simp only [List.drop_succ_cons, List.drop_zero]
    go_wp2
    refine bodyPost_ret (v := .agg #[.int .i64 (n0 : Int), .int .i64 (n1 : Int), .int .i64 (n2 : Int), .int .i64 (n3 : Int)]) ?_ rfl ⟨rfl, ?_⟩
    · simp [results, Tryz.results13, go_sem, Result.andThen, z0, z1, z2, z3]
    · exact (((H2.out.bw.setCell (show w.heap.size ≤ w.heap.size + 1 by omega) _).setCell (show w.heap.size ≤ w.heap.size + 1 by omega) _).setCell (show w.heap.size ≤ w.heap.size + 1 by omega) _).setCell (show w.heap.size ≤ w.heap.size + 1 by omega) _
/-- A slice of pairs of integers, as an argument brings it. -/
structure XsAt (a : Option Addr) (xs : List (Int × Int)) (W : World) : Prop where
  row : ∀ (k : Nat) (x : Int × Int), xs[k]? = some x → ∃ b o : Nat, a = some ⟨b, o, none⟩ ∧ b < W.heap.size ∧ W.cell? ⟨b, o + k * 2, none⟩ = some (.int .i64 x.1) ∧ W.cell? ⟨b, o + k * 2 + 1, none⟩ = some (.int .i64 x.2)
  lo : ∀ x ∈ xs, (-9223372036854775808 ≤ x.1 ∧ x.1 ≤ 9223372036854775807) ∧ (-9223372036854775808 ≤ x.2 ∧ x.2 ≤ 9223372036854775807)
theorem XsAt.below {a : Option Addr} {xs : List (Int × Int)} {W W' : World} (h : XsAt a xs W) (hb : Below W.heap.size W W') : XsAt a xs W' :=
  ⟨fun k x hx => by
    obtain ⟨b, o, e, h1, h2, h3⟩ := h.row k x hx
    exact ⟨b, o, e, Nat.lt_of_lt_of_le h1 hb.size, (World.cell?_of_block (w := W) (hb.block b h1)).trans h2, (World.cell?_of_block (w := W) (hb.block b h1)).trans h3⟩, h.lo⟩
/-- The places that pairs determine: the first twelve, and one where there is none. -/
def plsK (xs : List (Int × Int)) (k : Nat) : List Pl := if k = 0 then [⟨3, 4⟩] else (xs.take k).map fun x => plN x.1 x.2
def plsN (xs : List (Int × Int)) : List Pl := plsK xs (min xs.length 12)
theorem plsK_len {xs : List (Int × Int)} {k : Nat} (h : k ≤ xs.length) : (plsK xs k).length = max k 1 := by
  unfold plsK
  split
  · rename_i h0; subst h0; rfl
  · rw [List.length_map, List.length_take]; omega
theorem plsK_succ {xs : List (Int × Int)} {k : Nat} {x : Int × Int} (h : xs[k]? = some x) : plsK xs (k + 1) = (if k = 0 then [] else plsK xs k) ++ [plN x.1 x.2] := by
  unfold plsK
  rw [if_neg (by omega), List.take_add_one, h]
  by_cases h0 : k = 0
  · subst h0; rfl
  · rw [if_neg h0, if_neg h0]; simp
theorem lowL_snoc (q : Pl) : ∀ (l : List Pl) (p : Pl), lowL p (l ++ [q]) = ⟨min (lowL p l).x q.x, min (lowL p l).y q.y⟩
  | [], _ => rfl
  | _ :: l, _ => lowL_snoc q l _
theorem highL_snoc (q : Pl) : ∀ (l : List Pl) (p : Pl), highL p (l ++ [q]) = ⟨max (highL p l).x q.x, max (highL p l).y q.y⟩
  | [], _ => rfl
  | _ :: l, _ => highL_snoc q l _
theorem lowL_head (p : Pl) (l : List Pl) : lowL p (p :: l) = lowL p l := by
  show lowL ⟨min p.x p.x, min p.y p.y⟩ l = _
  simp
theorem highL_head (p : Pl) (l : List Pl) : highL p (p :: l) = highL p l := by
  show highL ⟨max p.x p.x, max p.y p.y⟩ l = _
  simp
theorem plsN_len (xs : List (Int × Int)) : (plsN xs).length = max (min xs.length 12) 1 := plsK_len (by omega)
theorem plsN_v (xs : List (Int × Int)) : ∀ q ∈ plsN xs, vP q = true := by
  intro q hq
  unfold plsN plsK at hq
  split at hq
  · simp only [List.mem_singleton] at hq
    subst hq
    decide
  · obtain ⟨x, _, rfl⟩ := List.mem_map.1 hq
    exact plN_v _ _
theorem plsN_few (xs : List (Int × Int)) : fewB (plsN xs) = true := by
  unfold fewB
  simp only [Bool.and_eq_true, decide_eq_true_eq]
  have := plsN_len xs
  exact ⟨by omega, List.all_eq_true.2 (plsN_v xs)⟩
theorem plsN_cons (xs : List (Int × Int)) : ∃ p l, plsN xs = p :: l := by
  have := plsN_len xs
  match h : plsN xs with
  | [] => rw [h] at this; simp at this; omega
  | p :: l => exact ⟨p, l, rfl⟩
set_option maxHeartbeats 8000000 in
set_option maxRecDepth 100000 in
theorem places_s {a : Option Addr} {n cap : Nat} {xs : List (Int × Int)} (hn : xs.length = n) {W : World} (h : XsAt a xs W) :
    Calls Tryz.prog 11 #[.slice a n cap] W fun e W' => ∃ g m c, e = .returned (.slice (some ⟨g, 0, none⟩) m c) ∧ m = (plsN xs).length ∧ OzAt 26 (.slice (some ⟨g, 0, none⟩) m c) m (plC (plsN xs)) [] W W' := by
  have HN := Lib.hid hn
  have HX := Lib.hid h
  clear h hn
  obtain ⟨i0, hi0, hz0, hz1, hz2⟩ := info_parts info_place
  have H0 := Lib.hid (OzAt.lit (AzAt.start W) [.int .i64 3, .int .i64 4] 26 1 rfl (by decide))
  go_enter Tryz.func11, Tryz.ntmps11
  go_wp2
  go_loopw [3, 4] (fun v3 v4 wr => ∃ (k m g c : Nat), k ≤ n ∧ k ≤ 12 ∧ v4 = .int .i64 (k : Int) ∧ v3 = .slice (some ⟨g, 0, none⟩) m c ∧ m = (plsK xs k).length ∧ OzAt 26 (.slice (some ⟨g, 0, none⟩) m c) m (plC (plsK xs k)) [] W wr) (fun _ v4 _ => 12 - (intOf v4).toNat)
  case atStart => exact ⟨0, 1, _, _, by omega, by omega, rfl, rfl, rfl, H0.out⟩
  case round =>
    obtain ⟨k, m, g, c, hk, hk2, rfl, rfl, hm, hZ⟩ := hrel
    have HZ := Lib.hid hZ
    have HM := Lib.hid hm
    clear hZ hm
    by_cases hlt : k < n ∧ k < 12
    · obtain ⟨hlt1, hlt2⟩ := hlt
      obtain ⟨x, hx⟩ : ∃ x, xs[k]? = some x := ⟨xs[k]'(by have := HN.out; omega), List.getElem?_eq_getElem _⟩
      obtain ⟨b, o, rfl, hb, c0, c1⟩ := HX.out.row k x hx
      have hlo := HX.out.lo x (List.mem_of_getElem? hx)
      have KX := Lib.hid (fun (W : World) => plN_s hlo.1 hlo.2 W)
      have HS := Lib.hid (plsK_succ hx)
      generalize plN x.1 x.2 = p at KX HS
      have d0 := (World.cell?_of_block (w := W) (HZ.out.az.bw.block b hb)).trans c0
      have d1 := (World.cell?_of_block (w := W) (HZ.out.az.bw.block b hb)).trans c1
      obtain ⟨x1, x2⟩ := x
      simp only at d0 d1 KX
      clear c0 c1 hlo hx hb
      have hg1 : decide ((k : Int) < (n : Int)) = true := decide_eq_true (by omega)
      have hg2 : decide ((k : Int) < 12) = true := decide_eq_true (by omega)
      by_cases hk0 : k = 0
      · subst hk0
        simp only [Nat.zero_mul, Nat.add_zero] at d0 d1
        have H1' := Lib.hid (OzAt.nil HZ.out.az 26)
        go_wp2_with (first
          | (go_at_call 37; (with_reducible refine (KX.out _).mono ?_); rintro e w1 ⟨rfl, hb1⟩; have H1 := Lib.hid (H1'.out.below hb1); have hs1 := H1.out.az.bw.size; clear hb1)
          | (at_builtin; refine wpList_append_own_at _ rfl _ _ 27 rfl W.heap.size 26 i0 (.agg #[.int .i64 0, .int .i64 0]) 2 16 Tryz.underlying27 hi0 hz0 hz1 hz2 rfl (by decide) (.slice none 0 0) 0 []  rfl (H1.out.own.alloc _) ⟨w1.heap.size, 0, none⟩ 1 1 [.int .i64 p.x, .int .i64 p.y] rfl rfl (two_new _ _ _ _) (by simp [Value.oneCell']) (by unfold maxLen; omega) (by omega) (by simp; omega) ?_; intro v' w7 hown' hgrow _ hat; have HZ7 := Lib.hid (H1.out.append hown' hgrow hat); clear hown' hgrow hat)
          | fail)
        obtain ⟨g7, c7, rfl⟩ := ownsRow_succ HZ7.out.own
        have e := HS.out
        simp only [if_true, List.nil_append, Nat.zero_add] at e
        refine ⟨⟨1, 1, g7, c7, by omega, by omega, rfl, rfl, by rw [e]; rfl, ?_⟩, by simp only [intOf]; omega⟩
        rw [e]
        exact HZ7.out
      · have hm12 : m ≤ 12 := by rw [HM.out, plsK_len (by have := HN.out; omega)]; omega
        have hk1 : ((k : Int) == 0) = false := by simpa using hk0
        have hk2 : ¬ (k : Int) = 0 := by omega
        go_wp2_with (first
          | (go_at_call 37; (with_reducible refine (KX.out _).mono ?_); rintro e w1 ⟨rfl, hb1⟩; have H1 := Lib.hid (HZ.out.below hb1); have hs1 := H1.out.az.bw.size; clear hb1)
          | (at_builtin; refine wpList_append_own_at _ rfl _ _ 27 rfl W.heap.size 26 i0 (.agg #[.int .i64 0, .int .i64 0]) 2 16 Tryz.underlying27 hi0 hz0 hz1 hz2 rfl (by decide) (.slice (some ⟨g, 0, none⟩) m c) m (plC (plsK xs k)) rfl (H1.out.own.alloc _) ⟨w1.heap.size, 0, none⟩ 1 1 [.int .i64 p.x, .int .i64 p.y] rfl rfl (two_new _ _ _ _) (by simp [Value.oneCell']) (by unfold maxLen; omega) (by omega) (by simp; omega) ?_; intro v' w7 hown' hgrow _ hat; have HZ7 := Lib.hid (H1.out.append hown' hgrow hat); clear hown' hgrow hat)
          | fail)
        obtain ⟨g7, c7, rfl⟩ := ownsRow_succ HZ7.out.own
        have e := HS.out
        rw [if_neg hk0] at e
        refine ⟨⟨k + 1, m + 1, g7, c7, by omega, by omega, by go_num, rfl, by rw [e, HM.out]; simp, ?_⟩, by simp only [intOf]; omega⟩
        rw [e, plC_append]
        exact HZ7.out
    · have hk' : k = min n 12 := by omega
      have HR := Lib.hid (show plsN xs = plsK xs k by unfold plsN; rw [HN.out, ← hk'])
      clear hk'
      by_cases hlt1 : k < n
      · have hg1 : decide ((k : Int) < (n : Int)) = true := decide_eq_true (by omega)
        have hg2 : decide ((k : Int) < 12) = false := decide_eq_false (by omega)
        go_wp2
        go_ret
        refine ⟨g, m, c, rfl, by rw [HR.out]; exact HM.out, by rw [HR.out]; exact HZ.out⟩
      · have hg1 : decide ((k : Int) < (n : Int)) = false := decide_eq_false (by omega)
        go_wp2
        go_ret
        refine ⟨g, m, c, rfl, by rw [HR.out]; exact HM.out, by rw [HR.out]; exact HZ.out⟩
end Go.Proofs.YtgngepbemgbbeaaGreatDoor

namespace Go.Proofs.YtgngepbemgbbeaaGreatDoor
open Go.ChangeShapes Go.WideShapes Go.ChangeAt Go.RowKit
open Go.ChangeMaps (open_string shut_string)

theorem laidOut7 : laidOutB Tryz.prog = true := by kernel_rfl
/-- A call that leaves what lay; its arguments lie in places, or in none. -/
theorem post_mem {H : Type} {enc : TypeId × Value → H} {P : Program} {f : Func} {s : ChangeSpec} {apart fresh handsOn : Bool} {W W' : World} {args : Array Value} {v : Value} {ds gs : List (DataW H)} {before pa : List MemPlace}
    (hW : DataW.Whole enc P f.params.toList s.vars apart W args.toList ds gs before)
    (hres : ∀ (b : Nat) (sp : Nat → Bool) (hd : Bool), DataW.TrodAll enc P W' b sp hd f.resultTypes.toList (v.resultList f.resultTypes.size) (s.fn H (ds ++ gs)).results [])
    (hargs : DataW.TrodAll enc P W' 0 (fun b => decide (b < W.heap.size)) true f.params.toList args.toList (s.fn H (ds ++ gs)).args pa)
    (hvars : DataW.TrodVars enc P W' (fun b => decide (b < W.heap.size)) s.vars (s.fn H (ds ++ gs)).vars [])
    (hb : Below W.heap.size W W') :
    s.post enc P f apart fresh handsOn false W args v W' :=
  ⟨ds, gs, before, [], pa, [], hW, hres _ _ _, hargs, hvars, hb.frame _, fun h => by cases h⟩
theorem cell_blk {W : World} {a : Addr} {v : Value} (h : W.cell? a = some v) : a.block < W.heap.size := by
  rcases Nat.lt_or_ge a.block W.heap.size with h' | h'
  · exact h'
  · simp [World.cell?, Array.getElem?_eq_none h'] at h
set_option maxRecDepth 100000 in
theorem open_xs {H : Type} {enc : TypeId × Value → H} {W : World} {b0 base : Nat} {sp : Nat → Bool} {hd : Bool} {v : Value} {d : DataW H} {p : List MemPlace} (hv : Value.okWide Tryz.prog W .any b0 22 v) (h : DataW.Trod enc Tryz.prog W base sp hd 22 v d p) :
    ∃ (a : Option Addr) (n cap : Nat) (xs : List (Int × Int)), v = .slice a n cap ∧ xs.length = n ∧ XsAt a xs W := by
  obtain ⟨a, len, cap, rfl⟩ := okWide_slice Tryz.underlying22 hv
  obtain ⟨fuel, hf⟩ := h
  rcases Go.Deep.open_slice Tryz.underlying22 hf with ⟨hcs, _⟩ | ⟨b, len', cap', m, n, D, Pl, hcs, _, hl, hmx, hm, hx, hall⟩
  · simp [Value.cells] at hcs
    obtain ⟨rfl, rfl, rfl⟩ := hcs
    exact ⟨none, 0, 0, [], rfl, rfl, fun k x hk => by simp at hk, fun x hx => by cases hx⟩
  · simp [Value.cells] at hcs
    obtain ⟨rfl, rfl, rfl⟩ := hcs
    have hlm : len ≤ m := by rw [hm]; split <;> omega
    have each : ∀ i, i < len → ∃ q : Int × Int, (W.cell? (b.add (i * 2)) = some (.int .i64 q.1) ∧ W.cell? (b.add (i * 2 + 1)) = some (.int .i64 q.2)) ∧ (Lit.int .i64 q.1).wf = true ∧ (Lit.int .i64 q.2).wf = true := by
      intro i hi
      obtain ⟨cs', h1, h2⟩ := hall i (by omega)
      rw [cells_two] at h1
      obtain ⟨_, hlen, hcell⟩ := World.cells?_some h1
      match cs', hlen with
      | [c0, c1], _ =>
        obtain ⟨xa, xb, ⟨e0, e1⟩, _, w0, w1⟩ := trod_pair (c0 := c0) (c1 := c1) h2
        have g0 := hcell 0 (by omega)
        have g1 := hcell 1 (by omega)
        rw [Go.Deep.add_add] at g0 g1
        subst e0 e1
        exact ⟨(xa, xb), ⟨by simpa using g0, by simpa using g1⟩, w0, w1⟩
    obtain ⟨q, hq⟩ := Go.Deep.choose_lt each
    refine ⟨some b, len, cap, (List.range len).map q, rfl, by simp, fun k x hk => ?_, fun x hx => ?_⟩
    · have hk2 : k < len := by have := (List.getElem?_eq_some_iff.1 hk).1; simpa using this
      have hxe : x = q k := by
        rw [List.getElem?_map, List.getElem?_range hk2] at hk
        exact (Option.some.inj hk).symm
      obtain ⟨⟨c0, c1⟩, _⟩ := hq k hk2
      have s0 := World.cell?_spot (hq 0 (by omega)).1.1
      obtain ⟨blk, off, spot⟩ := b
      have hs : spot = none := by simpa [Addr.add] using s0
      subst hs
      rw [add_plain] at c0 c1
      rw [hxe]
      exact ⟨blk, off, rfl, cell_blk c0, c0, by rw [Nat.add_assoc]; exact c1⟩
    · obtain ⟨i, hi, rfl⟩ := List.mem_map.1 hx
      obtain ⟨_, w0, w1⟩ := hq i (List.mem_range.1 hi)
      exact ⟨bounds_i64 w0, bounds_i64 w1⟩
theorem cells_34 : Tryz.prog.cellsOf 67 = 12 := by kernel_rfl
theorem cells_four : Tryz.prog.cellsOf 23 = 4 := by kernel_rfl
set_option maxRecDepth 100000 in
theorem trod_four {H : Type} {enc : TypeId × Value → H} {W : World} {base : Nat} {sp : Nat → Bool} {hd : Bool} {m : Nat} {cs : List Value} {c0 c1 c2 c3 : Value} {y : DataW H × List MemPlace} (h : DataW.trod enc Tryz.prog W base sp hd m 23 cs = some y) (hc : cs = [c0, c1, c2, c3] := by rfl) :
    ∃ a b c d : Int, (c0 = .int .i64 a ∧ c1 = .int .i64 b ∧ c2 = .int .i64 c ∧ c3 = .int .i64 d) ∧ (Lit.int .i64 a).wf = true ∧ (Lit.int .i64 b).wf = true ∧ (Lit.int .i64 c).wf = true ∧ (Lit.int .i64 d).wf = true := by
  subst hc
  obtain ⟨ys, m', _, hx, _, hl, hy⟩ := DataW.trod_array Tryz.underlying23 h
  match ys, hl with
  | [y0, y1, y2, y3], _ =>
  have hy0 := hy 0 (by decide)
  have hy1 := hy 1 (by decide)
  have hy2 := hy 2 (by decide)
  have hy3 := hy 3 (by decide)
  simp [cells_int] at hy0 hy1 hy2 hy3
  obtain ⟨xa, e0, _, w0⟩ := DataW.trod_int Tryz.underlying3 hy0
  obtain ⟨xb, e1, _, w1⟩ := DataW.trod_int Tryz.underlying3 hy1
  obtain ⟨xc, e2, _, w2⟩ := DataW.trod_int Tryz.underlying3 hy2
  obtain ⟨xd, e3, _, w3⟩ := DataW.trod_int Tryz.underlying3 hy3
  simp at e0 e1 e2 e3
  exact ⟨xa, xb, xc, xd, ⟨e0, e1, e2, e3⟩, w0, w1, w2, w3⟩
set_option maxRecDepth 100000 in
theorem open_four {H : Type} {enc : TypeId × Value → H} {W : World} {b0 base : Nat} {sp : Nat → Bool} {hd : Bool} {v : Value} {d : DataW H} {p : List MemPlace} (hv : Value.okWide Tryz.prog W .any b0 23 v) (h : DataW.Trod enc Tryz.prog W base sp hd 23 v d p) :
    ∃ a0 a1 a2 a3 : Int, v = .agg #[.int .i64 a0, .int .i64 a1, .int .i64 a2, .int .i64 a3] ∧ (Lit.int .i64 a0).wf = true ∧ (Lit.int .i64 a1).wf = true ∧ (Lit.int .i64 a2).wf = true ∧ (Lit.int .i64 a3).wf = true := by
  obtain ⟨cs, rfl, hsz⟩ := okWide_array Tryz.underlying23 hv
  rw [cells_four] at hsz
  obtain ⟨l⟩ := cs
  match l, hsz with
  | [c0, c1, c2, c3], _ =>
  obtain ⟨fuel, hf⟩ := h
  obtain ⟨a0, a1, a2, a3, ⟨rfl, rfl, rfl, rfl⟩, w⟩ := trod_four (c0 := c0) (c1 := c1) (c2 := c2) (c3 := c3) hf
  exact ⟨a0, a1, a2, a3, rfl, w⟩
set_option maxRecDepth 100000 in
theorem open_fours3 {H : Type} {enc : TypeId × Value → H} {W : World} {b0 base : Nat} {sp : Nat → Bool} {hd : Bool} {v : Value} {d : DataW H} {p : List MemPlace} (hv : Value.okWide Tryz.prog W .any b0 67 v) (h : DataW.Trod enc Tryz.prog W base sp hd 67 v d p) :
    ∃ a0 a1 a2 a3 b0 b1 b2 b3 c0 c1 c2 c3 : Int, v = .agg #[.int .i64 a0, .int .i64 a1, .int .i64 a2, .int .i64 a3, .int .i64 b0, .int .i64 b1, .int .i64 b2, .int .i64 b3, .int .i64 c0, .int .i64 c1, .int .i64 c2, .int .i64 c3] ∧ ((Lit.int .i64 a0).wf = true ∧ (Lit.int .i64 a1).wf = true ∧ (Lit.int .i64 a2).wf = true ∧ (Lit.int .i64 a3).wf = true) ∧ ((Lit.int .i64 b0).wf = true ∧ (Lit.int .i64 b1).wf = true ∧ (Lit.int .i64 b2).wf = true ∧ (Lit.int .i64 b3).wf = true) ∧ ((Lit.int .i64 c0).wf = true ∧ (Lit.int .i64 c1).wf = true ∧ (Lit.int .i64 c2).wf = true ∧ (Lit.int .i64 c3).wf = true) := by
  obtain ⟨cs, rfl, hsz⟩ := okWide_array Tryz.underlying67 hv
  rw [cells_34] at hsz
  obtain ⟨l⟩ := cs
  match l, hsz with
  | [c0, c1, c2, c3, c4, c5, c6, c7, c8, c9, c10, c11], _ =>
  obtain ⟨fuel, hf⟩ := h
  obtain ⟨ys, m, _, hx, _, hl, hy⟩ := DataW.trod_array Tryz.underlying67 hf
  match ys, hl with
  | [y0, y1, y2], _ =>
  have hy0 := hy 0 (by decide)
  have hy1 := hy 1 (by decide)
  have hy2 := hy 2 (by decide)
  rw [cells_four] at hy0 hy1 hy2
  obtain ⟨a0, a1, a2, a3, ⟨rfl, rfl, rfl, rfl⟩, wa⟩ := trod_four (c0 := c0) (c1 := c1) (c2 := c2) (c3 := c3) hy0
  obtain ⟨b0, b1, b2, b3, ⟨rfl, rfl, rfl, rfl⟩, wb⟩ := trod_four (c0 := c4) (c1 := c5) (c2 := c6) (c3 := c7) hy1
  obtain ⟨d0, d1, d2, d3, ⟨rfl, rfl, rfl, rfl⟩, wd⟩ := trod_four (c0 := c8) (c1 := c9) (c2 := c10) (c3 := c11) hy2
  exact ⟨a0, a1, a2, a3, b0, b1, b2, b3, d0, d1, d2, d3, rfl, wa, wb, wd⟩
end Go.Proofs.YtgngepbemgbbeaaGreatDoor

namespace Go.Proofs.YtgngepbemgbbeaaGreatDoor
open Go.RowKit Go.Shelf Go.Sort
attribute [local go_sem] Oper.semAt_some

/-- What the law asks of the hull h of places L, and of the places M in another order. -/
structure HullLaw (L h M : List Pl) : Prop where
  fl : fewB L = true
  fh : fewB h = true
  fm : fewB M = true
  idem : hullL h = h
  same : hullL M = h
  len : 1 ≤ h.length ∧ h.length ≤ L.length
  sub : ∀ q ∈ h, q ∈ L
  side : ∀ (i : Nat) (a b p : Pl), h[i]? = some a → h[(i + 1) % h.length]? = some b → p ∈ L → 0 ≤ sideP a b p
  left : ∀ (i : Nat) (a b c : Pl), 2 < h.length → h[i]? = some a → h[(i + 1) % h.length]? = some b → h[(i + 2) % h.length]? = some c → sideP a b c = 1
  first : ∀ (i : Nat) (z a : Pl), h[0]? = some z → h[i]? = some a → 0 < i → z.y < a.y ∨ (a.y = z.y ∧ z.x < a.x)
theorem few_mk {ps : List Pl} (h1 : 1 ≤ ps.length) (h2 : ps.length ≤ 40) (h : ∀ p ∈ ps, vP p = true) : fewB ps = true := by
  unfold fewB
  simp only [Bool.and_eq_true, decide_eq_true_eq]
  exact ⟨⟨h1, h2⟩, List.all_eq_true.2 h⟩
theorem hull_law {L : List Pl} {k : Nat} {z : Pl} (hL : fewB L = true) (hl : L.length ≤ 39) (hk : L[k]? = some z) : HullLaw L (hullL L) (L.drop k ++ L.take k ++ [z]) := by
  have hv := few_all hL
  have hlen := few_len hL
  have hv' := hull_valid hv
  have hne : hullL L ≠ [] := hull_ne hv (by rintro rfl; simp at hlen)
  have hpos := List.length_pos_iff.2 hne
  have hle := hull_len hv
  have hkl := (List.getElem?_eq_some_iff.1 hk).1
  have hmem : ∀ q, q ∈ L.drop k ++ L.take k ++ [z] ↔ q ∈ L := fun q => by
    have hz : z ∈ L := List.mem_of_getElem? hk
    rw [List.mem_append, List.mem_append, List.mem_singleton]
    constructor
    · rintro ((h | h) | rfl)
      · exact List.mem_of_mem_drop h
      · exact List.mem_of_mem_take h
      · exact hz
    · intro h
      rw [← List.take_append_drop k L, List.mem_append] at h
      rcases h with h | h
      · exact .inl (.inr h)
      · exact .inl (.inl h)
  refine ⟨hL, few_mk hpos (by omega) hv', few_mk (by simp; omega) (by simp; omega) (fun p hp => hv p ((hmem p).1 hp)), hull_idem hv, hullL_same hv hmem, ⟨hpos, hle⟩, fun q hq => hull_sub hv hq, fun i a b p ha hb hp => hull_in hv ha hb hp, fun i a b c hn ha hb hc => hull_left hv hn ha hb hc, fun i z' a hz ha hi => ?_⟩
  cases hh : hullL L with
  | nil => exact absurd hh hne
  | cons y t =>
    rw [hh] at hz ha
    cases hz
    obtain ⟨_, h2⟩ := hull_first hv hh
    obtain ⟨j, rfl⟩ : ∃ j, i = j + 1 := ⟨i - 1, by omega⟩
    have ht : a ∈ t := List.mem_of_getElem? (by simpa using ha)
    have hlt := h2 a ht
    have v1 := vP_iff.1 (hv' z' (by rw [hh]; simp))
    have v2 := vP_iff.1 (hv' a (by rw [hh]; simp [ht]))
    unfold kp at hlt
    omega
theorem there_step {L : List Pl} {n : Nat} {p a : Pl} (hp : L[n]? = some p) : decide (a ∈ L.take (n + 1)) = (decide (a ∈ L.take n) || decide (p = a)) := by
  rw [List.take_add_one, hp]
  rw [Bool.eq_iff_iff]
  simp only [Bool.or_eq_true, decide_eq_true_eq, List.mem_append, Option.toList_some, List.mem_singleton]
  constructor
  · rintro (h | h)
    · exact .inl h
    · exact .inr h.symm
  · rintro (h | h)
    · exact .inl h
    · exact .inr h.symm
set_option maxHeartbeats 16000000 in
set_option maxRecDepth 100000 in
theorem PlaneHulls_law (t : Int) {a : Option Addr} {n cap : Nat} {xs : List (Int × Int)} (ht : -9223372036854775808 ≤ t ∧ t ≤ 9223372036854775807) (hn : xs.length = n) (w : World) (hX : XsAt a xs w) (hq : IOps w ∧ FrOp w) :
    Calls Tryz.prog 6 #[.slice a n cap, .int .i64 t] w fun e W' => e = .returned (.bool true) ∧ Below w.heap.size w W' := by
  have hmx : Tryz.prog.follows .mixedOrders = true := by kernel_rfl
  have KS := Lib.hid (fun (W : World) (hb : Below w.heap.size w W) => sane7_s (hq.1.below hb) (hq.2.below hb))
  have KL := Lib.hid (fun (W : World) (hb : Below w.heap.size w W) => places_s (cap := cap) hn (hX.below hb))
  have HC := Lib.hid (AzAt.start w)
  clear hX hq hn
  go_enter Tryz.func6, Tryz.ntmps6
  go_upto_region 4 with (first
    | (go_at_call 10; (with_reducible refine (KS.out _ HC.out.bw).mono ?_); rintro e w1 ⟨rfl, hb⟩; replace HC := Lib.hid (HC.out.below hb); clear hb)
    | (go_at_call 11; (with_reducible refine (KL.out _ HC.out.bw).mono ?_); rintro e wL ⟨g, m, c, rfl, hm, hZ⟩; replace HC := Lib.hid (show AzAt [(g, plC (plsN xs))] w wL from (HC.out.below hZ.az.bw).cons (hZ.ar.at (B := g) (l := plC (plsN xs)) (by simp))); have HM := Lib.hid (And.intro hm (hZ.cap_le)); clear hZ hm)
    | fail)
  have hm12 : m ≤ 12 := by have h1 := HM.out.1; have h2 := plsN_len xs; omega
  have hfew := plsN_few xs
  obtain ⟨L, hL⟩ : ∃ L, L = plsN xs := ⟨_, rfl⟩
  rw [← hL] at HC HM hfew
  have hml : L.length = m := HM.out.1.symm
  have hm1 : 1 ≤ m := by have := (few_len hfew).1; omega
  have hcap : m ≤ c := HM.out.2.1
  have hcap2 : c ≤ 9223372036854775807 := HM.out.2.2
  obtain ⟨k, hk⟩ : ∃ k, k = pickN t m := ⟨_, rfl⟩
  have hkm : k < m := by rw [hk]; exact pickN_lt t (by omega)
  have KP := Lib.hid (fun (W : World) => pick_l t m ht.1 ht.2 (by omega) (by omega) W)
  rw [← hk] at KP
  obtain ⟨z, hz⟩ : ∃ z, L[k]? = some z := ⟨L[k]'(by omega), List.getElem?_eq_getElem _⟩
  have HH := hull_law hfew (by omega) hz
  obtain ⟨h, hh⟩ : ∃ h, h = hullL L := ⟨_, rfl⟩
  obtain ⟨M, hM⟩ : ∃ M, M = L.drop k ++ L.take k ++ [z] := ⟨_, rfl⟩
  rw [← hh, ← hM] at HH
  obtain ⟨mh, hmh⟩ : ∃ mh, mh = h.length := ⟨_, rfl⟩
  have hMl : M.length = m + 1 := by rw [hM]; simp; omega
  have K1 := Lib.hid (fun (g c : Nat) (W : World) (hp : PsAt g L W) => hullG_s (cap := c) hml hfew W hp)
  rw [← hh, ← hmh] at K1
  have K2 := Lib.hid (fun (g c : Nat) (W : World) (hp : PsAt g h W) => hullG_s (cap := c) hmh.symm HH.fh W hp)
  rw [HH.idem, ← hmh] at K2
  have K3 := Lib.hid (fun (g c : Nat) (W : World) (hp : PsAt g M W) => hullG_s (cap := c) hMl HH.fm W hp)
  rw [HH.same, ← hmh] at K3
  have hmh1 := HH.len.1
  have hmh2 := HH.len.2
  rw [← hmh] at hmh1 hmh2
  rw [hml] at hmh2
  have KE := Lib.hid (fun (B C c1 c2 : Nat) (W : World) (h1 : PsAt B h W) (h2 : PsAt C h W) => by have := same_s (c1 := c1) (c2 := c2) hmh.symm hmh.symm (by omega) (by omega) W h1 h2; rw [decide_eq_true rfl] at this; exact this)
  have HHH := Lib.hid HH
  have HZ := Lib.hid (And.intro hz hM)
  have HL2 := Lib.hid (And.intro hml hmh)
  clear HH hz hM hh hk hL hml hfew HM KL KS ht hmh hMl
  go_upto_region 7 with (first
    | (go_at_call 12; (with_reducible refine (KP.out _).mono ?_); rintro e w4 ⟨rfl, rfl⟩)
    | (go_at_call 22; have _ := HC2; (with_reducible refine (K2.out _ _ _ (PsAt.of (HC2.out.at (B := gh) (l := plC h) (by simp)))).mono ?_); rintro e w3 ⟨⟨ga, ca, rfl, hg⟩, hb⟩; have HC3 := Lib.hid (show AzAt [(ga, plC h), (gh, plC h), (g, plC L)] w w3 from (HC2.out.below hb).cons hg); clear hb hg)
    | (go_at_call 22; (with_reducible refine (K1.out _ _ _ (PsAt.of (HC.out.at (B := g) (l := plC L) (by simp)))).mono ?_); rintro e w2 ⟨⟨gh, ch, rfl, hg⟩, hb⟩; have HC2 := Lib.hid (show AzAt [(gh, plC h), (g, plC L)] w w2 from (HC.out.below hb).cons hg); clear hb hg)
    | fail)
  have HZa := Lib.hid (show OzAt 26 (.slice (some ⟨w3.heap.size, 0, none⟩) 0 0) 0 (plC []) [(ga, plC h), (gh, plC h), (g, plC L)] w (w3.drew.alloc (.cells #[] 26)) from OzAt.lit0 HC3.out.drew)
  have HZb := Lib.hid (show OzAt 26 (.slice (some ⟨w3.heap.size, 0, none⟩) 0 0) 0 (plC []) ((w3.heap.size + 1, plC [z]) :: [(ga, plC h), (gh, plC h), (g, plC L)]) w ((w3.drew.alloc (.cells #[] 26)).alloc (.cells #[.int .i64 z.x, .int .i64 z.y] 26)) from by
    have := HZa.out.push1 z
    simp only [World.size_alloc] at this
    exact this)
  have HZc := Lib.hid (show OzAt 26 (.slice (some ⟨w3.heap.size + 1, 0, none⟩) 0 0) 0 (plC []) ((w3.heap.size, plC [z]) :: [(ga, plC h), (gh, plC h), (g, plC L)]) w ((w3.drew.alloc (.cells #[.int .i64 z.x, .int .i64 z.y] 26)).alloc (.cells #[] 26)) from by
    have := OzAt.lit0 (HC3.out.drew.push1 z)
    simp only [World.size_alloc] at this
    exact this)
  go_cut [11] from 35 to 49 (fun v wX => ∃ g2 c2, v = .slice (some ⟨g2, 0, none⟩) (m + 1) c2 ∧ AzAt [(g2, plC M), (ga, plC h), (gh, plC h), (g, plC L)] w wX)
  case first =>
    obtain ⟨q0, q1⟩ := (PsAt.of (HC3.out.at (B := g) (l := plC L) (by simp))).row k z HZ.out.1
    have hk1 : (k : Int) < (m : Int) := by omega
    have hk2 : (k : Int) ≤ (m : Int) := by omega
    have hk3 : (k : Int) ≤ (c : Int) := by omega
    have hk4 : (m : Int) ≤ (c : Int) := by omega
    have hk0 : (0 : Int) ≤ (k : Int) := by omega
    have sg : g < w3.heap.size := (HC3.out.at (B := g) (l := plC L) (by simp)).sz
    clear K1 K2 K3 KE KP HHH
    first | (go_region_law (first
      | (have _ := HX; refine step_append_pl rfl (.tmp 43) (.tmp 48) rfl _ m _ _ (by simp [Act.eval] <;> omega) (HX.out) _ 0 1 1 [z] [z] rfl rfl (by simp) (fun k q hq => by rwa [Nat.zero_add]) (by omega) ?_; intro v3 x3 hz3; obtain ⟨g3, c3, rfl⟩ := own_pos hz3 (by omega); have HF := Lib.hid hz3; clear hz3)
      | (have _ := HX; refine step_append_pl rfl (.tmp 43) (.tmp 48) rfl _ m _ _ (by simp [Act.eval] <;> omega) (HX.out.push1 z) _ 0 1 1 [z] [z] rfl rfl (by simp) (fun k q hq => by rwa [Nat.zero_add]) (by omega) ?_; intro v3 x3 hz3; obtain ⟨g3, c3, rfl⟩ := own_pos hz3 (by omega); have HF := Lib.hid hz3; clear hz3)
      | (have _ := HY; refine step_append_pl rfl (.tmp 39) (.tmp 42) rfl _ (m - k) _ _ (by simp [Act.eval] <;> omega) (HY.out) g 0 k c L (L.take k) (by simp [Act.eval] <;> omega) (by rw [List.length_take, HL2.out.1]; omega) (by simp) (take_part L k) (by omega) ?_; intro v2 x2 hz2; rw [show m - k + k = m by omega] at hz2; obtain ⟨g2, c2, rfl⟩ := own_pos hz2 (by omega); have HX := Lib.hid hz2; clear hz2; obtain ⟨q4, q5⟩ := (PsAt.of (HX.out.az.row (g, plC L) (by simp))).row k z HZ.out.1)
      | (have _ := HY; refine step_append_pl rfl (.tmp 39) (.tmp 42) rfl _ (m - k) _ _ (by simp [Act.eval] <;> omega) (HY.out.push1 z) g 0 k c L (L.take k) (by simp [Act.eval] <;> omega) (by rw [List.length_take, HL2.out.1]; omega) (by simp) (take_part L k) (by omega) ?_; intro v2 x2 hz2; rw [show m - k + k = m by omega] at hz2; obtain ⟨g2, c2, rfl⟩ := own_pos hz2 (by omega); have HX := Lib.hid hz2; clear hz2; obtain ⟨q4, q5⟩ := (PsAt.of (HX.out.az.row (g, plC L) (by simp))).row k z HZ.out.1)
      | (refine step_append_pl rfl (.tmp 35) (.tmp 38) rfl _ 0 [] _ (by simp [Act.eval] <;> omega) (HZa).out g k (m - k) (c - k) L (L.drop k) (by simp [Act.eval] <;> omega) (by rw [List.length_drop, HL2.out.1]) (by simp) (drop_part L k) (by omega) ?_; intro v1 x1 hz1; rw [Nat.zero_add] at hz1; obtain ⟨g1, c1, rfl⟩ := own_pos hz1 (by omega); have HY := Lib.hid hz1; clear hz1; obtain ⟨q2, q3⟩ := (PsAt.of (HY.out.az.row (g, plC L) (by simp))).row k z HZ.out.1)
      | (refine step_append_pl rfl (.tmp 35) (.tmp 38) rfl _ 0 [] _ (by simp [Act.eval] <;> omega) (HZb).out g k (m - k) (c - k) L (L.drop k) (by simp [Act.eval] <;> omega) (by rw [List.length_drop, HL2.out.1]) (by simp) (drop_part L k) (by omega) ?_; intro v1 x1 hz1; rw [Nat.zero_add] at hz1; obtain ⟨g1, c1, rfl⟩ := own_pos hz1 (by omega); have HY := Lib.hid hz1; clear hz1; obtain ⟨q2, q3⟩ := (PsAt.of (HY.out.az.row (g, plC L) (by simp))).row k z HZ.out.1)
      | (refine step_append_pl rfl (.tmp 35) (.tmp 38) rfl _ 0 [] _ (by simp [Act.eval] <;> omega) (HZc).out g k (m - k) (c - k) L (L.drop k) (by simp [Act.eval] <;> omega) (by rw [List.length_drop, HL2.out.1]) (by simp) (drop_part L k) (by omega) ?_; intro v1 x1 hz1; rw [Nat.zero_add] at hz1; obtain ⟨g1, c1, rfl⟩ := own_pos hz1 (by omega); have HY := Lib.hid hz1; clear hz1; obtain ⟨q2, q3⟩ := (PsAt.of (HY.out.az.row (g, plC L) (by simp))).row k z HZ.out.1)
      | fail)) | fail
    all_goals
      go_wp2
      go_meet
      refine ⟨g3, c3, rfl, ?_⟩
      rw [HZ.out.2]
      exact HF.out.ar.sub (fun x hx => by
        simp only [List.mem_cons, List.not_mem_nil, or_false] at hx ⊢
        rcases hx with rfl | rfl | rfl | rfl <;> simp)
  case rest =>
    obtain ⟨g2, c2, rfl, hX⟩ := hcut
    have HD := Lib.hid hX
    have b1 : ((mh : Int) == 0) = false := by simp; omega
    have b2 : decide ((m : Int) < (mh : Int)) = false := decide_eq_false (by omega)
    have b3 : ¬ (mh : Int) = 0 := by omega
    have b4 : ¬ (m : Int) < (mh : Int) := by omega
    have b5 : decide (m < mh) = false := decide_eq_false (by omega)
    have b6 : ¬ m < mh := by omega
    clear hX HC HC2 HC3 HZa HZb HZc KP K1 K2 HZ
    go_wp2_with (first
      | (go_at_call 26; (with_reducible refine (KE.out _ _ _ _ _ (PsAt.of (HE.out.at (B := gh) (l := plC h) (by simp))) (PsAt.of (HE.out.at (B := ga) (l := plC h) (by simp)))).mono ?_); rintro e w6 ⟨rfl, hb⟩; replace HE := Lib.hid (HE.out.below hb); clear hb)
      | (go_at_call 26; (with_reducible refine (KE.out _ _ _ _ _ (PsAt.of (HE.out.at (B := gh) (l := plC h) (by simp))) (PsAt.of (HE.out.at (B := go) (l := plC h) (by simp)))).mono ?_); rintro e w7 ⟨rfl, hb⟩; replace HE := Lib.hid (HE.out.below hb); clear hb)
      | (go_at_call 22; (with_reducible refine (K3.out _ _ _ (PsAt.of (HD.out.at (B := g2) (l := plC M) (by simp)))).mono ?_); rintro e w5 ⟨⟨go, co, rfl, hg⟩, hb⟩; have HE := Lib.hid (show AzAt [(go, plC h), (g2, plC M), (ga, plC h), (gh, plC h), (g, plC L)] w w5 from (HD.out.below hb).cons hg); clear hb hg)
      | fail)
    have HF := Lib.hid (HE.out.sub (L' := [(gh, plC h), (g, plC L)]) (fun x hx => by
      simp only [List.mem_cons, List.not_mem_nil, or_false] at hx ⊢
      rcases hx with rfl | rfl <;> simp))
    clear HD HE KE K3 b1 b2 b3 b4 b5 b6
    go_loopw [14] (fun v14 wr => ∃ i : Nat, i ≤ mh ∧ v14 = .int .i64 (i : Int) ∧ AzAt [(gh, plC h), (g, plC L)] w wr) (fun v14 _ => mh - (intOf v14).toNat)
    case atStart => exact ⟨0, Nat.zero_le _, rfl, HF.out⟩
    case round =>
      obtain ⟨i, hi, rfl, hA⟩ := hrel
      have HA := Lib.hid hA
      clear hA HF
      by_cases hlt : i < mh
      · obtain ⟨m1, hm1'⟩ : ∃ m1, m1 = (i + 1) % mh := ⟨_, rfl⟩
        obtain ⟨m2, hm2'⟩ : ∃ m2, m2 = (i + 2) % mh := ⟨_, rfl⟩
        have lt1 : m1 < mh := by rw [hm1']; exact Nat.mod_lt _ (by omega)
        have lt2 : m2 < mh := by rw [hm2']; exact Nat.mod_lt _ (by omega)
        obtain ⟨p0, hp0⟩ : ∃ p, h[i]? = some p := ⟨h[i]'(by have := HL2.out.2; omega), List.getElem?_eq_getElem _⟩
        obtain ⟨p1, hp1⟩ : ∃ p, h[m1]? = some p := ⟨h[m1]'(by have := HL2.out.2; omega), List.getElem?_eq_getElem _⟩
        obtain ⟨p2, hp2⟩ : ∃ p, h[m2]? = some p := ⟨h[m2]'(by have := HL2.out.2; omega), List.getElem?_eq_getElem _⟩
        obtain ⟨pz, hpz⟩ : ∃ p, h[0]? = some p := ⟨h[0]'(by have := HL2.out.2; omega), List.getElem?_eq_getElem _⟩
        have hside : ∀ p ∈ L, 0 ≤ sideP p0 p1 p := fun p hp => HHH.out.side i p0 p1 p hp0 (by rw [← HL2.out.2, ← hm1']; exact hp1) hp
        have hleft : 2 < mh → sideP p0 p1 p2 = 1 := fun h3 => HHH.out.left i p0 p1 p2 (by rw [← HL2.out.2]; exact h3) hp0 (by rw [← HL2.out.2, ← hm1']; exact hp1) (by rw [← HL2.out.2, ← hm2']; exact hp2)
        have hfirst : 0 < i → pz.y < p0.y ∨ (p0.y = pz.y ∧ pz.x < p0.x) := fun h0 => HHH.out.first i pz p0 hpz hp0 h0
        have hsub : p0 ∈ L := HHH.out.sub p0 (List.mem_of_getElem? hp0)
        have rem1 : ((i : Int) + 1).tmod (mh : Int) = (m1 : Int) := by rw [hm1']; rfl
        have rem2 : ((i : Int) + 2).tmod (mh : Int) = (m2 : Int) := by rw [hm2']; rfl
        have wr1 : IntKind.i64.wrap ((i : Int) + 1) = (i : Int) + 1 := IntWalk.i64_in _ (by omega)
        have wr2 : IntKind.i64.wrap ((i : Int) + 2) = (i : Int) + 2 := IntWalk.i64_in _ (by omega)
        have n0 : ¬ (mh : Int) = 0 := by omega
        have HS := Lib.hid (And.intro hside (And.intro hleft (And.intro hfirst hsub)))
        have HPP := Lib.hid (And.intro hp0 (And.intro hp1 (And.intro hp2 hpz)))
        clear hside hleft hfirst hsub hp0 hp1 hp2 hpz hm1' hm2'
        have ii : (i : Int) < (mh : Int) := by omega
        have i0 : (0 : Int) ≤ (i : Int) := by omega
        have ii1 : (m1 : Int) < (mh : Int) := by omega
        have ii2 : (m2 : Int) < (mh : Int) := by omega
        have id : decide ((i : Int) < (mh : Int)) = true := decide_eq_true ii
        go_wp2
        go_loopw [15, 16] (fun v15 v16 wq => ∃ j : Nat, j ≤ m ∧ v16 = .int .i64 (j : Int) ∧ v15 = .bool (decide (p0 ∈ L.take j)) ∧ AzAt [(gh, plC h), (g, plC L)] w wq) (fun _ v16 _ => m - (intOf v16).toNat)
        case atStart => exact ⟨0, Nat.zero_le _, rfl, by simp, HA.out⟩
        case round =>
          obtain ⟨j, hj, rfl, rfl, hB⟩ := hrel
          have HB := Lib.hid hB
          clear hB
          by_cases hlt2 : j < m
          · obtain ⟨p, hp⟩ : ∃ p, L[j]? = some p := ⟨L[j]'(by have := HL2.out.1; omega), List.getElem?_eq_getElem _⟩
            have HT := Lib.hid (there_step (a := p0) hp)
            have hsd := HS.out.1 p (List.mem_of_getElem? hp)
            have KSD := Lib.hid (fun (W : World) => side_s p0 p1 p W)
            generalize sideP p0 p1 p = sd at hsd KSD
            have sd0 : decide (sd < 0) = false := decide_eq_false (by omega)
            have sd1 : ¬ sd < 0 := by omega
            obtain ⟨c0, c1⟩ := (PsAt.of (HB.out.at (B := g) (l := plC L) (by simp))).row j p hp
            obtain ⟨d0, d1⟩ := (PsAt.of (HB.out.at (B := gh) (l := plC h) (by simp))).row i p0 HPP.out.1
            obtain ⟨e0, e1⟩ := (PsAt.of (HB.out.at (B := gh) (l := plC h) (by simp))).row m1 p1 HPP.out.2.1
            have HP := Lib.hid hp
            clear hp
            have jj : (j : Int) < (m : Int) := by omega
            have j0 : (0 : Int) ≤ (j : Int) := by omega
            have jd : decide ((j : Int) < (m : Int)) = true := decide_eq_true jj
            generalize decide (p0 ∈ L.take j) = bj at HT
            cases bj with
            | true =>
              go_wp2
              go_region
              all_goals
                go_wp2
                have q0 := cell_regrown ((PsAt.of (HB.out.drew.at (B := g) (l := plC L) (by simp))).row j p HP.out).1
                have q1 := cell_regrown ((PsAt.of (HB.out.drew.at (B := g) (l := plC L) (by simp))).row j p HP.out).2
                have q2 := cell_regrown ((PsAt.of (HB.out.drew.at (B := gh) (l := plC h) (by simp))).row i p0 HPP.out.1).1
                have q3 := cell_regrown ((PsAt.of (HB.out.drew.at (B := gh) (l := plC h) (by simp))).row i p0 HPP.out.1).2
                have q4 := cell_regrown ((PsAt.of (HB.out.drew.at (B := gh) (l := plC h) (by simp))).row m1 p1 HPP.out.2.1).1
                have q5 := cell_regrown ((PsAt.of (HB.out.drew.at (B := gh) (l := plC h) (by simp))).row m1 p1 HPP.out.2.1).2
                have cS := fun d os => Calls.regrown_of (d := d) (os := os) (KSD.out (grow (redrawn wr.drew d) os))
                clear c0 c1 d0 d1 e0 e1
                refine wp_region_quiet_below (by kernel_rfl) (by kernel_rfl) ?_
                repeat (go_big_quiet_step (first | with_reducible exact cS _ _))
                refine wpQuiet_nil ?_
                intro W1 hw'
                have hb1 : Below wr.drew.heap.size wr.drew W1 := by obtain ⟨⟨dq, osq⟩, hw2'⟩ := hw'; rw [hw2']; exact below_regrown wr.drew dq osq
                have HB1 := Lib.hid (HB.out.drew.below hb1)
                clear hw' hb1 q0 q1 q2 q3 q4 q5 cS KSD
                go_wp2
                exact ⟨⟨j + 1, by omega, by go_num, by rw [HT.out]; rfl, HB1.out⟩, by simp only [intOf]; omega⟩
            | false =>
              by_cases hpp : p = p0
              · have HPE := Lib.hid hpp
                have ex : p.x = p0.x := by rw [hpp]
                have ey : p.y = p0.y := by rw [hpp]
                clear hpp
                have bx : (p.x == p0.x) = true := beq_iff_eq.2 ex
                have by' : (p.y == p0.y) = true := beq_iff_eq.2 ey
                clear ex ey
                go_wp2
                go_region
                all_goals
                  go_wp2
                  have q0 := cell_regrown ((PsAt.of (HB.out.drew.at (B := g) (l := plC L) (by simp))).row j p HP.out).1
                  have q1 := cell_regrown ((PsAt.of (HB.out.drew.at (B := g) (l := plC L) (by simp))).row j p HP.out).2
                  have q2 := cell_regrown ((PsAt.of (HB.out.drew.at (B := gh) (l := plC h) (by simp))).row i p0 HPP.out.1).1
                  have q3 := cell_regrown ((PsAt.of (HB.out.drew.at (B := gh) (l := plC h) (by simp))).row i p0 HPP.out.1).2
                  have q4 := cell_regrown ((PsAt.of (HB.out.drew.at (B := gh) (l := plC h) (by simp))).row m1 p1 HPP.out.2.1).1
                  have q5 := cell_regrown ((PsAt.of (HB.out.drew.at (B := gh) (l := plC h) (by simp))).row m1 p1 HPP.out.2.1).2
                  have cS := fun d os => Calls.regrown_of (d := d) (os := os) (KSD.out (grow (redrawn wr.drew d) os))
                  clear c0 c1 d0 d1 e0 e1
                  refine wp_region_quiet_below (by kernel_rfl) (by kernel_rfl) ?_
                  repeat (go_big_quiet_step (first | with_reducible exact cS _ _))
                  refine wpQuiet_nil ?_
                  intro W1 hw'
                  have hb1 : Below wr.drew.heap.size wr.drew W1 := by obtain ⟨⟨dq, osq⟩, hw2'⟩ := hw'; rw [hw2']; exact below_regrown wr.drew dq osq
                  have HB1 := Lib.hid (HB.out.drew.below hb1)
                  clear hw' hb1 q0 q1 q2 q3 q4 q5 cS KSD
                  go_wp2
                  exact ⟨⟨j + 1, by omega, by go_num, by rw [HT.out]; rw [decide_eq_true HPE.out]; rfl, HB1.out⟩, by simp only [intOf]; omega⟩
              · have HPE := Lib.hid hpp
                rcases beq_pl hpp with hx | ⟨hx, hy⟩
                all_goals
                  clear hpp
                  go_wp2
                  go_region
                  all_goals
                    go_wp2
                    have q0 := cell_regrown ((PsAt.of (HB.out.drew.at (B := g) (l := plC L) (by simp))).row j p HP.out).1
                    have q1 := cell_regrown ((PsAt.of (HB.out.drew.at (B := g) (l := plC L) (by simp))).row j p HP.out).2
                    have q2 := cell_regrown ((PsAt.of (HB.out.drew.at (B := gh) (l := plC h) (by simp))).row i p0 HPP.out.1).1
                    have q3 := cell_regrown ((PsAt.of (HB.out.drew.at (B := gh) (l := plC h) (by simp))).row i p0 HPP.out.1).2
                    have q4 := cell_regrown ((PsAt.of (HB.out.drew.at (B := gh) (l := plC h) (by simp))).row m1 p1 HPP.out.2.1).1
                    have q5 := cell_regrown ((PsAt.of (HB.out.drew.at (B := gh) (l := plC h) (by simp))).row m1 p1 HPP.out.2.1).2
                    have cS := fun d os => Calls.regrown_of (d := d) (os := os) (KSD.out (grow (redrawn wr.drew d) os))
                    clear c0 c1 d0 d1 e0 e1
                    refine wp_region_quiet_below (by kernel_rfl) (by kernel_rfl) ?_
                    repeat (go_big_quiet_step (first | with_reducible exact cS _ _))
                    refine wpQuiet_nil ?_
                    intro W1 hw'
                    have hb1 : Below wr.drew.heap.size wr.drew W1 := by obtain ⟨⟨dq, osq⟩, hw2'⟩ := hw'; rw [hw2']; exact below_regrown wr.drew dq osq
                    have HB1 := Lib.hid (HB.out.drew.below hb1)
                    clear hw' hb1 q0 q1 q2 q3 q4 q5 cS KSD
                    go_wp2
                    exact ⟨⟨j + 1, by omega, by go_num, by rw [HT.out]; rw [decide_eq_false HPE.out]; rfl, HB1.out⟩, by simp only [intOf]; omega⟩
          · have hjm : j = m := by omega
            have he : decide (p0 ∈ L.take j) = true := by rw [hjm, List.take_of_length_le (by rw [HL2.out.1]; exact Nat.le_refl _)]; exact decide_eq_true HS.out.2.2.2
            rw [he]
            have jd : decide ((j : Int) < (m : Int)) = false := decide_eq_false (by omega)
            have jj : ¬ (j : Int) < (m : Int) := by omega
            clear he hjm
            by_cases h3 : 2 < mh
            · have g0 : decide ((2 : Int) < (mh : Int)) = true := decide_eq_true (by omega)
              have g1 : (2 : Int) < (mh : Int) := by omega
              have KSD := Lib.hid (fun (W : World) => by have := side_s p0 p1 p2 W; rw [HS.out.2.1 h3] at this; exact this)
              go_wp2
              have q0 := cell_regrown ((PsAt.of (HB.out.at (B := gh) (l := plC h) (by simp))).row i p0 HPP.out.1).1
              have q1 := cell_regrown ((PsAt.of (HB.out.at (B := gh) (l := plC h) (by simp))).row i p0 HPP.out.1).2
              have q2 := cell_regrown ((PsAt.of (HB.out.at (B := gh) (l := plC h) (by simp))).row m1 p1 HPP.out.2.1).1
              have q3 := cell_regrown ((PsAt.of (HB.out.at (B := gh) (l := plC h) (by simp))).row m1 p1 HPP.out.2.1).2
              have q4 := cell_regrown ((PsAt.of (HB.out.at (B := gh) (l := plC h) (by simp))).row m2 p2 HPP.out.2.2.1).1
              have q5 := cell_regrown ((PsAt.of (HB.out.at (B := gh) (l := plC h) (by simp))).row m2 p2 HPP.out.2.2.1).2
              have cS := fun d os => Calls.regrown_of (d := d) (os := os) (KSD.out (grow (redrawn wr d) os))
              refine wp_region_quiet_below (by kernel_rfl) (by kernel_rfl) ?_
              repeat (go_big_quiet_step (first | with_reducible exact cS _ _))
              refine wpQuiet_nil ?_
              intro W1 hw'
              have hb1 : Below wr.heap.size wr W1 := by obtain ⟨⟨dq, osq⟩, hw2'⟩ := hw'; rw [hw2']; exact below_regrown wr dq osq
              have HW1 := Lib.hid (HB.out.below hb1)
              clear hw' hb1
              clear q0 q1 q2 q3 q4 q5 cS KSD
              go_wp2
              by_cases hi0 : i = 0
              · have f0 : decide ((0 : Int) < (i : Int)) = false := decide_eq_false (by omega)
                have f1 : ¬ (0 : Int) < (i : Int) := by omega
                have f2 : ¬ 0 < i := by omega
                clear hi0
                have z0 := cell_regrown ((PsAt.of (HW1.out.at (B := gh) (l := plC h) (by simp))).row 0 pz HPP.out.2.2.2).1
                have z1 := cell_regrown ((PsAt.of (HW1.out.at (B := gh) (l := plC h) (by simp))).row 0 pz HPP.out.2.2.2).2
                have q0 := cell_regrown ((PsAt.of (HW1.out.at (B := gh) (l := plC h) (by simp))).row i p0 HPP.out.1).1
                have q1 := cell_regrown ((PsAt.of (HW1.out.at (B := gh) (l := plC h) (by simp))).row i p0 HPP.out.1).2
                simp only [Nat.zero_mul, Nat.zero_add] at z0 z1
                have cN := True.intro
                refine wp_region_quiet_below (by kernel_rfl) (by kernel_rfl) ?_
                repeat (go_big_quiet_step (first | with_reducible exact cN _ _))
                refine wpQuiet_nil ?_
                intro W2 hw'
                have hb1 : Below W1.heap.size W1 W2 := by obtain ⟨⟨dq, osq⟩, hw2'⟩ := hw'; rw [hw2']; exact below_regrown W1 dq osq
                have HW2 := Lib.hid (HW1.out.below hb1)
                clear hw' hb1
                clear z0 z1 q0 q1
                go_wp2
                exact ⟨⟨i + 1, by omega, by go_num, HW2.out⟩, by simp only [intOf]; omega⟩
              · have f0 : decide ((0 : Int) < (i : Int)) = true := decide_eq_true (by omega)
                have f1 : (0 : Int) < (i : Int) := by omega
                have f2 : 0 < i := by omega
                clear hi0
                rcases HS.out.2.2.1 f2 with hy | ⟨hy, hx⟩
                · have y0 : decide (p0.y < pz.y) = false := decide_eq_false (by omega)
                  have y1 : (p0.y == pz.y) = false := beq_eq_false_iff_ne.2 (by omega)
                  clear hy
                  have z0 := cell_regrown ((PsAt.of (HW1.out.at (B := gh) (l := plC h) (by simp))).row 0 pz HPP.out.2.2.2).1
                  have z1 := cell_regrown ((PsAt.of (HW1.out.at (B := gh) (l := plC h) (by simp))).row 0 pz HPP.out.2.2.2).2
                  have q0 := cell_regrown ((PsAt.of (HW1.out.at (B := gh) (l := plC h) (by simp))).row i p0 HPP.out.1).1
                  have q1 := cell_regrown ((PsAt.of (HW1.out.at (B := gh) (l := plC h) (by simp))).row i p0 HPP.out.1).2
                  simp only [Nat.zero_mul, Nat.zero_add] at z0 z1
                  have cN := True.intro
                  refine wp_region_quiet_below (by kernel_rfl) (by kernel_rfl) ?_
                  repeat (go_big_quiet_step (first | with_reducible exact cN _ _))
                  refine wpQuiet_nil ?_
                  intro W2 hw'
                  have hb1 : Below W1.heap.size W1 W2 := by obtain ⟨⟨dq, osq⟩, hw2'⟩ := hw'; rw [hw2']; exact below_regrown W1 dq osq
                  have HW2 := Lib.hid (HW1.out.below hb1)
                  clear hw' hb1
                  clear z0 z1 q0 q1
                  go_wp2
                  exact ⟨⟨i + 1, by omega, by go_num, HW2.out⟩, by simp only [intOf]; omega⟩
                · have y0 : decide (p0.y < pz.y) = false := decide_eq_false (by omega)
                  have y1 : (p0.y == pz.y) = true := beq_iff_eq.2 hy
                  have x0 : decide (p0.x ≤ pz.x) = false := decide_eq_false (by omega)
                  clear hy hx
                  have z0 := cell_regrown ((PsAt.of (HW1.out.at (B := gh) (l := plC h) (by simp))).row 0 pz HPP.out.2.2.2).1
                  have z1 := cell_regrown ((PsAt.of (HW1.out.at (B := gh) (l := plC h) (by simp))).row 0 pz HPP.out.2.2.2).2
                  have q0 := cell_regrown ((PsAt.of (HW1.out.at (B := gh) (l := plC h) (by simp))).row i p0 HPP.out.1).1
                  have q1 := cell_regrown ((PsAt.of (HW1.out.at (B := gh) (l := plC h) (by simp))).row i p0 HPP.out.1).2
                  simp only [Nat.zero_mul, Nat.zero_add] at z0 z1
                  have cN := True.intro
                  refine wp_region_quiet_below (by kernel_rfl) (by kernel_rfl) ?_
                  repeat (go_big_quiet_step (first | with_reducible exact cN _ _))
                  refine wpQuiet_nil ?_
                  intro W2 hw'
                  have hb1 : Below W1.heap.size W1 W2 := by obtain ⟨⟨dq, osq⟩, hw2'⟩ := hw'; rw [hw2']; exact below_regrown W1 dq osq
                  have HW2 := Lib.hid (HW1.out.below hb1)
                  clear hw' hb1
                  clear z0 z1 q0 q1
                  go_wp2
                  exact ⟨⟨i + 1, by omega, by go_num, HW2.out⟩, by simp only [intOf]; omega⟩
            · have g0 : decide ((2 : Int) < (mh : Int)) = false := decide_eq_false (by omega)
              have g1 : ¬ (2 : Int) < (mh : Int) := by omega
              go_wp2
              have cS := True.intro
              refine wp_region_quiet_below (by kernel_rfl) (by kernel_rfl) ?_
              repeat (go_big_quiet_step (first | with_reducible exact cS _ _))
              refine wpQuiet_nil ?_
              intro W1 hw'
              have hb1 : Below wr.heap.size wr W1 := by obtain ⟨⟨dq, osq⟩, hw2'⟩ := hw'; rw [hw2']; exact below_regrown wr dq osq
              have HW1 := Lib.hid (HB.out.below hb1)
              clear hw' hb1
              go_wp2
              by_cases hi0 : i = 0
              · have f0 : decide ((0 : Int) < (i : Int)) = false := decide_eq_false (by omega)
                have f1 : ¬ (0 : Int) < (i : Int) := by omega
                have f2 : ¬ 0 < i := by omega
                clear hi0
                have z0 := cell_regrown ((PsAt.of (HW1.out.at (B := gh) (l := plC h) (by simp))).row 0 pz HPP.out.2.2.2).1
                have z1 := cell_regrown ((PsAt.of (HW1.out.at (B := gh) (l := plC h) (by simp))).row 0 pz HPP.out.2.2.2).2
                have q0 := cell_regrown ((PsAt.of (HW1.out.at (B := gh) (l := plC h) (by simp))).row i p0 HPP.out.1).1
                have q1 := cell_regrown ((PsAt.of (HW1.out.at (B := gh) (l := plC h) (by simp))).row i p0 HPP.out.1).2
                simp only [Nat.zero_mul, Nat.zero_add] at z0 z1
                have cN := True.intro
                refine wp_region_quiet_below (by kernel_rfl) (by kernel_rfl) ?_
                repeat (go_big_quiet_step (first | with_reducible exact cN _ _))
                refine wpQuiet_nil ?_
                intro W2 hw'
                have hb1 : Below W1.heap.size W1 W2 := by obtain ⟨⟨dq, osq⟩, hw2'⟩ := hw'; rw [hw2']; exact below_regrown W1 dq osq
                have HW2 := Lib.hid (HW1.out.below hb1)
                clear hw' hb1
                clear z0 z1 q0 q1
                go_wp2
                exact ⟨⟨i + 1, by omega, by go_num, HW2.out⟩, by simp only [intOf]; omega⟩
              · have f0 : decide ((0 : Int) < (i : Int)) = true := decide_eq_true (by omega)
                have f1 : (0 : Int) < (i : Int) := by omega
                have f2 : 0 < i := by omega
                clear hi0
                rcases HS.out.2.2.1 f2 with hy | ⟨hy, hx⟩
                · have y0 : decide (p0.y < pz.y) = false := decide_eq_false (by omega)
                  have y1 : (p0.y == pz.y) = false := beq_eq_false_iff_ne.2 (by omega)
                  clear hy
                  have z0 := cell_regrown ((PsAt.of (HW1.out.at (B := gh) (l := plC h) (by simp))).row 0 pz HPP.out.2.2.2).1
                  have z1 := cell_regrown ((PsAt.of (HW1.out.at (B := gh) (l := plC h) (by simp))).row 0 pz HPP.out.2.2.2).2
                  have q0 := cell_regrown ((PsAt.of (HW1.out.at (B := gh) (l := plC h) (by simp))).row i p0 HPP.out.1).1
                  have q1 := cell_regrown ((PsAt.of (HW1.out.at (B := gh) (l := plC h) (by simp))).row i p0 HPP.out.1).2
                  simp only [Nat.zero_mul, Nat.zero_add] at z0 z1
                  have cN := True.intro
                  refine wp_region_quiet_below (by kernel_rfl) (by kernel_rfl) ?_
                  repeat (go_big_quiet_step (first | with_reducible exact cN _ _))
                  refine wpQuiet_nil ?_
                  intro W2 hw'
                  have hb1 : Below W1.heap.size W1 W2 := by obtain ⟨⟨dq, osq⟩, hw2'⟩ := hw'; rw [hw2']; exact below_regrown W1 dq osq
                  have HW2 := Lib.hid (HW1.out.below hb1)
                  clear hw' hb1
                  clear z0 z1 q0 q1
                  go_wp2
                  exact ⟨⟨i + 1, by omega, by go_num, HW2.out⟩, by simp only [intOf]; omega⟩
                · have y0 : decide (p0.y < pz.y) = false := decide_eq_false (by omega)
                  have y1 : (p0.y == pz.y) = true := beq_iff_eq.2 hy
                  have x0 : decide (p0.x ≤ pz.x) = false := decide_eq_false (by omega)
                  clear hy hx
                  have z0 := cell_regrown ((PsAt.of (HW1.out.at (B := gh) (l := plC h) (by simp))).row 0 pz HPP.out.2.2.2).1
                  have z1 := cell_regrown ((PsAt.of (HW1.out.at (B := gh) (l := plC h) (by simp))).row 0 pz HPP.out.2.2.2).2
                  have q0 := cell_regrown ((PsAt.of (HW1.out.at (B := gh) (l := plC h) (by simp))).row i p0 HPP.out.1).1
                  have q1 := cell_regrown ((PsAt.of (HW1.out.at (B := gh) (l := plC h) (by simp))).row i p0 HPP.out.1).2
                  simp only [Nat.zero_mul, Nat.zero_add] at z0 z1
                  have cN := True.intro
                  refine wp_region_quiet_below (by kernel_rfl) (by kernel_rfl) ?_
                  repeat (go_big_quiet_step (first | with_reducible exact cN _ _))
                  refine wpQuiet_nil ?_
                  intro W2 hw'
                  have hb1 : Below W1.heap.size W1 W2 := by obtain ⟨⟨dq, osq⟩, hw2'⟩ := hw'; rw [hw2']; exact below_regrown W1 dq osq
                  have HW2 := Lib.hid (HW1.out.below hb1)
                  clear hw' hb1
                  clear z0 z1 q0 q1
                  go_wp2
                  exact ⟨⟨i + 1, by omega, by go_num, HW2.out⟩, by simp only [intOf]; omega⟩
      · have id : decide ((i : Int) < (mh : Int)) = false := decide_eq_false (by omega)
        have ii : ¬ (i : Int) < (mh : Int) := by omega
        go_wp2
        go_ret
        exact ⟨rfl, HA.out.bw⟩
end Go.Proofs.YtgngepbemgbbeaaGreatDoor

