/-
  Package rational: Parse.
  Boxes of two texts; what the laws of chapter 04 ask of the callees.
  The law's four: the answers of the four operations, in two arrays.
  The law's minus: the negative of a fraction.
  Blocks that may be written, behind a first world.
  The law's cut: a fraction of two texts, each cut to 210 bytes.
-/
import Derived.BigQuiet
import Derived.Sort.CutIn
import Derived.Test.YtkekafamfoifmaaGreatDoorZPrn
import Derived.Test.YtkekafamfoifmaaGreatDoorZRCmp
import Derived.Test.YtkekafamfoifmaaGreatDoorZRat
namespace Go.Proofs.YtkekafamfoifmaaGreatDoor
open Go.RowKit Go.Shelf
attribute [local go_sem] Oper.semAt_some

/-- What Parse looks for: the texts before and behind the first slash. -/
def cutN (s : ByteArray) : ByteArray := ⟨(Lib.cut s.data.toList [47]).1.toArray⟩
def cutD (s : ByteArray) : ByteArray := if (Lib.cut s.data.toList [47]).2.2 = true then ⟨(Lib.cut s.data.toList [47]).2.1.toArray⟩ else ⟨#[49]⟩
def parseO (s : ByteArray) : Option Rat := if printS (cutN s) (cutD s) = s ∧ s ≠ ⟨#[]⟩ then ratO (cutN s) (cutD s) else none
theorem cutN_size (s : ByteArray) : (cutN s).size ≤ s.size := by
  rw [ba_size, ba_size s]
  show (Lib.cut s.data.toList [47]).1.toArray.toList.length ≤ _
  unfold Lib.cut
  split
  · simp; omega
  · simp
theorem cutD_size (s : ByteArray) : (cutD s).size ≤ s.size + 1 := by
  unfold cutD
  split
  · rw [ba_size, ba_size s]
    show (Lib.cut s.data.toList [47]).2.1.toArray.toList.length ≤ _
    unfold Lib.cut
    split
    · simp; omega
    · simp
  · show 1 ≤ _
    omega
theorem parse_some {s : ByteArray} (h : printS (cutN s) (cutD s) = s) (h0 : s ≠ ⟨#[]⟩) : ∃ r, parseO s = some r ∧ cutN s = str r.num ∧ cutD s = str (r.den : Int) := by
  have hr : ratO (cutN s) (cutD s) ≠ none := by
    intro k
    refine h0 ?_
    rw [← h]
    unfold printS
    rw [k]
  obtain ⟨r, hr⟩ := Option.ne_none_iff_exists'.1 hr
  refine ⟨r, ?_, (ratO_some hr).1, (ratO_some hr).2.1⟩
  unfold parseO
  rw [if_pos ⟨h, h0⟩, hr]
theorem list_ne2 {a b : ByteArray} (h : ¬ a = b) : (a.toList == b.toList) = false := by
  rw [Lib.toList_data, Lib.toList_data]
  exact beq_eq_false_iff_ne.2 fun e => h (congrArg ByteArray.mk (Array.toList_inj.1 e))
theorem list_ne {a : ByteArray} (h : a ≠ ⟨#[]⟩) : (a.toList == []) = false := by
  have := list_ne2 h
  rwa [show (⟨#[]⟩ : ByteArray).toList = [] by rw [Lib.toList_data]] at this
/-- The word that tells how long a text may be for a plain search. -/
def GlobM (w : World) : Prop := (∃ m, w.cell? ⟨0, 0, none⟩ = some (.int .i64 m)) ∧ 0 < w.heap.size
theorem GlobM.below {w w' : World} (h : GlobM w) (hb : Below w.heap.size w w') : GlobM w' := by
  obtain ⟨⟨m, hm⟩, h0⟩ := h
  exact ⟨⟨m, (hb.cell (p := ⟨0, 0, none⟩) h0).trans hm⟩, Nat.lt_of_lt_of_le h0 hb.size⟩
theorem CpAt.drewN {n1 d1 n2 d2 : ByteArray} {w W : World} (h : CpAt n1 d1 n2 d2 w W) (k : Nat) : CpAt n1 d1 n2 d2 w (W.drewN k) := ⟨⟨h.bw.os, h.bw.tape, h.bw.output, h.bw.size, h.bw.block⟩, h.x0, h.x1, h.y0, h.y1, h.f0, h.f1, h.g0, h.g1, h.sz⟩
theorem CpAt.set2 {n1 d1 n2 d2 : ByteArray} {w W : World} (h : CpAt n1 d1 n2 d2 w W) (p : ByteArray) : CpAt n1 d1 p d2 w (W.setCell ⟨w.heap.size + 1, 0, none⟩ (.string p)) := by
  have oth : ∀ (W : World) (x y : Addr) (u : Value), y ≠ x → (W.setCell x u).cell? y = W.cell? y := fun W x y u h => World.cell?_setCell_other _ _ _ _ (by first | exact h | exact fun e => h e.symm)
  have sz := h.sz
  obtain ⟨hb, x0, x1, y0, y1, f0, f1, g0, g1, _⟩ := h
  refine ⟨hb.setCell (by simp) _, ?_, ?_, ?_, ?_, ?_, ?_, ?_, ?_, by simpa using sz⟩
  · rw [oth _ _ _ _ (by simp)]; exact x0
  · rw [oth _ _ _ _ (by simp)]; exact x1
  · exact World.cell?_setCell_same _ _ _ y0
  · rw [oth _ _ _ _ (by simp)]; exact y1
  all_goals simpa [go_sem] using (by assumption)
theorem CpAt.set3 {n1 d1 n2 d2 : ByteArray} {w W : World} (h : CpAt n1 d1 n2 d2 w W) (p : ByteArray) : CpAt n1 d1 n2 p w (W.setCell ⟨w.heap.size + 1, 1, none⟩ (.string p)) := by
  have oth : ∀ (W : World) (x y : Addr) (u : Value), y ≠ x → (W.setCell x u).cell? y = W.cell? y := fun W x y u h => World.cell?_setCell_other _ _ _ _ (by first | exact h | exact fun e => h e.symm)
  have sz := h.sz
  obtain ⟨hb, x0, x1, y0, y1, f0, f1, g0, g1, _⟩ := h
  refine ⟨hb.setCell (by simp) _, ?_, ?_, ?_, ?_, ?_, ?_, ?_, ?_, by simpa using sz⟩
  · rw [oth _ _ _ _ (by simp)]; exact x0
  · rw [oth _ _ _ _ (by simp)]; exact x1
  · rw [oth _ _ _ _ (by simp)]; exact y0
  · exact World.cell?_setCell_same _ _ _ y1
  all_goals simpa [go_sem] using (by assumption)
theorem CpAt.rs {d2 n2 : ByteArray} {w W : World} (h : CpAt ⟨#[]⟩ ⟨#[]⟩ n2 d2 w W) : RsAt w.heap.size w W := ⟨h.bw, h.x0, h.x1, h.f0, h.f1, Nat.le_refl _, by have := h.sz; omega⟩
theorem Cut_s {s : ByteArray} {w : World} (hm : GlobM w) (hs : s.size ≤ 1000) (W : World) (hb : Below w.heap.size w W) :
    Calls Tryz.prog 48 #[.string s, .string ⟨#[47]⟩] W fun e W' => (∃ x : ByteArray, e = .returned (.tuple #[.string (cutN s), .string x, .bool (Lib.cut s.data.toList [47]).2.2]) ∧ ((Lib.cut s.data.toList [47]).2.2 = true → x = cutD s)) ∧ ∃ k, W' = W.drewN k := by
  obtain ⟨⟨m, h0⟩, _⟩ := hm.below hb
  refine (Tryz.strings_Cut s ⟨#[47]⟩ m W (by omega) h0).mono ?_
  rintro e w' ⟨rfl, hw⟩
  exact ⟨⟨_, rfl, fun h => by unfold cutD; exact (if_pos h).symm⟩, hw⟩

set_option maxRecDepth 100000 in
set_option maxHeartbeats 4000000 in
theorem Parse_q {s : ByteArray} {w : World} (hi : IOps w) (hm : GlobM w) (hs : s.size ≤ 1000) :
    Calls Tryz.prog 15 #[.string s] w fun e W' => e = .returned (.tuple #[.agg #[.string (qN (parseO s)), .string (qD (parseO s))], .int .i64 (qE (parseO s))]) ∧ Below w.heap.size w W' := by
  have kc := fun W (hb : Below w.heap.size w W) => Cut_s hm hs W hb
  have zN : Sz (cutN s) := by have := cutN_size s; unfold Sz; omega
  have zD : Sz (cutD s) := by have := cutD_size s; unfold Sz; omega
  have kp := fun W (hb : Below w.heap.size w W) => Print_q (hi.below hb) zN zD
  have eD : (Lib.cut s.data.toList [47]).2.2 = false → cutD s = ⟨#[49]⟩ := fun h => by unfold cutD; rw [h]; rfl
  have ep : (printS (cutN s) (cutD s) = s ∧ s ≠ ⟨#[]⟩ ∧ ∃ r, parseO s = some r ∧ cutN s = str r.num ∧ cutD s = str (r.den : Int)) ∨ (¬ (printS (cutN s) (cutD s) = s ∧ s ≠ ⟨#[]⟩) ∧ parseO s = none) := by
    by_cases h : printS (cutN s) (cutD s) = s ∧ s ≠ ⟨#[]⟩
    · exact .inl ⟨h.1, h.2, parse_some h.1 h.2⟩
    · exact .inr ⟨h, by unfold parseO; exact if_neg h⟩
  generalize (Lib.cut s.data.toList [47]).2.2 = is at kc eD
  generalize printS (cutN s) (cutD s) = pr at kp ep
  generalize parseO s = o at ep ⊢
  generalize cutN s = tn at *
  generalize cutD s = td at *
  have KP := Lib.hid kp
  have H0 := Lib.hid (CpAt.start w ⟨#[]⟩ ⟨#[]⟩ ⟨#[]⟩ ⟨#[49]⟩ 23)
  clear kp hi hm hs zN zD
  rcases ep with ⟨hp, h0, r, rfl, e1, e2⟩ | ⟨hp, rfl⟩
  · have hpr : (pr.toList == s.toList) = true := by rw [hp]; simp
    have hs0 : (s.toList == []) = false := list_ne h0
    have EN := Lib.hid e1
    have ED := Lib.hid e2
    clear hp h0 e1 e2
    cases is with
    | true =>
      have KC := Lib.hid (fun W hb => (kc W hb).mono (fun e W' ⟨⟨x, he, hx⟩, k, hk⟩ => (⟨by rw [he, hx rfl], k, hk⟩ : e = Ending.returned (.tuple #[.string tn, .string td, .bool true]) ∧ ∃ k, W' = W.drewN k)))
      clear kc eD
      go_enter Tryz.func15, Tryz.ntmps15
      go_wp2_with (first
        | (go_at_call 48; with_reducible refine (KC.out _ H0.out.bw).mono ?_; rintro e w1 ⟨rfl, k, rfl⟩)
        | (go_at_call 14; have h2 := ((H0.out.drewN k).set2 tn).set3 td; with_reducible refine (KP.out _ h2.bw).mono ?_; rintro e w2 ⟨rfl, hb⟩; have h3 := h2.below hb; obtain ⟨_, a0, a1, b0, b1, e0, e1, j0, j1, _⟩ := id h3; have H3 := Lib.hid h3; clear h2 h3 hb)
        | fail)
      obtain ⟨W5, hW5, p0, p1, hbl⟩ := H3.out.rs.fin tn td
      rw [hW5]
      clear hW5
      refine bodyPost_ret (v := .tuple #[.agg #[.string tn, .string td], .int .i64 0]) ?_ rfl ⟨by rw [EN.out, ED.out]; rfl, hbl⟩
      simp [results, Tryz.results15, go_sem, p0, p1, Result.andThen]
    | false =>
      obtain rfl := eD rfl
      have KC := Lib.hid (fun W hb => (kc W hb).mono (fun e W' ⟨⟨x, he, hx⟩, k, hk⟩ => (⟨⟨x, he⟩, k, hk⟩ : (∃ x, e = Ending.returned (.tuple #[.string tn, .string x, .bool false])) ∧ ∃ k, W' = W.drewN k)))
      clear kc eD
      go_enter Tryz.func15, Tryz.ntmps15
      go_wp2_with (first
        | (go_at_call 48; with_reducible refine (KC.out _ H0.out.bw).mono ?_; rintro e w1 ⟨⟨x, rfl⟩, k, rfl⟩)
        | (go_at_call 14; have h2 := ((H0.out.drewN k).set2 tn); with_reducible refine (KP.out _ h2.bw).mono ?_; rintro e w2 ⟨rfl, hb⟩; have h3 := h2.below hb; obtain ⟨_, a0, a1, b0, b1, e0, e1, j0, j1, _⟩ := id h3; have H3 := Lib.hid h3; clear h2 h3 hb)
        | fail)
      obtain ⟨W5, hW5, p0, p1, hbl⟩ := H3.out.rs.fin tn ⟨#[49]⟩
      rw [hW5]
      clear hW5
      refine bodyPost_ret (v := .tuple #[.agg #[.string tn, .string ⟨#[49]⟩], .int .i64 0]) ?_ rfl ⟨by rw [EN.out, ED.out]; rfl, hbl⟩
      simp [results, Tryz.results15, go_sem, p0, p1, Result.andThen]
  · by_cases hq : pr = s
    · have hs : s = ⟨#[]⟩ := Classical.byContradiction fun h => hp ⟨hq, h⟩
      subst hq hs
      clear hp
      cases is with
      | true =>
        have KC := Lib.hid (fun W hb => (kc W hb).mono (fun e W' ⟨⟨x, he, hx⟩, k, hk⟩ => (⟨by rw [he, hx rfl], k, hk⟩ : e = Ending.returned (.tuple #[.string tn, .string td, .bool true]) ∧ ∃ k, W' = W.drewN k)))
        clear kc eD
        go_enter Tryz.func15, Tryz.ntmps15
        go_wp2_with (first
          | (go_at_call 48; with_reducible refine (KC.out _ H0.out.bw).mono ?_; rintro e w1 ⟨rfl, k, rfl⟩)
          | (go_at_call 14; have h2 := ((H0.out.drewN k).set2 tn).set3 td; with_reducible refine (KP.out _ h2.bw).mono ?_; rintro e w2 ⟨rfl, hb⟩; have h3 := h2.below hb; obtain ⟨_, a0, a1, b0, b1, e0, e1, j0, j1, _⟩ := id h3; have H3 := Lib.hid h3; clear h2 h3 hb)
          | fail)
        obtain ⟨W5, hW5, p0, p1, hbl⟩ := H3.out.rs.fin ⟨#[]⟩ ⟨#[]⟩
        rw [hW5]
        clear hW5
        refine bodyPost_ret (v := .tuple #[.agg #[.string ⟨#[]⟩, .string ⟨#[]⟩], .int .i64 40]) ?_ rfl ⟨rfl, hbl⟩
        simp [results, Tryz.results15, go_sem, p0, p1, Result.andThen]
      | false =>
        obtain rfl := eD rfl
        have KC := Lib.hid (fun W hb => (kc W hb).mono (fun e W' ⟨⟨x, he, hx⟩, k, hk⟩ => (⟨⟨x, he⟩, k, hk⟩ : (∃ x, e = Ending.returned (.tuple #[.string tn, .string x, .bool false])) ∧ ∃ k, W' = W.drewN k)))
        clear kc eD
        go_enter Tryz.func15, Tryz.ntmps15
        go_wp2_with (first
          | (go_at_call 48; with_reducible refine (KC.out _ H0.out.bw).mono ?_; rintro e w1 ⟨⟨x, rfl⟩, k, rfl⟩)
          | (go_at_call 14; have h2 := ((H0.out.drewN k).set2 tn); with_reducible refine (KP.out _ h2.bw).mono ?_; rintro e w2 ⟨rfl, hb⟩; have h3 := h2.below hb; obtain ⟨_, a0, a1, b0, b1, e0, e1, j0, j1, _⟩ := id h3; have H3 := Lib.hid h3; clear h2 h3 hb)
          | fail)
        obtain ⟨W5, hW5, p0, p1, hbl⟩ := H3.out.rs.fin ⟨#[]⟩ ⟨#[]⟩
        rw [hW5]
        clear hW5
        refine bodyPost_ret (v := .tuple #[.agg #[.string ⟨#[]⟩, .string ⟨#[]⟩], .int .i64 40]) ?_ rfl ⟨rfl, hbl⟩
        simp [results, Tryz.results15, go_sem, p0, p1, Result.andThen]
    · have hpr : (pr.toList == s.toList) = false := list_ne2 hq
      clear hp hq
      cases is with
      | true =>
        have KC := Lib.hid (fun W hb => (kc W hb).mono (fun e W' ⟨⟨x, he, hx⟩, k, hk⟩ => (⟨by rw [he, hx rfl], k, hk⟩ : e = Ending.returned (.tuple #[.string tn, .string td, .bool true]) ∧ ∃ k, W' = W.drewN k)))
        clear kc eD
        go_enter Tryz.func15, Tryz.ntmps15
        go_wp2_with (first
          | (go_at_call 48; with_reducible refine (KC.out _ H0.out.bw).mono ?_; rintro e w1 ⟨rfl, k, rfl⟩)
          | (go_at_call 14; have h2 := ((H0.out.drewN k).set2 tn).set3 td; with_reducible refine (KP.out _ h2.bw).mono ?_; rintro e w2 ⟨rfl, hb⟩; have h3 := h2.below hb; obtain ⟨_, a0, a1, b0, b1, e0, e1, j0, j1, _⟩ := id h3; have H3 := Lib.hid h3; clear h2 h3 hb)
          | fail)
        obtain ⟨W5, hW5, p0, p1, hbl⟩ := H3.out.rs.fin ⟨#[]⟩ ⟨#[]⟩
        rw [hW5]
        clear hW5
        refine bodyPost_ret (v := .tuple #[.agg #[.string ⟨#[]⟩, .string ⟨#[]⟩], .int .i64 40]) ?_ rfl ⟨rfl, hbl⟩
        simp [results, Tryz.results15, go_sem, p0, p1, Result.andThen]
      | false =>
        obtain rfl := eD rfl
        have KC := Lib.hid (fun W hb => (kc W hb).mono (fun e W' ⟨⟨x, he, hx⟩, k, hk⟩ => (⟨⟨x, he⟩, k, hk⟩ : (∃ x, e = Ending.returned (.tuple #[.string tn, .string x, .bool false])) ∧ ∃ k, W' = W.drewN k)))
        clear kc eD
        go_enter Tryz.func15, Tryz.ntmps15
        go_wp2_with (first
          | (go_at_call 48; with_reducible refine (KC.out _ H0.out.bw).mono ?_; rintro e w1 ⟨⟨x, rfl⟩, k, rfl⟩)
          | (go_at_call 14; have h2 := ((H0.out.drewN k).set2 tn); with_reducible refine (KP.out _ h2.bw).mono ?_; rintro e w2 ⟨rfl, hb⟩; have h3 := h2.below hb; obtain ⟨_, a0, a1, b0, b1, e0, e1, j0, j1, _⟩ := id h3; have H3 := Lib.hid h3; clear h2 h3 hb)
          | fail)
        obtain ⟨W5, hW5, p0, p1, hbl⟩ := H3.out.rs.fin ⟨#[]⟩ ⟨#[]⟩
        rw [hW5]
        clear hW5
        refine bodyPost_ret (v := .tuple #[.agg #[.string ⟨#[]⟩, .string ⟨#[]⟩], .int .i64 40]) ?_ rfl ⟨rfl, hbl⟩
        simp [results, Tryz.results15, go_sem, p0, p1, Result.andThen]
end Go.Proofs.YtkekafamfoifmaaGreatDoor

namespace Go.Proofs.YtkekafamfoifmaaGreatDoor
open Go.RowKit Go.Shelf
attribute [local go_sem] Oper.semAt_some

/-- Boxes of two texts each. -/
structure BxAt (L : List (Nat × ByteArray × ByteArray)) (w W : World) : Prop where
  bw : Below w.heap.size w W
  row : ∀ x ∈ L, W.cell? ⟨x.1, 0, none⟩ = some (.string x.2.1) ∧ W.cell? ⟨x.1, 1, none⟩ = some (.string x.2.2) ∧ x.1 < W.heap.size
theorem BxAt.start (w : World) : BxAt [] w w := ⟨Below.refl _ _, fun _ h => nomatch h⟩
theorem BxAt.below {L : List (Nat × ByteArray × ByteArray)} {w W W' : World} (h : BxAt L w W) (hb : Below W.heap.size W W') : BxAt L w W' := by
  refine ⟨h.bw.trans (hb.mono h.bw.size), fun x hx => ?_⟩
  obtain ⟨h1, h2, h3⟩ := h.row x hx
  exact ⟨(hb.cell (p := ⟨x.1, 0, none⟩) h3).trans h1, (hb.cell (p := ⟨x.1, 1, none⟩) h3).trans h2, Nat.lt_of_lt_of_le h3 hb.size⟩
theorem BxAt.drew {L : List (Nat × ByteArray × ByteArray)} {w W : World} (h : BxAt L w W) : BxAt L w W.drew := ⟨h.bw.drew, h.row⟩
theorem BxAt.push {L : List (Nat × ByteArray × ByteArray)} {w W : World} (h : BxAt L w W) (n d : ByteArray) (t : TypeId) : BxAt ((W.heap.size, n, d) :: L) w (W.alloc (.cells #[.string n, .string d] t)) := by
  have hb : Below W.heap.size W (W.alloc (.cells #[.string n, .string d] t)) := (Below.refl _ _).alloc (Nat.le_refl _) _
  have h2 := h.below hb
  refine ⟨h2.bw, fun x hx => ?_⟩
  rcases List.mem_cons.1 hx with rfl | hx
  · exact ⟨by simp [go_sem], by simp [go_sem], by simp⟩
  · exact h2.row x hx
theorem BxAt.al {L : List (Nat × ByteArray × ByteArray)} {w W : World} (h : BxAt L w W) (o : Obj) : BxAt L w (W.alloc o) := h.below ((Below.refl _ _).alloc (Nat.le_refl _) _)
theorem BxAt.set2 {L : List (Nat × ByteArray × ByteArray)} {w V W : World} {X : Nat} (h : BxAt L w W) (hV : BxAt L w V) (hX : V.heap.size = X) (u v : Value) : BxAt L w ((W.setCell ⟨X, 0, none⟩ u).setCell ⟨X, 1, none⟩ v) := by
  subst hX
  refine ⟨(h.bw.setCell hV.bw.size _).setCell hV.bw.size _, fun x hx => ?_⟩
  obtain ⟨h1, h2, h3⟩ := h.row x hx
  have h4 := (hV.row x hx).2.2
  have ne : ∀ i j, (⟨x.1, i, none⟩ : Addr) ≠ ⟨V.heap.size, j, none⟩ := fun i j e => by
    have := congrArg Addr.block e
    simp at this
    omega
  refine ⟨?_, ?_, by simpa using h3⟩
  · exact (World.cell?_setCell_other _ _ _ _ (fun e => ne _ _ e.symm)).trans ((World.cell?_setCell_other _ _ _ _ (fun e => ne _ _ e.symm)).trans h1)
  · exact (World.cell?_setCell_other _ _ _ _ (fun e => ne _ _ e.symm)).trans ((World.cell?_setCell_other _ _ _ _ (fun e => ne _ _ e.symm)).trans h2)
theorem BxAt.calls {L : List (Nat × ByteArray × ByteArray)} {w W : World} {f : FuncId} {args : Array Value} {v : Value} (h : BxAt L w W)
    (hc : Calls Tryz.prog f args W fun e W' => e = .returned v ∧ Below W.heap.size W W') : Calls Tryz.prog f args W fun e W' => e = .returned v ∧ BxAt L w W' :=
  hc.mono fun _ _ ⟨he, hb⟩ => ⟨he, h.below hb⟩

theorem zero_at {V w' : World} {t : TypeId} (hb : Below (V.alloc (.cells #[.string ⟨#[]⟩, .string ⟨#[]⟩] t)).heap.size (V.alloc (.cells #[.string ⟨#[]⟩, .string ⟨#[]⟩] t)) w') :
    w'.cell? ⟨V.heap.size, 0, none⟩ = some (.string ⟨#[]⟩) ∧ w'.cell? ⟨V.heap.size, 1, none⟩ = some (.string ⟨#[]⟩) ∧ w'.frozen? ⟨V.heap.size, 0, none⟩ = false ∧ w'.frozen? ⟨V.heap.size, 1, none⟩ = false ∧ V.heap.size < w'.heap.size := by
  have h := (RsAt.start (Below.refl _ V) t).below hb
  exact ⟨h.r0, h.r1, h.f0, h.f1, h.sz⟩
theorem zero_at_drew {V w' : World} {t : TypeId} (hb : Below (V.alloc (.cells #[.string ⟨#[]⟩, .string ⟨#[]⟩] t)).drew.heap.size (V.alloc (.cells #[.string ⟨#[]⟩, .string ⟨#[]⟩] t)).drew w') :
    w'.cell? ⟨V.heap.size, 0, none⟩ = some (.string ⟨#[]⟩) ∧ w'.cell? ⟨V.heap.size, 1, none⟩ = some (.string ⟨#[]⟩) ∧ w'.frozen? ⟨V.heap.size, 0, none⟩ = false ∧ w'.frozen? ⟨V.heap.size, 1, none⟩ = false ∧ V.heap.size < w'.heap.size := zero_at (V := V) (t := t) ⟨hb.os, hb.tape, hb.output, hb.size, hb.block⟩
theorem zero_at_drew2 {V w' : World} {t : TypeId} (hb : Below (V.drew.alloc (.cells #[.string ⟨#[]⟩, .string ⟨#[]⟩] t)).heap.size (V.drew.alloc (.cells #[.string ⟨#[]⟩, .string ⟨#[]⟩] t)) w') :
    w'.cell? ⟨V.heap.size, 0, none⟩ = some (.string ⟨#[]⟩) ∧ w'.cell? ⟨V.heap.size, 1, none⟩ = some (.string ⟨#[]⟩) ∧ w'.frozen? ⟨V.heap.size, 0, none⟩ = false ∧ w'.frozen? ⟨V.heap.size, 1, none⟩ = false ∧ V.heap.size < w'.heap.size := zero_at (V := V.drew) (t := t) hb
theorem kept_at {X : Nat} {a b : Value} {V w' : World} (h0 : V.cell? ⟨X, 0, none⟩ = some a) (h1 : V.cell? ⟨X, 1, none⟩ = some b) (h2 : V.frozen? ⟨X, 0, none⟩ = false) (h3 : V.frozen? ⟨X, 1, none⟩ = false) (h4 : X < V.heap.size) (hb : Below V.heap.size V w') :
    w'.cell? ⟨X, 0, none⟩ = some a ∧ w'.cell? ⟨X, 1, none⟩ = some b ∧ w'.frozen? ⟨X, 0, none⟩ = false ∧ w'.frozen? ⟨X, 1, none⟩ = false := by
  obtain ⟨c, f⟩ := bcell hb
  exact ⟨(c _ _ h4).trans h0, (c _ _ h4).trans h1, (f _ _ h4).trans h2, (f _ _ h4).trans h3⟩
theorem kept_at5 {X : Nat} {a b : Value} {V w' : World} (h0 : V.cell? ⟨X, 0, none⟩ = some a) (h1 : V.cell? ⟨X, 1, none⟩ = some b) (h2 : V.frozen? ⟨X, 0, none⟩ = false) (h3 : V.frozen? ⟨X, 1, none⟩ = false) (h4 : X < V.heap.size) (hb : Below V.heap.size V w') :
    w'.cell? ⟨X, 0, none⟩ = some a ∧ w'.cell? ⟨X, 1, none⟩ = some b ∧ w'.frozen? ⟨X, 0, none⟩ = false ∧ w'.frozen? ⟨X, 1, none⟩ = false ∧ X < w'.heap.size := by
  obtain ⟨k0, k1, k2, k3⟩ := kept_at h0 h1 h2 h3 h4 hb
  exact ⟨k0, k1, k2, k3, Nat.lt_of_lt_of_le h4 hb.size⟩
theorem BxAt.put {L : List (Nat × ByteArray × ByteArray)} {w V W : World} {X : Nat} {u v : Value} (h : BxAt L w W) (hV : BxAt L w V) (hX : V.heap.size = X) (c0 : W.cell? ⟨X, 0, none⟩ = some u) (c1 : W.cell? ⟨X, 1, none⟩ = some v) (hs : X < W.heap.size) (n d : ByteArray) : BxAt ((X, n, d) :: L) w ((W.setCell ⟨X, 0, none⟩ (.string n)).setCell ⟨X, 1, none⟩ (.string d)) := by
  have h2 := h.set2 hV hX (.string n) (.string d)
  refine ⟨h2.bw, fun x hx => ?_⟩
  rcases List.mem_cons.1 hx with rfl | hx
  · exact ⟨(World.cell?_setCell_other _ _ _ _ (by simp)).trans (World.cell?_setCell_same _ _ _ c0), World.cell?_setCell_same _ _ _ ((World.cell?_setCell_other _ _ _ _ (by simp)).trans c1), by simpa using hs⟩
  · exact h2.row x hx
set_option maxRecDepth 100000 in
theorem is_b (n d : ByteArray) (w : World) : Calls Tryz.prog 24 #[.string n, .string d] w fun e W' => e = .returned (.agg #[.string n, .string d]) ∧ Below w.heap.size w W' := by
  go_enter Tryz.func24, Tryz.ntmps24
  go_wp2
  refine bodyPost_ret (v := .agg #[.string n, .string d]) ?_ rfl ⟨rfl, (Below.refl _ _).alloc (Nat.le_refl _) _⟩
  simp [results, Tryz.results24, go_sem, Result.andThen]
/-- All that the laws of chapter 04 ask of package rational's callees. -/
structure QOps (w : World) : Prop where
  io : IOps w
  fr : FrOp w
  gm : GlobM w
theorem QOps.below {w w' : World} (h : QOps w) (hb : Below w.heap.size w w') : QOps w' := ⟨h.io.below hb, fun n h1 h2 W hk => h.fr n h1 h2 W (hb.trans (hk.mono hb.size)), h.gm.below hb⟩
end Go.Proofs.YtkekafamfoifmaaGreatDoor

namespace Go.Proofs.YtkekafamfoifmaaGreatDoor
open Go.RowKit Go.Shelf
attribute [local go_sem] Oper.semAt_some

/-- The cells of a block that may be written. -/
structure ArAt (B : Nat) (vs : List Value) (W : World) : Prop where
  row : ∀ (i : Nat) (v : Value), vs[i]? = some v → W.cell? ⟨B, i, none⟩ = some v
  fz : ∀ o, o < vs.length → W.frozen? ⟨B, o, none⟩ = false
  sz : B < W.heap.size
theorem ArAt.below {B : Nat} {vs : List Value} {W W' : World} (h : ArAt B vs W) (hb : Below W.heap.size W W') : ArAt B vs W' := by
  obtain ⟨c, f⟩ := bcell hb
  exact ⟨fun i v hv => (c _ _ h.sz).trans (h.row i v hv), fun o ho => (f _ _ h.sz).trans (h.fz o ho), Nat.lt_of_lt_of_le h.sz hb.size⟩
theorem ArAt.start (W : World) (vs : Array Value) (t : TypeId) : ArAt W.heap.size vs.toList (W.alloc (.cells vs t)) := by
  refine ⟨fun i v hv => ?_, fun o ho => ?_, by simp⟩
  · have hi : i < vs.size := by
      rcases Nat.lt_or_ge i vs.size with h | h
      · exact h
      · rw [List.getElem?_eq_none (by simpa using h)] at hv; cases hv
    rw [List.getElem?_eq_getElem (by simpa using hi)] at hv
    cases hv
    unfold World.cell?
    rw [show (W.alloc (.cells vs t)).heap[W.heap.size]? = some (.cells vs t) by show (W.heap.push _)[W.heap.size]? = _; simp]
    simp [hi]
  · unfold World.frozen?
    rw [show (W.alloc (.cells vs t)).heap[W.heap.size]? = some (.cells vs t) by show (W.heap.push _)[W.heap.size]? = _; simp]
    simp
theorem ArAt.set {B : Nat} {vs : List Value} {W : World} (h : ArAt B vs W) {i : Nat} {u : Value} (hi : vs[i]? = some u) (v : Value) : ArAt B (vs.set i v) (W.setCell ⟨B, i, none⟩ v) := by
  have hl : i < vs.length := by
    rcases Nat.lt_or_ge i vs.length with h | h
    · exact h
    · rw [List.getElem?_eq_none h] at hi; cases hi
  refine ⟨fun j x hx => ?_, fun o ho => ?_, by simpa using h.sz⟩
  · by_cases hj : i = j
    · subst hj
      rw [List.getElem?_set_self hl] at hx
      cases hx
      exact World.cell?_setCell_same _ _ _ (h.row i u hi)
    · rw [List.getElem?_set_ne hj] at hx
      exact (World.cell?_setCell_other _ _ _ _ (fun e => hj (by have := congrArg Addr.off e; simpa using this))).trans (h.row j x hx)
  · have := h.fz o (by simpa using ho)
    simpa [go_sem] using this
theorem ArAt.other {B : Nat} {vs : List Value} {W : World} (h : ArAt B vs W) {B' : Nat} (hB : B' ≠ B) (i : Nat) (v : Value) : ArAt B vs (W.setCell ⟨B', i, none⟩ v) := by
  refine ⟨fun j x hx => (World.cell?_setCell_other _ _ _ _ (fun e => hB (by have := congrArg Addr.block e; simpa using this))).trans (h.row j x hx), fun o ho => ?_, by simpa using h.sz⟩
  have := h.fz o ho
  simpa [go_sem] using this
theorem ArAt.al {B : Nat} {vs : List Value} {W : World} (h : ArAt B vs W) (o : Obj) : ArAt B vs (W.alloc o) := h.below ((Below.refl _ _).alloc (Nat.le_refl _) _)

def zS : Value := .string ⟨#[]⟩
def zI : Value := .int .i64 0
/-- What four holds: the two fractions, the two results' blocks, the two arrays. -/
structure FoAt (a1 a2 b1 b2 : ByteArray) (rs es : List Value) (w W : World) : Prop where
  bw : Below w.heap.size w W
  x : ArAt w.heap.size [.string a1, .string a2] W
  y : ArAt (w.heap.size + 1) [.string b1, .string b2] W
  r0 : ArAt (w.heap.size + 1 + 1) [.string ⟨#[]⟩, .string ⟨#[]⟩, .string ⟨#[]⟩, .string ⟨#[]⟩, .string ⟨#[]⟩, .string ⟨#[]⟩, .string ⟨#[]⟩, .string ⟨#[]⟩] W
  e0 : ArAt (w.heap.size + 1 + 1 + 1) [.int .i64 0, .int .i64 0, .int .i64 0, .int .i64 0] W
  r : ArAt (w.heap.size + 1 + 1 + 1 + 1) rs W
  e : ArAt (w.heap.size + 1 + 1 + 1 + 1 + 1) es W
theorem FoAt.below {a1 a2 b1 b2 : ByteArray} {rs es : List Value} {w W W' : World} (h : FoAt a1 a2 b1 b2 rs es w W) (hb : Below W.heap.size W W') : FoAt a1 a2 b1 b2 rs es w W' :=
  ⟨h.bw.trans (hb.mono h.bw.size), h.x.below hb, h.y.below hb, h.r0.below hb, h.e0.below hb, h.r.below hb, h.e.below hb⟩
theorem FoAt.put {a1 a2 b1 b2 : ByteArray} {rs es : List Value} {w W : World} (h : FoAt a1 a2 b1 b2 rs es w W) (i j k : Nat) {u v x : Value} (h1 : rs[i]? = some u) (n : Value) (h2 : (rs.set i n)[j]? = some v) (h3 : es[k]? = some x) (d c : Value) :
    FoAt a1 a2 b1 b2 ((rs.set i n).set j d) (es.set k c) w (((W.setCell ⟨w.heap.size + 1 + 1 + 1 + 1, i, none⟩ n).setCell ⟨w.heap.size + 1 + 1 + 1 + 1, j, none⟩ d).setCell ⟨w.heap.size + 1 + 1 + 1 + 1 + 1, k, none⟩ c) := by
  refine ⟨((h.bw.setCell (by simp; omega) _).setCell (by simp; omega) _).setCell (by simp; omega) _, ?_, ?_, ?_, ?_, ?_, ?_⟩
  · exact ((h.x.other (by omega) _ _).other (by omega) _ _).other (by omega) _ _
  · exact ((h.y.other (by omega) _ _).other (by omega) _ _).other (by omega) _ _
  · exact ((h.r0.other (by omega) _ _).other (by omega) _ _).other (by omega) _ _
  · exact ((h.e0.other (by omega) _ _).other (by omega) _ _).other (by omega) _ _
  · exact ((h.r.set h1 n).set h2 d).other (by omega) _ _
  · exact ((h.e.other (by omega) _ _).other (by omega) _ _).set h3 c
theorem FoAt.start (w : World) (a1 a2 b1 b2 : ByteArray) (t u v : TypeId) :
    FoAt a1 a2 b1 b2 [.string ⟨#[]⟩, .string ⟨#[]⟩, .string ⟨#[]⟩, .string ⟨#[]⟩, .string ⟨#[]⟩, .string ⟨#[]⟩, .string ⟨#[]⟩, .string ⟨#[]⟩] [.int .i64 0, .int .i64 0, .int .i64 0, .int .i64 0] w
      ((((((w.alloc (.cells #[.string a1, .string a2] t)).alloc (.cells #[.string b1, .string b2] t)).alloc (.cells #[.string ⟨#[]⟩, .string ⟨#[]⟩, .string ⟨#[]⟩, .string ⟨#[]⟩, .string ⟨#[]⟩, .string ⟨#[]⟩, .string ⟨#[]⟩, .string ⟨#[]⟩] u)).alloc (.cells #[.int .i64 0, .int .i64 0, .int .i64 0, .int .i64 0] v)).alloc (.cells #[.string ⟨#[]⟩, .string ⟨#[]⟩, .string ⟨#[]⟩, .string ⟨#[]⟩, .string ⟨#[]⟩, .string ⟨#[]⟩, .string ⟨#[]⟩, .string ⟨#[]⟩] u)).alloc (.cells #[.int .i64 0, .int .i64 0, .int .i64 0, .int .i64 0] v)) := by
  have s1 := ArAt.start w #[.string a1, .string a2] t
  have s2 := ArAt.start (w.alloc (.cells #[.string a1, .string a2] t)) #[.string b1, .string b2] t
  have s3 := ArAt.start ((w.alloc (.cells #[.string a1, .string a2] t)).alloc (.cells #[.string b1, .string b2] t)) #[.string ⟨#[]⟩, .string ⟨#[]⟩, .string ⟨#[]⟩, .string ⟨#[]⟩, .string ⟨#[]⟩, .string ⟨#[]⟩, .string ⟨#[]⟩, .string ⟨#[]⟩] u
  have s4 := ArAt.start (((w.alloc (.cells #[.string a1, .string a2] t)).alloc (.cells #[.string b1, .string b2] t)).alloc (.cells #[.string ⟨#[]⟩, .string ⟨#[]⟩, .string ⟨#[]⟩, .string ⟨#[]⟩, .string ⟨#[]⟩, .string ⟨#[]⟩, .string ⟨#[]⟩, .string ⟨#[]⟩] u)) #[.int .i64 0, .int .i64 0, .int .i64 0, .int .i64 0] v
  have s5 := ArAt.start ((((w.alloc (.cells #[.string a1, .string a2] t)).alloc (.cells #[.string b1, .string b2] t)).alloc (.cells #[.string ⟨#[]⟩, .string ⟨#[]⟩, .string ⟨#[]⟩, .string ⟨#[]⟩, .string ⟨#[]⟩, .string ⟨#[]⟩, .string ⟨#[]⟩, .string ⟨#[]⟩] u)).alloc (.cells #[.int .i64 0, .int .i64 0, .int .i64 0, .int .i64 0] v)) #[.string ⟨#[]⟩, .string ⟨#[]⟩, .string ⟨#[]⟩, .string ⟨#[]⟩, .string ⟨#[]⟩, .string ⟨#[]⟩, .string ⟨#[]⟩, .string ⟨#[]⟩] u
  have s6 := ArAt.start (((((w.alloc (.cells #[.string a1, .string a2] t)).alloc (.cells #[.string b1, .string b2] t)).alloc (.cells #[.string ⟨#[]⟩, .string ⟨#[]⟩, .string ⟨#[]⟩, .string ⟨#[]⟩, .string ⟨#[]⟩, .string ⟨#[]⟩, .string ⟨#[]⟩, .string ⟨#[]⟩] u)).alloc (.cells #[.int .i64 0, .int .i64 0, .int .i64 0, .int .i64 0] v)).alloc (.cells #[.string ⟨#[]⟩, .string ⟨#[]⟩, .string ⟨#[]⟩, .string ⟨#[]⟩, .string ⟨#[]⟩, .string ⟨#[]⟩, .string ⟨#[]⟩, .string ⟨#[]⟩] u)) #[.int .i64 0, .int .i64 0, .int .i64 0, .int .i64 0] v
  simp only [World.size_alloc] at s1 s2 s3 s4 s5 s6
  exact ⟨((((((Below.refl _ _).alloc (Nat.le_refl _) _).alloc (by simp only [World.size_alloc]; omega) _).alloc (by simp only [World.size_alloc]; omega) _).alloc (by simp only [World.size_alloc]; omega) _).alloc (by simp only [World.size_alloc]; omega) _).alloc (by simp only [World.size_alloc]; omega) _, ((((s1.al _).al _).al _).al _).al _, (((s2.al _).al _).al _).al _, ((s3.al _).al _).al _, (s4.al _).al _, s5.al _, s6⟩
/-- The results' blocks when they have been written: any order of the two stores. -/
theorem FoAt.bb {a1 a2 b1 b2 : ByteArray} {rs es : List Value} {w W : World} (h : FoAt a1 a2 b1 b2 rs es w W) : w.heap.size + 1 + 1 + 1 + 1 + 1 < W.heap.size := h.e.sz

set_option maxRecDepth 100000 in
set_option maxHeartbeats 8000000 in
/-- The walk, whatever the four operations answer. -/
theorem four_w {a1 a2 b1 b2 n0 d0 n1 d1 n2 d2 n3 d3 : ByteArray} {k0 k1 k2 k3 : Int} (w : World)
    (C0 : ∀ W, Below w.heap.size w W → Calls Tryz.prog 27 #[.agg #[.string a1, .string a2], .agg #[.string b1, .string b2]] W fun e W' => e = .returned (.tuple #[.agg #[.string n0, .string d0], .int .i64 k0]) ∧ Below W.heap.size W W')
    (C1 : ∀ W, Below w.heap.size w W → Calls Tryz.prog 44 #[.agg #[.string a1, .string a2], .agg #[.string b1, .string b2]] W fun e W' => e = .returned (.tuple #[.agg #[.string n1, .string d1], .int .i64 k1]) ∧ Below W.heap.size W W')
    (C2 : ∀ W, Below w.heap.size w W → Calls Tryz.prog 25 #[.agg #[.string a1, .string a2], .agg #[.string b1, .string b2]] W fun e W' => e = .returned (.tuple #[.agg #[.string n2, .string d2], .int .i64 k2]) ∧ Below W.heap.size W W')
    (C3 : ∀ W, Below w.heap.size w W → Calls Tryz.prog 26 #[.agg #[.string a1, .string a2], .agg #[.string b1, .string b2]] W fun e W' => e = .returned (.tuple #[.agg #[.string n3, .string d3], .int .i64 k3]) ∧ Below W.heap.size W W') :
    Calls Tryz.prog 29 #[.agg #[.string a1, .string a2], .agg #[.string b1, .string b2]] w fun e W' => e = .returned (.tuple #[.agg #[.string n0, .string d0, .string n1, .string d1, .string n2, .string d2, .string n3, .string d3], .agg #[.int .i64 k0, .int .i64 k1, .int .i64 k2, .int .i64 k3]]) ∧ Below w.heap.size w W' := by
  have K0 := Lib.hid C0
  have K1 := Lib.hid C1
  have K2 := Lib.hid C2
  have K3 := Lib.hid C3
  have H0 := Lib.hid (FoAt.start w a1 a2 b1 b2 23 49 50)
  clear C0 C1 C2 C3
  go_enter Tryz.func29, Tryz.ntmps29
  go_wp2_with (first
    | (go_at_call 27; with_reducible refine (K0.out _ H0.out.bw).mono ?_; rintro e w1 ⟨rfl, hb⟩; have h := H0.out.below hb; have x0_1 := h.x.row 0 _ rfl; have x1_1 := h.x.row 1 _ rfl; have y0_1 := h.y.row 0 _ rfl; have y1_1 := h.y.row 1 _ rfl; have r0_1 := h.r.row 0 _ rfl; have r1_1 := h.r.row 1 _ rfl; have e0_1 := h.e.row 0 _ rfl; have f0_1 := h.r.fz 0 (by simp); have f1_1 := h.r.fz 1 (by simp); have g0_1 := h.e.fz 0 (by simp); have H1 := Lib.hid (h.put 0 1 0 rfl (.string n0) rfl rfl (.string d0) (.int .i64 k0)); clear hb h)
    | (go_at_call 44; with_reducible refine (K1.out _ H1.out.bw).mono ?_; rintro e w2 ⟨rfl, hb⟩; have h := H1.out.below hb; have x0_2 := h.x.row 0 _ rfl; have x1_2 := h.x.row 1 _ rfl; have y0_2 := h.y.row 0 _ rfl; have y1_2 := h.y.row 1 _ rfl; have r2_2 := h.r.row 2 _ rfl; have r3_2 := h.r.row 3 _ rfl; have e1_2 := h.e.row 1 _ rfl; have f2_2 := h.r.fz 2 (by simp); have f3_2 := h.r.fz 3 (by simp); have g1_2 := h.e.fz 1 (by simp); have H2 := Lib.hid (h.put 2 3 1 rfl (.string n1) rfl rfl (.string d1) (.int .i64 k1)); clear hb h)
    | (go_at_call 25; with_reducible refine (K2.out _ H2.out.bw).mono ?_; rintro e w3 ⟨rfl, hb⟩; have h := H2.out.below hb; have x0_3 := h.x.row 0 _ rfl; have x1_3 := h.x.row 1 _ rfl; have y0_3 := h.y.row 0 _ rfl; have y1_3 := h.y.row 1 _ rfl; have r4_3 := h.r.row 4 _ rfl; have r5_3 := h.r.row 5 _ rfl; have e2_3 := h.e.row 2 _ rfl; have f4_3 := h.r.fz 4 (by simp); have f5_3 := h.r.fz 5 (by simp); have g2_3 := h.e.fz 2 (by simp); have H3 := Lib.hid (h.put 4 5 2 rfl (.string n2) rfl rfl (.string d2) (.int .i64 k2)); clear hb h)
    | (go_at_call 26; with_reducible refine (K3.out _ H3.out.bw).mono ?_; rintro e w4 ⟨rfl, hb⟩; have h := H3.out.below hb; have r0_4 := h.r.row 0 _ rfl; have rr0_4 := h.r0.row 0 _ rfl; have rf0_4 := h.r0.fz 0 (by simp); have r1_4 := h.r.row 1 _ rfl; have rr1_4 := h.r0.row 1 _ rfl; have rf1_4 := h.r0.fz 1 (by simp); have r2_4 := h.r.row 2 _ rfl; have rr2_4 := h.r0.row 2 _ rfl; have rf2_4 := h.r0.fz 2 (by simp); have r3_4 := h.r.row 3 _ rfl; have rr3_4 := h.r0.row 3 _ rfl; have rf3_4 := h.r0.fz 3 (by simp); have r4_4 := h.r.row 4 _ rfl; have rr4_4 := h.r0.row 4 _ rfl; have rf4_4 := h.r0.fz 4 (by simp); have r5_4 := h.r.row 5 _ rfl; have rr5_4 := h.r0.row 5 _ rfl; have rf5_4 := h.r0.fz 5 (by simp); have r6_4 := h.r.row 6 _ rfl; have rr6_4 := h.r0.row 6 _ rfl; have rf6_4 := h.r0.fz 6 (by simp); have r7_4 := h.r.row 7 _ rfl; have rr7_4 := h.r0.row 7 _ rfl; have rf7_4 := h.r0.fz 7 (by simp); have e0_4 := h.e.row 0 _ rfl; have ee0_4 := h.e0.row 0 _ rfl; have ef0_4 := h.e0.fz 0 (by simp); have e1_4 := h.e.row 1 _ rfl; have ee1_4 := h.e0.row 1 _ rfl; have ef1_4 := h.e0.fz 1 (by simp); have e2_4 := h.e.row 2 _ rfl; have ee2_4 := h.e0.row 2 _ rfl; have ef2_4 := h.e0.fz 2 (by simp); have e3_4 := h.e.row 3 _ rfl; have ee3_4 := h.e0.row 3 _ rfl; have ef3_4 := h.e0.fz 3 (by simp); have f6_4 := h.r.fz 6 (by simp); have f7_4 := h.r.fz 7 (by simp); have g3_4 := h.e.fz 3 (by simp); have H4 := Lib.hid (h.put 6 7 3 rfl (.string n3) rfl rfl (.string d3) (.int .i64 k3)); clear hb h)
    | fail)
  have h := H4.out
  generalize (((w4.setCell ⟨w.heap.size + 1 + 1 + 1 + 1, 6, none⟩ (.string n3)).setCell ⟨w.heap.size + 1 + 1 + 1 + 1, 7, none⟩ (.string d3)).setCell ⟨w.heap.size + 1 + 1 + 1 + 1 + 1, 3, none⟩ (.int .i64 k3)) = W4 at h ⊢
  have r0 := h.r.row 0 _ rfl
  have rr0 := h.r0.row 0 _ rfl
  have rf0 := h.r0.fz 0 (by simp)
  have r1 := h.r.row 1 _ rfl
  have rr1 := h.r0.row 1 _ rfl
  have rf1 := h.r0.fz 1 (by simp)
  have r2 := h.r.row 2 _ rfl
  have rr2 := h.r0.row 2 _ rfl
  have rf2 := h.r0.fz 2 (by simp)
  have r3 := h.r.row 3 _ rfl
  have rr3 := h.r0.row 3 _ rfl
  have rf3 := h.r0.fz 3 (by simp)
  have r4 := h.r.row 4 _ rfl
  have rr4 := h.r0.row 4 _ rfl
  have rf4 := h.r0.fz 4 (by simp)
  have r5 := h.r.row 5 _ rfl
  have rr5 := h.r0.row 5 _ rfl
  have rf5 := h.r0.fz 5 (by simp)
  have r6 := h.r.row 6 _ rfl
  have rr6 := h.r0.row 6 _ rfl
  have rf6 := h.r0.fz 6 (by simp)
  have r7 := h.r.row 7 _ rfl
  have rr7 := h.r0.row 7 _ rfl
  have rf7 := h.r0.fz 7 (by simp)
  have e0 := h.e.row 0 _ rfl
  have ee0 := h.e0.row 0 _ rfl
  have ef0 := h.e0.fz 0 (by simp)
  have e1 := h.e.row 1 _ rfl
  have ee1 := h.e0.row 1 _ rfl
  have ef1 := h.e0.fz 1 (by simp)
  have e2 := h.e.row 2 _ rfl
  have ee2 := h.e0.row 2 _ rfl
  have ef2 := h.e0.fz 2 (by simp)
  have e3 := h.e.row 3 _ rfl
  have ee3 := h.e0.row 3 _ rfl
  have ef3 := h.e0.fz 3 (by simp)
  have HB := Lib.hid h.bw
  clear h H0 H1 H2 H3 H4
  go_region
  all_goals
    go_wp2
    refine bodyPost_ret (v := .tuple #[.agg #[.string n0, .string d0, .string n1, .string d1, .string n2, .string d2, .string n3, .string d3], .agg #[.int .i64 k0, .int .i64 k1, .int .i64 k2, .int .i64 k3]]) ?_ rfl ⟨rfl, ?_⟩
    · simp [results, Tryz.results29, go_sem, Result.andThen, rr0, rr1, rr2, rr3, rr4, rr5, rr6, rr7, ee0, ee1, ee2, ee3]
    · have hb := HB.out
      refine Below.drew ?_
      repeat (first | with_reducible exact hb | with_reducible refine Below.setCell ?_ (by simp; omega) _)
end Go.Proofs.YtkekafamfoifmaaGreatDoor

namespace Go.Proofs.YtkekafamfoifmaaGreatDoor
open Go.RowKit Go.Shelf
attribute [local go_sem] Oper.semAt_some

theorem ArAt.drew {B : Nat} {vs : List Value} {W : World} (h : ArAt B vs W) : ArAt B vs W.drew := ⟨h.row, h.fz, h.sz⟩
/-- A fraction's box, and the result's block. -/
def MnAt (n d : ByteArray) (w W : World) : Prop := BxAt [(w.heap.size, n, d)] w W ∧ ArAt (w.heap.size + 1) [.string ⟨#[]⟩, .string ⟨#[]⟩] W
theorem MnAt.below {n d : ByteArray} {w W W' : World} (h : MnAt n d w W) (hb : Below W.heap.size W W') : MnAt n d w W' := ⟨BxAt.below h.1 hb, ArAt.below h.2 hb⟩
theorem MnAt.drew {n d : ByteArray} {w W : World} (h : MnAt n d w W) : MnAt n d w W.drew := ⟨BxAt.drew h.1, ArAt.drew h.2⟩
theorem MnAt.al {n d : ByteArray} {w W : World} (h : MnAt n d w W) (o : Obj) : MnAt n d w (W.alloc o) := ⟨BxAt.al h.1 o, ArAt.al h.2 o⟩
theorem MnAt.start (w : World) (n d : ByteArray) (t u : TypeId) : MnAt n d w ((w.alloc (.cells #[.string n, .string d] t)).alloc (.cells #[.string ⟨#[]⟩, .string ⟨#[]⟩] u)) := by
  have s := ArAt.start (w.alloc (.cells #[.string n, .string d] t)) #[.string ⟨#[]⟩, .string ⟨#[]⟩] u
  simp only [World.size_alloc] at s
  exact ⟨((BxAt.start w).push n d t).al _, s⟩
/-- The two, and the box of the answer. -/
def MnTo (X : Nat) (n d s t : ByteArray) (w W : World) : Prop := BxAt [(X, s, t), (w.heap.size, n, d)] w W ∧ ArAt (w.heap.size + 1) [.string ⟨#[]⟩, .string ⟨#[]⟩] W
theorem MnAt.push {n d : ByteArray} {w W : World} (h : MnAt n d w W) (s t : ByteArray) (u : TypeId) : MnTo W.heap.size n d s t w (W.alloc (.cells #[.string s, .string t] u)) := ⟨BxAt.push h.1 s t u, ArAt.al h.2 _⟩
theorem MnAt.put {n d : ByteArray} {w V W : World} {X : Nat} {u v : Value} (h : MnAt n d w W) (hV : MnAt n d w V) (hX : V.heap.size = X) (c0 : W.cell? ⟨X, 0, none⟩ = some u) (c1 : W.cell? ⟨X, 1, none⟩ = some v) (hs : X < W.heap.size) (s t : ByteArray) :
    MnTo X n d s t w ((W.setCell ⟨X, 0, none⟩ (.string s)).setCell ⟨X, 1, none⟩ (.string t)) := by
  have hne : X ≠ w.heap.size + 1 := by have := hV.2.sz; omega
  exact ⟨BxAt.put h.1 hV.1 hX c0 c1 hs s t, ((ArAt.other h.2 hne _ _)).other hne _ _⟩
theorem MnTo.rs {X : Nat} {n d s t : ByteArray} {w W : World} (h : MnTo X n d s t w W) : RsAt (w.heap.size + 1) w W :=
  ⟨h.1.bw, h.2.row 0 _ rfl, h.2.row 1 _ rfl, h.2.fz 0 (by simp), h.2.fz 1 (by simp), by omega, h.2.sz⟩

set_option maxRecDepth 100000 in
set_option maxHeartbeats 8000000 in
theorem minus_l {n d : ByteArray} {w : World} (hi : IOps w) (zn : Sz n) (zd : Sz d) {o : Option Rat} (ho : op2 subR ⟨#[48]⟩ ⟨#[49]⟩ n d = o) :
    Calls Tryz.prog 45 #[.agg #[.string n, .string d]] w fun e W' => e = .returned (.agg #[.string (qN o), .string (qD o)]) ∧ Below w.heap.size w W' := by
  have KD := Lib.hid (fun (W : World) (h : Below w.heap.size w W) => by have := Sub_q (hi.below h) sz_zero sz_one zn zd; rw [ho] at this; exact this)
  have H4 := Lib.hid (MnAt.start w n d 23 23)
  generalize qN o = rn at KD ⊢
  generalize qD o = rd at KD ⊢
  generalize qE o = re at KD
  clear hi zn zd ho
  go_enter Tryz.func45, Tryz.ntmps45
  go_wp2
  go_cut [3] from 4 (fun v3 wX => ∃ X, v3 = .pointer (some ⟨X, 0, none⟩) ∧ MnTo X n d rn rd w wX)
  case first =>
    go_region_held3 (fun W => W.cell? ⟨w.heap.size, 0, none⟩ = some (.string n) ∧ W.cell? ⟨w.heap.size, 1, none⟩ = some (.string d)) (first | exact ⟨((H6.out.1.set2 H5.out.1 rfl _ _).row (w.heap.size, n, d) (by simp)).1, ((H6.out.1.set2 H5.out.1 rfl _ _).row (w.heap.size, n, d) (by simp)).2.1⟩ | exact ⟨((H6.out.1.set2 H4.out.1 (by simp) _ _).row (w.heap.size, n, d) (by simp)).1, ((H6.out.1.set2 H4.out.1 (by simp) _ _).row (w.heap.size, n, d) (by simp)).2.1⟩ | exact ⟨(H6.out.1.row (w.heap.size, n, d) (by simp)).1, (H6.out.1.row (w.heap.size, n, d) (by simp)).2.1⟩ | exact ⟨((H6.out.1.al _).row (w.heap.size, n, d) (by simp)).1, ((H6.out.1.al _).row (w.heap.size, n, d) (by simp)).2.1⟩ | exact ⟨(H5.out.1.row (w.heap.size, n, d) (by simp)).1, (H5.out.1.row (w.heap.size, n, d) (by simp)).2.1⟩ | exact ⟨((H5.out.1.al _).row (w.heap.size, n, d) (by simp)).1, ((H5.out.1.al _).row (w.heap.size, n, d) (by simp)).2.1⟩ | exact ⟨(H4.out.1.row (w.heap.size, n, d) (by simp)).1, (H4.out.1.row (w.heap.size, n, d) (by simp)).2.1⟩ | exact ⟨((H4.out.1.al _).row (w.heap.size, n, d) (by simp)).1, ((H4.out.1.al _).row (w.heap.size, n, d) (by simp)).2.1⟩ | exact ⟨(H4.out.1.drew.row (w.heap.size, n, d) (by simp)).1, (H4.out.1.drew.row (w.heap.size, n, d) (by simp)).2.1⟩) (first
      | (go_at_call 24; refine (is_b _ _ _).mono ?_; rintro e w5 ⟨rfl, hb5⟩; have H5 := Lib.hid (MnAt.below (by first | exact H4.out.drew | exact (H4.out.drew).al _ | exact (H4.out.al _).drew) hb5); (first | (with_reducible have hz := zero_at hb5; obtain ⟨za0, za1, za2, za3, za4⟩ := hz; (try simp at za0 za1 za2 za3 za4)) | (with_reducible have hz := zero_at_drew hb5; obtain ⟨za0, za1, za2, za3, za4⟩ := hz; (try simp at za0 za1 za2 za3 za4)) | (with_reducible have hz := zero_at_drew2 hb5; obtain ⟨za0, za1, za2, za3, za4⟩ := hz; (try simp at za0 za1 za2 za3 za4)) | skip); clear hb5)
      | (go_at_call 44; refine (KD.out _ (by first | exact H5.out.1.bw | exact (H5.out.1.al _).bw)).mono ?_; rintro e w6 ⟨rfl, hb6⟩; have H6 := Lib.hid (MnAt.below (by first | exact H5.out | exact H5.out.al _) hb6); (first | (with_reducible have hz := kept_at5 za0 za1 za2 za3 za4 hb6; obtain ⟨zb0, zb1, zb2, zb3, zb4⟩ := hz) | (with_reducible have hz := zero_at hb6; obtain ⟨zb0, zb1, zb2, zb3, zb4⟩ := hz; (try simp at zb0 zb1 zb2 zb3 zb4)) | skip); clear hb6))
    all_goals
      go_wp2
      go_meet
      exact ⟨_, rfl, by first | exact H6.out.push _ _ _ | exact H6.out.put H5.out rfl zb0 zb1 zb4 _ _ | exact H6.out.put H4.out (by simp) zb0 zb1 zb4 _ _⟩
  case rest =>
    obtain ⟨X, rfl, hX⟩ := hcut
    obtain ⟨x0, x1, _⟩ := hX.1.row (X, rn, rd) (by simp)
    have hr := hX.rs
    obtain ⟨_, q1, q2, q3, q4, _, _⟩ := id hr
    have HR := Lib.hid hr
    clear hr hX
    go_wp2
    obtain ⟨W5, hW5, p0, p1, hbl⟩ := HR.out.fin rn rd
    rw [hW5]
    clear hW5 q1 q2 q3 q4
    refine bodyPost_ret (v := .agg #[.string rn, .string rd]) ?_ rfl ⟨rfl, hbl⟩
    simp [results, Tryz.results45, go_sem, p0, p1, Result.andThen]
end Go.Proofs.YtkekafamfoifmaaGreatDoor

namespace Go.Proofs.YtkekafamfoifmaaGreatDoor
open Go.RowKit Go.Shelf
attribute [local go_sem] Oper.semAt_some

theorem ArAt.mk' (W : World) (l : List Value) (t : TypeId) : ArAt W.heap.size l (W.alloc (.cells l.toArray t)) := ArAt.start W l.toArray t
/-- Blocks that may be written, with their cells; all behind a first world. -/
structure AzAt (L : List (Nat × List Value)) (w W : World) : Prop where
  bw : Below w.heap.size w W
  row : ∀ x ∈ L, ArAt x.1 x.2 W
theorem AzAt.start (w : World) : AzAt [] w w := ⟨Below.refl _ _, fun _ h => by cases h⟩
theorem AzAt.below {L : List (Nat × List Value)} {w W W' : World} (h : AzAt L w W) (hb : Below W.heap.size W W') : AzAt L w W' := ⟨h.bw.trans (hb.mono h.bw.size), fun x hx => (h.row x hx).below hb⟩
theorem AzAt.al {L : List (Nat × List Value)} {w W : World} (h : AzAt L w W) (o : Obj) : AzAt L w (W.alloc o) := h.below ((Below.refl _ _).alloc (Nat.le_refl _) _)
theorem AzAt.drew {L : List (Nat × List Value)} {w W : World} (h : AzAt L w W) : AzAt L w W.drew := ⟨h.bw.drew, fun x hx => (h.row x hx).drew⟩
theorem AzAt.push {L : List (Nat × List Value)} {w W : World} (h : AzAt L w W) (l : List Value) (t : TypeId) : AzAt ((W.heap.size, l) :: L) w (W.alloc (.cells l.toArray t)) := by
  refine ⟨(h.al _).bw, fun x hx => ?_⟩
  rcases List.mem_cons.1 hx with rfl | hx
  · exact ArAt.mk' W l t
  · exact (h.al _).row x hx
theorem AzAt.sub {L L' : List (Nat × List Value)} {w W : World} (h : AzAt L w W) (hs : ∀ x ∈ L', x ∈ L) : AzAt L' w W := ⟨h.bw, fun x hx => h.row x (hs x hx)⟩
theorem AzAt.set {L : List (Nat × List Value)} {w W : World} {B i : Nat} {l : List Value} {u : Value} (h : AzAt ((B, l) :: L) w W) (hB : w.heap.size ≤ B) (hd : ∀ x ∈ L, B ≠ x.1) (hi : l[i]? = some u) (v : Value) : AzAt ((B, l.set i v) :: L) w (W.setCell ⟨B, i, none⟩ v) := by
  refine ⟨h.bw.setCell hB _, fun x hx => ?_⟩
  rcases List.mem_cons.1 hx with rfl | hx
  · exact (h.row (B, l) (by simp)).set hi v
  · exact (h.row x (by simp [hx])).other (hd x hx) i v
end Go.Proofs.YtkekafamfoifmaaGreatDoor

namespace Go.Proofs.YtkekafamfoifmaaGreatDoor
open Go.RowKit Go.Shelf
attribute [local go_sem] Oper.semAt_some

/-- The first k bytes of a text. -/
def cutS (s : ByteArray) (k : Int) : ByteArray := s.extract 0 (min (s.size : Int) k).toNat
theorem cutS_size (s : ByteArray) (k : Int) (hk : 0 ≤ k) : ((cutS s k).size : Int) ≤ k := by
  unfold cutS
  rw [ByteArray.size_extract]
  omega
theorem cutS_sz (s : ByteArray) : Sz (cutS s 210) := by
  have := cutS_size s 210 (by decide)
  unfold Sz
  omega
set_option maxRecDepth 100000 in
set_option maxHeartbeats 4000000 in
theorem cut_l (n d : ByteArray) (hn : n.size ≤ 9223372036854775807) (hd : d.size ≤ 9223372036854775807) (w : World) :
    Calls Tryz.prog 13 #[.agg #[.string n, .string d]] w fun e W' => e = .returned (.agg #[.string (cutS n 210), .string (cutS d 210)]) ∧ Below w.heap.size w W' := by
  have h1 : min (n.size : Int) 210 ≤ n.size := by omega
  have h2 : min (d.size : Int) 210 ≤ d.size := by omega
  have h3 : 0 ≤ min (n.size : Int) 210 := by omega
  have h4 : 0 ≤ min (d.size : Int) 210 := by omega
  go_enter Tryz.func13, Tryz.ntmps13
  go_wp2
  go_region
  all_goals
    go_wp2
    refine bodyPost_ret (v := .agg #[.string (cutS n 210), .string (cutS d 210)]) ?_ rfl ⟨rfl, ?_⟩
    · simp [results, Tryz.results13, go_sem, Result.andThen, cutS]
    · exact (((Below.refl _ _).alloc (Nat.le_refl _) _).alloc (by simp only [World.size_alloc]; omega) _).drew
end Go.Proofs.YtkekafamfoifmaaGreatDoor

