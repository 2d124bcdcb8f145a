/-
  Package rational: Print and Parse.
-/
import Derived.Test.YtkekafamfoifmaaGreatDoorZRat
import Derived.Test.YtkekafamfoifmaaGreatDoorZShelf
import Derived.Test.YtkekafamfoifmaaGreatDoorZShelfJ
namespace Go.Proofs.YtkekafamfoifmaaGreatDoor
open Go.RowKit Go.Shelf
attribute [local go_sem] Oper.semAt_some

theorem join_two (n d : ByteArray) : (⟨(Lib.join ([n, d].map (·.data.toList)) (⟨#[47]⟩ : ByteArray).data.toList).toArray⟩ : ByteArray) = n ++ ⟨#[47]⟩ ++ d := by
  have e : (n ++ ⟨#[47]⟩ ++ d).data.toList = n.data.toList ++ [47] ++ d.data.toList := by rw [ba_append, ba_append]
  have e2 : (⟨(Lib.join ([n, d].map (·.data.toList)) (⟨#[47]⟩ : ByteArray).data.toList).toArray⟩ : ByteArray).data.toList = (n ++ ⟨#[47]⟩ ++ d).data.toList := by
    rw [e]
    show (Lib.join [n.data.toList, d.data.toList] [47]).toArray.toList = _
    simp [Lib.join, List.intercalate, List.intersperse]
  exact congrArg ByteArray.mk (Array.toList_inj.1 e2)
theorem ratO_len {n d : ByteArray} {r : Rat} (h : ratO n d = some r) : n.size ≤ 201 ∧ d.size ≤ 201 := by
  obtain ⟨e1, e2, h1, h2⟩ := ratO_some h
  have key : ∀ z : Int, small z = true → (str z).size ≤ 201 := fun z hz => by
    rw [str_size]
    have := txt_length z
    have : nDig z.natAbs ≤ 200 := by simpa [small] using hz
    omega
  rw [e1, e2]
  exact ⟨key _ h1, key _ h2⟩
theorem Join_two {n d : ByteArray} {W : World} (h1 : n.size ≤ 201) (h2 : d.size ≤ 201) (t : TypeId) (S : Nat) (hS : W.heap.size = S) :
    Calls Tryz.prog 47 #[.slice (some ⟨S, 0, none⟩) 2 2, .string ⟨#[47]⟩] (W.alloc (.cells #[.string n, .string d] t)) fun e w' => e = .returned (.string (n ++ ⟨#[47]⟩ ++ d)) ∧ Below W.heap.size W w' := by
  subst hS
  have hl : (Lib.join ([n, d].map (·.data.toList)) (⟨#[47]⟩ : ByteArray).data.toList).length ≤ 140737488355328 := by
    have e := congrArg (fun b : ByteArray => b.data.toList.length) (join_two n d)
    simp only at e
    rw [e, ba_append, ba_append, List.length_append, List.length_append, ← ba_size, ← ba_size, ← ba_size]
    show n.size + 1 + d.size ≤ _
    omega
  have hb : Below W.heap.size W (W.alloc (.cells #[.string n, .string d] t)) := (Below.refl _ _).alloc (Nat.le_refl _) _
  refine (Tryz.strings_Join W.heap.size 0 2 [n, d] ⟨#[47]⟩ (W.alloc (.cells #[.string n, .string d] t)) ?_ (by simp) (by simp) (by simp) hl).mono ?_
  · intro j x hx
    rcases j with _ | _ | j
    · simp only [List.getElem?_cons_zero, Option.some.injEq] at hx
      subst hx
      simp [go_sem]
    · simp only [List.getElem?_cons_succ, List.getElem?_cons_zero, Option.some.injEq] at hx
      subst hx
      simp [go_sem]
    · simp at hx
  · rintro e w' ⟨rfl, h⟩
    exact ⟨by rw [join_two], hb.trans (h.mono hb.size)⟩

set_option maxRecDepth 100000 in
set_option maxHeartbeats 2000000 in
theorem Print_q {n d : ByteArray} {w : World} (hi : IOps w) (zn : Sz n) (zd : Sz d) :
    Calls Tryz.prog 14 #[.agg #[.string n, .string d]] w fun e W' => e = .returned (.string (printS n d)) ∧ Below w.heap.size w W' := by
  have H0 := Lib.hid (RtAt.start (Below.refl _ w) n d 23)
  have v := fun W (h : Below w.heap.size w W) => Valid_q zn zd (hi.below h)
  unfold printS
  cases hr : ratO n d with
  | none =>
    rw [show vR n d = false by unfold vR; rw [hr]; rfl] at v
    have V := Lib.hid v
    clear v hi hr zn zd
    go_enter Tryz.func14, Tryz.ntmps14
    go_wp2_with (first
      | (go_at_call 17; with_reducible refine (V.out _ H0.out.bw).mono ?_; rintro e w1 ⟨rfl, hb⟩; have H1 := Lib.hid (H0.out.below hb); clear hb)
      | fail)
    go_ret
    exact ⟨rfl, H1.out.bw⟩
  | some r =>
    rw [show vR n d = true by unfold vR; rw [hr]; rfl] at v
    have V := Lib.hid v
    obtain ⟨l1, l2⟩ := ratO_len hr
    clear v hi hr zn zd
    show Calls _ _ _ _ fun e W' => e = .returned (.string (if d.data.toList = [49] then n else n ++ ⟨#[47]⟩ ++ d)) ∧ _
    by_cases hd : d.data.toList = [49]
    · rw [if_pos hd]
      rw [← Lib.toList_data] at hd
      have hd2 : (d.toList == [49]) = true := by simp [hd]
      clear hd
      go_enter Tryz.func14, Tryz.ntmps14
      go_wp2_with (first
        | (go_at_call 17; with_reducible refine (V.out _ H0.out.bw).mono ?_; rintro e w1 ⟨rfl, hb⟩; have h1 := H0.out.below hb; have c0 := h1.c0; have c1 := h1.c1; have H1 := Lib.hid h1; clear hb h1)
        | fail)
      go_ret
      exact ⟨rfl, H1.out.bw⟩
    · rw [if_neg hd]
      rw [← Lib.toList_data] at hd
      have hd2 : (d.toList == [49]) = false := by simpa using hd
      clear hd
      have J := Lib.hid (fun (W : World) (t : TypeId) (S : Nat) (hS : W.heap.size = S) => Join_two (W := W) l1 l2 t S hS)
      clear l1 l2
      generalize n ++ ⟨#[47]⟩ ++ d = res at J ⊢
      go_enter Tryz.func14, Tryz.ntmps14
      go_wp2_with (first
        | (go_at_call 17; with_reducible refine (V.out _ H0.out.bw).mono ?_; rintro e w1 ⟨rfl, hb⟩; have h1 := H0.out.below hb; have c0 := h1.c0; have c1 := h1.c1; have H1 := Lib.hid h1; clear hb h1)
        | (go_at_call 47; with_reducible refine (J.out w1 _ _ rfl).mono ?_; rintro e w2 ⟨rfl, hb⟩; have H2 := Lib.hid (H1.out.below hb); clear hb)
        | fail)
      go_ret
      exact ⟨rfl, H2.out.bw⟩
end Go.Proofs.YtkekafamfoifmaaGreatDoor

