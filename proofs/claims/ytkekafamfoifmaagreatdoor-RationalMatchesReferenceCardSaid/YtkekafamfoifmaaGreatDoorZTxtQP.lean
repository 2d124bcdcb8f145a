/-
  Plain facts for RationalTextMatchesReference: a fraction is read from its text, and what is read has that text. No code of the program is named here.
-/
import Derived.Test.YtkekafamfoifmaaGreatDoorZLimQP
import Derived.Test.YtkekafamfoifmaaGreatDoorZFqP
namespace Go.Proofs.YtkekafamfoifmaaGreatDoor

theorem txt_slash (z : Int) : ∀ c ∈ txt z, c ≠ 47 := by
  intro c hc e
  subst e
  unfold txt at hc
  split at hc
  · rcases List.mem_cons.1 hc with h | h
    · exact absurd h (by decide)
    · exact absurd (txtN_digits _ _ h).1 (by decide)
  · exact absurd (txtN_digits _ _ hc).1 (by decide)
theorem str_slash (z : Int) : ∀ j : Nat, (str z).data.toList[j]? ≠ some 47 := fun _ h => txt_slash z 47 (List.mem_of_getElem? h) rfl
theorem str_one_of {z : Int} (h : (str z).data.toList = [49]) : str z = ⟨#[49]⟩ := congrArg ByteArray.mk (Array.toList_inj.1 h)
theorem ba_mk (s : ByteArray) : (⟨s.data.toList.toArray⟩ : ByteArray) = s := by simp
theorem size_200 {z : Int} (h : small z = true) : (str z).size ≤ 201 := by
  rw [str_size]
  have h1 := txt_length z
  have h2 : nDig z.natAbs ≤ 200 := by simpa [small] using h
  omega
theorem str_fit {z : Int} (h : small z = true) : Sz (str z) := by
  have := size_200 h
  unfold Sz
  omega
theorem parse_back {s n d : ByteArray} {r : Rat} (h : ratO n d = some r) (h1 : cutN s = n) (h2 : cutD s = d) (h3 : printS n d = s) (h4 : s ≠ ⟨#[]⟩) : parseO s = some r := by
  unfold parseO
  rw [h1, h2, if_pos ⟨h3, h4⟩, h]
theorem str_ne (z : Int) : 0 < (str z).size := by
  rw [str_size]
  unfold txt
  split
  · simp
  · exact List.length_pos_iff.2 (txtN_ne _)
theorem ne_nil_of {s : ByteArray} (h : 0 < s.size) : s ≠ ⟨#[]⟩ := fun e => by
  rw [e] at h
  exact absurd h (by decide)
theorem take_slash (a b : List UInt8) : (a ++ 47 :: b).take a.length = a := List.take_left' rfl
theorem drop_slash (a b : List UInt8) : (a ++ 47 :: b).drop (a.length + 1) = b := by rw [show a ++ 47 :: b = (a ++ [47]) ++ b by simp]; exact List.drop_left' (by simp)
/-- A fraction is read from its text. -/
theorem parse_print {n d : ByteArray} {r : Rat} (h : ratO n d = some r) : parseO (printS n d) = some r ∧ 0 < (printS n d).size ∧ (printS n d).size ≤ 1000 := by
  obtain ⟨hn, hd, hf⟩ := ratO_some h
  have s1 := size_200 hf.1
  have s2 := size_200 hf.2
  have s3 := str_ne r.num
  rw [← hn] at s1 s3
  rw [← hd] at s2
  by_cases h1 : d.data.toList = [49]
  · have e : printS n d = n := by unfold printS; rw [h]; exact if_pos h1
    have e1 : d = ⟨#[49]⟩ := by rw [hd]; rw [hd] at h1; exact str_one_of h1
    have hc := cutND_none (s := n) (by rw [hn]; exact str_slash _)
    refine ⟨?_, by rw [e]; exact s3, by rw [e]; omega⟩
    rw [e]
    exact parse_back h hc.1 (hc.2.trans e1.symm) e (ne_nil_of s3)
  · have e : printS n d = n ++ ⟨#[47]⟩ ++ d := by unfold printS; rw [h]; exact if_neg h1
    have el : (n ++ (⟨#[47]⟩ : ByteArray) ++ d).data.toList = n.data.toList ++ 47 :: d.data.toList := by simp
    have ez : (n ++ (⟨#[47]⟩ : ByteArray) ++ d).size = n.size + 1 + d.size := by rw [ba_size, el, ba_size n, ba_size d]; simp; omega
    have hc := cutND_at (s := n ++ (⟨#[47]⟩ : ByteArray) ++ d) (i := n.data.toList.length) (by rw [el]; simp)
      (fun j hj => by
        rw [el, List.getElem?_append_left hj, hn]
        exact str_slash _ j)
    rw [el, take_slash, drop_slash, ba_mk, ba_mk] at hc
    rw [e]
    exact ⟨parse_back h hc.1 hc.2 e (ne_nil_of (by omega)), by omega, by omega⟩
theorem print_none {n d : ByteArray} (h : ratO n d = none) : printS n d = ⟨#[]⟩ := by
  unfold printS
  rw [h]
theorem parse_nil : parseO ⟨#[]⟩ = none := by
  unfold parseO
  exact if_neg fun h => h.2 rfl
theorem parse_FO (s : ByteArray) : FO (parseO s) := fun r h => by
  unfold parseO at h
  split at h
  · exact (ratO_some h).2.2
  · cases h
/-- What is read has the text that was read. -/
theorem parse_text (s : ByteArray) : qE (parseO s) = 40 ∨ qE (parseO s) = 0 ∧ printS (qN (parseO s)) (qD (parseO s)) = s := by
  by_cases hp : printS (cutN s) (cutD s) = s ∧ s ≠ ⟨#[]⟩
  · obtain ⟨r, h1, h2, h3⟩ := parse_some hp.1 hp.2
    right
    rw [h1]
    refine ⟨rfl, ?_⟩
    show printS (str r.num) (str (r.den : Int)) = s
    rw [← h2, ← h3]
    exact hp.1
  · left
    unfold parseO
    rw [if_neg hp]
    rfl
end Go.Proofs.YtkekafamfoifmaaGreatDoor

