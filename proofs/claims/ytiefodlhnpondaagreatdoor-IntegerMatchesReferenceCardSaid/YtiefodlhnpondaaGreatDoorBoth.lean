/-
  both: two valid texts read as numbers.
-/
import Derived.Test.YtiefodlhnpondaaGreatDoorParse
namespace Go.Proofs.YtiefodlhnpondaaGreatDoor
open Go.RowKit Go.Shelf
attribute [local go_sem] Oper.semAt_some

/-- A signed number that stands for the integer z. -/
def Zg (w : World) (v : Value) (z : Int) (lo hi : Nat) : Prop := ∃ neg n s, v = .agg #[.bool neg, s] ∧ Nm w s n lo hi ∧ z = if neg = true then -(n : Int) else n
theorem Zg.below {w w' : World} {v : Value} {z : Int} {lo hi B : Nat} (h : Zg w v z lo hi) (hb : Below B w w') (hB : hi ≤ B) : Zg w' v z lo hi := by
  obtain ⟨neg, n, s, h1, h2, h3⟩ := h
  exact ⟨neg, n, s, h1, h2.below hb hB, h3⟩
theorem Zg.mono {w : World} {v : Value} {z : Int} {lo hi lo' hi' : Nat} (h : Zg w v z lo hi) (h1 : lo' ≤ lo) (h2 : hi ≤ hi') : Zg w v z lo' hi' := by
  obtain ⟨neg, n, s, e, h3, h4⟩ := h
  exact ⟨neg, n, s, e, h3.mono h1 h2, h4⟩

theorem Zg.form {w : World} {v : Value} {z : Int} {lo hi : Nat} (h : Zg w v z lo hi) : ∃ neg n a c, v = .agg #[.bool neg, .slice a (dig 10000 n).length c] ∧ Nm w (.slice a (dig 10000 n).length c) n lo hi ∧ z = if neg = true then -(n : Int) else n := by
  obtain ⟨neg, n, s, rfl, h2, h3⟩ := h
  obtain ⟨a, c, rfl⟩ : ∃ a cap, s = .slice a (dig 10000 n).length cap := by obtain ⟨a, cap, e, _⟩ := h2; exact ⟨a, cap, e⟩
  exact ⟨neg, n, a, c, rfl, h2, h3⟩
/-- A signed number that stands for the integer z, and bears z's own sign. -/
def Zs (w : World) (v : Value) (z : Int) (lo hi : Nat) : Prop := ∃ neg n s, v = .agg #[.bool neg, s] ∧ Nm w s n lo hi ∧ neg = decide (z < 0) ∧ n = z.natAbs
theorem zs_eq {neg : Bool} {n : Nat} {z : Int} (h : neg = decide (z < 0) ∧ n = z.natAbs) : z = if neg = true then -(n : Int) else n := by
  obtain ⟨rfl, rfl⟩ := h
  by_cases hz : z < 0
  · rw [if_pos (by simpa using hz)]; omega
  · rw [if_neg (by simpa using hz)]; omega
theorem Zs.zg {w : World} {v : Value} {z : Int} {lo hi : Nat} (h : Zs w v z lo hi) : Zg w v z lo hi := by
  obtain ⟨neg, n, s, rfl, h2, h3⟩ := h
  exact ⟨neg, n, s, rfl, h2, zs_eq h3⟩
theorem Zs.form {w : World} {v : Value} {z : Int} {lo hi : Nat} (h : Zs w v z lo hi) : ∃ neg n a c, v = .agg #[.bool neg, .slice a (dig 10000 n).length c] ∧ Nm w (.slice a (dig 10000 n).length c) n lo hi ∧ neg = decide (z < 0) ∧ n = z.natAbs := by
  obtain ⟨neg, n, s, rfl, h2, h3⟩ := h
  obtain ⟨a, c, rfl⟩ : ∃ a cap, s = .slice a (dig 10000 n).length cap := by obtain ⟨a, cap, e, _⟩ := h2; exact ⟨a, cap, e⟩
  exact ⟨neg, n, a, c, rfl, h2, h3⟩
theorem str_list (z : Int) : (str z).data.toList = txt z := by simp [str]
theorem parse_str (z : Int) (w : World) (hz : nDig z.natAbs ≤ 200) :
    Calls Tryz.prog 59 #[.string (str z)] w fun e w' => (∃ v, e = .returned v ∧ Zs w' v z w.heap.size w'.heap.size) ∧ Below w.heap.size w w' := by
  refine (parse_any (str z) w (by rw [str_list, validL_txt]; exact decide_eq_true hz)).mono ?_
  rintro e w' ⟨⟨v, rfl, s, rfl, hs⟩, hb⟩
  rw [str_list, unsign_txt, valB_txtN] at hs
  refine ⟨⟨_, rfl, _, _, s, rfl, hs, ?_, rfl⟩, hb⟩
  rw [str_list]
  unfold txt
  by_cases h : z < 0
  · simp [h]
  · have h1 : (txtN z.natAbs).head? ≠ some 45 := by
      intro e
      have := txtN_digits z.natAbs 45 (List.mem_of_head? e)
      exact absurd this (by decide)
    simp [h, h1]

/-- Two blocks for signed numbers, as they are made. -/
structure TwoAt (N : Nat) (w W : World) : Prop where
  a0 : W.cell? ⟨N, 0, none⟩ = some (.bool false)
  a1 : W.cell? ⟨N, 1, none⟩ = some (.slice none 0 0)
  b0 : W.cell? ⟨N + 1, 0, none⟩ = some (.bool false)
  b1 : W.cell? ⟨N + 1, 1, none⟩ = some (.slice none 0 0)
  fa0 : W.frozen? ⟨N, 0, none⟩ = false
  fa1 : W.frozen? ⟨N, 1, none⟩ = false
  fb0 : W.frozen? ⟨N + 1, 0, none⟩ = false
  fb1 : W.frozen? ⟨N + 1, 1, none⟩ = false
  sz : N + 2 ≤ W.heap.size
  bw : Below N w W
theorem TwoAt.below {N : Nat} {w W W' : World} (h : TwoAt N w W) (hb : Below W.heap.size W W') : TwoAt N w W' := by
  have hs := h.sz
  have hs' := hb.size
  obtain ⟨c, f⟩ := bcell hb
  exact ⟨(c _ _ (by omega)).trans h.a0, (c _ _ (by omega)).trans h.a1, (c _ _ (by omega)).trans h.b0, (c _ _ (by omega)).trans h.b1,
    (f _ _ (by omega)).trans h.fa0, (f _ _ (by omega)).trans h.fa1, (f _ _ (by omega)).trans h.fb0, (f _ _ (by omega)).trans h.fb1, by omega, h.bw.trans (hb.mono (by omega))⟩
theorem TwoAt.start (w : World) : TwoAt w.heap.size w ((w.alloc (.cells #[.bool false, .slice none 0 0] 50)).alloc (.cells #[.bool false, .slice none 0 0] 50)) := by
  refine ⟨?_, ?_, ?_, ?_, ?_, ?_, ?_, ?_, by simp, ((Below.refl _ _).alloc (Nat.le_refl _) _).alloc (by simp) _⟩ <;> simp [go_sem]

set_option maxHeartbeats 8000000 in
set_option maxRecDepth 100000 in
theorem both_ok (a b : Int) (w : World) (ha : nDig a.natAbs ≤ 200) (hb : nDig b.natAbs ≤ 200) :
    Calls Tryz.prog 38 #[.string (str a), .string (str b)] w fun e w' => (∃ va vb, e = .returned (.tuple #[va, vb, .bool true]) ∧ Zs w' va a w.heap.size w'.heap.size ∧ Zs w' vb b w.heap.size w'.heap.size) ∧ Below w.heap.size w w' := by
  have hsz : ∀ z : Int, nDig z.natAbs ≤ 200 → (str z).size ≤ 9223372036854775807 := fun z h => by rw [str_size]; have := txt_length z; omega
  have hv : ∀ z : Int, nDig z.natAbs ≤ 200 → validL (str z).data.toList = true := fun z h => by rw [str_list, validL_txt]; exact decide_eq_true h
  have hA := fun W => isValid_any (str a) W (hsz a ha)
  have hB := fun W => isValid_any (str b) W (hsz b hb)
  rw [hv a ha] at hA
  rw [hv b hb] at hB
  have pA := fun W => parse_str a W ha
  have pB := fun W => parse_str b W hb
  generalize str a = sa at hA pA ⊢
  generalize str b = sb at hB pB ⊢
  have HS := Lib.hid (TwoAt.start w)
  go_enter Tryz.func38, Tryz.ntmps38
  go_wp2_with (first
    | (go_at_call 47; with_reducible refine (hA _).mono ?_; rintro e w1 ⟨rfl, hb1⟩; have H1 := Lib.hid (HS.out.below hb1); clear hb1)
    | (go_at_call 47; with_reducible refine (hB _).mono ?_; rintro e w2 ⟨rfl, hb2⟩; have H2 := Lib.hid (H1.out.below hb2); clear hb2)
    | (go_at_call 59; with_reducible refine (pA _).mono ?_; rintro e w3 ⟨⟨va, rfl, hzg⟩, hb3⟩; obtain ⟨nega, na, aa, ca, rfl, hva, hza⟩ := hzg.form; clear hzg; have H3 := Lib.hid (H2.out.below hb3); have HA := Lib.hid hva; have HZA := Lib.hid hza; clear hva hza)
    | (go_at_call 59; with_reducible refine (pB _).mono ?_; rintro e w4 ⟨⟨vb, rfl, hzg⟩, hb4⟩; obtain ⟨negb, nb, ab, cb, rfl, hvb, hzb⟩ := hzg.form; clear hzg; have H4 := Lib.hid (H3.out.below hb4); have HB := Lib.hid hvb; have HZB := Lib.hid hzb; clear hvb hzb; have q1 := H4.out.a0; have q2 := H4.out.a1; have q3 := H4.out.b0; have q4 := H4.out.b1; have q5 := H4.out.fa0; have q6 := H4.out.fa1; have q7 := H4.out.fb0; have q8 := H4.out.fb1)
    | fail)
  obtain ⟨W5, hW5⟩ : ∃ W5, ((((w4.setCell ⟨w.heap.size, 0, none⟩ (.bool nega)).setCell ⟨w.heap.size, 1, none⟩ (.slice aa (dig 10000 na).length ca)).setCell ⟨w.heap.size + 1, 0, none⟩ (.bool negb)).setCell ⟨w.heap.size + 1, 1, none⟩ (.slice ab (dig 10000 nb).length cb)) = W5 := ⟨_, rfl⟩
  have oth : ∀ (W : World) (x y : Addr) (u : Value), y ≠ x → (W.setCell x u).cell? y = W.cell? y := fun W x y u h => World.cell?_setCell_other _ _ _ _ (by first | exact h | exact fun e => h e.symm)
  have p0 : W5.cell? ⟨w.heap.size, 0, none⟩ = some (.bool nega) := by
    rw [← hW5, oth _ _ _ _ (by simp), oth _ _ _ _ (by simp), oth _ _ _ _ (by simp)]
    exact World.cell?_setCell_same _ _ _ q1
  have p1 : W5.cell? ⟨w.heap.size, 1, none⟩ = some (.slice aa (dig 10000 na).length ca) := by
    rw [← hW5, oth _ _ _ _ (by simp), oth _ _ _ _ (by simp)]
    exact World.cell?_setCell_same _ _ _ (by rw [oth _ _ _ _ (by simp)]; exact q2)
  have p2 : W5.cell? ⟨w.heap.size + 1, 0, none⟩ = some (.bool negb) := by
    rw [← hW5, oth _ _ _ _ (by simp)]
    exact World.cell?_setCell_same _ _ _ (by rw [oth _ _ _ _ (by simp), oth _ _ _ _ (by simp)]; exact q3)
  have p3 : W5.cell? ⟨w.heap.size + 1, 1, none⟩ = some (.slice ab (dig 10000 nb).length cb) := by
    rw [← hW5]
    exact World.cell?_setCell_same _ _ _ (by rw [oth _ _ _ _ (by simp), oth _ _ _ _ (by simp), oth _ _ _ _ (by simp)]; exact q4)
  have s2 := H2.out.sz
  have s3 := H3.out.sz
  have hsz5 : W5.heap.size = w4.heap.size := by rw [← hW5]; simp
  have h34 := hb4.size
  have hag : Agree w2.heap.size w4.heap.size w4 W5 := by
    rw [← hW5]
    exact ((((Agree.refl _ _ _).setCell (.inl (by simp; omega)) _).setCell (.inl (by simp; omega)) _).setCell (.inl (by simp; omega)) _).setCell (.inl (by simp; omega)) _
  have h23 := hb3.size
  have nA : Nm W5 (.slice aa (dig 10000 na).length ca) na w.heap.size W5.heap.size := by
    have h1 := (HA.out.below hb4 (Nat.le_refl _)).mono (Nat.le_refl _) h34
    exact (h1.keep hag).mono (by omega) (by omega)
  have nB : Nm W5 (.slice ab (dig 10000 nb).length cb) nb w.heap.size W5.heap.size := by
    have h1 := HB.out.mono h23 (Nat.le_refl _)
    exact (h1.keep hag).mono (by omega) (by omega)
  have hbl : Below w.heap.size w W5 := by
    rw [← hW5]
    exact (((H4.out.bw.setCell (by simp) _).setCell (by simp) _).setCell (by simp) _).setCell (by simp) _
  rw [hW5]
  clear hW5 q1 q2 q3 q4 q5 q6 q7 q8
  (try simp only [Exit.inBlock, Exit.then])
  refine bodyPost_ret (v := .tuple #[.agg #[.bool nega, .slice aa (dig 10000 na).length ca], .agg #[.bool negb, .slice ab (dig 10000 nb).length cb], .bool true]) ?_ rfl ⟨⟨_, _, rfl, ⟨_, _, _, rfl, nA, HZA.out⟩, ⟨_, _, _, rfl, nB, HZB.out⟩⟩, hbl⟩
  simp [results, Tryz.results38, go_sem, p0, p1, p2, p3, Result.andThen]

set_option maxHeartbeats 8000000 in
set_option maxRecDepth 100000 in
theorem both_no (a b : ByteArray) (w : World) (ha : a.size ≤ 9223372036854775807) (hb : b.size ≤ 9223372036854775807) (hn : (validL a.data.toList && validL b.data.toList) = false) :
    Calls Tryz.prog 38 #[.string a, .string b] w fun e w' => e = .returned (.tuple #[.agg #[.bool false, .slice none 0 0], .agg #[.bool false, .slice none 0 0], .bool false]) ∧ Below w.heap.size w w' := by
  have hA := fun W => isValid_any a W ha
  have hB := fun W => isValid_any b W hb
  have oth : ∀ (W : World) (x y : Addr) (u : Value), y ≠ x → (W.setCell x u).cell? y = W.cell? y := fun W x y u h => World.cell?_setCell_other _ _ _ _ (by first | exact h | exact fun e => h e.symm)
  have HS := Lib.hid (TwoAt.start w)
  generalize validL a.data.toList = va at hA hn
  generalize validL b.data.toList = vb at hB hn
  cases va with
  | false =>
    clear hn hB
    go_enter Tryz.func38, Tryz.ntmps38
    go_wp2_with (go_at_call 47; with_reducible refine (hA _).mono ?_; rintro e w1 ⟨rfl, hb1⟩; have HH := Lib.hid (HS.out.below hb1); have q1 := HH.out.a0; have q2 := HH.out.a1; have q3 := HH.out.b0; have q4 := HH.out.b1; have q5 := HH.out.fa0; have q6 := HH.out.fa1; have q7 := HH.out.fb0; have q8 := HH.out.fb1)
    all_goals
      obtain ⟨W5, hW5⟩ : ∃ W5, ((((w1.setCell ⟨w.heap.size, 0, none⟩ (.bool false)).setCell ⟨w.heap.size, 1, none⟩ (.slice none 0 0)).setCell ⟨w.heap.size + 1, 0, none⟩ (.bool false)).setCell ⟨w.heap.size + 1, 1, none⟩ (.slice none 0 0)) = W5 := ⟨_, rfl⟩
      have p0 : W5.cell? ⟨w.heap.size, 0, none⟩ = some (.bool false) := by
        rw [← hW5, oth _ _ _ _ (by simp), oth _ _ _ _ (by simp), oth _ _ _ _ (by simp)]
        exact World.cell?_setCell_same _ _ _ q1
      have p1 : W5.cell? ⟨w.heap.size, 1, none⟩ = some (.slice none 0 0) := by
        rw [← hW5, oth _ _ _ _ (by simp), oth _ _ _ _ (by simp)]
        exact World.cell?_setCell_same _ _ _ (by rw [oth _ _ _ _ (by simp)]; exact q2)
      have p2 : W5.cell? ⟨w.heap.size + 1, 0, none⟩ = some (.bool false) := by
        rw [← hW5, oth _ _ _ _ (by simp)]
        exact World.cell?_setCell_same _ _ _ (by rw [oth _ _ _ _ (by simp), oth _ _ _ _ (by simp)]; exact q3)
      have p3 : W5.cell? ⟨w.heap.size + 1, 1, none⟩ = some (.slice none 0 0) := by
        rw [← hW5]
        exact World.cell?_setCell_same _ _ _ (by rw [oth _ _ _ _ (by simp), oth _ _ _ _ (by simp), oth _ _ _ _ (by simp)]; exact q4)
      have hbl : Below w.heap.size w W5 := by
        rw [← hW5]
        exact (((HH.out.bw.setCell (by simp) _).setCell (by simp) _).setCell (by simp) _).setCell (by simp) _
      rw [hW5]
      clear hW5 q1 q2 q3 q4 q5 q6 q7 q8
      (try simp only [Exit.inBlock, Exit.then])
      refine bodyPost_ret (v := .tuple #[.agg #[.bool false, .slice none 0 0], .agg #[.bool false, .slice none 0 0], .bool false]) ?_ rfl ⟨rfl, hbl⟩
      simp [results, Tryz.results38, go_sem, p0, p1, p2, p3, Result.andThen]
  | true =>
    obtain rfl : vb = false := hn
    go_enter Tryz.func38, Tryz.ntmps38
    go_wp2_with (first
      | (go_at_call 47; with_reducible refine (hA _).mono ?_; rintro e w1 ⟨rfl, hb1⟩; have H1 := Lib.hid (HS.out.below hb1); clear hA)
      | (go_at_call 47; with_reducible refine (hB _).mono ?_; rintro e w2 ⟨rfl, hb2⟩; have HH := Lib.hid (H1.out.below hb2); have q1 := HH.out.a0; have q2 := HH.out.a1; have q3 := HH.out.b0; have q4 := HH.out.b1; have q5 := HH.out.fa0; have q6 := HH.out.fa1; have q7 := HH.out.fb0; have q8 := HH.out.fb1))
    all_goals
      obtain ⟨W5, hW5⟩ : ∃ W5, ((((w2.setCell ⟨w.heap.size, 0, none⟩ (.bool false)).setCell ⟨w.heap.size, 1, none⟩ (.slice none 0 0)).setCell ⟨w.heap.size + 1, 0, none⟩ (.bool false)).setCell ⟨w.heap.size + 1, 1, none⟩ (.slice none 0 0)) = W5 := ⟨_, rfl⟩
      have p0 : W5.cell? ⟨w.heap.size, 0, none⟩ = some (.bool false) := by
        rw [← hW5, oth _ _ _ _ (by simp), oth _ _ _ _ (by simp), oth _ _ _ _ (by simp)]
        exact World.cell?_setCell_same _ _ _ q1
      have p1 : W5.cell? ⟨w.heap.size, 1, none⟩ = some (.slice none 0 0) := by
        rw [← hW5, oth _ _ _ _ (by simp), oth _ _ _ _ (by simp)]
        exact World.cell?_setCell_same _ _ _ (by rw [oth _ _ _ _ (by simp)]; exact q2)
      have p2 : W5.cell? ⟨w.heap.size + 1, 0, none⟩ = some (.bool false) := by
        rw [← hW5, oth _ _ _ _ (by simp)]
        exact World.cell?_setCell_same _ _ _ (by rw [oth _ _ _ _ (by simp), oth _ _ _ _ (by simp)]; exact q3)
      have p3 : W5.cell? ⟨w.heap.size + 1, 1, none⟩ = some (.slice none 0 0) := by
        rw [← hW5]
        exact World.cell?_setCell_same _ _ _ (by rw [oth _ _ _ _ (by simp), oth _ _ _ _ (by simp), oth _ _ _ _ (by simp)]; exact q4)
      have hbl : Below w.heap.size w W5 := by
        rw [← hW5]
        exact (((HH.out.bw.setCell (by simp) _).setCell (by simp) _).setCell (by simp) _).setCell (by simp) _
      rw [hW5]
      clear hW5 q1 q2 q3 q4 q5 q6 q7 q8
      (try simp only [Exit.inBlock, Exit.then])
      refine bodyPost_ret (v := .tuple #[.agg #[.bool false, .slice none 0 0], .agg #[.bool false, .slice none 0 0], .bool false]) ?_ rfl ⟨rfl, hbl⟩
      simp [results, Tryz.results38, go_sem, p0, p1, p2, p3, Result.andThen]

end Go.Proofs.YtiefodlhnpondaaGreatDoor
