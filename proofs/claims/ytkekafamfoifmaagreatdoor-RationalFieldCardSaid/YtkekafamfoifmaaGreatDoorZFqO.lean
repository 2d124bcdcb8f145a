/-
  The reference of package rational: the four operations.
  The reference of package rational: Compare.
-/
import Derived.Test.YtkekafamfoifmaaGreatDoorZFqV
import Derived.Test.YtkekafamfoifmaaGreatDoorZRCmp
namespace Go.Proofs.YtkekafamfoifmaaGreatDoor
open Go.RowKit Go.Shelf
attribute [local go_sem] Oper.semAt_some

theorem num_rat {n d : ByteArray} {r : Rat} (h : ratO n d = some r) : numOf n = some r.num ∧ numOf d = some (r.den : Int) := by
  obtain ⟨e1, e2, h1, h2⟩ := ratO_some h
  rw [e1, e2]
  exact ⟨num_str h1, num_str h2⟩
theorem opN_two (z : Int) : (small z = true ∧ opN (some z) = 0) ∨ (small z = false ∧ opN (some z) = 30) := by
  cases h : small z with
  | true => exact .inl ⟨rfl, opN_small h⟩
  | false => exact .inr ⟨rfl, opN_great (by rw [h]; simp)⟩
theorem vR_two {a1 a2 b1 b2 : ByteArray} (hn : ratO a1 a2 = none ∨ ratO b1 b2 = none) : vR a1 a2 = false ∨ vR a1 a2 = true ∧ vR b1 b2 = false := by
  unfold vR
  rcases hn with h | h
  · rw [h]; exact .inl rfl
  · rw [h]
    cases ratO a1 a2
    · exact .inl rfl
    · exact .inr ⟨rfl, rfl⟩
theorem vR_true {a1 a2 : ByteArray} {r : Rat} (h : ratO a1 a2 = some r) : vR a1 a2 = true := by unfold vR; rw [h]; rfl

set_option maxRecDepth 100000 in
set_option maxHeartbeats 4000000 in
theorem cross_no {a1 a2 b1 b2 : ByteArray} (z1 : Sz a1) (z2 : Sz a2) (z3 : Sz b1) (z4 : Sz b2) (hn : ratO a1 a2 = none ∨ ratO b1 b2 = none) (w : World) :
    Calls Tryz.prog 63 #[.agg #[.string a1, .string a2], .agg #[.string b1, .string b2]] w fun e W' => e = .returned (.tuple #[.string ⟨#[]⟩, .string ⟨#[]⟩, .string ⟨#[]⟩, .bool false]) ∧ Below w.heap.size w W' := by
  have v1 := fun W => Valid_f z1 z2 W
  have v2 := fun W => Valid_f z3 z4 W
  have H0 := Lib.hid (CpAt.start w a1 a2 b1 b2 23)
  have hv := vR_two hn
  clear z1 z2 z3 z4 hn
  generalize vR a1 a2 = x1 at v1 hv
  generalize vR b1 b2 = x2 at v2 hv
  have V1 := Lib.hid v1
  have V2 := Lib.hid v2
  clear v1 v2
  rcases hv with rfl | ⟨rfl, rfl⟩
  all_goals
    go_enter Tryz.func63, Tryz.ntmps63
    go_wp2_with (first
      | (go_at_call 40; with_reducible refine (V1.out _).mono ?_; rintro e w1 ⟨rfl, hb⟩; have h1 := H0.out.below hb; obtain ⟨_, x0, x1, y0, y1, _⟩ := id h1; have H1 := Lib.hid h1; clear hb h1)
      | (go_at_call 40; with_reducible refine (V2.out _).mono ?_; rintro e w2 ⟨rfl, hb⟩; have H2 := Lib.hid (H1.out.below hb); clear hb)
      | fail)
    refine bodyPost_ret (v := .tuple #[.string ⟨#[]⟩, .string ⟨#[]⟩, .string ⟨#[]⟩, .bool false]) ?_ rfl ⟨rfl, H2.out.bw⟩
    simp [results, Tryz.results63, go_sem]

set_option maxRecDepth 100000 in
set_option maxHeartbeats 8000000 in
theorem cross_ok {a1 a2 b1 b2 : ByteArray} {a b : Rat} (ha : ratO a1 a2 = some a) (hb : ratO b1 b2 = some b) (w : World) :
    Calls Tryz.prog 63 #[.agg #[.string a1, .string a2], .agg #[.string b1, .string b2]] w fun e W' => e = .returned (.tuple #[.string (opS (some (a.num * b.den))), .string (opS (some (b.num * a.den))), .string (opS (some ((a.den : Int) * b.den))), .bool (small (a.num * b.den) && small (b.num * a.den) && small ((a.den : Int) * b.den))]) ∧ Below w.heap.size w W' := by
  obtain ⟨z1, z2⟩ := ratO_sz ha
  obtain ⟨z3, z4⟩ := ratO_sz hb
  obtain ⟨n1, n2⟩ := num_rat ha
  obtain ⟨n3, n4⟩ := num_rat hb
  have V1 := Lib.hid (fun W => by have := Valid_f z1 z2 W; rw [vR_true ha] at this; exact this)
  have V2 := Lib.hid (fun W => by have := Valid_f z3 z4 W; rw [vR_true hb] at this; exact this)
  have m1 := fun W => by have := rMul_all (w := W) z1 z4 W (Below.refl _ _); rw [show mulO a1 b2 = some (a.num * b.den) by unfold mulO; rw [n1, n4]] at this; exact this
  have m2 := fun W => by have := rMul_all (w := W) z3 z2 W (Below.refl _ _); rw [show mulO b1 a2 = some (b.num * a.den) by unfold mulO; rw [n3, n2]] at this; exact this
  have m3 := fun W => by have := rMul_all (w := W) z2 z4 W (Below.refl _ _); rw [show mulO a2 b2 = some ((a.den : Int) * b.den) by unfold mulO; rw [n2, n4]] at this; exact this
  have H0 := Lib.hid (CpAt.start w a1 a2 b1 b2 23)
  have t1 := opN_two (a.num * b.den)
  have t2 := opN_two (b.num * a.den)
  have t3 := opN_two ((a.den : Int) * b.den)
  generalize a.num * (b.den : Int) = p1 at m1 t1 ⊢
  generalize b.num * (a.den : Int) = p2 at m2 t2 ⊢
  generalize (a.den : Int) * (b.den : Int) = p3 at m3 t3 ⊢
  clear ha hb z1 z2 z3 z4 n1 n2 n3 n4
  generalize opS (some p1) = s1 at m1 ⊢
  generalize opS (some p2) = s2 at m2 ⊢
  generalize opS (some p3) = s3 at m3 ⊢
  generalize opN (some p1) = k1 at m1 t1
  generalize opN (some p2) = k2 at m2 t2
  generalize opN (some p3) = k3 at m3 t3
  have M1 := Lib.hid m1
  have M2 := Lib.hid m2
  have M3 := Lib.hid m3
  clear m1 m2 m3
  rcases t1 with ⟨e1, rfl⟩ | ⟨e1, rfl⟩ <;> rcases t2 with ⟨e2, rfl⟩ | ⟨e2, rfl⟩ <;> rcases t3 with ⟨e3, rfl⟩ | ⟨e3, rfl⟩
  all_goals
    rw [e1, e2, e3]
    clear e1 e2 e3
    go_enter Tryz.func63, Tryz.ntmps63
    go_wp2_with (first
      | (go_at_call 40; with_reducible refine (V1.out _).mono ?_; rintro e w1 ⟨rfl, hb⟩; have h1 := H0.out.below hb; obtain ⟨_, x0, x1, y0, y1, _⟩ := id h1; have H1 := Lib.hid h1; clear hb h1)
      | (go_at_call 40; with_reducible refine (V2.out _).mono ?_; rintro e w2 ⟨rfl, hb⟩; have h2 := H1.out.below hb; obtain ⟨_, x0', x1', y0', y1', _⟩ := id h2; have H2 := Lib.hid h2; clear hb h2)
      | (go_at_call 21; with_reducible refine (M1.out _).mono ?_; rintro e w3 ⟨rfl, hb⟩; have h3 := H2.out.below hb; obtain ⟨_, x0'', x1'', y0'', y1'', _⟩ := id h3; have H3 := Lib.hid h3; clear hb h3)
      | (go_at_call 21; with_reducible refine (M2.out _).mono ?_; rintro e w4 ⟨rfl, hb⟩; have h4 := H3.out.below hb; obtain ⟨_, xa, xb, ya, yb, _⟩ := id h4; have H4 := Lib.hid h4; clear hb h4)
      | (go_at_call 21; with_reducible refine (M3.out _).mono ?_; rintro e w5 ⟨rfl, hb⟩; have H5 := Lib.hid (H4.out.below hb); clear hb)
      | fail)
    refine bodyPost_ret (v := .tuple #[.string s1, .string s2, .string s3, .bool _]) ?_ rfl ⟨rfl, H5.out.bw⟩
    simp [results, Tryz.results63, go_sem]

set_option maxRecDepth 100000 in
set_option maxHeartbeats 4000000 in
/-- The walk, whatever cross and the operation answer.-/
theorem Add_fw {a1 a2 b1 b2 x y d s n' d' : ByteArray} {ok : Bool} {k e' : Int} (w : World)
    (C : ∀ W, Calls Tryz.prog 63 #[.agg #[.string a1, .string a2], .agg #[.string b1, .string b2]] W fun e W' => e = .returned (.tuple #[.string x, .string y, .string d, .bool ok]) ∧ Below W.heap.size W W')
    (S : ok = true → ∀ W, Calls Tryz.prog 64 #[.string x, .string y] W fun e W' => e = .returned (.tuple #[.string s, .int .i64 k]) ∧ Below W.heap.size W W')
    (M : ok = true → k = 0 → ∀ W, Calls Tryz.prog 39 #[.string s, .string d] W fun e W' => e = .returned (.tuple #[.agg #[.string n', .string d'], .int .i64 e']) ∧ Below W.heap.size W W')
    (R : ok = false ∨ ok = true ∧ k = 30 → n' = ⟨#[]⟩ ∧ d' = ⟨#[]⟩ ∧ e' = 40) (hk : k = 0 ∨ k = 30) :
    Calls Tryz.prog 30 #[.agg #[.string a1, .string a2], .agg #[.string b1, .string b2]] w fun e W' => e = .returned (.tuple #[.agg #[.string n', .string d'], .int .i64 e']) ∧ Below w.heap.size w W' := by
  have H0 := Lib.hid (OpAt.start w a1 a2 b1 b2 23)
  have KC := Lib.hid C
  cases ok with
  | false =>
    obtain ⟨rfl, rfl, rfl⟩ := R (.inl rfl)
    clear C S M R hk
    go_enter Tryz.func30, Tryz.ntmps30
    go_wp2_with (first
      | (go_at_call 63; with_reducible refine (KC.out _).mono ?_; rintro e w1 ⟨rfl, hb⟩; have h1 := H0.out.below hb; obtain ⟨_, _, _, _, _, q1, q2, q3, q4, _⟩ := id h1; have H1 := Lib.hid h1; clear hb h1)
      | fail)
    obtain ⟨W5, hW5, p0, p1, hbl⟩ := H1.out.rs.fin ⟨#[]⟩ ⟨#[]⟩
    rw [hW5]
    clear hW5 q1 q2 q3 q4
    refine bodyPost_ret (v := .tuple #[.agg #[.string ⟨#[]⟩, .string ⟨#[]⟩], .int .i64 40]) ?_ rfl ⟨rfl, hbl⟩
    simp [results, Tryz.results30, go_sem, p0, p1, Result.andThen]
  | true =>
    have KS := Lib.hid (S rfl)
    rcases hk with rfl | rfl
    · have KM := Lib.hid (M rfl rfl)
      clear C S M R
      go_enter Tryz.func30, Tryz.ntmps30
      go_wp2_with (first
        | (go_at_call 63; with_reducible refine (KC.out _).mono ?_; rintro e w1 ⟨rfl, hb⟩; have H1 := Lib.hid (H0.out.below hb); clear hb)
        | (go_at_call 64; with_reducible refine (KS.out _).mono ?_; rintro e w2 ⟨rfl, hb⟩; have H2 := Lib.hid (H1.out.below hb); clear hb)
        | (go_at_call 39; with_reducible refine (KM.out _).mono ?_; rintro e w3 ⟨rfl, hb⟩; have h3 := H2.out.below hb; obtain ⟨_, _, _, _, _, q1, q2, q3, q4, _⟩ := id h3; have H3 := Lib.hid h3; clear hb h3)
        | fail)
      obtain ⟨W5, hW5, p0, p1, hbl⟩ := H3.out.rs.fin n' d'
      rw [hW5]
      clear hW5 q1 q2 q3 q4
      refine bodyPost_ret (v := .tuple #[.agg #[.string n', .string d'], .int .i64 e']) ?_ rfl ⟨rfl, hbl⟩
      simp [results, Tryz.results30, go_sem, p0, p1, Result.andThen]
    · obtain ⟨rfl, rfl, rfl⟩ := R (.inr ⟨rfl, rfl⟩)
      clear C S M R
      go_enter Tryz.func30, Tryz.ntmps30
      go_wp2_with (first
        | (go_at_call 63; with_reducible refine (KC.out _).mono ?_; rintro e w1 ⟨rfl, hb⟩; have H1 := Lib.hid (H0.out.below hb); clear hb)
        | (go_at_call 64; with_reducible refine (KS.out _).mono ?_; rintro e w2 ⟨rfl, hb⟩; have h2 := H1.out.below hb; obtain ⟨_, _, _, _, _, q1, q2, q3, q4, _⟩ := id h2; have H2 := Lib.hid h2; clear hb h2)
        | fail)
      obtain ⟨W5, hW5, p0, p1, hbl⟩ := H2.out.rs.fin ⟨#[]⟩ ⟨#[]⟩
      rw [hW5]
      clear hW5 q1 q2 q3 q4
      refine bodyPost_ret (v := .tuple #[.agg #[.string ⟨#[]⟩, .string ⟨#[]⟩], .int .i64 40]) ?_ rfl ⟨rfl, hbl⟩
      simp [results, Tryz.results30, go_sem, p0, p1, Result.andThen]

theorem Add_f {a1 a2 b1 b2 : ByteArray} (z1 : Sz a1) (z2 : Sz a2) (z3 : Sz b1) (z4 : Sz b2) (w : World) :
    Calls Tryz.prog 30 #[.agg #[.string a1, .string a2], .agg #[.string b1, .string b2]] w fun e W' => e = .returned (.tuple #[.agg #[.string (qN (op2 addR a1 a2 b1 b2)), .string (qD (op2 addR a1 a2 b1 b2))], .int .i64 (qE (op2 addR a1 a2 b1 b2))]) ∧ Below w.heap.size w W' := by
  by_cases hn : ratO a1 a2 = none ∨ ratO b1 b2 = none
  · rw [op2_none hn]
    exact Add_fw (s := ⟨#[]⟩) (k := 0) w (cross_no z1 z2 z3 z4 hn) (fun h => nomatch h) (fun h => nomatch h) (fun _ => ⟨rfl, rfl, rfl⟩) (.inl rfl)
  · obtain ⟨a, ha⟩ : ∃ a, ratO a1 a2 = some a := Option.ne_none_iff_exists'.1 (fun h => hn (.inl h))
    obtain ⟨b, hb⟩ : ∃ b, ratO b1 b2 = some b := Option.ne_none_iff_exists'.1 (fun h => hn (.inr h))
    rw [op2_some ha hb, addR_make]
    refine Add_fw (s := opS (some (a.num * b.den + b.num * a.den))) (k := opN (some (a.num * b.den + b.num * a.den))) w (cross_ok ha hb) (fun h W => ?_) (fun h h0 W => ?_) (fun h => ?_) (by rcases opN_two (a.num * b.den + b.num * a.den) with ⟨_, e⟩ | ⟨_, e⟩ <;> rw [e] <;> simp)
    · simp only [Bool.and_eq_true] at h
      have := rAdd_all (w := W) (opS_sz (some (a.num * b.den))) (opS_sz (some (b.num * a.den))) W (Below.refl _ _)
      rw [show addO (opS (some (a.num * b.den))) (opS (some (b.num * a.den))) = some (a.num * b.den + b.num * a.den) by unfold addO; rw [opS_small h.1.1, opS_small h.1.2, num_str h.1.1, num_str h.1.2]] at this
      exact this
    · simp only [Bool.and_eq_true] at h
      rcases opN_two (a.num * b.den + b.num * a.den) with ⟨hs, _⟩ | ⟨_, e⟩
      · rw [if_pos ⟨h.1.1, h.1.2, hs, h.2⟩]
        have := Make_f (opS_sz (some (a.num * b.den + b.num * a.den))) (opS_sz (some ((a.den : Int) * b.den))) W
        rw [opS_small hs, opS_small h.2, makeS_some (num_str hs) (num_str h.2)] at this
        rw [opS_small hs, opS_small h.2]
        exact this
      · rw [e] at h0
        exact absurd h0 (by decide)
    · rw [if_neg]
      · exact ⟨rfl, rfl, rfl⟩
      · rintro ⟨h1, h2, h3, h4⟩
        rw [h1, h2, h4, opN_small h3] at h
        rcases h with h | ⟨_, h⟩
        · exact absurd h (by decide)
        · exact absurd h (by decide)

set_option maxRecDepth 100000 in
set_option maxHeartbeats 4000000 in
/-- The walk, whatever cross and the operation answer.-/
theorem Sub_fw {a1 a2 b1 b2 x y d s n' d' : ByteArray} {ok : Bool} {k e' : Int} (w : World)
    (C : ∀ W, Calls Tryz.prog 63 #[.agg #[.string a1, .string a2], .agg #[.string b1, .string b2]] W fun e W' => e = .returned (.tuple #[.string x, .string y, .string d, .bool ok]) ∧ Below W.heap.size W W')
    (S : ok = true → ∀ W, Calls Tryz.prog 65 #[.string x, .string y] W fun e W' => e = .returned (.tuple #[.string s, .int .i64 k]) ∧ Below W.heap.size W W')
    (M : ok = true → k = 0 → ∀ W, Calls Tryz.prog 39 #[.string s, .string d] W fun e W' => e = .returned (.tuple #[.agg #[.string n', .string d'], .int .i64 e']) ∧ Below W.heap.size W W')
    (R : ok = false ∨ ok = true ∧ k = 30 → n' = ⟨#[]⟩ ∧ d' = ⟨#[]⟩ ∧ e' = 40) (hk : k = 0 ∨ k = 30) :
    Calls Tryz.prog 31 #[.agg #[.string a1, .string a2], .agg #[.string b1, .string b2]] w fun e W' => e = .returned (.tuple #[.agg #[.string n', .string d'], .int .i64 e']) ∧ Below w.heap.size w W' := by
  have H0 := Lib.hid (OpAt.start w a1 a2 b1 b2 23)
  have KC := Lib.hid C
  cases ok with
  | false =>
    obtain ⟨rfl, rfl, rfl⟩ := R (.inl rfl)
    clear C S M R hk
    go_enter Tryz.func31, Tryz.ntmps31
    go_wp2_with (first
      | (go_at_call 63; with_reducible refine (KC.out _).mono ?_; rintro e w1 ⟨rfl, hb⟩; have h1 := H0.out.below hb; obtain ⟨_, _, _, _, _, q1, q2, q3, q4, _⟩ := id h1; have H1 := Lib.hid h1; clear hb h1)
      | fail)
    obtain ⟨W5, hW5, p0, p1, hbl⟩ := H1.out.rs.fin ⟨#[]⟩ ⟨#[]⟩
    rw [hW5]
    clear hW5 q1 q2 q3 q4
    refine bodyPost_ret (v := .tuple #[.agg #[.string ⟨#[]⟩, .string ⟨#[]⟩], .int .i64 40]) ?_ rfl ⟨rfl, hbl⟩
    simp [results, Tryz.results31, go_sem, p0, p1, Result.andThen]
  | true =>
    have KS := Lib.hid (S rfl)
    rcases hk with rfl | rfl
    · have KM := Lib.hid (M rfl rfl)
      clear C S M R
      go_enter Tryz.func31, Tryz.ntmps31
      go_wp2_with (first
        | (go_at_call 63; with_reducible refine (KC.out _).mono ?_; rintro e w1 ⟨rfl, hb⟩; have H1 := Lib.hid (H0.out.below hb); clear hb)
        | (go_at_call 65; with_reducible refine (KS.out _).mono ?_; rintro e w2 ⟨rfl, hb⟩; have H2 := Lib.hid (H1.out.below hb); clear hb)
        | (go_at_call 39; with_reducible refine (KM.out _).mono ?_; rintro e w3 ⟨rfl, hb⟩; have h3 := H2.out.below hb; obtain ⟨_, _, _, _, _, q1, q2, q3, q4, _⟩ := id h3; have H3 := Lib.hid h3; clear hb h3)
        | fail)
      obtain ⟨W5, hW5, p0, p1, hbl⟩ := H3.out.rs.fin n' d'
      rw [hW5]
      clear hW5 q1 q2 q3 q4
      refine bodyPost_ret (v := .tuple #[.agg #[.string n', .string d'], .int .i64 e']) ?_ rfl ⟨rfl, hbl⟩
      simp [results, Tryz.results31, go_sem, p0, p1, Result.andThen]
    · obtain ⟨rfl, rfl, rfl⟩ := R (.inr ⟨rfl, rfl⟩)
      clear C S M R
      go_enter Tryz.func31, Tryz.ntmps31
      go_wp2_with (first
        | (go_at_call 63; with_reducible refine (KC.out _).mono ?_; rintro e w1 ⟨rfl, hb⟩; have H1 := Lib.hid (H0.out.below hb); clear hb)
        | (go_at_call 65; with_reducible refine (KS.out _).mono ?_; rintro e w2 ⟨rfl, hb⟩; have h2 := H1.out.below hb; obtain ⟨_, _, _, _, _, q1, q2, q3, q4, _⟩ := id h2; have H2 := Lib.hid h2; clear hb h2)
        | fail)
      obtain ⟨W5, hW5, p0, p1, hbl⟩ := H2.out.rs.fin ⟨#[]⟩ ⟨#[]⟩
      rw [hW5]
      clear hW5 q1 q2 q3 q4
      refine bodyPost_ret (v := .tuple #[.agg #[.string ⟨#[]⟩, .string ⟨#[]⟩], .int .i64 40]) ?_ rfl ⟨rfl, hbl⟩
      simp [results, Tryz.results31, go_sem, p0, p1, Result.andThen]

theorem Sub_f {a1 a2 b1 b2 : ByteArray} (z1 : Sz a1) (z2 : Sz a2) (z3 : Sz b1) (z4 : Sz b2) (w : World) :
    Calls Tryz.prog 31 #[.agg #[.string a1, .string a2], .agg #[.string b1, .string b2]] w fun e W' => e = .returned (.tuple #[.agg #[.string (qN (op2 subR a1 a2 b1 b2)), .string (qD (op2 subR a1 a2 b1 b2))], .int .i64 (qE (op2 subR a1 a2 b1 b2))]) ∧ Below w.heap.size w W' := by
  by_cases hn : ratO a1 a2 = none ∨ ratO b1 b2 = none
  · rw [op2_none hn]
    exact Sub_fw (s := ⟨#[]⟩) (k := 0) w (cross_no z1 z2 z3 z4 hn) (fun h => nomatch h) (fun h => nomatch h) (fun _ => ⟨rfl, rfl, rfl⟩) (.inl rfl)
  · obtain ⟨a, ha⟩ : ∃ a, ratO a1 a2 = some a := Option.ne_none_iff_exists'.1 (fun h => hn (.inl h))
    obtain ⟨b, hb⟩ : ∃ b, ratO b1 b2 = some b := Option.ne_none_iff_exists'.1 (fun h => hn (.inr h))
    rw [op2_some ha hb, subR_make]
    refine Sub_fw (s := opS (some (a.num * b.den - b.num * a.den))) (k := opN (some (a.num * b.den - b.num * a.den))) w (cross_ok ha hb) (fun h W => ?_) (fun h h0 W => ?_) (fun h => ?_) (by rcases opN_two (a.num * b.den - b.num * a.den) with ⟨_, e⟩ | ⟨_, e⟩ <;> rw [e] <;> simp)
    · simp only [Bool.and_eq_true] at h
      have := rSub_all (w := W) (opS_sz (some (a.num * b.den))) (opS_sz (some (b.num * a.den))) W (Below.refl _ _)
      rw [show subO (opS (some (a.num * b.den))) (opS (some (b.num * a.den))) = some (a.num * b.den - b.num * a.den) by unfold subO; rw [opS_small h.1.1, opS_small h.1.2, num_str h.1.1, num_str h.1.2]] at this
      exact this
    · simp only [Bool.and_eq_true] at h
      rcases opN_two (a.num * b.den - b.num * a.den) with ⟨hs, _⟩ | ⟨_, e⟩
      · rw [if_pos ⟨h.1.1, h.1.2, hs, h.2⟩]
        have := Make_f (opS_sz (some (a.num * b.den - b.num * a.den))) (opS_sz (some ((a.den : Int) * b.den))) W
        rw [opS_small hs, opS_small h.2, makeS_some (num_str hs) (num_str h.2)] at this
        rw [opS_small hs, opS_small h.2]
        exact this
      · rw [e] at h0
        exact absurd h0 (by decide)
    · rw [if_neg]
      · exact ⟨rfl, rfl, rfl⟩
      · rintro ⟨h1, h2, h3, h4⟩
        rw [h1, h2, h4, opN_small h3] at h
        rcases h with h | ⟨_, h⟩
        · exact absurd h (by decide)
        · exact absurd h (by decide)

set_option maxRecDepth 100000 in
set_option maxHeartbeats 4000000 in
theorem Mul_f_no {a1 a2 b1 b2 : ByteArray} (z1 : Sz a1) (z2 : Sz a2) (z3 : Sz b1) (z4 : Sz b2) (hn : ratO a1 a2 = none ∨ ratO b1 b2 = none) (w : World) :
    Calls Tryz.prog 32 #[.agg #[.string a1, .string a2], .agg #[.string b1, .string b2]] w fun e W' => e = .returned (.tuple #[.agg #[.string ⟨#[]⟩, .string ⟨#[]⟩], .int .i64 40]) ∧ Below w.heap.size w W' := by
  have v1 := fun W => Valid_f z1 z2 W
  have v2 := fun W => Valid_f z3 z4 W
  have H0 := Lib.hid (OpAt.start w a1 a2 b1 b2 23)
  have hv := vR_two hn
  clear z1 z2 z3 z4 hn
  generalize vR a1 a2 = x1 at v1 hv
  generalize vR b1 b2 = x2 at v2 hv
  have V1 := Lib.hid v1
  have V2 := Lib.hid v2
  clear v1 v2
  rcases hv with rfl | ⟨rfl, rfl⟩
  all_goals
    go_enter Tryz.func32, Tryz.ntmps32
    go_wp2_with (first
      | (go_at_call 40; with_reducible refine (V1.out _).mono ?_; rintro e w1 ⟨rfl, hb⟩; have h1 := H0.out.below hb; obtain ⟨_, x0, x1, y0, y1, _⟩ := id h1; have H1 := Lib.hid h1; clear hb h1)
      | (go_at_call 40; with_reducible refine (V2.out _).mono ?_; rintro e w2 ⟨rfl, hb⟩; have h2 := H1.out.below hb; obtain ⟨_, _, _, _, _, q1, q2, q3, q4, _⟩ := id h2; have H2 := Lib.hid h2; clear hb h2)
      | fail)
    obtain ⟨W5, hW5, p0, p1, hbl⟩ := H2.out.rs.fin ⟨#[]⟩ ⟨#[]⟩
    rw [hW5]
    clear hW5 q1 q2 q3 q4
    refine bodyPost_ret (v := .tuple #[.agg #[.string ⟨#[]⟩, .string ⟨#[]⟩], .int .i64 40]) ?_ rfl ⟨rfl, hbl⟩
    simp [results, Tryz.results32, go_sem, p0, p1, Result.andThen]

set_option maxRecDepth 100000 in
set_option maxHeartbeats 8000000 in
theorem Mul_f_ok {a1 a2 b1 b2 : ByteArray} {a b : Rat} (ha : ratO a1 a2 = some a) (hb : ratO b1 b2 = some b) (w : World) :
    Calls Tryz.prog 32 #[.agg #[.string a1, .string a2], .agg #[.string b1, .string b2]] w fun e W' => e = .returned (.tuple #[.agg #[.string (qN (mulR a b)), .string (qD (mulR a b))], .int .i64 (qE (mulR a b))]) ∧ Below w.heap.size w W' := by
  obtain ⟨z1, z2⟩ := ratO_sz ha
  obtain ⟨z3, z4⟩ := ratO_sz hb
  obtain ⟨n1, n2⟩ := num_rat ha
  obtain ⟨n3, n4⟩ := num_rat hb
  have V1 := Lib.hid (fun W => by have := Valid_f z1 z2 W; rw [vR_true ha] at this; exact this)
  have V2 := Lib.hid (fun W => by have := Valid_f z3 z4 W; rw [vR_true hb] at this; exact this)
  have m1 := fun W => by have := rMul_all (w := W) z1 z3 W (Below.refl _ _); rw [show mulO a1 b1 = some (a.num * b.num) by unfold mulO; rw [n1, n3]] at this; exact this
  have m2 := fun W => by have := rMul_all (w := W) z2 z4 W (Below.refl _ _); rw [show mulO a2 b2 = some ((a.den : Int) * b.den) by unfold mulO; rw [n2, n4]] at this; exact this
  have H0 := Lib.hid (OpAt.start w a1 a2 b1 b2 23)
  have t1 := opN_two (a.num * b.num)
  have t2 := opN_two ((a.den : Int) * b.den)
  rw [mulR_make]
  have km := fun W => Make_f (opS_sz (some (a.num * b.num))) (opS_sz (some ((a.den : Int) * b.den))) W
  generalize a.num * b.num = p1 at m1 t1 km ⊢
  generalize (a.den : Int) * b.den = p2 at m2 t2 km ⊢
  clear ha hb z1 z2 z3 z4 n1 n2 n3 n4
  have hs : small p1 = true → small p2 = true → makeS (opS (some p1)) (opS (some p2)) = makeR p1 p2 := fun h1 h2 => by rw [opS_small h1, opS_small h2, makeS_some (num_str h1) (num_str h2)]
  generalize opS (some p1) = s1 at m1 km hs
  generalize opS (some p2) = s2 at m2 km hs
  generalize opN (some p1) = k1 at m1 t1
  generalize opN (some p2) = k2 at m2 t2
  have M1 := Lib.hid m1
  have M2 := Lib.hid m2
  clear m1 m2
  rcases t1 with ⟨e1, rfl⟩ | ⟨e1, rfl⟩ <;> rcases t2 with ⟨e2, rfl⟩ | ⟨e2, rfl⟩
  · rw [hs e1 e2] at km
    rw [if_pos ⟨e1, e2⟩]
    generalize makeR p1 p2 = o at km ⊢
    have KM := Lib.hid km
    clear km hs e1 e2
    go_enter Tryz.func32, Tryz.ntmps32
    go_wp2_with (first
      | (go_at_call 40; with_reducible refine (V1.out _).mono ?_; rintro e w1 ⟨rfl, hb⟩; have h1 := H0.out.below hb; obtain ⟨_, x0, x1, y0, y1, _⟩ := id h1; have H1 := Lib.hid h1; clear hb h1)
      | (go_at_call 40; with_reducible refine (V2.out _).mono ?_; rintro e w2 ⟨rfl, hb⟩; have h2 := H1.out.below hb; obtain ⟨_, x0', x1', y0', y1', _⟩ := id h2; have H2 := Lib.hid h2; clear hb h2)
      | (go_at_call 21; with_reducible refine (M1.out _).mono ?_; rintro e w3 ⟨rfl, hb⟩; have h3 := H2.out.below hb; obtain ⟨_, x0'', x1'', y0'', y1'', _⟩ := id h3; have H3 := Lib.hid h3; clear hb h3)
      | (go_at_call 21; with_reducible refine (M2.out _).mono ?_; rintro e w4 ⟨rfl, hb⟩; have h4 := H3.out.below hb; obtain ⟨_, x0''', x1''', y0''', y1''', _⟩ := id h4; have H4 := Lib.hid h4; clear hb h4)
      | (go_at_call 39; with_reducible refine (KM.out _).mono ?_; rintro e w5 ⟨rfl, hb⟩; have h5 := H4.out.below hb; obtain ⟨_, _, _, _, _, q1, q2, q3, q4, _⟩ := id h5; have H5 := Lib.hid h5; clear hb h5)
      | fail)
    obtain ⟨W5, hW5, p0, p1, hbl⟩ := H5.out.rs.fin (qN o) (qD o)
    rw [hW5]
    clear hW5 q1 q2 q3 q4
    refine bodyPost_ret (v := .tuple #[.agg #[.string (qN o), .string (qD o)], .int .i64 (qE o)]) ?_ rfl ⟨rfl, hbl⟩
    simp [results, Tryz.results32, go_sem, p0, p1, Result.andThen]
  all_goals
    rw [if_neg (by rw [e1, e2]; simp)]
    clear km hs e1 e2
    go_enter Tryz.func32, Tryz.ntmps32
    go_wp2_with (first
      | (go_at_call 40; with_reducible refine (V1.out _).mono ?_; rintro e w1 ⟨rfl, hb⟩; have h1 := H0.out.below hb; obtain ⟨_, x0, x1, y0, y1, _⟩ := id h1; have H1 := Lib.hid h1; clear hb h1)
      | (go_at_call 40; with_reducible refine (V2.out _).mono ?_; rintro e w2 ⟨rfl, hb⟩; have h2 := H1.out.below hb; obtain ⟨_, x0', x1', y0', y1', _⟩ := id h2; have H2 := Lib.hid h2; clear hb h2)
      | (go_at_call 21; with_reducible refine (M1.out _).mono ?_; rintro e w3 ⟨rfl, hb⟩; have h3 := H2.out.below hb; obtain ⟨_, x0'', x1'', y0'', y1'', _⟩ := id h3; have H3 := Lib.hid h3; clear hb h3)
      | (go_at_call 21; with_reducible refine (M2.out _).mono ?_; rintro e w4 ⟨rfl, hb⟩; have h4 := H3.out.below hb; obtain ⟨_, _, _, _, _, q1, q2, q3, q4, _⟩ := id h4; have H4 := Lib.hid h4; clear hb h4)
      | fail)
    obtain ⟨W5, hW5, p0, p1, hbl⟩ := H4.out.rs.fin ⟨#[]⟩ ⟨#[]⟩
    rw [hW5]
    clear hW5 q1 q2 q3 q4
    refine bodyPost_ret (v := .tuple #[.agg #[.string ⟨#[]⟩, .string ⟨#[]⟩], .int .i64 40]) ?_ rfl ⟨rfl, hbl⟩
    simp [results, Tryz.results32, go_sem, p0, p1, Result.andThen]

theorem Mul_f {a1 a2 b1 b2 : ByteArray} (z1 : Sz a1) (z2 : Sz a2) (z3 : Sz b1) (z4 : Sz b2) (w : World) :
    Calls Tryz.prog 32 #[.agg #[.string a1, .string a2], .agg #[.string b1, .string b2]] w fun e W' => e = .returned (.tuple #[.agg #[.string (qN (op2 mulR a1 a2 b1 b2)), .string (qD (op2 mulR a1 a2 b1 b2))], .int .i64 (qE (op2 mulR a1 a2 b1 b2))]) ∧ Below w.heap.size w W' := by
  by_cases hn : ratO a1 a2 = none ∨ ratO b1 b2 = none
  · rw [op2_none hn]
    exact Mul_f_no z1 z2 z3 z4 hn w
  · obtain ⟨a, ha⟩ : ∃ a, ratO a1 a2 = some a := Option.ne_none_iff_exists'.1 (fun h => hn (.inl h))
    obtain ⟨b, hb⟩ : ∃ b, ratO b1 b2 = some b := Option.ne_none_iff_exists'.1 (fun h => hn (.inr h))
    rw [op2_some ha hb]
    exact Mul_f_ok ha hb w

set_option maxRecDepth 100000 in
set_option maxHeartbeats 4000000 in
theorem Div_f_no {a1 a2 b1 b2 : ByteArray} (z1 : Sz a1) (z2 : Sz a2) (z3 : Sz b1) (z4 : Sz b2) (hn : ratO a1 a2 = none ∨ ratO b1 b2 = none) (w : World) :
    Calls Tryz.prog 33 #[.agg #[.string a1, .string a2], .agg #[.string b1, .string b2]] w fun e W' => e = .returned (.tuple #[.agg #[.string ⟨#[]⟩, .string ⟨#[]⟩], .int .i64 40]) ∧ Below w.heap.size w W' := by
  have v1 := fun W => Valid_f z1 z2 W
  have v2 := fun W => Valid_f z3 z4 W
  have H0 := Lib.hid (OpAt.start w a1 a2 b1 b2 23)
  have hv := vR_two hn
  clear z1 z2 z3 z4 hn
  generalize vR a1 a2 = x1 at v1 hv
  generalize vR b1 b2 = x2 at v2 hv
  have V1 := Lib.hid v1
  have V2 := Lib.hid v2
  clear v1 v2
  rcases hv with rfl | ⟨rfl, rfl⟩
  all_goals
    go_enter Tryz.func33, Tryz.ntmps33
    go_wp2_with (first
      | (go_at_call 40; with_reducible refine (V1.out _).mono ?_; rintro e w1 ⟨rfl, hb⟩; have h1 := H0.out.below hb; obtain ⟨_, x0, x1, y0, y1, _⟩ := id h1; have H1 := Lib.hid h1; clear hb h1)
      | (go_at_call 40; with_reducible refine (V2.out _).mono ?_; rintro e w2 ⟨rfl, hb⟩; have h2 := H1.out.below hb; obtain ⟨_, _, _, _, _, q1, q2, q3, q4, _⟩ := id h2; have H2 := Lib.hid h2; clear hb h2)
      | fail)
    obtain ⟨W5, hW5, p0, p1, hbl⟩ := H2.out.rs.fin ⟨#[]⟩ ⟨#[]⟩
    rw [hW5]
    clear hW5 q1 q2 q3 q4
    refine bodyPost_ret (v := .tuple #[.agg #[.string ⟨#[]⟩, .string ⟨#[]⟩], .int .i64 40]) ?_ rfl ⟨rfl, hbl⟩
    simp [results, Tryz.results33, go_sem, p0, p1, Result.andThen]

set_option maxRecDepth 100000 in
set_option maxHeartbeats 8000000 in
theorem Div_f_ok {a1 a2 b1 b2 : ByteArray} {a b : Rat} (ha : ratO a1 a2 = some a) (hb : ratO b1 b2 = some b) (w : World) :
    Calls Tryz.prog 33 #[.agg #[.string a1, .string a2], .agg #[.string b1, .string b2]] w fun e W' => e = .returned (.tuple #[.agg #[.string (qN (divR a b)), .string (qD (divR a b))], .int .i64 (qE (divR a b))]) ∧ Below w.heap.size w W' := by
  obtain ⟨z1, z2⟩ := ratO_sz ha
  obtain ⟨z3, z4⟩ := ratO_sz hb
  obtain ⟨n1, n2⟩ := num_rat ha
  obtain ⟨n3, n4⟩ := num_rat hb
  have V1 := Lib.hid (fun W => by have := Valid_f z1 z2 W; rw [vR_true ha] at this; exact this)
  have V2 := Lib.hid (fun W => by have := Valid_f z3 z4 W; rw [vR_true hb] at this; exact this)
  have m1 := fun W => by have := rMul_all (w := W) z1 z4 W (Below.refl _ _); rw [show mulO a1 b2 = some (a.num * b.den) by unfold mulO; rw [n1, n4]] at this; exact this
  have m2 := fun W => by have := rMul_all (w := W) z2 z3 W (Below.refl _ _); rw [show mulO a2 b1 = some ((a.den : Int) * b.num) by unfold mulO; rw [n2, n3]] at this; exact this
  have H0 := Lib.hid (OpAt.start w a1 a2 b1 b2 23)
  have t1 := opN_two (a.num * b.den)
  have t2 := opN_two ((a.den : Int) * b.num)
  rw [divR_make]
  have km := fun W => Make_f (opS_sz (some (a.num * b.den))) (opS_sz (some ((a.den : Int) * b.num))) W
  generalize a.num * b.den = p1 at m1 t1 km ⊢
  generalize (a.den : Int) * b.num = p2 at m2 t2 km ⊢
  clear ha hb z1 z2 z3 z4 n1 n2 n3 n4
  have hs : small p1 = true → small p2 = true → makeS (opS (some p1)) (opS (some p2)) = makeR p1 p2 := fun h1 h2 => by rw [opS_small h1, opS_small h2, makeS_some (num_str h1) (num_str h2)]
  generalize opS (some p1) = s1 at m1 km hs
  generalize opS (some p2) = s2 at m2 km hs
  generalize opN (some p1) = k1 at m1 t1
  generalize opN (some p2) = k2 at m2 t2
  have M1 := Lib.hid m1
  have M2 := Lib.hid m2
  clear m1 m2
  rcases t1 with ⟨e1, rfl⟩ | ⟨e1, rfl⟩ <;> rcases t2 with ⟨e2, rfl⟩ | ⟨e2, rfl⟩
  · rw [hs e1 e2] at km
    rw [if_pos ⟨e1, e2⟩]
    generalize makeR p1 p2 = o at km ⊢
    have KM := Lib.hid km
    clear km hs e1 e2
    go_enter Tryz.func33, Tryz.ntmps33
    go_wp2_with (first
      | (go_at_call 40; with_reducible refine (V1.out _).mono ?_; rintro e w1 ⟨rfl, hb⟩; have h1 := H0.out.below hb; obtain ⟨_, x0, x1, y0, y1, _⟩ := id h1; have H1 := Lib.hid h1; clear hb h1)
      | (go_at_call 40; with_reducible refine (V2.out _).mono ?_; rintro e w2 ⟨rfl, hb⟩; have h2 := H1.out.below hb; obtain ⟨_, x0', x1', y0', y1', _⟩ := id h2; have H2 := Lib.hid h2; clear hb h2)
      | (go_at_call 21; with_reducible refine (M1.out _).mono ?_; rintro e w3 ⟨rfl, hb⟩; have h3 := H2.out.below hb; obtain ⟨_, x0'', x1'', y0'', y1'', _⟩ := id h3; have H3 := Lib.hid h3; clear hb h3)
      | (go_at_call 21; with_reducible refine (M2.out _).mono ?_; rintro e w4 ⟨rfl, hb⟩; have h4 := H3.out.below hb; obtain ⟨_, x0''', x1''', y0''', y1''', _⟩ := id h4; have H4 := Lib.hid h4; clear hb h4)
      | (go_at_call 39; with_reducible refine (KM.out _).mono ?_; rintro e w5 ⟨rfl, hb⟩; have h5 := H4.out.below hb; obtain ⟨_, _, _, _, _, q1, q2, q3, q4, _⟩ := id h5; have H5 := Lib.hid h5; clear hb h5)
      | fail)
    obtain ⟨W5, hW5, p0, p1, hbl⟩ := H5.out.rs.fin (qN o) (qD o)
    rw [hW5]
    clear hW5 q1 q2 q3 q4
    refine bodyPost_ret (v := .tuple #[.agg #[.string (qN o), .string (qD o)], .int .i64 (qE o)]) ?_ rfl ⟨rfl, hbl⟩
    simp [results, Tryz.results33, go_sem, p0, p1, Result.andThen]
  all_goals
    rw [if_neg (by rw [e1, e2]; simp)]
    clear km hs e1 e2
    go_enter Tryz.func33, Tryz.ntmps33
    go_wp2_with (first
      | (go_at_call 40; with_reducible refine (V1.out _).mono ?_; rintro e w1 ⟨rfl, hb⟩; have h1 := H0.out.below hb; obtain ⟨_, x0, x1, y0, y1, _⟩ := id h1; have H1 := Lib.hid h1; clear hb h1)
      | (go_at_call 40; with_reducible refine (V2.out _).mono ?_; rintro e w2 ⟨rfl, hb⟩; have h2 := H1.out.below hb; obtain ⟨_, x0', x1', y0', y1', _⟩ := id h2; have H2 := Lib.hid h2; clear hb h2)
      | (go_at_call 21; with_reducible refine (M1.out _).mono ?_; rintro e w3 ⟨rfl, hb⟩; have h3 := H2.out.below hb; obtain ⟨_, x0'', x1'', y0'', y1'', _⟩ := id h3; have H3 := Lib.hid h3; clear hb h3)
      | (go_at_call 21; with_reducible refine (M2.out _).mono ?_; rintro e w4 ⟨rfl, hb⟩; have h4 := H3.out.below hb; obtain ⟨_, _, _, _, _, q1, q2, q3, q4, _⟩ := id h4; have H4 := Lib.hid h4; clear hb h4)
      | fail)
    obtain ⟨W5, hW5, p0, p1, hbl⟩ := H4.out.rs.fin ⟨#[]⟩ ⟨#[]⟩
    rw [hW5]
    clear hW5 q1 q2 q3 q4
    refine bodyPost_ret (v := .tuple #[.agg #[.string ⟨#[]⟩, .string ⟨#[]⟩], .int .i64 40]) ?_ rfl ⟨rfl, hbl⟩
    simp [results, Tryz.results33, go_sem, p0, p1, Result.andThen]

theorem Div_f {a1 a2 b1 b2 : ByteArray} (z1 : Sz a1) (z2 : Sz a2) (z3 : Sz b1) (z4 : Sz b2) (w : World) :
    Calls Tryz.prog 33 #[.agg #[.string a1, .string a2], .agg #[.string b1, .string b2]] w fun e W' => e = .returned (.tuple #[.agg #[.string (qN (op2 divR a1 a2 b1 b2)), .string (qD (op2 divR a1 a2 b1 b2))], .int .i64 (qE (op2 divR a1 a2 b1 b2))]) ∧ Below w.heap.size w W' := by
  by_cases hn : ratO a1 a2 = none ∨ ratO b1 b2 = none
  · rw [op2_none hn]
    exact Div_f_no z1 z2 z3 z4 hn w
  · obtain ⟨a, ha⟩ : ∃ a, ratO a1 a2 = some a := Option.ne_none_iff_exists'.1 (fun h => hn (.inl h))
    obtain ⟨b, hb⟩ : ∃ b, ratO b1 b2 = some b := Option.ne_none_iff_exists'.1 (fun h => hn (.inr h))
    rw [op2_some ha hb]
    exact Div_f_ok ha hb w
end Go.Proofs.YtkekafamfoifmaaGreatDoor

namespace Go.Proofs.YtkekafamfoifmaaGreatDoor
open Go.RowKit Go.Shelf
attribute [local go_sem] Oper.semAt_some

theorem zeroOr_zero (w : World) : Calls Tryz.prog 68 #[.string ⟨#[48]⟩] w fun e W' => e = .returned (.string ⟨#[48]⟩) ∧ w = W' := by
  go_enter Tryz.func68, Tryz.ntmps68
  go_wp2
  go_ret
  exact ⟨rfl, rfl⟩
theorem zeroOr_one {s : ByteArray} (h : (s.toList == [48]) = false) (w : World) : Calls Tryz.prog 68 #[.string s] w fun e W' => e = .returned (.string ⟨#[49]⟩) ∧ w = W' := by
  go_enter Tryz.func68, Tryz.ntmps68
  go_wp2
  go_ret
  exact ⟨rfl, rfl⟩
/-- The size of the integer that a text is. -/
def denV (v : Value) : Nat := match v with | .string t => (match numOf t with | some z => z.natAbs | none => 0) | _ => 0
theorem denV_str {n d : ByteArray} {r : Rat} (h : ratO n d = some r) : denV (.string d) = r.den := by
  show (match numOf d with | some z => z.natAbs | none => 0) = _
  rw [(num_rat h).2]
  exact Int.natAbs_natCast _

set_option maxRecDepth 100000 in
set_option maxHeartbeats 8000000 in
theorem Compare_f_some {a1 a2 b1 b2 : ByteArray} {a b : Rat} (ha : ratO a1 a2 = some a) (hb : ratO b1 b2 = some b) (w : World) :
    Calls Tryz.prog 34 #[.agg #[.string a1, .string a2], .agg #[.string b1, .string b2]] w fun e W' => e = .returned (.int .i64 (cmpR a b)) ∧ Below w.heap.size w W' := by
  obtain ⟨z1, z2⟩ := ratO_sz ha
  obtain ⟨z3, z4⟩ := ratO_sz hb
  have V1 := Lib.hid (fun W => by have := Valid_f z1 z2 W; rw [vR_true ha] at this; exact this)
  have V2 := Lib.hid (fun W => by have := Valid_f z3 z4 W; rw [vR_true hb] at this; exact this)
  have H0 := Lib.hid (CpAt.start w a1 a2 b1 b2 23)
  have HA := Lib.hid ha
  have HB := Lib.hid hb
  obtain ⟨cc, hcc⟩ : ∃ cc, cmpR a b = cc := ⟨_, rfl⟩
  rw [hcc]
  have HCC := Lib.hid hcc
  clear ha hb z1 z2 z3 z4 hcc
  go_enter Tryz.func34, Tryz.ntmps34
  go_wp2_with (first
    | (go_at_call 40; with_reducible refine (V1.out _).mono ?_; rintro e w1 ⟨rfl, hb⟩; have h1 := H0.out.below hb; obtain ⟨_, x0, x1, y0, y1, _⟩ := id h1; have H1 := Lib.hid h1; clear hb h1)
    | (go_at_call 40; with_reducible refine (V2.out _).mono ?_; rintro e w2 ⟨rfl, hb⟩; have h2 := H1.out.below hb; obtain ⟨_, x0', x1', y0', y1', _⟩ := id h2; have H2 := Lib.hid h2; clear hb h2)
    | fail)
  clear V1 V2
  go_loopw [7, 8, 9, 10, 11] (fun s n d m c wr => ∃ (S : Int) (n1 d1 n2 d2 : ByteArray) (A B : Rat), s = .int .i64 S ∧ n = .string n1 ∧ d = .string d1 ∧ m = .string n2 ∧ c = .string d2 ∧ (S = 1 ∨ S = -1) ∧ ratO n1 d1 = some A ∧ ratO n2 d2 = some B ∧ S * cmpR A B = cc ∧ Below w.heap.size w wr) (fun _ _ d _ _ _ => denV d)
  case atStart => exact ⟨1, a1, a2, b1, b2, a, b, rfl, rfl, rfl, rfl, rfl, .inl rfl, HA.out, HB.out, by rw [HCC.out]; omega, H2.out.bw⟩
  case round =>
    obtain ⟨S, n1, d1, n2, d2, A, B, rfl, rfl, rfl, rfl, rfl, hS, h1, h2, hm, hbw⟩ := hrel
    have HBW := Lib.hid hbw
    clear hbw
    obtain ⟨zn1, zd1⟩ := ratO_sz h1
    obtain ⟨zn2, zd2⟩ := ratO_sz h2
    obtain ⟨e1, e2⟩ := ratO_div h1
    obtain ⟨e3, e4⟩ := ratO_div h2
    have fA := (ratO_some h1).2.2
    have fB := (ratO_some h2).2.2
    have k1 := Lib.hid (fun W => by have := rDiv_all (w := W) zn1 zd1 W (Below.refl _ _); rw [e1, e2, opS_small (floor_small fA), opS_small (rest_small fA), opN_small (floor_small fA)] at this; exact this)
    have k2 := Lib.hid (fun W => by have := rDiv_all (w := W) zn2 zd2 W (Below.refl _ _); rw [e3, e4, opS_small (floor_small fB), opS_small (rest_small fB), opN_small (floor_small fB)] at this; exact this)
    have k3 := fun W => by have := rCompare_all (w := W) (sz_str (floor_small fA)) (sz_str (floor_small fB)) W (Below.refl _ _); rw [show cmpO (str A.floor) (str B.floor) = cmpI A.floor B.floor by unfold cmpO; rw [num_str (floor_small fA), num_str (floor_small fB)]] at this; exact this
    clear e1 e2 e3 e4 zn1 zn2 zd1 zd2
    have hsb : -1 ≤ S ∧ S ≤ 1 := by rcases hS with rfl | rfl <;> omega
    obtain ⟨sb1, sb2⟩ := hsb
    have FF := Lib.hid (cmpR_floor (a := A) (b := B))
    have RR := Lib.hid (cmpR_rest (a := A) (b := B))
    have ZA := zero_eq (z := A.num % (A.den : Int))
    have ZB := zero_eq (z := B.num % (B.den : Int))
    have NA := Lib.hid (ratO_next h1)
    have NB := Lib.hid (ratO_next h2)
    have hden := Lib.hid (denV_str h1)
    have HM := Lib.hid hm
    have HSS := Lib.hid hS
    clear hm h1 h2 hS fA fB HA HB
    generalize str A.floor = tp at k1 k3
    generalize str B.floor = tq at k2 k3
    generalize hr1 : str (A.num % (A.den : Int)) = tr at k1 ZA NA
    generalize hr2 : str (B.num % (B.den : Int)) = ts at k2 ZB NB
    have K3 := Lib.hid k3
    rcases cmpI_cases A.floor B.floor with hc | hc | hc
    · have hres := FF.out (by omega)
      rw [hc] at hres
      rw [hc] at k3
      have K3 := Lib.hid k3
      have hfin := HM.out
      rw [hres] at hfin
      have HF := Lib.hid hfin
      clear hres ZA ZB k3 hfin
      go_wp2_with (first
        | (go_at_call 66; with_reducible refine (k1.out _).mono ?_; rintro e w3 ⟨rfl, hb⟩; have H3 := Lib.hid (HBW.out.trans (hb.mono HBW.out.size)); clear hb)
        | (go_at_call 66; with_reducible refine (k2.out _).mono ?_; rintro e w4 ⟨rfl, hb⟩; have H4 := Lib.hid (H3.out.trans (hb.mono H3.out.size)); clear hb)
        | (go_at_call 67; with_reducible refine (K3.out _).mono ?_; rintro e w5 ⟨rfl, hb⟩; have H5 := Lib.hid (H4.out.trans (hb.mono H4.out.size)); clear hb)
        | fail)
      go_ret
      exact ⟨ret_int (by have := HF.out; omega), H5.out⟩
    · have hf := cmpI_zero hc
      have hres := RR.out hf
      rw [hc] at k3
      have K3 := Lib.hid k3
      have hm := HM.out
      rw [hres] at hm
      clear hres hf hc
      by_cases hA : A.num % (A.den : Int) = 0
      · rw [decide_eq_true hA] at ZA
        rw [if_pos hA] at hm
        by_cases hB : B.num % (B.den : Int) = 0
        · rw [decide_eq_true hB] at ZB
          rw [if_pos hB] at hm
          rw [hA] at hr1
          obtain rfl : tr = ⟨#[48]⟩ := hr1.symm
          rw [hB] at hr2
          obtain rfl : ts = ⟨#[48]⟩ := hr2.symm
          have HF := Lib.hid hm
          have k6 := Lib.hid (fun W => by have := rCompare_all (w := W) sz_zero sz_zero W (Below.refl _ _); rw [show cmpO ⟨#[48]⟩ ⟨#[48]⟩ = 0 by decide +kernel] at this; exact this)
          have q1 := Lib.hid (fun W => zeroOr_zero W)
          have q2 := Lib.hid (fun W => zeroOr_zero W)
          clear hm hA hB k3
          go_wp2_with (first
            | (go_at_call 66; with_reducible refine (k1.out _).mono ?_; rintro e w3 ⟨rfl, hb⟩; have H3 := Lib.hid (HBW.out.trans (hb.mono HBW.out.size)); clear hb)
            | (go_at_call 66; with_reducible refine (k2.out _).mono ?_; rintro e w4 ⟨rfl, hb⟩; have H4 := Lib.hid (H3.out.trans (hb.mono H3.out.size)); clear hb)
            | (go_at_call 67; with_reducible refine (K3.out _).mono ?_; rintro e w5 ⟨rfl, hb⟩; have H5 := Lib.hid (H4.out.trans (hb.mono H4.out.size)); clear hb)
            | (go_at_call 68; with_reducible refine (q1.out _).mono ?_; rintro e w6 ⟨rfl, rfl⟩)
            | (go_at_call 68; with_reducible refine (q2.out _).mono ?_; rintro e w7 ⟨rfl, rfl⟩)
            | (go_at_call 67; with_reducible refine (k6.out _).mono ?_; rintro e w8 ⟨rfl, hb⟩; have H6 := Lib.hid (H5.out.trans (hb.mono H5.out.size)); clear hb)
            | fail)
          go_ret
          exact ⟨ret_int (by have := HF.out; omega), H6.out⟩
        · rw [decide_eq_false hB] at ZB
          rw [if_neg hB] at hm
          rw [hA] at hr1
          obtain rfl : tr = ⟨#[48]⟩ := hr1.symm
          have HF := Lib.hid hm
          have k6 := Lib.hid (fun W => by have := rCompare_all (w := W) sz_zero sz_one W (Below.refl _ _); rw [show cmpO ⟨#[48]⟩ ⟨#[49]⟩ = -1 by decide +kernel] at this; exact this)
          have q1 := Lib.hid (fun W => zeroOr_zero W)
          have q2 := Lib.hid (fun W => zeroOr_one (s := ts) ZB W)
          clear hm hA hB k3
          go_wp2_with (first
            | (go_at_call 66; with_reducible refine (k1.out _).mono ?_; rintro e w3 ⟨rfl, hb⟩; have H3 := Lib.hid (HBW.out.trans (hb.mono HBW.out.size)); clear hb)
            | (go_at_call 66; with_reducible refine (k2.out _).mono ?_; rintro e w4 ⟨rfl, hb⟩; have H4 := Lib.hid (H3.out.trans (hb.mono H3.out.size)); clear hb)
            | (go_at_call 67; with_reducible refine (K3.out _).mono ?_; rintro e w5 ⟨rfl, hb⟩; have H5 := Lib.hid (H4.out.trans (hb.mono H4.out.size)); clear hb)
            | (go_at_call 68; with_reducible refine (q1.out _).mono ?_; rintro e w6 ⟨rfl, rfl⟩)
            | (go_at_call 68; with_reducible refine (q2.out _).mono ?_; rintro e w7 ⟨rfl, rfl⟩)
            | (go_at_call 67; with_reducible refine (k6.out _).mono ?_; rintro e w8 ⟨rfl, hb⟩; have H6 := Lib.hid (H5.out.trans (hb.mono H5.out.size)); clear hb)
            | fail)
          go_ret
          exact ⟨ret_int (by have := HF.out; omega), H6.out⟩
      · rw [decide_eq_false hA] at ZA
        rw [if_neg hA] at hm
        by_cases hB : B.num % (B.den : Int) = 0
        · rw [decide_eq_true hB] at ZB
          rw [if_pos hB] at hm
          rw [hB] at hr2
          obtain rfl : ts = ⟨#[48]⟩ := hr2.symm
          have HF := Lib.hid hm
          have k6 := Lib.hid (fun W => by have := rCompare_all (w := W) sz_one sz_zero W (Below.refl _ _); rw [show cmpO ⟨#[49]⟩ ⟨#[48]⟩ = 1 by decide +kernel] at this; exact this)
          have q1 := Lib.hid (fun W => zeroOr_one (s := tr) ZA W)
          have q2 := Lib.hid (fun W => zeroOr_zero W)
          clear hm hA hB k3
          go_wp2_with (first
            | (go_at_call 66; with_reducible refine (k1.out _).mono ?_; rintro e w3 ⟨rfl, hb⟩; have H3 := Lib.hid (HBW.out.trans (hb.mono HBW.out.size)); clear hb)
            | (go_at_call 66; with_reducible refine (k2.out _).mono ?_; rintro e w4 ⟨rfl, hb⟩; have H4 := Lib.hid (H3.out.trans (hb.mono H3.out.size)); clear hb)
            | (go_at_call 67; with_reducible refine (K3.out _).mono ?_; rintro e w5 ⟨rfl, hb⟩; have H5 := Lib.hid (H4.out.trans (hb.mono H4.out.size)); clear hb)
            | (go_at_call 68; with_reducible refine (q1.out _).mono ?_; rintro e w6 ⟨rfl, rfl⟩)
            | (go_at_call 68; with_reducible refine (q2.out _).mono ?_; rintro e w7 ⟨rfl, rfl⟩)
            | (go_at_call 67; with_reducible refine (k6.out _).mono ?_; rintro e w8 ⟨rfl, hb⟩; have H6 := Lib.hid (H5.out.trans (hb.mono H5.out.size)); clear hb)
            | fail)
          go_ret
          exact ⟨ret_int (by have := HF.out; omega), H6.out⟩
        · rw [decide_eq_false hB] at ZB
          rw [if_neg hB] at hm
          have na := NA.out hA
          have nb := NB.out hB
          have nd := next_den hA
          have ne := denV_str na
          have HN := Lib.hid (And.intro na (And.intro nb (And.intro nd (And.intro hm ne))))
          clear hm na nb nd ne hA hB k3
          go_wp2_with (first
            | (go_at_call 66; with_reducible refine (k1.out _).mono ?_; rintro e w3 ⟨rfl, hb⟩; have H3 := Lib.hid (HBW.out.trans (hb.mono HBW.out.size)); clear hb)
            | (go_at_call 66; with_reducible refine (k2.out _).mono ?_; rintro e w4 ⟨rfl, hb⟩; have H4 := Lib.hid (H3.out.trans (hb.mono H3.out.size)); clear hb)
            | (go_at_call 67; with_reducible refine (K3.out _).mono ?_; rintro e w5 ⟨rfl, hb⟩; have H5 := Lib.hid (H4.out.trans (hb.mono H4.out.size)); clear hb)
            | fail)
          obtain ⟨na, nb, nd, hm, ne⟩ := HN.out
          refine ⟨⟨-S, d1, tr, d2, ts, _, _, by go_num, rfl, rfl, rfl, rfl, ?_, na, nb, ?_, H5.out⟩, ?_⟩
          · rcases HSS.out with rfl | rfl
            · exact .inr rfl
            · exact .inl rfl
          · rw [← hm, Int.neg_mul, Int.mul_neg]
          · rw [ne, hden.out]
            exact nd
    · have hres := FF.out (by omega)
      rw [hc] at hres
      rw [hc] at k3
      have K3 := Lib.hid k3
      have hfin := HM.out
      rw [hres] at hfin
      have HF := Lib.hid hfin
      clear hres ZA ZB k3 hfin
      go_wp2_with (first
        | (go_at_call 66; with_reducible refine (k1.out _).mono ?_; rintro e w3 ⟨rfl, hb⟩; have H3 := Lib.hid (HBW.out.trans (hb.mono HBW.out.size)); clear hb)
        | (go_at_call 66; with_reducible refine (k2.out _).mono ?_; rintro e w4 ⟨rfl, hb⟩; have H4 := Lib.hid (H3.out.trans (hb.mono H3.out.size)); clear hb)
        | (go_at_call 67; with_reducible refine (K3.out _).mono ?_; rintro e w5 ⟨rfl, hb⟩; have H5 := Lib.hid (H4.out.trans (hb.mono H4.out.size)); clear hb)
        | fail)
      go_ret
      exact ⟨ret_int (by have := HF.out; omega), H5.out⟩
theorem Compare_f_no {a1 a2 b1 b2 : ByteArray} (z1 : Sz a1) (z2 : Sz a2) (z3 : Sz b1) (z4 : Sz b2) (hn : ratO a1 a2 = none ∨ ratO b1 b2 = none) (w : World) :
    Calls Tryz.prog 34 #[.agg #[.string a1, .string a2], .agg #[.string b1, .string b2]] w fun e W' => e = .returned (.int .i64 0) ∧ Below w.heap.size w W' := by
  have v1 := fun W => Valid_f z1 z2 W
  have v2 := fun W => Valid_f z3 z4 W
  have H0 := Lib.hid (CpAt.start w a1 a2 b1 b2 23)
  have hv := vR_two hn
  clear z1 z2 z3 z4 hn
  generalize vR a1 a2 = x1 at v1 hv
  generalize vR b1 b2 = x2 at v2 hv
  have V1 := Lib.hid v1
  have V2 := Lib.hid v2
  clear v1 v2
  rcases hv with rfl | ⟨rfl, rfl⟩
  all_goals
    go_enter Tryz.func34, Tryz.ntmps34
    go_wp2_with (first
      | (go_at_call 40; with_reducible refine (V1.out _).mono ?_; rintro e w1 ⟨rfl, hb⟩; have h1 := H0.out.below hb; obtain ⟨_, x0, x1, y0, y1, _⟩ := id h1; have H1 := Lib.hid h1; clear hb h1)
      | (go_at_call 40; with_reducible refine (V2.out _).mono ?_; rintro e w2 ⟨rfl, hb⟩; have H2 := Lib.hid (H1.out.below hb); clear hb)
      | fail)
    go_ret
    exact ⟨rfl, H2.out.bw⟩
theorem Compare_f {a1 a2 b1 b2 : ByteArray} (z1 : Sz a1) (z2 : Sz a2) (z3 : Sz b1) (z4 : Sz b2) (w : World) :
    Calls Tryz.prog 34 #[.agg #[.string a1, .string a2], .agg #[.string b1, .string b2]] w fun e W' => e = .returned (.int .i64 (cmpS a1 a2 b1 b2)) ∧ Below w.heap.size w W' := by
  by_cases hn : ratO a1 a2 = none ∨ ratO b1 b2 = none
  · rw [cmpS_none hn]
    exact Compare_f_no z1 z2 z3 z4 hn w
  · obtain ⟨a, ha⟩ : ∃ a, ratO a1 a2 = some a := Option.ne_none_iff_exists'.1 (fun h => hn (.inl h))
    obtain ⟨b, hb⟩ : ∃ b, ratO b1 b2 = some b := Option.ne_none_iff_exists'.1 (fun h => hn (.inr h))
    rw [cmpS_some ha hb]
    exact Compare_f_some ha hb w
end Go.Proofs.YtkekafamfoifmaaGreatDoor

