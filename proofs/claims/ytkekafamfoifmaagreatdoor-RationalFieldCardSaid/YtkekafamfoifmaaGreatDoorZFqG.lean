/-
  The reference of package rational: rounding, and the text of a fraction.
-/
import Derived.Test.YtkekafamfoifmaaGreatDoorZFqO
import Derived.Test.YtkekafamfoifmaaGreatDoorZPrn
namespace Go.Proofs.YtkekafamfoifmaaGreatDoor
open Go.RowKit Go.Shelf
attribute [local go_sem] Oper.semAt_some

theorem str_zeros {t : ByteArray} {k : Nat} (h : t.data.toList = 49 :: List.replicate k 48) : t = str ((10 : Int) ^ k) := by
  apply ByteArray.ext
  apply Array.toList_inj.1
  rw [h, str_list, pow_cast, txt_nat, txtN_pow]
set_option maxHeartbeats 4000000 in
theorem power_f (k : Nat) (hk : k ≤ 1000) (w : World) :
    Calls Tryz.prog 97 #[.int .i64 (k : Int)] w fun e w' => e = .returned (.string (str ((10 : Int) ^ k))) ∧ w = w' := by
  go_enter Tryz.func97, Tryz.ntmps97
  go_wp2
  go_loop [3, 4] (fun s i => ∃ (j : Nat) (t : ByteArray), j ≤ k ∧ i = .int .i64 j ∧ s = .string t ∧ t.size = j + 1 ∧ t.data.toList = 49 :: List.replicate j 48) (fun _ i => k - (intOf i).toNat)
  case atStart => exact ⟨0, ⟨#[49]⟩, Nat.zero_le _, rfl, rfl, rfl, rfl⟩
  case round =>
    obtain ⟨j, t, hj, rfl, rfl, hts, ht⟩ := hrel
    have HT := Lib.hid ht
    clear ht
    by_cases hlt : j < k
    · go_wp2
      refine ⟨⟨j + 1, _, by omega, by go_num, rfl, ?_, ?_⟩, by simp only [intOf]; omega⟩
      · rw [ba_size, ba_append, HT.out]; simp
      · rw [ba_append, HT.out, List.replicate_succ']; rfl
    · go_wp2
      go_ret
      obtain rfl : j = k := by omega
      have e := str_zeros HT.out
      rw [← e]
      exact ⟨rfl, rfl⟩

set_option maxRecDepth 100000 in
set_option maxHeartbeats 4000000 in
theorem grid_no {a1 a2 : ByteArray} {k : Int} (z1 : Sz a1) (z2 : Sz a2) (hk : -9223372036854775808 ≤ k ∧ k ≤ 9223372036854775807) (hn : ratO a1 a2 = none ∨ k < 0 ∨ 30 < k) (w : World) :
    Calls Tryz.prog 70 #[.agg #[.string a1, .string a2], .int .i64 k] w fun e W' => e = .returned (.tuple #[.string ⟨#[]⟩, .string ⟨#[]⟩, .string ⟨#[]⟩, .bool false]) ∧ Below w.heap.size w W' := by
  have v1 := fun W => Valid_f z1 z2 W
  have H0 := Lib.hid (RtAt.start (Below.refl _ w) a1 a2 23)
  have hv : vR a1 a2 = false ∨ vR a1 a2 = true ∧ k < 0 ∨ vR a1 a2 = true ∧ ¬ k < 0 ∧ 30 < k := by
    unfold vR
    cases h0 : ratO a1 a2 with
    | none => exact .inl rfl
    | some r =>
      rw [h0] at hn
      rcases hn with h | h | h
      · cases h
      · exact .inr (.inl ⟨rfl, h⟩)
      · exact .inr (.inr ⟨rfl, by omega, h⟩)
  obtain ⟨k1, k2⟩ := hk
  clear z1 z2 hn
  generalize vR a1 a2 = x1 at v1 hv
  have V1 := Lib.hid v1
  clear v1
  rcases hv with rfl | ⟨rfl, h1⟩ | ⟨rfl, h1, h2⟩
  all_goals
    go_enter Tryz.func70, Tryz.ntmps70
    go_wp2_with (first
      | (go_at_call 40; with_reducible refine (V1.out _).mono ?_; rintro e w1 ⟨rfl, hb⟩; have H1 := Lib.hid (H0.out.below hb); clear hb)
      | fail)
    refine bodyPost_ret (v := .tuple #[.string ⟨#[]⟩, .string ⟨#[]⟩, .string ⟨#[]⟩, .bool false]) ?_ rfl ⟨rfl, H1.out.bw⟩
    simp [results, Tryz.results70, go_sem]

set_option maxRecDepth 100000 in
set_option maxHeartbeats 4000000 in
theorem grid_great {a1 a2 : ByteArray} {a : Rat} {k : Nat} (ha : ratO a1 a2 = some a) (hk : k ≤ 30) (hs : small (a.num * 10 ^ k) = false) (w : World) :
    Calls Tryz.prog 70 #[.agg #[.string a1, .string a2], .int .i64 (k : Int)] w fun e W' => e = .returned (.tuple #[.string ⟨#[]⟩, .string ⟨#[]⟩, .string ⟨#[]⟩, .bool false]) ∧ Below w.heap.size w W' := by
  obtain ⟨z1, z2⟩ := ratO_sz ha
  obtain ⟨n1, n2⟩ := num_rat ha
  have V1 := Lib.hid (fun W => by have := Valid_f z1 z2 W; rw [vR_true ha] at this; exact this)
  have P1 := Lib.hid (fun W => power_f k (by omega) W)
  have sp := small_pow (k := k) (by omega)
  have M1 := Lib.hid (fun W => by have := rMul_all (w := W) z1 (sz_str sp) W (Below.refl _ _); rw [show mulO a1 (str ((10 : Int) ^ k)) = some (a.num * 10 ^ k) by unfold mulO; rw [n1, num_str sp], opN_great (by rw [hs]; simp)] at this; exact this)
  have H0 := Lib.hid (RtAt.start (Below.refl _ w) a1 a2 23)
  clear ha z1 z2 n1 n2 sp hs
  generalize opS (some (a.num * 10 ^ k)) = s1 at M1
  generalize str ((10 : Int) ^ k) = tk at P1 M1
  go_enter Tryz.func70, Tryz.ntmps70
  go_wp2_with (first
    | (go_at_call 40; with_reducible refine (V1.out _).mono ?_; rintro e w1 ⟨rfl, hb⟩; have h1 := H0.out.below hb; have x0 := h1.c0; have x1 := h1.c1; have H1 := Lib.hid h1; clear hb h1)
    | (go_at_call 97; with_reducible refine (P1.out _).mono ?_; rintro e w2 ⟨rfl, rfl⟩)
    | (go_at_call 21; with_reducible refine (M1.out _).mono ?_; rintro e w3 ⟨rfl, hb⟩; have H2 := Lib.hid (H1.out.below hb); clear hb)
    | fail)
  refine bodyPost_ret (v := .tuple #[.string ⟨#[]⟩, .string ⟨#[]⟩, .string ⟨#[]⟩, .bool false]) ?_ rfl ⟨rfl, H2.out.bw⟩
  simp [results, Tryz.results70, go_sem]

set_option maxRecDepth 100000 in
set_option maxHeartbeats 4000000 in
theorem grid_ok {a1 a2 : ByteArray} {a : Rat} {k : Nat} (ha : ratO a1 a2 = some a) (hk : k ≤ 30) (hs : small (a.num * 10 ^ k) = true) (w : World) :
    Calls Tryz.prog 70 #[.agg #[.string a1, .string a2], .int .i64 (k : Int)] w fun e W' => e = .returned (.tuple #[.string (str (a.num * 10 ^ k / a.den)), .string (str (a.num * 10 ^ k % a.den)), .string (str ((10 : Int) ^ k)), .bool true]) ∧ Below w.heap.size w W' := by
  obtain ⟨z1, z2⟩ := ratO_sz ha
  obtain ⟨n1, n2⟩ := num_rat ha
  have fd := (numOf_some n2).2
  have hd := rat_dpos a
  have V1 := Lib.hid (fun W => by have := Valid_f z1 z2 W; rw [vR_true ha] at this; exact this)
  have P1 := Lib.hid (fun W => power_f k (by omega) W)
  have sp := small_pow (k := k) (by omega)
  have M1 := Lib.hid (fun W => by have := rMul_all (w := W) z1 (sz_str sp) W (Below.refl _ _); rw [show mulO a1 (str ((10 : Int) ^ k)) = some (a.num * 10 ^ k) by unfold mulO; rw [n1, num_str sp], opS_small hs, opN_small hs] at this; exact this)
  have D1 := Lib.hid (fun W => by
    have := rDiv_all (w := W) (sz_str hs) z2 W (Below.refl _ _)
    rw [show divO (str (a.num * 10 ^ k)) a2 = some (a.num * 10 ^ k / a.den) by unfold divO; rw [num_str hs, n2]; exact if_neg (by omega), show modO (str (a.num * 10 ^ k)) a2 = some (a.num * 10 ^ k % a.den) by unfold modO; rw [num_str hs, n2]; exact if_neg (by omega)] at this
    rw [opS_small (small_div _ hs), opS_small (small_mod (by omega) fd), opN_small (small_div _ hs)] at this
    exact this)
  have H0 := Lib.hid (RtAt.start (Below.refl _ w) a1 a2 23)
  clear ha z1 z2 n1 n2 sp hs fd hd
  generalize str (a.num * 10 ^ k) = s1 at M1 D1
  generalize str (a.num * 10 ^ k / a.den) = s2 at D1 ⊢
  generalize str (a.num * 10 ^ k % a.den) = s3 at D1 ⊢
  generalize str ((10 : Int) ^ k) = tk at P1 M1 ⊢
  go_enter Tryz.func70, Tryz.ntmps70
  go_wp2_with (first
    | (go_at_call 40; with_reducible refine (V1.out _).mono ?_; rintro e w1 ⟨rfl, hb⟩; have h1 := H0.out.below hb; have x0 := h1.c0; have x1 := h1.c1; have H1 := Lib.hid h1; clear hb h1)
    | (go_at_call 97; with_reducible refine (P1.out _).mono ?_; rintro e w2 ⟨rfl, rfl⟩)
    | (go_at_call 21; with_reducible refine (M1.out _).mono ?_; rintro e w3 ⟨rfl, hb⟩; have h2 := H1.out.below hb; have x0' := h2.c0; have x1' := h2.c1; have H2 := Lib.hid h2; clear hb h2)
    | (go_at_call 66; with_reducible refine (D1.out _).mono ?_; rintro e w4 ⟨rfl, hb⟩; have H3 := Lib.hid (H2.out.below hb); clear hb)
    | fail)
  refine bodyPost_ret (v := .tuple #[.string s2, .string s3, .string tk, .bool true]) ?_ rfl ⟨rfl, H3.out.bw⟩
  simp [results, Tryz.results70, go_sem]

set_option maxRecDepth 100000 in
set_option maxHeartbeats 4000000 in
theorem Down_bad {a1 a2 : ByteArray} {k : Int} (hk : -9223372036854775808 ≤ k ∧ k ≤ 9223372036854775807) (w : World)
    (G : ∀ W, Calls Tryz.prog 70 #[.agg #[.string a1, .string a2], .int .i64 k] W fun e W' => e = .returned (.tuple #[.string ⟨#[]⟩, .string ⟨#[]⟩, .string ⟨#[]⟩, .bool false]) ∧ Below W.heap.size W W') :
    Calls Tryz.prog 36 #[.agg #[.string a1, .string a2], .int .i64 k] w fun e W' => e = .returned (.tuple #[.agg #[.string ⟨#[]⟩, .string ⟨#[]⟩], .int .i64 40]) ∧ Below w.heap.size w W' := by
  have KG := Lib.hid G
  have H0 := Lib.hid (RpAt.start w a1 a2 23)
  obtain ⟨k1, k2⟩ := hk
  clear G
  go_enter Tryz.func36, Tryz.ntmps36
  go_wp2_with (first
    | (go_at_call 70; with_reducible refine (KG.out _).mono ?_; rintro e w1 ⟨rfl, hb⟩; have h1 := H0.out.below hb; obtain ⟨_, _, _, q1, q2, q3, q4, _⟩ := id h1; have H1 := Lib.hid h1; clear hb h1)
    | fail)
  obtain ⟨W5, hW5, p0, p1, hbl⟩ := H1.out.rs.fin ⟨#[]⟩ ⟨#[]⟩
  rw [hW5]
  clear hW5 q1 q2 q3 q4
  refine bodyPost_ret (v := .tuple #[.agg #[.string ⟨#[]⟩, .string ⟨#[]⟩], .int .i64 40]) ?_ rfl ⟨rfl, hbl⟩
  simp [results, Tryz.results36, go_sem, p0, p1, Result.andThen]

set_option maxRecDepth 100000 in
set_option maxHeartbeats 4000000 in
theorem Up_bad {a1 a2 : ByteArray} {k : Int} (hk : -9223372036854775808 ≤ k ∧ k ≤ 9223372036854775807) (w : World)
    (G : ∀ W, Calls Tryz.prog 70 #[.agg #[.string a1, .string a2], .int .i64 k] W fun e W' => e = .returned (.tuple #[.string ⟨#[]⟩, .string ⟨#[]⟩, .string ⟨#[]⟩, .bool false]) ∧ Below W.heap.size W W') :
    Calls Tryz.prog 38 #[.agg #[.string a1, .string a2], .int .i64 k] w fun e W' => e = .returned (.tuple #[.agg #[.string ⟨#[]⟩, .string ⟨#[]⟩], .int .i64 40]) ∧ Below w.heap.size w W' := by
  have KG := Lib.hid G
  have H0 := Lib.hid (RpAt.start w a1 a2 23)
  obtain ⟨k1, k2⟩ := hk
  clear G
  go_enter Tryz.func38, Tryz.ntmps38
  go_wp2_with (first
    | (go_at_call 70; with_reducible refine (KG.out _).mono ?_; rintro e w1 ⟨rfl, hb⟩; have h1 := H0.out.below hb; obtain ⟨_, _, _, q1, q2, q3, q4, _⟩ := id h1; have H1 := Lib.hid h1; clear hb h1)
    | fail)
  obtain ⟨W5, hW5, p0, p1, hbl⟩ := H1.out.rs.fin ⟨#[]⟩ ⟨#[]⟩
  rw [hW5]
  clear hW5 q1 q2 q3 q4
  refine bodyPost_ret (v := .tuple #[.agg #[.string ⟨#[]⟩, .string ⟨#[]⟩], .int .i64 40]) ?_ rfl ⟨rfl, hbl⟩
  simp [results, Tryz.results38, go_sem, p0, p1, Result.andThen]

set_option maxRecDepth 100000 in
set_option maxHeartbeats 4000000 in
theorem Down_good {a1 a2 s2 s3 tk n' d' : ByteArray} {k e' : Int} (hk : -9223372036854775808 ≤ k ∧ k ≤ 9223372036854775807) (w : World)
    (G : ∀ W, Calls Tryz.prog 70 #[.agg #[.string a1, .string a2], .int .i64 k] W fun e W' => e = .returned (.tuple #[.string s2, .string s3, .string tk, .bool true]) ∧ Below W.heap.size W W')
    (M : ∀ W, Calls Tryz.prog 39 #[.string s2, .string tk] W fun e W' => e = .returned (.tuple #[.agg #[.string n', .string d'], .int .i64 e']) ∧ Below W.heap.size W W') :
    Calls Tryz.prog 36 #[.agg #[.string a1, .string a2], .int .i64 k] w fun e W' => e = .returned (.tuple #[.agg #[.string n', .string d'], .int .i64 e']) ∧ Below w.heap.size w W' := by
  have KG := Lib.hid G
  have KM := Lib.hid M
  have H0 := Lib.hid (RpAt.start w a1 a2 23)
  obtain ⟨k1, k2⟩ := hk
  clear G M
  go_enter Tryz.func36, Tryz.ntmps36
  go_wp2_with (first
    | (go_at_call 70; with_reducible refine (KG.out _).mono ?_; rintro e w1 ⟨rfl, hb⟩; have H1 := Lib.hid (H0.out.below hb); clear hb)
    | (go_at_call 39; with_reducible refine (KM.out _).mono ?_; rintro e w2 ⟨rfl, hb⟩; have h2 := H1.out.below hb; obtain ⟨_, _, _, q1, q2, q3, q4, _⟩ := id h2; have H2 := Lib.hid h2; clear hb h2)
    | fail)
  obtain ⟨W5, hW5, p0, p1, hbl⟩ := H2.out.rs.fin n' d'
  rw [hW5]
  clear hW5 q1 q2 q3 q4
  refine bodyPost_ret (v := .tuple #[.agg #[.string n', .string d'], .int .i64 e']) ?_ rfl ⟨rfl, hbl⟩
  simp [results, Tryz.results36, go_sem, p0, p1, Result.andThen]

set_option maxRecDepth 100000 in
set_option maxHeartbeats 4000000 in
theorem Up_good {a1 a2 s2 s3 s4 tk n' d' : ByteArray} {k e' : Int} (hk : -9223372036854775808 ≤ k ∧ k ≤ 9223372036854775807) (w : World)
    (G : ∀ W, Calls Tryz.prog 70 #[.agg #[.string a1, .string a2], .int .i64 k] W fun e W' => e = .returned (.tuple #[.string s2, .string s3, .string tk, .bool true]) ∧ Below W.heap.size W W')
    (h0 : (s3.toList == [48]) = true ∧ s4 = s2 ∨ (s3.toList == [48]) = false ∧ ∀ W, Calls Tryz.prog 64 #[.string s2, .string ⟨#[49]⟩] W fun e W' => e = .returned (.tuple #[.string s4, .int .i64 0]) ∧ Below W.heap.size W W')
    (M : ∀ W, Calls Tryz.prog 39 #[.string s4, .string tk] W fun e W' => e = .returned (.tuple #[.agg #[.string n', .string d'], .int .i64 e']) ∧ Below W.heap.size W W') :
    Calls Tryz.prog 38 #[.agg #[.string a1, .string a2], .int .i64 k] w fun e W' => e = .returned (.tuple #[.agg #[.string n', .string d'], .int .i64 e']) ∧ Below w.heap.size w W' := by
  have KG := Lib.hid G
  have KM := Lib.hid M
  have H0 := Lib.hid (RpAt.start w a1 a2 23)
  obtain ⟨k1, k2⟩ := hk
  clear G M
  rcases h0 with ⟨h3, rfl⟩ | ⟨h3, A⟩
  · go_enter Tryz.func38, Tryz.ntmps38
    go_wp2_with (first
      | (go_at_call 70; with_reducible refine (KG.out _).mono ?_; rintro e w1 ⟨rfl, hb⟩; have H1 := Lib.hid (H0.out.below hb); clear hb)
      | (go_at_call 39; with_reducible refine (KM.out _).mono ?_; rintro e w2 ⟨rfl, hb⟩; have h2 := H1.out.below hb; obtain ⟨_, _, _, q1, q2, q3, q4, _⟩ := id h2; have H2 := Lib.hid h2; clear hb h2)
      | fail)
    obtain ⟨W5, hW5, p0, p1, hbl⟩ := H2.out.rs.fin n' d'
    rw [hW5]
    clear hW5 q1 q2 q3 q4
    refine bodyPost_ret (v := .tuple #[.agg #[.string n', .string d'], .int .i64 e']) ?_ rfl ⟨rfl, hbl⟩
    simp [results, Tryz.results38, go_sem, p0, p1, Result.andThen]
  · have KA := Lib.hid A
    clear A
    go_enter Tryz.func38, Tryz.ntmps38
    go_wp2_with (first
      | (go_at_call 70; with_reducible refine (KG.out _).mono ?_; rintro e w1 ⟨rfl, hb⟩; have H1 := Lib.hid (H0.out.below hb); clear hb)
      | (go_at_call 64; with_reducible refine (KA.out _).mono ?_; rintro e w2 ⟨rfl, hb⟩; have H2 := Lib.hid (H1.out.below hb); clear hb)
      | (go_at_call 39; with_reducible refine (KM.out _).mono ?_; rintro e w3 ⟨rfl, hb⟩; have h3 := H2.out.below hb; obtain ⟨_, _, _, q1, q2, q3, q4, _⟩ := id h3; have H3 := Lib.hid h3; clear hb h3)
      | fail)
    obtain ⟨W5, hW5, p0, p1, hbl⟩ := H3.out.rs.fin n' d'
    rw [hW5]
    clear hW5 q1 q2 q3 q4
    refine bodyPost_ret (v := .tuple #[.agg #[.string n', .string d'], .int .i64 e']) ?_ rfl ⟨rfl, hbl⟩
    simp [results, Tryz.results38, go_sem, p0, p1, Result.andThen]

theorem Down_f {a1 a2 : ByteArray} {k : Int} (z1 : Sz a1) (z2 : Sz a2) (k1 : -9223372036854775808 ≤ k) (k2 : k ≤ 9223372036854775807) (w : World) :
    Calls Tryz.prog 36 #[.agg #[.string a1, .string a2], .int .i64 k] w fun e W' => e = .returned (.tuple #[.agg #[.string (qN (gridS downR a1 a2 k)), .string (qD (gridS downR a1 a2 k))], .int .i64 (qE (gridS downR a1 a2 k))]) ∧ Below w.heap.size w W' := by
  by_cases hn : ratO a1 a2 = none ∨ k < 0 ∨ 30 < k
  · have e : gridS downR a1 a2 k = none := by
      unfold gridS
      rcases hn with h | h | h
      · rw [h]
      · cases ratO a1 a2 with
        | none => rfl
        | some a => exact if_neg (by omega)
      · cases ratO a1 a2 with
        | none => rfl
        | some a => exact if_neg (by omega)
    rw [e]
    exact Down_bad ⟨k1, k2⟩ w (grid_no z1 z2 ⟨k1, k2⟩ hn)
  · obtain ⟨a, ha⟩ : ∃ a, ratO a1 a2 = some a := Option.ne_none_iff_exists'.1 (fun h => hn (.inl h))
    have h0 : 0 ≤ k ∧ k ≤ 30 := ⟨by have := fun h => hn (.inr (.inl h)); omega, by have := fun h => hn (.inr (.inr h)); omega⟩
    obtain ⟨m, rfl⟩ : ∃ m : Nat, k = m := ⟨k.toNat, by omega⟩
    have e : gridS downR a1 a2 m = downR a m := by
      unfold gridS
      rw [ha]
      exact if_pos h0
    rw [e]
    unfold downR
    cases hs : small (a.num * 10 ^ m) with
    | false =>
      rw [if_neg (by simp)]
      exact Down_bad ⟨k1, k2⟩ w (grid_great ha (by omega) hs)
    | true =>
      rw [if_pos rfl]
      have sp := small_pow (k := m) (by omega)
      refine Down_good ⟨k1, k2⟩ w (grid_ok ha (by omega) hs) (fun W => ?_)
      have := Make_f (sz_str (small_div a.den hs)) (sz_str sp) W
      rw [makeS_some (num_str (small_div a.den hs)) (num_str sp)] at this
      exact this

theorem Up_f {a1 a2 : ByteArray} {k : Int} (z1 : Sz a1) (z2 : Sz a2) (k1 : -9223372036854775808 ≤ k) (k2 : k ≤ 9223372036854775807) (w : World) :
    Calls Tryz.prog 38 #[.agg #[.string a1, .string a2], .int .i64 k] w fun e W' => e = .returned (.tuple #[.agg #[.string (qN (gridS upR a1 a2 k)), .string (qD (gridS upR a1 a2 k))], .int .i64 (qE (gridS upR a1 a2 k))]) ∧ Below w.heap.size w W' := by
  by_cases hn : ratO a1 a2 = none ∨ k < 0 ∨ 30 < k
  · have e : gridS upR a1 a2 k = none := by
      unfold gridS
      rcases hn with h | h | h
      · rw [h]
      · cases ratO a1 a2 with
        | none => rfl
        | some a => exact if_neg (by omega)
      · cases ratO a1 a2 with
        | none => rfl
        | some a => exact if_neg (by omega)
    rw [e]
    exact Up_bad ⟨k1, k2⟩ w (grid_no z1 z2 ⟨k1, k2⟩ hn)
  · obtain ⟨a, ha⟩ : ∃ a, ratO a1 a2 = some a := Option.ne_none_iff_exists'.1 (fun h => hn (.inl h))
    have h0 : 0 ≤ k ∧ k ≤ 30 := ⟨by have := fun h => hn (.inr (.inl h)); omega, by have := fun h => hn (.inr (.inr h)); omega⟩
    obtain ⟨m, rfl⟩ : ∃ m : Nat, k = m := ⟨k.toNat, by omega⟩
    have e : gridS upR a1 a2 m = upR a m := by
      unfold gridS
      rw [ha]
      exact if_pos h0
    rw [e]
    unfold upR
    cases hs : small (a.num * 10 ^ m) with
    | false =>
      rw [if_neg (by simp)]
      exact Up_bad ⟨k1, k2⟩ w (grid_great ha (by omega) hs)
    | true =>
      rw [if_pos rfl]
      have sp := small_pow (k := m) (by omega)
      have hd := rat_dpos a
      by_cases hr : a.num * 10 ^ m % a.den = 0
      · rw [if_pos hr]
        refine Up_good (s4 := str (a.num * 10 ^ m / a.den)) ⟨k1, k2⟩ w (grid_ok ha (by omega) hs) (.inl ⟨by rw [hr, zero_eq]; rfl, rfl⟩) (fun W => ?_)
        have := Make_f (sz_str (small_div a.den hs)) (sz_str sp) W
        rw [makeS_some (num_str (small_div a.den hs)) (num_str sp)] at this
        exact this
      · rw [if_neg hr]
        have hu := up_small hd hs hr
        refine Up_good (s4 := str (a.num * 10 ^ m / a.den + 1)) ⟨k1, k2⟩ w (grid_ok ha (by omega) hs) (.inr ⟨by rw [zero_eq]; exact decide_eq_false hr, fun W => ?_⟩) (fun W => ?_)
        · have := rAdd_all (w := W) (sz_str (small_div a.den hs)) sz_one W (Below.refl _ _)
          rw [show addO (str (a.num * 10 ^ m / a.den)) ⟨#[49]⟩ = some (a.num * 10 ^ m / a.den + 1) by unfold addO; rw [num_str (small_div a.den hs), num_one], opS_small hu, opN_small hu] at this
          exact this
        · have := Make_f (sz_str hu) (sz_str sp) W
          rw [makeS_some (num_str hu) (num_str sp)] at this
          exact this

set_option maxRecDepth 100000 in
set_option maxHeartbeats 2000000 in
theorem Print_f {n d : ByteArray} (zn : Sz n) (zd : Sz d) (w : World) :
    Calls Tryz.prog 16 #[.agg #[.string n, .string d]] w fun e W' => e = .returned (.string (printS n d)) ∧ Below w.heap.size w W' := by
  have H0 := Lib.hid (RtAt.start (Below.refl _ w) n d 23)
  have v := fun W => Valid_f zn zd W
  unfold printS
  cases hr : ratO n d with
  | none =>
    rw [show vR n d = false by unfold vR; rw [hr]; rfl] at v
    have V := Lib.hid v
    clear v hr zn zd
    go_enter Tryz.func16, Tryz.ntmps16
    go_wp2_with (first
      | (go_at_call 40; with_reducible refine (V.out _).mono ?_; rintro e w1 ⟨rfl, hb⟩; have H1 := Lib.hid (H0.out.below hb); clear hb)
      | fail)
    go_ret
    exact ⟨rfl, H1.out.bw⟩
  | some r =>
    rw [vR_true hr] at v
    have V := Lib.hid v
    obtain ⟨l1, l2⟩ := ratO_len hr
    clear v hr zn zd
    show Calls _ _ _ _ fun e W' => e = .returned (.string (if d.data.toList = [49] then n else n ++ ⟨#[47]⟩ ++ d)) ∧ _
    by_cases hd : d.data.toList = [49]
    · rw [if_pos hd]
      rw [← Lib.toList_data] at hd
      have hd2 : (d.toList == [49]) = true := by simp [hd]
      clear hd
      go_enter Tryz.func16, Tryz.ntmps16
      go_wp2_with (first
        | (go_at_call 40; with_reducible refine (V.out _).mono ?_; rintro e w1 ⟨rfl, hb⟩; have h1 := H0.out.below hb; have c0 := h1.c0; have c1 := h1.c1; have H1 := Lib.hid h1; clear hb h1)
        | fail)
      go_ret
      exact ⟨rfl, H1.out.bw⟩
    · rw [if_neg hd]
      rw [← Lib.toList_data] at hd
      have hd2 : (d.toList == [49]) = false := by simpa using hd
      have hsz : (n ++ (⟨#[47]⟩ : ByteArray)).size = n.size + 1 := by rw [ba_size, ba_append, List.length_append, ← ba_size]; rfl
      clear hd
      go_enter Tryz.func16, Tryz.ntmps16
      go_wp2_with (first
        | (go_at_call 40; with_reducible refine (V.out _).mono ?_; rintro e w1 ⟨rfl, hb⟩; have h1 := H0.out.below hb; have c0 := h1.c0; have c1 := h1.c1; have H1 := Lib.hid h1; clear hb h1)
        | fail)
      go_ret
      exact ⟨rfl, H1.out.bw⟩
end Go.Proofs.YtkekafamfoifmaaGreatDoor

