/-
  The reference of package rational: Valid, Make, Of.
  The reference of package rational: Make, Of.
-/
import Derived.Test.YtgngepbemgbbeaaGreatDoorZAll
import Derived.Test.YtgngepbemgbbeaaGreatDoorZRat
namespace Go.Proofs.YtgngepbemgbbeaaGreatDoor
open Go.RowKit Go.Shelf
attribute [local go_sem] Oper.semAt_some

set_option maxRecDepth 100000 in
set_option maxHeartbeats 1000000 in
theorem Valid_f {n d : ByteArray} (zn : Sz n) (zd : Sz d) (w : World) :
    Calls Tryz.prog 74 #[.agg #[.string n, .string d]] w fun e W' => e = .returned (.bool (vR n d)) ∧ Below w.heap.size w W' := by
  have v1 := fun W => rValid_all (w := W) zn W (Below.refl _ _)
  have v2 := fun W => rValid_all (w := W) zd W (Below.refl _ _)
  have v3 := fun W => rCompare_all (w := W) zd sz_zero W (Below.refl _ _)
  have v4 := fun W => rGcd_all (w := W) zn zd W (Below.refl _ _)
  rw [← numOf_valid] at v1 v2
  have HS := Lib.hid (RtAt.start (Below.refl _ w) n d 47)
  by_cases hn : numOf n = none ∨ numOf d = none
  · have e : vR n d = false := by
      unfold vR ratO
      rcases hn with h | h
      · rw [h]
        rfl
      · rw [h]
        cases numOf n <;> rfl
    rw [e]
    have hb : ((numOf n).isSome = false) ∨ ((numOf n).isSome = true ∧ (numOf d).isSome = false) := by
      rcases hn with h | h
      · rw [h]; exact .inl rfl
      · cases h2 : numOf n with
        | none => exact .inl rfl
        | some p => rw [h]; exact .inr ⟨rfl, rfl⟩
    clear e hn v3 v4
    generalize (numOf n).isSome = b1 at v1 hb
    generalize (numOf d).isSome = b2 at v2 hb
    have V1 := Lib.hid v1
    have V2 := Lib.hid v2
    clear v1 v2
    rcases hb with rfl | ⟨rfl, rfl⟩
    all_goals
      go_enter Tryz.func74, Tryz.ntmps74
      go_wp2_with (first
        | (go_at_call 105; with_reducible refine (V1.out _).mono ?_; rintro e w1 ⟨rfl, hb1⟩; have h1 := HS.out.below hb1; have c1 := h1.c0; have d1 := h1.c1; have H1 := Lib.hid h1; clear h1 hb1)
        | (go_at_call 105; with_reducible refine (V2.out _).mono ?_; rintro e w2 ⟨rfl, hb2⟩; have h2 := H1.out.below hb2; have H2 := Lib.hid h2; clear h2 hb2)
        | fail)
      go_ret
      exact ⟨rfl, H2.out.bw⟩
  · obtain ⟨p, h1⟩ : ∃ p, numOf n = some p := Option.ne_none_iff_exists'.1 (fun h => hn (.inl h))
    obtain ⟨q, h2⟩ : ∃ q, numOf d = some q := Option.ne_none_iff_exists'.1 (fun h => hn (.inr h))
    clear hn
    rw [h1] at v1
    rw [h2] at v2
    rw [cmp_zero h2] at v3
    have V1 := Lib.hid v1
    have V2 := Lib.hid v2
    clear v1 v2
    by_cases hq : 0 < q
    · rw [show cmpI q 0 = 1 by unfold cmpI; rw [if_neg (by omega), if_pos hq]] at v3
      obtain ⟨g1, g2⟩ := gcd_val h1 h2 (p := p) (q := q) (by omega)
      rw [g1, g2] at v4
      have V3 := Lib.hid v3
      have V4 := Lib.hid v4
      have key : vR n d = ((str ((Nat.gcd p.natAbs q.natAbs : Nat) : Int)).toList == [49]) := by
        unfold vR ratO
        rw [h1, h2, one_eq]
        show (if _ then _ else _ : Option Rat).isSome = _
        by_cases hg : Nat.gcd p.natAbs q.natAbs = 1
        · rw [if_pos ⟨hq, hg⟩, hg]; rfl
        · rw [if_neg (fun k => hg k.2)]
          exact (decide_eq_false (by omega)).symm
      clear v3 v4 g1 g2 h1 h2
      rw [key]
      clear key
      generalize str ((Nat.gcd p.natAbs q.natAbs : Nat) : Int) = g at V4 ⊢
      go_enter Tryz.func74, Tryz.ntmps74
      go_wp2_with (first
        | (go_at_call 105; with_reducible refine (V1.out _).mono ?_; rintro e w1 ⟨rfl, hb1⟩; have h1 := HS.out.below hb1; have c1 := h1.c0; have d1 := h1.c1; have H1 := Lib.hid h1; clear h1 hb1)
        | (go_at_call 105; with_reducible refine (V2.out _).mono ?_; rintro e w2 ⟨rfl, hb2⟩; have h2 := H1.out.below hb2; have c2 := h2.c0; have d2 := h2.c1; have H2 := Lib.hid h2; clear h2 hb2)
        | (go_at_call 106; with_reducible refine (V3.out _).mono ?_; rintro e w3 ⟨rfl, hb3⟩; have h3 := H2.out.below hb3; have c3 := h3.c0; have d3 := h3.c1; have H3 := Lib.hid h3; clear h3 hb3)
        | (go_at_call 107; with_reducible refine (V4.out _).mono ?_; rintro e w4 ⟨rfl, hb4⟩; have h4 := H3.out.below hb4; have H4 := Lib.hid h4; clear h4 hb4)
        | fail)
      go_ret
      exact ⟨rfl, H4.out.bw⟩
    · have hq0 : q ≤ 0 := by omega
      have key : vR n d = false := by
        unfold vR ratO
        rw [h1, h2]
        show (if _ then _ else _ : Option Rat).isSome = _
        rw [if_neg (fun k => hq k.1)]
        rfl
      rw [key]
      have hc : cmpI q 0 ≤ 0 := by unfold cmpI; rw [if_neg (show ¬ 0 < q from hq)]; split <;> omega
      clear key hq hq0 h1 h2 v4
      generalize cmpI q 0 = c at v3 hc
      have V3 := Lib.hid v3
      clear v3
      go_enter Tryz.func74, Tryz.ntmps74
      go_wp2_with (first
        | (go_at_call 105; with_reducible refine (V1.out _).mono ?_; rintro e w1 ⟨rfl, hb1⟩; have h1 := HS.out.below hb1; have c1 := h1.c0; have d1 := h1.c1; have H1 := Lib.hid h1; clear h1 hb1)
        | (go_at_call 105; with_reducible refine (V2.out _).mono ?_; rintro e w2 ⟨rfl, hb2⟩; have h2 := H1.out.below hb2; have c2 := h2.c0; have d2 := h2.c1; have H2 := Lib.hid h2; clear h2 hb2)
        | (go_at_call 106; with_reducible refine (V3.out _).mono ?_; rintro e w3 ⟨rfl, hb3⟩; have h3 := H2.out.below hb3; have H3 := Lib.hid h3; clear h3 hb3)
        | fail)
      go_ret
      exact ⟨rfl, H3.out.bw⟩
end Go.Proofs.YtgngepbemgbbeaaGreatDoor

namespace Go.Proofs.YtgngepbemgbbeaaGreatDoor
open Go.RowKit Go.Shelf
attribute [local go_sem] Oper.semAt_some

set_option maxRecDepth 100000 in
set_option maxHeartbeats 2000000 in
theorem Make_f_bad {x y : ByteArray} (zx : Sz x) (zy : Sz y) (w : World) (h : numOf x = none ∨ numOf y = none ∨ y = ⟨#[48]⟩) :
    Calls Tryz.prog 112 #[.string x, .string y] w fun e W' => e = .returned (.tuple #[.agg #[.string ⟨#[]⟩, .string ⟨#[]⟩], .int .i64 40]) ∧ Below w.heap.size w W' := by
  have v1 := fun W => rValid_all (w := W) zx W (Below.refl _ _)
  have v2 := fun W => rValid_all (w := W) zy W (Below.refl _ _)
  rw [← numOf_valid] at v1 v2
  have hb : ((numOf x).isSome = false) ∨ ((numOf x).isSome = true ∧ (numOf y).isSome = false) ∨ ((numOf x).isSome = true ∧ (numOf y).isSome = true ∧ (y.toList == [48]) = true) := by
    cases h1 : numOf x with
    | none => exact .inl rfl
    | some p =>
      cases h2 : numOf y with
      | none => exact .inr (.inl ⟨rfl, rfl⟩)
      | some q =>
        rw [h1, h2] at h
        rcases h with h | h | h
        · cases h
        · cases h
        · rw [h]; exact .inr (.inr ⟨rfl, rfl, by rw [Lib.toList_data]; rfl⟩)
  generalize (numOf x).isSome = b1 at v1 hb
  generalize (numOf y).isSome = b2 at v2 hb
  have V1 := Lib.hid v1
  have V2 := Lib.hid v2
  clear v1 v2 h
  have H0 := Lib.hid (RsAt.start (Below.refl _ w) 47)
  rcases hb with rfl | ⟨rfl, rfl⟩ | ⟨rfl, rfl, hy⟩
  all_goals
    go_enter Tryz.func112, Tryz.ntmps112
    go_wp2_with (first
      | (go_at_call 105; with_reducible refine (V1.out _).mono ?_; rintro e w1 ⟨rfl, hb⟩; have H1 := Lib.hid (H0.out.below hb); clear hb)
      | (go_at_call 105; with_reducible refine (V2.out _).mono ?_; rintro e w2 ⟨rfl, hb⟩; have h2 := H1.out.below hb; obtain ⟨_, q1, q2, q3, q4, _, _⟩ := id h2; have H2 := Lib.hid h2; clear hb h2)
      | fail)
    obtain ⟨W5, hW5, p0, p1, hbl⟩ := H2.out.fin ⟨#[]⟩ ⟨#[]⟩
    rw [hW5]
    clear hW5 q1 q2 q3 q4
    refine bodyPost_ret (v := .tuple #[.agg #[.string ⟨#[]⟩, .string ⟨#[]⟩], .int .i64 40]) ?_ rfl ⟨rfl, hbl⟩
    simp [results, Tryz.results112, go_sem, p0, p1, Result.andThen]

set_option maxRecDepth 100000 in
set_option maxHeartbeats 4000000 in
theorem Make_f_pos {x y : ByteArray} {p q : Int} (zx : Sz x) (zy : Sz y) (w : World) (h1 : numOf x = some p) (h2 : numOf y = some q) (hq : 0 < q) :
    Calls Tryz.prog 112 #[.string x, .string y] w fun e W' => e = .returned (.tuple #[.agg #[.string (str (p / ((Nat.gcd p.natAbs q.natAbs : Nat) : Int))), .string (str (q / ((Nat.gcd p.natAbs q.natAbs : Nat) : Int)))], .int .i64 0]) ∧ Below w.heap.size w W' := by
  obtain ⟨ex, hp⟩ := numOf_some h1
  obtain ⟨ey, hqs⟩ := numOf_some h2
  have hy : (y.toList == [48]) = false := by
    rw [ey, zero_eq]
    exact decide_eq_false (by omega)
  have v1 := fun W => rValid_all (w := W) zx W (Below.refl _ _)
  have v2 := fun W => rValid_all (w := W) zy W (Below.refl _ _)
  rw [← numOf_valid, h1] at v1
  rw [← numOf_valid, h2] at v2
  have hg := gcd_small (p := p) hqs (by omega)
  have hg0 : 0 < Nat.gcd p.natAbs q.natAbs := gcd_pos (by omega)
  have eg : gcdO x y = some ((Nat.gcd p.natAbs q.natAbs : Nat) : Int) := by unfold gcdO; rw [h1, h2]
  generalize Nat.gcd p.natAbs q.natAbs = g at eg hg hg0 ⊢
  have ng : numOf (str (g : Int)) = some (g : Int) := by rw [numOf_str, if_pos hg]
  have zg : Sz (str (g : Int)) := by rw [← opS_small hg]; exact opS_sz _
  have ed1 : divO x (str (g : Int)) = some (p / g) := by unfold divO; rw [h1, ng]; exact if_neg (by omega)
  have ed2 : divO y (str (g : Int)) = some (q / g) := by unfold divO; rw [h2, ng]; exact if_neg (by omega)
  have kc := Lib.hid (fun W => by have := rCompare_all (w := W) zy sz_zero W (Below.refl _ _); rw [cmp_zero h2, show cmpI q 0 = 1 by unfold cmpI; rw [if_neg (by omega), if_pos hq]] at this; exact this)
  have kg := Lib.hid (fun W => by have := rGcd_all (w := W) zx zy W (Below.refl _ _); rw [eg, opS_small hg, opN_small hg] at this; exact this)
  have k1 := Lib.hid (fun W => by have := rDiv_all (w := W) zx zg W (Below.refl _ _); rw [ed1, opS_small (small_div g hp), opN_small (small_div g hp)] at this; exact this)
  have k2 := Lib.hid (fun W => by have := rDiv_all (w := W) zy zg W (Below.refl _ _); rw [ed2, opS_small (small_div g hqs), opN_small (small_div g hqs)] at this; exact this)
  generalize opS (modO x (str (g : Int))) = r1 at k1
  generalize opS (modO y (str (g : Int))) = r2 at k2
  generalize str (g : Int) = sg at kg k1 k2
  generalize str (p / (g : Int)) = s1 at k1 ⊢
  generalize str (q / (g : Int)) = s2 at k2 ⊢
  have V1 := Lib.hid v1
  have V2 := Lib.hid v2
  clear v1 v2 ed1 ed2 ng zg eg hg hg0 ex ey hp hqs h1 h2 hq zx zy
  have H0 := Lib.hid (RsAt.start (Below.refl _ w) 47)
  go_enter Tryz.func112, Tryz.ntmps112
  go_wp2_with (first
    | (go_at_call 105; with_reducible refine (V1.out _).mono ?_; rintro e w1 ⟨rfl, hb⟩; have H1 := Lib.hid (H0.out.below hb); clear hb)
    | (go_at_call 105; with_reducible refine (V2.out _).mono ?_; rintro e w2 ⟨rfl, hb⟩; have H2 := Lib.hid (H1.out.below hb); clear hb)
    | (go_at_call 106; with_reducible refine (kc.out _).mono ?_; rintro e w3 ⟨rfl, hb⟩; have H3 := Lib.hid (H2.out.below hb); clear hb)
    | (go_at_call 107; with_reducible refine (kg.out _).mono ?_; rintro e w4 ⟨rfl, hb⟩; have H4 := Lib.hid (H3.out.below hb); clear hb)
    | (go_at_call 143; with_reducible refine (k1.out _).mono ?_; rintro e w5 ⟨rfl, hb⟩; have H5 := Lib.hid (H4.out.below hb); clear hb)
    | (go_at_call 143; with_reducible refine (k2.out _).mono ?_; rintro e w6 ⟨rfl, hb⟩; have h6 := H5.out.below hb; obtain ⟨_, q1, q2, q3, q4, _, _⟩ := id h6; have H6 := Lib.hid h6; clear hb h6)
    | fail)
  obtain ⟨W5, hW5, p0, p1, hbl⟩ := H6.out.fin s1 s2
  rw [hW5]
  clear hW5 q1 q2 q3 q4
  refine bodyPost_ret (v := .tuple #[.agg #[.string s1, .string s2], .int .i64 0]) ?_ rfl ⟨rfl, hbl⟩
  simp [results, Tryz.results112, go_sem, p0, p1, Result.andThen]

set_option maxRecDepth 100000 in
set_option maxHeartbeats 4000000 in
theorem Make_f_neg {x y : ByteArray} {p q : Int} (zx : Sz x) (zy : Sz y) (w : World) (h1 : numOf x = some p) (h2 : numOf y = some q) (hq : q < 0) :
    Calls Tryz.prog 112 #[.string x, .string y] w fun e W' => e = .returned (.tuple #[.agg #[.string (str (-p / ((Nat.gcd (-p).natAbs (-q).natAbs : Nat) : Int))), .string (str (-q / ((Nat.gcd (-p).natAbs (-q).natAbs : Nat) : Int)))], .int .i64 0]) ∧ Below w.heap.size w W' := by
  obtain ⟨ex, hp⟩ := numOf_some h1
  obtain ⟨ey, hqs⟩ := numOf_some h2
  have hy : (y.toList == [48]) = false := by
    rw [ey, zero_eq]
    exact decide_eq_false (by omega)
  have v1 := fun W => rValid_all (w := W) zx W (Below.refl _ _)
  have v2 := fun W => rValid_all (w := W) zy W (Below.refl _ _)
  rw [← numOf_valid, h1] at v1
  rw [← numOf_valid, h2] at v2
  have e01 : subO ⟨#[48]⟩ x = some (-p) := by unfold subO; rw [num_zero, h1]; show some (0 - p) = _; rw [Int.zero_sub]
  have e02 : subO ⟨#[48]⟩ y = some (-q) := by unfold subO; rw [num_zero, h2]; show some (0 - q) = _; rw [Int.zero_sub]
  have hp' := small_neg hp
  have hqs' := small_neg hqs
  have m1 : numOf (str (-p)) = some (-p) := by rw [numOf_str, if_pos hp']
  have m2 : numOf (str (-q)) = some (-q) := by rw [numOf_str, if_pos hqs']
  have zx' : Sz (str (-p)) := by rw [← opS_small hp']; exact opS_sz _
  have zy' : Sz (str (-q)) := by rw [← opS_small hqs']; exact opS_sz _
  have hg := gcd_small (p := -p) (small_neg hqs) (by omega)
  have hg0 : 0 < Nat.gcd (-p).natAbs (-q).natAbs := gcd_pos (by omega)
  have eg : gcdO (str (-p)) (str (-q)) = some ((Nat.gcd (-p).natAbs (-q).natAbs : Nat) : Int) := by unfold gcdO; rw [m1, m2]
  generalize Nat.gcd (-p).natAbs (-q).natAbs = g at eg hg hg0 ⊢
  have ng : numOf (str (g : Int)) = some (g : Int) := by rw [numOf_str, if_pos hg]
  have zg : Sz (str (g : Int)) := by rw [← opS_small hg]; exact opS_sz _
  have ed1 : divO (str (-p)) (str (g : Int)) = some (-p / g) := by unfold divO; rw [m1, ng]; exact if_neg (by omega)
  have ed2 : divO (str (-q)) (str (g : Int)) = some (-q / g) := by unfold divO; rw [m2, ng]; exact if_neg (by omega)
  have kc := Lib.hid (fun W => by have := rCompare_all (w := W) zy sz_zero W (Below.refl _ _); rw [cmp_zero h2, show cmpI q 0 = -1 by unfold cmpI; rw [if_pos hq]] at this; exact this)
  have ks1 := Lib.hid (fun W => by have := rSub_all (w := W) sz_zero zx W (Below.refl _ _); rw [e01, opS_small hp', opN_small hp'] at this; exact this)
  have ks2 := Lib.hid (fun W => by have := rSub_all (w := W) sz_zero zy W (Below.refl _ _); rw [e02, opS_small hqs', opN_small hqs'] at this; exact this)
  have kg := Lib.hid (fun W => by have := rGcd_all (w := W) zx' zy' W (Below.refl _ _); rw [eg, opS_small hg, opN_small hg] at this; exact this)
  have k1 := Lib.hid (fun W => by have := rDiv_all (w := W) zx' zg W (Below.refl _ _); rw [ed1, opS_small (small_div g hp'), opN_small (small_div g hp')] at this; exact this)
  have k2 := Lib.hid (fun W => by have := rDiv_all (w := W) zy' zg W (Below.refl _ _); rw [ed2, opS_small (small_div g hqs'), opN_small (small_div g hqs')] at this; exact this)
  generalize opS (modO (str (-p)) (str (g : Int))) = r1 at k1
  generalize opS (modO (str (-q)) (str (g : Int))) = r2 at k2
  generalize str (g : Int) = sg at kg k1 k2
  generalize str (-p / (g : Int)) = s1 at k1 ⊢
  generalize str (-q / (g : Int)) = s2 at k2 ⊢
  generalize str (-p) = x' at ks1 kg k1
  generalize str (-q) = y' at ks2 kg k2
  have V1 := Lib.hid v1
  have V2 := Lib.hid v2
  clear v1 v2 ed1 ed2 ng zg eg hg hg0 ex ey hp hqs h1 h2 hq zx zy e01 e02 hp' hqs' m1 m2 zx' zy'
  have H0 := Lib.hid (RsAt.start (Below.refl _ w) 47)
  go_enter Tryz.func112, Tryz.ntmps112
  go_wp2_with (first
    | (go_at_call 105; with_reducible refine (V1.out _).mono ?_; rintro e w1 ⟨rfl, hb⟩; have H1 := Lib.hid (H0.out.below hb); clear hb)
    | (go_at_call 105; with_reducible refine (V2.out _).mono ?_; rintro e w2 ⟨rfl, hb⟩; have H2 := Lib.hid (H1.out.below hb); clear hb)
    | (go_at_call 106; with_reducible refine (kc.out _).mono ?_; rintro e w3 ⟨rfl, hb⟩; have H3 := Lib.hid (H2.out.below hb); clear hb)
    | (go_at_call 147; with_reducible refine (ks1.out _).mono ?_; rintro e w4 ⟨rfl, hb⟩; have H4 := Lib.hid (H3.out.below hb); clear hb)
    | (go_at_call 147; with_reducible refine (ks2.out _).mono ?_; rintro e w5 ⟨rfl, hb⟩; have H5 := Lib.hid (H4.out.below hb); clear hb)
    | (go_at_call 107; with_reducible refine (kg.out _).mono ?_; rintro e w6 ⟨rfl, hb⟩; have H6 := Lib.hid (H5.out.below hb); clear hb)
    | (go_at_call 143; with_reducible refine (k1.out _).mono ?_; rintro e w7 ⟨rfl, hb⟩; have H7 := Lib.hid (H6.out.below hb); clear hb)
    | (go_at_call 143; with_reducible refine (k2.out _).mono ?_; rintro e w8 ⟨rfl, hb⟩; have h8 := H7.out.below hb; obtain ⟨_, q1, q2, q3, q4, _, _⟩ := id h8; have H8 := Lib.hid h8; clear hb h8)
    | fail)
  obtain ⟨W5, hW5, p0, p1, hbl⟩ := H8.out.fin s1 s2
  rw [hW5]
  clear hW5 q1 q2 q3 q4
  refine bodyPost_ret (v := .tuple #[.agg #[.string s1, .string s2], .int .i64 0]) ?_ rfl ⟨rfl, hbl⟩
  simp [results, Tryz.results112, go_sem, p0, p1, Result.andThen]

theorem Make_f {x y : ByteArray} (zx : Sz x) (zy : Sz y) (w : World) :
    Calls Tryz.prog 112 #[.string x, .string y] w fun e W' => e = .returned (.tuple #[.agg #[.string (qN (makeS x y)), .string (qD (makeS x y))], .int .i64 (qE (makeS x y))]) ∧ Below w.heap.size w W' := by
  cases h1 : numOf x with
  | none => rw [makeS_none (.inl h1)]; exact Make_f_bad zx zy w (.inl h1)
  | some p =>
    cases h2 : numOf y with
    | none => rw [makeS_none (.inr h2)]; exact Make_f_bad zx zy w (.inr (.inl h2))
    | some q =>
      rw [makeS_some h1 h2]
      unfold makeR
      rcases Int.lt_trichotomy q 0 with hq | hq | hq
      · rw [if_neg (by omega), qN_some, qD_some, qE_some, num_neg hq, den_neg hq]
        exact Make_f_neg zx zy w h1 h2 hq
      · rw [if_pos hq]
        refine Make_f_bad zx zy w (.inr (.inr ?_))
        rw [(numOf_some h2).1, hq]
        rfl
      · rw [if_neg (by omega), qN_some, qD_some, qE_some, num_pos hq, den_pos hq]
        exact Make_f_pos zx zy w h1 h2 hq
set_option maxRecDepth 100000 in
set_option maxHeartbeats 2000000 in
theorem Of_f {n d : Int} (n1 : -9223372036854775808 ≤ n) (n2 : n ≤ 9223372036854775807) (d1 : -9223372036854775808 ≤ d) (d2 : d ≤ 9223372036854775807) (w : World) :
    Calls Tryz.prog 78 #[.int .i64 n, .int .i64 d] w fun e W' => e = .returned (.tuple #[.agg #[.string (qN (makeR n d)), .string (qD (makeR n d))], .int .i64 (qE (makeR n d))]) ∧ Below w.heap.size w W' := by
  have H0 := Lib.hid (RsAt.start (Below.refl _ w) 47)
  have sn := small_int n1 n2
  have sd := small_int d1 d2
  have zn : Sz (str n) := by rw [← opS_small sn]; exact opS_sz _
  have zd : Sz (str d) := by rw [← opS_small sd]; exact opS_sz _
  have em : makeS (str n) (str d) = makeR n d := makeS_some (by rw [numOf_str, if_pos sn]) (by rw [numOf_str, if_pos sd])
  have k1 := Lib.hid (fun W => rFromInt_s (w := W) n1 n2 rfl W (Below.refl _ _))
  have k2 := Lib.hid (fun W => rFromInt_s (w := W) d1 d2 rfl W (Below.refl _ _))
  have km := Lib.hid (fun W => by have := Make_f zn zd W; rw [em] at this; exact this)
  generalize makeR n d = o at km ⊢
  generalize str n = sn' at k1 km
  generalize str d = sd' at k2 km
  clear sn sd zn zd em n1 n2 d1 d2
  go_enter Tryz.func78, Tryz.ntmps78
  go_wp2_with (first
    | (go_at_call 113; with_reducible refine (k1.out _).mono ?_; rintro e w1 ⟨rfl, hb⟩; have H1 := Lib.hid (H0.out.below hb); clear hb)
    | (go_at_call 113; with_reducible refine (k2.out _).mono ?_; rintro e w2 ⟨rfl, hb⟩; have H2 := Lib.hid (H1.out.below hb); clear hb)
    | (go_at_call 112; with_reducible refine (km.out _).mono ?_; rintro e w3 ⟨rfl, hb⟩; have h3 := H2.out.below hb; obtain ⟨_, q1, q2, q3, q4, _, _⟩ := id h3; have H3 := Lib.hid h3; clear hb h3)
    | fail)
  obtain ⟨W5, hW5, p0, p1, hbl⟩ := H3.out.fin (qN o) (qD o)
  rw [hW5]
  clear hW5 q1 q2 q3 q4
  refine bodyPost_ret (v := .tuple #[.agg #[.string (qN o), .string (qD o)], .int .i64 (qE o)]) ?_ rfl ⟨rfl, hbl⟩
  simp [results, Tryz.results78, go_sem, p0, p1, Result.andThen]
end Go.Proofs.YtgngepbemgbbeaaGreatDoor

