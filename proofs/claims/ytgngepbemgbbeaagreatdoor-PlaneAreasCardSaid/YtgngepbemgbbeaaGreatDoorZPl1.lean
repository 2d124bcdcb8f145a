/-
  Package plane: valid places, turns, sides.
  Package plane: sides and crossings.
  Package plane: the order of places: by Y, then by X.
  The reference's SamePlaces.
-/
import Derived.IntWalk
import Derived.Deep.RegionHeld3
import Derived.Deep.CutBlock
import Derived.Test.YtgngepbemgbbeaaGreatDoorZAr
import Derived.Test.YtgngepbemgbbeaaGreatDoorZNum
namespace Go.Proofs.YtgngepbemgbbeaaGreatDoor
open Go.RowKit Go.Shelf
attribute [local go_sem] Oper.semAt_some

theorem in_t {n lo hi : Int} (h1 : lo ≤ n) (h2 : n ≤ hi) (w : World) :
    Calls Tryz.prog 44 #[.int .i64 n, .int .i64 lo, .int .i64 hi] w fun e w' => e = .returned (.bool true) ∧ w = w' := by
  go_enter Tryz.func44, Tryz.ntmps44
  go_wp2
  go_ret
  exact ⟨rfl, rfl⟩
theorem in_f {n lo hi : Int} (h : n < lo ∨ hi < n) (w : World) :
    Calls Tryz.prog 44 #[.int .i64 n, .int .i64 lo, .int .i64 hi] w fun e w' => e = .returned (.bool false) ∧ w = w' := by
  by_cases h1 : lo ≤ n
  · have h2 : hi < n := by omega
    have h3 : decide (n ≤ hi) = false := decide_eq_false (by omega)
    clear h
    go_enter Tryz.func44, Tryz.ntmps44
    go_wp2
    go_ret
    exact ⟨rfl, rfl⟩
  · have h3 : decide (lo ≤ n) = false := decide_eq_false h1
    clear h
    go_enter Tryz.func44, Tryz.ntmps44
    go_wp2
    go_ret
    exact ⟨rfl, rfl⟩
set_option maxHeartbeats 1000000 in
theorem vPlace_s (p : Pl) (w : World) :
    Calls Tryz.prog 35 #[.agg #[.int .i64 p.x, .int .i64 p.y]] w fun e W' => e = .returned (.bool (vP p)) ∧ Below w.heap.size w W' := by
  obtain ⟨x, y⟩ := p
  by_cases hx : 0 ≤ x ∧ x ≤ 4095
  · have kx := Lib.hid (fun W => in_t hx.1 hx.2 W)
    by_cases hy : 0 ≤ y ∧ y ≤ 4095
    · have ky := Lib.hid (fun W => in_t hy.1 hy.2 W)
      rw [show vP ⟨x, y⟩ = true by simp [vP, hx.1, hx.2, hy.1, hy.2]]
      clear hx hy
      go_enter Tryz.func35, Tryz.ntmps35
      go_wp2_with (first
        | (go_at_call 44; (with_reducible refine (kx.out _).mono ?_); rintro e w' ⟨rfl, rfl⟩)
        | (go_at_call 44; (with_reducible refine (ky.out _).mono ?_); rintro e w' ⟨rfl, rfl⟩)
        | fail)
      go_ret
      exact ⟨rfl, (Below.refl _ _).alloc (Nat.le_refl _) _⟩
    · have ky := Lib.hid (fun W => in_f (n := y) (lo := 0) (hi := 4095) (by omega) W)
      rw [show vP ⟨x, y⟩ = false by simp [vP]; omega]
      clear hx hy
      go_enter Tryz.func35, Tryz.ntmps35
      go_wp2_with (first
        | (go_at_call 44; (with_reducible refine (kx.out _).mono ?_); rintro e w' ⟨rfl, rfl⟩)
        | (go_at_call 44; (with_reducible refine (ky.out _).mono ?_); rintro e w' ⟨rfl, rfl⟩)
        | fail)
      go_ret
      exact ⟨rfl, (Below.refl _ _).alloc (Nat.le_refl _) _⟩
  · have kx := Lib.hid (fun W => in_f (n := x) (lo := 0) (hi := 4095) (by omega) W)
    rw [show vP ⟨x, y⟩ = false by simp [vP]; omega]
    clear hx
    go_enter Tryz.func35, Tryz.ntmps35
    go_wp2_with (go_at_call 44; (with_reducible refine (kx.out _).mono ?_); rintro e w' ⟨rfl, rfl⟩)
    go_ret
    exact ⟨rfl, (Below.refl _ _).alloc (Nat.le_refl _) _⟩
theorem valid1_s (p : Pl) (w : World) :
    Calls Tryz.prog 109 #[.agg #[.int .i64 p.x, .int .i64 p.y]] w fun e W' => e = .returned (.bool (!vP p)) ∧ Below w.heap.size w W' := by
  have k := Lib.hid (fun W => vPlace_s p W)
  have s0 := Lib.hid ((Below.refl w.heap.size w).alloc (Nat.le_refl _) (.cells #[.int .i64 p.x, .int .i64 p.y] 26))
  go_enter Tryz.func109, Tryz.ntmps109
  go_wp2_with (go_at_call 35; (with_reducible refine (k.out _).mono ?_); rintro e w1 ⟨rfl, hb⟩)
  go_ret
  exact ⟨rfl, s0.out.trans (hb.mono (by simp))⟩
/-- Places in a row of their own. -/
structure PsAt (B : Nat) (ps : List Pl) (W : World) : Prop where
  row : ∀ (k : Nat) (p : Pl), ps[k]? = some p → W.cell? ⟨B, k * 2, none⟩ = some (.int .i64 p.x) ∧ W.cell? ⟨B, k * 2 + 1, none⟩ = some (.int .i64 p.y)
  sz : B < W.heap.size
theorem PsAt.below {B : Nat} {ps : List Pl} {W W' : World} (h : PsAt B ps W) (hb : Below W.heap.size W W') : PsAt B ps W' :=
  ⟨fun k p hp => ⟨(hb.cell (p := ⟨B, k * 2, none⟩) h.sz).trans (h.row k p hp).1, (hb.cell (p := ⟨B, k * 2 + 1, none⟩) h.sz).trans (h.row k p hp).2⟩, Nat.lt_of_lt_of_le h.sz hb.size⟩
def plC : List Pl → List Value
  | [] => []
  | p :: l => .int .i64 p.x :: .int .i64 p.y :: plC l
theorem plC_at : ∀ {ps : List Pl} {k : Nat} {p : Pl}, ps[k]? = some p → (plC ps)[k * 2]? = some (.int .i64 p.x) ∧ (plC ps)[k * 2 + 1]? = some (.int .i64 p.y)
  | [], k, p, h => by simp at h
  | q :: l, 0, p, h => by simp at h; subst h; exact ⟨rfl, rfl⟩
  | q :: l, k + 1, p, h => by
    have := plC_at (ps := l) (k := k) (p := p) (by simpa using h)
    rw [show (k + 1) * 2 = k * 2 + 2 by omega]
    exact this
theorem PsAt.of {B : Nat} {ps : List Pl} {W : World} (h : ArAt B (plC ps) W) : PsAt B ps W :=
  ⟨fun k _ hp => ⟨h.row (k * 2) _ (plC_at hp).1, h.row (k * 2 + 1) _ (plC_at hp).2⟩, h.sz⟩
set_option maxHeartbeats 1000000 in
theorem index_s {B cap : Nat} {ps : List Pl} (hn : ps.length ≤ 1000000) (w : World) (h : PsAt B ps w) :
    Calls Tryz.prog 153 #[.slice (some ⟨B, 0, none⟩) ps.length cap, .func (.func 109) #[] #[]] w fun e W' => (∃ i : Int, e = .returned (.int .i64 i) ∧ decide (0 ≤ i) = !(ps.all vP)) ∧ Below w.heap.size w W' := by
  obtain ⟨n, en⟩ : ∃ n, n = ps.length := ⟨_, rfl⟩
  rw [← en]
  rw [← en] at hn
  have HN := Lib.hid en
  have HP := Lib.hid h
  clear en h
  go_enter Tryz.func153, Tryz.ntmps153
  go_wp2
  go_loopw [8] (fun i wr => ∃ k : Nat, k ≤ n ∧ i = .int .i64 (k : Int) ∧ Below w.heap.size w wr ∧ (ps.take k).all vP = true) (fun i _ => n - (intOf i).toNat)
  case atStart => exact ⟨0, Nat.zero_le _, rfl, Below.refl _ _, rfl⟩
  case round =>
    obtain ⟨k, hk, rfl, hb, ha⟩ := hrel
    by_cases hlt : k < n
    · obtain ⟨p, hp⟩ : ∃ p, ps[k]? = some p := ⟨ps[k]'(by have := HN.out; omega), List.getElem?_eq_getElem _⟩
      obtain ⟨c0, c1⟩ := ((HP.out.below hb).row k p hp)
      have HB := Lib.hid hb
      have HA := Lib.hid ha
      have HE := Lib.hid (show (ps.take (k + 1)).all vP = ((ps.take k).all vP && vP p) by rw [List.take_add_one, hp]; simp)
      have K := Lib.hid (fun W => valid1_s p W)
      have HH := Lib.hid hp
      clear hb ha hp
      cases hv : vP p with
      | true =>
        rw [hv] at K HE
        go_wp2_with (go_at_call 109; (with_reducible refine (K.out _).mono ?_); rintro e w1 ⟨rfl, hb⟩; have H1 := Lib.hid (HB.out.trans (hb.mono HB.out.size)); clear hb)
        exact ⟨⟨k + 1, by omega, by go_num, H1.out, by rw [HE.out, HA.out]; rfl⟩, by simp only [intOf]; omega⟩
      | false =>
        rw [hv] at K
        have HF := Lib.hid hv
        clear hv
        go_wp2_with (go_at_call 109; (with_reducible refine (K.out _).mono ?_); rintro e w1 ⟨rfl, hb⟩; have H1 := Lib.hid (HB.out.trans (hb.mono HB.out.size)); clear hb)
        go_ret
        refine ⟨⟨_, rfl, ?_⟩, H1.out⟩
        rw [show ps.all vP = false by
          rw [Bool.eq_false_iff]
          intro hall
          have := List.all_eq_true.1 hall p (List.mem_of_getElem? HH.out)
          rw [HF.out] at this
          cases this]
        simp
    · obtain rfl : k = n := by omega
      have HA := Lib.hid ha
      have HB := Lib.hid hb
      clear ha hb
      go_wp2
      go_ret
      refine ⟨⟨_, rfl, ?_⟩, HB.out⟩
      have := HA.out
      rw [HN.out, List.take_length] at this
      rw [this]
      rfl
end Go.Proofs.YtgngepbemgbbeaaGreatDoor

namespace Go.Proofs.YtgngepbemgbbeaaGreatDoor
open Go.RowKit Go.Shelf
attribute [local go_sem] Oper.semAt_some

theorem contains_s {B cap n : Nat} {ps : List Pl} (hl : ps.length = n) (hn : n ≤ 1000000) (w : World) (h : PsAt B ps w) :
    Calls Tryz.prog 108 #[.slice (some ⟨B, 0, none⟩) n cap, .func (.func 109) #[] #[]] w fun e W' => e = .returned (.bool (!(ps.all vP))) ∧ Below w.heap.size w W' := by
  have K := Lib.hid (index_s (cap := cap) (by omega) w h)
  rw [hl] at K
  clear hl h
  go_enter Tryz.func108, Tryz.ntmps108
  go_wp2_with (go_at_call 153; (with_reducible refine (K.out).mono ?_); rintro e w1 ⟨⟨i, rfl, hi⟩, hb⟩; have HI := Lib.hid hi; clear hi)
  go_ret
  exact ⟨ret_bool HI.out, hb⟩
theorem valid_s {B cap n : Nat} {ps : List Pl} (hl : ps.length = n) (hn : n ≤ 1000000) (w : World) (h : PsAt B ps w) :
    Calls Tryz.prog 75 #[.slice (some ⟨B, 0, none⟩) n cap] w fun e W' => e = .returned (.bool (ps.all vP)) ∧ Below w.heap.size w W' := by
  have K := Lib.hid (contains_s (cap := cap) hl hn w h)
  clear hl h hn
  generalize ps.all vP = v at K ⊢
  go_enter Tryz.func75, Tryz.ntmps75
  go_wp2_with (go_at_call 108; (with_reducible refine (K.out).mono ?_); rintro e w1 ⟨rfl, hb⟩)
  go_ret
  exact ⟨ret_bool (by simp), hb⟩
theorem prod_bd {u v : Int} (hu : -4095 ≤ u ∧ u ≤ 4095) (hv : -4095 ≤ v ∧ v ≤ 4095) : -16769025 ≤ u * v ∧ u * v ≤ 16769025 := by
  have h : (u * v).natAbs ≤ 4095 * 4095 := by
    rw [Int.natAbs_mul]
    exact Nat.mul_le_mul (by omega) (by omega)
  omega
theorem vP_b {p : Pl} (h : vP p = true) : (0 ≤ p.x ∧ p.x ≤ 4095) ∧ (0 ≤ p.y ∧ p.y ≤ 4095) := by
  unfold vP at h
  simp only [Bool.and_eq_true, decide_eq_true_eq] at h
  omega
set_option maxHeartbeats 1000000 in
theorem turn_s {a b c : Pl} (ha : vP a = true) (hb : vP b = true) (hc : vP c = true) (w : World) :
    Calls Tryz.prog 55 #[.agg #[.int .i64 a.x, .int .i64 a.y], .agg #[.int .i64 b.x, .int .i64 b.y], .agg #[.int .i64 c.x, .int .i64 c.y]] w fun e W' => e = .returned (.int .i64 (turnP a b c)) ∧ Below w.heap.size w W' := by
  obtain ⟨⟨a1, a2⟩, a3, a4⟩ := vP_b ha
  obtain ⟨⟨b1, b2⟩, b3, b4⟩ := vP_b hb
  obtain ⟨⟨c1, c2⟩, c3, c4⟩ := vP_b hc
  clear ha hb hc
  unfold turnP
  obtain ⟨ax, ay⟩ := a
  obtain ⟨bx, by'⟩ := b
  obtain ⟨cx, cy⟩ := c
  simp only at *
  have p1 := prod_bd (u := bx - ax) (v := cy - ay) (by omega) (by omega)
  have p2 := prod_bd (u := by' - ay) (v := cx - ax) (by omega) (by omega)
  obtain ⟨p3, p4⟩ := p1
  obtain ⟨p5, p6⟩ := p2
  have w1 : IntKind.i64.wrap ((bx - ax) * (cy - ay)) = (bx - ax) * (cy - ay) := IntWalk.i64_in _ (by omega)
  have w2 : IntKind.i64.wrap ((by' - ay) * (cx - ax)) = (by' - ay) * (cx - ax) := IntWalk.i64_in _ (by omega)
  have w3 : IntKind.i64.wrap ((bx - ax) * (cy - ay) - (by' - ay) * (cx - ax)) = (bx - ax) * (cy - ay) - (by' - ay) * (cx - ax) := IntWalk.i64_in _ (by omega)
  go_enter Tryz.func55, Tryz.ntmps55
  go_wp2
  go_ret
  exact ⟨rfl, (((Below.refl _ _).alloc (Nat.le_refl _) _).alloc (by simp) _).alloc (by simp; omega) _⟩
theorem nan_s (x : Int) (w : World) : Calls Tryz.prog 114 #[.int .i64 x] w fun e w' => e = .returned (.bool false) ∧ w = w' := by
  go_enter Tryz.func114, Tryz.ntmps114
  go_wp2
  go_ret
  exact ⟨ret_bool (by simp), rfl⟩
theorem cmp_s (x y : Int) (w : World) : Calls Tryz.prog 79 #[.int .i64 x, .int .i64 y] w fun e w' => e = .returned (.int .i64 (cmpI x y)) ∧ w = w' := by
  unfold cmpI
  by_cases h1 : x < y
  · rw [if_pos h1]
    go_enter Tryz.func79, Tryz.ntmps79
    go_wp2_with (go_at_call 114; (with_reducible refine (nan_s _ _).mono ?_); rintro e w' ⟨rfl, rfl⟩)
    go_ret
    exact ⟨rfl, rfl⟩
  · rw [if_neg h1]
    by_cases h2 : y < x
    · rw [if_pos h2]
      go_enter Tryz.func79, Tryz.ntmps79
      go_wp2_with (go_at_call 114; (with_reducible refine (nan_s _ _).mono ?_); rintro e w' ⟨rfl, rfl⟩)
      go_ret
      exact ⟨rfl, rfl⟩
    · rw [if_neg h2]
      go_enter Tryz.func79, Tryz.ntmps79
      go_wp2_with (go_at_call 114; (with_reducible refine (nan_s _ _).mono ?_); rintro e w' ⟨rfl, rfl⟩)
      go_ret
      exact ⟨rfl, rfl⟩
theorem overlap_s (a b c d : Int) (w : World) : Calls Tryz.prog 46 #[.int .i64 a, .int .i64 b, .int .i64 c, .int .i64 d] w fun e w' => e = .returned (.bool (ovl a b c d)) ∧ w = w' := by
  unfold ovl
  rcases Int.lt_trichotomy a b with h1 | rfl | h1 <;> rcases Int.lt_trichotomy c d with h2 | rfl | h2
  all_goals
    go_enter Tryz.func46, Tryz.ntmps46
    go_wp2
  all_goals
    go_ret
    exact ⟨ret_bool (by first | exact (decide_eq_true (by omega)).symm | exact (decide_eq_false (by omega)).symm | exact decide_eq_decide.2 (by omega)), rfl⟩
set_option maxHeartbeats 2000000 in
set_option maxRecDepth 100000 in
theorem side_s (a b c : Pl) (w : World) :
    Calls Tryz.prog 31 #[.agg #[.int .i64 a.x, .int .i64 a.y], .agg #[.int .i64 b.x, .int .i64 b.y], .agg #[.int .i64 c.x, .int .i64 c.y]] w fun e W' => e = .returned (.int .i64 (sideP a b c)) ∧ Below w.heap.size w W' := by
  have H0 := Lib.hid (show AzAt ((w.heap.size + 1 + 1 + 1, [.int .i64 a.x, .int .i64 a.y, .int .i64 b.x, .int .i64 b.y, .int .i64 c.x, .int .i64 c.y]) :: [(w.heap.size + 1 + 1, [.int .i64 c.x, .int .i64 c.y]), (w.heap.size + 1, [.int .i64 b.x, .int .i64 b.y]), (w.heap.size, [.int .i64 a.x, .int .i64 a.y])]) w _ from by have hp := ((((AzAt.start w).push [.int .i64 a.x, .int .i64 a.y] 26).push [.int .i64 b.x, .int .i64 b.y] 26).push [.int .i64 c.x, .int .i64 c.y] 26).push [.int .i64 a.x, .int .i64 a.y, .int .i64 b.x, .int .i64 b.y, .int .i64 c.x, .int .i64 c.y] 26; simp only [World.size_alloc] at hp; exact hp)
  have K := Lib.hid (fun W (h : PsAt (w.heap.size + 1 + 1 + 1) [a, b, c] W) => valid_s (n := 3) (cap := 3) rfl (by decide) W h)
  have HS := Lib.hid (PsAt.of (ps := [a, b, c]) (H0.out.at (B := w.heap.size + 1 + 1 + 1) (l := [.int .i64 a.x, .int .i64 a.y, .int .i64 b.x, .int .i64 b.y, .int .i64 c.x, .int .i64 c.y]) (by simp)))
  cases hv : ([a, b, c].all vP) with
  | false =>
    rw [hv] at K
    rw [show sideP a b c = 0 by unfold sideP; rw [if_neg]; simp only [List.all_cons, List.all_nil, Bool.and_true] at hv; rw [Bool.and_assoc, hv]; decide]
    clear hv
    go_enter Tryz.func31, Tryz.ntmps31
    go_wp2_with (go_at_call 75; (with_reducible refine (K.out _ HS.out).mono ?_); rintro e w1 ⟨rfl, hb⟩; have H1 := Lib.hid (H0.out.below hb); clear hb)
    go_ret
    exact ⟨rfl, H1.out.bw⟩
  | true =>
    rw [hv] at K
    have hh : vP a = true ∧ vP b = true ∧ vP c = true := by simpa using hv
    rw [side_valid (by simp [hh])]
    have K2 := Lib.hid (fun W => turn_s hh.1 hh.2.1 hh.2.2 W)
    generalize turnP a b c = T at K2 ⊢
    have K3 := Lib.hid (fun W => cmp_s T 0 W)
    generalize cmpI T 0 = R at K3 ⊢
    clear hv hh
    go_enter Tryz.func31, Tryz.ntmps31
    go_wp2_with (first
      | (go_at_call 75; (with_reducible refine (K.out _ HS.out).mono ?_); rintro e w1 ⟨rfl, hb⟩; have hp := H0.out.below hb; have q0a := (hp.row (w.heap.size, [.int .i64 a.x, .int .i64 a.y]) (by simp)).row 0 _ rfl; have q1a := (hp.row (w.heap.size, [.int .i64 a.x, .int .i64 a.y]) (by simp)).row 1 _ rfl; have q0b := (hp.row (w.heap.size + 1, [.int .i64 b.x, .int .i64 b.y]) (by simp)).row 0 _ rfl; have q1b := (hp.row (w.heap.size + 1, [.int .i64 b.x, .int .i64 b.y]) (by simp)).row 1 _ rfl; have q0c := (hp.row (w.heap.size + 1 + 1, [.int .i64 c.x, .int .i64 c.y]) (by simp)).row 0 _ rfl; have q1c := (hp.row (w.heap.size + 1 + 1, [.int .i64 c.x, .int .i64 c.y]) (by simp)).row 1 _ rfl; have H1 := Lib.hid hp; clear hb hp)
      | (go_at_call 55; (with_reducible refine (K2.out _).mono ?_); rintro e w2 ⟨rfl, hb⟩; have H2 := Lib.hid (H1.out.below hb); clear hb)
      | (go_at_call 79; (with_reducible refine (K3.out _).mono ?_); rintro e w3 ⟨rfl, rfl⟩)
      | fail)
    go_ret
    exact ⟨rfl, H2.out.bw⟩
end Go.Proofs.YtgngepbemgbbeaaGreatDoor

namespace Go.Proofs.YtgngepbemgbbeaaGreatDoor
open Go.RowKit Go.Shelf
attribute [local go_sem] Oper.semAt_some

def orInt (x y : Int) : Int := if x = 0 then y else x
set_option maxHeartbeats 1000000 in
theorem or_s {B : Nat} {x y : Int} (w : World) (c0 : w.cell? ⟨B, 0, none⟩ = some (.int .i64 x)) (c1 : w.cell? ⟨B, 1, none⟩ = some (.int .i64 y)) :
    Calls Tryz.prog 89 #[.slice (some ⟨B, 0, none⟩) 2 2] w fun e w' => e = .returned (.int .i64 (orInt x y)) ∧ w = w' := by
  have C := Lib.hid (And.intro c0 c1)
  clear c0 c1
  go_enter Tryz.func89, Tryz.ntmps89
  go_wp2
  go_loop [8] (fun i => ∃ k : Nat, k ≤ 2 ∧ i = .int .i64 (k : Int) ∧ (1 ≤ k → x = 0) ∧ (2 ≤ k → y = 0)) (fun i => 2 - (intOf i).toNat)
  case atStart => exact ⟨0, by omega, rfl, by omega, by omega⟩
  case round =>
    obtain ⟨k, hk, rfl, h1, h2⟩ := hrel
    obtain rfl | rfl | rfl : k = 0 ∨ k = 1 ∨ k = 2 := by omega
    · have c0 := C.out.1
      clear h1 h2
      by_cases hx : x = 0
      · subst hx
        go_wp2
        go_round
        case rel => exact ⟨1, by omega, by go_num, by simp, fun h => by omega⟩
        case measure => simp [intOf]
      · have hx2 : (x == 0) = false := beq_eq_false_iff_ne.2 hx
        have HX := Lib.hid hx
        clear hx
        go_wp2
        go_ret
        exact ⟨ret_int (by unfold orInt; rw [if_neg HX.out]), rfl⟩
    · have c1 := C.out.2
      have HX := Lib.hid (h1 (by omega))
      clear h1 h2
      by_cases hy : y = 0
      · subst hy
        go_wp2
        go_round
        case rel => exact ⟨2, by omega, by go_num, fun _ => HX.out, by simp⟩
        case measure => simp [intOf]
      · have hy2 : (y == 0) = false := beq_eq_false_iff_ne.2 hy
        clear hy
        go_wp2
        go_ret
        exact ⟨ret_int (by unfold orInt; rw [if_pos HX.out]), rfl⟩
    · have HX := Lib.hid (h1 (by omega))
      have HY := Lib.hid (h2 (by omega))
      clear h1 h2
      go_wp2
      go_ret
      exact ⟨ret_int (by unfold orInt; rw [if_pos HX.out, HY.out]), rfl⟩
def ordP (a b : Pl) : Int := orInt (cmpI a.y b.y) (cmpI a.x b.x)
set_option maxHeartbeats 2000000 in
theorem order_s (a b : Pl) (w : World) :
    Calls Tryz.prog 52 #[.agg #[.int .i64 a.x, .int .i64 a.y], .agg #[.int .i64 b.x, .int .i64 b.y]] w fun e W' => e = .returned (.int .i64 (ordP a b)) ∧ Below w.heap.size w W' := by
  have KY := Lib.hid (fun W => cmp_s a.y b.y W)
  have KX := Lib.hid (fun W => cmp_s a.x b.x W)
  have KO := Lib.hid (fun (W : World) (h : ArAt (w.heap.size + 1 + 1) [.int .i64 (cmpI a.y b.y), .int .i64 (cmpI a.x b.x)] W) => or_s W (h.row 0 _ rfl) (h.row 1 _ rfl))
  unfold ordP
  generalize cmpI a.y b.y = p at *
  generalize cmpI a.x b.x = q at *
  have H1 := Lib.hid (show AzAt [(w.heap.size + 1, [.int .i64 b.x, .int .i64 b.y]), (w.heap.size, [.int .i64 a.x, .int .i64 a.y])] w _ from by have hp := ((AzAt.start w).push [.int .i64 a.x, .int .i64 a.y] 26).push [.int .i64 b.x, .int .i64 b.y] 26; simp only [World.size_alloc] at hp; exact hp)
  have H2 := Lib.hid (show AzAt [(w.heap.size + 1 + 1, [.int .i64 p, .int .i64 q]), (w.heap.size + 1, [.int .i64 b.x, .int .i64 b.y]), (w.heap.size, [.int .i64 a.x, .int .i64 a.y])] w _ from by have hp := H1.out.push [.int .i64 p, .int .i64 q] 3; simp only [World.size_alloc] at hp; exact hp)
  go_enter Tryz.func52, Tryz.ntmps52
  go_wp2
  go_region_held3 (fun W => W.cell? ⟨w.heap.size, 0, none⟩ = some (.int .i64 a.x) ∧ W.cell? ⟨w.heap.size, 1, none⟩ = some (.int .i64 a.y) ∧ W.cell? ⟨w.heap.size + 1, 0, none⟩ = some (.int .i64 b.x) ∧ W.cell? ⟨w.heap.size + 1, 1, none⟩ = some (.int .i64 b.y)) (first | with_reducible exact ⟨(H2.out.drew.row (w.heap.size, [.int .i64 a.x, .int .i64 a.y]) (by simp)).row 0 _ rfl, (H2.out.drew.row (w.heap.size, [.int .i64 a.x, .int .i64 a.y]) (by simp)).row 1 _ rfl, (H2.out.drew.row (w.heap.size + 1, [.int .i64 b.x, .int .i64 b.y]) (by simp)).row 0 _ rfl, (H2.out.drew.row (w.heap.size + 1, [.int .i64 b.x, .int .i64 b.y]) (by simp)).row 1 _ rfl⟩ | with_reducible exact ⟨(H1.out.drew.row (w.heap.size, [.int .i64 a.x, .int .i64 a.y]) (by simp)).row 0 _ rfl, (H1.out.drew.row (w.heap.size, [.int .i64 a.x, .int .i64 a.y]) (by simp)).row 1 _ rfl, (H1.out.drew.row (w.heap.size + 1, [.int .i64 b.x, .int .i64 b.y]) (by simp)).row 0 _ rfl, (H1.out.drew.row (w.heap.size + 1, [.int .i64 b.x, .int .i64 b.y]) (by simp)).row 1 _ rfl⟩) (first
    | (go_at_call 79; (with_reducible refine (KY.out _).mono ?_); rintro e w' ⟨rfl, rfl⟩)
    | (go_at_call 79; (with_reducible refine (KX.out _).mono ?_); rintro e w' ⟨rfl, rfl⟩)
    | (go_at_call 89; (with_reducible refine (KO.out _ (H2.out.drew.at (by simp))).mono ?_); rintro e w' ⟨rfl, rfl⟩)
    | fail)
  all_goals
    go_wp2
    go_ret
    exact ⟨rfl, H2.out.drew.bw⟩
end Go.Proofs.YtgngepbemgbbeaaGreatDoor

namespace Go.Proofs.YtgngepbemgbbeaaGreatDoor
open Go.RowKit Go.Shelf
attribute [local go_sem] Oper.semAt_some

theorem take_eq_succ {ps qs : List Pl} {k : Nat} {p q : Pl} (hp : ps[k]? = some p) (hq : qs[k]? = some q) (h : ps.take k = qs.take k) (e : p = q) : ps.take (k + 1) = qs.take (k + 1) := by
  rw [List.take_add_one, List.take_add_one, hp, hq, h, e]
set_option maxHeartbeats 2000000 in
theorem same_s {B C n m c1 c2 : Nat} {ps qs : List Pl} (hp : ps.length = n) (hq : qs.length = m) (hn : n ≤ 1000000) (hm : m ≤ 1000000) (w : World) (h1 : PsAt B ps w) (h2 : PsAt C qs w) :
    Calls Tryz.prog 26 #[.slice (some ⟨B, 0, none⟩) n c1, .slice (some ⟨C, 0, none⟩) m c2] w fun e w' => e = .returned (.bool (decide (ps = qs))) ∧ Below w.heap.size w w' := by
  have HP := Lib.hid hp
  have HQ := Lib.hid hq
  have H1 := Lib.hid h1
  have H2 := Lib.hid h2
  clear h1 h2
  by_cases hnm : n = m
  · clear hp hq
    subst hnm
    go_enter Tryz.func26, Tryz.ntmps26
    go_wp2
    go_loopw [5] (fun i wr => ∃ k : Nat, k ≤ n ∧ i = .int .i64 (k : Int) ∧ Below w.heap.size w wr ∧ ps.take k = qs.take k) (fun i _ => n - (intOf i).toNat)
    case atStart => exact ⟨0, Nat.zero_le _, rfl, Below.refl _ _, rfl⟩
    case round =>
      obtain ⟨k, hk, rfl, hb, ht⟩ := hrel
      by_cases hlt : k < n
      · obtain ⟨p, hp⟩ : ∃ p, ps[k]? = some p := ⟨ps[k]'(by have := HP.out; omega), List.getElem?_eq_getElem _⟩
        obtain ⟨q, hq⟩ : ∃ q, qs[k]? = some q := ⟨qs[k]'(by have := HQ.out; omega), List.getElem?_eq_getElem _⟩
        obtain ⟨c0, c1'⟩ := ((H1.out.below hb).row k p hp)
        obtain ⟨d0, d1⟩ := ((H2.out.below hb).row k q hq)
        have HB := Lib.hid hb
        have HT := Lib.hid ht
        have HE := Lib.hid (And.intro hp hq)
        clear hb ht hp hq
        have i1 : (0 : Int) ≤ (k : Int) := by omega
        have i2 : (k : Int) < (n : Int) := by omega
        by_cases hpq : p = q
        · subst hpq
          go_wp2
          go_region
          all_goals
            go_wp2
            exact ⟨⟨k + 1, by omega, by go_num, HB.out.drew, take_eq_succ HE.out.1 HE.out.2 HT.out rfl⟩, by simp only [intOf]; omega⟩
        · have hne : ¬ ps = qs := fun e => hpq (by have h1 := HE.out.1; rw [e, HE.out.2] at h1; exact (Option.some.inj h1).symm)
          have HN := Lib.hid hne
          have hd : (p.x == q.x) = false ∨ ((p.x == q.x) = true ∧ (p.y == q.y) = false) := by
            by_cases hx : p.x = q.x
            · right
              refine ⟨beq_iff_eq.2 hx, beq_eq_false_iff_ne.2 fun hy => hpq ?_⟩
              cases p
              cases q
              simp_all
            · exact .inl (beq_eq_false_iff_ne.2 hx)
          clear hpq hne
          rcases hd with hx | ⟨hx, hy⟩
          all_goals
            go_wp2
            go_region
            all_goals
              go_wp2
              go_ret
              exact ⟨ret_bool (decide_eq_false HN.out).symm, HB.out.drew⟩
      · obtain rfl : k = n := by omega
        have HB := Lib.hid hb
        have HT := Lib.hid ht
        clear hb ht
        go_wp2
        go_ret
        have := HT.out
        rw [List.take_of_length_le (by rw [HP.out]; exact Nat.le_refl _), List.take_of_length_le (by rw [HQ.out]; exact Nat.le_refl _)] at this
        exact ⟨ret_bool (decide_eq_true this).symm, HB.out⟩
  · have hne : ¬ ps = qs := fun e => hnm (by rw [← hp, ← hq, e])
    rw [decide_eq_false hne]
    clear hp hq hne
    go_enter Tryz.func26, Tryz.ntmps26
    go_wp2
    go_ret
    exact ⟨rfl, Below.refl _ _⟩
end Go.Proofs.YtgngepbemgbbeaaGreatDoor

