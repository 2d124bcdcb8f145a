/-
  integer.Div: quotient and remainder, the remainder at least 0.
-/
import Derived.Test.YtiefodlhnpondaaGreatDoorOut3
namespace Go.Proofs.YtiefodlhnpondaaGreatDoor
open Go.RowKit Go.Shelf
attribute [local go_sem] Oper.semAt_some

theorem zero_len {m : Nat} (h : m = (0 : Int).natAbs) : (dig 10000 m).length = 0 := by
  rw [h]; rfl
theorem div_pos_uniq {x b q r : Int} (h : x = b * q + r) (h0 : 0 ≤ r) (h1 : r < b) : x / b = q ∧ x % b = r :=
  (Int.ediv_emod_unique (by omega)).2 ⟨by omega, h0, h1⟩
theorem div_any_uniq {x y q r : Int} (h : x = (y.natAbs : Int) * q + r) (h0 : 0 ≤ r) (h1 : r < y.natAbs) : x / y = (if y < 0 then -q else q) ∧ x % y = r := by
  by_cases hy : y < 0
  · have hb : ((y.natAbs : Nat) : Int) = -y := by omega
    rw [hb] at h h1
    have := div_pos_uniq h h0 h1
    rw [Int.ediv_neg, Int.emod_neg] at this
    rw [if_pos hy]
    exact ⟨by omega, this.2⟩
  · have hb : ((y.natAbs : Nat) : Int) = y := by omega
    rw [hb] at h h1
    rw [if_neg hy]
    exact div_pos_uniq h h0 h1
theorem div_plain {x y : Int} {n1 n2 : Bool} {K L : Nat} (hx : n1 = decide (x < 0) ∧ K = x.natAbs) (hy : n2 = decide (y < 0) ∧ L = y.natAbs) (h0 : 0 < L) (hc : n1 = false ∨ K % L = 0) :
    x / y = (if (n1 != n2) = true then -((K / L : Nat) : Int) else ((K / L : Nat) : Int)) ∧ x % y = ((K % L : Nat) : Int) := by
  obtain ⟨rfl, rfl⟩ := hx
  obtain ⟨rfl, rfl⟩ := hy
  have hK := Nat.div_add_mod x.natAbs y.natAbs
  have hr := Nat.mod_lt x.natAbs h0
  generalize x.natAbs / y.natAbs = q at *
  generalize x.natAbs % y.natAbs = r at *
  have hKi : ((y.natAbs : Nat) : Int) * (q : Int) + r = x.natAbs := by exact_mod_cast hK
  by_cases hx0 : x < 0
  · have hr0 : r = 0 := by
      rcases hc with h | h
      · simp at h; omega
      · exact h
    subst hr0
    have := div_any_uniq (x := x) (y := y) (q := -(q : Int)) (r := 0) (by rw [Int.mul_neg]; omega) (by omega) (by omega)
    refine ⟨?_, by simpa using this.2⟩
    rw [this.1]
    by_cases hy0 : y < 0 <;> simp [hx0, hy0]
  · have := div_any_uniq (x := x) (y := y) (q := (q : Int)) (r := r) (by omega) (by omega) (by omega)
    refine ⟨?_, this.2⟩
    rw [this.1]
    by_cases hy0 : y < 0 <;> simp [hx0, hy0]
theorem div_up {x y : Int} {n1 n2 : Bool} {K L : Nat} (hx : n1 = decide (x < 0) ∧ K = x.natAbs) (hy : n2 = decide (y < 0) ∧ L = y.natAbs) (h0 : 0 < L) (hc : n1 = true) (hr1 : K % L ≠ 0) :
    x / y = (if (n1 != n2) = true then -((K / L + 1 : Nat) : Int) else ((K / L + 1 : Nat) : Int)) ∧ x % y = ((L - K % L : Nat) : Int) := by
  obtain ⟨rfl, rfl⟩ := hx
  obtain ⟨rfl, rfl⟩ := hy
  have hK := Nat.div_add_mod x.natAbs y.natAbs
  have hr := Nat.mod_lt x.natAbs h0
  generalize x.natAbs / y.natAbs = q at *
  generalize x.natAbs % y.natAbs = r at *
  have hKi : ((y.natAbs : Nat) : Int) * (q : Int) + r = x.natAbs := by exact_mod_cast hK
  have hx0 : x < 0 := by simpa using hc
  have := div_any_uniq (x := x) (y := y) (q := -((q + 1 : Nat) : Int)) (r := ((y.natAbs - r : Nat) : Int)) (by
    rw [Int.mul_neg, show ((q + 1 : Nat) : Int) = (q : Int) + 1 from by omega, Int.mul_add, Int.mul_one]; omega) (by omega) (by omega)
  refine ⟨?_, this.2⟩
  rw [this.1]
  by_cases hy0 : y < 0 <;> simp [hx0, hy0]

theorem one_any (w : World) : Calls Tryz.prog 44 #[] w fun e w' => (∃ v, e = .returned v ∧ Nm w' v 1 w.heap.size w'.heap.size) ∧ Below w.heap.size w w' := by
  go_enter Tryz.func44, Tryz.ntmps44
  go_wp2
  go_ret
  refine ⟨⟨_, rfl, ?_⟩, (Below.refl _ _).alloc (Nat.le_refl _) _⟩
  have h1 : dig 10000 1 = [1] := by decide
  show Ns _ _ (dig 10000 1) _ _
  rw [h1]
  refine ⟨_, 1, rfl, by decide, by decide, by decide, fun h => by simp at h, fun ad ha => ?_⟩
  simp only [Option.some.injEq] at ha
  subst ha
  refine ⟨w.heap.size, 0, rfl, Nat.le_refl _, by simp, ?_⟩
  intro i u hu
  cases i with
  | zero => simp at hu; subst hu; simp [go_sem]
  | succ i => simp at hu

theorem text_small (v : Value) (z : Int) (lo hi : Nat) (w : World) (hG : Glob w) (h : Zg w v z lo hi) (b : hi ≤ w.heap.size) (hs : small z = true) :
    Calls Tryz.prog 40 #[v] w fun e w' => (∃ s, s = str z ∧ e = .returned (.tuple #[.string s, .int .i64 0])) ∧ Below w.heap.size w w' := by
  refine (text_any v z lo hi w hG h b (small_F hs)).mono ?_
  rintro e w' ⟨⟨s, n, h1, rfl⟩, hb⟩
  unfold outZ at h1
  rw [if_pos hs] at h1
  simp only [Array.mk.injEq, List.cons.injEq, Value.string.injEq, Value.int.injEq, true_and, and_true] at h1
  obtain ⟨rfl, rfl⟩ := h1
  exact ⟨⟨_, rfl, rfl⟩, hb⟩
theorem small_le {z y : Int} (h : small y = true) (hl : z.natAbs ≤ y.natAbs) : small z = true := by
  unfold small at h ⊢
  simp only [decide_eq_true_eq] at h ⊢
  rw [nDig_le (by omega)] at h ⊢
  omega
theorem small_div {x : Int} (y : Int) (h : small x = true) : small (x / y) = true := small_le h (Int.natAbs_ediv_le_natAbs x y)
theorem small_mod {x y : Int} (hy : y ≠ 0) (h : small y = true) : small (x % y) = true := by
  refine small_le h ?_
  have h1 := Int.emod_nonneg x hy
  have h2 := Int.emod_lt x hy
  omega

theorem div_A {x y : Int} {n2 : Bool} {K L : Nat} (hx : false = decide (x < 0) ∧ K = x.natAbs) (hy : n2 = decide (y < 0) ∧ L = y.natAbs) (h0 : 0 < L) :
    x / y = (if n2 = true then -((K / L : Nat) : Int) else ((K / L : Nat) : Int)) ∧ x % y = if false = true then -((K % L : Nat) : Int) else ((K % L : Nat) : Int) := by
  have := div_plain hx hy h0 (.inl rfl)
  cases n2 <;> simpa using this
theorem div_B {x y : Int} {n2 : Bool} {K L : Nat} (hx : true = decide (x < 0) ∧ K = x.natAbs) (hy : n2 = decide (y < 0) ∧ L = y.natAbs) (h0 : 0 < L) (hm : K % L = 0) :
    x / y = (if (!n2) = true then -((K / L : Nat) : Int) else ((K / L : Nat) : Int)) ∧ x % y = if false = true then -((K % L : Nat) : Int) else ((K % L : Nat) : Int) := by
  have := div_plain hx hy h0 (.inr hm)
  cases n2 <;> simpa using this
theorem div_C {x y : Int} {n2 : Bool} {K L : Nat} (hx : true = decide (x < 0) ∧ K = x.natAbs) (hy : n2 = decide (y < 0) ∧ L = y.natAbs) (h0 : 0 < L) (hm : K % L ≠ 0) :
    x / y = (if (!n2) = true then -((K / L + 1 : Nat) : Int) else ((K / L + 1 : Nat) : Int)) ∧ x % y = if false = true then -((L - K % L : Nat) : Int) else ((L - K % L : Nat) : Int) := by
  have := div_up hx hy h0 rfl hm
  cases n2 <;> simpa using this

set_option maxHeartbeats 8000000 in
set_option maxRecDepth 100000 in
theorem Div_zero (x : Int) (w : World) (_hG : Glob w) (hx : small x = true) :
    Calls Tryz.prog 17 #[.string (str x), .string (str 0)] w fun e w' => e = .returned (.tuple #[.string ⟨#[]⟩, .string ⟨#[]⟩, .int .i64 30]) ∧ Below w.heap.size w w' := by
  have hB := fun W => both_ok x 0 W (by simpa [small] using hx) (by decide)
  generalize str x = sx at hB ⊢
  generalize str 0 = sy at hB ⊢
  go_enter Tryz.func17, Tryz.ntmps17
  go_wp2_with (go_at_call 38; with_reducible refine (hB _).mono ?_; rintro e w1 ⟨⟨va, vb, rfl, ha, hb⟩, hb1⟩; obtain ⟨n1, m1, a1, c1, rfl, hna, hza⟩ := ha.form; obtain ⟨n2, m2, a2, c2, rfl, hnb, hzb⟩ := hb.form; have hm2 := zero_len hzb.2; clear ha hb hza hzb hna hnb)
  refine bodyPost_ret (v := .tuple #[.string ⟨#[]⟩, .string ⟨#[]⟩, .int .i64 30]) ?_ rfl ⟨rfl, hb1.trans ((B2 w1 _ _).mono hb1.size)⟩
  simp [results, Tryz.results17, go_sem]

set_option maxHeartbeats 8000000 in
set_option maxRecDepth 100000 in
theorem Div_A (x y : Int) (w : World) (hG : Glob w) (hx : small x = true) (hy : small y = true) (hy0 : y ≠ 0) (hneg : ¬ x < 0) :
    Calls Tryz.prog 17 #[.string (str x), .string (str y)] w fun e w' => e = .returned (.tuple #[.string (str (x / y)), .string (str (x % y)), .int .i64 0]) ∧ Below w.heap.size w w' := by
  have hB := fun W => both_ok x y W (by simpa [small] using hx) (by simpa [small] using hy)
  have hsd := small_div y hx
  have hsm := small_mod (x := x) hy0 hy
  have hL0 : 0 < y.natAbs := by omega
  generalize str x = sx at hB ⊢
  generalize str y = sy at hB ⊢
  obtain ⟨sq, hsq⟩ : ∃ s, s = str (x / y) := ⟨_, rfl⟩
  obtain ⟨sr, hsr⟩ : ∃ s, s = str (x % y) := ⟨_, rfl⟩
  rw [← hsq, ← hsr]
  have HSQ := Lib.hid hsq
  have HSR := Lib.hid hsr
  clear hsq hsr
  have HX := Lib.hid (small_few hx)
  have HY := Lib.hid (small_few hy)
  go_enter Tryz.func17, Tryz.ntmps17
  go_wp2_with (first
    | (go_at_call 38; with_reducible refine (hB _).mono ?_; rintro e w1 ⟨⟨va, vb, rfl, ha, hb⟩, hb1⟩; obtain ⟨n1, m1, a1, c1, rfl, hna, hza⟩ := ha.form; obtain ⟨n2, m2, a2, c2, rfl, hnb, hzb⟩ := hb.form; have HA := Lib.hid ha.zg; have HB := Lib.hid hb.zg; have HNA := Lib.hid hna; have HNB := Lib.hid hnb; have HZA := Lib.hid (zs_eq hza); have HZB := Lib.hid (zs_eq hzb); have HSA := Lib.hid hza; have HSB := Lib.hid hzb; have HG1 := Lib.hid (hG.below hb1); have hm2 : 0 < (dig 10000 m2).length := (by have h1 := nm_pos hnb; have h2 := hzb.2; omega); have hf1 : (dig 10000 m1).length ≤ 50 := (by rw [hza.2]; exact HX.out); have hf2 : (dig 10000 m2).length ≤ 50 := (by rw [hzb.2]; exact HY.out); obtain rfl : n1 = false := (by rw [hza.1]; exact decide_eq_false hneg); clear ha hb hna hnb hza hzb)
    | (go_at_call 42; refine (over_any _ _ m1 m2 _ _ _ _ _ (by exact HNA.out.below (B2 w1 _ _) (Nat.le_refl _)) (by exact HNB.out.below (B2 w1 _ _) (Nat.le_refl _)) (by exact (B2 w1 _ _).size) (by exact (B2 w1 _ _).size) (by omega) (by omega) (by rw [HSB.out.2]; exact hL0)).mono ?_; rintro e w2 ⟨⟨q, r, rfl, hq, hr⟩, hb2⟩; obtain ⟨qa, qc, rfl⟩ : ∃ a cap, q = .slice a (dig 10000 (m1 / m2)).length cap := (by obtain ⟨a, cap, e, _⟩ := hq; exact ⟨a, cap, e⟩); obtain ⟨ra, rc, rfl⟩ : ∃ a cap, r = .slice a (dig 10000 (m1 % m2)).length cap := (by obtain ⟨a, cap, e, _⟩ := hr; exact ⟨a, cap, e⟩); have hrz := nm_pos hr; have hrr : True := trivial; have HQ := Lib.hid hq; have HR := Lib.hid hr; clear hq hr; have hbw : Below w1.heap.size w1 w2 := (B2 w1 _ _).trans (hb2.mono (B2 w1 _ _).size); have HG2 := Lib.hid (HG1.out.below hbw); have HP2 := Lib.hid ((PairAt.start w1 false n2 (.slice a1 (dig 10000 m1).length c1) (.slice a2 (dig 10000 m2).length c2)).below hb2); have q1 := HP2.out.x0; have q2 := HP2.out.x1; have q3 := HP2.out.y0; have q4 := HP2.out.y1; clear hrz; have HD := Lib.hid (div_A HSA.out HSB.out (by rw [HSB.out.2]; exact hL0)))
    | (go_at_call 40; refine (text_small _ (x / y) _ _ _ (by exact HG2.out) (by exact Zg.of HQ.out HD.out.1) (Nat.le_refl _) hsd).mono ?_; rintro e w3 ⟨⟨s, hs, rfl⟩, hb3⟩; obtain rfl : s = sq := hs.trans HSQ.out.symm; clear hs; have HG3 := Lib.hid (HG2.out.below hb3); have HR3 := Lib.hid (HR.out.below hb3 (Nat.le_refl _)))
    | (go_at_call 40; refine (text_small _ (x % y) _ _ _ (by exact HG3.out) (by exact Zg.of (neg := false) HR3.out HD.out.2) (by exact hb3.size) hsm).mono ?_; rintro e w4 ⟨⟨s', hs, rfl⟩, hb4⟩; obtain rfl : s' = sr := hs.trans HSR.out.symm; clear hs))
  refine bodyPost_ret (v := .tuple #[.string s, .string s', .int .i64 0]) ?_ rfl ⟨rfl, (hb1.trans (hbw.mono hb1.size)).trans ((hb3.trans (hb4.mono hb3.size)).mono (Nat.le_trans hb1.size hbw.size))⟩
  simp [results, Tryz.results17, go_sem]

set_option maxHeartbeats 8000000 in
set_option maxRecDepth 100000 in
theorem Div_B (x y : Int) (w : World) (hG : Glob w) (hx : small x = true) (hy : small y = true) (hy0 : y ≠ 0) (hneg : x < 0) (hmod : x.natAbs % y.natAbs = 0) :
    Calls Tryz.prog 17 #[.string (str x), .string (str y)] w fun e w' => e = .returned (.tuple #[.string (str (x / y)), .string (str (x % y)), .int .i64 0]) ∧ Below w.heap.size w w' := by
  have hB := fun W => both_ok x y W (by simpa [small] using hx) (by simpa [small] using hy)
  have hsd := small_div y hx
  have hsm := small_mod (x := x) hy0 hy
  have hL0 : 0 < y.natAbs := by omega
  generalize str x = sx at hB ⊢
  generalize str y = sy at hB ⊢
  obtain ⟨sq, hsq⟩ : ∃ s, s = str (x / y) := ⟨_, rfl⟩
  obtain ⟨sr, hsr⟩ : ∃ s, s = str (x % y) := ⟨_, rfl⟩
  rw [← hsq, ← hsr]
  have HSQ := Lib.hid hsq
  have HSR := Lib.hid hsr
  clear hsq hsr
  have HX := Lib.hid (small_few hx)
  have HY := Lib.hid (small_few hy)
  go_enter Tryz.func17, Tryz.ntmps17
  go_wp2_with (first
    | (go_at_call 38; with_reducible refine (hB _).mono ?_; rintro e w1 ⟨⟨va, vb, rfl, ha, hb⟩, hb1⟩; obtain ⟨n1, m1, a1, c1, rfl, hna, hza⟩ := ha.form; obtain ⟨n2, m2, a2, c2, rfl, hnb, hzb⟩ := hb.form; have HA := Lib.hid ha.zg; have HB := Lib.hid hb.zg; have HNA := Lib.hid hna; have HNB := Lib.hid hnb; have HZA := Lib.hid (zs_eq hza); have HZB := Lib.hid (zs_eq hzb); have HSA := Lib.hid hza; have HSB := Lib.hid hzb; have HG1 := Lib.hid (hG.below hb1); have hm2 : 0 < (dig 10000 m2).length := (by have h1 := nm_pos hnb; have h2 := hzb.2; omega); have hf1 : (dig 10000 m1).length ≤ 50 := (by rw [hza.2]; exact HX.out); have hf2 : (dig 10000 m2).length ≤ 50 := (by rw [hzb.2]; exact HY.out); obtain rfl : n1 = true := (by rw [hza.1]; exact decide_eq_true hneg); clear ha hb hna hnb hza hzb)
    | (go_at_call 42; refine (over_any _ _ m1 m2 _ _ _ _ _ (by exact HNA.out.below (B2 w1 _ _) (Nat.le_refl _)) (by exact HNB.out.below (B2 w1 _ _) (Nat.le_refl _)) (by exact (B2 w1 _ _).size) (by exact (B2 w1 _ _).size) (by omega) (by omega) (by rw [HSB.out.2]; exact hL0)).mono ?_; rintro e w2 ⟨⟨q, r, rfl, hq, hr⟩, hb2⟩; obtain ⟨qa, qc, rfl⟩ : ∃ a cap, q = .slice a (dig 10000 (m1 / m2)).length cap := (by obtain ⟨a, cap, e, _⟩ := hq; exact ⟨a, cap, e⟩); obtain ⟨ra, rc, rfl⟩ : ∃ a cap, r = .slice a (dig 10000 (m1 % m2)).length cap := (by obtain ⟨a, cap, e, _⟩ := hr; exact ⟨a, cap, e⟩); have hrz := nm_pos hr; have hrr : (dig 10000 (m1 % m2)).length = 0 := (by rw [hrz, HSA.out.2, HSB.out.2]; exact hmod); rw [hrr] at hr; have HQ := Lib.hid hq; have HR := Lib.hid hr; clear hq hr; have hbw : Below w1.heap.size w1 w2 := (B2 w1 _ _).trans (hb2.mono (B2 w1 _ _).size); have HG2 := Lib.hid (HG1.out.below hbw); have HP2 := Lib.hid ((PairAt.start w1 true n2 (.slice a1 (dig 10000 m1).length c1) (.slice a2 (dig 10000 m2).length c2)).below hb2); have q1 := HP2.out.x0; have q2 := HP2.out.x1; have q3 := HP2.out.y0; have q4 := HP2.out.y1; clear hrz; have HD := Lib.hid (div_B HSA.out HSB.out (by rw [HSB.out.2]; exact hL0) (by rw [HSA.out.2, HSB.out.2]; exact hmod)))
    | (go_at_call 40; refine (text_small _ (x / y) _ _ _ (by exact HG2.out) (by exact Zg.of HQ.out HD.out.1) (Nat.le_refl _) hsd).mono ?_; rintro e w3 ⟨⟨s, hs, rfl⟩, hb3⟩; obtain rfl : s = sq := hs.trans HSQ.out.symm; clear hs; have HG3 := Lib.hid (HG2.out.below hb3); have HR3 := Lib.hid (HR.out.below hb3 (Nat.le_refl _)))
    | (go_at_call 40; refine (text_small _ (x % y) _ _ _ (by exact HG3.out) (by exact Zg.of (neg := false) HR3.out HD.out.2) (by exact hb3.size) hsm).mono ?_; rintro e w4 ⟨⟨s', hs, rfl⟩, hb4⟩; obtain rfl : s' = sr := hs.trans HSR.out.symm; clear hs))
  refine bodyPost_ret (v := .tuple #[.string s, .string s', .int .i64 0]) ?_ rfl ⟨rfl, (hb1.trans (hbw.mono hb1.size)).trans ((hb3.trans (hb4.mono hb3.size)).mono (Nat.le_trans hb1.size hbw.size))⟩
  simp [results, Tryz.results17, go_sem]

set_option maxHeartbeats 8000000 in
set_option maxRecDepth 100000 in
theorem Div_C (x y : Int) (w : World) (hG : Glob w) (hx : small x = true) (hy : small y = true) (hy0 : y ≠ 0) (hneg : x < 0) (hmod : x.natAbs % y.natAbs ≠ 0) :
    Calls Tryz.prog 17 #[.string (str x), .string (str y)] w fun e w' => e = .returned (.tuple #[.string (str (x / y)), .string (str (x % y)), .int .i64 0]) ∧ Below w.heap.size w w' := by
  have hB := fun W => both_ok x y W (by simpa [small] using hx) (by simpa [small] using hy)
  have hsd := small_div y hx
  have hsm := small_mod (x := x) hy0 hy
  have hL0 : 0 < y.natAbs := by omega
  generalize str x = sx at hB ⊢
  generalize str y = sy at hB ⊢
  obtain ⟨sq, hsq⟩ : ∃ s, s = str (x / y) := ⟨_, rfl⟩
  obtain ⟨sr, hsr⟩ : ∃ s, s = str (x % y) := ⟨_, rfl⟩
  rw [← hsq, ← hsr]
  have HSQ := Lib.hid hsq
  have HSR := Lib.hid hsr
  clear hsq hsr
  have HX := Lib.hid (small_few hx)
  have HY := Lib.hid (small_few hy)
  go_enter Tryz.func17, Tryz.ntmps17
  go_wp2_with (first
    | (go_at_call 38; with_reducible refine (hB _).mono ?_; rintro e w1 ⟨⟨va, vb, rfl, ha, hb⟩, hb1⟩; obtain ⟨n1, m1, a1, c1, rfl, hna, hza⟩ := ha.form; obtain ⟨n2, m2, a2, c2, rfl, hnb, hzb⟩ := hb.form; have HA := Lib.hid ha.zg; have HB := Lib.hid hb.zg; have HNA := Lib.hid hna; have HNB := Lib.hid hnb; have HZA := Lib.hid (zs_eq hza); have HZB := Lib.hid (zs_eq hzb); have HSA := Lib.hid hza; have HSB := Lib.hid hzb; have HG1 := Lib.hid (hG.below hb1); have hm2 : 0 < (dig 10000 m2).length := (by have h1 := nm_pos hnb; have h2 := hzb.2; omega); have hf1 : (dig 10000 m1).length ≤ 50 := (by rw [hza.2]; exact HX.out); have hf2 : (dig 10000 m2).length ≤ 50 := (by rw [hzb.2]; exact HY.out); obtain rfl : n1 = true := (by rw [hza.1]; exact decide_eq_true hneg); clear ha hb hna hnb hza hzb)
    | (go_at_call 42; refine (over_any _ _ m1 m2 _ _ _ _ _ (by exact HNA.out.below (B2 w1 _ _) (Nat.le_refl _)) (by exact HNB.out.below (B2 w1 _ _) (Nat.le_refl _)) (by exact (B2 w1 _ _).size) (by exact (B2 w1 _ _).size) (by omega) (by omega) (by rw [HSB.out.2]; exact hL0)).mono ?_; rintro e w2 ⟨⟨q, r, rfl, hq, hr⟩, hb2⟩; obtain ⟨qa, qc, rfl⟩ : ∃ a cap, q = .slice a (dig 10000 (m1 / m2)).length cap := (by obtain ⟨a, cap, e, _⟩ := hq; exact ⟨a, cap, e⟩); obtain ⟨ra, rc, rfl⟩ : ∃ a cap, r = .slice a (dig 10000 (m1 % m2)).length cap := (by obtain ⟨a, cap, e, _⟩ := hr; exact ⟨a, cap, e⟩); have hrz := nm_pos hr; have hrr : 0 < (dig 10000 (m1 % m2)).length := (by rw [HSA.out.2, HSB.out.2] at hrz ⊢; omega); have HQ := Lib.hid hq; have HR := Lib.hid hr; clear hq hr; have hbw : Below w1.heap.size w1 w2 := (B2 w1 _ _).trans (hb2.mono (B2 w1 _ _).size); have HG2 := Lib.hid (HG1.out.below hbw); have HP2 := Lib.hid ((PairAt.start w1 true n2 (.slice a1 (dig 10000 m1).length c1) (.slice a2 (dig 10000 m2).length c2)).below hb2); have q1 := HP2.out.x0; have q2 := HP2.out.x1; have q3 := HP2.out.y0; have q4 := HP2.out.y1; clear hrz; have HD := Lib.hid (div_C HSA.out HSB.out (by rw [HSB.out.2]; exact hL0) (by rw [HSA.out.2, HSB.out.2]; exact hmod)))
    | fail)
  have hm2p : 0 < m2 := by rw [HSB.out.2]; exact hL0
  have hle : Hid (m1 % m2 ≤ m2) := Nat.le_of_lt (Nat.mod_lt _ hm2p)
  have HF1 : Hid (Few 1) := by show _ ≤ _; decide
  have HF2 : Hid (Few m2) := by show _ ≤ _; omega
  have HFR : Hid (Few (m1 % m2)) := by
    have := dig_length_mono (B := 10000) (by omega) hle.out
    show _ ≤ _; omega
  have HFQ : Hid (Few (m1 / m2)) := by
    have := dig_length_mono (B := 10000) (by omega) (Nat.div_le_self m1 m2)
    show _ ≤ _; omega
  have hS : w2.drew.cell? ⟨w1.heap.size + 1, 1, none⟩ = some (.slice a2 (dig 10000 m2).length c2) ∧ Below w2.heap.size w2 w2.drew := ⟨q4, (Below.refl _ _).drew⟩
  go_region_held3 (fun W => W.cell? ⟨w1.heap.size + 1, 1, none⟩ = some (.slice a2 (dig 10000 m2).length c2) ∧ Below w2.heap.size w2 W) (first | exact hS) (first
    | (go_at_call 44; refine (one_any _).mono ?_; rintro e wo ⟨⟨vo, rfl, hvo⟩, hbo⟩; obtain ⟨oa, oc, rfl⟩ : ∃ a cap, vo = .slice a (dig 10000 1).length cap := (by obtain ⟨a, cap, e, _⟩ := hvo; exact ⟨a, cap, e⟩); have HO := Lib.hid hvo; clear hvo; have hS := (⟨(hbo.cell (p := ⟨w1.heap.size + 1, 1, none⟩) (World.block_lt_of_cell? _ _ hS.1)).trans hS.1, hS.2.trans (hbo.mono hS.2.size)⟩ : wo.cell? ⟨w1.heap.size + 1, 1, none⟩ = some (.slice a2 (dig 10000 m2).length c2) ∧ Below w2.heap.size w2 wo))
    | (go_at_call 43; refine (plus_any _ _ (m1 / m2) 1 _ _ _ _ _ (by exact HQ.out.below hS.2 (Nat.le_refl _)) (by first | exact HO.out | exact HO.out.below hbm (Nat.le_refl _)) (by exact hS.2.size) (by first | exact Nat.le_refl _ | exact hbm.size) (by exact HFQ.out) (by exact HF1.out)).mono ?_; rintro e wp ⟨⟨vp, rfl, hvp⟩, hbp⟩; obtain ⟨pa, pc, rfl⟩ : ∃ a cap, vp = .slice a (dig 10000 (m1 / m2 + 1)).length cap := (by obtain ⟨a, cap, e, _⟩ := hvp; exact ⟨a, cap, e⟩); have HPl := Lib.hid hvp; clear hvp; have hS := (⟨(hbp.cell (p := ⟨w1.heap.size + 1, 1, none⟩) (World.block_lt_of_cell? _ _ hS.1)).trans hS.1, hS.2.trans (hbp.mono hS.2.size)⟩ : wp.cell? ⟨w1.heap.size + 1, 1, none⟩ = some (.slice a2 (dig 10000 m2).length c2) ∧ Below w2.heap.size w2 wp))
    | (go_at_call 45; refine (minus_any _ _ m2 (m1 % m2) _ _ _ _ _ (by exact (HNB.out.below hbw (Nat.le_refl _)).below hS.2 hbw.size) (by exact HR.out.below hS.2 (Nat.le_refl _)) (by exact Nat.le_trans hbw.size hS.2.size) (by exact hS.2.size) (by exact HF2.out) (by exact HFR.out) (by exact hle.out)).mono ?_; rintro e wm ⟨⟨vm, rfl, hvm⟩, hbm⟩; obtain ⟨ma, mc, rfl⟩ : ∃ a cap, vm = .slice a (dig 10000 (m2 - m1 % m2)).length cap := (by obtain ⟨a, cap, e, _⟩ := hvm; exact ⟨a, cap, e⟩); have HM := Lib.hid hvm; clear hvm; have hS := (⟨(hbm.cell (p := ⟨w1.heap.size + 1, 1, none⟩) (World.block_lt_of_cell? _ _ hS.1)).trans hS.1, hS.2.trans (hbm.mono hS.2.size)⟩ : wm.cell? ⟨w1.heap.size + 1, 1, none⟩ = some (.slice a2 (dig 10000 m2).length c2) ∧ Below w2.heap.size w2 wm)))
  all_goals
    have HP4 := HP2.out.below hS.2
    have q5 := HP4.x0
    have q6 := HP4.y0
    clear q1 q2 q3 q4
    go_wp2_with (first
      | (go_at_call 40; refine (text_small _ (x / y) _ _ _ (by exact HG2.out.below hS.2) (by first | exact Zg.of HPl.out HD.out.1 | exact Zg.of (HPl.out.below hbm (Nat.le_refl _)) HD.out.1) (by first | exact Nat.le_refl _ | exact hbm.size) hsd).mono ?_; rintro e w3 ⟨⟨s, hs, rfl⟩, hb3⟩; obtain rfl : s = sq := hs.trans HSQ.out.symm; clear hs; have HG3 := Lib.hid ((HG2.out.below hS.2).below hb3); have HR3 : Hid (Nm w3 (.slice ma (dig 10000 (m2 - m1 % m2)).length mc) (m2 - m1 % m2) 0 w3.heap.size) := (by first | exact ((HM.out.mono (Nat.zero_le _) (Nat.le_refl _)).below hb3 (Nat.le_refl _)).mono (Nat.le_refl _) hb3.size | exact (((HM.out.below hbp (Nat.le_refl _)).mono (Nat.zero_le _) hbp.size).below hb3 (Nat.le_refl _)).mono (Nat.le_refl _) hb3.size | exact (((HM.out.below (hbo.trans (hbp.mono hbo.size)) (Nat.le_refl _)).mono (Nat.zero_le _) (Nat.le_trans hbo.size hbp.size)).below hb3 (Nat.le_refl _)).mono (Nat.le_refl _) hb3.size))
      | (go_at_call 40; refine (text_small _ (x % y) _ _ _ (by exact HG3.out) (by exact Zg.of (neg := false) HR3.out HD.out.2) (Nat.le_refl _) hsm).mono ?_; rintro e w4 ⟨⟨s', hs, rfl⟩, hb4⟩; obtain rfl : s' = sr := hs.trans HSR.out.symm; clear hs))
    refine bodyPost_ret (v := .tuple #[.string s, .string s', .int .i64 0]) ?_ rfl ⟨rfl, (hb1.trans (hbw.mono hb1.size)).trans ((hS.2.trans ((hb3.trans (hb4.mono hb3.size)).mono hS.2.size)).mono (Nat.le_trans hb1.size hbw.size))⟩
    simp [results, Tryz.results17, go_sem]

theorem Div_ok (x y : Int) (w : World) (hG : Glob w) (hx : small x = true) (hy : small y = true) (hy0 : y ≠ 0) :
    Calls Tryz.prog 17 #[.string (str x), .string (str y)] w fun e w' => e = .returned (.tuple #[.string (str (x / y)), .string (str (x % y)), .int .i64 0]) ∧ Below w.heap.size w w' := by
  by_cases hneg : x < 0
  · by_cases hmod : x.natAbs % y.natAbs = 0
    · exact Div_B x y w hG hx hy hy0 hneg hmod
    · exact Div_C x y w hG hx hy hy0 hneg hmod
  · exact Div_A x y w hG hx hy hy0 hneg
end Go.Proofs.YtiefodlhnpondaaGreatDoor
