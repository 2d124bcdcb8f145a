/-
  integer.Root: Newton's steps from a power of ten that is too great.
-/
import Derived.Test.YtiefodlhnpondaaGreatDoorDiv
namespace Go.Proofs.YtiefodlhnpondaaGreatDoor
open Go.RowKit Go.Shelf
attribute [local go_sem] Oper.semAt_some

/-- A step of Newton's: what comes next is not less than the root; and where it is not less than what was, that is the root. -/
theorem newton {X r : Nat} (hr : 0 < r) : X < ((r + X / r) / 2 + 1) * ((r + X / r) / 2 + 1) := by
  have h1 := Nat.div_add_mod X r
  have h2 := Nat.mod_lt X hr
  generalize X / r = q at *
  have h3 : X < r * (q + 1) := by rw [Nat.mul_add, Nat.mul_one]; omega
  generalize hn : (r + q) / 2 + 1 = n
  have h4 : r + q + 1 ≤ 2 * n := by omega
  have h5 : (r + (q + 1)) * (r + (q + 1)) ≤ (2 * n) * (2 * n) := Nat.mul_le_mul (by omega) (by omega)
  have h6 : 4 * (r * (q + 1)) ≤ (r + (q + 1)) * (r + (q + 1)) := by
    generalize q + 1 = s
    rcases Nat.le_total r s with h | h
    · obtain ⟨d, rfl⟩ := Nat.le.dest h
      have : (r + (r + d)) * (r + (r + d)) = 4 * (r * (r + d)) + d * d := by
        simp only [Nat.mul_add, Nat.add_mul, Nat.mul_comm d r]; omega
      omega
    · obtain ⟨d, rfl⟩ := Nat.le.dest h
      have : (s + d + s) * (s + d + s) = 4 * ((s + d) * s) + d * d := by
        simp only [Nat.mul_add, Nat.add_mul, Nat.mul_comm d s]; omega
      omega
  have h7 : (2 * n) * (2 * n) = 4 * (n * n) := by
    rw [Nat.mul_assoc, Nat.mul_left_comm n 2 n, ← Nat.mul_assoc]
  omega
theorem newton_stop {X r : Nat} (_hr : 0 < r) (h : r ≤ (r + X / r) / 2) : r * r ≤ X := by
  have h1 : r ≤ X / r := by omega
  calc r * r ≤ r * (X / r) := Nat.mul_le_mul (Nat.le_refl _) h1
    _ ≤ X := Nat.mul_div_le X r
theorem root_start {X : Nat} (k : Nat) (hk : (dig 10000 X).length ≤ 2 * k) : X < (10000 ^ k + 1) * (10000 ^ k + 1) := by
  have h1 := (dig_length_le (B := 10000) (by omega) X _).1 hk
  rw [Nat.two_mul, Nat.pow_add] at h1
  refine Nat.lt_of_lt_of_le h1 (Nat.mul_le_mul (by omega) (by omega))
theorem half_int (L : Nat) : ∃ k : Nat, ((L : Int) + 1) / 2 = (k : Int) ∧ L ≤ 2 * k ∧ k ≤ L := by
  rcases Nat.eq_zero_or_pos L with h | h
  · exact ⟨0, by omega, by omega, by omega⟩
  · exact ⟨(L + 1) / 2, by omega, by omega, by omega⟩
theorem dig_pow (k : Nat) : dig 10000 (10000 ^ k) = List.replicate k 0 ++ [1] := by
  induction k with
  | zero => decide
  | succ k ih =>
    have hp : 0 < 10000 ^ k := Nat.pow_pos (by omega)
    have := dig_cons (B := 10000) (d := 0) (n := 10000 ^ k) (by omega) (by omega) (by omega)
    rw [Nat.zero_add, Nat.mul_comm, ← Nat.pow_succ] at this
    rw [this, ih]; rfl

theorem own_zeros {k N B : Nat} {w : World} (o : Obj) (hN : w.heap.size = N) (hk : k ≤ 1000000) (hB : B ≤ w.heap.size) :
    ((w.alloc (.cells (zeros k) 3)).alloc o).ownsRow B 3 1 (.slice (some ⟨N, 0, none⟩) k k) k ((List.replicate k 0).map fun n : Nat => Value.int .i64 (n : Int)) := by
  rw [← zeros_list, ← hN]
  exact (World.ownsRow_lit (base := B) (e := 3) (size := 1) w (zeros k) k hB (by unfold maxLen; omega) (by simp [zeros_size])).alloc o
theorem one_cell_at {W : World} {N : Nat} {v : Value} {t : TypeId} (hN : W.heap.size = N) : ∀ j u, [v][j]? = some u → (W.alloc (.cells #[v] t)).cell? ((⟨N, 0, none⟩ : Addr).add j) = some u := by
  intro j u hu
  cases j with
  | zero => simp at hu; subst hu hN; rw [addr_add]; simp [go_sem]
  | succ j => simp at hu
theorem root_pair {w1 w2 : World} {n1 n2 : Bool} {s1 s2 : Value} (h : Below (w1.heap.size + 1 + 1) ((w1.alloc (.cells #[.bool n1, s1] 50)).alloc (.cells #[.bool n2, s2] 50)) w2) : PairAt w1.heap.size n1 s1 n2 s2 w2 ∧ Below w1.heap.size w1 w2 :=
  ⟨(PairAt.start w1 n1 n2 s1 s2).below (by simpa using h), (B2 w1 _ _).trans (h.mono (by omega))⟩
theorem nm_pow {W : World} {B k : Nat} {v : Value} (h : W.ownsRow B 3 1 v (k + 1) ((List.replicate k 0).map (fun n : Nat => Value.int .i64 (n : Int)) ++ [Value.int .i64 1])) : Nm W v (10000 ^ k) B W.heap.size := by
  show Ns W v (dig 10000 (10000 ^ k)) _ _
  rw [dig_pow]
  have h1 := Sl.of_owns h
  have h2 : (List.replicate k 0 ++ [1]).length = k + 1 := by simp
  show Sl W v (List.replicate k 0 ++ [1]).length 1 _ _ _
  rw [h2, List.map_append]
  exact h1

theorem nm_two {W : World} {N : Nat} (hN : W.heap.size = N) (t : TypeId) : Nm (W.alloc (.cells #[.int .i64 2] t)) (.slice (some ⟨N, 0, none⟩) 1 1) 2 N (N + 1) := by
  have h1 : dig 10000 2 = [2] := by decide
  show Ns _ _ (dig 10000 2) _ _
  rw [h1]
  refine ⟨_, 1, rfl, by decide, by decide, by decide, fun h => by simp at h, fun ad ha => ?_⟩
  simp only [Option.some.injEq] at ha
  subst ha hN
  refine ⟨_, 0, rfl, Nat.le_refl _, by simp, ?_⟩
  intro i u hu
  cases i with
  | zero => simp at hu; subst hu; simp [go_sem]
  | succ i => simp at hu
theorem root_small {x : Int} {m R : Nat} (hx : small x = true) (hm : m = x.natAbs) (h : R * R ≤ m) : small (R : Int) = true := by
  refine small_le hx ?_
  rw [← hm]
  refine Nat.le_trans ?_ h
  rcases Nat.eq_zero_or_pos R with h0 | h0
  · subst h0; simp
  · exact Nat.le_mul_of_pos_left _ h0
theorem cmpI_nonneg (a b : Nat) : 0 ≤ cmpI a b ↔ b ≤ a := by
  unfold cmpI
  rcases Nat.lt_trichotomy a b with h | h | h
  · rw [if_pos (by omega)]; omega
  · rw [if_neg (by omega), if_neg (by omega)]; omega
  · rw [if_neg (by omega), if_pos (by omega)]; omega
theorem Below.al {w : World} (o : Obj) : Below w.heap.size w (w.alloc o) := (Below.refl _ _).alloc (Nat.le_refl _) _

set_option maxHeartbeats 8000000 in
set_option maxRecDepth 100000 in
theorem Root_neg (x : Int) (w : World) (hx : small x = true) (hneg : x < 0) :
    Calls Tryz.prog 21 #[.string (str x)] w fun e w' => e = .returned (.tuple #[.string ⟨#[]⟩, .int .i64 30]) ∧ Below w.heap.size w w' := by
  have hB : ∀ W, Calls Tryz.prog 38 #[.string (str x), .string ⟨#[48]⟩] W _ := fun W => both_ok x 0 W (by simpa [small] using hx) (by decide)
  generalize str x = sx at hB ⊢
  go_enter Tryz.func21, Tryz.ntmps21
  go_wp2_with (go_at_call 38; with_reducible refine (hB _).mono ?_; rintro e w1 ⟨⟨va, vb, rfl, ha, hb⟩, hb1⟩; obtain ⟨n1, m1, a1, c1, rfl, hna, hza⟩ := ha.form; obtain ⟨n2, m2, a2, c2, rfl, hnb, hzb⟩ := hb.form; obtain rfl : n1 = true := (by rw [hza.1]; exact decide_eq_true hneg); clear ha hb hza hzb hna hnb)
  refine bodyPost_ret (v := .tuple #[.string ⟨#[]⟩, .int .i64 30]) ?_ rfl ⟨rfl, hb1.trans ((B2 w1 _ _).mono hb1.size)⟩
  simp [results, Tryz.results21, go_sem]

set_option maxHeartbeats 8000000 in
set_option maxRecDepth 100000 in
theorem Root_no (a : ByteArray) (w : World) (ha : a.size ≤ 9223372036854775807) (hn : validL a.data.toList = false) :
    Calls Tryz.prog 21 #[.string a] w fun e w' => e = .returned (.tuple #[.string ⟨#[]⟩, .int .i64 30]) ∧ Below w.heap.size w w' := by
  have hB := fun W => both_no a ⟨#[48]⟩ W ha (by decide) (by rw [hn]; rfl)
  go_enter Tryz.func21, Tryz.ntmps21
  go_wp2_with (go_at_call 38; with_reducible refine (hB _).mono ?_; rintro e w1 ⟨rfl, hb1⟩)
  refine bodyPost_ret (v := .tuple #[.string ⟨#[]⟩, .int .i64 30]) ?_ rfl ⟨rfl, hb1.trans ((B2 w1 _ _).mono hb1.size)⟩
  simp [results, Tryz.results21, go_sem]

set_option maxHeartbeats 8000000 in
set_option maxRecDepth 100000 in
theorem Root_ok (x : Int) (w : World) (hG : Glob w) (hx : small x = true) (hneg : ¬ x < 0) :
    Calls Tryz.prog 21 #[.string (str x)] w fun e w' => (∃ (s : Nat) (t : ByteArray), s * s ≤ x.natAbs ∧ x.natAbs < (s + 1) * (s + 1) ∧ t = str (s : Int) ∧ e = .returned (.tuple #[.string t, .int .i64 0])) ∧ Below w.heap.size w w' := by
  obtain ⟨i0, hi, hz0, hz1, hz2⟩ := info_parts A_info3
  have hB : ∀ W, Calls Tryz.prog 38 #[.string (str x), .string ⟨#[48]⟩] W _ := fun W => both_ok x 0 W (by simpa [small] using hx) (by decide)
  have HX := Lib.hid (small_few hx)
  obtain ⟨μ, hμ⟩ := nm_measure
  have hMU := Lib.hid hμ
  clear hμ
  generalize str x = sx at hB ⊢
  have hmk : ∀ (k : Nat) (X : World), k ≤ 1000000 → (Instr.makeSlice 48 (.int .i64 (k : Int)) (.int .i64 (k : Int))).run Tryz.prog X = .ok (.slice (some ⟨X.heap.size, 0, none⟩) k k) (X.alloc (.cells (zeros k) 3)) := fun k X hk => by
    have hr := run_make (P := Tryz.prog) X 48 3 i0 (.int .i64 0) Tryz.underlying48 hi hz0 .i64 .i64 (k : Int) (k : Int) (by omega) (Int.le_refl _) (by rw [hz2]; omega) (by omega)
    rw [hr, hz1]
    simp [zeros, Value.cells]
  go_enter Tryz.func21, Tryz.ntmps21
  go_wp2_with (first
    | (go_at_call 38; with_reducible refine (hB _).mono ?_; rintro e w1 ⟨⟨va, vb, rfl, ha, hb⟩, hb1⟩; obtain ⟨n1, m1, a1, c1, rfl, hna, hza⟩ := ha.form; obtain ⟨n2, m2, a2, c2, rfl, hnb, hzb⟩ := hb.form; obtain rfl : n1 = false := (by rw [hza.1]; exact decide_eq_false (by omega)); have hf1 : (dig 10000 m1).length ≤ 50 := (by rw [hza.2]; exact HX.out); have HNA := Lib.hid hna; have HSA := Lib.hid hza.2; have HG1 := Lib.hid (hG.below hb1); obtain ⟨k, hk, hk1, hk2⟩ := half_int (dig 10000 m1).length; have hmk1 := fun X => hmk k X (by omega); clear ha hb hza hzb hna hnb)
    | (at_builtin; refine wpList_append_own _ rfl _ _ 48 rfl w1.heap.size 3 i0 (.int .i64 0) 1 8 Tryz.underlying48 hi hz0 hz1 hz2 rfl (by decide) (.slice (some ⟨w1.heap.size + 1 + 1, 0, none⟩) k k) k _ rfl (own_zeros _ (by simp) (by omega) (by first | (simp; done) | (simp; omega))) ⟨w1.heap.size + 1 + 1 + 1, 0, none⟩ 1 1 [.int .i64 1] rfl rfl (one_cell_at (by simp)) (by simp [Value.oneCell']) (by unfold maxLen; omega) (by omega) (by first | (simp; done) | (simp; omega)) ?_; intro v' w2 hown' hgrow _; have hnr := nm_pow hown'; obtain ⟨ra, rc, rfl⟩ : ∃ a cap, v' = .slice a (dig 10000 (10000 ^ k)).length cap := (by obtain ⟨a, cap, e, _⟩ := hnr; exact ⟨a, cap, e⟩); have HNR := Lib.hid hnr; have hrp := root_pair ((((Below.refl _ _).alloc (by simp) _).alloc (by first | (simp; done) | (simp; omega)) _).grown hgrow (by first | (simp; done) | (simp; omega)) (fun g e => by simp [Value.ownBlock] at e; omega)); have HP := Lib.hid hrp.1; have hbw := hrp.2; clear hrp; clear hown' hgrow hnr)
    | fail)
  have hw1 := hb1.size
  go_loopw [7, 8, 9, 10, 11] (fun r _ _ _ _ wr => ∃ (R : Nat) (ra : Option Addr) (rc : Nat), r = .slice ra (dig 10000 R).length rc ∧ Nm wr r R w1.heap.size wr.heap.size ∧ 0 < R ∧ m1 < (R + 1) * (R + 1) ∧ R ≤ 10000 ^ k ∧ PairAt w1.heap.size false (.slice a1 (dig 10000 m1).length c1) n2 (.slice a2 (dig 10000 m2).length c2) wr ∧ Below w1.heap.size w1 wr)
    (fun r _ _ _ _ wr => μ wr r)
  case atStart => exact ⟨10000 ^ k, ra, rc, rfl, HNR.out, Nat.pow_pos (by omega), root_start k hk1, Nat.le_refl _, HP.out, hbw⟩
  case round =>
    obtain ⟨R, ra', rc', rfl, hR, hR0, hRX, hRk, hP, hb⟩ := hrel
    have q2 := hP.x1
    have hx0 := nm_pos HNA.out
    have HR := Lib.hid hR
    have HB := Lib.hid hb
    have HRX := Lib.hid hRX
    have HRk := Lib.hid hRk
    have hwr := hb.size
    have hfR : (dig 10000 R).length ≤ 51 := (dig_length_le (by omega) _ _).2 (Nat.lt_of_le_of_lt hRk (Nat.pow_lt_pow_right (by omega) (by omega)))
    clear hR hRX hRk hb HNR HP hbw hk hmk1 hmk
    rcases Nat.eq_zero_or_pos m1 with h0 | h0
    · have hz := hx0.2 h0
      clear hx0
      rw [hz] at q2
      go_wp2
      refine bodyPost_ret (v := .tuple #[.string ⟨#[48]⟩, .int .i64 0]) ?_ rfl ⟨⟨0, ⟨#[48]⟩, by omega, by have := HSA.out; omega, by decide, rfl⟩, hb1.trans (HB.out.mono hw1)⟩
      simp [results, Tryz.results21, go_sem]
    · have hz : 0 < (dig 10000 m1).length := by omega
      clear hx0
      have hq50 : (dig 10000 (m1 / R)).length ≤ 50 := Nat.le_trans (dig_length_mono (by omega) (Nat.div_le_self m1 R)) hf1
      have hs52 : (dig 10000 (R + m1 / R)).length ≤ 52 := by
        have e1 := (dig_length_le (B := 10000) (by omega) R 51).1 hfR
        have e2 := (dig_length_le (B := 10000) (by omega) (m1 / R) 50).1 hq50
        refine (dig_length_le (by omega) _ _).2 ?_
        omega
      go_wp2_with (first
        | (go_at_call 42; refine (over_any _ _ (R + m1 / R) 2 _ _ _ _ _ (by exact HS.out.below (Below.al _) (Nat.le_refl _)) (by exact nm_two rfl _) (by exact (Below.al _).size) (by simp) (by omega) (by decide) (by omega)).mono ?_; rintro e w5 ⟨⟨q, s, rfl, hq, hs⟩, hb5⟩; obtain ⟨na, nc, rfl⟩ : ∃ a cap, q = .slice a (dig 10000 ((R + m1 / R) / 2)).length cap := (by obtain ⟨a, cap, e, _⟩ := hq; exact ⟨a, cap, e⟩); obtain ⟨sa2, sc2, rfl⟩ : ∃ a cap, s = .slice a (dig 10000 ((R + m1 / R) % 2)).length cap := (by obtain ⟨a, cap, e, _⟩ := hs; exact ⟨a, cap, e⟩); have HN := Lib.hid hq; clear hq hs; have hb45 : Below w4.heap.size w4 w5 := (Below.al _).trans (hb5.mono (Below.al _).size); have hb35 : Below w3.heap.size w3 w5 := hb4.trans (hb45.mono hb4.size); have hbr5 : Below wr.heap.size wr w5 := hb3.trans (hb35.mono hb3.size))
        | (go_at_call 42; refine (over_any _ _ m1 R _ _ _ _ _ (by exact HNA.out.below HB.out (Nat.le_refl _)) (by exact HR.out) (by exact HB.out.size) (Nat.le_refl _) (by omega) (by omega) hR0).mono ?_; rintro e w3 ⟨⟨q, s, rfl, hq, hs⟩, hb3⟩; obtain ⟨qa, qc, rfl⟩ : ∃ a cap, q = .slice a (dig 10000 (m1 / R)).length cap := (by obtain ⟨a, cap, e, _⟩ := hq; exact ⟨a, cap, e⟩); obtain ⟨sa, sc, rfl⟩ : ∃ a cap, s = .slice a (dig 10000 (m1 % R)).length cap := (by obtain ⟨a, cap, e, _⟩ := hs; exact ⟨a, cap, e⟩); have HQ := Lib.hid hq; clear hq hs)
        | (go_at_call 43; refine (plus_any _ _ R (m1 / R) _ _ _ _ _ (by exact HR.out.below hb3 (Nat.le_refl _)) (by exact HQ.out) (by exact hb3.size) (Nat.le_refl _) (by unfold Few; omega) (by unfold Few; omega)).mono ?_; rintro e w4 ⟨⟨v, rfl, hv⟩, hb4⟩; obtain ⟨pa, pc, rfl⟩ : ∃ a cap, v = .slice a (dig 10000 (R + m1 / R)).length cap := (by obtain ⟨a, cap, e, _⟩ := hv; exact ⟨a, cap, e⟩); have HS := Lib.hid hv; clear hv)
        | (go_at_call 46; refine (compare_any _ _ ((R + m1 / R) / 2) R _ _ _ _ _ (by exact HN.out) (by exact HR.out.below hbr5 (Nat.le_refl _)) (Nat.le_refl _) (by exact hbr5.size)).mono ?_; rintro e w6 ⟨rfl, hb6⟩)
        | (go_at_call 40; have h2 : R ≤ (R + m1 / R) / 2 := (cmpI_nonneg _ _).1 (by push_cast; assumption); have h3 := newton_stop hR0 h2; have hbr6 : Below wr.heap.size wr w6 := hbr5.trans (hb6.mono hbr5.size); refine (text_small _ (R : Int) _ _ _ (by exact HG1.out.below (HB.out.trans (hbr6.mono hwr))) (by exact Zg.of (neg := false) (HR.out.below hbr6 (Nat.le_refl _)) rfl) (by exact hbr6.size) (by exact root_small hx HSA.out h3)).mono ?_; rintro e w7 ⟨⟨s, hs, rfl⟩, hb7⟩; have HSs := Lib.hid hs; clear hs))
      · refine bodyPost_ret (v := .tuple #[.string s, .int .i64 0]) ?_ rfl ⟨⟨R, s, by rw [← HSA.out]; exact h3, by rw [← HSA.out]; exact HRX.out, HSs.out, rfl⟩, hb1.trans ((HB.out.trans ((hbr6.trans (hb7.mono hbr6.size)).mono hwr)).mono hw1)⟩
        simp [results, Tryz.results21, go_sem]
      · have h2 : ¬ R ≤ (R + m1 / R) / 2 := fun h => by
          have h4 := (cmpI_nonneg ((R + m1 / R) / 2) R).2 h
          push_cast at h4
          omega
        have hbr6 : Below wr.heap.size wr w6 := hbr5.trans (hb6.mono hbr5.size)
        have hN6 : Nm w6 (.slice na (dig 10000 ((R + m1 / R) / 2)).length nc) ((R + m1 / R) / 2) w1.heap.size w6.heap.size := (HN.out.below hb6 (Nat.le_refl _)).mono (by have := hb4.size; have := hb3.size; simp; omega) hb6.size
        have hne := newton (X := m1) hR0
        refine ⟨⟨(R + m1 / R) / 2, na, nc, rfl, hN6, ?_, hne, Nat.le_trans (by omega) HRk.out, hP.below hbr6, HB.out.trans (hbr6.mono hwr)⟩, ?_⟩
        · rcases Nat.eq_zero_or_pos ((R + m1 / R) / 2) with h | h
          · rw [h] at hne; omega
          · exact h
        · rw [hMU.out _ _ _ _ _ hN6, hMU.out _ _ _ _ _ HR.out]; omega
end Go.Proofs.YtiefodlhnpondaaGreatDoor
