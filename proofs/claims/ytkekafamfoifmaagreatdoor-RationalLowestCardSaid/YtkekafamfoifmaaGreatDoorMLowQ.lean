/-
  The law RationalLowest: whatever integers it is made of, a fraction is valid and in lowest terms.
-/
import Derived.Test.YtkekafamfoifmaaGreatDoorZSane
import Derived.Test.YtkekafamfoifmaaGreatDoorMLng
import Derived.Test.YtkekafamfoifmaaGreatDoorZLimQP
namespace Go.Proofs.YtkekafamfoifmaaGreatDoor
open Go.RowKit Go.Shelf
attribute [local go_sem] Oper.semAt_some

theorem L100.rat {r : Rat} (h : L100 r) : ratO (str r.num) (str (r.den : Int)) = some r := ratO_str h.fits
/-- What the callees answer, at a fraction of at most 100 digits and a factor. -/
theorem low_facts {w : World} (hq : QOps w) {k : Int} (hk : k ≠ 0) (hk2 : k.natAbs ≤ 1000000) (r : Rat) (hr : L100 r) :
    Hid (∀ W, Calls Tryz.prog 21 #[.string (str r.num), .string (str k)] W fun e W' => e = .returned (.tuple #[.string (str (r.num * k)), .int .i64 0]) ∧ Below W.heap.size W W') ∧
    Hid (∀ W, Calls Tryz.prog 21 #[.string (str (r.den : Int)), .string (str k)] W fun e W' => e = .returned (.tuple #[.string (str ((r.den : Int) * k)), .int .i64 0]) ∧ Below W.heap.size W W') ∧
    Hid (∀ L W, BxAt L w W → Calls Tryz.prog 22 #[.string (str (r.num * k)), .string (str ((r.den : Int) * k))] W fun e W' => e = .returned (.tuple #[.agg #[.string (str r.num), .string (str (r.den : Int))], .int .i64 0]) ∧ BxAt L w W') ∧
    Hid (∀ L W, BxAt L w W → Calls Tryz.prog 22 #[.string (str r.num), .string (str (r.den : Int))] W fun e W' => e = .returned (.tuple #[.agg #[.string (str r.num), .string (str (r.den : Int))], .int .i64 0]) ∧ BxAt L w W') ∧
    Hid (∀ L W, BxAt L w W → Calls Tryz.prog 17 #[.agg #[.string (str r.num), .string (str (r.den : Int))]] W fun e W' => e = .returned (.bool true) ∧ BxAt L w W') ∧
    Hid (∀ L W, BxAt L w W → Calls Tryz.prog 23 #[.agg #[.string (str r.num), .string (str (r.den : Int))], .agg #[.string (str r.num), .string (str (r.den : Int))]] W fun e W' => e = .returned (.int .i64 0) ∧ BxAt L w W') ∧
    Hid (∀ L W, BxAt L w W → Calls Tryz.prog 14 #[.agg #[.string (str r.num), .string (str (r.den : Int))]] W fun e W' => e = .returned (.string (printS (str r.num) (str (r.den : Int)))) ∧ BxAt L w W') := by
  obtain ⟨f1, f2⟩ := hr.fits
  have sk : small k = true := small_pw (k := 7) (by decide) (by omega)
  have s1 := low_smallN hr hk2
  have s2 := low_smallD hr hk2
  have z1 := sz_str f1
  have z2 := sz_str f2
  refine ⟨fun W => ?_, fun W => ?_, fun L W h => ?_, fun L W h => ?_, fun L W h => ?_, fun L W h => ?_, fun L W h => ?_⟩
  · have := rMul_all (w := W) z1 (sz_str sk) W (Below.refl _ _)
    rw [show mulO (str r.num) (str k) = some (r.num * k) by unfold mulO; rw [num_str f1, num_str sk], opS_small s1, opN_small s1] at this
    exact this
  · have := rMul_all (w := W) z2 (sz_str sk) W (Below.refl _ _)
    rw [show mulO (str (r.den : Int)) (str k) = some ((r.den : Int) * k) by unfold mulO; rw [num_str f2, num_str sk], opS_small s2, opN_small s2] at this
    exact this
  · have := Make_q (hq.below h.bw).io (sz_str s1) (sz_str s2)
    rw [makeS_some (num_str s1) (num_str s2), low_make r hk] at this
    exact h.calls this
  · have := Make_q (hq.below h.bw).io z1 z2
    rw [makeS_some (num_str f1) (num_str f2), low_one r] at this
    exact h.calls this
  · have := Valid_q z1 z2 (hq.below h.bw).io
    rw [vR_true hr.rat] at this
    exact h.calls this
  · have := Compare_some (hq.below h.bw).io hr.rat hr.rat
    rw [cmpR_eq] at this
    exact h.calls this
  · exact h.calls (Print_q (hq.below h.bw).io z1 z2)
theorem low_zero_f {w : World} (hq : QOps w) {k : Int} (hk : k ≠ 0) (hk2 : k.natAbs ≤ 1000000) (L : List (Nat × ByteArray × ByteArray)) (W : World) (h : BxAt L w W) :
    Calls Tryz.prog 22 #[.string ⟨#[48]⟩, .string (str k)] W fun e W' => e = .returned (.tuple #[.agg #[.string ⟨#[48]⟩, .string ⟨#[49]⟩], .int .i64 0]) ∧ BxAt L w W' := by
  have sk : small k = true := small_pw (k := 7) (by decide) (by omega)
  have := Make_q (hq.below h.bw).io sz_zero (sz_str sk)
  rw [makeS_some num_zero (num_str sk), low_zero hk] at this
  exact h.calls this

set_option maxRecDepth 100000 in
set_option maxHeartbeats 8000000 in
theorem Lowest_w (x0 x1 x2 x3 factor : Int) (sign : Bool) (h00 : -9223372036854775808 ≤ x0) (h01 : x0 ≤ 9223372036854775807) (h10 : -9223372036854775808 ≤ x1) (h11 : x1 ≤ 9223372036854775807) (h20 : -9223372036854775808 ≤ x2) (h21 : x2 ≤ 9223372036854775807) (h30 : -9223372036854775808 ≤ x3) (h31 : x3 ≤ 9223372036854775807) (f0 : -9223372036854775808 ≤ factor) (f1 : factor ≤ 9223372036854775807) {w : World} (hq : QOps w)
    (K : Nat) (eK : K = pickN factor 1000000) (k : Int) (ek : k = if sign = true then -(1 + (K : Int)) else 1 + (K : Int)) :
    Calls Tryz.prog 4 #[.agg #[.int .i64 x0, .int .i64 x1, .int .i64 x2, .int .i64 x3], .int .i64 factor, .bool sign] w fun e W' => e = .returned (.bool true) ∧ Below w.heap.size w W' := by
  have hK : K < 1000000 := by rw [eK]; exact pickN_lt _ (by decide)
  have hk : k ≠ 0 := by cases sign <;> simp at ek <;> omega
  have hk2 : k.natAbs ≤ 1000000 := by cases sign <;> simp at ek <;> omega
  have KS := Lib.hid (fun (W : World) (h : Below w.heap.size w W) => sane_q (hq.below h))
  have KL := Lib.hid (fun (W : World) => Long_f x0 x1 x2 x3 h00 h01 h10 h11 h20 h21 h30 h31 W)
  have KP := Lib.hid (fun W => by have := pick_l factor 1000000 f0 f1 (by decide) (by decide) W; rw [← eK, show ((1000000 : Nat) : Int) = 1000000 from rfl] at this; exact this)
  have KF := Lib.hid (fun (W : World) => rFromInt_s (w := W) (z := k) (by omega) (by omega) rfl W (Below.refl _ _))
  have LF := Lib.hid (fun (r : Rat) (hr : L100 r) => low_facts hq hk hk2 r hr)
  have KZ := Lib.hid (fun L W h => low_zero_f hq hk hk2 L W h)
  have KI := Lib.hid (fun (n d : ByteArray) (L : List (Nat × ByteArray × ByteArray)) (W : World) (h : BxAt L w W) => h.calls (is_b n d W))
  have H0 := Lib.hid ((BxAt.start w).al (.cells #[.int .i64 x0, .int .i64 x1, .int .i64 x2, .int .i64 x3] 24))
  have XA := Lib.hid (ArAt.start w #[.int .i64 x0, .int .i64 x1, .int .i64 x2, .int .i64 x3] 24)
  clear hk hk2 hq eK h00 h01 h10 h11 h20 h21 h30 h31
  generalize str k = by' at KF LF KZ
  cases sign <;> simp only [if_true, if_false, Bool.false_eq_true] at ek <;> subst ek
  all_goals
    go_enter Tryz.func4, Tryz.ntmps4
    go_wp2_with (first
      | (go_at_call 11; with_reducible refine (KS.out _ H0.out.bw).mono ?_; rintro e w1 ⟨rfl, hb⟩; have X := XA.out.below hb; have a0 := X.row 0 _ rfl; have a1 := X.row 1 _ rfl; have a2 := X.row 2 _ rfl; have a3 := X.row 3 _ rfl; have H1 := Lib.hid (H0.out.below hb); clear hb X)
      | (go_at_call 12; with_reducible refine (KL.out _).mono ?_; rintro e w2 ⟨⟨r, hr, rfl⟩, hb⟩; have H2 := Lib.hid ((H1.out.below hb).push (str r.num) (str (r.den : Int)) 23); obtain ⟨M1, M2, MA, MB, V, C, P⟩ := LF.out r hr; clear hb hr)
      | (go_at_call 18; with_reducible refine (KP.out _).mono ?_; rintro e w' ⟨rfl, rfl⟩)
      | (go_at_call 20; with_reducible refine (KF.out _).mono ?_; rintro e w3 ⟨rfl, hb⟩; have hp := H2.out.below hb; obtain ⟨u30, u31, _⟩ := hp.row (w2.heap.size, str r.num, str (r.den : Int)) (by simp); have H3 := Lib.hid hp; clear hb hp)
      | (go_at_call 21; with_reducible refine (M1.out _).mono ?_; rintro e w4 ⟨rfl, hb⟩; have hp := H3.out.below hb; obtain ⟨u40, u41, _⟩ := hp.row (w2.heap.size, str r.num, str (r.den : Int)) (by simp); have H4 := Lib.hid hp; clear hb hp)
      | (go_at_call 21; with_reducible refine (M2.out _).mono ?_; rintro e w5 ⟨rfl, hb⟩; have H5 := Lib.hid (H4.out.below hb); clear hb)
      | (go_at_call 22; with_reducible refine (MA.out _ _ H5.out).mono ?_; rintro e w6 ⟨rfl, h6⟩; have hp := h6.push (str r.num) (str (r.den : Int)) 23; obtain ⟨u60, u61, _⟩ := h6.row (w2.heap.size, str r.num, str (r.den : Int)) (by simp); have H6 := Lib.hid hp; clear h6 hp)
      | (go_at_call 22; with_reducible refine (MB.out _ _ H6.out).mono ?_; rintro e w7 ⟨rfl, h7⟩; have H7 := Lib.hid (h7.push (str r.num) (str (r.den : Int)) 23); clear h7)
      | (go_at_call 22; with_reducible refine (KZ.out _ _ H7.out).mono ?_; rintro e w8 ⟨rfl, h8⟩; have H8 := Lib.hid (h8.push ⟨#[48]⟩ ⟨#[49]⟩ 23); clear h8)
      | fail)
    have KEEP := Lib.hid (fun (W : World) (h : BxAt [(w8.heap.size, ⟨#[48]⟩, ⟨#[49]⟩), (w7.heap.size, str r.num, str (r.den : Int)), (w6.heap.size, str r.num, str (r.den : Int)), (w2.heap.size, str r.num, str (r.den : Int))] w W) => (show W.cell? ⟨w8.heap.size, 0, none⟩ = some (.string (⟨#[48]⟩)) ∧ W.cell? ⟨w8.heap.size, 1, none⟩ = some (.string (⟨#[49]⟩)) ∧ W.cell? ⟨w7.heap.size, 0, none⟩ = some (.string (str r.num)) ∧ W.cell? ⟨w7.heap.size, 1, none⟩ = some (.string (str (r.den : Int))) ∧ W.cell? ⟨w6.heap.size, 0, none⟩ = some (.string (str r.num)) ∧ W.cell? ⟨w6.heap.size, 1, none⟩ = some (.string (str (r.den : Int))) ∧ W.cell? ⟨w2.heap.size, 0, none⟩ = some (.string (str r.num)) ∧ W.cell? ⟨w2.heap.size, 1, none⟩ = some (.string (str (r.den : Int))) from ⟨(h.row (w8.heap.size, ⟨#[48]⟩, ⟨#[49]⟩) (by simp)).1, (h.row (w8.heap.size, ⟨#[48]⟩, ⟨#[49]⟩) (by simp)).2.1, (h.row (w7.heap.size, str r.num, str (r.den : Int)) (by simp)).1, (h.row (w7.heap.size, str r.num, str (r.den : Int)) (by simp)).2.1, (h.row (w6.heap.size, str r.num, str (r.den : Int)) (by simp)).1, (h.row (w6.heap.size, str r.num, str (r.den : Int)) (by simp)).2.1, (h.row (w2.heap.size, str r.num, str (r.den : Int)) (by simp)).1, (h.row (w2.heap.size, str r.num, str (r.den : Int)) (by simp)).2.1⟩))
    clear M1 M2 MA MB KZ KF KP KL LF KS XA H0 H1 H2 H3 H4 H5 H6 H7
    go_region_held3 (fun W => W.cell? ⟨w8.heap.size, 0, none⟩ = some (.string (⟨#[48]⟩)) ∧ W.cell? ⟨w8.heap.size, 1, none⟩ = some (.string (⟨#[49]⟩)) ∧ W.cell? ⟨w7.heap.size, 0, none⟩ = some (.string (str r.num)) ∧ W.cell? ⟨w7.heap.size, 1, none⟩ = some (.string (str (r.den : Int))) ∧ W.cell? ⟨w6.heap.size, 0, none⟩ = some (.string (str r.num)) ∧ W.cell? ⟨w6.heap.size, 1, none⟩ = some (.string (str (r.den : Int))) ∧ W.cell? ⟨w2.heap.size, 0, none⟩ = some (.string (str r.num)) ∧ W.cell? ⟨w2.heap.size, 1, none⟩ = some (.string (str (r.den : Int)))) (first | with_reducible exact KEEP.out _ H13.out | with_reducible exact KEEP.out _ H12.out | with_reducible exact KEEP.out _ H11.out | with_reducible exact KEEP.out _ H10.out | with_reducible exact KEEP.out _ H9.out | with_reducible exact KEEP.out _ H8.out.drew | with_reducible exact KEEP.out _ H8.out) (first
      | (have _ := H12; go_at_call 14; refine (P.out _ _ (by first | with_reducible exact H12.out | with_reducible exact H12.out.drew)).mono ?_; rintro e w13 ⟨rfl, h13⟩; have H13 := Lib.hid h13; clear h13)
      | (have _ := H11; go_at_call 14; refine (P.out _ _ (by first | with_reducible exact H11.out | with_reducible exact H11.out.drew)).mono ?_; rintro e w12 ⟨rfl, h12⟩; have H12 := Lib.hid h12; clear h12)
      | (have _ := H10; go_at_call 24; refine (KI.out _ _ _ _ (by first | with_reducible exact H10.out | with_reducible exact H10.out.drew)).mono ?_; rintro e w11 ⟨rfl, h11⟩; have H11 := Lib.hid h11; clear h11)
      | (have _ := H9; go_at_call 23; refine (C.out _ _ (by first | with_reducible exact H9.out | with_reducible exact H9.out.drew)).mono ?_; rintro e w10 ⟨rfl, h10⟩; have H10 := Lib.hid h10; clear h10)
      | (have _ := H8; go_at_call 17; refine (V.out _ _ (by first | with_reducible exact H8.out | with_reducible exact H8.out.drew)).mono ?_; rintro e w9 ⟨rfl, h9⟩; have H9 := Lib.hid h9; clear h9)
      )
    all_goals
      go_wp2
      go_ret
      exact ⟨rfl, H13.out.bw⟩
theorem RationalLowest_law (x0 x1 x2 x3 factor : Int) (sign : Bool) (h0 : -9223372036854775808 ≤ x0 ∧ x0 ≤ 9223372036854775807) (h1 : -9223372036854775808 ≤ x1 ∧ x1 ≤ 9223372036854775807) (h2 : -9223372036854775808 ≤ x2 ∧ x2 ≤ 9223372036854775807) (h3 : -9223372036854775808 ≤ x3 ∧ x3 ≤ 9223372036854775807) (hf : -9223372036854775808 ≤ factor ∧ factor ≤ 9223372036854775807) (w : World) (hq : QOps w) :
    Calls Tryz.prog 4 #[.agg #[.int .i64 x0, .int .i64 x1, .int .i64 x2, .int .i64 x3], .int .i64 factor, .bool sign] w fun e W' => e = .returned (.bool true) ∧ Below w.heap.size w W' :=
  Lowest_w x0 x1 x2 x3 factor sign h0.1 h0.2 h1.1 h1.2 h2.1 h2.2 h3.1 h3.2 hf.1 hf.2 hq _ rfl _ rfl
end Go.Proofs.YtkekafamfoifmaaGreatDoor
