/-
  The law RationalGrid: Down and Up are multiples of the grid, with the value between them.
-/
import Derived.Test.YtkekafamfoifmaaGreatDoorZSane
import Derived.Test.YtkekafamfoifmaaGreatDoorMLng
import Derived.Test.YtkekafamfoifmaaGreatDoorMMinQ
namespace Go.Proofs.YtkekafamfoifmaaGreatDoor
open Go.RowKit Go.Shelf
attribute [local go_sem] Oper.semAt_some

theorem gridS_at {f : Rat → Nat → Option Rat} {n d : ByteArray} {a : Rat} {K : Nat} (h : ratO n d = some a) (hK : K ≤ 30) : gridS f n d (K : Int) = f a K := by
  unfold gridS
  rw [h]
  show (if _ then _ else _) = _
  rw [if_pos (by omega), Int.toNat_natCast]
theorem down_fits {r a : Rat} {k : Nat} (hk : k ≤ 30) (h : downR r k = some a) : fitsR a := by
  unfold downR at h
  split at h
  case isTrue hs => exact make_fits (small_div _ hs) (small_pow (by omega)) h
  case isFalse => cases h
theorem up_fits {r a : Rat} {k : Nat} (hk : k ≤ 30) (h : upR r k = some a) : fitsR a := by
  unfold upR at h
  split at h
  case isTrue hs =>
    by_cases hm : r.num * 10 ^ k % r.den = 0
    · rw [if_pos hm] at h
      exact make_fits (small_div _ hs) (small_pow (by omega)) h
    · rw [if_neg hm] at h
      exact make_fits (up_small (rat_dpos r) hs hm) (small_pow (by omega)) h
  case isFalse => cases h
theorem fits_neg {a : Rat} (h : fitsR a) : fitsR (-a) := by
  unfold fitsR
  rw [Rat.neg_num, Rat.neg_den]
  exact ⟨small_neg h.1, h.2⟩
theorem BxAt.tail {x : Nat × ByteArray × ByteArray} {L : List (Nat × ByteArray × ByteArray)} {w W : World} (h : BxAt (x :: L) w W) : BxAt L w W := ⟨h.bw, fun y hy => h.row y (List.mem_cons_of_mem _ hy)⟩
/-- What the callees answer, at a fraction of at most 100 digits and a number of places. -/
theorem grd_facts {w : World} (hq : QOps w) {K : Nat} (hK : K ≤ 30) (r : Rat) (hr : L100 r) : ∃ (aN aD bN bD mN mD cN cD qT wN wD : ByteArray) (c1 c2 : Int),
    Hid (∀ L W, BxAt L w W → Calls Tryz.prog 35 #[.agg #[.string (str r.num), .string (str (r.den : Int))], .int .i64 (K : Int)] W fun e W' => e = .returned (.tuple #[.agg #[.string (aN), .string (aD)], .int .i64 0]) ∧ BxAt L w W') ∧
    Hid (∀ L W, BxAt L w W → Calls Tryz.prog 37 #[.agg #[.string (str r.num), .string (str (r.den : Int))], .int .i64 (K : Int)] W fun e W' => e = .returned (.tuple #[.agg #[.string (bN), .string (bD)], .int .i64 0]) ∧ BxAt L w W') ∧
    Hid (∀ L W, BxAt L w W → Calls Tryz.prog 45 #[.agg #[.string (str r.num), .string (str (r.den : Int))]] W fun e W' => e = .returned (.agg #[.string (mN), .string (mD)]) ∧ BxAt L w W') ∧
    Hid (∀ L W, BxAt L w W → Calls Tryz.prog 35 #[.agg #[.string (mN), .string (mD)], .int .i64 (K : Int)] W fun e W' => e = .returned (.tuple #[.agg #[.string (cN), .string (cD)], .int .i64 0]) ∧ BxAt L w W') ∧
    Hid (∀ L W, BxAt L w W → Calls Tryz.prog 45 #[.agg #[.string (cN), .string (cD)]] W fun e W' => e = .returned (.agg #[.string (bN), .string (bD)]) ∧ BxAt L w W') ∧
    Hid (∀ L W, BxAt L w W → Calls Tryz.prog 23 #[.agg #[.string (aN), .string (aD)], .agg #[.string (str r.num), .string (str (r.den : Int))]] W fun e W' => e = .returned (.int .i64 c1) ∧ BxAt L w W') ∧
    Hid (∀ L W, BxAt L w W → Calls Tryz.prog 23 #[.agg #[.string (bN), .string (bD)], .agg #[.string (str r.num), .string (str (r.den : Int))]] W fun e W' => e = .returned (.int .i64 c2) ∧ BxAt L w W') ∧
    Hid (∀ L W, BxAt L w W → Calls Tryz.prog 35 #[.agg #[.string (bN), .string (bD)], .int .i64 (K : Int)] W fun e W' => e = .returned (.tuple #[.agg #[.string (bN), .string (bD)], .int .i64 0]) ∧ BxAt L w W') ∧
    Hid (∀ L W, BxAt L w W → Calls Tryz.prog 37 #[.agg #[.string (aN), .string (aD)], .int .i64 (K : Int)] W fun e W' => e = .returned (.tuple #[.agg #[.string (aN), .string (aD)], .int .i64 0]) ∧ BxAt L w W') ∧
    Hid (∀ W, Below w.heap.size w W → Calls Tryz.prog 25 #[.agg #[.string (aN), .string (aD)], .agg #[.string (str ((10 : Int) ^ K)), .string (⟨#[49]⟩)]] W fun e W' => e = .returned (.tuple #[.agg #[.string (qT), .string (⟨#[49]⟩)], .int .i64 0]) ∧ Below W.heap.size W W') ∧
    Hid (∀ L W, BxAt L w W → Calls Tryz.prog 44 #[.agg #[.string (bN), .string (bD)], .agg #[.string (aN), .string (aD)]] W fun e W' => e = .returned (.tuple #[.agg #[.string (wN), .string (wD)], .int .i64 0]) ∧ BxAt L w W') ∧ (c1 = 0 ∧ c2 = 0 ∧ wN = ⟨#[48]⟩ ∧ wD = ⟨#[49]⟩ ∨ c1 = -1 ∧ c2 = 1 ∧ wN = ⟨#[49]⟩ ∧ wD = str ((10 : Int) ^ K)) := by
  obtain ⟨q, e, G⟩ := grd_main hr hK
  obtain ⟨e01, dn, up, ng, dg, nn, le, ge, ag, tw, ml, wd, e1, e2⟩ := G
  have fr := hr.fits
  have fa := down_fits hK dn
  have fb := up_fits hK up
  have fm := fits_neg fr
  have fc := fits_neg fb
  generalize Rat.divInt q (10 ^ K) = A at *
  generalize Rat.divInt (q + e) (10 ^ K) = B at *
  have rr := ratO_str fr
  have ra := ratO_str fa
  have rb := ratO_str fb
  have rm := ratO_str fm
  have rc := ratO_str fc
  have tt := ratO_ten (k := K) (by omega)
  have k1 : -9223372036854775808 ≤ (K : Int) := by omega
  have k2 : (K : Int) ≤ 9223372036854775807 := by omega
  have z0 : ratO ⟨#[48]⟩ ⟨#[49]⟩ = some 0 := by decide +kernel
  refine ⟨str A.num, str (A.den : Int), str B.num, str (B.den : Int), str (-r).num, str ((-r).den : Int), str (-B).num, str ((-B).den : Int), str q, str (Rat.divInt e (10 ^ K)).num, str ((Rat.divInt e (10 ^ K)).den : Int), cmpR A r, cmpR B r, ?_⟩
  refine ⟨fun L W h => ?_, fun L W h => ?_, fun L W h => ?_, fun L W h => ?_, fun L W h => ?_, fun L W h => ?_, fun L W h => ?_, fun L W h => ?_, fun L W h => ?_, fun W h => ?_, fun L W h => ?_, ?_⟩
  · have := Down_q (hq.below h.bw).io (sz_str fr.1) (sz_str fr.2) k1 k2
    rw [gridS_at rr hK, dn] at this
    exact h.calls this
  · have := Up_q (hq.below h.bw).io (sz_str fr.1) (sz_str fr.2) k1 k2
    rw [gridS_at rr hK, up] at this
    exact h.calls this
  · exact h.calls (minus_l (hq.below h.bw).io (sz_str fr.1) (sz_str fr.2) (o := some (-r)) (by rw [op2_some z0 rr, ng]))
  · have := Down_q (hq.below h.bw).io (sz_str fm.1) (sz_str fm.2) k1 k2
    rw [gridS_at rm hK, dg] at this
    exact h.calls this
  · exact h.calls (minus_l (hq.below h.bw).io (sz_str fc.1) (sz_str fc.2) (o := some B) (by rw [op2_some z0 rc, nn]))
  · exact h.calls (Compare_some (hq.below h.bw).io ra rr)
  · exact h.calls (Compare_some (hq.below h.bw).io rb rr)
  · have := Down_q (hq.below h.bw).io (sz_str fb.1) (sz_str fb.2) k1 k2
    rw [gridS_at rb hK, ag] at this
    exact h.calls this
  · have := Up_q (hq.below h.bw).io (sz_str fa.1) (sz_str fa.2) k1 k2
    rw [gridS_at ra hK, tw] at this
    exact h.calls this
  · have := Mul_q (hq.below h).io (sz_str fa.1) (sz_str fa.2) (sz_str (small_pow (k := K) (by omega))) sz_one
    rw [op2_some ra tt, ml] at this
    exact this
  · have := Sub_q (hq.below h.bw).io (sz_str fb.1) (sz_str fb.2) (sz_str fa.1) (sz_str fa.2)
    rw [op2_some rb ra, wd] at this
    exact h.calls this
  · rcases e01 with rfl | rfl
    · left
      rw [Rat.zero_divInt]
      exact ⟨e1.2 rfl, e2.2 rfl, rfl, rfl⟩
    · right
      obtain ⟨t1, t2⟩ := tenth_low K
      rw [t1, t2]
      have r1 := cmpR_range A r
      have r2 := cmpR_range B r
      have n1 : cmpR A r ≠ 0 := fun h => absurd (e1.1 h) (by decide)
      have n2 : cmpR B r ≠ 0 := fun h => absurd (e2.1 h) (by decide)
      exact ⟨by omega, by omega, rfl, rfl⟩

set_option maxRecDepth 100000 in
set_option maxHeartbeats 16000000 in
theorem Grid_w (x0 x1 x2 x3 places : Int) (h00 : -9223372036854775808 ≤ x0) (h01 : x0 ≤ 9223372036854775807) (h10 : -9223372036854775808 ≤ x1) (h11 : x1 ≤ 9223372036854775807) (h20 : -9223372036854775808 ≤ x2) (h21 : x2 ≤ 9223372036854775807) (h30 : -9223372036854775808 ≤ x3) (h31 : x3 ≤ 9223372036854775807) (p0 : -9223372036854775808 ≤ places) (p1 : places ≤ 9223372036854775807) {w : World} (hq : QOps w) (K : Nat) (eK : K = pickN places 31) :
    Calls Tryz.prog 10 #[.agg #[.int .i64 x0, .int .i64 x1, .int .i64 x2, .int .i64 x3], .int .i64 places] w fun e W' => e = .returned (.bool true) ∧ Below w.heap.size w W' := by
  have hK : K < 31 := by rw [eK]; exact pickN_lt _ (by decide)
  have KS := Lib.hid (fun (W : World) (h : Below w.heap.size w W) => sane_q (hq.below h))
  have KL := Lib.hid (fun (W : World) => Long_f x0 x1 x2 x3 h00 h01 h10 h11 h20 h21 h30 h31 W)
  have KP := Lib.hid (fun W => by have := pick_l places 31 p0 p1 (by decide) (by decide) W; rw [← eK, show ((31 : Nat) : Int) = 31 from rfl] at this; exact this)
  have GF := Lib.hid (fun (r : Rat) (hr : L100 r) => grd_facts hq (K := K) (by omega) r hr)
  have KI := Lib.hid (fun (n d : ByteArray) (L : List (Nat × ByteArray × ByteArray)) (W : World) (h : BxAt L w W) => h.calls (is_b n d W))
  have H0 := Lib.hid ((BxAt.start w).al (.cells #[.int .i64 x0, .int .i64 x1, .int .i64 x2, .int .i64 x3] 24))
  have XA := Lib.hid (ArAt.start w #[.int .i64 x0, .int .i64 x1, .int .i64 x2, .int .i64 x3] 24)
  have ETt := Lib.hid (fun (t : ByteArray) (h : t.data.toList = 49 :: List.replicate K 48) => str_zeros h)
  have hT0 : K = 0 → str ((10 : Int) ^ K) = ⟨#[49]⟩ := fun h => by rw [h]; rfl
  clear hq eK h00 h01 h10 h11 h20 h21 h30 h31
  generalize str ((10 : Int) ^ K) = tK at GF ETt hT0
  have HT0 := Lib.hid hT0
  clear hT0
  go_enter Tryz.func10, Tryz.ntmps10
  go_wp2_with (first
    | (go_at_call 11; with_reducible refine (KS.out _ H0.out.bw).mono ?_; rintro e w1 ⟨rfl, hb⟩; have X := XA.out.below hb; have a0 := X.row 0 _ rfl; have a1 := X.row 1 _ rfl; have a2 := X.row 2 _ rfl; have a3 := X.row 3 _ rfl; have H1 := Lib.hid (H0.out.below hb); clear hb X)
    | (go_at_call 12; with_reducible refine (KL.out _).mono ?_; rintro e w2 ⟨⟨r, hr, rfl⟩, hb⟩; have H2 := Lib.hid ((H1.out.below hb).push (str r.num) (str (r.den : Int)) 23); have HR := Lib.hid hr; clear hb hr a0 a1 a2 a3)
    | (go_at_call 18; with_reducible refine (KP.out _).mono ?_; rintro e w' ⟨rfl, rfl⟩)
    | fail)
  obtain ⟨aN, aD, bN, bD, mN, mD, cN, cD, qT, wN, wD, c1, c2, D1, U1, N1, D2, N2, C1, C2, D3, U3, MLB, SB, hcs⟩ := GF.out r HR.out
  clear GF HR
  have hcs := Lib.hid hcs
  go_loop [7, 8] (fun s i => ∃ (j : Nat) (t : ByteArray), j ≤ K ∧ i = .int .i64 j ∧ s = .string t ∧ t.size = j + 1 ∧ t.data.toList = 49 :: List.replicate j 48) (fun _ i => K - (intOf i).toNat)
  case atStart => exact ⟨0, ⟨#[49]⟩, Nat.zero_le _, rfl, rfl, rfl, rfl⟩
  case round =>
    obtain ⟨j, t, hj, rfl, rfl, hts, ht⟩ := hrel
    have HT := Lib.hid ht
    clear ht
    by_cases hlt : j < K
    · go_wp2
      refine ⟨⟨j + 1, _, by omega, by go_num, rfl, ?_, ?_⟩, by simp only [intOf]; omega⟩
      · rw [ba_size, ba_append, HT.out]; simp
      · rw [ba_append, HT.out, List.replicate_succ']; rfl
    · have hjN : K = j := by omega
      subst hjN
      have ht' : tK = t := (ETt.out t HT.out).symm
      subst ht'
      clear hts HT hlt hj
      have hr0 := H2.out.row (w2.heap.size, str r.num, str (r.den : Int)) (by simp)
      obtain ⟨r0, r1, _⟩ := hr0
      go_wp2_with (first
        | (go_at_call 35; with_reducible refine (D1.out _ _ H2.out).mono ?_; rintro e w3 ⟨rfl, h3⟩; obtain ⟨r0_3, r1_3, _⟩ := h3.row (w2.heap.size, str r.num, str (r.den : Int)) (by simp); have H3 := Lib.hid (h3.push aN aD 23); clear h3)
        | (go_at_call 37; with_reducible refine (U1.out _ _ H3.out).mono ?_; rintro e w4 ⟨rfl, h4⟩; obtain ⟨r0_4, r1_4, _⟩ := h4.row (w2.heap.size, str r.num, str (r.den : Int)) (by simp); have H4 := Lib.hid (h4.push bN bD 23); clear h4)
        | (go_at_call 45; with_reducible refine (N1.out _ _ H4.out).mono ?_; rintro e w5 ⟨rfl, h5⟩; have H5 := Lib.hid h5; clear h5)
        | (go_at_call 35; with_reducible refine (D2.out _ _ H5.out).mono ?_; rintro e w6 ⟨rfl, h6⟩; have H6 := Lib.hid (h6.push cN cD 23); clear h6)
        | fail)
      have hcs := hcs.out
      rcases hcs with ⟨rfl, rfl, rfl, rfl⟩ | ⟨rfl, rfl, rfl, hw⟩
      · have KEEP := Lib.hid (fun (W : World) (h : BxAt [(w6.heap.size, cN, cD), (w4.heap.size, bN, bD), (w3.heap.size, aN, aD), (w2.heap.size, str r.num, str (r.den : Int))] w W) => (show W.cell? ⟨w6.heap.size, 0, none⟩ = some (.string (cN)) ∧ W.cell? ⟨w6.heap.size, 1, none⟩ = some (.string (cD)) ∧ W.cell? ⟨w4.heap.size, 0, none⟩ = some (.string (bN)) ∧ W.cell? ⟨w4.heap.size, 1, none⟩ = some (.string (bD)) ∧ W.cell? ⟨w3.heap.size, 0, none⟩ = some (.string (aN)) ∧ W.cell? ⟨w3.heap.size, 1, none⟩ = some (.string (aD)) ∧ W.cell? ⟨w2.heap.size, 0, none⟩ = some (.string (str r.num)) ∧ W.cell? ⟨w2.heap.size, 1, none⟩ = some (.string (str (r.den : Int))) from ⟨(h.row (w6.heap.size, cN, cD) (by simp)).1, (h.row (w6.heap.size, cN, cD) (by simp)).2.1, (h.row (w4.heap.size, bN, bD) (by simp)).1, (h.row (w4.heap.size, bN, bD) (by simp)).2.1, (h.row (w3.heap.size, aN, aD) (by simp)).1, (h.row (w3.heap.size, aN, aD) (by simp)).2.1, (h.row (w2.heap.size, str r.num, str (r.den : Int)) (by simp)).1, (h.row (w2.heap.size, str r.num, str (r.den : Int)) (by simp)).2.1⟩))
        go_region_held3 (fun W => W.cell? ⟨w6.heap.size, 0, none⟩ = some (.string (cN)) ∧ W.cell? ⟨w6.heap.size, 1, none⟩ = some (.string (cD)) ∧ W.cell? ⟨w4.heap.size, 0, none⟩ = some (.string (bN)) ∧ W.cell? ⟨w4.heap.size, 1, none⟩ = some (.string (bD)) ∧ W.cell? ⟨w3.heap.size, 0, none⟩ = some (.string (aN)) ∧ W.cell? ⟨w3.heap.size, 1, none⟩ = some (.string (aD)) ∧ W.cell? ⟨w2.heap.size, 0, none⟩ = some (.string (str r.num)) ∧ W.cell? ⟨w2.heap.size, 1, none⟩ = some (.string (str (r.den : Int)))) (first | with_reducible exact KEEP.out _ H9.out | with_reducible exact KEEP.out _ H8.out | with_reducible exact KEEP.out _ H7.out | with_reducible exact KEEP.out _ H6.out.drew | with_reducible exact KEEP.out _ H6.out) (first
          | (have _ := H8; go_at_call 23; refine (C2.out _ _ (by first | with_reducible exact H8.out | with_reducible exact H8.out.drew)).mono ?_; rintro e w9 ⟨rfl, h9⟩; have H9 := Lib.hid h9; clear h9)
          | (have _ := H7; go_at_call 23; refine (C1.out _ _ (by first | with_reducible exact H7.out | with_reducible exact H7.out.drew)).mono ?_; rintro e w8 ⟨rfl, h8⟩; have H8 := Lib.hid h8; clear h8)
          | (have _ := H6; go_at_call 45; refine (N2.out _ _ (by first | with_reducible exact H6.out | with_reducible exact H6.out.drew)).mono ?_; rintro e w7 ⟨rfl, h7⟩; have H7 := Lib.hid h7; clear h7)
          )
        all_goals
          obtain ⟨b0_9, b1_9, _⟩ := H9.out.row (w4.heap.size, bN, bD) (by simp)
          go_wp2_with (first
            | (go_at_call 35; with_reducible refine (D3.out _ _ H9.out).mono ?_; rintro e w10 ⟨rfl, h10⟩; obtain ⟨a0_10, a1_10, _⟩ := h10.row (w3.heap.size, aN, aD) (by simp); have H10 := Lib.hid (h10.push bN bD 23); clear h10)
            | (go_at_call 37; with_reducible refine (U3.out _ _ H10.out).mono ?_; rintro e w11 ⟨rfl, h11⟩; have H11 := Lib.hid (h11.push aN aD 23); clear h11)
            | fail)
          go_cut [19, 20] from 25 (fun v19 v20 wX => ∃ X, v19 = .pointer (some ⟨X, 0, none⟩) ∧ v20 = .int .i64 0 ∧ BxAt ((X, qT, ⟨#[49]⟩) :: [(w11.heap.size, aN, aD), (w10.heap.size, bN, bD), (w6.heap.size, cN, cD), (w4.heap.size, bN, bD), (w3.heap.size, aN, aD), (w2.heap.size, str r.num, str (r.den : Int))]) w wX)
          case first =>
            go_region_held3 (fun W => W.cell? ⟨w3.heap.size, 0, none⟩ = some (.string aN) ∧ W.cell? ⟨w3.heap.size, 1, none⟩ = some (.string aD)) (first | exact ⟨((H13.out.set2 H12.out rfl _ _).row (w3.heap.size, aN, aD) (by simp)).1, ((H13.out.set2 H12.out rfl _ _).row (w3.heap.size, aN, aD) (by simp)).2.1⟩ | exact ⟨((H13.out.set2 H11.out (by simp) _ _).row (w3.heap.size, aN, aD) (by simp)).1, ((H13.out.set2 H11.out (by simp) _ _).row (w3.heap.size, aN, aD) (by simp)).2.1⟩ | exact ⟨(H13.out.row (w3.heap.size, aN, aD) (by simp)).1, (H13.out.row (w3.heap.size, aN, aD) (by simp)).2.1⟩ | exact ⟨((H13.out.al _).row (w3.heap.size, aN, aD) (by simp)).1, ((H13.out.al _).row (w3.heap.size, aN, aD) (by simp)).2.1⟩ | exact ⟨(H12.out.row (w3.heap.size, aN, aD) (by simp)).1, (H12.out.row (w3.heap.size, aN, aD) (by simp)).2.1⟩ | exact ⟨((H12.out.al _).row (w3.heap.size, aN, aD) (by simp)).1, ((H12.out.al _).row (w3.heap.size, aN, aD) (by simp)).2.1⟩ | exact ⟨(H11.out.row (w3.heap.size, aN, aD) (by simp)).1, (H11.out.row (w3.heap.size, aN, aD) (by simp)).2.1⟩ | exact ⟨((H11.out.al _).row (w3.heap.size, aN, aD) (by simp)).1, ((H11.out.al _).row (w3.heap.size, aN, aD) (by simp)).2.1⟩ | exact ⟨(H11.out.drew.row (w3.heap.size, aN, aD) (by simp)).1, (H11.out.drew.row (w3.heap.size, aN, aD) (by simp)).2.1⟩) (first
              | (go_at_call 24; refine (is_b _ _ _).mono ?_; rintro e w12 ⟨rfl, hb12⟩; have H12 := Lib.hid (BxAt.below (by first | exact H11.out.drew | exact (H11.out.drew).al _ | exact (H11.out.al _).drew) hb12); (first | (with_reducible have hz := zero_at hb12; obtain ⟨za0, za1, za2, za3, za4⟩ := hz; (try simp at za0 za1 za2 za3 za4)) | (with_reducible have hz := zero_at_drew hb12; obtain ⟨za0, za1, za2, za3, za4⟩ := hz; (try simp at za0 za1 za2 za3 za4)) | (with_reducible have hz := zero_at_drew2 hb12; obtain ⟨za0, za1, za2, za3, za4⟩ := hz; (try simp at za0 za1 za2 za3 za4)) | skip); clear hb12)
              | (go_at_call 25; refine (MLB.out _ (by first | exact H12.out.bw | exact (H12.out.al _).bw)).mono ?_; rintro e w13 ⟨rfl, hb13⟩; have H13 := Lib.hid (BxAt.below (by first | exact H12.out | exact H12.out.al _) hb13); (first | (with_reducible have hz := kept_at5 za0 za1 za2 za3 za4 hb13; obtain ⟨zb0, zb1, zb2, zb3, zb4⟩ := hz) | (with_reducible have hz := zero_at hb13; obtain ⟨zb0, zb1, zb2, zb3, zb4⟩ := hz; (try simp at zb0 zb1 zb2 zb3 zb4)) | skip); clear hb13))
            all_goals
              go_wp2
              go_meet
              exact ⟨_, rfl, rfl, by first | exact H13.out.push _ _ _ | exact H13.out.put H12.out rfl zb0 zb1 zb4 _ _ | exact H13.out.put H11.out (by simp) zb0 zb1 zb4 _ _⟩
          case rest =>
            obtain ⟨X, rfl, rfl, hX⟩ := hcut
            obtain ⟨w40_13, w41_13, _⟩ := hX.row (w4.heap.size, bN, bD) (by simp)
            obtain ⟨w30_13, w31_13, _⟩ := hX.row (w3.heap.size, aN, aD) (by simp)
            have H13 := Lib.hid hX
            clear hX
            by_cases hK0 : K = 0
            · have hk := (show ((K : Int) == 0) = true by rw [beq_iff_eq]; omega)
              have ht := HT0.out hK0
              subst ht
              clear hK0
              go_wp2_with (first
                | (go_at_call 44; with_reducible refine (SB.out _ _ H13.out).mono ?_; rintro e w14 ⟨rfl, h14⟩; obtain ⟨w30_14, w31_14, _⟩ := h14.row (w3.heap.size, aN, aD) (by simp); obtain ⟨w20_14, w21_14, _⟩ := h14.row (w2.heap.size, str r.num, str (r.den : Int)) (by simp); have H14 := Lib.hid (h14.push ⟨#[48]⟩ ⟨#[49]⟩ 23); clear h14)
                | (go_at_call 23; with_reducible refine (C1.out _ _ H14.out).mono ?_; rintro e w15 ⟨rfl, h15⟩; have H15 := Lib.hid h15; clear h15)
                | (go_at_call 24; with_reducible refine (KI.out _ _ _ _ H15.out).mono ?_; rintro e w16 ⟨rfl, h16⟩; have A16 := Lib.hid (ArAt.start w16 #[.string ⟨#[49]⟩, .string ⟨#[49]⟩] 23); have V16 := Lib.hid h16; have G16 := Lib.hid (h16.al (.cells #[.string ⟨#[49]⟩, .string ⟨#[49]⟩] 23)); have hp := h16.push ⟨#[49]⟩ ⟨#[49]⟩ 23; have P16 := Lib.hid hp; clear h16 hp)
                | (go_at_call 24; with_reducible refine (is_b _ _ _).mono ?_; rintro e w17 ⟨rfl, hb⟩; have hA := A16.out.below hb; have hG := G16.out.below hb; have c0_17 := hA.row 0 _ rfl; have c1_17 := hA.row 1 _ rfl; have f0_17 := hA.fz 0 (by simp); have f1_17 := hA.fz 1 (by simp); have hp := hG.put V16.out rfl c0_17 c1_17 hA.sz ⟨#[49]⟩ ⟨#[49]⟩; have A17 := Lib.hid ((hA.set (i := 0) rfl (.string ⟨#[49]⟩)).set (i := 1) rfl (.string ⟨#[49]⟩)); have G17 := Lib.hid (BxAt.tail hp); have P17 := Lib.hid hp; clear hb hA hG hp)
                | (go_at_call 24; with_reducible refine (is_b _ _ _).mono ?_; rintro e w18 ⟨rfl, hb⟩; have hA := A17.out.below hb; have hG := G17.out.below hb; have c0_18 := hA.row 0 _ rfl; have c1_18 := hA.row 1 _ rfl; have f0_18 := hA.fz 0 (by simp); have f1_18 := hA.fz 1 (by simp); have hp := hG.put V16.out rfl c0_18 c1_18 hA.sz ⟨#[48]⟩ ⟨#[49]⟩; have A18 := Lib.hid ((hA.set (i := 0) rfl (.string ⟨#[48]⟩)).set (i := 1) rfl (.string ⟨#[49]⟩)); have G18 := Lib.hid (BxAt.tail hp); obtain ⟨w100_18, w101_18, _⟩ := hp.row (w10.heap.size, bN, bD) (by simp); obtain ⟨w40_18, w41_18, _⟩ := hp.row (w4.heap.size, bN, bD) (by simp); obtain ⟨w110_18, w111_18, _⟩ := hp.row (w11.heap.size, aN, aD) (by simp); obtain ⟨w30_18, w31_18, _⟩ := hp.row (w3.heap.size, aN, aD) (by simp); obtain ⟨X0_18, X1_18, _⟩ := hp.row (X, qT, ⟨#[49]⟩) (by simp); obtain ⟨w140_18, w141_18, _⟩ := hp.row (w14.heap.size, ⟨#[48]⟩, ⟨#[49]⟩) (by simp); obtain ⟨w20_18, w21_18, _⟩ := hp.row (w2.heap.size, str r.num, str (r.den : Int)) (by simp); obtain ⟨w160_18, w161_18, _⟩ := hp.row (w16.heap.size, ⟨#[48]⟩, ⟨#[49]⟩) (by simp); have P18 := Lib.hid hp; clear hb hA hG hp)
                | (go_at_call 23; with_reducible refine (C2.out _ _ P18.out).mono ?_; rintro e w20 ⟨rfl, h20⟩; have H20 := Lib.hid h20; clear h20)
                | fail)
              go_ret
              exact ⟨rfl, H20.out.bw⟩
            · have hk := (show ((K : Int) == 0) = false by rw [beq_eq_false_iff_ne]; omega)
              clear hK0
              go_wp2_with (first
                | (go_at_call 44; with_reducible refine (SB.out _ _ H13.out).mono ?_; rintro e w14 ⟨rfl, h14⟩; obtain ⟨w30_14, w31_14, _⟩ := h14.row (w3.heap.size, aN, aD) (by simp); obtain ⟨w20_14, w21_14, _⟩ := h14.row (w2.heap.size, str r.num, str (r.den : Int)) (by simp); have H14 := Lib.hid (h14.push ⟨#[48]⟩ ⟨#[49]⟩ 23); clear h14)
                | (go_at_call 23; with_reducible refine (C1.out _ _ H14.out).mono ?_; rintro e w15 ⟨rfl, h15⟩; have H15 := Lib.hid h15; clear h15)
                | (go_at_call 24; with_reducible refine (KI.out _ _ _ _ H15.out).mono ?_; rintro e w16 ⟨rfl, h16⟩; have A16 := Lib.hid (ArAt.start w16 #[.string ⟨#[49]⟩, .string tK] 23); have V16 := Lib.hid h16; have G16 := Lib.hid (h16.al (.cells #[.string ⟨#[49]⟩, .string tK] 23)); have hp := h16.push ⟨#[49]⟩ tK 23; have P16 := Lib.hid hp; clear h16 hp)
                | (go_at_call 24; with_reducible refine (is_b _ _ _).mono ?_; rintro e w17 ⟨rfl, hb⟩; have hA := A16.out.below hb; have hG := G16.out.below hb; have c0_17 := hA.row 0 _ rfl; have c1_17 := hA.row 1 _ rfl; have f0_17 := hA.fz 0 (by simp); have f1_17 := hA.fz 1 (by simp); have hp := hG.put V16.out rfl c0_17 c1_17 hA.sz ⟨#[48]⟩ ⟨#[49]⟩; have A17 := Lib.hid ((hA.set (i := 0) rfl (.string ⟨#[48]⟩)).set (i := 1) rfl (.string ⟨#[49]⟩)); have G17 := Lib.hid (BxAt.tail hp); obtain ⟨w100_17, w101_17, _⟩ := hp.row (w10.heap.size, bN, bD) (by simp); obtain ⟨w40_17, w41_17, _⟩ := hp.row (w4.heap.size, bN, bD) (by simp); obtain ⟨w110_17, w111_17, _⟩ := hp.row (w11.heap.size, aN, aD) (by simp); obtain ⟨w30_17, w31_17, _⟩ := hp.row (w3.heap.size, aN, aD) (by simp); obtain ⟨X0_17, X1_17, _⟩ := hp.row (X, qT, ⟨#[49]⟩) (by simp); obtain ⟨w140_17, w141_17, _⟩ := hp.row (w14.heap.size, ⟨#[48]⟩, ⟨#[49]⟩) (by simp); obtain ⟨w20_17, w21_17, _⟩ := hp.row (w2.heap.size, str r.num, str (r.den : Int)) (by simp); obtain ⟨w160_17, w161_17, _⟩ := hp.row (w16.heap.size, ⟨#[48]⟩, ⟨#[49]⟩) (by simp); have P17 := Lib.hid hp; clear hb hA hG hp)
                | (go_at_call 23; with_reducible refine (C2.out _ _ P17.out).mono ?_; rintro e w20 ⟨rfl, h20⟩; have H20 := Lib.hid h20; clear h20)
                | fail)
              go_ret
              exact ⟨rfl, H20.out.bw⟩
      · have hw2 := hw.symm
        clear hw
        subst hw2
        have KEEP := Lib.hid (fun (W : World) (h : BxAt [(w6.heap.size, cN, cD), (w4.heap.size, bN, bD), (w3.heap.size, aN, aD), (w2.heap.size, str r.num, str (r.den : Int))] w W) => (show W.cell? ⟨w6.heap.size, 0, none⟩ = some (.string (cN)) ∧ W.cell? ⟨w6.heap.size, 1, none⟩ = some (.string (cD)) ∧ W.cell? ⟨w4.heap.size, 0, none⟩ = some (.string (bN)) ∧ W.cell? ⟨w4.heap.size, 1, none⟩ = some (.string (bD)) ∧ W.cell? ⟨w3.heap.size, 0, none⟩ = some (.string (aN)) ∧ W.cell? ⟨w3.heap.size, 1, none⟩ = some (.string (aD)) ∧ W.cell? ⟨w2.heap.size, 0, none⟩ = some (.string (str r.num)) ∧ W.cell? ⟨w2.heap.size, 1, none⟩ = some (.string (str (r.den : Int))) from ⟨(h.row (w6.heap.size, cN, cD) (by simp)).1, (h.row (w6.heap.size, cN, cD) (by simp)).2.1, (h.row (w4.heap.size, bN, bD) (by simp)).1, (h.row (w4.heap.size, bN, bD) (by simp)).2.1, (h.row (w3.heap.size, aN, aD) (by simp)).1, (h.row (w3.heap.size, aN, aD) (by simp)).2.1, (h.row (w2.heap.size, str r.num, str (r.den : Int)) (by simp)).1, (h.row (w2.heap.size, str r.num, str (r.den : Int)) (by simp)).2.1⟩))
        go_region_held3 (fun W => W.cell? ⟨w6.heap.size, 0, none⟩ = some (.string (cN)) ∧ W.cell? ⟨w6.heap.size, 1, none⟩ = some (.string (cD)) ∧ W.cell? ⟨w4.heap.size, 0, none⟩ = some (.string (bN)) ∧ W.cell? ⟨w4.heap.size, 1, none⟩ = some (.string (bD)) ∧ W.cell? ⟨w3.heap.size, 0, none⟩ = some (.string (aN)) ∧ W.cell? ⟨w3.heap.size, 1, none⟩ = some (.string (aD)) ∧ W.cell? ⟨w2.heap.size, 0, none⟩ = some (.string (str r.num)) ∧ W.cell? ⟨w2.heap.size, 1, none⟩ = some (.string (str (r.den : Int)))) (first | with_reducible exact KEEP.out _ H9.out | with_reducible exact KEEP.out _ H8.out | with_reducible exact KEEP.out _ H7.out | with_reducible exact KEEP.out _ H6.out.drew | with_reducible exact KEEP.out _ H6.out) (first
          | (have _ := H8; go_at_call 23; refine (C2.out _ _ (by first | with_reducible exact H8.out | with_reducible exact H8.out.drew)).mono ?_; rintro e w9 ⟨rfl, h9⟩; have H9 := Lib.hid h9; clear h9)
          | (have _ := H7; go_at_call 23; refine (C1.out _ _ (by first | with_reducible exact H7.out | with_reducible exact H7.out.drew)).mono ?_; rintro e w8 ⟨rfl, h8⟩; have H8 := Lib.hid h8; clear h8)
          | (have _ := H6; go_at_call 45; refine (N2.out _ _ (by first | with_reducible exact H6.out | with_reducible exact H6.out.drew)).mono ?_; rintro e w7 ⟨rfl, h7⟩; have H7 := Lib.hid h7; clear h7)
          )
        all_goals
          obtain ⟨b0_9, b1_9, _⟩ := H9.out.row (w4.heap.size, bN, bD) (by simp)
          go_wp2_with (first
            | (go_at_call 35; with_reducible refine (D3.out _ _ H9.out).mono ?_; rintro e w10 ⟨rfl, h10⟩; obtain ⟨a0_10, a1_10, _⟩ := h10.row (w3.heap.size, aN, aD) (by simp); have H10 := Lib.hid (h10.push bN bD 23); clear h10)
            | (go_at_call 37; with_reducible refine (U3.out _ _ H10.out).mono ?_; rintro e w11 ⟨rfl, h11⟩; have H11 := Lib.hid (h11.push aN aD 23); clear h11)
            | fail)
          go_cut [19, 20] from 25 (fun v19 v20 wX => ∃ X, v19 = .pointer (some ⟨X, 0, none⟩) ∧ v20 = .int .i64 0 ∧ BxAt ((X, qT, ⟨#[49]⟩) :: [(w11.heap.size, aN, aD), (w10.heap.size, bN, bD), (w6.heap.size, cN, cD), (w4.heap.size, bN, bD), (w3.heap.size, aN, aD), (w2.heap.size, str r.num, str (r.den : Int))]) w wX)
          case first =>
            go_region_held3 (fun W => W.cell? ⟨w3.heap.size, 0, none⟩ = some (.string aN) ∧ W.cell? ⟨w3.heap.size, 1, none⟩ = some (.string aD)) (first | exact ⟨((H13.out.set2 H12.out rfl _ _).row (w3.heap.size, aN, aD) (by simp)).1, ((H13.out.set2 H12.out rfl _ _).row (w3.heap.size, aN, aD) (by simp)).2.1⟩ | exact ⟨((H13.out.set2 H11.out (by simp) _ _).row (w3.heap.size, aN, aD) (by simp)).1, ((H13.out.set2 H11.out (by simp) _ _).row (w3.heap.size, aN, aD) (by simp)).2.1⟩ | exact ⟨(H13.out.row (w3.heap.size, aN, aD) (by simp)).1, (H13.out.row (w3.heap.size, aN, aD) (by simp)).2.1⟩ | exact ⟨((H13.out.al _).row (w3.heap.size, aN, aD) (by simp)).1, ((H13.out.al _).row (w3.heap.size, aN, aD) (by simp)).2.1⟩ | exact ⟨(H12.out.row (w3.heap.size, aN, aD) (by simp)).1, (H12.out.row (w3.heap.size, aN, aD) (by simp)).2.1⟩ | exact ⟨((H12.out.al _).row (w3.heap.size, aN, aD) (by simp)).1, ((H12.out.al _).row (w3.heap.size, aN, aD) (by simp)).2.1⟩ | exact ⟨(H11.out.row (w3.heap.size, aN, aD) (by simp)).1, (H11.out.row (w3.heap.size, aN, aD) (by simp)).2.1⟩ | exact ⟨((H11.out.al _).row (w3.heap.size, aN, aD) (by simp)).1, ((H11.out.al _).row (w3.heap.size, aN, aD) (by simp)).2.1⟩ | exact ⟨(H11.out.drew.row (w3.heap.size, aN, aD) (by simp)).1, (H11.out.drew.row (w3.heap.size, aN, aD) (by simp)).2.1⟩) (first
              | (go_at_call 24; refine (is_b _ _ _).mono ?_; rintro e w12 ⟨rfl, hb12⟩; have H12 := Lib.hid (BxAt.below (by first | exact H11.out.drew | exact (H11.out.drew).al _ | exact (H11.out.al _).drew) hb12); (first | (with_reducible have hz := zero_at hb12; obtain ⟨za0, za1, za2, za3, za4⟩ := hz; (try simp at za0 za1 za2 za3 za4)) | (with_reducible have hz := zero_at_drew hb12; obtain ⟨za0, za1, za2, za3, za4⟩ := hz; (try simp at za0 za1 za2 za3 za4)) | (with_reducible have hz := zero_at_drew2 hb12; obtain ⟨za0, za1, za2, za3, za4⟩ := hz; (try simp at za0 za1 za2 za3 za4)) | skip); clear hb12)
              | (go_at_call 25; refine (MLB.out _ (by first | exact H12.out.bw | exact (H12.out.al _).bw)).mono ?_; rintro e w13 ⟨rfl, hb13⟩; have H13 := Lib.hid (BxAt.below (by first | exact H12.out | exact H12.out.al _) hb13); (first | (with_reducible have hz := kept_at5 za0 za1 za2 za3 za4 hb13; obtain ⟨zb0, zb1, zb2, zb3, zb4⟩ := hz) | (with_reducible have hz := zero_at hb13; obtain ⟨zb0, zb1, zb2, zb3, zb4⟩ := hz; (try simp at zb0 zb1 zb2 zb3 zb4)) | skip); clear hb13))
            all_goals
              go_wp2
              go_meet
              exact ⟨_, rfl, rfl, by first | exact H13.out.push _ _ _ | exact H13.out.put H12.out rfl zb0 zb1 zb4 _ _ | exact H13.out.put H11.out (by simp) zb0 zb1 zb4 _ _⟩
          case rest =>
            obtain ⟨X, rfl, rfl, hX⟩ := hcut
            obtain ⟨w40_13, w41_13, _⟩ := hX.row (w4.heap.size, bN, bD) (by simp)
            obtain ⟨w30_13, w31_13, _⟩ := hX.row (w3.heap.size, aN, aD) (by simp)
            have H13 := Lib.hid hX
            clear hX
            by_cases hK0 : K = 0
            · have hk := (show ((K : Int) == 0) = true by rw [beq_iff_eq]; omega)
              have ht := HT0.out hK0
              subst ht
              clear hK0
              go_wp2_with (first
                | (go_at_call 44; with_reducible refine (SB.out _ _ H13.out).mono ?_; rintro e w14 ⟨rfl, h14⟩; obtain ⟨w30_14, w31_14, _⟩ := h14.row (w3.heap.size, aN, aD) (by simp); obtain ⟨w20_14, w21_14, _⟩ := h14.row (w2.heap.size, str r.num, str (r.den : Int)) (by simp); have H14 := Lib.hid (h14.push ⟨#[49]⟩ ⟨#[49]⟩ 23); clear h14)
                | (go_at_call 23; with_reducible refine (C1.out _ _ H14.out).mono ?_; rintro e w15 ⟨rfl, h15⟩; have H15 := Lib.hid h15; clear h15)
                | (go_at_call 24; with_reducible refine (KI.out _ _ _ _ H15.out).mono ?_; rintro e w16 ⟨rfl, h16⟩; have A16 := Lib.hid (ArAt.start w16 #[.string ⟨#[49]⟩, .string ⟨#[49]⟩] 23); have V16 := Lib.hid h16; have G16 := Lib.hid (h16.al (.cells #[.string ⟨#[49]⟩, .string ⟨#[49]⟩] 23)); have hp := h16.push ⟨#[49]⟩ ⟨#[49]⟩ 23; have P16 := Lib.hid hp; clear h16 hp)
                | (go_at_call 24; with_reducible refine (is_b _ _ _).mono ?_; rintro e w17 ⟨rfl, hb⟩; have hA := A16.out.below hb; have hG := G16.out.below hb; have c0_17 := hA.row 0 _ rfl; have c1_17 := hA.row 1 _ rfl; have f0_17 := hA.fz 0 (by simp); have f1_17 := hA.fz 1 (by simp); have hp := hG.put V16.out rfl c0_17 c1_17 hA.sz ⟨#[49]⟩ ⟨#[49]⟩; have A17 := Lib.hid ((hA.set (i := 0) rfl (.string ⟨#[49]⟩)).set (i := 1) rfl (.string ⟨#[49]⟩)); have G17 := Lib.hid (BxAt.tail hp); obtain ⟨w100_17, w101_17, _⟩ := hp.row (w10.heap.size, bN, bD) (by simp); obtain ⟨w40_17, w41_17, _⟩ := hp.row (w4.heap.size, bN, bD) (by simp); obtain ⟨w110_17, w111_17, _⟩ := hp.row (w11.heap.size, aN, aD) (by simp); obtain ⟨w30_17, w31_17, _⟩ := hp.row (w3.heap.size, aN, aD) (by simp); obtain ⟨X0_17, X1_17, _⟩ := hp.row (X, qT, ⟨#[49]⟩) (by simp); obtain ⟨w140_17, w141_17, _⟩ := hp.row (w14.heap.size, ⟨#[49]⟩, ⟨#[49]⟩) (by simp); obtain ⟨w20_17, w21_17, _⟩ := hp.row (w2.heap.size, str r.num, str (r.den : Int)) (by simp); obtain ⟨w160_17, w161_17, _⟩ := hp.row (w16.heap.size, ⟨#[49]⟩, ⟨#[49]⟩) (by simp); have P17 := Lib.hid hp; clear hb hA hG hp)
                | (go_at_call 23; with_reducible refine (C2.out _ _ P17.out).mono ?_; rintro e w20 ⟨rfl, h20⟩; have H20 := Lib.hid h20; clear h20)
                | fail)
              go_ret
              exact ⟨rfl, H20.out.bw⟩
            · have hk := (show ((K : Int) == 0) = false by rw [beq_eq_false_iff_ne]; omega)
              clear hK0
              go_wp2_with (first
                | (go_at_call 44; with_reducible refine (SB.out _ _ H13.out).mono ?_; rintro e w14 ⟨rfl, h14⟩; obtain ⟨w30_14, w31_14, _⟩ := h14.row (w3.heap.size, aN, aD) (by simp); obtain ⟨w20_14, w21_14, _⟩ := h14.row (w2.heap.size, str r.num, str (r.den : Int)) (by simp); have H14 := Lib.hid (h14.push ⟨#[49]⟩ tK 23); clear h14)
                | (go_at_call 23; with_reducible refine (C1.out _ _ H14.out).mono ?_; rintro e w15 ⟨rfl, h15⟩; have H15 := Lib.hid h15; clear h15)
                | (go_at_call 24; with_reducible refine (KI.out _ _ _ _ H15.out).mono ?_; rintro e w16 ⟨rfl, h16⟩; have A16 := Lib.hid (ArAt.start w16 #[.string ⟨#[49]⟩, .string tK] 23); have V16 := Lib.hid h16; have G16 := Lib.hid (h16.al (.cells #[.string ⟨#[49]⟩, .string tK] 23)); have hp := h16.push ⟨#[49]⟩ tK 23; obtain ⟨w100_16, w101_16, _⟩ := hp.row (w10.heap.size, bN, bD) (by simp); obtain ⟨w40_16, w41_16, _⟩ := hp.row (w4.heap.size, bN, bD) (by simp); obtain ⟨w110_16, w111_16, _⟩ := hp.row (w11.heap.size, aN, aD) (by simp); obtain ⟨w30_16, w31_16, _⟩ := hp.row (w3.heap.size, aN, aD) (by simp); obtain ⟨X0_16, X1_16, _⟩ := hp.row (X, qT, ⟨#[49]⟩) (by simp); obtain ⟨w140_16, w141_16, _⟩ := hp.row (w14.heap.size, ⟨#[49]⟩, tK) (by simp); obtain ⟨w20_16, w21_16, _⟩ := hp.row (w2.heap.size, str r.num, str (r.den : Int)) (by simp); obtain ⟨w160_16, w161_16, _⟩ := hp.row (w16.heap.size, ⟨#[49]⟩, tK) (by simp); have P16 := Lib.hid hp; clear h16 hp)
                | (go_at_call 23; with_reducible refine (C2.out _ _ P16.out).mono ?_; rintro e w20 ⟨rfl, h20⟩; have H20 := Lib.hid h20; clear h20)
                | fail)
              go_ret
              exact ⟨rfl, H20.out.bw⟩
theorem RationalGrid_law (x0 x1 x2 x3 places : Int) (h0 : -9223372036854775808 ≤ x0 ∧ x0 ≤ 9223372036854775807) (h1 : -9223372036854775808 ≤ x1 ∧ x1 ≤ 9223372036854775807) (h2 : -9223372036854775808 ≤ x2 ∧ x2 ≤ 9223372036854775807) (h3 : -9223372036854775808 ≤ x3 ∧ x3 ≤ 9223372036854775807) (hp : -9223372036854775808 ≤ places ∧ places ≤ 9223372036854775807) (w : World) (hq : QOps w) :
    Calls Tryz.prog 10 #[.agg #[.int .i64 x0, .int .i64 x1, .int .i64 x2, .int .i64 x3], .int .i64 places] w fun e W' => e = .returned (.bool true) ∧ Below w.heap.size w W' :=
  Grid_w x0 x1 x2 x3 places h0.1 h0.2 h1.1 h1.2 h2.1 h2.2 h3.1 h3.2 hp.1 hp.2 hq _ rfl
end Go.Proofs.YtkekafamfoifmaaGreatDoor
