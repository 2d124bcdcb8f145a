/-
  The law RationalMachine: with small numbers, results are those of integers.
-/
import Derived.Test.YtkekafamfoifmaaGreatDoorZSane
import Derived.Test.YtkekafamfoifmaaGreatDoorZPrs
import Derived.Test.YtkekafamfoifmaaGreatDoorZLimQP
import Derived.Test.YtkekafamfoifmaaGreatDoorMMinQ
import Derived.Test.YtkekafamfoifmaaGreatDoorZAll
import Derived.Test.YtkekafamfoifmaaGreatDoorZPk
import Derived.IntWalk
import Derived.Deep.CutBlock
namespace Go.Proofs.YtkekafamfoifmaaGreatDoor
open Go.RowKit Go.Shelf
attribute [local go_sem] Oper.semAt_some

/-- A result's texts are the fraction p / q, which is u / v. -/
structure MchG (w : World) (n d : ByteArray) (p q u v : Int) : Prop where
  tn : Hid (∀ W, Below w.heap.size w W → Calls Tryz.prog 43 #[.string n] W fun e W' => e = .returned (.tuple #[.int .i64 p, .int .i64 0]) ∧ Below W.heap.size W W')
  td : Hid (∀ W, Below w.heap.size w W → Calls Tryz.prog 43 #[.string d] W fun e W' => e = .returned (.tuple #[.int .i64 q, .int .i64 0]) ∧ Below W.heap.size W W')
  va : Hid (∀ W, Below w.heap.size w W → Calls Tryz.prog 17 #[.agg #[.string n, .string d]] W fun e W' => e = .returned (.bool true) ∧ Below W.heap.size W W')
  q1 : 1 ≤ q
  x : p * v = u * q
  w1 : IntKind.i64.wrap (p * v) = p * v
  w2 : IntKind.i64.wrap (u * q) = u * q
theorem mch_big {x y : Int} (hx : x.natAbs ≤ 2000000000) (hy : y.natAbs ≤ 2000000000) : IntKind.i64.wrap (x * y) = x * y := by
  have h : (x * y).natAbs ≤ 2000000000 * 2000000000 := by
    rw [Int.natAbs_mul]
    exact Nat.mul_le_mul hx hy
  exact IntWalk.i64_in _ (by omega)
theorem MchG.of {w : World} (hq : QOps w) {r : Rat} {u v : Int} (h : MchV r u v) (hf : fitsR r) (hu : u.natAbs ≤ 2000000000) (hv : v.natAbs ≤ 2000000000) : MchG w (str r.num) (str (r.den : Int)) r.num r.den u v := by
  have hd := rat_dpos r
  have hn := h.n
  have hdd := h.d
  have i1 : inInt r.num = true := inInt_iff.2 (by omega)
  have i2 : inInt (r.den : Int) = true := inInt_iff.2 (by omega)
  refine ⟨fun W hk => ?_, fun W hk => ?_, fun W hk => ?_, by omega, h.x, mch_big (by omega) hv, mch_big hu (by rw [Int.natAbs_natCast]; omega)⟩
  · have := rToInt_all (w := W) (sz_str hf.1) W (Below.refl _ _)
    rw [(toNE_some (num_str hf.1) i1).1, (toNE_some (num_str hf.1) i1).2] at this
    exact this
  · have := rToInt_all (w := W) (sz_str hf.2) W (Below.refl _ _)
    rw [(toNE_some (num_str hf.2) i2).1, (toNE_some (num_str hf.2) i2).2] at this
    exact this
  · have := Valid_q (sz_str hf.1) (sz_str hf.2) (hq.below hk).io
    rw [show vR (str r.num) (str (r.den : Int)) = true by unfold vR; rw [ratO_str hf]; rfl] at this
    exact this
theorem mch_facts {w : World} (hq : QOps w) {N M D C : Int} (hN : N.natAbs ≤ 30000) (hM : M.natAbs ≤ 30000) (hD : 0 < D) (hD2 : D ≤ 30000) (hC : 0 < C) (hC2 : C ≤ 30000) : ∃ (aN aD bN bD n0 d0 n1 d1 n2 d2 n3 d3 : ByteArray) (p0 q0 p1 q1 p2 q2 p3 q3 e3 : Int),
    Hid (∀ W, Below w.heap.size w W → Calls Tryz.prog 41 #[.int .i64 N, .int .i64 D] W fun e W' => e = .returned (.tuple #[.agg #[.string (aN), .string (aD)], .int .i64 0]) ∧ Below W.heap.size W W') ∧
    Hid (∀ W, Below w.heap.size w W → Calls Tryz.prog 41 #[.int .i64 M, .int .i64 C] W fun e W' => e = .returned (.tuple #[.agg #[.string (bN), .string (bD)], .int .i64 0]) ∧ Below W.heap.size W W') ∧
    Hid (∀ W, Below w.heap.size w W → Calls Tryz.prog 29 #[.agg #[.string (aN), .string (aD)], .agg #[.string (bN), .string (bD)]] W fun e W' => e = .returned (.tuple #[.agg #[.string n0, .string d0, .string n1, .string d1, .string n2, .string d2, .string n3, .string d3], .agg #[.int .i64 0, .int .i64 0, .int .i64 0, .int .i64 e3]]) ∧ Below W.heap.size W W') ∧
    Hid (∀ W, Below w.heap.size w W → Calls Tryz.prog 23 #[.agg #[.string (aN), .string (aD)], .agg #[.string (bN), .string (bD)]] W fun e W' => e = .returned (.int .i64 (cmpI (N * C) (M * D))) ∧ Below W.heap.size W W') ∧
    MchG w n0 d0 p0 q0 (N * C + M * D) (D * C) ∧ MchG w n1 d1 p1 q1 (N * C - M * D) (D * C) ∧ MchG w n2 d2 p2 q2 (N * M) (D * C) ∧
    ((M = 0 ∧ e3 = 40 ∧ n3 = ⟨#[]⟩ ∧ d3 = ⟨#[]⟩) ∨ (M ≠ 0 ∧ e3 = 0 ∧ MchG w n3 d3 p3 q3 (N * C) (D * M))) := by
  have A := Mch.of (p := N) hD hN hD2
  have B := Mch.of (p := M) hC hM hC2
  have cA := mch_cmp (n := N) (m := M) hD hC
  have eA : makeR N D = some (Rat.divInt N D) := if_neg (by omega)
  have eB : makeR M C = some (Rat.divInt M C) := if_neg (by omega)
  have hDn : D ≠ 0 := by omega
  have hCn : C ≠ 0 := by omega
  have hDC : 0 < D * C := Int.mul_pos hD hC
  have b1 := mul_le9 hN (y := C) (by omega)
  have b2 := mul_le9 hM (y := D) (by omega)
  have b3 := mul_le9 (x := D) (y := C) (by omega) (by omega)
  have b4 := mul_le9 hN hM
  have b5 := mul_le9 (x := D) (y := M) (by omega) hM
  have v0 : MchV (Rat.divInt N D + Rat.divInt M C) (N * C + M * D) (D * C) := by rw [mch_add hDn hCn]; exact MchV.of hDC
  have v1 : MchV (Rat.divInt N D - Rat.divInt M C) (N * C - M * D) (D * C) := by rw [mch_sub hDn hCn]; exact MchV.of hDC
  have v2 : MchV (Rat.divInt N D * Rat.divInt M C) (N * M) (D * C) := by rw [mch_mul]; exact MchV.of hDC
  have v3 : M ≠ 0 → MchV (Rat.divInt N D / Rat.divInt M C) (N * C) (D * M) := fun h => by
    rw [mch_div]
    rcases Int.lt_or_gt_of_ne h with h | h
    · exact MchV.of_neg (Int.mul_neg_of_pos_of_neg hD h)
    · exact MchV.of (Int.mul_pos hD h)
  have o0 := A.add B
  have o1 := A.sub B
  have o2 := A.mulR B
  have f0 := add_fits o0
  have f1 := sub_fits o1
  have f2 := mul_fits o2
  have fA := A.fits
  have fB := B.fits
  have zb : (Rat.divInt M C).num = 0 ↔ M = 0 := by
    have := rat_cross (r := Rat.divInt M C) hCn rfl
    have hd := rat_dpos (Rat.divInt M C)
    constructor
    · intro h
      rw [h, Int.zero_mul] at this
      rcases Int.mul_eq_zero.1 this.symm with h | h
      · exact h
      · exact absurd h (by omega)
    · intro h
      have e : M * ((Rat.divInt M C).den : Int) = 0 := by rw [h]; exact Int.zero_mul _
      rw [e] at this
      rcases Int.mul_eq_zero.1 this with h | h
      · exact h
      · exact absurd h hCn
  generalize Rat.divInt N D = a at *
  generalize Rat.divInt M C = b at *
  have ra := ratO_str fA
  have rb := ratO_str fB
  have hfour : ∀ W, Below w.heap.size w W → ∀ o3, divR a b = o3 → Calls Tryz.prog 29 #[.agg #[.string (str a.num), .string (str (a.den : Int))], .agg #[.string (str b.num), .string (str (b.den : Int))]] W fun e W' => e = .returned (.tuple #[.agg #[.string (str (a + b).num), .string (str ((a + b).den : Int)), .string (str (a - b).num), .string (str ((a - b).den : Int)), .string (str (a * b).num), .string (str ((a * b).den : Int)), .string (qN o3), .string (qD o3)], .agg #[.int .i64 0, .int .i64 0, .int .i64 0, .int .i64 (qE o3)]]) ∧ Below W.heap.size W W' := fun W hk o3 h3 => by
    refine four_w W (fun V hv => ?_) (fun V hv => ?_) (fun V hv => ?_) (fun V hv => ?_)
    · have := Add_q ((hq.below hk).below hv).io (sz_str fA.1) (sz_str fA.2) (sz_str fB.1) (sz_str fB.2)
      rw [op2_some ra rb, o0] at this
      exact this
    · have := Sub_q ((hq.below hk).below hv).io (sz_str fA.1) (sz_str fA.2) (sz_str fB.1) (sz_str fB.2)
      rw [op2_some ra rb, o1] at this
      exact this
    · have := Mul_q ((hq.below hk).below hv).io (sz_str fA.1) (sz_str fA.2) (sz_str fB.1) (sz_str fB.2)
      rw [op2_some ra rb, o2] at this
      exact this
    · have := Div_q ((hq.below hk).below hv).io (sz_str fA.1) (sz_str fA.2) (sz_str fB.1) (sz_str fB.2)
      rw [op2_some ra rb, h3] at this
      exact this
  have hOa : ∀ W, Below w.heap.size w W → Calls Tryz.prog 41 #[.int .i64 N, .int .i64 D] W fun e W' => e = .returned (.tuple #[.agg #[.string (str a.num), .string (str (a.den : Int))], .int .i64 0]) ∧ Below W.heap.size W W' := fun W hk => by
    have := Of_q (n := N) (d := D) (hq.below hk).io (hq.below hk).fr (by omega) (by omega) (by omega) (by omega)
    rw [eA] at this
    exact this
  have hOb : ∀ W, Below w.heap.size w W → Calls Tryz.prog 41 #[.int .i64 M, .int .i64 C] W fun e W' => e = .returned (.tuple #[.agg #[.string (str b.num), .string (str (b.den : Int))], .int .i64 0]) ∧ Below W.heap.size W W' := fun W hk => by
    have := Of_q (n := M) (d := C) (hq.below hk).io (hq.below hk).fr (by omega) (by omega) (by omega) (by omega)
    rw [eB] at this
    exact this
  have hCm : ∀ W, Below w.heap.size w W → Calls Tryz.prog 23 #[.agg #[.string (str a.num), .string (str (a.den : Int))], .agg #[.string (str b.num), .string (str (b.den : Int))]] W fun e W' => e = .returned (.int .i64 (cmpI (N * C) (M * D))) ∧ Below W.heap.size W W' := fun W hk => by
    have := Compare_some (hq.below hk).io ra rb
    rw [cA] at this
    exact this
  have g0 := MchG.of hq v0 f0 (by omega) (by omega)
  have g1 := MchG.of hq v1 f1 (by omega) (by omega)
  have g2 := MchG.of hq v2 f2 (by omega) (by omega)
  by_cases h0 : M = 0
  · have h3 : divR a b = none := Mch.div0 (zb.2 h0)
    exact ⟨_, _, _, _, _, _, _, _, _, _, _, _, _, _, _, _, _, _, 0, 0, _, hOa, hOb, fun W hk => hfour W hk none h3, hCm, g0, g1, g2, .inl ⟨h0, rfl, rfl, rfl⟩⟩
  · have h3 := A.div B (fun h => h0 (zb.1 h))
    have g3 := MchG.of hq (v3 h0) (div_fits h3) (by omega) (by omega)
    exact ⟨_, _, _, _, _, _, _, _, _, _, _, _, _, _, _, _, _, _, _, _, _, hOa, hOb, fun W hk => hfour W hk _ h3, hCm, g0, g1, g2, .inr ⟨h0, rfl, g3⟩⟩
/-- What the loop holds. -/
structure MhAt (L : List (Nat × ByteArray × ByteArray)) (br be bw : Nat) (rs es ws : List Value) (w W : World) : Prop where
  x : BxAt L w W
  r : ArAt br rs W
  e : ArAt be es W
  v : ArAt bw ws W
theorem MhAt.below {L : List (Nat × ByteArray × ByteArray)} {br be bw : Nat} {rs es ws : List Value} {w W W' : World} (h : MhAt L br be bw rs es ws w W) (hb : Below W.heap.size W W') : MhAt L br be bw rs es ws w W' := ⟨BxAt.below h.x hb, ArAt.below h.r hb, ArAt.below h.e hb, ArAt.below h.v hb⟩
theorem MhAt.drew {L : List (Nat × ByteArray × ByteArray)} {br be bw : Nat} {rs es ws : List Value} {w W : World} (h : MhAt L br be bw rs es ws w W) : MhAt L br be bw rs es ws w W.drew := ⟨BxAt.drew h.x, ArAt.drew h.r, ArAt.drew h.e, ArAt.drew h.v⟩
theorem MhAt.start {L : List (Nat × ByteArray × ByteArray)} {w W : World} (h : BxAt L w W) (rs es ws : Array Value) (t u v : TypeId) : MhAt L W.heap.size (W.heap.size + 1) (W.heap.size + 1 + 1) rs.toList es.toList ws.toList w (((W.alloc (.cells rs t)).alloc (.cells es u)).alloc (.cells ws v)) := by
  have s1 := ArAt.start W rs t
  have s2 := ArAt.start (W.alloc (.cells rs t)) es u
  have s3 := ArAt.start ((W.alloc (.cells rs t)).alloc (.cells es u)) ws v
  simp only [World.size_alloc] at s1 s2 s3
  exact ⟨((h.al _).al _).al _, (s1.al _).al _, s2.al _, s3⟩

set_option maxRecDepth 100000 in
set_option maxHeartbeats 16000000 in
theorem RationalMachine_law (n d m c : Int) (hn : -9223372036854775808 ≤ n ∧ n ≤ 9223372036854775807) (hd : -9223372036854775808 ≤ d ∧ d ≤ 9223372036854775807) (hm : -9223372036854775808 ≤ m ∧ m ≤ 9223372036854775807) (hc : -9223372036854775808 ≤ c ∧ c ≤ 9223372036854775807) (w : World) (hq : QOps w) :
    Calls Tryz.prog 7 #[.int .i64 n, .int .i64 d, .int .i64 m, .int .i64 c] w fun e W' => e = .returned (.bool true) ∧ Below w.heap.size w W' := by
  have KS := Lib.hid (fun (W : World) (h : Below w.heap.size w W) => sane_q (hq.below h))
  obtain ⟨kn, en⟩ : ∃ k, k = pickN n 60001 := ⟨_, rfl⟩
  obtain ⟨kd, ed⟩ : ∃ k, k = pickN d 30000 := ⟨_, rfl⟩
  obtain ⟨km, em⟩ : ∃ k, k = pickN m 60001 := ⟨_, rfl⟩
  obtain ⟨kc, ec⟩ : ∃ k, k = pickN c 30000 := ⟨_, rfl⟩
  have bn : kn < 60001 := by rw [en]; exact pickN_lt _ (by decide)
  have bd : kd < 30000 := by rw [ed]; exact pickN_lt _ (by decide)
  have bm : km < 60001 := by rw [em]; exact pickN_lt _ (by decide)
  have bc : kc < 30000 := by rw [ec]; exact pickN_lt _ (by decide)
  have p1 := Lib.hid (fun W => by have := pick_l n 60001 hn.1 hn.2 (by decide) (by decide) W; rw [← en, show ((60001 : Nat) : Int) = 60001 from rfl] at this; exact this)
  have p2 := Lib.hid (fun W => by have := pick_l m 60001 hm.1 hm.2 (by decide) (by decide) W; rw [← em, show ((60001 : Nat) : Int) = 60001 from rfl] at this; exact this)
  have p3 := Lib.hid (fun W => by have := pick_l d 30000 hd.1 hd.2 (by decide) (by decide) W; rw [← ed, show ((30000 : Nat) : Int) = 30000 from rfl] at this; exact this)
  have p4 := Lib.hid (fun W => by have := pick_l c 30000 hc.1 hc.2 (by decide) (by decide) W; rw [← ec, show ((30000 : Nat) : Int) = 30000 from rfl] at this; exact this)
  have HQ := Lib.hid hq
  have H0 := Lib.hid (BxAt.start w)
  clear hq en ed em ec hn hd hm hc
  go_enter Tryz.func7, Tryz.ntmps7
  go_upto_region 6 with (first
    | (go_at_call 11; with_reducible refine (KS.out _ H0.out.bw).mono ?_; rintro e w1 ⟨rfl, hb⟩; have H1 := Lib.hid (H0.out.below hb); clear hb)
    | (go_at_call 18; with_reducible refine (p1.out _).mono ?_; rintro e w' ⟨rfl, rfl⟩)
    | (go_at_call 18; with_reducible refine (p2.out _).mono ?_; rintro e w' ⟨rfl, rfl⟩)
    | (go_at_call 18; with_reducible refine (p3.out _).mono ?_; rintro e w' ⟨rfl, rfl⟩)
    | (go_at_call 18; with_reducible refine (p4.out _).mono ?_; rintro e w' ⟨rfl, rfl⟩)
    | fail)
  clear p1 p2 p3 p4 KS H0
  have hN : ((kn : Int) - 30000).natAbs ≤ 30000 := by omega
  have hM : ((km : Int) - 30000).natAbs ≤ 30000 := by omega
  have hD : 0 < 1 + (kd : Int) := by omega
  have hD2 : 1 + (kd : Int) ≤ 30000 := by omega
  have hC : 0 < 1 + (kc : Int) := by omega
  have hC2 : 1 + (kc : Int) ≤ 30000 := by omega
  generalize (kn : Int) - 30000 = N at *
  generalize (km : Int) - 30000 = M at *
  generalize 1 + (kd : Int) = D at *
  generalize 1 + (kc : Int) = C at *
  obtain ⟨aN, aD, bN, bD, n0, d0, n1, d1, n2, d2, n3, d3, P0, Q0, P1, Q1, P2, Q2, P3, Q3, e3, OA, OB, FO4, CM, g0, g1, g2, g3⟩ := mch_facts HQ.out hN hM hD hD2 hC hC2
  have G0 := Lib.hid g0
  have G1 := Lib.hid g1
  have G2 := Lib.hid g2
  have G3 := Lib.hid g3
  have m1 := mul_le9 hN (y := C) (by omega)
  have m2 := mul_le9 hM (y := D) (by omega)
  have m3 := mul_le9 (x := D) (y := C) (by omega) (by omega)
  have m4 := mul_le9 hN hM
  have m5 := mul_le9 (x := D) (y := M) (by omega) hM
  clear g0 g1 g2 g3 HQ
  go_wp2_with (first
    | (go_at_call 41; with_reducible refine (OA.out _ H1.out.bw).mono ?_; rintro e w2 ⟨rfl, hb⟩; have H2 := Lib.hid ((H1.out.below hb).push aN aD 23); clear hb)
    | (go_at_call 41; with_reducible refine (OB.out _ H2.out.bw).mono ?_; rintro e w3 ⟨rfl, hb⟩; have h := H2.out.below hb; obtain ⟨a0, a1, _⟩ := h.row (w2.heap.size, aN, aD) (by simp); have H3 := Lib.hid (h.push bN bD 23); clear hb h)
    | (go_at_call 29; with_reducible refine (FO4.out _ H3.out.bw).mono ?_; rintro e w4 ⟨rfl, hb⟩; have H4 := Lib.hid (MhAt.start (H3.out.below hb) #[.string n0, .string d0, .string n1, .string d1, .string n2, .string d2, .string n3, .string d3] #[.int .i64 0, .int .i64 0, .int .i64 0, .int .i64 e3] #[.int .i64 (N * C + M * D), .int .i64 (D * C), .int .i64 (N * C - M * D), .int .i64 (D * C), .int .i64 (N * M), .int .i64 (D * C), .int .i64 (N * C), .int .i64 (D * M)] 49 50 57); clear hb)
    | fail)
  go_loopw [17] (fun i wr => ∃ j : Nat, j ≤ 4 ∧ i = .int .i64 (j : Int) ∧ MhAt [(w3.heap.size, bN, bD), (w2.heap.size, aN, aD)] w4.heap.size (w4.heap.size + 1) (w4.heap.size + 1 + 1) [.string n0, .string d0, .string n1, .string d1, .string n2, .string d2, .string n3, .string d3] [.int .i64 0, .int .i64 0, .int .i64 0, .int .i64 e3] [.int .i64 (N * C + M * D), .int .i64 (D * C), .int .i64 (N * C - M * D), .int .i64 (D * C), .int .i64 (N * M), .int .i64 (D * C), .int .i64 (N * C), .int .i64 (D * M)] w wr) (fun i _ => 4 - (intOf i).toNat)
  case atStart => exact ⟨0, by omega, rfl, H4.out⟩
  case round =>
    obtain ⟨j, hj, rfl, hH⟩ := hrel
    obtain rfl | rfl | rfl | rfl | rfl : j = 0 ∨ j = 1 ∨ j = 2 ∨ j = 3 ∨ j = 4 := by omega
    · have rn := hH.r.row 0 _ rfl
      have rd := hH.r.row 1 _ rfl
      have re := hH.e.row 0 _ rfl
      have rv0 := hH.v.row 0 _ rfl
      have rv1 := hH.v.row 1 _ rfl
      have H5 := Lib.hid hH
      have g := G0.out
      have TN := g.tn
      have TD := g.td
      have VA := g.va
      have q1 := g.q1
      have q2 : decide (Q0 < 1) = false := decide_eq_false (by omega)
      have q3 : ¬ Q0 < 1 := by omega
      have w1' := g.w1
      have w2' := g.w2
      have ex := g.x
      clear hH g
      go_wp2_with (first
        | (go_at_call 43; with_reducible refine (TN.out _ H5.out.x.bw).mono ?_; rintro e w5 ⟨rfl, hb⟩; have hX := H5.out.below hb; have rn1 := hX.r.row 0 _ rfl; have rd1 := hX.r.row 1 _ rfl; have H6 := Lib.hid hX; clear hb hX)
        | (go_at_call 43; with_reducible refine (TD.out _ H6.out.x.bw).mono ?_; rintro e w6 ⟨rfl, hb⟩; have H7 := Lib.hid (H6.out.below hb); clear hb)
        | fail)
      have KEEP := Lib.hid (fun (W : World) (h : MhAt [(w3.heap.size, bN, bD), (w2.heap.size, aN, aD)] w4.heap.size (w4.heap.size + 1) (w4.heap.size + 1 + 1) [.string n0, .string d0, .string n1, .string d1, .string n2, .string d2, .string n3, .string d3] [.int .i64 0, .int .i64 0, .int .i64 0, .int .i64 e3] [.int .i64 (N * C + M * D), .int .i64 (D * C), .int .i64 (N * C - M * D), .int .i64 (D * C), .int .i64 (N * M), .int .i64 (D * C), .int .i64 (N * C), .int .i64 (D * M)] w W) => (show W.cell? ⟨w4.heap.size + 1, 0, none⟩ = some (.int .i64 0) ∧ W.cell? ⟨w4.heap.size + 1 + 1, 0, none⟩ = some (.int .i64 (N * C + M * D)) ∧ W.cell? ⟨w4.heap.size + 1 + 1, 1, none⟩ = some (.int .i64 (D * C)) ∧ W.cell? ⟨w4.heap.size, 0, none⟩ = some (.string n0) ∧ W.cell? ⟨w4.heap.size, 1, none⟩ = some (.string d0) from ⟨h.e.row 0 _ rfl, h.v.row 0 _ rfl, h.v.row 1 _ rfl, h.r.row 0 _ rfl, h.r.row 1 _ rfl⟩))
      go_region_held3 (fun W => W.cell? ⟨w4.heap.size + 1, 0, none⟩ = some (.int .i64 0) ∧ W.cell? ⟨w4.heap.size + 1 + 1, 0, none⟩ = some (.int .i64 (N * C + M * D)) ∧ W.cell? ⟨w4.heap.size + 1 + 1, 1, none⟩ = some (.int .i64 (D * C)) ∧ W.cell? ⟨w4.heap.size, 0, none⟩ = some (.string n0) ∧ W.cell? ⟨w4.heap.size, 1, none⟩ = some (.string d0)) (first | with_reducible exact KEEP.out _ H8.out | with_reducible exact KEEP.out _ H7.out.drew | with_reducible exact KEEP.out _ H7.out) (first
        | (have _ := H7; go_at_call 17; refine (VA.out _ (by first | with_reducible exact H7.out.x.bw | with_reducible exact H7.out.drew.x.bw)).mono ?_; rintro e w8 ⟨rfl, hb⟩; have H8 := Lib.hid (MhAt.below (by first | with_reducible exact H7.out | with_reducible exact H7.out.drew) hb); clear hb)
        )
      all_goals
        go_wp2
        exact ⟨⟨1, by omega, by go_num, H8.out⟩, by simp only [intOf]; omega⟩
    · have rn := hH.r.row 2 _ rfl
      have rd := hH.r.row 3 _ rfl
      have re := hH.e.row 1 _ rfl
      have rv0 := hH.v.row 2 _ rfl
      have rv1 := hH.v.row 3 _ rfl
      have H5 := Lib.hid hH
      have g := G1.out
      have TN := g.tn
      have TD := g.td
      have VA := g.va
      have q1 := g.q1
      have q2 : decide (Q1 < 1) = false := decide_eq_false (by omega)
      have q3 : ¬ Q1 < 1 := by omega
      have w1' := g.w1
      have w2' := g.w2
      have ex := g.x
      clear hH g
      go_wp2_with (first
        | (go_at_call 43; with_reducible refine (TN.out _ H5.out.x.bw).mono ?_; rintro e w5 ⟨rfl, hb⟩; have hX := H5.out.below hb; have rn1 := hX.r.row 2 _ rfl; have rd1 := hX.r.row 3 _ rfl; have H6 := Lib.hid hX; clear hb hX)
        | (go_at_call 43; with_reducible refine (TD.out _ H6.out.x.bw).mono ?_; rintro e w6 ⟨rfl, hb⟩; have H7 := Lib.hid (H6.out.below hb); clear hb)
        | fail)
      have KEEP := Lib.hid (fun (W : World) (h : MhAt [(w3.heap.size, bN, bD), (w2.heap.size, aN, aD)] w4.heap.size (w4.heap.size + 1) (w4.heap.size + 1 + 1) [.string n0, .string d0, .string n1, .string d1, .string n2, .string d2, .string n3, .string d3] [.int .i64 0, .int .i64 0, .int .i64 0, .int .i64 e3] [.int .i64 (N * C + M * D), .int .i64 (D * C), .int .i64 (N * C - M * D), .int .i64 (D * C), .int .i64 (N * M), .int .i64 (D * C), .int .i64 (N * C), .int .i64 (D * M)] w W) => (show W.cell? ⟨w4.heap.size + 1, 1, none⟩ = some (.int .i64 0) ∧ W.cell? ⟨w4.heap.size + 1 + 1, 2, none⟩ = some (.int .i64 (N * C - M * D)) ∧ W.cell? ⟨w4.heap.size + 1 + 1, 3, none⟩ = some (.int .i64 (D * C)) ∧ W.cell? ⟨w4.heap.size, 2, none⟩ = some (.string n1) ∧ W.cell? ⟨w4.heap.size, 3, none⟩ = some (.string d1) from ⟨h.e.row 1 _ rfl, h.v.row 2 _ rfl, h.v.row 3 _ rfl, h.r.row 2 _ rfl, h.r.row 3 _ rfl⟩))
      go_region_held3 (fun W => W.cell? ⟨w4.heap.size + 1, 1, none⟩ = some (.int .i64 0) ∧ W.cell? ⟨w4.heap.size + 1 + 1, 2, none⟩ = some (.int .i64 (N * C - M * D)) ∧ W.cell? ⟨w4.heap.size + 1 + 1, 3, none⟩ = some (.int .i64 (D * C)) ∧ W.cell? ⟨w4.heap.size, 2, none⟩ = some (.string n1) ∧ W.cell? ⟨w4.heap.size, 3, none⟩ = some (.string d1)) (first | with_reducible exact KEEP.out _ H8.out | with_reducible exact KEEP.out _ H7.out.drew | with_reducible exact KEEP.out _ H7.out) (first
        | (have _ := H7; go_at_call 17; refine (VA.out _ (by first | with_reducible exact H7.out.x.bw | with_reducible exact H7.out.drew.x.bw)).mono ?_; rintro e w8 ⟨rfl, hb⟩; have H8 := Lib.hid (MhAt.below (by first | with_reducible exact H7.out | with_reducible exact H7.out.drew) hb); clear hb)
        )
      all_goals
        go_wp2
        exact ⟨⟨2, by omega, by go_num, H8.out⟩, by simp only [intOf]; omega⟩
    · have rn := hH.r.row 4 _ rfl
      have rd := hH.r.row 5 _ rfl
      have re := hH.e.row 2 _ rfl
      have rv0 := hH.v.row 4 _ rfl
      have rv1 := hH.v.row 5 _ rfl
      have H5 := Lib.hid hH
      have g := G2.out
      have TN := g.tn
      have TD := g.td
      have VA := g.va
      have q1 := g.q1
      have q2 : decide (Q2 < 1) = false := decide_eq_false (by omega)
      have q3 : ¬ Q2 < 1 := by omega
      have w1' := g.w1
      have w2' := g.w2
      have ex := g.x
      clear hH g
      go_wp2_with (first
        | (go_at_call 43; with_reducible refine (TN.out _ H5.out.x.bw).mono ?_; rintro e w5 ⟨rfl, hb⟩; have hX := H5.out.below hb; have rn1 := hX.r.row 4 _ rfl; have rd1 := hX.r.row 5 _ rfl; have H6 := Lib.hid hX; clear hb hX)
        | (go_at_call 43; with_reducible refine (TD.out _ H6.out.x.bw).mono ?_; rintro e w6 ⟨rfl, hb⟩; have H7 := Lib.hid (H6.out.below hb); clear hb)
        | fail)
      have KEEP := Lib.hid (fun (W : World) (h : MhAt [(w3.heap.size, bN, bD), (w2.heap.size, aN, aD)] w4.heap.size (w4.heap.size + 1) (w4.heap.size + 1 + 1) [.string n0, .string d0, .string n1, .string d1, .string n2, .string d2, .string n3, .string d3] [.int .i64 0, .int .i64 0, .int .i64 0, .int .i64 e3] [.int .i64 (N * C + M * D), .int .i64 (D * C), .int .i64 (N * C - M * D), .int .i64 (D * C), .int .i64 (N * M), .int .i64 (D * C), .int .i64 (N * C), .int .i64 (D * M)] w W) => (show W.cell? ⟨w4.heap.size + 1, 2, none⟩ = some (.int .i64 0) ∧ W.cell? ⟨w4.heap.size + 1 + 1, 4, none⟩ = some (.int .i64 (N * M)) ∧ W.cell? ⟨w4.heap.size + 1 + 1, 5, none⟩ = some (.int .i64 (D * C)) ∧ W.cell? ⟨w4.heap.size, 4, none⟩ = some (.string n2) ∧ W.cell? ⟨w4.heap.size, 5, none⟩ = some (.string d2) from ⟨h.e.row 2 _ rfl, h.v.row 4 _ rfl, h.v.row 5 _ rfl, h.r.row 4 _ rfl, h.r.row 5 _ rfl⟩))
      go_region_held3 (fun W => W.cell? ⟨w4.heap.size + 1, 2, none⟩ = some (.int .i64 0) ∧ W.cell? ⟨w4.heap.size + 1 + 1, 4, none⟩ = some (.int .i64 (N * M)) ∧ W.cell? ⟨w4.heap.size + 1 + 1, 5, none⟩ = some (.int .i64 (D * C)) ∧ W.cell? ⟨w4.heap.size, 4, none⟩ = some (.string n2) ∧ W.cell? ⟨w4.heap.size, 5, none⟩ = some (.string d2)) (first | with_reducible exact KEEP.out _ H8.out | with_reducible exact KEEP.out _ H7.out.drew | with_reducible exact KEEP.out _ H7.out) (first
        | (have _ := H7; go_at_call 17; refine (VA.out _ (by first | with_reducible exact H7.out.x.bw | with_reducible exact H7.out.drew.x.bw)).mono ?_; rintro e w8 ⟨rfl, hb⟩; have H8 := Lib.hid (MhAt.below (by first | with_reducible exact H7.out | with_reducible exact H7.out.drew) hb); clear hb)
        )
      all_goals
        go_wp2
        exact ⟨⟨3, by omega, by go_num, H8.out⟩, by simp only [intOf]; omega⟩
    · rcases G3.out with ⟨h0, rfl, rfl, rfl⟩ | ⟨h0, rfl, g⟩
      · have hM0 : (M == 0) = true := by rw [beq_iff_eq]; exact h0
        have rn := hH.r.row 6 _ rfl
        have rd := hH.r.row 7 _ rfl
        have re := hH.e.row 3 _ rfl
        have H5 := Lib.hid hH
        clear hH h0
        go_wp2
        exact ⟨⟨4, by omega, by go_num, H5.out⟩, by simp only [intOf]; omega⟩
      · have hM0 : (M == 0) = false := by rw [beq_eq_false_iff_ne]; exact h0
        have rn := hH.r.row 6 _ rfl
        have rd := hH.r.row 7 _ rfl
        have re := hH.e.row 3 _ rfl
        have rv0 := hH.v.row 6 _ rfl
        have rv1 := hH.v.row 7 _ rfl
        have H5 := Lib.hid hH
        have TN := g.tn
        have TD := g.td
        have VA := g.va
        have q1 := g.q1
        have q2 : decide (Q3 < 1) = false := decide_eq_false (by omega)
        have q3 : ¬ Q3 < 1 := by omega
        have w1' := g.w1
        have w2' := g.w2
        have ex := g.x
        clear hH g
        clear h0
        go_wp2_with (first
          | (go_at_call 43; with_reducible refine (TN.out _ H5.out.x.bw).mono ?_; rintro e w5 ⟨rfl, hb⟩; have hX := H5.out.below hb; have rn1 := hX.r.row 6 _ rfl; have rd1 := hX.r.row 7 _ rfl; have H6 := Lib.hid hX; clear hb hX)
          | (go_at_call 43; with_reducible refine (TD.out _ H6.out.x.bw).mono ?_; rintro e w6 ⟨rfl, hb⟩; have H7 := Lib.hid (H6.out.below hb); clear hb)
          | fail)
        have KEEP := Lib.hid (fun (W : World) (h : MhAt [(w3.heap.size, bN, bD), (w2.heap.size, aN, aD)] w4.heap.size (w4.heap.size + 1) (w4.heap.size + 1 + 1) [.string n0, .string d0, .string n1, .string d1, .string n2, .string d2, .string n3, .string d3] [.int .i64 0, .int .i64 0, .int .i64 0, .int .i64 0] [.int .i64 (N * C + M * D), .int .i64 (D * C), .int .i64 (N * C - M * D), .int .i64 (D * C), .int .i64 (N * M), .int .i64 (D * C), .int .i64 (N * C), .int .i64 (D * M)] w W) => (show W.cell? ⟨w4.heap.size + 1, 3, none⟩ = some (.int .i64 0) ∧ W.cell? ⟨w4.heap.size + 1 + 1, 6, none⟩ = some (.int .i64 (N * C)) ∧ W.cell? ⟨w4.heap.size + 1 + 1, 7, none⟩ = some (.int .i64 (D * M)) ∧ W.cell? ⟨w4.heap.size, 6, none⟩ = some (.string n3) ∧ W.cell? ⟨w4.heap.size, 7, none⟩ = some (.string d3) from ⟨h.e.row 3 _ rfl, h.v.row 6 _ rfl, h.v.row 7 _ rfl, h.r.row 6 _ rfl, h.r.row 7 _ rfl⟩))
        go_region_held3 (fun W => W.cell? ⟨w4.heap.size + 1, 3, none⟩ = some (.int .i64 0) ∧ W.cell? ⟨w4.heap.size + 1 + 1, 6, none⟩ = some (.int .i64 (N * C)) ∧ W.cell? ⟨w4.heap.size + 1 + 1, 7, none⟩ = some (.int .i64 (D * M)) ∧ W.cell? ⟨w4.heap.size, 6, none⟩ = some (.string n3) ∧ W.cell? ⟨w4.heap.size, 7, none⟩ = some (.string d3)) (first | with_reducible exact KEEP.out _ H8.out | with_reducible exact KEEP.out _ H7.out.drew | with_reducible exact KEEP.out _ H7.out) (first
          | (have _ := H7; go_at_call 17; refine (VA.out _ (by first | with_reducible exact H7.out.x.bw | with_reducible exact H7.out.drew.x.bw)).mono ?_; rintro e w8 ⟨rfl, hb⟩; have H8 := Lib.hid (MhAt.below (by first | with_reducible exact H7.out | with_reducible exact H7.out.drew) hb); clear hb)
          )
        all_goals
          go_wp2
          exact ⟨⟨4, by omega, by go_num, H8.out⟩, by simp only [intOf]; omega⟩
    · obtain ⟨a0', a1', _⟩ := hH.x.row (w2.heap.size, aN, aD) (by simp)
      obtain ⟨b0', b1', _⟩ := hH.x.row (w3.heap.size, bN, bD) (by simp)
      have H5 := Lib.hid hH
      clear hH G0 G1 G2 G3
      have hk : cmpI (N * C) (M * D) = -1 ∧ N * C < M * D ∨ cmpI (N * C) (M * D) = 0 ∧ (¬ N * C < M * D ∧ ¬ M * D < N * C) ∨ cmpI (N * C) (M * D) = 1 ∧ (¬ N * C < M * D ∧ M * D < N * C) := by
        unfold cmpI
        rcases Int.lt_trichotomy (N * C) (M * D) with h | h | h
        · exact .inl ⟨if_pos h, h⟩
        · refine .inr (.inl ⟨?_, by omega, by omega⟩)
          rw [if_neg (by omega), if_neg (by omega)]
        · refine .inr (.inr ⟨?_, by omega, h⟩)
          rw [if_neg (by omega), if_pos h]
      have cm := CM.out
      clear CM
      rcases hk with ⟨hk, h1⟩ | ⟨hk, h1, h2⟩ | ⟨hk, h1, h2⟩
      all_goals
        simp only [hk] at cm
        have CM2 := Lib.hid cm
        clear cm hk
        go_wp2_with (first
          | (go_at_call 23; with_reducible refine (CM2.out _ H5.out.x.bw).mono ?_; rintro e w9 ⟨rfl, hb⟩; have H9 := Lib.hid (H5.out.below hb); clear hb)
          | fail)
        go_ret
        exact ⟨rfl, H9.out.x.bw⟩
end Go.Proofs.YtkekafamfoifmaaGreatDoor
