/-
  The functions that package integer exports, over the integers that texts stand for.
-/
import Derived.Test.YtiefodlhnpondaaGreatDoorSig
import Derived.Test.YtiefodlhnpondaaGreatDoorText
import Derived.Test.YtiefodlhnpondaaGreatDoorOver2
import Derived.Deep.RegionHeld3
namespace Go.Proofs.YtiefodlhnpondaaGreatDoor
open Go.RowKit Go.Shelf
attribute [local go_sem] Oper.semAt_some

/-- The integer that a text stands for, if it is valid. -/
def valZ (l : List UInt8) : Int := if l.head? = some 45 then -(valB l.tail : Int) else valB l
def numOf (s : ByteArray) : Option Int := if validL s.data.toList = true then some (valZ s.data.toList) else none
def small (z : Int) : Bool := decide (nDig z.natAbs ≤ 200)
theorem valZ_txt (z : Int) : valZ (txt z) = z := by
  have h := unsign_txt z
  unfold valZ
  unfold unsign at h
  by_cases hh : (txt z).head? = some 45
  · rw [if_pos hh] at h ⊢
    rw [h, valB_txtN]
    unfold txt at hh
    by_cases hz : z < 0
    · omega
    · rw [if_neg hz] at hh
      have := txtN_digits z.natAbs 45 (List.mem_of_head? hh)
      exact absurd this (by decide)
  · rw [if_neg hh] at h ⊢
    rw [h, valB_txtN]
    unfold txt at hh
    by_cases hz : z < 0
    · rw [if_pos hz] at hh; simp at hh
    · omega
theorem numOf_str (z : Int) : numOf (str z) = if small z = true then some z else none := by
  unfold numOf small
  rw [str_list, validL_txt, valZ_txt]
theorem numOf_some {s : ByteArray} {z : Int} (h : numOf s = some z) : s = str z ∧ small z = true := by
  unfold numOf at h
  split at h
  case isTrue hv =>
    obtain ⟨y, hy, hd⟩ := validL_is hv
    rw [hy, valZ_txt] at h
    cases h
    refine ⟨?_, by simpa [small] using hd⟩
    apply ByteArray.ext
    apply Array.toList_inj.1
    rw [hy, str_list]
  case isFalse => cases h
theorem numOf_valid (s : ByteArray) : (numOf s).isSome = validL s.data.toList := by
  unfold numOf
  cases validL s.data.toList <;> rfl
theorem small_few {z : Int} (h : small z = true) : (dig 10000 z.natAbs).length ≤ 50 := by
  rw [dig_length_le (by omega)]
  have := (nDig_le (n := z.natAbs) (k := 200) (by omega)).1 (by simpa [small] using h)
  rw [show (10000 : Nat) = 10 ^ 4 from rfl, ← Nat.pow_mul]
  exact this

/-- What text answers: the text of an integer, or an error where it has more than 200 digits. -/
def outZ (z : Int) : Array Value := if small z = true then #[.string (str z), .int .i64 0] else #[.string ⟨#[]⟩, .int .i64 30]
def outE : Array Value := #[.string ⟨#[]⟩, .int .i64 30]
theorem text_any (v : Value) (z : Int) (lo hi : Nat) (w : World) (hG : Glob w) (h : Zg w v z lo hi) (b : hi ≤ w.heap.size) (hf : Few z.natAbs) :
    Calls Tryz.prog 40 #[v] w fun e w' => (∃ s n, outZ z = #[.string s, .int .i64 n] ∧ e = .returned (.tuple #[.string s, .int .i64 n])) ∧ Below w.heap.size w w' := by
  obtain ⟨neg, n, a, c, rfl, hn, rfl⟩ := h.form
  have e1 : (if neg = true then -(n : Int) else n).natAbs = n := by split <;> omega
  rw [e1] at hf
  rcases Nat.eq_zero_or_pos n with h0 | h0
  · subst h0
    refine (text_zero neg a c w).mono ?_
    rintro e w' ⟨rfl, hb⟩
    refine ⟨⟨⟨#[48]⟩, 0, ?_, rfl⟩, hb⟩
    have : (if neg = true then -((0 : Nat) : Int) else (0 : Nat)) = 0 := by split <;> simp
    rw [this]
    have : small 0 = true := by decide
    unfold outZ
    rw [if_pos this]
    rfl
  · refine (text_pos neg a c n lo hi w hG hn b hf h0).mono ?_
    rintro e w' ⟨rfl, hb⟩
    refine ⟨?_, hb⟩
    unfold outZ small
    rw [e1]
    by_cases hd : nDig n ≤ 200
    · rw [if_pos hd, if_pos (by simpa using hd)]
      refine ⟨_, _, rfl, ?_⟩
      have : str (if neg = true then -(n : Int) else n) = ⟨((if neg then [45] else []) ++ txtN n).toArray⟩ := by
        unfold str txt
        rw [e1]
        cases neg
        · simp
        · simp; omega
      rw [this]
    · rw [if_neg hd, if_neg (by simpa using hd)]
      exact ⟨_, _, rfl, rfl⟩

theorem Zg.neg {w : World} {n : Bool} {s : Value} {y : Int} {lo hi : Nat} (h : Zg w (.agg #[.bool n, s]) y lo hi) : Zg w (.agg #[.bool !n, s]) (-y) lo hi := by
  obtain ⟨neg, k, s', e, h1, h2⟩ := h
  simp only [Value.agg.injEq, Array.mk.injEq, List.cons.injEq, Value.bool.injEq, and_true] at e
  obtain ⟨rfl, rfl⟩ := e
  refine ⟨!n, k, s, rfl, h1, ?_⟩
  cases n <;> simp at h2 ⊢ <;> omega
theorem Zg.of {w : World} {neg : Bool} {n : Nat} {s : Value} {z : Int} {lo hi : Nat} (h : Nm w s n lo hi) (hz : z = if neg = true then -(n : Int) else n) : Zg w (.agg #[.bool neg, s]) z lo hi := ⟨neg, n, s, rfl, h, hz⟩
theorem mul_sign {x y : Int} {n1 n2 : Bool} {m1 m2 : Nat} (h1 : x = if n1 = true then -(m1 : Int) else m1) (h2 : y = if n2 = true then -(m2 : Int) else m2) : x * y = if (n1 != n2) = true then -((m1 * m2 : Nat) : Int) else ((m1 * m2 : Nat) : Int) := by
  subst h1 h2
  cases n1 <;> cases n2 <;> simp [Int.neg_mul, Int.mul_neg]
/-- Two signed numbers, each in a block of its own. -/
structure PairAt (N : Nat) (n1 : Bool) (s1 : Value) (n2 : Bool) (s2 : Value) (W : World) : Prop where
  x0 : W.cell? ⟨N, 0, none⟩ = some (.bool n1)
  x1 : W.cell? ⟨N, 1, none⟩ = some s1
  y0 : W.cell? ⟨N + 1, 0, none⟩ = some (.bool n2)
  y1 : W.cell? ⟨N + 1, 1, none⟩ = some s2
  sz : N + 2 ≤ W.heap.size
theorem PairAt.start (w : World) (n1 n2 : Bool) (s1 s2 : Value) : PairAt w.heap.size n1 s1 n2 s2 ((w.alloc (.cells #[.bool n1, s1] 50)).alloc (.cells #[.bool n2, s2] 50)) := by
  refine ⟨?_, ?_, ?_, ?_, by simp⟩ <;> simp [go_sem]
theorem PairAt.below {N : Nat} {n1 n2 : Bool} {s1 s2 : Value} {W W' : World} (h : PairAt N n1 s1 n2 s2 W) (hb : Below W.heap.size W W') : PairAt N n1 s1 n2 s2 W' := by
  have hs := h.sz
  obtain ⟨c, _⟩ := bcell hb
  exact ⟨(c _ _ (by omega)).trans h.x0, (c _ _ (by omega)).trans h.x1, (c _ _ (by omega)).trans h.y0, (c _ _ (by omega)).trans h.y1, Nat.le_trans hs hb.size⟩
theorem PairAt.drew {N : Nat} {n1 n2 : Bool} {s1 s2 : Value} {W : World} (h : PairAt N n1 s1 n2 s2 W) : PairAt N n1 s1 n2 s2 W.drew := ⟨h.x0, h.x1, h.y0, h.y1, h.sz⟩
theorem B2d (w : World) (o1 o2 : Obj) : Below w.heap.size w ((w.alloc o1).alloc o2).drew := (((Below.refl _ _).alloc (Nat.le_refl _) _).alloc (by simp) _).drew
theorem B2 (w : World) (o1 o2 : Obj) : Below w.heap.size w ((w.alloc o1).alloc o2) := ((Below.refl _ _).alloc (Nat.le_refl _) _).alloc (by simp) _
theorem few_of {n k : Nat} (h : n < 10000 ^ k) (hk : k ≤ 1000000) : Few n := by
  have := (dig_length_le (B := 10000) (by omega) n k).2 h
  unfold Few
  omega
theorem small_lt {z : Int} (h : small z = true) : z.natAbs < 10000 ^ 50 := (dig_length_le (by omega) _ _).1 (small_few h)
theorem small_F {z : Int} (h : small z = true) : Few z.natAbs := few_of (small_lt h) (by omega)
theorem add_F {x y : Int} (hx : small x = true) (hy : small y = true) : Few (x + y).natAbs := by
  have h1 := small_lt hx
  have h2 := small_lt hy
  refine few_of (k := 51) ?_ (by omega)
  rw [Nat.pow_succ]
  omega
theorem mul_F {x y : Int} (hx : small x = true) (hy : small y = true) : Few (x * y).natAbs := by
  have h1 := small_lt hx
  have h2 := small_lt hy
  refine few_of (k := 50 + 50) ?_ (by omega)
  rw [Nat.pow_add, Int.natAbs_mul]
  exact Nat.mul_lt_mul'' h1 h2
theorem small_neg {y : Int} (h : small y = true) : small (-y) = true := by unfold small at h ⊢; rw [Int.natAbs_neg]; exact h

set_option maxHeartbeats 8000000 in
set_option maxRecDepth 100000 in
theorem Add_ok (x y : Int) (w : World) (hG : Glob w) (hx : small x = true) (hy : small y = true) :
    Calls Tryz.prog 14 #[.string (str x), .string (str y)] w fun e w' => (∃ s n, outZ (x + y) = #[.string s, .int .i64 n] ∧ e = .returned (.tuple #[.string s, .int .i64 n])) ∧ Below w.heap.size w w' := by
  have hB := fun W => both_ok x y W (by simpa [small] using hx) (by simpa [small] using hy)
  generalize str x = sx at hB ⊢
  generalize str y = sy at hB ⊢
  go_enter Tryz.func14, Tryz.ntmps14
  go_wp2_with (first
    | (go_at_call 38; with_reducible refine (hB _).mono ?_; rintro e w1 ⟨⟨va, vb, rfl, ha, hb⟩, hb1⟩; obtain ⟨n1, m1, a1, c1, rfl, hna, hza⟩ := ha.form; obtain ⟨n2, m2, a2, c2, rfl, hnb, hzb⟩ := hb.form; have HA := Lib.hid ha.zg; have HB := Lib.hid hb.zg; have HNA := Lib.hid hna; have HNB := Lib.hid hnb; have HZA := Lib.hid (zs_eq hza); have HZB := Lib.hid (zs_eq hzb); have HSA := Lib.hid hza; have HSB := Lib.hid hzb; have HG1 := Lib.hid (hG.below hb1); clear ha hb hna hnb hza hzb)
    | (go_at_call 39; refine (signed_plus _ _ x y _ _ _ _ _ (by exact HA.out.below (B2 w1 _ _) (Nat.le_refl _)) (by exact HB.out.below (B2 w1 _ _) (Nat.le_refl _)) (by exact (B2 w1 _ _).size) (by exact (B2 w1 _ _).size) (by exact small_F hx) (by exact small_F hy)).mono ?_; rintro e w2 ⟨⟨v, rfl, hv⟩, hb2⟩; have HV := Lib.hid hv; clear hv; have hbw : Below w1.heap.size w1 w2 := (B2 w1 _ _).trans (hb2.mono (B2 w1 _ _).size); have HG2 := Lib.hid (HG1.out.below hbw))
    | (go_at_call 40; refine (text_any _ (x + y) _ _ _ (by exact HG2.out) (by exact HV.out) (Nat.le_refl _) (by exact add_F hx hy)).mono ?_; rintro e w3 ⟨⟨s, n, hs, rfl⟩, hb3⟩))
  refine bodyPost_ret (v := .tuple #[.string s, .int .i64 n]) ?_ rfl ⟨⟨s, n, hs, rfl⟩, (hb1.trans (hbw.mono hb1.size)).trans (hb3.mono (Nat.le_trans hb1.size hbw.size))⟩
  simp [results, Tryz.results14, go_sem]

set_option maxHeartbeats 8000000 in
set_option maxRecDepth 100000 in
theorem Sub_ok (x y : Int) (w : World) (hG : Glob w) (hx : small x = true) (hy : small y = true) :
    Calls Tryz.prog 16 #[.string (str x), .string (str y)] w fun e w' => (∃ s n, outZ (x - y) = #[.string s, .int .i64 n] ∧ e = .returned (.tuple #[.string s, .int .i64 n])) ∧ Below w.heap.size w w' := by
  rw [Int.sub_eq_add_neg]
  have hB := fun W => both_ok x y W (by simpa [small] using hx) (by simpa [small] using hy)
  generalize str x = sx at hB ⊢
  generalize str y = sy at hB ⊢
  go_enter Tryz.func16, Tryz.ntmps16
  go_wp2_with (first
    | (go_at_call 38; with_reducible refine (hB _).mono ?_; rintro e w1 ⟨⟨va, vb, rfl, ha, hb⟩, hb1⟩; obtain ⟨n1, m1, a1, c1, rfl, hna, hza⟩ := ha.form; obtain ⟨n2, m2, a2, c2, rfl, hnb, hzb⟩ := hb.form; have HA := Lib.hid ha.zg; have HB := Lib.hid hb.zg; have HNA := Lib.hid hna; have HNB := Lib.hid hnb; have HZA := Lib.hid (zs_eq hza); have HZB := Lib.hid (zs_eq hzb); have HSA := Lib.hid hza; have HSB := Lib.hid hzb; have HG1 := Lib.hid (hG.below hb1); clear ha hb hna hnb hza hzb)
    | (go_at_call 39; refine (signed_plus _ _ x (-y) _ _ _ _ _ (by exact HA.out.below (B2 w1 _ _) (Nat.le_refl _)) (by exact HB.out.neg.below (B2 w1 _ _) (Nat.le_refl _)) (by exact (B2 w1 _ _).size) (by exact (B2 w1 _ _).size) (by exact small_F hx) (by exact small_F (small_neg hy))).mono ?_; rintro e w2 ⟨⟨v, rfl, hv⟩, hb2⟩; have HV := Lib.hid hv; clear hv; have hbw : Below w1.heap.size w1 w2 := (B2 w1 _ _).trans (hb2.mono (B2 w1 _ _).size); have HG2 := Lib.hid (HG1.out.below hbw))
    | (go_at_call 40; refine (text_any _ (x + -y) _ _ _ (by exact HG2.out) (by exact HV.out) (Nat.le_refl _) (by exact add_F hx (small_neg hy))).mono ?_; rintro e w3 ⟨⟨s, n, hs, rfl⟩, hb3⟩))
  refine bodyPost_ret (v := .tuple #[.string s, .int .i64 n]) ?_ rfl ⟨⟨s, n, hs, rfl⟩, (hb1.trans (hbw.mono hb1.size)).trans (hb3.mono (Nat.le_trans hb1.size hbw.size))⟩
  simp [results, Tryz.results16, go_sem]

set_option maxHeartbeats 8000000 in
set_option maxRecDepth 100000 in
theorem Mul_ok (x y : Int) (w : World) (hG : Glob w) (hx : small x = true) (hy : small y = true) :
    Calls Tryz.prog 15 #[.string (str x), .string (str y)] w fun e w' => (∃ s n, outZ (x * y) = #[.string s, .int .i64 n] ∧ e = .returned (.tuple #[.string s, .int .i64 n])) ∧ Below w.heap.size w w' := by
  have hB := fun W => both_ok x y W (by simpa [small] using hx) (by simpa [small] using hy)
  generalize str x = sx at hB ⊢
  generalize str y = sy at hB ⊢
  go_enter Tryz.func15, Tryz.ntmps15
  go_wp2_with (first
    | (go_at_call 38; with_reducible refine (hB _).mono ?_; rintro e w1 ⟨⟨va, vb, rfl, ha, hb⟩, hb1⟩; obtain ⟨n1, m1, a1, c1, rfl, hna, hza⟩ := ha.form; obtain ⟨n2, m2, a2, c2, rfl, hnb, hzb⟩ := hb.form; have HA := Lib.hid ha.zg; have HB := Lib.hid hb.zg; have HNA := Lib.hid hna; have HNB := Lib.hid hnb; have HZA := Lib.hid (zs_eq hza); have HZB := Lib.hid (zs_eq hzb); have HSA := Lib.hid hza; have HSB := Lib.hid hzb; have HG1 := Lib.hid (hG.below hb1); clear ha hb hna hnb hza hzb)
    | fail)
  have HF : Hid ((dig 10000 m1).length + (dig 10000 m2).length ≤ 1000000) := by
    have e1 := small_few hx
    have e2 := small_few hy
    have e3 := HZA.out
    have e4 := HZB.out
    have e5 : x.natAbs = m1 := by rw [e3]; split <;> omega
    have e6 : y.natAbs = m2 := by rw [e4]; split <;> omega
    rw [e5] at e1
    rw [e6] at e2
    show _ ≤ _
    omega
  have HP := Lib.hid (PairAt.start w1 n1 n2 (.slice a1 (dig 10000 m1).length c1) (.slice a2 (dig 10000 m2).length c2)).drew
  have hxf := small_F hx
  go_region_held3 (fun W => W.cell? ⟨w1.heap.size, 0, none⟩ = some (.bool n1) ∧ W.cell? ⟨w1.heap.size, 1, none⟩ = some (.slice a1 (dig 10000 m1).length c1) ∧ W.cell? ⟨w1.heap.size + 1, 0, none⟩ = some (.bool n2) ∧ W.cell? ⟨w1.heap.size + 1, 1, none⟩ = some (.slice a2 (dig 10000 m2).length c2)) (first | exact ⟨HP3.out.x0, HP3.out.x1, HP3.out.y0, HP3.out.y1⟩ | exact ⟨HP2.out.x0, HP2.out.x1, HP2.out.y0, HP2.out.y1⟩ | exact ⟨HP.out.x0, HP.out.x1, HP.out.y0, HP.out.y1⟩) (first
    | (go_at_call 41; refine (times_any _ _ m1 m2 _ _ _ _ _ (by exact HNA.out.below (B2d w1 _ _) (Nat.le_refl _)) (by exact HNB.out.below (B2d w1 _ _) (Nat.le_refl _)) (by exact (B2d w1 _ _).size) (by exact (B2d w1 _ _).size) (by exact HF.out)).mono ?_; rintro e w2 ⟨⟨v, rfl, hv⟩, hb2⟩; obtain ⟨a3, c3, rfl⟩ : ∃ a cap, v = .slice a (dig 10000 (m1 * m2)).length cap := (by obtain ⟨a, cap, e, _⟩ := hv; exact ⟨a, cap, e⟩); have HV := Lib.hid (Zg.of hv (mul_sign HZA.out HZB.out)); clear hv; have hbw : Below w1.heap.size w1 w2 := (B2d w1 _ _).trans (hb2.mono (B2d w1 _ _).size); have HG2 := Lib.hid (HG1.out.below hbw); have HP2 := Lib.hid (HP.out.below hb2))
    | (go_at_call 40; refine (text_any _ (x * y) _ _ _ (by exact HG2.out) (by exact HV.out) (Nat.le_refl _) (by exact mul_F hx hy)).mono ?_; rintro e w3 ⟨⟨s, n, hs, rfl⟩, hb3⟩; have HP3 := Lib.hid (HP2.out.below hb3)))
  all_goals go_wp2
  all_goals
    refine bodyPost_ret (v := .tuple #[.string s, .int .i64 n]) ?_ rfl ⟨⟨s, n, hs, rfl⟩, (hb1.trans (hbw.mono hb1.size)).trans (hb3.mono (Nat.le_trans hb1.size hbw.size))⟩
    simp [results, Tryz.results15, go_sem]
end Go.Proofs.YtiefodlhnpondaaGreatDoor
