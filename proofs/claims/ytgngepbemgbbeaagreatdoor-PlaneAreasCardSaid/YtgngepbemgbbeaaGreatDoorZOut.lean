/-
  The functions that package integer exports, over the integers that texts stand for.
  The functions that package integer exports, second part: at texts that are not valid, and Compare, Div, Gcd at valid ones.
  The functions that package integer exports, third part: Valid, FromInt, Gcd.
  integer.Div: quotient and remainder, the remainder at least 0.
  Plain facts on fractions as pairs of texts, by the core library's rational numbers. No code of the program is named here.
  What the operations on integers answer, as functions of texts. No code of the program is named here.
-/
import Derived.Deep.RegionHeld3
import Derived.Test.YtgngepbemgbbeaaGreatDoorZSig
import Derived.Test.YtgngepbemgbbeaaGreatDoorZText
import Derived.Test.YtgngepbemgbbeaaGreatDoorZOver2
import Derived.Test.YtgngepbemgbbeaaGreatDoorZNum
namespace Go.Proofs.YtgngepbemgbbeaaGreatDoor
open Go.RowKit Go.Shelf
attribute [local go_sem] Oper.semAt_some

/-- The integer that a text stands for, if it is valid. -/
def valZ (l : List UInt8) : Int := if l.head? = some 45 then -(valB l.tail : Int) else valB l
def numOf (s : ByteArray) : Option Int := if validL s.data.toList = true then some (valZ s.data.toList) else none
def small (z : Int) : Bool := decide (nDig z.natAbs ≤ 200)
theorem valZ_txt (z : Int) : valZ (txt z) = z := by
  have h := unsign_txt z
  unfold valZ
  unfold unsign at h
  by_cases hh : (txt z).head? = some 45
  · rw [if_pos hh] at h ⊢
    rw [h, valB_txtN]
    unfold txt at hh
    by_cases hz : z < 0
    · omega
    · rw [if_neg hz] at hh
      have := txtN_digits z.natAbs 45 (List.mem_of_head? hh)
      exact absurd this (by decide)
  · rw [if_neg hh] at h ⊢
    rw [h, valB_txtN]
    unfold txt at hh
    by_cases hz : z < 0
    · rw [if_pos hz] at hh; simp at hh
    · omega
theorem numOf_str (z : Int) : numOf (str z) = if small z = true then some z else none := by
  unfold numOf small
  rw [str_list, validL_txt, valZ_txt]
theorem numOf_some {s : ByteArray} {z : Int} (h : numOf s = some z) : s = str z ∧ small z = true := by
  unfold numOf at h
  split at h
  case isTrue hv =>
    obtain ⟨y, hy, hd⟩ := validL_is hv
    rw [hy, valZ_txt] at h
    cases h
    refine ⟨?_, by simpa [small] using hd⟩
    apply ByteArray.ext
    apply Array.toList_inj.1
    rw [hy, str_list]
  case isFalse => cases h
theorem numOf_valid (s : ByteArray) : (numOf s).isSome = validL s.data.toList := by
  unfold numOf
  cases validL s.data.toList <;> rfl
theorem small_few {z : Int} (h : small z = true) : (dig 10000 z.natAbs).length ≤ 50 := by
  rw [dig_length_le (by omega)]
  have := (nDig_le (n := z.natAbs) (k := 200) (by omega)).1 (by simpa [small] using h)
  rw [show (10000 : Nat) = 10 ^ 4 from rfl, ← Nat.pow_mul]
  exact this

/-- What text answers: the text of an integer, or an error where it has more than 200 digits. -/
def outZ (z : Int) : Array Value := if small z = true then #[.string (str z), .int .i64 0] else #[.string ⟨#[]⟩, .int .i64 30]
def outE : Array Value := #[.string ⟨#[]⟩, .int .i64 30]
theorem text_any (v : Value) (z : Int) (lo hi : Nat) (w : World) (hG : Glob w) (h : Zg w v z lo hi) (b : hi ≤ w.heap.size) (hf : Few z.natAbs) :
    Calls Tryz.prog 122 #[v] w fun e w' => (∃ s n, outZ z = #[.string s, .int .i64 n] ∧ e = .returned (.tuple #[.string s, .int .i64 n])) ∧ Below w.heap.size w w' := by
  obtain ⟨neg, n, a, c, rfl, hn, rfl⟩ := h.form
  have e1 : (if neg = true then -(n : Int) else n).natAbs = n := by split <;> omega
  rw [e1] at hf
  rcases Nat.eq_zero_or_pos n with h0 | h0
  · subst h0
    refine (text_zero neg a c w).mono ?_
    rintro e w' ⟨rfl, hb⟩
    refine ⟨⟨⟨#[48]⟩, 0, ?_, rfl⟩, hb⟩
    have : (if neg = true then -((0 : Nat) : Int) else (0 : Nat)) = 0 := by split <;> simp
    rw [this]
    have : small 0 = true := by decide
    unfold outZ
    rw [if_pos this]
    rfl
  · refine (text_pos neg a c n lo hi w hG hn b hf h0).mono ?_
    rintro e w' ⟨rfl, hb⟩
    refine ⟨?_, hb⟩
    unfold outZ small
    rw [e1]
    by_cases hd : nDig n ≤ 200
    · rw [if_pos hd, if_pos (by simpa using hd)]
      refine ⟨_, _, rfl, ?_⟩
      have : str (if neg = true then -(n : Int) else n) = ⟨((if neg then [45] else []) ++ txtN n).toArray⟩ := by
        unfold str txt
        rw [e1]
        cases neg
        · simp
        · simp; omega
      rw [this]
    · rw [if_neg hd, if_neg (by simpa using hd)]
      exact ⟨_, _, rfl, rfl⟩

theorem Zg.neg {w : World} {n : Bool} {s : Value} {y : Int} {lo hi : Nat} (h : Zg w (.agg #[.bool n, s]) y lo hi) : Zg w (.agg #[.bool !n, s]) (-y) lo hi := by
  obtain ⟨neg, k, s', e, h1, h2⟩ := h
  simp only [Value.agg.injEq, Array.mk.injEq, List.cons.injEq, Value.bool.injEq, and_true] at e
  obtain ⟨rfl, rfl⟩ := e
  refine ⟨!n, k, s, rfl, h1, ?_⟩
  cases n <;> simp at h2 ⊢ <;> omega
theorem Zg.of {w : World} {neg : Bool} {n : Nat} {s : Value} {z : Int} {lo hi : Nat} (h : Nm w s n lo hi) (hz : z = if neg = true then -(n : Int) else n) : Zg w (.agg #[.bool neg, s]) z lo hi := ⟨neg, n, s, rfl, h, hz⟩
theorem mul_sign {x y : Int} {n1 n2 : Bool} {m1 m2 : Nat} (h1 : x = if n1 = true then -(m1 : Int) else m1) (h2 : y = if n2 = true then -(m2 : Int) else m2) : x * y = if (n1 != n2) = true then -((m1 * m2 : Nat) : Int) else ((m1 * m2 : Nat) : Int) := by
  subst h1 h2
  cases n1 <;> cases n2 <;> simp [Int.neg_mul, Int.mul_neg]
/-- Two signed numbers, each in a block of its own. -/
structure PairAt (N : Nat) (n1 : Bool) (s1 : Value) (n2 : Bool) (s2 : Value) (W : World) : Prop where
  x0 : W.cell? ⟨N, 0, none⟩ = some (.bool n1)
  x1 : W.cell? ⟨N, 1, none⟩ = some s1
  y0 : W.cell? ⟨N + 1, 0, none⟩ = some (.bool n2)
  y1 : W.cell? ⟨N + 1, 1, none⟩ = some s2
  sz : N + 2 ≤ W.heap.size
theorem PairAt.start (w : World) (n1 n2 : Bool) (s1 s2 : Value) : PairAt w.heap.size n1 s1 n2 s2 ((w.alloc (.cells #[.bool n1, s1] 123)).alloc (.cells #[.bool n2, s2] 123)) := by
  refine ⟨?_, ?_, ?_, ?_, by simp⟩ <;> simp [go_sem]
theorem PairAt.below {N : Nat} {n1 n2 : Bool} {s1 s2 : Value} {W W' : World} (h : PairAt N n1 s1 n2 s2 W) (hb : Below W.heap.size W W') : PairAt N n1 s1 n2 s2 W' := by
  have hs := h.sz
  obtain ⟨c, _⟩ := bcell hb
  exact ⟨(c _ _ (by omega)).trans h.x0, (c _ _ (by omega)).trans h.x1, (c _ _ (by omega)).trans h.y0, (c _ _ (by omega)).trans h.y1, Nat.le_trans hs hb.size⟩
theorem PairAt.drew {N : Nat} {n1 n2 : Bool} {s1 s2 : Value} {W : World} (h : PairAt N n1 s1 n2 s2 W) : PairAt N n1 s1 n2 s2 W.drew := ⟨h.x0, h.x1, h.y0, h.y1, h.sz⟩
theorem B2d (w : World) (o1 o2 : Obj) : Below w.heap.size w ((w.alloc o1).alloc o2).drew := (((Below.refl _ _).alloc (Nat.le_refl _) _).alloc (by simp) _).drew
theorem B2 (w : World) (o1 o2 : Obj) : Below w.heap.size w ((w.alloc o1).alloc o2) := ((Below.refl _ _).alloc (Nat.le_refl _) _).alloc (by simp) _
theorem few_of {n k : Nat} (h : n < 10000 ^ k) (hk : k ≤ 1000000) : Few n := by
  have := (dig_length_le (B := 10000) (by omega) n k).2 h
  unfold Few
  omega
theorem small_lt {z : Int} (h : small z = true) : z.natAbs < 10000 ^ 50 := (dig_length_le (by omega) _ _).1 (small_few h)
theorem small_F {z : Int} (h : small z = true) : Few z.natAbs := few_of (small_lt h) (by omega)
theorem add_F {x y : Int} (hx : small x = true) (hy : small y = true) : Few (x + y).natAbs := by
  have h1 := small_lt hx
  have h2 := small_lt hy
  refine few_of (k := 51) ?_ (by omega)
  rw [Nat.pow_succ]
  omega
theorem mul_F {x y : Int} (hx : small x = true) (hy : small y = true) : Few (x * y).natAbs := by
  have h1 := small_lt hx
  have h2 := small_lt hy
  refine few_of (k := 50 + 50) ?_ (by omega)
  rw [Nat.pow_add, Int.natAbs_mul]
  exact Nat.mul_lt_mul'' h1 h2
theorem small_neg {y : Int} (h : small y = true) : small (-y) = true := by unfold small at h ⊢; rw [Int.natAbs_neg]; exact h

set_option maxHeartbeats 8000000 in
set_option maxRecDepth 100000 in
theorem Add_ok (x y : Int) (w : World) (hG : Glob w) (hx : small x = true) (hy : small y = true) :
    Calls Tryz.prog 86 #[.string (str x), .string (str y)] w fun e w' => (∃ s n, outZ (x + y) = #[.string s, .int .i64 n] ∧ e = .returned (.tuple #[.string s, .int .i64 n])) ∧ Below w.heap.size w w' := by
  have hB := fun W => both_ok x y W (by simpa [small] using hx) (by simpa [small] using hy)
  generalize str x = sx at hB ⊢
  generalize str y = sy at hB ⊢
  go_enter Tryz.func86, Tryz.ntmps86
  go_wp2_with (first
    | (go_at_call 117; with_reducible refine (hB _).mono ?_; rintro e w1 ⟨⟨va, vb, rfl, ha, hb⟩, hb1⟩; obtain ⟨n1, m1, a1, c1, rfl, hna, hza⟩ := ha.form; obtain ⟨n2, m2, a2, c2, rfl, hnb, hzb⟩ := hb.form; have HA := Lib.hid ha.zg; have HB := Lib.hid hb.zg; have HNA := Lib.hid hna; have HNB := Lib.hid hnb; have HZA := Lib.hid (zs_eq hza); have HZB := Lib.hid (zs_eq hzb); have HSA := Lib.hid hza; have HSB := Lib.hid hzb; have HG1 := Lib.hid (hG.below hb1); clear ha hb hna hnb hza hzb)
    | (go_at_call 128; refine (signed_plus _ _ x y _ _ _ _ _ (by exact HA.out.below (B2 w1 _ _) (Nat.le_refl _)) (by exact HB.out.below (B2 w1 _ _) (Nat.le_refl _)) (by exact (B2 w1 _ _).size) (by exact (B2 w1 _ _).size) (by exact small_F hx) (by exact small_F hy)).mono ?_; rintro e w2 ⟨⟨v, rfl, hv⟩, hb2⟩; have HV := Lib.hid hv; clear hv; have hbw : Below w1.heap.size w1 w2 := (B2 w1 _ _).trans (hb2.mono (B2 w1 _ _).size); have HG2 := Lib.hid (HG1.out.below hbw))
    | (go_at_call 122; refine (text_any _ (x + y) _ _ _ (by exact HG2.out) (by exact HV.out) (Nat.le_refl _) (by exact add_F hx hy)).mono ?_; rintro e w3 ⟨⟨s, n, hs, rfl⟩, hb3⟩))
  refine bodyPost_ret (v := .tuple #[.string s, .int .i64 n]) ?_ rfl ⟨⟨s, n, hs, rfl⟩, (hb1.trans (hbw.mono hb1.size)).trans (hb3.mono (Nat.le_trans hb1.size hbw.size))⟩
  simp [results, Tryz.results86, go_sem]

set_option maxHeartbeats 8000000 in
set_option maxRecDepth 100000 in
theorem Sub_ok (x y : Int) (w : World) (hG : Glob w) (hx : small x = true) (hy : small y = true) :
    Calls Tryz.prog 139 #[.string (str x), .string (str y)] w fun e w' => (∃ s n, outZ (x - y) = #[.string s, .int .i64 n] ∧ e = .returned (.tuple #[.string s, .int .i64 n])) ∧ Below w.heap.size w w' := by
  rw [Int.sub_eq_add_neg]
  have hB := fun W => both_ok x y W (by simpa [small] using hx) (by simpa [small] using hy)
  generalize str x = sx at hB ⊢
  generalize str y = sy at hB ⊢
  go_enter Tryz.func139, Tryz.ntmps139
  go_wp2_with (first
    | (go_at_call 117; with_reducible refine (hB _).mono ?_; rintro e w1 ⟨⟨va, vb, rfl, ha, hb⟩, hb1⟩; obtain ⟨n1, m1, a1, c1, rfl, hna, hza⟩ := ha.form; obtain ⟨n2, m2, a2, c2, rfl, hnb, hzb⟩ := hb.form; have HA := Lib.hid ha.zg; have HB := Lib.hid hb.zg; have HNA := Lib.hid hna; have HNB := Lib.hid hnb; have HZA := Lib.hid (zs_eq hza); have HZB := Lib.hid (zs_eq hzb); have HSA := Lib.hid hza; have HSB := Lib.hid hzb; have HG1 := Lib.hid (hG.below hb1); clear ha hb hna hnb hza hzb)
    | (go_at_call 128; refine (signed_plus _ _ x (-y) _ _ _ _ _ (by exact HA.out.below (B2 w1 _ _) (Nat.le_refl _)) (by exact HB.out.neg.below (B2 w1 _ _) (Nat.le_refl _)) (by exact (B2 w1 _ _).size) (by exact (B2 w1 _ _).size) (by exact small_F hx) (by exact small_F (small_neg hy))).mono ?_; rintro e w2 ⟨⟨v, rfl, hv⟩, hb2⟩; have HV := Lib.hid hv; clear hv; have hbw : Below w1.heap.size w1 w2 := (B2 w1 _ _).trans (hb2.mono (B2 w1 _ _).size); have HG2 := Lib.hid (HG1.out.below hbw))
    | (go_at_call 122; refine (text_any _ (x + -y) _ _ _ (by exact HG2.out) (by exact HV.out) (Nat.le_refl _) (by exact add_F hx (small_neg hy))).mono ?_; rintro e w3 ⟨⟨s, n, hs, rfl⟩, hb3⟩))
  refine bodyPost_ret (v := .tuple #[.string s, .int .i64 n]) ?_ rfl ⟨⟨s, n, hs, rfl⟩, (hb1.trans (hbw.mono hb1.size)).trans (hb3.mono (Nat.le_trans hb1.size hbw.size))⟩
  simp [results, Tryz.results139, go_sem]

set_option maxHeartbeats 8000000 in
set_option maxRecDepth 100000 in
theorem Mul_ok (x y : Int) (w : World) (hG : Glob w) (hx : small x = true) (hy : small y = true) :
    Calls Tryz.prog 170 #[.string (str x), .string (str y)] w fun e w' => (∃ s n, outZ (x * y) = #[.string s, .int .i64 n] ∧ e = .returned (.tuple #[.string s, .int .i64 n])) ∧ Below w.heap.size w w' := by
  have hB := fun W => both_ok x y W (by simpa [small] using hx) (by simpa [small] using hy)
  generalize str x = sx at hB ⊢
  generalize str y = sy at hB ⊢
  go_enter Tryz.func170, Tryz.ntmps170
  go_wp2_with (first
    | (go_at_call 117; with_reducible refine (hB _).mono ?_; rintro e w1 ⟨⟨va, vb, rfl, ha, hb⟩, hb1⟩; obtain ⟨n1, m1, a1, c1, rfl, hna, hza⟩ := ha.form; obtain ⟨n2, m2, a2, c2, rfl, hnb, hzb⟩ := hb.form; have HA := Lib.hid ha.zg; have HB := Lib.hid hb.zg; have HNA := Lib.hid hna; have HNB := Lib.hid hnb; have HZA := Lib.hid (zs_eq hza); have HZB := Lib.hid (zs_eq hzb); have HSA := Lib.hid hza; have HSB := Lib.hid hzb; have HG1 := Lib.hid (hG.below hb1); clear ha hb hna hnb hza hzb)
    | fail)
  have HF : Hid ((dig 10000 m1).length + (dig 10000 m2).length ≤ 1000000) := by
    have e1 := small_few hx
    have e2 := small_few hy
    have e3 := HZA.out
    have e4 := HZB.out
    have e5 : x.natAbs = m1 := by rw [e3]; split <;> omega
    have e6 : y.natAbs = m2 := by rw [e4]; split <;> omega
    rw [e5] at e1
    rw [e6] at e2
    show _ ≤ _
    omega
  have HP := Lib.hid (PairAt.start w1 n1 n2 (.slice a1 (dig 10000 m1).length c1) (.slice a2 (dig 10000 m2).length c2)).drew
  have hxf := small_F hx
  go_region_held3 (fun W => W.cell? ⟨w1.heap.size, 0, none⟩ = some (.bool n1) ∧ W.cell? ⟨w1.heap.size, 1, none⟩ = some (.slice a1 (dig 10000 m1).length c1) ∧ W.cell? ⟨w1.heap.size + 1, 0, none⟩ = some (.bool n2) ∧ W.cell? ⟨w1.heap.size + 1, 1, none⟩ = some (.slice a2 (dig 10000 m2).length c2)) (first | exact ⟨HP3.out.x0, HP3.out.x1, HP3.out.y0, HP3.out.y1⟩ | exact ⟨HP2.out.x0, HP2.out.x1, HP2.out.y0, HP2.out.y1⟩ | exact ⟨HP.out.x0, HP.out.x1, HP.out.y0, HP.out.y1⟩) (first
    | (go_at_call 201; refine (times_any _ _ m1 m2 _ _ _ _ _ (by exact HNA.out.below (B2d w1 _ _) (Nat.le_refl _)) (by exact HNB.out.below (B2d w1 _ _) (Nat.le_refl _)) (by exact (B2d w1 _ _).size) (by exact (B2d w1 _ _).size) (by exact HF.out)).mono ?_; rintro e w2 ⟨⟨v, rfl, hv⟩, hb2⟩; obtain ⟨a3, c3, rfl⟩ : ∃ a cap, v = .slice a (dig 10000 (m1 * m2)).length cap := (by obtain ⟨a, cap, e, _⟩ := hv; exact ⟨a, cap, e⟩); have HV := Lib.hid (Zg.of hv (mul_sign HZA.out HZB.out)); clear hv; have hbw : Below w1.heap.size w1 w2 := (B2d w1 _ _).trans (hb2.mono (B2d w1 _ _).size); have HG2 := Lib.hid (HG1.out.below hbw); have HP2 := Lib.hid (HP.out.below hb2))
    | (go_at_call 122; refine (text_any _ (x * y) _ _ _ (by exact HG2.out) (by exact HV.out) (Nat.le_refl _) (by exact mul_F hx hy)).mono ?_; rintro e w3 ⟨⟨s, n, hs, rfl⟩, hb3⟩; have HP3 := Lib.hid (HP2.out.below hb3)))
  all_goals go_wp2
  all_goals
    refine bodyPost_ret (v := .tuple #[.string s, .int .i64 n]) ?_ rfl ⟨⟨s, n, hs, rfl⟩, (hb1.trans (hbw.mono hb1.size)).trans (hb3.mono (Nat.le_trans hb1.size hbw.size))⟩
    simp [results, Tryz.results170, go_sem]
end Go.Proofs.YtgngepbemgbbeaaGreatDoor

namespace Go.Proofs.YtgngepbemgbbeaaGreatDoor
open Go.RowKit Go.Shelf
attribute [local go_sem] Oper.semAt_some

theorem cmp_sign {x y : Int} {n1 n2 b1 b2 : Bool} {m1 m2 : Nat} (h1 : n1 = decide (x < 0) ∧ m1 = x.natAbs) (h2 : n2 = decide (y < 0) ∧ m2 = y.natAbs) (k1 : n1 = b1) (k2 : n2 = b2) :
    (if b1 = true then (if b2 = true then cmpI m2 m1 else -1) else if b2 = true then 1 else cmpI m1 m2) = cmpI x y := by
  obtain ⟨h1, rfl⟩ := h1
  obtain ⟨h2, rfl⟩ := h2
  subst k1 k2
  unfold cmpI
  by_cases e1 : x < 0 <;> by_cases e2 : y < 0
  · have f1 : n1 = true := by rw [h1]; exact decide_eq_true e1
    have f2 : n2 = true := by rw [h2]; exact decide_eq_true e2
    rw [if_pos f1, if_pos f2]
    rcases Int.lt_trichotomy x y with h | h | h
    · rw [if_pos h, if_pos (by omega)]
    · rw [if_neg (by omega), if_neg (by omega), if_neg (by omega), if_neg (by omega)]
    · rw [if_neg (by omega), if_pos (by omega), if_neg (by omega), if_pos (by omega)]
  · have f1 : n1 = true := by rw [h1]; exact decide_eq_true e1
    have f2 : n2 = false := by rw [h2]; exact decide_eq_false e2
    rw [if_pos f1, if_neg (by rw [f2]; simp), if_pos (by omega)]
  · have f1 : n1 = false := by rw [h1]; exact decide_eq_false e1
    have f2 : n2 = true := by rw [h2]; exact decide_eq_true e2
    rw [if_neg (by rw [f1]; simp), if_pos f2, if_neg (by omega), if_pos (by omega)]
  · have f1 : n1 = false := by rw [h1]; exact decide_eq_false e1
    have f2 : n2 = false := by rw [h2]; exact decide_eq_false e2
    rw [if_neg (by rw [f1]; simp), if_neg (by rw [f2]; simp)]
    rcases Int.lt_trichotomy x y with h | h | h
    · rw [if_pos h, if_pos (by omega)]
    · rw [if_neg (by omega), if_neg (by omega), if_neg (by omega), if_neg (by omega)]
    · rw [if_neg (by omega), if_pos (by omega), if_neg (by omega), if_pos (by omega)]

set_option maxHeartbeats 4000000 in
set_option maxRecDepth 100000 in
theorem Add_no (a b : ByteArray) (w : World) (ha : a.size ≤ 9223372036854775807) (hb : b.size ≤ 9223372036854775807) (hn : (validL a.data.toList && validL b.data.toList) = false) :
    Calls Tryz.prog 86 #[.string a, .string b] w fun e w' => e = .returned (.tuple #[.string ⟨#[]⟩, .int .i64 30]) ∧ Below w.heap.size w w' := by
  have hB := fun W => both_no a b W ha hb hn
  go_enter Tryz.func86, Tryz.ntmps86
  go_wp2_with (go_at_call 117; with_reducible refine (hB _).mono ?_; rintro e w1 ⟨rfl, hb1⟩)
  refine bodyPost_ret (v := .tuple #[.string ⟨#[]⟩, .int .i64 30]) ?_ rfl ⟨rfl, hb1.trans ((B2 w1 _ _).mono hb1.size)⟩
  simp [results, Tryz.results86, go_sem]

set_option maxHeartbeats 4000000 in
set_option maxRecDepth 100000 in
theorem Sub_no (a b : ByteArray) (w : World) (ha : a.size ≤ 9223372036854775807) (hb : b.size ≤ 9223372036854775807) (hn : (validL a.data.toList && validL b.data.toList) = false) :
    Calls Tryz.prog 139 #[.string a, .string b] w fun e w' => e = .returned (.tuple #[.string ⟨#[]⟩, .int .i64 30]) ∧ Below w.heap.size w w' := by
  have hB := fun W => both_no a b W ha hb hn
  go_enter Tryz.func139, Tryz.ntmps139
  go_wp2_with (go_at_call 117; with_reducible refine (hB _).mono ?_; rintro e w1 ⟨rfl, hb1⟩)
  refine bodyPost_ret (v := .tuple #[.string ⟨#[]⟩, .int .i64 30]) ?_ rfl ⟨rfl, hb1.trans ((B2 w1 _ _).mono hb1.size)⟩
  simp [results, Tryz.results139, go_sem]

set_option maxHeartbeats 4000000 in
set_option maxRecDepth 100000 in
theorem Mul_no (a b : ByteArray) (w : World) (ha : a.size ≤ 9223372036854775807) (hb : b.size ≤ 9223372036854775807) (hn : (validL a.data.toList && validL b.data.toList) = false) :
    Calls Tryz.prog 170 #[.string a, .string b] w fun e w' => e = .returned (.tuple #[.string ⟨#[]⟩, .int .i64 30]) ∧ Below w.heap.size w w' := by
  have hB := fun W => both_no a b W ha hb hn
  go_enter Tryz.func170, Tryz.ntmps170
  go_wp2_with (go_at_call 117; with_reducible refine (hB _).mono ?_; rintro e w1 ⟨rfl, hb1⟩)
  refine bodyPost_ret (v := .tuple #[.string ⟨#[]⟩, .int .i64 30]) ?_ rfl ⟨rfl, hb1.trans ((B2 w1 _ _).mono hb1.size)⟩
  simp [results, Tryz.results170, go_sem]

set_option maxHeartbeats 4000000 in
set_option maxRecDepth 100000 in
theorem Gcd_no (a b : ByteArray) (w : World) (ha : a.size ≤ 9223372036854775807) (hb : b.size ≤ 9223372036854775807) (hn : (validL a.data.toList && validL b.data.toList) = false) :
    Calls Tryz.prog 116 #[.string a, .string b] w fun e w' => e = .returned (.tuple #[.string ⟨#[]⟩, .int .i64 30]) ∧ Below w.heap.size w w' := by
  have hB := fun W => both_no a b W ha hb hn
  go_enter Tryz.func116, Tryz.ntmps116
  go_wp2_with (go_at_call 117; with_reducible refine (hB _).mono ?_; rintro e w1 ⟨rfl, hb1⟩)
  refine bodyPost_ret (v := .tuple #[.string ⟨#[]⟩, .int .i64 30]) ?_ rfl ⟨rfl, hb1.trans ((B2 w1 _ _).mono hb1.size)⟩
  simp [results, Tryz.results116, go_sem]

set_option maxHeartbeats 4000000 in
set_option maxRecDepth 100000 in
theorem Div_no (a b : ByteArray) (w : World) (ha : a.size ≤ 9223372036854775807) (hb : b.size ≤ 9223372036854775807) (hn : (validL a.data.toList && validL b.data.toList) = false) :
    Calls Tryz.prog 83 #[.string a, .string b] w fun e w' => e = .returned (.tuple #[.string ⟨#[]⟩, .string ⟨#[]⟩, .int .i64 30]) ∧ Below w.heap.size w w' := by
  have hB := fun W => both_no a b W ha hb hn
  go_enter Tryz.func83, Tryz.ntmps83
  go_wp2_with (go_at_call 117; with_reducible refine (hB _).mono ?_; rintro e w1 ⟨rfl, hb1⟩)
  refine bodyPost_ret (v := .tuple #[.string ⟨#[]⟩, .string ⟨#[]⟩, .int .i64 30]) ?_ rfl ⟨rfl, hb1.trans ((B2 w1 _ _).mono hb1.size)⟩
  simp [results, Tryz.results83, go_sem]

set_option maxHeartbeats 4000000 in
set_option maxRecDepth 100000 in
theorem Compare_no (a b : ByteArray) (w : World) (ha : a.size ≤ 9223372036854775807) (hb : b.size ≤ 9223372036854775807) (hn : (validL a.data.toList && validL b.data.toList) = false) :
    Calls Tryz.prog 84 #[.string a, .string b] w fun e w' => e = .returned (.int .i64 0) ∧ Below w.heap.size w w' := by
  have hB := fun W => both_no a b W ha hb hn
  go_enter Tryz.func84, Tryz.ntmps84
  go_wp2_with (go_at_call 117; with_reducible refine (hB _).mono ?_; rintro e w1 ⟨rfl, hb1⟩)
  refine bodyPost_ret (v := .int .i64 0) ?_ rfl ⟨rfl, hb1.trans ((B2 w1 _ _).mono hb1.size)⟩
  simp [results, Tryz.results84, go_sem]

set_option maxHeartbeats 8000000 in
set_option maxRecDepth 100000 in
theorem Compare_ok (x y : Int) (w : World) (hx : small x = true) (hy : small y = true) :
    Calls Tryz.prog 84 #[.string (str x), .string (str y)] w fun e w' => e = .returned (.int .i64 (cmpI x y)) ∧ Below w.heap.size w w' := by
  have hB := fun W => both_ok x y W (by simpa [small] using hx) (by simpa [small] using hy)
  generalize str x = sx at hB ⊢
  generalize str y = sy at hB ⊢
  go_enter Tryz.func84, Tryz.ntmps84
  go_wp2_with (first
    | (go_at_call 117; with_reducible refine (hB _).mono ?_; rintro e w1 ⟨⟨va, vb, rfl, ha, hb⟩, hb1⟩; obtain ⟨n1, m1, a1, c1, rfl, hna, hza⟩ := ha.form; obtain ⟨n2, m2, a2, c2, rfl, hnb, hzb⟩ := hb.form; have HA := Lib.hid ha.zg; have HB := Lib.hid hb.zg; have HNA := Lib.hid hna; have HNB := Lib.hid hnb; have HZA := Lib.hid (zs_eq hza); have HZB := Lib.hid (zs_eq hzb); have HSA := Lib.hid hza; have HSB := Lib.hid hzb; clear ha hb hna hnb hza hzb)
    | (go_at_call 123; refine (compare_any _ _ m1 m2 _ _ _ _ _ (by exact HNA.out.below (B2 w1 _ _) (Nat.le_refl _)) (by exact HNB.out.below (B2 w1 _ _) (Nat.le_refl _)) (by exact (B2 w1 _ _).size) (by exact (B2 w1 _ _).size)).mono ?_; rintro e w2 ⟨rfl, hb2⟩)
    | (go_at_call 123; refine (compare_any _ _ m2 m1 _ _ _ _ _ (by exact HNB.out.below (B2 w1 _ _) (Nat.le_refl _)) (by exact HNA.out.below (B2 w1 _ _) (Nat.le_refl _)) (by exact (B2 w1 _ _).size) (by exact (B2 w1 _ _).size)).mono ?_; rintro e w2 ⟨rfl, hb2⟩))
  all_goals
    have hc := cmp_sign (b1 := true) (b2 := true) HSA.out HSB.out
    have hc2 := cmp_sign (b1 := true) (b2 := false) HSA.out HSB.out
    have hc3 := cmp_sign (b1 := false) (b2 := true) HSA.out HSB.out
    have hc4 := cmp_sign (b1 := false) (b2 := false) HSA.out HSB.out
  · refine bodyPost_ret (v := .int .i64 (cmpI m2 m1)) (by simp [results, Tryz.results84, go_sem]) rfl ⟨ret_int (by simpa using hc (by first | assumption | (cases n1 <;> simp_all; done)) (by assumption)), hb1.trans (((B2 w1 _ _).trans (hb2.mono (B2 w1 _ _).size)).mono hb1.size)⟩
  · refine bodyPost_ret (v := .int .i64 (-1)) (by simp [results, Tryz.results84, go_sem]) rfl ⟨ret_int (by simpa using hc2 (by first | assumption | (cases n1 <;> simp_all; done)) (by assumption)), hb1.trans ((B2 w1 _ _).mono hb1.size)⟩
  · refine bodyPost_ret (v := .int .i64 1) (by simp [results, Tryz.results84, go_sem]) rfl ⟨ret_int (by simpa using hc3 (by first | assumption | (cases n1 <;> simp_all; done)) (by assumption)), hb1.trans ((B2 w1 _ _).mono hb1.size)⟩
  · refine bodyPost_ret (v := .int .i64 (cmpI m1 m2)) (by simp [results, Tryz.results84, go_sem]) rfl ⟨ret_int (by simpa using hc4 (by first | assumption | (cases n1 <;> simp_all; done)) (by assumption)), hb1.trans (((B2 w1 _ _).trans (hb2.mono (B2 w1 _ _).size)).mono hb1.size)⟩
end Go.Proofs.YtgngepbemgbbeaaGreatDoor

namespace Go.Proofs.YtgngepbemgbbeaaGreatDoor
open Go.RowKit Go.Shelf
attribute [local go_sem] Oper.semAt_some

theorem Valid_any (s : ByteArray) (w : World) (hs : s.size ≤ 9223372036854775807) :
    Calls Tryz.prog 115 #[.string s] w fun e w' => e = .returned (.bool (numOf s).isSome) ∧ Below w.heap.size w w' := by
  rw [numOf_valid]
  have hV := fun W => isValid_any s W hs
  go_enter Tryz.func115, Tryz.ntmps115
  go_wp2_with (go_at_call 156; with_reducible refine (hV _).mono ?_; rintro e w1 ⟨rfl, hb1⟩)
  go_ret
  exact ⟨rfl, hb1⟩
theorem FromInt_any (z : Int) (w : World) (hG : Glob w) (h0 : -9223372036854775808 ≤ z) (h1 : z ≤ 9223372036854775807) :
    Calls Tryz.prog 111 #[.int .i64 z] w fun e w' => e = .returned (.string (str z)) ∧ Below w.heap.size w w' := by
  have hI := fun W hG => Itoa_any z W hG h0 h1
  generalize str z = s at hI ⊢
  go_enter Tryz.func111, Tryz.ntmps111
  go_wp2_with (go_at_call 154; with_reducible refine (hI _ hG).mono ?_; rintro e w1 ⟨rfl, hb1⟩)
  go_ret
  exact ⟨rfl, hb1⟩

/-- What a slice of groups reads as is one number. -/
theorem ns_inj {w : World} {v : Value} {xs ys : List Nat} {lo hi lo' hi' : Nat} (h : Ns w v xs lo hi) (k : Ns w v ys lo' hi') : xs = ys := by
  obtain ⟨a, cap, rfl, _⟩ := id h
  have hl : xs.length = ys.length := by
    obtain ⟨a', cap', e, _⟩ := id k
    simp only [Value.slice.injEq] at e
    omega
  apply List.ext_getElem hl
  intro i h1 h2
  obtain ⟨b, off, rfl, _, _, e1⟩ := h.at (k := i) h1
  obtain ⟨b', off', e, _, _, e2⟩ := k.at (k := i) h2
  simp only [Option.some.injEq, Addr.mk.injEq, and_true] at e
  obtain ⟨rfl, rfl⟩ := e
  rw [e1] at e2
  simp only [Option.some.injEq, Value.int.injEq, true_and] at e2
  omega
theorem nm_measure : ∃ μ : World → Value → Nat, ∀ w v n lo hi, Nm w v n lo hi → μ w v = n := by
  refine ⟨fun w v => Classical.epsilon (fun n => ∃ lo hi, Nm w v n lo hi), ?_⟩
  intro w v n lo hi h
  obtain ⟨lo', hi', h'⟩ := Classical.epsilon_spec (p := fun n => ∃ lo hi, Nm w v n lo hi) ⟨n, lo, hi, h⟩
  exact dig_inj (B := 10000) (by omega) (ns_inj h' h)
theorem nm_pos {w : World} {v : Value} {n lo hi : Nat} (_h : Nm w v n lo hi) : (dig 10000 n).length = 0 ↔ n = 0 := by
  rw [List.length_eq_zero_iff, dig_nil (by omega)]

set_option maxHeartbeats 8000000 in
set_option maxRecDepth 100000 in
theorem Gcd_ok (x y : Int) (w : World) (hG : Glob w) (hx : small x = true) (hy : small y = true) :
    Calls Tryz.prog 116 #[.string (str x), .string (str y)] w fun e w' => (∃ s n, outZ ((Nat.gcd x.natAbs y.natAbs : Nat) : Int) = #[.string s, .int .i64 n] ∧ e = .returned (.tuple #[.string s, .int .i64 n])) ∧ Below w.heap.size w w' := by
  have hB := fun W => both_ok x y W (by simpa [small] using hx) (by simpa [small] using hy)
  obtain ⟨μ, hμ⟩ := nm_measure
  have hMU := Lib.hid hμ
  have hX := small_lt hx
  have hY := small_lt hy
  clear hμ
  generalize str x = sx at hB ⊢
  generalize str y = sy at hB ⊢
  go_enter Tryz.func116, Tryz.ntmps116
  go_wp2_with (go_at_call 117; with_reducible refine (hB _).mono ?_; rintro e w1 ⟨⟨va, vb, rfl, ha, hb⟩, hb1⟩; obtain ⟨n1, m1, a1, c1, rfl, hna, hza⟩ := ha.form; obtain ⟨n2, m2, a2, c2, rfl, hnb, hzb⟩ := hb.form; have HA := Lib.hid ha.zg; have HB := Lib.hid hb.zg; have HNA := Lib.hid hna; have HNB := Lib.hid hnb; have HZA := Lib.hid (zs_eq hza); have HZB := Lib.hid (zs_eq hzb); have HSA := Lib.hid hza; have HSB := Lib.hid hzb; have HG1 := Lib.hid (hG.below hb1); clear ha hb hna hnb hza hzb)
  have HP := Lib.hid (PairAt.start w1 n1 n2 (.slice a1 (dig 10000 m1).length c1) (.slice a2 (dig 10000 m2).length c2)).drew
  go_region_held3 (fun W => W.cell? ⟨w1.heap.size, 1, none⟩ = some (.slice a1 (dig 10000 m1).length c1) ∧ W.cell? ⟨w1.heap.size + 1, 1, none⟩ = some (.slice a2 (dig 10000 m2).length c2)) (first | exact ⟨HP.out.x1, HP.out.y1⟩) (first | fail)
  go_wp2
  obtain ⟨W0, hW0⟩ : ∃ W0, ((w1.alloc (Obj.cells #[Value.bool n1, Value.slice a1 (dig 10000 m1).length c1] 123)).alloc (Obj.cells #[Value.bool n2, Value.slice a2 (dig 10000 m2).length c2] 123)).drew = W0 := ⟨_, rfl⟩
  have hbW : Below w1.heap.size w1 W0 := by rw [← hW0]; exact B2d w1 _ _
  have hw1 := hb1.size
  rw [hW0]
  clear hW0
  go_loopw [9, 10, 11, 12] (fun k l _ _ wr => ∃ (K L : Nat) (ka la : Option Addr) (kc lc : Nat), k = .slice ka (dig 10000 K).length kc ∧ l = .slice la (dig 10000 L).length lc ∧ Nm wr k K w.heap.size wr.heap.size ∧ Nm wr l L w.heap.size wr.heap.size ∧ K < 10000 ^ 50 ∧ L < 10000 ^ 50 ∧ Nat.gcd K L = Nat.gcd x.natAbs y.natAbs ∧ Below w.heap.size w wr)
    (fun _ l _ _ wr => μ wr l)
  case atStart =>
    refine ⟨m1, m2, a1, a2, c1, c2, rfl, rfl, (HNA.out.below hbW (Nat.le_refl _)).mono (Nat.le_refl _) hbW.size, (HNB.out.below hbW (Nat.le_refl _)).mono (Nat.le_refl _) hbW.size, ?_, ?_, ?_, hb1.trans (hbW.mono hw1)⟩
    · rw [HSA.out.2]; exact hX
    · rw [HSB.out.2]; exact hY
    · rw [HSA.out.2, HSB.out.2]
  case round =>
    obtain ⟨K, L, ka, la, kc, lc, rfl, rfl, hk, hl, hK, hL, hgcd, hb⟩ := hrel
    have hfK : (dig 10000 K).length ≤ 50 := (dig_length_le (by omega) _ _).2 hK
    have hfL : (dig 10000 L).length ≤ 50 := (dig_length_le (by omega) _ _).2 hL
    have hpos := nm_pos hl
    have HK := Lib.hid hk
    have HL := Lib.hid hl
    have HGC := Lib.hid hgcd
    have HKb := Lib.hid hK
    have HLb := Lib.hid hL
    have HGw := Lib.hid (hG.below hb)
    have hwr := hb.size
    clear hk hl hgcd hK hL
    rcases Nat.eq_zero_or_pos L with h0 | h0
    · have hz := hpos.2 h0
      clear hpos
      rw [hz]
      go_wp2_with (go_at_call 122; refine (text_any _ (K : Int) _ _ _ (by exact HGw.out) (by exact Zg.of (neg := false) HK.out rfl) (Nat.le_refl _) (by show (dig 10000 K).length ≤ 1000000; omega)).mono ?_; rintro e w3 ⟨⟨s, n, hs, rfl⟩, hb3⟩)
      have e : Nat.gcd x.natAbs y.natAbs = K := by rw [← HGC.out, h0, Nat.gcd_zero_right]
      refine bodyPost_ret (v := .tuple #[.string s, .int .i64 n]) ?_ rfl ⟨⟨s, n, by rw [e]; exact hs, rfl⟩, hb.trans (hb3.mono hwr)⟩
      simp [results, Tryz.results116, go_sem]
    · have hz : 0 < (dig 10000 L).length := by omega
      clear hpos
      go_wp2_with (go_at_call 118; refine (over_any _ _ K L _ _ _ _ _ (by exact HK.out) (by exact HL.out) (Nat.le_refl _) (Nat.le_refl _) (by omega) (by omega) h0).mono ?_; rintro e w3 ⟨⟨q, r, rfl, hq, hr⟩, hb3⟩; obtain ⟨qa, qc, rfl⟩ : ∃ a cap, q = .slice a (dig 10000 (K / L)).length cap := (by obtain ⟨a, cap, e, _⟩ := hq; exact ⟨a, cap, e⟩); obtain ⟨ra, rc, rfl⟩ : ∃ a cap, r = .slice a (dig 10000 (K % L)).length cap := (by obtain ⟨a, cap, e, _⟩ := hr; exact ⟨a, cap, e⟩); have HR := Lib.hid hr; clear hq hr)
      have hlt : K % L < L := Nat.mod_lt _ h0
      refine ⟨⟨L, K % L, la, ra, lc, rc, rfl, rfl, (HL.out.below hb3 (Nat.le_refl _)).mono (Nat.le_refl _) hb3.size, HR.out.mono hwr (Nat.le_refl _), HLb.out, Nat.lt_trans hlt HLb.out, ?_, hb.trans (hb3.mono hwr)⟩, ?_⟩
      · rw [← HGC.out, Nat.gcd_comm K L, Nat.gcd_rec L K, Nat.gcd_comm]
      · rw [hMU.out _ _ _ _ _ HR.out, hMU.out _ _ _ _ _ HL.out]; exact hlt
end Go.Proofs.YtgngepbemgbbeaaGreatDoor

namespace Go.Proofs.YtgngepbemgbbeaaGreatDoor
open Go.RowKit Go.Shelf
attribute [local go_sem] Oper.semAt_some

theorem zero_len {m : Nat} (h : m = (0 : Int).natAbs) : (dig 10000 m).length = 0 := by
  rw [h]; rfl
theorem div_pos_uniq {x b q r : Int} (h : x = b * q + r) (h0 : 0 ≤ r) (h1 : r < b) : x / b = q ∧ x % b = r :=
  (Int.ediv_emod_unique (by omega)).2 ⟨by omega, h0, h1⟩
theorem div_any_uniq {x y q r : Int} (h : x = (y.natAbs : Int) * q + r) (h0 : 0 ≤ r) (h1 : r < y.natAbs) : x / y = (if y < 0 then -q else q) ∧ x % y = r := by
  by_cases hy : y < 0
  · have hb : ((y.natAbs : Nat) : Int) = -y := by omega
    rw [hb] at h h1
    have := div_pos_uniq h h0 h1
    rw [Int.ediv_neg, Int.emod_neg] at this
    rw [if_pos hy]
    exact ⟨by omega, this.2⟩
  · have hb : ((y.natAbs : Nat) : Int) = y := by omega
    rw [hb] at h h1
    rw [if_neg hy]
    exact div_pos_uniq h h0 h1
theorem div_plain {x y : Int} {n1 n2 : Bool} {K L : Nat} (hx : n1 = decide (x < 0) ∧ K = x.natAbs) (hy : n2 = decide (y < 0) ∧ L = y.natAbs) (h0 : 0 < L) (hc : n1 = false ∨ K % L = 0) :
    x / y = (if (n1 != n2) = true then -((K / L : Nat) : Int) else ((K / L : Nat) : Int)) ∧ x % y = ((K % L : Nat) : Int) := by
  obtain ⟨rfl, rfl⟩ := hx
  obtain ⟨rfl, rfl⟩ := hy
  have hK := Nat.div_add_mod x.natAbs y.natAbs
  have hr := Nat.mod_lt x.natAbs h0
  generalize x.natAbs / y.natAbs = q at *
  generalize x.natAbs % y.natAbs = r at *
  have hKi : ((y.natAbs : Nat) : Int) * (q : Int) + r = x.natAbs := by exact_mod_cast hK
  by_cases hx0 : x < 0
  · have hr0 : r = 0 := by
      rcases hc with h | h
      · simp at h; omega
      · exact h
    subst hr0
    have := div_any_uniq (x := x) (y := y) (q := -(q : Int)) (r := 0) (by rw [Int.mul_neg]; omega) (by omega) (by omega)
    refine ⟨?_, by simpa using this.2⟩
    rw [this.1]
    by_cases hy0 : y < 0 <;> simp [hx0, hy0]
  · have := div_any_uniq (x := x) (y := y) (q := (q : Int)) (r := r) (by omega) (by omega) (by omega)
    refine ⟨?_, this.2⟩
    rw [this.1]
    by_cases hy0 : y < 0 <;> simp [hx0, hy0]
theorem div_up {x y : Int} {n1 n2 : Bool} {K L : Nat} (hx : n1 = decide (x < 0) ∧ K = x.natAbs) (hy : n2 = decide (y < 0) ∧ L = y.natAbs) (h0 : 0 < L) (hc : n1 = true) (hr1 : K % L ≠ 0) :
    x / y = (if (n1 != n2) = true then -((K / L + 1 : Nat) : Int) else ((K / L + 1 : Nat) : Int)) ∧ x % y = ((L - K % L : Nat) : Int) := by
  obtain ⟨rfl, rfl⟩ := hx
  obtain ⟨rfl, rfl⟩ := hy
  have hK := Nat.div_add_mod x.natAbs y.natAbs
  have hr := Nat.mod_lt x.natAbs h0
  generalize x.natAbs / y.natAbs = q at *
  generalize x.natAbs % y.natAbs = r at *
  have hKi : ((y.natAbs : Nat) : Int) * (q : Int) + r = x.natAbs := by exact_mod_cast hK
  have hx0 : x < 0 := by simpa using hc
  have := div_any_uniq (x := x) (y := y) (q := -((q + 1 : Nat) : Int)) (r := ((y.natAbs - r : Nat) : Int)) (by
    rw [Int.mul_neg, show ((q + 1 : Nat) : Int) = (q : Int) + 1 from by omega, Int.mul_add, Int.mul_one]; omega) (by omega) (by omega)
  refine ⟨?_, this.2⟩
  rw [this.1]
  by_cases hy0 : y < 0 <;> simp [hx0, hy0]

theorem one_any (w : World) : Calls Tryz.prog 120 #[] w fun e w' => (∃ v, e = .returned v ∧ Nm w' v 1 w.heap.size w'.heap.size) ∧ Below w.heap.size w w' := by
  go_enter Tryz.func120, Tryz.ntmps120
  go_wp2
  go_ret
  refine ⟨⟨_, rfl, ?_⟩, (Below.refl _ _).alloc (Nat.le_refl _) _⟩
  have h1 : dig 10000 1 = [1] := by decide
  show Ns _ _ (dig 10000 1) _ _
  rw [h1]
  refine ⟨_, 1, rfl, by decide, by decide, by decide, fun h => by simp at h, fun ad ha => ?_⟩
  simp only [Option.some.injEq] at ha
  subst ha
  refine ⟨w.heap.size, 0, rfl, Nat.le_refl _, by simp, ?_⟩
  intro i u hu
  cases i with
  | zero => simp at hu; subst hu; simp [go_sem]
  | succ i => simp at hu

theorem text_small (v : Value) (z : Int) (lo hi : Nat) (w : World) (hG : Glob w) (h : Zg w v z lo hi) (b : hi ≤ w.heap.size) (hs : small z = true) :
    Calls Tryz.prog 122 #[v] w fun e w' => (∃ s, s = str z ∧ e = .returned (.tuple #[.string s, .int .i64 0])) ∧ Below w.heap.size w w' := by
  refine (text_any v z lo hi w hG h b (small_F hs)).mono ?_
  rintro e w' ⟨⟨s, n, h1, rfl⟩, hb⟩
  unfold outZ at h1
  rw [if_pos hs] at h1
  simp only [Array.mk.injEq, List.cons.injEq, Value.string.injEq, Value.int.injEq, true_and, and_true] at h1
  obtain ⟨rfl, rfl⟩ := h1
  exact ⟨⟨_, rfl, rfl⟩, hb⟩
theorem small_le {z y : Int} (h : small y = true) (hl : z.natAbs ≤ y.natAbs) : small z = true := by
  unfold small at h ⊢
  simp only [decide_eq_true_eq] at h ⊢
  rw [nDig_le (by omega)] at h ⊢
  omega
theorem small_div {x : Int} (y : Int) (h : small x = true) : small (x / y) = true := small_le h (Int.natAbs_ediv_le_natAbs x y)
theorem small_mod {x y : Int} (hy : y ≠ 0) (h : small y = true) : small (x % y) = true := by
  refine small_le h ?_
  have h1 := Int.emod_nonneg x hy
  have h2 := Int.emod_lt x hy
  omega

theorem div_A {x y : Int} {n2 : Bool} {K L : Nat} (hx : false = decide (x < 0) ∧ K = x.natAbs) (hy : n2 = decide (y < 0) ∧ L = y.natAbs) (h0 : 0 < L) :
    x / y = (if n2 = true then -((K / L : Nat) : Int) else ((K / L : Nat) : Int)) ∧ x % y = if false = true then -((K % L : Nat) : Int) else ((K % L : Nat) : Int) := by
  have := div_plain hx hy h0 (.inl rfl)
  cases n2 <;> simpa using this
theorem div_B {x y : Int} {n2 : Bool} {K L : Nat} (hx : true = decide (x < 0) ∧ K = x.natAbs) (hy : n2 = decide (y < 0) ∧ L = y.natAbs) (h0 : 0 < L) (hm : K % L = 0) :
    x / y = (if (!n2) = true then -((K / L : Nat) : Int) else ((K / L : Nat) : Int)) ∧ x % y = if false = true then -((K % L : Nat) : Int) else ((K % L : Nat) : Int) := by
  have := div_plain hx hy h0 (.inr hm)
  cases n2 <;> simpa using this
theorem div_C {x y : Int} {n2 : Bool} {K L : Nat} (hx : true = decide (x < 0) ∧ K = x.natAbs) (hy : n2 = decide (y < 0) ∧ L = y.natAbs) (h0 : 0 < L) (hm : K % L ≠ 0) :
    x / y = (if (!n2) = true then -((K / L + 1 : Nat) : Int) else ((K / L + 1 : Nat) : Int)) ∧ x % y = if false = true then -((L - K % L : Nat) : Int) else ((L - K % L : Nat) : Int) := by
  have := div_up hx hy h0 rfl hm
  cases n2 <;> simpa using this

set_option maxHeartbeats 8000000 in
set_option maxRecDepth 100000 in
theorem Div_zero (x : Int) (w : World) (_hG : Glob w) (hx : small x = true) :
    Calls Tryz.prog 83 #[.string (str x), .string (str 0)] w fun e w' => e = .returned (.tuple #[.string ⟨#[]⟩, .string ⟨#[]⟩, .int .i64 30]) ∧ Below w.heap.size w w' := by
  have hB := fun W => both_ok x 0 W (by simpa [small] using hx) (by decide)
  generalize str x = sx at hB ⊢
  generalize str 0 = sy at hB ⊢
  go_enter Tryz.func83, Tryz.ntmps83
  go_wp2_with (go_at_call 117; with_reducible refine (hB _).mono ?_; rintro e w1 ⟨⟨va, vb, rfl, ha, hb⟩, hb1⟩; obtain ⟨n1, m1, a1, c1, rfl, hna, hza⟩ := ha.form; obtain ⟨n2, m2, a2, c2, rfl, hnb, hzb⟩ := hb.form; have hm2 := zero_len hzb.2; clear ha hb hza hzb hna hnb)
  refine bodyPost_ret (v := .tuple #[.string ⟨#[]⟩, .string ⟨#[]⟩, .int .i64 30]) ?_ rfl ⟨rfl, hb1.trans ((B2 w1 _ _).mono hb1.size)⟩
  simp [results, Tryz.results83, go_sem]

set_option maxHeartbeats 8000000 in
set_option maxRecDepth 100000 in
theorem Div_A (x y : Int) (w : World) (hG : Glob w) (hx : small x = true) (hy : small y = true) (hy0 : y ≠ 0) (hneg : ¬ x < 0) :
    Calls Tryz.prog 83 #[.string (str x), .string (str y)] w fun e w' => e = .returned (.tuple #[.string (str (x / y)), .string (str (x % y)), .int .i64 0]) ∧ Below w.heap.size w w' := by
  have hB := fun W => both_ok x y W (by simpa [small] using hx) (by simpa [small] using hy)
  have hsd := small_div y hx
  have hsm := small_mod (x := x) hy0 hy
  have hL0 : 0 < y.natAbs := by omega
  generalize str x = sx at hB ⊢
  generalize str y = sy at hB ⊢
  obtain ⟨sq, hsq⟩ : ∃ s, s = str (x / y) := ⟨_, rfl⟩
  obtain ⟨sr, hsr⟩ : ∃ s, s = str (x % y) := ⟨_, rfl⟩
  rw [← hsq, ← hsr]
  have HSQ := Lib.hid hsq
  have HSR := Lib.hid hsr
  clear hsq hsr
  have HX := Lib.hid (small_few hx)
  have HY := Lib.hid (small_few hy)
  go_enter Tryz.func83, Tryz.ntmps83
  go_wp2_with (first
    | (go_at_call 117; with_reducible refine (hB _).mono ?_; rintro e w1 ⟨⟨va, vb, rfl, ha, hb⟩, hb1⟩; obtain ⟨n1, m1, a1, c1, rfl, hna, hza⟩ := ha.form; obtain ⟨n2, m2, a2, c2, rfl, hnb, hzb⟩ := hb.form; have HA := Lib.hid ha.zg; have HB := Lib.hid hb.zg; have HNA := Lib.hid hna; have HNB := Lib.hid hnb; have HZA := Lib.hid (zs_eq hza); have HZB := Lib.hid (zs_eq hzb); have HSA := Lib.hid hza; have HSB := Lib.hid hzb; have HG1 := Lib.hid (hG.below hb1); have hm2 : 0 < (dig 10000 m2).length := (by have h1 := nm_pos hnb; have h2 := hzb.2; omega); have hf1 : (dig 10000 m1).length ≤ 50 := (by rw [hza.2]; exact HX.out); have hf2 : (dig 10000 m2).length ≤ 50 := (by rw [hzb.2]; exact HY.out); obtain rfl : n1 = false := (by rw [hza.1]; exact decide_eq_false hneg); clear ha hb hna hnb hza hzb)
    | (go_at_call 118; refine (over_any _ _ m1 m2 _ _ _ _ _ (by exact HNA.out.below (B2 w1 _ _) (Nat.le_refl _)) (by exact HNB.out.below (B2 w1 _ _) (Nat.le_refl _)) (by exact (B2 w1 _ _).size) (by exact (B2 w1 _ _).size) (by omega) (by omega) (by rw [HSB.out.2]; exact hL0)).mono ?_; rintro e w2 ⟨⟨q, r, rfl, hq, hr⟩, hb2⟩; obtain ⟨qa, qc, rfl⟩ : ∃ a cap, q = .slice a (dig 10000 (m1 / m2)).length cap := (by obtain ⟨a, cap, e, _⟩ := hq; exact ⟨a, cap, e⟩); obtain ⟨ra, rc, rfl⟩ : ∃ a cap, r = .slice a (dig 10000 (m1 % m2)).length cap := (by obtain ⟨a, cap, e, _⟩ := hr; exact ⟨a, cap, e⟩); have hrz := nm_pos hr; have hrr : True := trivial; have HQ := Lib.hid hq; have HR := Lib.hid hr; clear hq hr; have hbw : Below w1.heap.size w1 w2 := (B2 w1 _ _).trans (hb2.mono (B2 w1 _ _).size); have HG2 := Lib.hid (HG1.out.below hbw); have HP2 := Lib.hid ((PairAt.start w1 false n2 (.slice a1 (dig 10000 m1).length c1) (.slice a2 (dig 10000 m2).length c2)).below hb2); have q1 := HP2.out.x0; have q2 := HP2.out.x1; have q3 := HP2.out.y0; have q4 := HP2.out.y1; clear hrz; have HD := Lib.hid (div_A HSA.out HSB.out (by rw [HSB.out.2]; exact hL0)))
    | (go_at_call 122; refine (text_small _ (x / y) _ _ _ (by exact HG2.out) (by exact Zg.of HQ.out HD.out.1) (Nat.le_refl _) hsd).mono ?_; rintro e w3 ⟨⟨s, hs, rfl⟩, hb3⟩; obtain rfl : s = sq := hs.trans HSQ.out.symm; clear hs; have HG3 := Lib.hid (HG2.out.below hb3); have HR3 := Lib.hid (HR.out.below hb3 (Nat.le_refl _)))
    | (go_at_call 122; refine (text_small _ (x % y) _ _ _ (by exact HG3.out) (by exact Zg.of (neg := false) HR3.out HD.out.2) (by exact hb3.size) hsm).mono ?_; rintro e w4 ⟨⟨s', hs, rfl⟩, hb4⟩; obtain rfl : s' = sr := hs.trans HSR.out.symm; clear hs))
  refine bodyPost_ret (v := .tuple #[.string s, .string s', .int .i64 0]) ?_ rfl ⟨rfl, (hb1.trans (hbw.mono hb1.size)).trans ((hb3.trans (hb4.mono hb3.size)).mono (Nat.le_trans hb1.size hbw.size))⟩
  simp [results, Tryz.results83, go_sem]

set_option maxHeartbeats 8000000 in
set_option maxRecDepth 100000 in
theorem Div_B (x y : Int) (w : World) (hG : Glob w) (hx : small x = true) (hy : small y = true) (hy0 : y ≠ 0) (hneg : x < 0) (hmod : x.natAbs % y.natAbs = 0) :
    Calls Tryz.prog 83 #[.string (str x), .string (str y)] w fun e w' => e = .returned (.tuple #[.string (str (x / y)), .string (str (x % y)), .int .i64 0]) ∧ Below w.heap.size w w' := by
  have hB := fun W => both_ok x y W (by simpa [small] using hx) (by simpa [small] using hy)
  have hsd := small_div y hx
  have hsm := small_mod (x := x) hy0 hy
  have hL0 : 0 < y.natAbs := by omega
  generalize str x = sx at hB ⊢
  generalize str y = sy at hB ⊢
  obtain ⟨sq, hsq⟩ : ∃ s, s = str (x / y) := ⟨_, rfl⟩
  obtain ⟨sr, hsr⟩ : ∃ s, s = str (x % y) := ⟨_, rfl⟩
  rw [← hsq, ← hsr]
  have HSQ := Lib.hid hsq
  have HSR := Lib.hid hsr
  clear hsq hsr
  have HX := Lib.hid (small_few hx)
  have HY := Lib.hid (small_few hy)
  go_enter Tryz.func83, Tryz.ntmps83
  go_wp2_with (first
    | (go_at_call 117; with_reducible refine (hB _).mono ?_; rintro e w1 ⟨⟨va, vb, rfl, ha, hb⟩, hb1⟩; obtain ⟨n1, m1, a1, c1, rfl, hna, hza⟩ := ha.form; obtain ⟨n2, m2, a2, c2, rfl, hnb, hzb⟩ := hb.form; have HA := Lib.hid ha.zg; have HB := Lib.hid hb.zg; have HNA := Lib.hid hna; have HNB := Lib.hid hnb; have HZA := Lib.hid (zs_eq hza); have HZB := Lib.hid (zs_eq hzb); have HSA := Lib.hid hza; have HSB := Lib.hid hzb; have HG1 := Lib.hid (hG.below hb1); have hm2 : 0 < (dig 10000 m2).length := (by have h1 := nm_pos hnb; have h2 := hzb.2; omega); have hf1 : (dig 10000 m1).length ≤ 50 := (by rw [hza.2]; exact HX.out); have hf2 : (dig 10000 m2).length ≤ 50 := (by rw [hzb.2]; exact HY.out); obtain rfl : n1 = true := (by rw [hza.1]; exact decide_eq_true hneg); clear ha hb hna hnb hza hzb)
    | (go_at_call 118; refine (over_any _ _ m1 m2 _ _ _ _ _ (by exact HNA.out.below (B2 w1 _ _) (Nat.le_refl _)) (by exact HNB.out.below (B2 w1 _ _) (Nat.le_refl _)) (by exact (B2 w1 _ _).size) (by exact (B2 w1 _ _).size) (by omega) (by omega) (by rw [HSB.out.2]; exact hL0)).mono ?_; rintro e w2 ⟨⟨q, r, rfl, hq, hr⟩, hb2⟩; obtain ⟨qa, qc, rfl⟩ : ∃ a cap, q = .slice a (dig 10000 (m1 / m2)).length cap := (by obtain ⟨a, cap, e, _⟩ := hq; exact ⟨a, cap, e⟩); obtain ⟨ra, rc, rfl⟩ : ∃ a cap, r = .slice a (dig 10000 (m1 % m2)).length cap := (by obtain ⟨a, cap, e, _⟩ := hr; exact ⟨a, cap, e⟩); have hrz := nm_pos hr; have hrr : (dig 10000 (m1 % m2)).length = 0 := (by rw [hrz, HSA.out.2, HSB.out.2]; exact hmod); rw [hrr] at hr; have HQ := Lib.hid hq; have HR := Lib.hid hr; clear hq hr; have hbw : Below w1.heap.size w1 w2 := (B2 w1 _ _).trans (hb2.mono (B2 w1 _ _).size); have HG2 := Lib.hid (HG1.out.below hbw); have HP2 := Lib.hid ((PairAt.start w1 true n2 (.slice a1 (dig 10000 m1).length c1) (.slice a2 (dig 10000 m2).length c2)).below hb2); have q1 := HP2.out.x0; have q2 := HP2.out.x1; have q3 := HP2.out.y0; have q4 := HP2.out.y1; clear hrz; have HD := Lib.hid (div_B HSA.out HSB.out (by rw [HSB.out.2]; exact hL0) (by rw [HSA.out.2, HSB.out.2]; exact hmod)))
    | (go_at_call 122; refine (text_small _ (x / y) _ _ _ (by exact HG2.out) (by exact Zg.of HQ.out HD.out.1) (Nat.le_refl _) hsd).mono ?_; rintro e w3 ⟨⟨s, hs, rfl⟩, hb3⟩; obtain rfl : s = sq := hs.trans HSQ.out.symm; clear hs; have HG3 := Lib.hid (HG2.out.below hb3); have HR3 := Lib.hid (HR.out.below hb3 (Nat.le_refl _)))
    | (go_at_call 122; refine (text_small _ (x % y) _ _ _ (by exact HG3.out) (by exact Zg.of (neg := false) HR3.out HD.out.2) (by exact hb3.size) hsm).mono ?_; rintro e w4 ⟨⟨s', hs, rfl⟩, hb4⟩; obtain rfl : s' = sr := hs.trans HSR.out.symm; clear hs))
  refine bodyPost_ret (v := .tuple #[.string s, .string s', .int .i64 0]) ?_ rfl ⟨rfl, (hb1.trans (hbw.mono hb1.size)).trans ((hb3.trans (hb4.mono hb3.size)).mono (Nat.le_trans hb1.size hbw.size))⟩
  simp [results, Tryz.results83, go_sem]

set_option maxHeartbeats 8000000 in
set_option maxRecDepth 100000 in
theorem Div_C (x y : Int) (w : World) (hG : Glob w) (hx : small x = true) (hy : small y = true) (hy0 : y ≠ 0) (hneg : x < 0) (hmod : x.natAbs % y.natAbs ≠ 0) :
    Calls Tryz.prog 83 #[.string (str x), .string (str y)] w fun e w' => e = .returned (.tuple #[.string (str (x / y)), .string (str (x % y)), .int .i64 0]) ∧ Below w.heap.size w w' := by
  have hB := fun W => both_ok x y W (by simpa [small] using hx) (by simpa [small] using hy)
  have hsd := small_div y hx
  have hsm := small_mod (x := x) hy0 hy
  have hL0 : 0 < y.natAbs := by omega
  generalize str x = sx at hB ⊢
  generalize str y = sy at hB ⊢
  obtain ⟨sq, hsq⟩ : ∃ s, s = str (x / y) := ⟨_, rfl⟩
  obtain ⟨sr, hsr⟩ : ∃ s, s = str (x % y) := ⟨_, rfl⟩
  rw [← hsq, ← hsr]
  have HSQ := Lib.hid hsq
  have HSR := Lib.hid hsr
  clear hsq hsr
  have HX := Lib.hid (small_few hx)
  have HY := Lib.hid (small_few hy)
  go_enter Tryz.func83, Tryz.ntmps83
  go_wp2_with (first
    | (go_at_call 117; with_reducible refine (hB _).mono ?_; rintro e w1 ⟨⟨va, vb, rfl, ha, hb⟩, hb1⟩; obtain ⟨n1, m1, a1, c1, rfl, hna, hza⟩ := ha.form; obtain ⟨n2, m2, a2, c2, rfl, hnb, hzb⟩ := hb.form; have HA := Lib.hid ha.zg; have HB := Lib.hid hb.zg; have HNA := Lib.hid hna; have HNB := Lib.hid hnb; have HZA := Lib.hid (zs_eq hza); have HZB := Lib.hid (zs_eq hzb); have HSA := Lib.hid hza; have HSB := Lib.hid hzb; have HG1 := Lib.hid (hG.below hb1); have hm2 : 0 < (dig 10000 m2).length := (by have h1 := nm_pos hnb; have h2 := hzb.2; omega); have hf1 : (dig 10000 m1).length ≤ 50 := (by rw [hza.2]; exact HX.out); have hf2 : (dig 10000 m2).length ≤ 50 := (by rw [hzb.2]; exact HY.out); obtain rfl : n1 = true := (by rw [hza.1]; exact decide_eq_true hneg); clear ha hb hna hnb hza hzb)
    | (go_at_call 118; refine (over_any _ _ m1 m2 _ _ _ _ _ (by exact HNA.out.below (B2 w1 _ _) (Nat.le_refl _)) (by exact HNB.out.below (B2 w1 _ _) (Nat.le_refl _)) (by exact (B2 w1 _ _).size) (by exact (B2 w1 _ _).size) (by omega) (by omega) (by rw [HSB.out.2]; exact hL0)).mono ?_; rintro e w2 ⟨⟨q, r, rfl, hq, hr⟩, hb2⟩; obtain ⟨qa, qc, rfl⟩ : ∃ a cap, q = .slice a (dig 10000 (m1 / m2)).length cap := (by obtain ⟨a, cap, e, _⟩ := hq; exact ⟨a, cap, e⟩); obtain ⟨ra, rc, rfl⟩ : ∃ a cap, r = .slice a (dig 10000 (m1 % m2)).length cap := (by obtain ⟨a, cap, e, _⟩ := hr; exact ⟨a, cap, e⟩); have hrz := nm_pos hr; have hrr : 0 < (dig 10000 (m1 % m2)).length := (by rw [HSA.out.2, HSB.out.2] at hrz ⊢; omega); have HQ := Lib.hid hq; have HR := Lib.hid hr; clear hq hr; have hbw : Below w1.heap.size w1 w2 := (B2 w1 _ _).trans (hb2.mono (B2 w1 _ _).size); have HG2 := Lib.hid (HG1.out.below hbw); have HP2 := Lib.hid ((PairAt.start w1 true n2 (.slice a1 (dig 10000 m1).length c1) (.slice a2 (dig 10000 m2).length c2)).below hb2); have q1 := HP2.out.x0; have q2 := HP2.out.x1; have q3 := HP2.out.y0; have q4 := HP2.out.y1; clear hrz; have HD := Lib.hid (div_C HSA.out HSB.out (by rw [HSB.out.2]; exact hL0) (by rw [HSA.out.2, HSB.out.2]; exact hmod)))
    | fail)
  have hm2p : 0 < m2 := by rw [HSB.out.2]; exact hL0
  have hle : Hid (m1 % m2 ≤ m2) := Nat.le_of_lt (Nat.mod_lt _ hm2p)
  have HF1 : Hid (Few 1) := by show _ ≤ _; decide
  have HF2 : Hid (Few m2) := by show _ ≤ _; omega
  have HFR : Hid (Few (m1 % m2)) := by
    have := dig_length_mono (B := 10000) (by omega) hle.out
    show _ ≤ _; omega
  have HFQ : Hid (Few (m1 / m2)) := by
    have := dig_length_mono (B := 10000) (by omega) (Nat.div_le_self m1 m2)
    show _ ≤ _; omega
  have hS : w2.drew.cell? ⟨w1.heap.size + 1, 1, none⟩ = some (.slice a2 (dig 10000 m2).length c2) ∧ Below w2.heap.size w2 w2.drew := ⟨q4, (Below.refl _ _).drew⟩
  go_region_held3 (fun W => W.cell? ⟨w1.heap.size + 1, 1, none⟩ = some (.slice a2 (dig 10000 m2).length c2) ∧ Below w2.heap.size w2 W) (first | exact hS) (first
    | (go_at_call 120; refine (one_any _).mono ?_; rintro e wo ⟨⟨vo, rfl, hvo⟩, hbo⟩; obtain ⟨oa, oc, rfl⟩ : ∃ a cap, vo = .slice a (dig 10000 1).length cap := (by obtain ⟨a, cap, e, _⟩ := hvo; exact ⟨a, cap, e⟩); have HO := Lib.hid hvo; clear hvo; have hS := (⟨(hbo.cell (p := ⟨w1.heap.size + 1, 1, none⟩) (World.block_lt_of_cell? _ _ hS.1)).trans hS.1, hS.2.trans (hbo.mono hS.2.size)⟩ : wo.cell? ⟨w1.heap.size + 1, 1, none⟩ = some (.slice a2 (dig 10000 m2).length c2) ∧ Below w2.heap.size w2 wo))
    | (go_at_call 119; refine (plus_any _ _ (m1 / m2) 1 _ _ _ _ _ (by exact HQ.out.below hS.2 (Nat.le_refl _)) (by first | exact HO.out | exact HO.out.below hbm (Nat.le_refl _)) (by exact hS.2.size) (by first | exact Nat.le_refl _ | exact hbm.size) (by exact HFQ.out) (by exact HF1.out)).mono ?_; rintro e wp ⟨⟨vp, rfl, hvp⟩, hbp⟩; obtain ⟨pa, pc, rfl⟩ : ∃ a cap, vp = .slice a (dig 10000 (m1 / m2 + 1)).length cap := (by obtain ⟨a, cap, e, _⟩ := hvp; exact ⟨a, cap, e⟩); have HPl := Lib.hid hvp; clear hvp; have hS := (⟨(hbp.cell (p := ⟨w1.heap.size + 1, 1, none⟩) (World.block_lt_of_cell? _ _ hS.1)).trans hS.1, hS.2.trans (hbp.mono hS.2.size)⟩ : wp.cell? ⟨w1.heap.size + 1, 1, none⟩ = some (.slice a2 (dig 10000 m2).length c2) ∧ Below w2.heap.size w2 wp))
    | (go_at_call 121; refine (minus_any _ _ m2 (m1 % m2) _ _ _ _ _ (by exact (HNB.out.below hbw (Nat.le_refl _)).below hS.2 hbw.size) (by exact HR.out.below hS.2 (Nat.le_refl _)) (by exact Nat.le_trans hbw.size hS.2.size) (by exact hS.2.size) (by exact HF2.out) (by exact HFR.out) (by exact hle.out)).mono ?_; rintro e wm ⟨⟨vm, rfl, hvm⟩, hbm⟩; obtain ⟨ma, mc, rfl⟩ : ∃ a cap, vm = .slice a (dig 10000 (m2 - m1 % m2)).length cap := (by obtain ⟨a, cap, e, _⟩ := hvm; exact ⟨a, cap, e⟩); have HM := Lib.hid hvm; clear hvm; have hS := (⟨(hbm.cell (p := ⟨w1.heap.size + 1, 1, none⟩) (World.block_lt_of_cell? _ _ hS.1)).trans hS.1, hS.2.trans (hbm.mono hS.2.size)⟩ : wm.cell? ⟨w1.heap.size + 1, 1, none⟩ = some (.slice a2 (dig 10000 m2).length c2) ∧ Below w2.heap.size w2 wm)))
  all_goals
    have HP4 := HP2.out.below hS.2
    have q5 := HP4.x0
    have q6 := HP4.y0
    clear q1 q2 q3 q4
    go_wp2_with (first
      | (go_at_call 122; refine (text_small _ (x / y) _ _ _ (by exact HG2.out.below hS.2) (by first | exact Zg.of HPl.out HD.out.1 | exact Zg.of (HPl.out.below hbm (Nat.le_refl _)) HD.out.1) (by first | exact Nat.le_refl _ | exact hbm.size) hsd).mono ?_; rintro e w3 ⟨⟨s, hs, rfl⟩, hb3⟩; obtain rfl : s = sq := hs.trans HSQ.out.symm; clear hs; have HG3 := Lib.hid ((HG2.out.below hS.2).below hb3); have HR3 : Hid (Nm w3 (.slice ma (dig 10000 (m2 - m1 % m2)).length mc) (m2 - m1 % m2) 0 w3.heap.size) := (by first | exact ((HM.out.mono (Nat.zero_le _) (Nat.le_refl _)).below hb3 (Nat.le_refl _)).mono (Nat.le_refl _) hb3.size | exact (((HM.out.below hbp (Nat.le_refl _)).mono (Nat.zero_le _) hbp.size).below hb3 (Nat.le_refl _)).mono (Nat.le_refl _) hb3.size | exact (((HM.out.below (hbo.trans (hbp.mono hbo.size)) (Nat.le_refl _)).mono (Nat.zero_le _) (Nat.le_trans hbo.size hbp.size)).below hb3 (Nat.le_refl _)).mono (Nat.le_refl _) hb3.size))
      | (go_at_call 122; refine (text_small _ (x % y) _ _ _ (by exact HG3.out) (by exact Zg.of (neg := false) HR3.out HD.out.2) (Nat.le_refl _) hsm).mono ?_; rintro e w4 ⟨⟨s', hs, rfl⟩, hb4⟩; obtain rfl : s' = sr := hs.trans HSR.out.symm; clear hs))
    refine bodyPost_ret (v := .tuple #[.string s, .string s', .int .i64 0]) ?_ rfl ⟨rfl, (hb1.trans (hbw.mono hb1.size)).trans ((hS.2.trans ((hb3.trans (hb4.mono hb3.size)).mono hS.2.size)).mono (Nat.le_trans hb1.size hbw.size))⟩
    simp [results, Tryz.results83, go_sem]

theorem Div_ok (x y : Int) (w : World) (hG : Glob w) (hx : small x = true) (hy : small y = true) (hy0 : y ≠ 0) :
    Calls Tryz.prog 83 #[.string (str x), .string (str y)] w fun e w' => e = .returned (.tuple #[.string (str (x / y)), .string (str (x % y)), .int .i64 0]) ∧ Below w.heap.size w w' := by
  by_cases hneg : x < 0
  · by_cases hmod : x.natAbs % y.natAbs = 0
    · exact Div_B x y w hG hx hy hy0 hneg hmod
    · exact Div_C x y w hG hx hy hy0 hneg hmod
  · exact Div_A x y w hG hx hy hy0 hneg
end Go.Proofs.YtgngepbemgbbeaaGreatDoor

namespace Go.Proofs.YtgngepbemgbbeaaGreatDoor

/-- The fraction that two texts are, if they are one in lowest terms. -/
def ratO (n d : ByteArray) : Option Rat := match numOf n, numOf d with | some p, some q => if 0 < q ∧ Nat.gcd p.natAbs q.natAbs = 1 then some (Rat.divInt p q) else none | _, _ => none
theorem num_pos {p q : Int} (hq : 0 < q) : (Rat.divInt p q).num = p / ((Nat.gcd p.natAbs q.natAbs : Nat) : Int) := by
  rw [Rat.num_divInt, Int.sign_eq_one_of_pos hq, Int.one_mul, Int.gcd_comm]
  rfl
theorem den_pos {p q : Int} (hq : 0 < q) : ((Rat.divInt p q).den : Int) = q / ((Nat.gcd p.natAbs q.natAbs : Nat) : Int) := by
  rw [Rat.den_divInt, if_neg (by omega), Int.natCast_ediv, Int.gcd_comm]
  congr 1
  omega
theorem num_neg {p q : Int} (hq : q < 0) : (Rat.divInt p q).num = -p / ((Nat.gcd (-p).natAbs (-q).natAbs : Nat) : Int) := by
  rw [← Rat.neg_divInt_neg]
  exact num_pos (by omega)
theorem den_neg {p q : Int} (hq : q < 0) : ((Rat.divInt p q).den : Int) = -q / ((Nat.gcd (-p).natAbs (-q).natAbs : Nat) : Int) := by
  rw [← Rat.neg_divInt_neg]
  exact den_pos (by omega)
/-- Both integers of a fraction are small enough. -/
def fitsR (r : Rat) : Prop := small r.num = true ∧ small (r.den : Int) = true
theorem low_num {p q : Int} (hq : 0 < q) (hg : Nat.gcd p.natAbs q.natAbs = 1) : (Rat.divInt p q).num = p ∧ ((Rat.divInt p q).den : Int) = q := by
  rw [num_pos hq, den_pos hq, hg]
  exact ⟨Int.ediv_one p, Int.ediv_one q⟩
theorem ratO_some {n d : ByteArray} {r : Rat} (h : ratO n d = some r) : n = str r.num ∧ d = str (r.den : Int) ∧ fitsR r := by
  unfold ratO at h
  cases h1 : numOf n with
  | none => rw [h1] at h; cases h
  | some p =>
    cases h2 : numOf d with
    | none => rw [h1, h2] at h; cases h
    | some q =>
      rw [h1, h2] at h
      obtain ⟨e1, s1⟩ := numOf_some h1
      obtain ⟨e2, s2⟩ := numOf_some h2
      simp only at h
      split at h
      case isTrue hc =>
        cases h
        obtain ⟨k1, k2⟩ := low_num hc.1 hc.2
        unfold fitsR
        rw [k1, k2]
        exact ⟨e1, e2, s1, s2⟩
      case isFalse => cases h
theorem rat_low (r : Rat) : Nat.gcd r.num.natAbs (r.den : Int).natAbs = 1 := by
  rw [Int.natAbs_natCast]
  exact r.reduced
theorem rat_dpos (r : Rat) : 0 < (r.den : Int) := by
  have := r.den_nz
  omega
theorem ratO_str {r : Rat} (h : fitsR r) : ratO (str r.num) (str (r.den : Int)) = some r := by
  unfold ratO
  rw [numOf_str, numOf_str, if_pos h.1, if_pos h.2]
  show (if _ then _ else _) = _
  rw [if_pos ⟨rat_dpos r, rat_low r⟩, Rat.num_divInt_den]

/-- What an operation answers: the two texts, and the error's number. -/
def qN (o : Option Rat) : ByteArray := match o with | some r => str r.num | none => ⟨#[]⟩
def qD (o : Option Rat) : ByteArray := match o with | some r => str (r.den : Int) | none => ⟨#[]⟩
def qE (o : Option Rat) : Int := match o with | some _ => 0 | none => 40
theorem gcd_pos {p q : Int} (hq : q ≠ 0) : 0 < Nat.gcd p.natAbs q.natAbs := Nat.gcd_pos_of_pos_right _ (by omega)
theorem gcd_le_q {p q : Int} (hq : q ≠ 0) : Nat.gcd p.natAbs q.natAbs ≤ q.natAbs := Nat.gcd_le_right _ (by omega)
/-- A fraction of two integers. -/
def makeR (p q : Int) : Option Rat := if q = 0 then none else some (Rat.divInt p q)
theorem fits_make {p q : Int} (hp : small p = true) (hq : small q = true) (h0 : q ≠ 0) : fitsR (Rat.divInt p q) := by
  rcases Int.lt_or_gt_of_ne h0 with h | h
  · unfold fitsR
    rw [num_neg h, den_neg h]
    exact ⟨small_div _ (small_neg hp), small_div _ (small_neg hq)⟩
  · unfold fitsR
    rw [num_pos h, den_pos h]
    exact ⟨small_div _ hp, small_div _ hq⟩

theorem add_eq (a b : Rat) : a + b = Rat.divInt (a.num * b.den + b.num * a.den) (a.den * b.den) := by
  have h := Rat.divInt_add_divInt a.num b.num (d₁ := a.den) (d₂ := b.den) (by have := rat_dpos a; omega) (by have := rat_dpos b; omega)
  rwa [Rat.num_divInt_den, Rat.num_divInt_den] at h
theorem sub_eq (a b : Rat) : a - b = Rat.divInt (a.num * b.den - b.num * a.den) (a.den * b.den) := by
  have h := Rat.divInt_sub_divInt a.num b.num (d₁ := a.den) (d₂ := b.den) (by have := rat_dpos a; omega) (by have := rat_dpos b; omega)
  rwa [Rat.num_divInt_den, Rat.num_divInt_den] at h
theorem mul_eq (a b : Rat) : a * b = Rat.divInt (a.num * b.num) (a.den * b.den) := by
  have h := Rat.divInt_mul_divInt a.num b.num (d₁ := a.den) (d₂ := b.den)
  rwa [Rat.num_divInt_den, Rat.num_divInt_den] at h
theorem div_eq (a b : Rat) : a / b = Rat.divInt (a.num * b.den) (a.den * b.num) := by
  have h := Rat.divInt_mul_divInt a.num b.den (d₁ := a.den) (d₂ := b.num)
  rw [Rat.num_divInt_den, ← Rat.inv_def] at h
  exact h
/-- The four operations: refused as soon as a product or the sum of the definition is too great. -/
def addR (a b : Rat) : Option Rat := if small (a.num * b.den) = true ∧ small (b.num * a.den) = true ∧ small (a.num * b.den + b.num * a.den) = true ∧ small ((a.den : Int) * b.den) = true then some (a + b) else none
def subR (a b : Rat) : Option Rat := if small (a.num * b.den) = true ∧ small (b.num * a.den) = true ∧ small (a.num * b.den - b.num * a.den) = true ∧ small ((a.den : Int) * b.den) = true then some (a - b) else none
def mulR (a b : Rat) : Option Rat := if small (a.num * b.num) = true ∧ small ((a.den : Int) * b.den) = true then some (a * b) else none
def divR (a b : Rat) : Option Rat := if small (a.num * b.den) = true ∧ small ((a.den : Int) * b.num) = true ∧ b.num ≠ 0 then some (a / b) else none
theorem den_mul_pos (a b : Rat) : 0 < (a.den : Int) * b.den := Int.mul_pos (rat_dpos a) (rat_dpos b)
theorem den_mul_ne (a b : Rat) : (a.den : Int) * b.den ≠ 0 := by have := den_mul_pos a b; omega
theorem addR_make (a b : Rat) : addR a b = if small (a.num * b.den) = true ∧ small (b.num * a.den) = true ∧ small (a.num * b.den + b.num * a.den) = true ∧ small ((a.den : Int) * b.den) = true then makeR (a.num * b.den + b.num * a.den) (a.den * b.den) else none := by
  unfold addR makeR
  rw [if_neg (den_mul_ne a b), ← add_eq]
theorem subR_make (a b : Rat) : subR a b = if small (a.num * b.den) = true ∧ small (b.num * a.den) = true ∧ small (a.num * b.den - b.num * a.den) = true ∧ small ((a.den : Int) * b.den) = true then makeR (a.num * b.den - b.num * a.den) (a.den * b.den) else none := by
  unfold subR makeR
  rw [if_neg (den_mul_ne a b), ← sub_eq]
theorem mulR_make (a b : Rat) : mulR a b = if small (a.num * b.num) = true ∧ small ((a.den : Int) * b.den) = true then makeR (a.num * b.num) (a.den * b.den) else none := by
  unfold mulR makeR
  rw [if_neg (den_mul_ne a b), ← mul_eq]
theorem divR_make (a b : Rat) : divR a b = if small (a.num * b.den) = true ∧ small ((a.den : Int) * b.num) = true then makeR (a.num * b.den) (a.den * b.num) else none := by
  unfold divR makeR
  rw [← div_eq]
  by_cases h : b.num = 0
  · rw [if_neg (fun k => k.2.2 h), if_pos (show (a.den : Int) * b.num = 0 by rw [h, Int.mul_zero])]
    split <;> rfl
  · have hn : ¬ (a.den : Int) * b.num = 0 := fun e => by
      rcases Int.mul_eq_zero.1 e with e | e
      · have := rat_dpos a; omega
      · exact h e
    rw [if_neg hn]
    by_cases h1 : small (a.num * b.den) = true ∧ small ((a.den : Int) * b.num) = true
    · rw [if_pos h1, if_pos ⟨h1.1, h1.2, h⟩]
    · rw [if_neg h1, if_neg (fun k => h1 ⟨k.1, k.2.1⟩)]

/-- The order of two fractions. -/
def cmpR (a b : Rat) : Int := if a < b then -1 else if b < a then 1 else 0
theorem cmpR_lt {a b : Rat} (h : a < b) : cmpR a b = -1 := by unfold cmpR; rw [if_pos h]
theorem cmpR_gt {a b : Rat} (h : b < a) : cmpR a b = 1 := by
  unfold cmpR
  rw [if_neg (Rat.not_lt.2 (Rat.le_of_lt h)), if_pos h]
theorem cmpR_eq (a : Rat) : cmpR a a = 0 := by
  unfold cmpR
  rw [if_neg Rat.lt_irrefl, if_neg Rat.lt_irrefl]
theorem cmpR_cases (a b : Rat) : (a < b ∧ cmpR a b = -1) ∨ (a = b ∧ cmpR a b = 0) ∨ (b < a ∧ cmpR a b = 1) := by
  by_cases h1 : a < b
  · exact .inl ⟨h1, cmpR_lt h1⟩
  · by_cases h2 : b < a
    · exact .inr (.inr ⟨h2, cmpR_gt h2⟩)
    · have e : a = b := Rat.le_antisymm (Rat.not_lt.1 h2) (Rat.not_lt.1 h1)
      exact .inr (.inl ⟨e, by rw [e]; exact cmpR_eq b⟩)
theorem floor_num (a : Rat) : a.floor = a.num / (a.den : Int) := Rat.floor_def a
theorem cmpR_floor {a b : Rat} (h : cmpI a.floor b.floor ≠ 0) : cmpR a b = cmpI a.floor b.floor := by
  unfold cmpI at h ⊢
  split at h
  case isTrue h1 =>
    rw [if_pos h1]
    refine cmpR_lt ?_
    refine Rat.not_le.1 fun k => ?_
    have := Rat.floor_monotone k
    omega
  case isFalse h1 =>
    split at h
    case isTrue h2 =>
      rw [if_neg h1, if_pos h2]
      refine cmpR_gt ?_
      refine Rat.not_le.1 fun k => ?_
      have := Rat.floor_monotone k
      omega
    case isFalse => exact absurd rfl h
/-- What is left behind the whole part: a fraction from 0 to 1. -/
theorem rest_eq (a : Rat) : a = (a.floor : Rat) + Rat.divInt (a.num % a.den) a.den := by
  have h := Rat.divInt_add_divInt a.floor (a.num % a.den) (d₁ := 1) (d₂ := a.den) (by omega) (by have := rat_dpos a; omega)
  have h1 : Rat.divInt a.floor 1 = (a.floor : Rat) := Rat.num_divInt_den (a.floor : Rat)
  rw [h1] at h
  rw [h, Int.one_mul, Int.mul_one, floor_num, Int.mul_comm, Int.mul_ediv_add_emod]
  exact (Rat.num_divInt_den a).symm
theorem cmpR_swap (a b : Rat) : cmpR b a = -cmpR a b := by
  rcases cmpR_cases a b with ⟨h, e⟩ | ⟨h, e⟩ | ⟨h, e⟩
  · rw [e, cmpR_gt h]; rfl
  · rw [e, h, cmpR_eq]; rfl
  · rw [e, cmpR_lt h]
theorem cmpR_congr {a b c d : Rat} (h1 : a < b ↔ c < d) (h2 : b < a ↔ d < c) : cmpR a b = cmpR c d := by
  unfold cmpR
  by_cases k1 : a < b
  · rw [if_pos k1, if_pos (h1.1 k1)]
  · rw [if_neg k1, if_neg (fun k => k1 (h1.2 k))]
    by_cases k2 : b < a
    · rw [if_pos k2, if_pos (h2.1 k2)]
    · rw [if_neg k2, if_neg (fun k => k2 (h2.2 k))]
theorem inv_lt_iff {x y : Rat} (hx : 0 < x) (hy : 0 < y) : x < y ↔ y⁻¹ < x⁻¹ := by
  have hix := Rat.inv_pos.2 hx
  have hiy := Rat.inv_pos.2 hy
  have key : ∀ {u v : Rat}, 0 < u → 0 < v → u < v → v⁻¹ < u⁻¹ := by
    intro u v hu hv h
    have hp := Rat.mul_pos (Rat.inv_pos.2 hu) (Rat.inv_pos.2 hv)
    have h1 := Rat.mul_lt_mul_of_pos_right h hp
    rw [← Rat.mul_assoc, Rat.mul_inv_cancel u (Rat.ne_of_gt hu), Rat.one_mul, Rat.mul_comm u⁻¹, ← Rat.mul_assoc, Rat.mul_inv_cancel v (Rat.ne_of_gt hv), Rat.one_mul] at h1
    exact h1
  refine ⟨key hx hy, fun h => ?_⟩
  have := key hiy hix h
  rwa [Rat.inv_inv, Rat.inv_inv] at this
theorem rest_pos {a : Rat} (h : a.num % (a.den : Int) ≠ 0) : 0 < a.num % (a.den : Int) ∧ a.num % (a.den : Int) < a.den := by
  have h1 := Int.emod_nonneg a.num (show (a.den : Int) ≠ 0 by have := rat_dpos a; omega)
  have h2 := Int.emod_lt_of_pos a.num (rat_dpos a)
  omega
theorem rest_zero {a : Rat} (h : a.num % (a.den : Int) = 0) : a = (a.floor : Rat) := by
  have := rest_eq a
  rw [h, Rat.zero_divInt, Rat.add_zero] at this
  exact this
theorem floor_lt_of {a : Rat} (h : a.num % (a.den : Int) ≠ 0) : (a.floor : Rat) < a := by
  have h1 := Rat.floor_le a
  refine Rat.lt_of_le_of_ne h1 fun e => h ?_
  have hd : a.den = 1 := by rw [← e]; rfl
  rw [hd]
  exact Int.emod_one _
theorem cmpR_rest {a b : Rat} (hf : a.floor = b.floor) :
    cmpR a b = if a.num % (a.den : Int) = 0 then (if b.num % (b.den : Int) = 0 then 0 else -1) else (if b.num % (b.den : Int) = 0 then 1 else -cmpR (Rat.divInt a.den (a.num % a.den)) (Rat.divInt b.den (b.num % b.den))) := by
  by_cases ha : a.num % (a.den : Int) = 0
  · rw [if_pos ha]
    by_cases hb : b.num % (b.den : Int) = 0
    · rw [if_pos hb]
      have e : a = b := by rw [rest_zero ha, hf, ← rest_zero hb]
      rw [e, cmpR_eq]
    · rw [if_neg hb]
      refine cmpR_lt ?_
      rw [rest_zero ha, hf]
      exact floor_lt_of hb
  · rw [if_neg ha]
    by_cases hb : b.num % (b.den : Int) = 0
    · rw [if_pos hb]
      refine cmpR_gt ?_
      rw [rest_zero hb, ← hf]
      exact floor_lt_of ha
    · rw [if_neg hb, ← cmpR_swap]
      have hx : 0 < Rat.divInt (a.num % a.den) a.den := by
        have h1 := floor_lt_of ha
        have h2 := rest_eq a
        generalize Rat.divInt (a.num % a.den) a.den = x at h2
        rw [h2] at h1
        have h3 : (a.floor : Rat) + 0 < (a.floor : Rat) + x := by
          rw [Rat.add_zero]
          have e : ((a.floor : Rat) + x).floor = a.floor := by rw [← h2]
          rwa [e] at h1
        exact Rat.add_lt_add_left.1 h3
      have hy : 0 < Rat.divInt (b.num % b.den) b.den := by
        have h1 := floor_lt_of hb
        have h2 := rest_eq b
        generalize Rat.divInt (b.num % b.den) b.den = x at h2
        rw [h2] at h1
        have h3 : (b.floor : Rat) + 0 < (b.floor : Rat) + x := by
          rw [Rat.add_zero]
          have e : ((b.floor : Rat) + x).floor = b.floor := by rw [← h2]
          rwa [e] at h1
        exact Rat.add_lt_add_left.1 h3
      have ea := rest_eq a
      have eb := rest_eq b
      rw [← hf] at eb
      rw [show Rat.divInt a.den (a.num % a.den) = (Rat.divInt (a.num % a.den) a.den)⁻¹ from (Rat.inv_divInt _ _).symm, show Rat.divInt b.den (b.num % b.den) = (Rat.divInt (b.num % b.den) b.den)⁻¹ from (Rat.inv_divInt _ _).symm]
      generalize Rat.divInt (a.num % a.den) a.den = x at ea hx
      generalize Rat.divInt (b.num % b.den) b.den = y at eb hy
      refine cmpR_congr ?_ ?_
      · rw [← inv_lt_iff hx hy]
        generalize (a.floor : Rat) = f at ea eb
        rw [ea, eb]
        exact Rat.add_lt_add_left
      · rw [← inv_lt_iff hy hx]
        generalize (a.floor : Rat) = f at ea eb
        rw [ea, eb]
        exact Rat.add_lt_add_left
/-- The next fraction is in lowest terms as it stands. -/
theorem next_low {a : Rat} (h : a.num % (a.den : Int) ≠ 0) : (Rat.divInt a.den (a.num % a.den)).num = a.den ∧ ((Rat.divInt a.den (a.num % a.den)).den : Int) = a.num % a.den := by
  refine low_num (rest_pos h).1 ?_
  have h1 := a.reduced
  have h2 := (rest_pos h).1
  unfold Nat.Coprime at h1
  have e : Int.gcd (a.den : Int) (a.num % a.den) = 1 := by
    have h4 : a.num = (a.num % (a.den : Int)) + (a.den : Int) * (a.num / (a.den : Int)) := (Int.emod_add_mul_ediv _ _).symm
    have h5 : Int.gcd a.num a.den = 1 := h1
    generalize a.num % (a.den : Int) = m at h4 h2 ⊢
    generalize a.num / (a.den : Int) = k at h4
    rw [h4, Int.gcd_add_mul_left_left] at h5
    rw [Int.gcd_comm]
    exact h5
  exact e
/-- Rounding to a grid. -/
def downR (r : Rat) (k : Nat) : Option Rat := if small (r.num * 10 ^ k) = true then makeR (r.num * 10 ^ k / r.den) (10 ^ k) else none
def upR (r : Rat) (k : Nat) : Option Rat := if small (r.num * 10 ^ k) = true then makeR (if r.num * 10 ^ k % r.den = 0 then r.num * 10 ^ k / r.den else r.num * 10 ^ k / r.den + 1) (10 ^ k) else none
end Go.Proofs.YtgngepbemgbbeaaGreatDoor

namespace Go.Proofs.YtgngepbemgbbeaaGreatDoor
/-- The text that an integer is, if there is one and it is small enough. -/
def opS (o : Option Int) : ByteArray := match o with | some z => if small z = true then str z else ⟨#[]⟩ | none => ⟨#[]⟩
/-- The error's number. -/
def opN (o : Option Int) : Int := match o with | some z => if small z = true then 0 else 30 | none => 30
theorem opS_none : opS none = ⟨#[]⟩ := rfl
theorem opN_none : opN none = 30 := rfl
theorem opS_small {z : Int} (h : small z = true) : opS (some z) = str z := by unfold opS; exact if_pos h
theorem opN_small {z : Int} (h : small z = true) : opN (some z) = 0 := by unfold opN; exact if_pos h
def addO (a b : ByteArray) : Option Int := match numOf a, numOf b with | some x, some y => some (x + y) | _, _ => none
def subO (a b : ByteArray) : Option Int := match numOf a, numOf b with | some x, some y => some (x - y) | _, _ => none
def mulO (a b : ByteArray) : Option Int := match numOf a, numOf b with | some x, some y => some (x * y) | _, _ => none
def gcdO (a b : ByteArray) : Option Int := match numOf a, numOf b with | some x, some y => some ((Nat.gcd x.natAbs y.natAbs : Nat) : Int) | _, _ => none
def divO (a b : ByteArray) : Option Int := match numOf a, numOf b with | some x, some y => if y = 0 then none else some (x / y) | _, _ => none
def modO (a b : ByteArray) : Option Int := match numOf a, numOf b with | some x, some y => if y = 0 then none else some (x % y) | _, _ => none
def cmpO (a b : ByteArray) : Int := match numOf a, numOf b with | some x, some y => cmpI x y | _, _ => 0
def Sz (a : ByteArray) : Prop := a.size ≤ 281474976710656
theorem Sz.le {a : ByteArray} (h : Sz a) : a.size ≤ 9223372036854775807 := by unfold Sz at h; omega
end Go.Proofs.YtgngepbemgbbeaaGreatDoor

