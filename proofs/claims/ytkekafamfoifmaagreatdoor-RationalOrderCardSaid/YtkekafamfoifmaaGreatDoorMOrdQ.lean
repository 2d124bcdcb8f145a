/-
  The law RationalOrder: Compare is a total order; sums and products keep it.
-/
import Derived.Test.YtkekafamfoifmaaGreatDoorZSane
import Derived.Test.YtkekafamfoifmaaGreatDoorMLng
import Derived.Test.YtkekafamfoifmaaGreatDoorMSml
import Derived.Test.YtkekafamfoifmaaGreatDoorZLimQP
import Derived.Deep.CutBlock
import Derived.IntWalk
namespace Go.Proofs.YtkekafamfoifmaaGreatDoor
open Go.RowKit Go.Shelf
attribute [local go_sem] Oper.semAt_some

theorem qE_two (o : Option Rat) : qE o = 0 ∨ qE o = 40 := by cases o; exact .inr rfl; exact .inl rfl
theorem qE_zero {o : Option Rat} (h : qE o = 0) : ∃ r, o = some r := by
  cases o with
  | none => exact absurd h (by decide)
  | some r => exact ⟨r, rfl⟩
/-- What the callees answer, at three fractions of at most 100 digits and a small one. -/
theorem ord_facts {w : World} (hq : QOps w) (a b c t : Rat) (ha : L100 a) (hb : L100 b) (hc : L100 c) (ht : Mch t) : ∃ (dN dD pN pD qN qD uN uD vN vD : ByteArray) (kab kbc kac kt E F G F2 G2 : Int),
    Hid (∀ L W, BxAt L w W → Calls Tryz.prog 23 #[.agg #[.string (str a.num), .string (str (a.den : Int))], .agg #[.string (str b.num), .string (str (b.den : Int))]] W fun e W' => e = .returned (.int .i64 kab) ∧ BxAt L w W') ∧
    Hid (∀ L W, BxAt L w W → Calls Tryz.prog 23 #[.agg #[.string (str b.num), .string (str (b.den : Int))], .agg #[.string (str c.num), .string (str (c.den : Int))]] W fun e W' => e = .returned (.int .i64 kbc) ∧ BxAt L w W') ∧
    Hid (∀ L W, BxAt L w W → Calls Tryz.prog 23 #[.agg #[.string (str a.num), .string (str (a.den : Int))], .agg #[.string (str c.num), .string (str (c.den : Int))]] W fun e W' => e = .returned (.int .i64 kac) ∧ BxAt L w W') ∧
    Hid (∀ L W, BxAt L w W → Calls Tryz.prog 23 #[.agg #[.string (str b.num), .string (str (b.den : Int))], .agg #[.string (str a.num), .string (str (a.den : Int))]] W fun e W' => e = .returned (.int .i64 (-kab)) ∧ BxAt L w W') ∧
    Hid (∀ L W, BxAt L w W → Calls Tryz.prog 23 #[.agg #[.string (str a.num), .string (str (a.den : Int))], .agg #[.string (str a.num), .string (str (a.den : Int))]] W fun e W' => e = .returned (.int .i64 0) ∧ BxAt L w W') ∧
    Hid (∀ L W, BxAt L w W → Calls Tryz.prog 44 #[.agg #[.string (str a.num), .string (str (a.den : Int))], .agg #[.string (str b.num), .string (str (b.den : Int))]] W fun e W' => e = .returned (.tuple #[.agg #[.string (dN), .string (dD)], .int .i64 E]) ∧ BxAt L w W') ∧
    (E = 0 → Hid (∀ L W, BxAt L w W → Calls Tryz.prog 23 #[.agg #[.string (dN), .string (dD)], .agg #[.string (⟨#[48]⟩), .string (⟨#[49]⟩)]] W fun e W' => e = .returned (.int .i64 kab) ∧ BxAt L w W')) ∧
    Hid (∀ W, Below w.heap.size w W → Calls Tryz.prog 27 #[.agg #[.string (str a.num), .string (str (a.den : Int))], .agg #[.string (str t.num), .string (str (t.den : Int))]] W fun e W' => e = .returned (.tuple #[.agg #[.string (pN), .string (pD)], .int .i64 F]) ∧ Below W.heap.size W W') ∧
    Hid (∀ W, Below w.heap.size w W → Calls Tryz.prog 27 #[.agg #[.string (str b.num), .string (str (b.den : Int))], .agg #[.string (str t.num), .string (str (t.den : Int))]] W fun e W' => e = .returned (.tuple #[.agg #[.string (qN), .string (qD)], .int .i64 G]) ∧ Below W.heap.size W W') ∧
    (F = 0 → G = 0 → Hid (∀ W, Below w.heap.size w W → Calls Tryz.prog 23 #[.agg #[.string (pN), .string (pD)], .agg #[.string (qN), .string (qD)]] W fun e W' => e = .returned (.int .i64 kab) ∧ Below W.heap.size W W')) ∧
    Hid (∀ W, Below w.heap.size w W → Calls Tryz.prog 25 #[.agg #[.string (str a.num), .string (str (a.den : Int))], .agg #[.string (str t.num), .string (str (t.den : Int))]] W fun e W' => e = .returned (.tuple #[.agg #[.string (uN), .string (uD)], .int .i64 F2]) ∧ Below W.heap.size W W') ∧
    Hid (∀ W, Below w.heap.size w W → Calls Tryz.prog 25 #[.agg #[.string (str b.num), .string (str (b.den : Int))], .agg #[.string (str t.num), .string (str (t.den : Int))]] W fun e W' => e = .returned (.tuple #[.agg #[.string (vN), .string (vD)], .int .i64 G2]) ∧ Below W.heap.size W W') ∧
    (F2 = 0 → G2 = 0 → Hid (∀ W, Below w.heap.size w W → Calls Tryz.prog 23 #[.agg #[.string (uN), .string (uD)], .agg #[.string (vN), .string (vD)]] W fun e W' => e = .returned (.int .i64 (kab * kt)) ∧ Below W.heap.size W W')) ∧
    Hid (∀ W, Below w.heap.size w W → Calls Tryz.prog 23 #[.agg #[.string (str t.num), .string (str (t.den : Int))], .agg #[.string (⟨#[48]⟩), .string (⟨#[49]⟩)]] W fun e W' => e = .returned (.int .i64 kt) ∧ Below W.heap.size W W') ∧ (E = 0 ∨ E = 40) ∧ (F = 0 ∨ F = 40) ∧ (G = 0 ∨ G = 40) ∧ (F2 = 0 ∨ F2 = 40) ∧ (G2 = 0 ∨ G2 = 40) ∧ (-1 ≤ kab ∧ kab ≤ 1) ∧ (-1 ≤ kbc ∧ kbc ≤ 1) ∧ (-1 ≤ kt ∧ kt ≤ 1) ∧
    (kab = 0 → a = b) ∧ (kab ≠ 0 → ((str a.num).toList == (str b.num).toList) = false ∨ ((str a.num).toList == (str b.num).toList) = true ∧ ((str (a.den : Int)).toList == (str (b.den : Int)).toList) = false) ∧
    (kab ≤ 0 → kbc ≤ 0 → kac ≤ 0) ∧ (kab ≤ 0 → kbc < 0 → kac < 0) := by
  have fa := ha.fits
  have fb := hb.fits
  have fc := hc.fits
  have ft := ht.fits
  have ra := ratO_str fa
  have rb := ratO_str fb
  have rc := ratO_str fc
  have rt := ratO_str ft
  have z0 : ratO ⟨#[48]⟩ ⟨#[49]⟩ = some 0 := by decide +kernel
  have sS : ∀ {o : Option Rat}, FO o → Sz (qN o) ∧ Sz (qD o) := fun h => ⟨qN_sz _ h, qD_sz _ h⟩
  have gS : ∀ r : Rat, subR a b = some r → fitsR r := fun r h => sub_fits h
  have gA : ∀ r : Rat, addR a t = some r → fitsR r := fun r h => add_fits h
  have gB : ∀ r : Rat, addR b t = some r → fitsR r := fun r h => add_fits h
  have gM : ∀ r : Rat, mulR a t = some r → fitsR r := fun r h => mul_fits h
  have gN : ∀ r : Rat, mulR b t = some r → fitsR r := fun r h => mul_fits h
  refine ⟨qN (subR a b), qD (subR a b), qN (addR a t), qD (addR a t), qN (addR b t), qD (addR b t), qN (mulR a t), qD (mulR a t), qN (mulR b t), qD (mulR b t), cmpR a b, cmpR b c, cmpR a c, cmpR t 0, qE (subR a b), qE (addR a t), qE (addR b t), qE (mulR a t), qE (mulR b t), ?_⟩
  refine ⟨fun L W h => ?_, fun L W h => ?_, fun L W h => ?_, fun L W h => ?_, fun L W h => ?_, fun L W h => ?_, fun he L W h => ?_, fun W h => ?_, fun W h => ?_, fun hf hg W h => ?_, fun W h => ?_, fun W h => ?_, fun hf hg W h => ?_, fun W h => ?_, qE_two _, qE_two _, qE_two _, qE_two _, qE_two _, cmpR_range _ _, cmpR_range _ _, cmpR_range _ _, fun h => cmpR_zero.1 h, fun h => ?_, cmpR_le_trans, cmpR_lt_trans⟩
  · exact h.calls (Compare_some (hq.below h.bw).io ra rb)
  · exact h.calls (Compare_some (hq.below h.bw).io rb rc)
  · exact h.calls (Compare_some (hq.below h.bw).io ra rc)
  · have := Compare_some (hq.below h.bw).io rb ra
    rw [cmpR_swap] at this
    exact h.calls this
  · have := Compare_some (hq.below h.bw).io ra ra
    rw [cmpR_eq] at this
    exact h.calls this
  · have := Sub_q (hq.below h.bw).io (sz_str fa.1) (sz_str fa.2) (sz_str fb.1) (sz_str fb.2)
    rw [op2_some ra rb] at this
    exact h.calls this
  · obtain ⟨r, hr⟩ := qE_zero he
    rw [hr]
    have := Compare_some (hq.below h.bw).io (ratO_str (gS r hr)) z0
    rw [subR_val hr, cmpR_sub] at this
    rw [subR_val hr]
    exact h.calls this
  · have := Add_q (hq.below h).io (sz_str fa.1) (sz_str fa.2) (sz_str ft.1) (sz_str ft.2)
    rw [op2_some ra rt] at this
    exact this
  · have := Add_q (hq.below h).io (sz_str fb.1) (sz_str fb.2) (sz_str ft.1) (sz_str ft.2)
    rw [op2_some rb rt] at this
    exact this
  · obtain ⟨r, hr⟩ := qE_zero hf
    obtain ⟨s, hs⟩ := qE_zero hg
    rw [hr, hs]
    have := Compare_some (hq.below h).io (ratO_str (gA r hr)) (ratO_str (gB s hs))
    rw [addR_val hr, addR_val hs, cmpR_add] at this
    rw [addR_val hr, addR_val hs]
    exact this
  · have := Mul_q (hq.below h).io (sz_str fa.1) (sz_str fa.2) (sz_str ft.1) (sz_str ft.2)
    rw [op2_some ra rt] at this
    exact this
  · have := Mul_q (hq.below h).io (sz_str fb.1) (sz_str fb.2) (sz_str ft.1) (sz_str ft.2)
    rw [op2_some rb rt] at this
    exact this
  · obtain ⟨r, hr⟩ := qE_zero hf
    obtain ⟨s, hs⟩ := qE_zero hg
    rw [hr, hs]
    have := Compare_some (hq.below h).io (ratO_str (gM r hr)) (ratO_str (gN s hs))
    rw [mulR_val hr, mulR_val hs, cmpR_mul] at this
    rw [mulR_val hr, mulR_val hs]
    exact this
  · exact Compare_some (hq.below h).io rt z0
  · by_cases h1 : str a.num = str b.num
    · right
      refine ⟨by rw [h1]; simp, list_ne2 fun h2 => h (cmpR_zero.2 ?_)⟩
      have := q_inj (x := some a) (y := some b) h1 h2
      exact Option.some.inj this
    · exact .inl (list_ne2 h1)
theorem ArAt.start2 (W : World) (s t : ByteArray) (u : TypeId) : ArAt W.heap.size [.string s, .string t] (W.alloc (.cells #[.string s, .string t] u)) := ArAt.start W #[.string s, .string t] u
/-- Boxes, and two more that may be written. -/
structure OdAt (L : List (Nat × ByteArray × ByteArray)) (bp bq : Nat) (pN pD qN qD : ByteArray) (w W : World) : Prop where
  x : BxAt L w W
  p : ArAt bp [.string pN, .string pD] W
  q : ArAt bq [.string qN, .string qD] W
theorem OdAt.start {L : List (Nat × ByteArray × ByteArray)} {bp : Nat} {pN pD : ByteArray} {w W : World} (h : BxAt L w W) (p : ArAt bp [.string pN, .string pD] W) (qN qD : ByteArray) (u : TypeId) : OdAt L bp W.heap.size pN pD qN qD w (W.alloc (.cells #[.string qN, .string qD] u)) := ⟨h.al _, p.al _, ArAt.start2 W qN qD u⟩
theorem OdAt.below {L : List (Nat × ByteArray × ByteArray)} {bp bq : Nat} {pN pD qN qD : ByteArray} {w W W' : World} (h : OdAt L bp bq pN pD qN qD w W) (hb : Below W.heap.size W W') : OdAt L bp bq pN pD qN qD w W' := ⟨BxAt.below h.x hb, ArAt.below h.p hb, ArAt.below h.q hb⟩
theorem OdAt.drew {L : List (Nat × ByteArray × ByteArray)} {bp bq : Nat} {pN pD qN qD : ByteArray} {w W : World} (h : OdAt L bp bq pN pD qN qD w W) : OdAt L bp bq pN pD qN qD w W.drew := ⟨BxAt.drew h.x, ArAt.drew h.p, ArAt.drew h.q⟩
theorem OdAt.setp {L : List (Nat × ByteArray × ByteArray)} {bp bq : Nat} {pN pD qN qD : ByteArray} {w V W : World} (h : OdAt L bp bq pN pD qN qD w W) (hV : BxAt L w V) (hX : V.heap.size = bp) (hne : bp ≠ bq) (s t : ByteArray) : OdAt L bp bq s t qN qD w ((W.setCell ⟨bp, 0, none⟩ (.string s)).setCell ⟨bp, 1, none⟩ (.string t)) :=
  ⟨BxAt.set2 h.x hV hX _ _, ArAt.set (i := 1) (ArAt.set (i := 0) h.p rfl _) rfl _, ArAt.other (ArAt.other h.q hne _ _) hne _ _⟩
theorem OdAt.setq {L : List (Nat × ByteArray × ByteArray)} {bp bq : Nat} {pN pD qN qD : ByteArray} {w V W : World} (h : OdAt L bp bq pN pD qN qD w W) (hV : BxAt L w V) (hX : V.heap.size = bq) (hne : bq ≠ bp) (s t : ByteArray) : OdAt L bp bq pN pD s t w ((W.setCell ⟨bq, 0, none⟩ (.string s)).setCell ⟨bq, 1, none⟩ (.string t)) :=
  ⟨BxAt.set2 h.x hV hX _ _, ArAt.other (ArAt.other h.p hne _ _) hne _ _, ArAt.set (i := 1) (ArAt.set (i := 0) h.q rfl _) rfl _⟩

set_option maxRecDepth 100000 in
set_option maxHeartbeats 16000000 in
theorem RationalOrder_law (x0 x1 x2 x3 y0 y1 y2 y3 z0 z1 z2 z3 s0 s1 : Int) (hx0 : -9223372036854775808 ≤ x0 ∧ x0 ≤ 9223372036854775807) (hx1 : -9223372036854775808 ≤ x1 ∧ x1 ≤ 9223372036854775807) (hx2 : -9223372036854775808 ≤ x2 ∧ x2 ≤ 9223372036854775807) (hx3 : -9223372036854775808 ≤ x3 ∧ x3 ≤ 9223372036854775807) (hy0 : -9223372036854775808 ≤ y0 ∧ y0 ≤ 9223372036854775807) (hy1 : -9223372036854775808 ≤ y1 ∧ y1 ≤ 9223372036854775807) (hy2 : -9223372036854775808 ≤ y2 ∧ y2 ≤ 9223372036854775807) (hy3 : -9223372036854775808 ≤ y3 ∧ y3 ≤ 9223372036854775807) (hz0 : -9223372036854775808 ≤ z0 ∧ z0 ≤ 9223372036854775807) (hz1 : -9223372036854775808 ≤ z1 ∧ z1 ≤ 9223372036854775807) (hz2 : -9223372036854775808 ≤ z2 ∧ z2 ≤ 9223372036854775807) (hz3 : -9223372036854775808 ≤ z3 ∧ z3 ≤ 9223372036854775807) (hs0 : -9223372036854775808 ≤ s0 ∧ s0 ≤ 9223372036854775807) (hs1 : -9223372036854775808 ≤ s1 ∧ s1 ≤ 9223372036854775807) (w : World) (hq : QOps w) :
    Calls Tryz.prog 9 #[.agg #[.int .i64 x0, .int .i64 x1, .int .i64 x2, .int .i64 x3], .agg #[.int .i64 y0, .int .i64 y1, .int .i64 y2, .int .i64 y3], .agg #[.int .i64 z0, .int .i64 z1, .int .i64 z2, .int .i64 z3], .agg #[.int .i64 s0, .int .i64 s1]] w fun e W' => e = .returned (.bool true) ∧ Below w.heap.size w W' := by
  have KS := Lib.hid (fun (W : World) (h : Below w.heap.size w W) => sane_q (hq.below h))
  have KX := Lib.hid (fun (W : World) => Long_f x0 x1 x2 x3 hx0.1 hx0.2 hx1.1 hx1.2 hx2.1 hx2.2 hx3.1 hx3.2 W)
  have KY := Lib.hid (fun (W : World) => Long_f y0 y1 y2 y3 hy0.1 hy0.2 hy1.1 hy1.2 hy2.1 hy2.2 hy3.1 hy3.2 W)
  have KZ := Lib.hid (fun (W : World) => Long_f z0 z1 z2 z3 hz0.1 hz0.2 hz1.1 hz1.2 hz2.1 hz2.2 hz3.1 hz3.2 W)
  have KW := Lib.hid (fun (W : World) => Small_f s0 s1 hs0.1 hs0.2 hs1.1 hs1.2 W)
  have OF := Lib.hid (fun (a b c t : Rat) ha hb hc ht => ord_facts hq a b c t ha hb hc ht)
  have KI := Lib.hid (fun (n d : ByteArray) (L : List (Nat × ByteArray × ByteArray)) (W : World) (h : BxAt L w W) => h.calls (is_b n d W))
  have KB := Lib.hid (fun (n d : ByteArray) (W : World) => is_b n d W)
  have H0 := Lib.hid (((((BxAt.start w).al (.cells #[.int .i64 x0, .int .i64 x1, .int .i64 x2, .int .i64 x3] 24)).al (.cells #[.int .i64 y0, .int .i64 y1, .int .i64 y2, .int .i64 y3] 24)).al (.cells #[.int .i64 z0, .int .i64 z1, .int .i64 z2, .int .i64 z3] 24)).al (.cells #[.int .i64 s0, .int .i64 s1] 47))
  have b1 := ArAt.start w #[.int .i64 x0, .int .i64 x1, .int .i64 x2, .int .i64 x3] 24
  have b2 := ArAt.start (w.alloc (.cells #[.int .i64 x0, .int .i64 x1, .int .i64 x2, .int .i64 x3] 24)) #[.int .i64 y0, .int .i64 y1, .int .i64 y2, .int .i64 y3] 24
  have b3 := ArAt.start ((w.alloc (.cells #[.int .i64 x0, .int .i64 x1, .int .i64 x2, .int .i64 x3] 24)).alloc (.cells #[.int .i64 y0, .int .i64 y1, .int .i64 y2, .int .i64 y3] 24)) #[.int .i64 z0, .int .i64 z1, .int .i64 z2, .int .i64 z3] 24
  have b4 := ArAt.start (((w.alloc (.cells #[.int .i64 x0, .int .i64 x1, .int .i64 x2, .int .i64 x3] 24)).alloc (.cells #[.int .i64 y0, .int .i64 y1, .int .i64 y2, .int .i64 y3] 24)).alloc (.cells #[.int .i64 z0, .int .i64 z1, .int .i64 z2, .int .i64 z3] 24)) #[.int .i64 s0, .int .i64 s1] 47
  simp only [World.size_alloc] at b1 b2 b3 b4
  have XA := Lib.hid (((b1.al (.cells #[.int .i64 y0, .int .i64 y1, .int .i64 y2, .int .i64 y3] 24)).al (.cells #[.int .i64 z0, .int .i64 z1, .int .i64 z2, .int .i64 z3] 24)).al (.cells #[.int .i64 s0, .int .i64 s1] 47))
  have XB := Lib.hid ((b2.al (.cells #[.int .i64 z0, .int .i64 z1, .int .i64 z2, .int .i64 z3] 24)).al (.cells #[.int .i64 s0, .int .i64 s1] 47))
  have XC := Lib.hid (b3.al (.cells #[.int .i64 s0, .int .i64 s1] 47))
  have XD := Lib.hid b4
  clear hq b1 b2 b3 b4 hx0 hx1 hx2 hx3 hy0 hy1 hy2 hy3 hz0 hz1 hz2 hz3 hs0 hs1
  go_enter Tryz.func9, Tryz.ntmps9
  go_upto_region 9 with (first
    | (go_at_call 11; with_reducible refine (KS.out _ H0.out.bw).mono ?_; rintro e w1 ⟨rfl, hb⟩; have X := XA.out.below hb; have X_0 := X.row 0 _ rfl; have X_1 := X.row 1 _ rfl; have X_2 := X.row 2 _ rfl; have X_3 := X.row 3 _ rfl; have H1 := Lib.hid (H0.out.below hb); have XB1 := Lib.hid (XB.out.below hb); have XC1 := Lib.hid (XC.out.below hb); have XD1 := Lib.hid (XD.out.below hb); clear hb X)
    | (go_at_call 12; with_reducible refine (KX.out _).mono ?_; rintro e w2 ⟨⟨a, hr, rfl⟩, hb⟩; have H2 := Lib.hid ((H1.out.below hb).push (str a.num) (str (a.den : Int)) 23); have HA := Lib.hid hr; have X := (XB1.out.below hb).al (.cells #[.string (str a.num), .string (str (a.den : Int))] 23); have Y_0 := X.row 0 _ rfl; have Y_1 := X.row 1 _ rfl; have Y_2 := X.row 2 _ rfl; have Y_3 := X.row 3 _ rfl; have XC2 := Lib.hid ((XC1.out.below hb).al (.cells #[.string (str a.num), .string (str (a.den : Int))] 23)); have XD2 := Lib.hid ((XD1.out.below hb).al (.cells #[.string (str a.num), .string (str (a.den : Int))] 23)); clear hb hr X)
    | (go_at_call 12; with_reducible refine (KY.out _).mono ?_; rintro e w3 ⟨⟨b, hr, rfl⟩, hb⟩; have H3 := Lib.hid ((H2.out.below hb).push (str b.num) (str (b.den : Int)) 23); have HB := Lib.hid hr; have X := (XC2.out.below hb).al (.cells #[.string (str b.num), .string (str (b.den : Int))] 23); have Z_0 := X.row 0 _ rfl; have Z_1 := X.row 1 _ rfl; have Z_2 := X.row 2 _ rfl; have Z_3 := X.row 3 _ rfl; have XD3 := Lib.hid ((XD2.out.below hb).al (.cells #[.string (str b.num), .string (str (b.den : Int))] 23)); clear hb hr X)
    | (go_at_call 12; with_reducible refine (KZ.out _).mono ?_; rintro e w4 ⟨⟨c, hr, rfl⟩, hb⟩; have H4 := Lib.hid ((H3.out.below hb).push (str c.num) (str (c.den : Int)) 23); have HC := Lib.hid hr; have X := (XD3.out.below hb).al (.cells #[.string (str c.num), .string (str (c.den : Int))] 23); have V_0 := X.row 0 _ rfl; have V_1 := X.row 1 _ rfl; clear hb hr X)
    | (go_at_call 28; with_reducible refine (KW.out _).mono ?_; rintro e w5 ⟨⟨t, hr, rfl⟩, hb⟩; have hp := (H4.out.below hb).push (str t.num) (str (t.den : Int)) 23; have hn := H4.out.below hb; obtain ⟨w20_5, w21_5, _⟩ := hn.row (w2.heap.size, str a.num, str (a.den : Int)) (by simp); obtain ⟨w30_5, w31_5, _⟩ := hn.row (w3.heap.size, str b.num, str (b.den : Int)) (by simp); obtain ⟨w40_5, w41_5, _⟩ := hn.row (w4.heap.size, str c.num, str (c.den : Int)) (by simp); have H5 := Lib.hid hp; obtain ⟨dN, dD, pN, pD, qN, qD, uN, uD, vN, vD, kab, kbc, kac, kt, E, F, G, F2, G2, KAB, KBC, KAC, KBA, KAA, SUB, KD, AD1, AD2, KPQ, ML1, ML2, KUV, KT, hrest⟩ := OF.out a b c t HA.out HB.out HC.out hr; have HREST := Lib.hid hrest; clear hb hr hp hn hrest)
    | (go_at_call 23; with_reducible refine (KAB.out _ _ H5.out).mono ?_; rintro e w6 ⟨rfl, hp⟩; obtain ⟨w30_6, w31_6, _⟩ := hp.row (w3.heap.size, str b.num, str (b.den : Int)) (by simp); obtain ⟨w40_6, w41_6, _⟩ := hp.row (w4.heap.size, str c.num, str (c.den : Int)) (by simp); have H6 := Lib.hid hp; clear hp)
    | (go_at_call 23; with_reducible refine (KBC.out _ _ H6.out).mono ?_; rintro e w7 ⟨rfl, hp⟩; obtain ⟨w20_7, w21_7, _⟩ := hp.row (w2.heap.size, str a.num, str (a.den : Int)) (by simp); obtain ⟨w40_7, w41_7, _⟩ := hp.row (w4.heap.size, str c.num, str (c.den : Int)) (by simp); have H7 := Lib.hid hp; clear hp)
    | (go_at_call 23; with_reducible refine (KAC.out _ _ H7.out).mono ?_; rintro e w8 ⟨rfl, hp⟩; obtain ⟨w20_8, w21_8, _⟩ := hp.row (w2.heap.size, str a.num, str (a.den : Int)) (by simp); obtain ⟨w30_8, w31_8, _⟩ := hp.row (w3.heap.size, str b.num, str (b.den : Int)) (by simp); have H8 := Lib.hid hp; clear hp)
    | fail)
  clear KS KX KY KZ KW OF XA XB XC XD XB1 XC1 XD1 XC2 XD2 XD3 H0 H1 H2 H3 H4 H5 H6 H7
  obtain ⟨hE, hF, hG, hF2, hG2, hkab, hkbc, hkt, heq, hne, htr, htr2⟩ := HREST.out
  have HREST2 := Lib.hid (And.intro hE (And.intro hF (And.intro hG (And.intro hF2 (And.intro hG2 (And.intro hkab hkt))))))
  clear HREST hE hF hG hF2 hG2 hkt
  go_cut [92] from 41 to 91 (fun v wX => v = .bool false ∧ BxAt [(w5.heap.size, str t.num, str (t.den : Int)), (w4.heap.size, str c.num, str (c.den : Int)), (w3.heap.size, str b.num, str (b.den : Int)), (w2.heap.size, str a.num, str (a.den : Int))] w wX)
  case first =>
    obtain ⟨k1, k2⟩ := hkab
    obtain ⟨k3, k4⟩ := hkbc
    have hab : kab = 1 ∨ kab = -1 ∨ kab = 0 := by omega
    have hbc : kbc = 1 ∨ kbc = 0 ∨ kbc = -1 := by omega
    clear HREST2 HA HB HC SUB KD AD1 AD2 KPQ ML1 ML2 KUV KT KI KB k1 k2 k3 k4 KAB KBC KAC
    rcases hab with rfl | rfl | rfl
    · clear htr htr2 heq hbc
      rcases hne (by decide) with e1 | ⟨e1, e2⟩
      all_goals
        clear hne
        go_wp2_with (first
          | (go_at_call 23; with_reducible refine (KBA.out _ _ H8.out).mono ?_; rintro e w9 ⟨rfl, hp⟩; obtain ⟨w20_9, w21_9, _⟩ := hp.row (w2.heap.size, str a.num, str (a.den : Int)) (by simp); obtain ⟨w30_9, w31_9, _⟩ := hp.row (w3.heap.size, str b.num, str (b.den : Int)) (by simp); have H9 := Lib.hid hp; clear hp)
          | (go_at_call 23; with_reducible refine (KAA.out _ _ H9.out).mono ?_; rintro e wa ⟨rfl, hp⟩; have Ha := Lib.hid hp; clear hp)
          | fail)
        go_meet
        exact ⟨by first | rfl | exact congrArg Value.bool (by simp <;> omega), Ha.out⟩
    · clear heq
      rcases hne (by decide) with e1 | ⟨e1, e2⟩
      · clear hne
        rcases hbc with rfl | rfl | rfl
        · clear htr htr2
          go_wp2_with (first
            | (go_at_call 23; with_reducible refine (KBA.out _ _ H8.out).mono ?_; rintro e w9 ⟨rfl, hp⟩; obtain ⟨w20_9, w21_9, _⟩ := hp.row (w2.heap.size, str a.num, str (a.den : Int)) (by simp); obtain ⟨w30_9, w31_9, _⟩ := hp.row (w3.heap.size, str b.num, str (b.den : Int)) (by simp); have H9 := Lib.hid hp; clear hp)
            | (go_at_call 23; with_reducible refine (KAA.out _ _ H9.out).mono ?_; rintro e wa ⟨rfl, hp⟩; have Ha := Lib.hid hp; clear hp)
            | fail)
          go_meet
          exact ⟨by first | rfl | exact congrArg Value.bool (by simp <;> omega), Ha.out⟩
        · have hk := htr (by decide) (by decide)
          clear htr htr2
          go_wp2_with (first
            | (go_at_call 23; with_reducible refine (KBA.out _ _ H8.out).mono ?_; rintro e w9 ⟨rfl, hp⟩; obtain ⟨w20_9, w21_9, _⟩ := hp.row (w2.heap.size, str a.num, str (a.den : Int)) (by simp); obtain ⟨w30_9, w31_9, _⟩ := hp.row (w3.heap.size, str b.num, str (b.den : Int)) (by simp); have H9 := Lib.hid hp; clear hp)
            | (go_at_call 23; with_reducible refine (KAA.out _ _ H9.out).mono ?_; rintro e wa ⟨rfl, hp⟩; have Ha := Lib.hid hp; clear hp)
            | fail)
          go_meet
          exact ⟨by first | rfl | exact congrArg Value.bool (by simp <;> omega), Ha.out⟩
        · have hk := htr2 (by decide) (by decide)
          clear htr htr2
          go_wp2_with (first
            | (go_at_call 23; with_reducible refine (KBA.out _ _ H8.out).mono ?_; rintro e w9 ⟨rfl, hp⟩; obtain ⟨w20_9, w21_9, _⟩ := hp.row (w2.heap.size, str a.num, str (a.den : Int)) (by simp); obtain ⟨w30_9, w31_9, _⟩ := hp.row (w3.heap.size, str b.num, str (b.den : Int)) (by simp); have H9 := Lib.hid hp; clear hp)
            | (go_at_call 23; with_reducible refine (KAA.out _ _ H9.out).mono ?_; rintro e wa ⟨rfl, hp⟩; have Ha := Lib.hid hp; clear hp)
            | fail)
          go_meet
          exact ⟨by first | rfl | exact congrArg Value.bool (by simp <;> omega), Ha.out⟩
      · clear hne
        rcases hbc with rfl | rfl | rfl
        · clear htr htr2
          go_wp2_with (first
            | (go_at_call 23; with_reducible refine (KBA.out _ _ H8.out).mono ?_; rintro e w9 ⟨rfl, hp⟩; obtain ⟨w20_9, w21_9, _⟩ := hp.row (w2.heap.size, str a.num, str (a.den : Int)) (by simp); obtain ⟨w30_9, w31_9, _⟩ := hp.row (w3.heap.size, str b.num, str (b.den : Int)) (by simp); have H9 := Lib.hid hp; clear hp)
            | (go_at_call 23; with_reducible refine (KAA.out _ _ H9.out).mono ?_; rintro e wa ⟨rfl, hp⟩; have Ha := Lib.hid hp; clear hp)
            | fail)
          go_meet
          exact ⟨by first | rfl | exact congrArg Value.bool (by simp <;> omega), Ha.out⟩
        · have hk := htr (by decide) (by decide)
          clear htr htr2
          go_wp2_with (first
            | (go_at_call 23; with_reducible refine (KBA.out _ _ H8.out).mono ?_; rintro e w9 ⟨rfl, hp⟩; obtain ⟨w20_9, w21_9, _⟩ := hp.row (w2.heap.size, str a.num, str (a.den : Int)) (by simp); obtain ⟨w30_9, w31_9, _⟩ := hp.row (w3.heap.size, str b.num, str (b.den : Int)) (by simp); have H9 := Lib.hid hp; clear hp)
            | (go_at_call 23; with_reducible refine (KAA.out _ _ H9.out).mono ?_; rintro e wa ⟨rfl, hp⟩; have Ha := Lib.hid hp; clear hp)
            | fail)
          go_meet
          exact ⟨by first | rfl | exact congrArg Value.bool (by simp <;> omega), Ha.out⟩
        · have hk := htr2 (by decide) (by decide)
          clear htr htr2
          go_wp2_with (first
            | (go_at_call 23; with_reducible refine (KBA.out _ _ H8.out).mono ?_; rintro e w9 ⟨rfl, hp⟩; obtain ⟨w20_9, w21_9, _⟩ := hp.row (w2.heap.size, str a.num, str (a.den : Int)) (by simp); obtain ⟨w30_9, w31_9, _⟩ := hp.row (w3.heap.size, str b.num, str (b.den : Int)) (by simp); have H9 := Lib.hid hp; clear hp)
            | (go_at_call 23; with_reducible refine (KAA.out _ _ H9.out).mono ?_; rintro e wa ⟨rfl, hp⟩; have Ha := Lib.hid hp; clear hp)
            | fail)
          go_meet
          exact ⟨by first | rfl | exact congrArg Value.bool (by simp <;> omega), Ha.out⟩
    · obtain rfl := heq rfl
      clear hne heq
      rcases hbc with rfl | rfl | rfl
      · clear htr htr2
        go_wp2_with (first
          | (go_at_call 23; with_reducible refine (KBA.out _ _ H8.out).mono ?_; rintro e w9 ⟨rfl, hp⟩; obtain ⟨w20_9, w21_9, _⟩ := hp.row (w2.heap.size, str a.num, str (a.den : Int)) (by simp); obtain ⟨w30_9, w31_9, _⟩ := hp.row (w3.heap.size, str a.num, str (a.den : Int)) (by simp); have H9 := Lib.hid hp; clear hp)
          | (go_at_call 23; with_reducible refine (KAA.out _ _ H9.out).mono ?_; rintro e wa ⟨rfl, hp⟩; have Ha := Lib.hid hp; clear hp)
          | fail)
        go_meet
        exact ⟨by first | rfl | exact congrArg Value.bool (by simp <;> omega), Ha.out⟩
      · have hk := htr (by decide) (by decide)
        clear htr htr2
        go_wp2_with (first
          | (go_at_call 23; with_reducible refine (KBA.out _ _ H8.out).mono ?_; rintro e w9 ⟨rfl, hp⟩; obtain ⟨w20_9, w21_9, _⟩ := hp.row (w2.heap.size, str a.num, str (a.den : Int)) (by simp); obtain ⟨w30_9, w31_9, _⟩ := hp.row (w3.heap.size, str a.num, str (a.den : Int)) (by simp); have H9 := Lib.hid hp; clear hp)
          | (go_at_call 23; with_reducible refine (KAA.out _ _ H9.out).mono ?_; rintro e wa ⟨rfl, hp⟩; have Ha := Lib.hid hp; clear hp)
          | fail)
        go_meet
        exact ⟨by first | rfl | exact congrArg Value.bool (by simp <;> omega), Ha.out⟩
      · have hk := htr2 (by decide) (by decide)
        clear htr htr2
        go_wp2_with (first
          | (go_at_call 23; with_reducible refine (KBA.out _ _ H8.out).mono ?_; rintro e w9 ⟨rfl, hp⟩; obtain ⟨w20_9, w21_9, _⟩ := hp.row (w2.heap.size, str a.num, str (a.den : Int)) (by simp); obtain ⟨w30_9, w31_9, _⟩ := hp.row (w3.heap.size, str a.num, str (a.den : Int)) (by simp); have H9 := Lib.hid hp; clear hp)
          | (go_at_call 23; with_reducible refine (KAA.out _ _ H9.out).mono ?_; rintro e wa ⟨rfl, hp⟩; have Ha := Lib.hid hp; clear hp)
          | fail)
        go_meet
        exact ⟨by first | rfl | exact congrArg Value.bool (by simp <;> omega), Ha.out⟩
  case rest =>
    obtain ⟨rfl, hX⟩ := hcut
    obtain ⟨w20_9, w21_9, _⟩ := hX.row (w2.heap.size, str a.num, str (a.den : Int)) (by simp); obtain ⟨w30_9, w31_9, _⟩ := hX.row (w3.heap.size, str b.num, str (b.den : Int)) (by simp)
    have H9 := Lib.hid hX
    clear hX HA HB HC heq hne htr htr2 hkbc KAB KBC KAC KBA KAA H8
    obtain ⟨hE, hF, hG, hF2, hG2, hkab, hkt⟩ := HREST2.out
    clear HREST2
    go_wp2_with (first
      | (go_at_call 44; with_reducible refine (SUB.out _ _ H9.out).mono ?_; rintro e w10 ⟨rfl, h10⟩; have H10 := Lib.hid (h10.push dN dD 23); clear h10)
      | fail)
    go_cut [107] from 99 to 106 (fun v wX => v = .bool false ∧ BxAt [(w10.heap.size, dN, dD), (w5.heap.size, str t.num, str (t.den : Int)), (w4.heap.size, str c.num, str (c.den : Int)), (w3.heap.size, str b.num, str (b.den : Int)), (w2.heap.size, str a.num, str (a.den : Int))] w wX)
    case first =>
      have KEEP := Lib.hid (fun (W : World) (h : BxAt [(w10.heap.size, dN, dD), (w5.heap.size, str t.num, str (t.den : Int)), (w4.heap.size, str c.num, str (c.den : Int)), (w3.heap.size, str b.num, str (b.den : Int)), (w2.heap.size, str a.num, str (a.den : Int))] w W) => (show W.cell? ⟨w10.heap.size, 0, none⟩ = some (.string dN) ∧ W.cell? ⟨w10.heap.size, 1, none⟩ = some (.string dD) from ⟨(h.row (w10.heap.size, dN, dD) (by simp)).1, (h.row (w10.heap.size, dN, dD) (by simp)).2.1⟩))
      rcases hE with rfl | rfl
      · have KD2 := KD rfl
        go_region_held3 (fun W => W.cell? ⟨w10.heap.size, 0, none⟩ = some (.string dN) ∧ W.cell? ⟨w10.heap.size, 1, none⟩ = some (.string dD)) (first | with_reducible exact KEEP.out _ H12.out | with_reducible exact KEEP.out _ H11.out | with_reducible exact KEEP.out _ H10.out.drew | with_reducible exact KEEP.out _ H10.out) (first
          | (have _ := H11; go_at_call 23; refine (KD2.out _ _ (by first | with_reducible exact H11.out)).mono ?_; rintro e w12 ⟨rfl, h12⟩; have H12 := Lib.hid h12; clear h12)
          | (have _ := H10; go_at_call 24; refine (KI.out _ _ _ _ (by first | with_reducible exact H10.out | with_reducible exact H10.out.drew)).mono ?_; rintro e w11 ⟨rfl, h11⟩; have H11 := Lib.hid h11; clear h11)
          )
        all_goals
          go_wp2
          go_meet
          exact ⟨rfl, H12.out⟩
      · go_region
        all_goals
          go_wp2
          go_meet
          exact ⟨rfl, by first | exact H10.out.drew | exact H10.out⟩
    case rest =>
      obtain ⟨rfl, hX⟩ := hcut
      obtain ⟨w20_12, w21_12, _⟩ := hX.row (w2.heap.size, str a.num, str (a.den : Int)) (by simp); obtain ⟨w30_12, w31_12, _⟩ := hX.row (w3.heap.size, str b.num, str (b.den : Int)) (by simp); obtain ⟨w50_12, w51_12, _⟩ := hX.row (w5.heap.size, str t.num, str (t.den : Int)) (by simp)
      have H12 := Lib.hid hX
      clear hX H9 H10 hE KD SUB
      go_upto_region 16 with (first
        | (go_at_call 27; with_reducible refine (AD1.out _ H12.out.bw).mono ?_; rintro e w13 ⟨rfl, hb⟩; have h := H12.out.below hb; obtain ⟨w30_13, w31_13, _⟩ := h.row (w3.heap.size, str b.num, str (b.den : Int)) (by simp); obtain ⟨w50_13, w51_13, _⟩ := h.row (w5.heap.size, str t.num, str (t.den : Int)) (by simp); have V13 := Lib.hid h; have AP := Lib.hid (ArAt.start2 w13 pN pD 23); have H13 := Lib.hid (h.al (.cells #[.string pN, .string pD] 23)); clear h hb)
        | (go_at_call 27; with_reducible refine (AD2.out _ H13.out.bw).mono ?_; rintro e w14 ⟨rfl, hb⟩; have h := H13.out.below hb; have p := AP.out.below hb; have p0 := p.row 0 _ rfl; have p1 := p.row 1 _ rfl; have hlt := p.sz; have V14 := Lib.hid h; have O14 := Lib.hid (OdAt.start h p qN qD 23); clear h p hb)
        | fail)
      go_cut [132] from 120 to 131 (fun v wX => v = .bool false ∧ OdAt [(w10.heap.size, dN, dD), (w5.heap.size, str t.num, str (t.den : Int)), (w4.heap.size, str c.num, str (c.den : Int)), (w3.heap.size, str b.num, str (b.den : Int)), (w2.heap.size, str a.num, str (a.den : Int))] w13.heap.size w14.heap.size pN pD qN qD w wX)
      case first =>
        rcases hF with rfl | rfl
        · rcases hG with rfl | rfl
          · have KPQ2 := KPQ rfl rfl
            go_wp2_with (first
              | (go_at_call 23; with_reducible refine (KPQ2.out _ O14.out.x.bw).mono ?_; rintro e w15 ⟨rfl, hb⟩; have O15 := Lib.hid (O14.out.below hb); clear hb)
              | fail)
            go_meet
            exact ⟨rfl, O15.out⟩
          · go_wp2
            go_meet
            exact ⟨rfl, O14.out⟩
        · go_wp2
          go_meet
          exact ⟨rfl, O14.out⟩
      case rest =>
        obtain ⟨rfl, hO⟩ := hcut
        have hX := hO.x
        obtain ⟨w20_15, w21_15, _⟩ := hX.row (w2.heap.size, str a.num, str (a.den : Int)) (by simp); obtain ⟨w30_15, w31_15, _⟩ := hX.row (w3.heap.size, str b.num, str (b.den : Int)) (by simp); obtain ⟨w50_15, w51_15, _⟩ := hX.row (w5.heap.size, str t.num, str (t.den : Int)) (by simp)
        have O15 := Lib.hid hO
        have pc0 := hO.p.row 0 _ rfl
        have ne1 : w13.heap.size ≠ w14.heap.size := by omega
        have ne2 : w14.heap.size ≠ w13.heap.size := by omega
        clear hX hO hF hG KPQ AD1 AD2 H12 H13 O14 AP pc0
        go_wp2_with (first
          | (go_at_call 25; with_reducible refine (ML1.out _ O15.out.x.bw).mono ?_; rintro e w16 ⟨rfl, hb⟩; have o := O15.out.below hb; have pc0 := o.p.row 0 _ rfl; have pc1 := o.p.row 1 _ rfl; have pf0 := o.p.fz 0 (by simp); have pf1 := o.p.fz 1 (by simp); have o2 := o.setp V13.out rfl ne1 uN uD; have hX := o2.x; obtain ⟨w30_16, w31_16, _⟩ := hX.row (w3.heap.size, str b.num, str (b.den : Int)) (by simp); obtain ⟨w50_16, w51_16, _⟩ := hX.row (w5.heap.size, str t.num, str (t.den : Int)) (by simp); have O16 := Lib.hid o2; clear hb o o2 hX)
          | (go_at_call 25; with_reducible refine (ML2.out _ O16.out.x.bw).mono ?_; rintro e w17 ⟨rfl, hb⟩; have o := O16.out.below hb; have qc0 := o.q.row 0 _ rfl; have qc1 := o.q.row 1 _ rfl; have qf0 := o.q.fz 0 (by simp); have qf1 := o.q.fz 1 (by simp); have o2 := o.setq V14.out rfl ne2 vN vD; have O17 := Lib.hid o2; clear hb o o2)
          | fail)
        have KEEP := Lib.hid (fun (W : World) (h : OdAt [(w10.heap.size, dN, dD), (w5.heap.size, str t.num, str (t.den : Int)), (w4.heap.size, str c.num, str (c.den : Int)), (w3.heap.size, str b.num, str (b.den : Int)), (w2.heap.size, str a.num, str (a.den : Int))] w13.heap.size w14.heap.size uN uD vN vD w W) => (show W.cell? ⟨w13.heap.size, 0, none⟩ = some (.string uN) ∧ W.cell? ⟨w13.heap.size, 1, none⟩ = some (.string uD) ∧ W.cell? ⟨w14.heap.size, 0, none⟩ = some (.string vN) ∧ W.cell? ⟨w14.heap.size, 1, none⟩ = some (.string vD) ∧ W.cell? ⟨w5.heap.size, 0, none⟩ = some (.string (str t.num)) ∧ W.cell? ⟨w5.heap.size, 1, none⟩ = some (.string (str (t.den : Int))) from ⟨h.p.row 0 _ rfl, h.p.row 1 _ rfl, h.q.row 0 _ rfl, h.q.row 1 _ rfl, (h.x.row (w5.heap.size, str t.num, str (t.den : Int)) (by simp)).1, (h.x.row (w5.heap.size, str t.num, str (t.den : Int)) (by simp)).2.1⟩))
        have hw : IntKind.i64.wrap (kab * kt) = kab * kt := IntWalk.i64_in _ (by
          have h3 : kab = 1 ∨ kab = -1 ∨ kab = 0 := by omega
          rcases h3 with rfl | rfl | rfl <;> omega)
        rcases hF2 with rfl | rfl
        · rcases hG2 with rfl | rfl
          · have KUV2 := KUV rfl rfl
            clear KUV
            go_region_held3 (fun W => W.cell? ⟨w13.heap.size, 0, none⟩ = some (.string uN) ∧ W.cell? ⟨w13.heap.size, 1, none⟩ = some (.string uD) ∧ W.cell? ⟨w14.heap.size, 0, none⟩ = some (.string vN) ∧ W.cell? ⟨w14.heap.size, 1, none⟩ = some (.string vD) ∧ W.cell? ⟨w5.heap.size, 0, none⟩ = some (.string (str t.num)) ∧ W.cell? ⟨w5.heap.size, 1, none⟩ = some (.string (str (t.den : Int)))) (first | with_reducible exact KEEP.out _ O20.out | with_reducible exact KEEP.out _ O19.out | with_reducible exact KEEP.out _ O18.out | with_reducible exact KEEP.out _ O17.out.drew | with_reducible exact KEEP.out _ O17.out) (first
              | (have _ := O19; go_at_call 23; refine (KT.out _ (by with_reducible exact O19.out.x.bw)).mono ?_; rintro e w20 ⟨rfl, hb⟩; have O20 := Lib.hid (O19.out.below hb); clear hb)
              | (have _ := O18; go_at_call 24; refine (KB.out _ _ _).mono ?_; rintro e w19 ⟨rfl, hb⟩; have O19 := Lib.hid (O18.out.below hb); clear hb)
              | (have _ := O17; go_at_call 23; refine (KUV2.out _ (by first | with_reducible exact O17.out.x.bw | with_reducible exact O17.out.drew.x.bw)).mono ?_; rintro e w18 ⟨rfl, hb⟩; have O18 := Lib.hid (OdAt.below (by first | with_reducible exact O17.out | with_reducible exact O17.out.drew) hb); clear hb)
              )
            all_goals
              go_wp2
              go_ret
              exact ⟨ret_bool (by simp), O20.out.x.bw⟩
          · go_region
            all_goals
              go_wp2
              go_ret
              exact ⟨rfl, by first | exact O17.out.x.bw | exact O17.out.drew.x.bw⟩
        · go_region
          all_goals
            go_wp2
            go_ret
            exact ⟨rfl, by first | exact O17.out.x.bw | exact O17.out.drew.x.bw⟩
end Go.Proofs.YtkekafamfoifmaaGreatDoor
