/-
  The law RationalField: sums and products of fractions.
-/
import Derived.Test.YtkekafamfoifmaaGreatDoorZPrs
import Derived.Test.YtkekafamfoifmaaGreatDoorZFldQP
import Derived.Test.YtkekafamfoifmaaGreatDoorZSml
import Derived.Test.YtkekafamfoifmaaGreatDoorZLng
import Derived.Test.YtkekafamfoifmaaGreatDoorZSane
import Derived.Test.YtkekafamfoifmaaGreatDoorMEqA
import Derived.Deep.CutBlock
namespace Go.Proofs.YtkekafamfoifmaaGreatDoor
open Go.RowKit Go.Shelf
attribute [local go_sem] Oper.semAt_some

theorem four_o {w : World} (hq : QOps w) {x y : Option Rat} (fx : FO x) (fy : FO y) : Hid (∀ W, Below w.heap.size w W → Calls Tryz.prog 29 #[.agg #[.string (qN x), .string (qD x)], .agg #[.string (qN y), .string (qD y)]] W fun e W' => e = .returned (.tuple #[.agg #[.string (qN (lift2 addR x y)), .string (qD (lift2 addR x y)), .string (qN (lift2 subR x y)), .string (qD (lift2 subR x y)), .string (qN (lift2 mulR x y)), .string (qD (lift2 mulR x y)), .string (qN (lift2 divR x y)), .string (qD (lift2 divR x y))], .agg #[.int .i64 (qE (lift2 addR x y)), .int .i64 (qE (lift2 subR x y)), .int .i64 (qE (lift2 mulR x y)), .int .i64 (qE (lift2 divR x y))]]) ∧ Below W.heap.size W W') := fun W hk =>
  four_w W (fun V hv => by have := Add_q ((hq.below hk).below hv).io (qN_sz _ fx) (qD_sz _ fx) (qN_sz _ fy) (qD_sz _ fy); rw [op2_q fx fy] at this; exact this)
    (fun V hv => by have := Sub_q ((hq.below hk).below hv).io (qN_sz _ fx) (qD_sz _ fx) (qN_sz _ fy) (qD_sz _ fy); rw [op2_q fx fy] at this; exact this)
    (fun V hv => by have := Mul_q ((hq.below hk).below hv).io (qN_sz _ fx) (qD_sz _ fx) (qN_sz _ fy) (qD_sz _ fy); rw [op2_q fx fy] at this; exact this)
    (fun V hv => by have := Div_q ((hq.below hk).below hv).io (qN_sz _ fx) (qD_sz _ fx) (qN_sz _ fy) (qD_sz _ fy); rw [op2_q fx fy] at this; exact this)
theorem add_o {w : World} (hq : QOps w) {x y : Option Rat} (fx : FO x) (fy : FO y) : Hid (∀ W, Below w.heap.size w W → Calls Tryz.prog 27 #[.agg #[.string (qN x), .string (qD x)], .agg #[.string (qN y), .string (qD y)]] W fun e W' => e = .returned (.tuple #[.agg #[.string (qN (lift2 addR x y)), .string (qD (lift2 addR x y))], .int .i64 (qE (lift2 addR x y))]) ∧ Below W.heap.size W W') := fun W hk => by
  have := Add_q (hq.below hk).io (qN_sz _ fx) (qD_sz _ fx) (qN_sz _ fy) (qD_sz _ fy)
  rw [op2_q fx fy] at this
  exact this
theorem sub_o {w : World} (hq : QOps w) {x y : Option Rat} (fx : FO x) (fy : FO y) : Hid (∀ W, Below w.heap.size w W → Calls Tryz.prog 44 #[.agg #[.string (qN x), .string (qD x)], .agg #[.string (qN y), .string (qD y)]] W fun e W' => e = .returned (.tuple #[.agg #[.string (qN (lift2 subR x y)), .string (qD (lift2 subR x y))], .int .i64 (qE (lift2 subR x y))]) ∧ Below W.heap.size W W') := fun W hk => by
  have := Sub_q (hq.below hk).io (qN_sz _ fx) (qD_sz _ fx) (qN_sz _ fy) (qD_sz _ fy)
  rw [op2_q fx fy] at this
  exact this
theorem mul_o {w : World} (hq : QOps w) {x y : Option Rat} (fx : FO x) (fy : FO y) : Hid (∀ W, Below w.heap.size w W → Calls Tryz.prog 25 #[.agg #[.string (qN x), .string (qD x)], .agg #[.string (qN y), .string (qD y)]] W fun e W' => e = .returned (.tuple #[.agg #[.string (qN (lift2 mulR x y)), .string (qD (lift2 mulR x y))], .int .i64 (qE (lift2 mulR x y))]) ∧ Below W.heap.size W W') := fun W hk => by
  have := Mul_q (hq.below hk).io (qN_sz _ fx) (qD_sz _ fx) (qN_sz _ fy) (qD_sz _ fy)
  rw [op2_q fx fy] at this
  exact this
/-- What the callees answer, at three fractions: T the texts, K the errors' numbers. -/
structure FldP (w : World) (a b c : Rat) (T : Nat → ByteArray) (K : Nat → Int) : Prop where
  F1 : Hid (∀ W, Below w.heap.size w W → Calls Tryz.prog 29 #[.agg #[.string (str a.num), .string (str (a.den : Int))], .agg #[.string (str b.num), .string (str (b.den : Int))]] W fun e W' => e = .returned (.tuple #[.agg #[.string (T 0), .string (T 1), .string (T 2), .string (T 3), .string (T 4), .string (T 5), .string (T 6), .string (T 7)], .agg #[.int .i64 (K 0), .int .i64 (K 1), .int .i64 (K 2), .int .i64 (K 3)]]) ∧ Below W.heap.size W W')
  F2 : Hid (∀ W, Below w.heap.size w W → Calls Tryz.prog 29 #[.agg #[.string (str b.num), .string (str (b.den : Int))], .agg #[.string (str a.num), .string (str (a.den : Int))]] W fun e W' => e = .returned (.tuple #[.agg #[.string (T 0), .string (T 1), .string (T 8), .string (T 9), .string (T 4), .string (T 5), .string (T 10), .string (T 11)], .agg #[.int .i64 (K 0), .int .i64 (K 4), .int .i64 (K 2), .int .i64 (K 5)]]) ∧ Below W.heap.size W W')
  F3 : Hid (∀ W, Below w.heap.size w W → Calls Tryz.prog 29 #[.agg #[.string (str b.num), .string (str (b.den : Int))], .agg #[.string (str c.num), .string (str (c.den : Int))]] W fun e W' => e = .returned (.tuple #[.agg #[.string (T 12), .string (T 13), .string (T 14), .string (T 15), .string (T 16), .string (T 17), .string (T 18), .string (T 19)], .agg #[.int .i64 (K 6), .int .i64 (K 7), .int .i64 (K 8), .int .i64 (K 9)]]) ∧ Below W.heap.size W W')
  F4 : Hid (∀ W, Below w.heap.size w W → Calls Tryz.prog 29 #[.agg #[.string ((T 0)), .string ((T 1))], .agg #[.string (str c.num), .string (str (c.den : Int))]] W fun e W' => e = .returned (.tuple #[.agg #[.string (T 20), .string (T 21), .string (T 22), .string (T 23), .string (T 24), .string (T 25), .string (T 26), .string (T 27)], .agg #[.int .i64 (K 10), .int .i64 (K 11), .int .i64 (K 12), .int .i64 (K 13)]]) ∧ Below W.heap.size W W')
  A1 : Hid (∀ W, Below w.heap.size w W → Calls Tryz.prog 27 #[.agg #[.string (str a.num), .string (str (a.den : Int))], .agg #[.string ((T 12)), .string ((T 13))]] W fun e W' => e = .returned (.tuple #[.agg #[.string ((T 28)), .string ((T 29))], .int .i64 (K 14)]) ∧ Below W.heap.size W W')
  M1 : Hid (∀ W, Below w.heap.size w W → Calls Tryz.prog 25 #[.agg #[.string (str a.num), .string (str (a.den : Int))], .agg #[.string ((T 16)), .string ((T 17))]] W fun e W' => e = .returned (.tuple #[.agg #[.string ((T 30)), .string ((T 31))], .int .i64 (K 15)]) ∧ Below W.heap.size W W')
  M2 : Hid (∀ W, Below w.heap.size w W → Calls Tryz.prog 25 #[.agg #[.string ((T 4)), .string ((T 5))], .agg #[.string (str c.num), .string (str (c.den : Int))]] W fun e W' => e = .returned (.tuple #[.agg #[.string ((T 32)), .string ((T 33))], .int .i64 (K 16)]) ∧ Below W.heap.size W W')
  M3 : Hid (∀ W, Below w.heap.size w W → Calls Tryz.prog 25 #[.agg #[.string (str a.num), .string (str (a.den : Int))], .agg #[.string (str c.num), .string (str (c.den : Int))]] W fun e W' => e = .returned (.tuple #[.agg #[.string ((T 34)), .string ((T 35))], .int .i64 (K 17)]) ∧ Below W.heap.size W W')
  A2 : Hid (∀ W, Below w.heap.size w W → Calls Tryz.prog 27 #[.agg #[.string ((T 34)), .string ((T 35))], .agg #[.string ((T 16)), .string ((T 17))]] W fun e W' => e = .returned (.tuple #[.agg #[.string ((T 36)), .string ((T 37))], .int .i64 (K 18)]) ∧ Below W.heap.size W W')
  M4 : Hid (∀ W, Below w.heap.size w W → Calls Tryz.prog 25 #[.agg #[.string ((T 0)), .string ((T 1))], .agg #[.string (str c.num), .string (str (c.den : Int))]] W fun e W' => e = .returned (.tuple #[.agg #[.string ((T 38)), .string ((T 39))], .int .i64 (K 19)]) ∧ Below W.heap.size W W')
  SB1 : Hid (∀ W, Below w.heap.size w W → Calls Tryz.prog 44 #[.agg #[.string ((T 0)), .string ((T 1))], .agg #[.string (str b.num), .string (str (b.den : Int))]] W fun e W' => e = .returned (.tuple #[.agg #[.string ((T 40)), .string ((T 41))], .int .i64 (K 20)]) ∧ Below W.heap.size W W')
  M5 : Hid (∀ W, Below w.heap.size w W → Calls Tryz.prog 25 #[.agg #[.string ((T 6)), .string ((T 7))], .agg #[.string (str b.num), .string (str (b.den : Int))]] W fun e W' => e = .returned (.tuple #[.agg #[.string ((T 42)), .string ((T 43))], .int .i64 (K 21)]) ∧ Below W.heap.size W W')
  eR0 : (K 0) = 0 ∨ (K 0) = 40
  eR2 : (K 2) = 0 ∨ (K 2) = 40
  eR3 : (K 3) = 0 ∨ (K 3) = 40
  eU0 : (K 6) = 0 ∨ (K 6) = 40
  eU2 : (K 8) = 0 ∨ (K 8) = 40
  eV0 : (K 10) = 0 ∨ (K 10) = 40
  eO : (K 14) = 0 ∨ (K 14) = 40
  eTT : (K 15) = 0 ∨ (K 15) = 40
  eLL : (K 16) = 0 ∨ (K 16) = 40
  eCC : (K 17) = 0 ∨ (K 17) = 40
  eMM : (K 18) = 0 ∨ (K 18) = 40
  eHH : (K 19) = 0 ∨ (K 19) = 40
  eKK : (K 20) = 0 ∨ (K 20) = 40
  eGG : (K 21) = 0 ∨ (K 21) = 40
  cl1 : (K 0) = 0 → (K 6) = 0 → (K 10) = 0 → (K 14) = 0 → (T 20) = (T 28) ∧ (T 21) = (T 29)
  cl2 : (K 2) = 0 → (K 8) = 0 → (K 15) = 0 → (K 16) = 0 → (T 30) = (T 32) ∧ (T 31) = (T 33)
  cl3 : (K 0) = 0 → (K 17) = 0 → (K 8) = 0 → (K 18) = 0 → (K 19) = 0 → (T 36) = (T 38) ∧ (T 37) = (T 39)
  cl4 : (K 0) = 0 → (K 20) = 0 → (T 40) = str a.num ∧ (T 41) = str (a.den : Int)
  cl5 : (K 3) = 0 → (K 21) = 0 → (T 42) = str a.num ∧ (T 43) = str (a.den : Int)
  cl6 : Mch a → Mch b → (K 0) = 0 ∧ (K 2) = 0
theorem fld_facts {w : World} (hq : QOps w) (a b c : Rat) (fa : fitsR a) (fb : fitsR b) (fc : fitsR c) : ∃ (T : Nat → ByteArray) (K : Nat → Int), FldP w a b c T K := by
  have xa := FO.of fa
  have xb := FO.of fb
  have xc := FO.of fc
  have x0 : FO (addR a b) := fun _ h => add_fits h
  have x2 : FO (mulR a b) := fun _ h => mul_fits h
  have x3 : FO (divR a b) := fun _ h => div_fits h
  have y0 : FO (addR b c) := fun _ h => add_fits h
  have y2 : FO (mulR b c) := fun _ h => mul_fits h
  have xac : FO (mulR a c) := fun _ h => mul_fits h
  refine ⟨fun i => ([qN (addR a b), qD (addR a b), qN (subR a b), qD (subR a b), qN (mulR a b), qD (mulR a b), qN (divR a b), qD (divR a b), qN (subR b a), qD (subR b a), qN (divR b a), qD (divR b a), qN (addR b c), qD (addR b c), qN (subR b c), qD (subR b c), qN (mulR b c), qD (mulR b c), qN (divR b c), qD (divR b c), qN (lift2 addR (addR a b) (some c)), qD (lift2 addR (addR a b) (some c)), qN (lift2 subR (addR a b) (some c)), qD (lift2 subR (addR a b) (some c)), qN (lift2 mulR (addR a b) (some c)), qD (lift2 mulR (addR a b) (some c)), qN (lift2 divR (addR a b) (some c)), qD (lift2 divR (addR a b) (some c)), qN (lift2 addR (some a) (addR b c)), qD (lift2 addR (some a) (addR b c)), qN (lift2 mulR (some a) (mulR b c)), qD (lift2 mulR (some a) (mulR b c)), qN (lift2 mulR (mulR a b) (some c)), qD (lift2 mulR (mulR a b) (some c)), qN (mulR a c), qD (mulR a c), qN (lift2 addR (mulR a c) (mulR b c)), qD (lift2 addR (mulR a c) (mulR b c)), qN (lift2 mulR (addR a b) (some c)), qD (lift2 mulR (addR a b) (some c)), qN (lift2 subR (addR a b) (some b)), qD (lift2 subR (addR a b) (some b)), qN (lift2 mulR (divR a b) (some b)), qD (lift2 mulR (divR a b) (some b))] : List ByteArray).getD i ⟨#[]⟩, fun i => ([qE (addR a b), qE (subR a b), qE (mulR a b), qE (divR a b), qE (subR b a), qE (divR b a), qE (addR b c), qE (subR b c), qE (mulR b c), qE (divR b c), qE (lift2 addR (addR a b) (some c)), qE (lift2 subR (addR a b) (some c)), qE (lift2 mulR (addR a b) (some c)), qE (lift2 divR (addR a b) (some c)), qE (lift2 addR (some a) (addR b c)), qE (lift2 mulR (some a) (mulR b c)), qE (lift2 mulR (mulR a b) (some c)), qE (mulR a c), qE (lift2 addR (mulR a c) (mulR b c)), qE (lift2 mulR (addR a b) (some c)), qE (lift2 subR (addR a b) (some b)), qE (lift2 mulR (divR a b) (some b))] : List Int).getD i 0, ?_⟩
  refine ⟨four_o hq xa xb, ?_, four_o hq xb xc, four_o hq x0 xc, add_o hq xa y0, mul_o hq xa y2, mul_o hq x2 xc, mul_o hq xa xc, add_o hq xac y2, mul_o hq x0 xc, sub_o hq x0 xb, mul_o hq x3 xb, qE_two' _, qE_two' _, qE_two' _, qE_two' _, qE_two' _, qE_two' _, qE_two' _, qE_two' _, qE_two' _, qE_two' _, qE_two' _, qE_two' _, qE_two' _, qE_two' _, fun h1 h2 h3 h4 => ?_, fun h1 h2 h3 h4 => ?_, fun h1 h2 h3 h4 h5 => ?_, fun h1 h2 => ?_, fun h1 h2 => ?_, fun h1 h2 => ?_⟩
  · have := four_o hq xb xa
    rw [show lift2 addR (some b) (some a) = addR a b from addR_comm b a, show lift2 mulR (some b) (some a) = mulR a b from mulR_comm b a] at this
    exact this
  · obtain ⟨p, e1⟩ := qE_zero' h1
    obtain ⟨q, e2⟩ := qE_zero' h2
    obtain ⟨r, e3⟩ := qE_zero' h3
    obtain ⟨s, e4⟩ := qE_zero' h4
    rw [e3, e4]
    rw [e1] at e3
    rw [e2] at e4
    rw [fld_assoc e1 e2 e3 e4]
    exact ⟨rfl, rfl⟩
  · obtain ⟨p, e1⟩ := qE_zero' h1
    obtain ⟨q, e2⟩ := qE_zero' h2
    obtain ⟨r, e3⟩ := qE_zero' h3
    obtain ⟨s, e4⟩ := qE_zero' h4
    rw [e3, e4]
    rw [e2] at e3
    rw [e1] at e4
    rw [fld_massoc e1 e2 e4 e3]
    exact ⟨rfl, rfl⟩
  · obtain ⟨p, e1⟩ := qE_zero' h1
    obtain ⟨q, e2⟩ := qE_zero' h2
    obtain ⟨r, e3⟩ := qE_zero' h3
    obtain ⟨s, e4⟩ := qE_zero' h4
    obtain ⟨u, e5⟩ := qE_zero' h5
    rw [e4, e5]
    rw [e2, e3] at e4
    rw [e1] at e5
    rw [fld_dist e1 e2 e3 e4 e5]
    exact ⟨rfl, rfl⟩
  · obtain ⟨p, e1⟩ := qE_zero' h1
    obtain ⟨q, e2⟩ := qE_zero' h2
    rw [e2]
    rw [e1] at e2
    rw [fld_back e1 e2]
    exact ⟨rfl, rfl⟩
  · obtain ⟨p, e1⟩ := qE_zero' h1
    obtain ⟨q, e2⟩ := qE_zero' h2
    rw [e2]
    rw [e1] at e2
    rw [fld_again e1 e2]
    exact ⟨rfl, rfl⟩
  · rw [h1.add h2, h1.mulR h2]
    exact ⟨rfl, rfl⟩

theorem AzAt.third {a b c : Nat × List Value} {L : List (Nat × List Value)} {w W : World} (h : AzAt (c :: b :: a :: L) w W) : AzAt (a :: c :: b :: L) w W := h.sub fun x hx => by
  rcases List.mem_cons.1 hx with rfl | hx
  · simp
  · rcases List.mem_cons.1 hx with rfl | hx
    · simp
    · rcases List.mem_cons.1 hx with rfl | hx
      · simp
      · simp [hx]
theorem AzAt.push12 {L : List (Nat × List Value)} {w W : World} (h : AzAt L w W) (s0 s1 s2 s3 s4 s5 s6 s7 : ByteArray) (e0 e1 e2 e3 : Int) (u v : TypeId) : AzAt ((W.heap.size + 1, [.int .i64 e0, .int .i64 e1, .int .i64 e2, .int .i64 e3]) :: (W.heap.size, [.string s0, .string s1, .string s2, .string s3, .string s4, .string s5, .string s6, .string s7]) :: L) w
    ((W.alloc (.cells #[.string s0, .string s1, .string s2, .string s3, .string s4, .string s5, .string s6, .string s7] u)).alloc (.cells #[.int .i64 e0, .int .i64 e1, .int .i64 e2, .int .i64 e3] v)) := by
  refine ⟨((h.al _).al _).bw, fun x hx => ?_⟩
  rcases List.mem_cons.1 hx with rfl | hx
  · have := ArAt.start (W.alloc (.cells #[.string s0, .string s1, .string s2, .string s3, .string s4, .string s5, .string s6, .string s7] u)) #[.int .i64 e0, .int .i64 e1, .int .i64 e2, .int .i64 e3] v
    simp only [World.size_alloc] at this
    exact this
  · rcases List.mem_cons.1 hx with rfl | hx
    · exact (ArAt.start W #[.string s0, .string s1, .string s2, .string s3, .string s4, .string s5, .string s6, .string s7] u).al _
    · exact ((h.al _).al _).row x hx

set_option maxRecDepth 100000 in
set_option maxHeartbeats 16000000 in
theorem Field_short (x0 x1 x2 x3 y0 y1 y2 y3 z0 z1 : Int) (hx0 : -9223372036854775808 ≤ x0 ∧ x0 ≤ 9223372036854775807) (hx1 : -9223372036854775808 ≤ x1 ∧ x1 ≤ 9223372036854775807) (hy0 : -9223372036854775808 ≤ y0 ∧ y0 ≤ 9223372036854775807) (hy1 : -9223372036854775808 ≤ y1 ∧ y1 ≤ 9223372036854775807) (hz0 : -9223372036854775808 ≤ z0 ∧ z0 ≤ 9223372036854775807) (hz1 : -9223372036854775808 ≤ z1 ∧ z1 ≤ 9223372036854775807) (w : World) (hq : QOps w) :
    Calls Tryz.prog 8 #[.agg #[.int .i64 x0, .int .i64 x1, .int .i64 x2, .int .i64 x3], .agg #[.int .i64 y0, .int .i64 y1, .int .i64 y2, .int .i64 y3], .agg #[.int .i64 z0, .int .i64 z1], .bool false] w fun e W' => e = .returned (.bool true) ∧ Below w.heap.size w W' := by
  have KS := Lib.hid (fun (W : World) (h : Below w.heap.size w W) => sane_q (hq.below h))
  have KX := Lib.hid (fun (W : World) => Small_f x0 x1 hx0.1 hx0.2 hx1.1 hx1.2 W)
  have KY := Lib.hid (fun (W : World) => Small_f y0 y1 hy0.1 hy0.2 hy1.1 hy1.2 W)
  have KZ := Lib.hid (fun (W : World) => Small_f z0 z1 hz0.1 hz0.2 hz1.1 hz1.2 W)
  have FF := Lib.hid (fun (a b c : Rat) fa fb fc => fld_facts hq a b c fa fb fc)
  have H0 := Lib.hid (show AzAt [(w.heap.size + 1 + 1, [.int .i64 z0, .int .i64 z1]), (w.heap.size + 1, [.int .i64 y0, .int .i64 y1, .int .i64 y2, .int .i64 y3]), (w.heap.size, [.int .i64 x0, .int .i64 x1, .int .i64 x2, .int .i64 x3])] w _ from by have hp := (((AzAt.start w).push [.int .i64 x0, .int .i64 x1, .int .i64 x2, .int .i64 x3] 24).push [.int .i64 y0, .int .i64 y1, .int .i64 y2, .int .i64 y3] 24).push [.int .i64 z0, .int .i64 z1] 47; simp only [World.size_alloc] at hp; exact hp)
  clear hq hx0 hx1 hy0 hy1 hz0 hz1
  go_enter Tryz.func8, Tryz.ntmps8
  go_upto_region 8 with (first
    | (go_at_call 11; (with_reducible refine (KS.out _ H0.out.bw).mono ?_); rintro e w1 ⟨rfl, hb⟩; have hp := H0.out.below hb; have q1 := (hp.row (w.heap.size, [.int .i64 x0, .int .i64 x1, .int .i64 x2, .int .i64 x3]) (by simp)).row 0 _ rfl; have q2 := (hp.row (w.heap.size, [.int .i64 x0, .int .i64 x1, .int .i64 x2, .int .i64 x3]) (by simp)).row 1 _ rfl; have H1 := Lib.hid hp; clear hb hp)
    | (go_at_call 28; (with_reducible refine (KX.out _).mono ?_); rintro e w2 ⟨⟨a, hr, rfl⟩, hb⟩; have hq := H1.out.below hb; have s2 := (hq.row (w.heap.size + 1 + 1, [.int .i64 z0, .int .i64 z1]) (by simp)).sz; have hp := hq.push [.string (str a.num), .string (str (a.den : Int))] 23; have q3 := (hp.row (w.heap.size + 1, [.int .i64 y0, .int .i64 y1, .int .i64 y2, .int .i64 y3]) (by simp)).row 0 _ rfl; have q4 := (hp.row (w.heap.size + 1, [.int .i64 y0, .int .i64 y1, .int .i64 y2, .int .i64 y3]) (by simp)).row 1 _ rfl; have H2 := Lib.hid hp; have Ra := Lib.hid hr; clear hb hr hp hq)
    | (go_at_call 28; (with_reducible refine (KY.out _).mono ?_); rintro e w3 ⟨⟨b, hr, rfl⟩, hb⟩; have hq := H2.out.below hb; have s3 := (hq.row (w2.heap.size, [.string (str a.num), .string (str (a.den : Int))]) (by simp)).sz; have hp := hq.push [.string (str b.num), .string (str (b.den : Int))] 23; have q5 := (hp.row (w.heap.size + 1 + 1, [.int .i64 z0, .int .i64 z1]) (by simp)).row 0 _ rfl; have q6 := (hp.row (w.heap.size + 1 + 1, [.int .i64 z0, .int .i64 z1]) (by simp)).row 1 _ rfl; have H3 := Lib.hid hp; have Rb := Lib.hid hr; clear hb hr hp hq)
    | (go_at_call 28; (with_reducible refine (KZ.out _).mono ?_); rintro e w4 ⟨⟨c, hr, rfl⟩, hb⟩; have hq := H3.out.below hb; have s4 := (hq.row (w3.heap.size, [.string (str b.num), .string (str (b.den : Int))]) (by simp)).sz; have hp := hq.push [.string (str c.num), .string (str (c.den : Int))] 23; have q7 := (hp.row (w2.heap.size, [.string (str a.num), .string (str (a.den : Int))]) (by simp)).row 0 _ rfl; have q8 := (hp.row (w2.heap.size, [.string (str a.num), .string (str (a.den : Int))]) (by simp)).row 1 _ rfl; have q9 := (hp.row (w3.heap.size, [.string (str b.num), .string (str (b.den : Int))]) (by simp)).row 0 _ rfl; have q10 := (hp.row (w3.heap.size, [.string (str b.num), .string (str (b.den : Int))]) (by simp)).row 1 _ rfl; have H4 := Lib.hid hp; have Rc := Lib.hid hr; clear hb hr hp hq)
    | fail)
  have hp := H4.out
  have H4 := Lib.hid (hp.sub (L' := [(w4.heap.size, [.string (str c.num), .string (str (c.den : Int))]), (w3.heap.size, [.string (str b.num), .string (str (b.den : Int))]), (w2.heap.size, [.string (str a.num), .string (str (a.den : Int))])]) (by simp))
  clear hp
  obtain ⟨T, K, P⟩ := FF.out a b c Ra.out.fits Rb.out.fits Rc.out.fits
  have F1 := P.F1
  have F2 := P.F2
  have F3 := P.F3
  have F4 := P.F4
  have A1 := P.A1
  have M1 := P.M1
  have M2 := P.M2
  have M3 := P.M3
  have A2 := P.A2
  have M4 := P.M4
  have SB1 := P.SB1
  have M5 := P.M5
  have eR0 := Lib.hid P.eR0
  have eR2 := Lib.hid P.eR2
  have eR3 := Lib.hid P.eR3
  have eU0 := Lib.hid P.eU0
  have eU2 := Lib.hid P.eU2
  have eV0 := Lib.hid P.eV0
  have eO := Lib.hid P.eO
  have eTT := Lib.hid P.eTT
  have eLL := Lib.hid P.eLL
  have eCC := Lib.hid P.eCC
  have eMM := Lib.hid P.eMM
  have eHH := Lib.hid P.eHH
  have eKK := Lib.hid P.eKK
  have eGG := Lib.hid P.eGG
  have cl1 := Lib.hid P.cl1
  have cl2 := Lib.hid P.cl2
  have cl3 := Lib.hid P.cl3
  have cl4 := Lib.hid P.cl4
  have cl5 := Lib.hid P.cl5
  have cl6 := Lib.hid P.cl6
  clear P
  obtain ⟨gR0, gR2⟩   := cl6.out Ra.out Rb.out
  rw [gR0, gR2] at F1 F2
  have HgR0 := Lib.hid gR0
  have HgR2 := Lib.hid gR2
  clear gR0 gR2 eR0 eR2 KS KX KY KZ FF H0 H1 H2 H3 Ra Rb Rc cl6
  go_upto_region 15 with (first
    | (go_at_call 29; (with_reducible refine (F1.out _ H4.out.bw).mono ?_); rintro e w10 ⟨rfl, hb⟩; have hp := (H4.out.below hb).push12 (T 0) (T 1) (T 2) (T 3) (T 4) (T 5) (T 6) (T 7) 0 (K 1) 0 (K 3) 49 50; have q11 := (hp.row (w2.heap.size, [.string (str a.num), .string (str (a.den : Int))]) (by simp)).row 0 _ rfl; have q12 := (hp.row (w2.heap.size, [.string (str a.num), .string (str (a.den : Int))]) (by simp)).row 1 _ rfl; have q13 := (hp.row (w3.heap.size, [.string (str b.num), .string (str (b.den : Int))]) (by simp)).row 0 _ rfl; have q14 := (hp.row (w3.heap.size, [.string (str b.num), .string (str (b.den : Int))]) (by simp)).row 1 _ rfl; have H10 := Lib.hid hp; clear hb hp)
    | (go_at_call 29; (with_reducible refine (F2.out _ H10.out.bw).mono ?_); rintro e w11 ⟨rfl, hb⟩; have hp := (H10.out.below hb).push12 (T 0) (T 1) (T 8) (T 9) (T 4) (T 5) (T 10) (T 11) 0 (K 4) 0 (K 5) 49 50; have q15 := (hp.row (w3.heap.size, [.string (str b.num), .string (str (b.den : Int))]) (by simp)).row 0 _ rfl; have q16 := (hp.row (w3.heap.size, [.string (str b.num), .string (str (b.den : Int))]) (by simp)).row 1 _ rfl; have q17 := (hp.row (w4.heap.size, [.string (str c.num), .string (str (c.den : Int))]) (by simp)).row 0 _ rfl; have q18 := (hp.row (w4.heap.size, [.string (str c.num), .string (str (c.den : Int))]) (by simp)).row 1 _ rfl; have q19 := (hp.row (w10.heap.size, [.string (T 0), .string (T 1), .string (T 2), .string (T 3), .string (T 4), .string (T 5), .string (T 6), .string (T 7)]) (by simp)).row 0 _ rfl; have q20 := (hp.row (w10.heap.size, [.string (T 0), .string (T 1), .string (T 2), .string (T 3), .string (T 4), .string (T 5), .string (T 6), .string (T 7)]) (by simp)).row 1 _ rfl; have q21 := (hp.row (w10.heap.size, [.string (T 0), .string (T 1), .string (T 2), .string (T 3), .string (T 4), .string (T 5), .string (T 6), .string (T 7)]) (by simp)).row 4 _ rfl; have q22 := (hp.row (w10.heap.size, [.string (T 0), .string (T 1), .string (T 2), .string (T 3), .string (T 4), .string (T 5), .string (T 6), .string (T 7)]) (by simp)).row 5 _ rfl; have q23 := (hp.row (w10.heap.size + 1, [.int .i64 0, .int .i64 (K 1), .int .i64 0, .int .i64 (K 3)]) (by simp)).row 0 _ rfl; have q24 := (hp.row (w10.heap.size + 1, [.int .i64 0, .int .i64 (K 1), .int .i64 0, .int .i64 (K 3)]) (by simp)).row 2 _ rfl; have q25 := (hp.row (w11.heap.size, [.string (T 0), .string (T 1), .string (T 8), .string (T 9), .string (T 4), .string (T 5), .string (T 10), .string (T 11)]) (by simp)).row 0 _ rfl; have q26 := (hp.row (w11.heap.size, [.string (T 0), .string (T 1), .string (T 8), .string (T 9), .string (T 4), .string (T 5), .string (T 10), .string (T 11)]) (by simp)).row 1 _ rfl; have q27 := (hp.row (w11.heap.size, [.string (T 0), .string (T 1), .string (T 8), .string (T 9), .string (T 4), .string (T 5), .string (T 10), .string (T 11)]) (by simp)).row 4 _ rfl; have q28 := (hp.row (w11.heap.size, [.string (T 0), .string (T 1), .string (T 8), .string (T 9), .string (T 4), .string (T 5), .string (T 10), .string (T 11)]) (by simp)).row 5 _ rfl; have q29 := (hp.row (w11.heap.size + 1, [.int .i64 0, .int .i64 (K 4), .int .i64 0, .int .i64 (K 5)]) (by simp)).row 0 _ rfl; have q30 := (hp.row (w11.heap.size + 1, [.int .i64 0, .int .i64 (K 4), .int .i64 0, .int .i64 (K 5)]) (by simp)).row 2 _ rfl; have H11 := Lib.hid hp; clear hb hp)
    | (go_at_call 29; (with_reducible refine (F3.out _ H11.out.bw).mono ?_); rintro e w12 ⟨rfl, hb⟩; have hp := (H11.out.below hb).push12 (T 12) (T 13) (T 14) (T 15) (T 16) (T 17) (T 18) (T 19) (K 6) (K 7) (K 8) (K 9) 49 50; have q31 := (hp.row (w10.heap.size, [.string (T 0), .string (T 1), .string (T 2), .string (T 3), .string (T 4), .string (T 5), .string (T 6), .string (T 7)]) (by simp)).row 0 _ rfl; have q32 := (hp.row (w10.heap.size, [.string (T 0), .string (T 1), .string (T 2), .string (T 3), .string (T 4), .string (T 5), .string (T 6), .string (T 7)]) (by simp)).row 1 _ rfl; have q33 := (hp.row (w4.heap.size, [.string (str c.num), .string (str (c.den : Int))]) (by simp)).row 0 _ rfl; have q34 := (hp.row (w4.heap.size, [.string (str c.num), .string (str (c.den : Int))]) (by simp)).row 1 _ rfl; have H12 := Lib.hid hp; clear hb hp)
    | (go_at_call 29; (with_reducible refine (F4.out _ H12.out.bw).mono ?_); rintro e w13 ⟨rfl, hb⟩; have hp := (H12.out.below hb).push12 (T 20) (T 21) (T 22) (T 23) (T 24) (T 25) (T 26) (T 27) (K 10) (K 11) (K 12) (K 13) 49 50; have q35 := (hp.row (w2.heap.size, [.string (str a.num), .string (str (a.den : Int))]) (by simp)).row 0 _ rfl; have q36 := (hp.row (w2.heap.size, [.string (str a.num), .string (str (a.den : Int))]) (by simp)).row 1 _ rfl; have q37 := (hp.row (w12.heap.size, [.string (T 12), .string (T 13), .string (T 14), .string (T 15), .string (T 16), .string (T 17), .string (T 18), .string (T 19)]) (by simp)).row 0 _ rfl; have q38 := (hp.row (w12.heap.size, [.string (T 12), .string (T 13), .string (T 14), .string (T 15), .string (T 16), .string (T 17), .string (T 18), .string (T 19)]) (by simp)).row 1 _ rfl; have H13 := Lib.hid hp; clear hb hp)
    | (go_at_call 27; (with_reducible refine (A1.out _ H13.out.bw).mono ?_); rintro e w14 ⟨rfl, hb⟩; have hp := (H13.out.below hb).push [.string (T 28), .string (T 29)] 23; have q39 := (hp.row (w10.heap.size + 1, [.int .i64 0, .int .i64 (K 1), .int .i64 0, .int .i64 (K 3)]) (by simp)).row 0 _ rfl; have q40 := (hp.row (w12.heap.size + 1, [.int .i64 (K 6), .int .i64 (K 7), .int .i64 (K 8), .int .i64 (K 9)]) (by simp)).row 0 _ rfl; have q41 := (hp.row (w13.heap.size + 1, [.int .i64 (K 10), .int .i64 (K 11), .int .i64 (K 12), .int .i64 (K 13)]) (by simp)).row 0 _ rfl; have q42 := (hp.row (w13.heap.size, [.string (T 20), .string (T 21), .string (T 22), .string (T 23), .string (T 24), .string (T 25), .string (T 26), .string (T 27)]) (by simp)).row 0 _ rfl; have q43 := (hp.row (w13.heap.size, [.string (T 20), .string (T 21), .string (T 22), .string (T 23), .string (T 24), .string (T 25), .string (T 26), .string (T 27)]) (by simp)).row 1 _ rfl; have q44 := (hp.row (w14.heap.size, [.string ((T 28)), .string ((T 29))]) (by simp)).row 0 _ rfl; have q45 := (hp.row (w14.heap.size, [.string ((T 28)), .string ((T 29))]) (by simp)).row 1 _ rfl; have H14 := Lib.hid hp; clear hb hp)
    | fail)
  go_cut [151] from 129 to 150 (fun v wX => v = .bool false ∧ AzAt [(w14.heap.size, [.string ((T 28)), .string ((T 29))]), (w13.heap.size + 1, [.int .i64 (K 10), .int .i64 (K 11), .int .i64 (K 12), .int .i64 (K 13)]), (w13.heap.size, [.string (T 20), .string (T 21), .string (T 22), .string (T 23), .string (T 24), .string (T 25), .string (T 26), .string (T 27)]), (w12.heap.size + 1, [.int .i64 (K 6), .int .i64 (K 7), .int .i64 (K 8), .int .i64 (K 9)]), (w12.heap.size, [.string (T 12), .string (T 13), .string (T 14), .string (T 15), .string (T 16), .string (T 17), .string (T 18), .string (T 19)]), (w11.heap.size + 1, [.int .i64 0, .int .i64 (K 4), .int .i64 0, .int .i64 (K 5)]), (w11.heap.size, [.string (T 0), .string (T 1), .string (T 8), .string (T 9), .string (T 4), .string (T 5), .string (T 10), .string (T 11)]), (w10.heap.size + 1, [.int .i64 0, .int .i64 (K 1), .int .i64 0, .int .i64 (K 3)]), (w10.heap.size, [.string (T 0), .string (T 1), .string (T 2), .string (T 3), .string (T 4), .string (T 5), .string (T 6), .string (T 7)]), (w4.heap.size, [.string (str c.num), .string (str (c.den : Int))]), (w3.heap.size, [.string (str b.num), .string (str (b.den : Int))]), (w2.heap.size, [.string (str a.num), .string (str (a.den : Int))])] w wX)
  case first =>
    rcases eU0.out with gU0 | gU0
    · rcases eV0.out with gV0 | gV0
      · rcases eO.out with gO | gO
        · obtain ⟨y1, y2⟩ := cl1.out HgR0.out gU0 gV0 gO
          go_wp2
          go_meet
          exact ⟨rfl, H14.out⟩
        · go_wp2
          go_meet
          exact ⟨rfl, H14.out⟩
      · go_wp2
        go_meet
        exact ⟨rfl, H14.out⟩
    · go_wp2
      go_meet
      exact ⟨rfl, H14.out⟩
  case rest =>
    obtain ⟨rfl, hX⟩ := hcut
    have q46 := (hX.row (w2.heap.size, [.string (str a.num), .string (str (a.den : Int))]) (by simp)).row 0 _ rfl
    have q47 := (hX.row (w2.heap.size, [.string (str a.num), .string (str (a.den : Int))]) (by simp)).row 1 _ rfl
    have q48 := (hX.row (w12.heap.size, [.string (T 12), .string (T 13), .string (T 14), .string (T 15), .string (T 16), .string (T 17), .string (T 18), .string (T 19)]) (by simp)).row 4 _ rfl
    have q49 := (hX.row (w12.heap.size, [.string (T 12), .string (T 13), .string (T 14), .string (T 15), .string (T 16), .string (T 17), .string (T 18), .string (T 19)]) (by simp)).row 5 _ rfl
    have H15 := Lib.hid hX
    clear hX H4 H10 H11 H12 H13 H14 F1 F2 F3 F4 A1 cl1 eV0 eO
    go_upto_region 19 with (first
      | (go_at_call 25; (with_reducible refine (M1.out _ H15.out.bw).mono ?_); rintro e w17 ⟨rfl, hb⟩; have hp := (H15.out.below hb).push [.string (T 30), .string (T 31)] 23; have q50 := (hp.row (w10.heap.size, [.string (T 0), .string (T 1), .string (T 2), .string (T 3), .string (T 4), .string (T 5), .string (T 6), .string (T 7)]) (by simp)).row 4 _ rfl; have q51 := (hp.row (w10.heap.size, [.string (T 0), .string (T 1), .string (T 2), .string (T 3), .string (T 4), .string (T 5), .string (T 6), .string (T 7)]) (by simp)).row 5 _ rfl; have q52 := (hp.row (w4.heap.size, [.string (str c.num), .string (str (c.den : Int))]) (by simp)).row 0 _ rfl; have q53 := (hp.row (w4.heap.size, [.string (str c.num), .string (str (c.den : Int))]) (by simp)).row 1 _ rfl; have H17 := Lib.hid hp; clear hb hp)
      | (go_at_call 25; (with_reducible refine (M2.out _ H17.out.bw).mono ?_); rintro e w18 ⟨rfl, hb⟩; have hp := (H17.out.below hb).push [.string (T 32), .string (T 33)] 23; have q54 := (hp.row (w10.heap.size + 1, [.int .i64 0, .int .i64 (K 1), .int .i64 0, .int .i64 (K 3)]) (by simp)).row 2 _ rfl; have q55 := (hp.row (w12.heap.size + 1, [.int .i64 (K 6), .int .i64 (K 7), .int .i64 (K 8), .int .i64 (K 9)]) (by simp)).row 2 _ rfl; have q56 := (hp.row (w17.heap.size, [.string ((T 30)), .string ((T 31))]) (by simp)).row 0 _ rfl; have q57 := (hp.row (w17.heap.size, [.string ((T 30)), .string ((T 31))]) (by simp)).row 1 _ rfl; have H18 := Lib.hid hp; clear hb hp)
      | fail)
    go_cut [186] from 166 to 185 (fun v wX => v = .bool false ∧ AzAt [(w18.heap.size, [.string ((T 32)), .string ((T 33))]), (w17.heap.size, [.string ((T 30)), .string ((T 31))]), (w14.heap.size, [.string ((T 28)), .string ((T 29))]), (w13.heap.size + 1, [.int .i64 (K 10), .int .i64 (K 11), .int .i64 (K 12), .int .i64 (K 13)]), (w13.heap.size, [.string (T 20), .string (T 21), .string (T 22), .string (T 23), .string (T 24), .string (T 25), .string (T 26), .string (T 27)]), (w12.heap.size + 1, [.int .i64 (K 6), .int .i64 (K 7), .int .i64 (K 8), .int .i64 (K 9)]), (w12.heap.size, [.string (T 12), .string (T 13), .string (T 14), .string (T 15), .string (T 16), .string (T 17), .string (T 18), .string (T 19)]), (w11.heap.size + 1, [.int .i64 0, .int .i64 (K 4), .int .i64 0, .int .i64 (K 5)]), (w11.heap.size, [.string (T 0), .string (T 1), .string (T 8), .string (T 9), .string (T 4), .string (T 5), .string (T 10), .string (T 11)]), (w10.heap.size + 1, [.int .i64 0, .int .i64 (K 1), .int .i64 0, .int .i64 (K 3)]), (w10.heap.size, [.string (T 0), .string (T 1), .string (T 2), .string (T 3), .string (T 4), .string (T 5), .string (T 6), .string (T 7)]), (w4.heap.size, [.string (str c.num), .string (str (c.den : Int))]), (w3.heap.size, [.string (str b.num), .string (str (b.den : Int))]), (w2.heap.size, [.string (str a.num), .string (str (a.den : Int))])] w wX)
    case first =>
      rcases eU2.out with gU2 | gU2
      · rcases eTT.out with gTT | gTT
        · rcases eLL.out with gLL | gLL
          · obtain ⟨y1, y2⟩ := cl2.out HgR2.out gU2 gTT gLL
            go_wp2
            go_meet
            exact ⟨rfl, H18.out⟩
          · go_wp2
            go_meet
            exact ⟨rfl, H18.out⟩
        · go_wp2
          go_meet
          exact ⟨rfl, H18.out⟩
      · go_wp2
        go_meet
        exact ⟨rfl, H18.out⟩
    case rest =>
      obtain ⟨rfl, hX⟩ := hcut
      have q58 := (hX.row (w2.heap.size, [.string (str a.num), .string (str (a.den : Int))]) (by simp)).row 0 _ rfl
      have q59 := (hX.row (w2.heap.size, [.string (str a.num), .string (str (a.den : Int))]) (by simp)).row 1 _ rfl
      have q60 := (hX.row (w4.heap.size, [.string (str c.num), .string (str (c.den : Int))]) (by simp)).row 0 _ rfl
      have q61 := (hX.row (w4.heap.size, [.string (str c.num), .string (str (c.den : Int))]) (by simp)).row 1 _ rfl
      have H19 := Lib.hid hX
      clear hX H15 H17 H18 M1 M2 cl2 eTT eLL eU0
      go_upto_region 24 with (first
        | (go_at_call 25; (with_reducible refine (M3.out _ H19.out.bw).mono ?_); rintro e w21 ⟨rfl, hb⟩; have hp := (H19.out.below hb).push [.string (T 34), .string (T 35)] 23; have q62 := (hp.row (w12.heap.size, [.string (T 12), .string (T 13), .string (T 14), .string (T 15), .string (T 16), .string (T 17), .string (T 18), .string (T 19)]) (by simp)).row 4 _ rfl; have q63 := (hp.row (w12.heap.size, [.string (T 12), .string (T 13), .string (T 14), .string (T 15), .string (T 16), .string (T 17), .string (T 18), .string (T 19)]) (by simp)).row 5 _ rfl; have H21 := Lib.hid hp; clear hb hp)
        | (go_at_call 27; (with_reducible refine (A2.out _ H21.out.bw).mono ?_); rintro e w22 ⟨rfl, hb⟩; have hp := (H21.out.below hb).push [.string (T 36), .string (T 37)] 23; have q64 := (hp.row (w10.heap.size, [.string (T 0), .string (T 1), .string (T 2), .string (T 3), .string (T 4), .string (T 5), .string (T 6), .string (T 7)]) (by simp)).row 0 _ rfl; have q65 := (hp.row (w10.heap.size, [.string (T 0), .string (T 1), .string (T 2), .string (T 3), .string (T 4), .string (T 5), .string (T 6), .string (T 7)]) (by simp)).row 1 _ rfl; have q66 := (hp.row (w4.heap.size, [.string (str c.num), .string (str (c.den : Int))]) (by simp)).row 0 _ rfl; have q67 := (hp.row (w4.heap.size, [.string (str c.num), .string (str (c.den : Int))]) (by simp)).row 1 _ rfl; have H22 := Lib.hid hp; clear hb hp)
        | (go_at_call 25; (with_reducible refine (M4.out _ H22.out.bw).mono ?_); rintro e w23 ⟨rfl, hb⟩; have hp := (H22.out.below hb).push [.string (T 38), .string (T 39)] 23; have q68 := (hp.row (w10.heap.size + 1, [.int .i64 0, .int .i64 (K 1), .int .i64 0, .int .i64 (K 3)]) (by simp)).row 0 _ rfl; have q69 := (hp.row (w12.heap.size + 1, [.int .i64 (K 6), .int .i64 (K 7), .int .i64 (K 8), .int .i64 (K 9)]) (by simp)).row 2 _ rfl; have q70 := (hp.row (w22.heap.size, [.string ((T 36)), .string ((T 37))]) (by simp)).row 0 _ rfl; have q71 := (hp.row (w22.heap.size, [.string ((T 36)), .string ((T 37))]) (by simp)).row 1 _ rfl; have H23 := Lib.hid hp; clear hb hp)
        | fail)
      go_cut [231] from 207 to 230 (fun v wX => v = .bool false ∧ AzAt [(w23.heap.size, [.string ((T 38)), .string ((T 39))]), (w22.heap.size, [.string ((T 36)), .string ((T 37))]), (w21.heap.size, [.string ((T 34)), .string ((T 35))]), (w18.heap.size, [.string ((T 32)), .string ((T 33))]), (w17.heap.size, [.string ((T 30)), .string ((T 31))]), (w14.heap.size, [.string ((T 28)), .string ((T 29))]), (w13.heap.size + 1, [.int .i64 (K 10), .int .i64 (K 11), .int .i64 (K 12), .int .i64 (K 13)]), (w13.heap.size, [.string (T 20), .string (T 21), .string (T 22), .string (T 23), .string (T 24), .string (T 25), .string (T 26), .string (T 27)]), (w12.heap.size + 1, [.int .i64 (K 6), .int .i64 (K 7), .int .i64 (K 8), .int .i64 (K 9)]), (w12.heap.size, [.string (T 12), .string (T 13), .string (T 14), .string (T 15), .string (T 16), .string (T 17), .string (T 18), .string (T 19)]), (w11.heap.size + 1, [.int .i64 0, .int .i64 (K 4), .int .i64 0, .int .i64 (K 5)]), (w11.heap.size, [.string (T 0), .string (T 1), .string (T 8), .string (T 9), .string (T 4), .string (T 5), .string (T 10), .string (T 11)]), (w10.heap.size + 1, [.int .i64 0, .int .i64 (K 1), .int .i64 0, .int .i64 (K 3)]), (w10.heap.size, [.string (T 0), .string (T 1), .string (T 2), .string (T 3), .string (T 4), .string (T 5), .string (T 6), .string (T 7)]), (w4.heap.size, [.string (str c.num), .string (str (c.den : Int))]), (w3.heap.size, [.string (str b.num), .string (str (b.den : Int))]), (w2.heap.size, [.string (str a.num), .string (str (a.den : Int))])] w wX)
      case first =>
        rcases eCC.out with gCC | gCC
        · rcases eU2.out with gU2 | gU2
          · rcases eMM.out with gMM | gMM
            · rcases eHH.out with gHH | gHH
              · obtain ⟨y1, y2⟩ := cl3.out HgR0.out gCC gU2 gMM gHH
                go_wp2
                go_meet
                exact ⟨rfl, H23.out⟩
              · go_wp2
                go_meet
                exact ⟨rfl, H23.out⟩
            · go_wp2
              go_meet
              exact ⟨rfl, H23.out⟩
          · go_wp2
            go_meet
            exact ⟨rfl, H23.out⟩
        · go_wp2
          go_meet
          exact ⟨rfl, H23.out⟩
      case rest =>
        obtain ⟨rfl, hX⟩ := hcut
        have q72 := (hX.row (w10.heap.size, [.string (T 0), .string (T 1), .string (T 2), .string (T 3), .string (T 4), .string (T 5), .string (T 6), .string (T 7)]) (by simp)).row 0 _ rfl
        have q73 := (hX.row (w10.heap.size, [.string (T 0), .string (T 1), .string (T 2), .string (T 3), .string (T 4), .string (T 5), .string (T 6), .string (T 7)]) (by simp)).row 1 _ rfl
        have q74 := (hX.row (w3.heap.size, [.string (str b.num), .string (str (b.den : Int))]) (by simp)).row 0 _ rfl
        have q75 := (hX.row (w3.heap.size, [.string (str b.num), .string (str (b.den : Int))]) (by simp)).row 1 _ rfl
        have H24 := Lib.hid hX
        clear hX H19 H21 H22 H23 M3 A2 M4 cl3 eCC eU2 eMM eHH
        go_upto_region 28 with (first
          | (go_at_call 44; (with_reducible refine (SB1.out _ H24.out.bw).mono ?_); rintro e w26 ⟨rfl, hb⟩; have hp := (H24.out.below hb).push [.string (T 40), .string (T 41)] 23; have q76 := (hp.row (w10.heap.size, [.string (T 0), .string (T 1), .string (T 2), .string (T 3), .string (T 4), .string (T 5), .string (T 6), .string (T 7)]) (by simp)).row 6 _ rfl; have q77 := (hp.row (w10.heap.size, [.string (T 0), .string (T 1), .string (T 2), .string (T 3), .string (T 4), .string (T 5), .string (T 6), .string (T 7)]) (by simp)).row 7 _ rfl; have q78 := (hp.row (w3.heap.size, [.string (str b.num), .string (str (b.den : Int))]) (by simp)).row 0 _ rfl; have q79 := (hp.row (w3.heap.size, [.string (str b.num), .string (str (b.den : Int))]) (by simp)).row 1 _ rfl; have H26 := Lib.hid hp; clear hb hp)
          | (go_at_call 25; (with_reducible refine (M5.out _ H26.out.bw).mono ?_); rintro e w27 ⟨rfl, hb⟩; have hp := (H26.out.below hb).push [.string (T 42), .string (T 43)] 23; have H27 := Lib.hid hp; clear hb hp)
          | fail)
        have hp := H27.out
        generalize w27.alloc (.cells #[.string (T 42), .string (T 43)] 23) = W27 at hp ⊢
        have q80 := (hp.row (w10.heap.size + 1, [.int .i64 0, .int .i64 (K 1), .int .i64 0, .int .i64 (K 3)]) (by simp)).row 0 _ rfl
        have q81 := (hp.row (w10.heap.size + 1, [.int .i64 0, .int .i64 (K 1), .int .i64 0, .int .i64 (K 3)]) (by simp)).row 3 _ rfl
        have q82 := (hp.row (w26.heap.size, [.string ((T 40)), .string ((T 41))]) (by simp)).row 0 _ rfl
        have q83 := (hp.row (w26.heap.size, [.string ((T 40)), .string ((T 41))]) (by simp)).row 1 _ rfl
        have q84 := (hp.row (w2.heap.size, [.string (str a.num), .string (str (a.den : Int))]) (by simp)).row 0 _ rfl
        have q85 := (hp.row (w2.heap.size, [.string (str a.num), .string (str (a.den : Int))]) (by simp)).row 1 _ rfl
        have q86 := (hp.row (w27.heap.size, [.string ((T 42)), .string ((T 43))]) (by simp)).row 0 _ rfl
        have q87 := (hp.row (w27.heap.size, [.string ((T 42)), .string ((T 43))]) (by simp)).row 1 _ rfl
        have H28 := Lib.hid hp.bw
        clear hp H27 H26 H24
        rcases eKK.out with gKK | gKK
        · obtain ⟨y1, y2⟩ := cl4.out HgR0.out gKK
          rcases eR3.out with gR3 | gR3
          · rcases eGG.out with gGG | gGG
            · obtain ⟨y3, y4⟩ := cl5.out gR3 gGG
              go_wp2
              go_ret
              exact ⟨rfl, H28.out⟩
            · go_wp2
              go_ret
              exact ⟨rfl, H28.out⟩
          · go_wp2
            go_ret
            exact ⟨rfl, H28.out⟩
        · rcases eR3.out with gR3 | gR3
          · rcases eGG.out with gGG | gGG
            · obtain ⟨y3, y4⟩ := cl5.out gR3 gGG
              go_wp2
              go_ret
              exact ⟨rfl, H28.out⟩
            · go_wp2
              go_ret
              exact ⟨rfl, H28.out⟩
          · go_wp2
            go_ret
            exact ⟨rfl, H28.out⟩

set_option maxRecDepth 100000 in
set_option maxHeartbeats 16000000 in
theorem Field_long (x0 x1 x2 x3 y0 y1 y2 y3 z0 z1 : Int) (hx0 : -9223372036854775808 ≤ x0 ∧ x0 ≤ 9223372036854775807) (hx1 : -9223372036854775808 ≤ x1 ∧ x1 ≤ 9223372036854775807) (hx2 : -9223372036854775808 ≤ x2 ∧ x2 ≤ 9223372036854775807) (hx3 : -9223372036854775808 ≤ x3 ∧ x3 ≤ 9223372036854775807) (hy0 : -9223372036854775808 ≤ y0 ∧ y0 ≤ 9223372036854775807) (hy1 : -9223372036854775808 ≤ y1 ∧ y1 ≤ 9223372036854775807) (hy2 : -9223372036854775808 ≤ y2 ∧ y2 ≤ 9223372036854775807) (hy3 : -9223372036854775808 ≤ y3 ∧ y3 ≤ 9223372036854775807) (hz0 : -9223372036854775808 ≤ z0 ∧ z0 ≤ 9223372036854775807) (hz1 : -9223372036854775808 ≤ z1 ∧ z1 ≤ 9223372036854775807) (w : World) (hq : QOps w) :
    Calls Tryz.prog 8 #[.agg #[.int .i64 x0, .int .i64 x1, .int .i64 x2, .int .i64 x3], .agg #[.int .i64 y0, .int .i64 y1, .int .i64 y2, .int .i64 y3], .agg #[.int .i64 z0, .int .i64 z1], .bool true] w fun e W' => e = .returned (.bool true) ∧ Below w.heap.size w W' := by
  have KS := Lib.hid (fun (W : World) (h : Below w.heap.size w W) => sane_q (hq.below h))
  have KX := Lib.hid (fun (W : World) => Small_f x0 x1 hx0.1 hx0.2 hx1.1 hx1.2 W)
  have KY := Lib.hid (fun (W : World) => Small_f y0 y1 hy0.1 hy0.2 hy1.1 hy1.2 W)
  have KZ := Lib.hid (fun (W : World) => Small_f z0 z1 hz0.1 hz0.2 hz1.1 hz1.2 W)
  have FF := Lib.hid (fun (a b c : Rat) fa fb fc => fld_facts hq a b c fa fb fc)
  have H0 := Lib.hid (show AzAt [(w.heap.size + 1 + 1, [.int .i64 z0, .int .i64 z1]), (w.heap.size + 1, [.int .i64 y0, .int .i64 y1, .int .i64 y2, .int .i64 y3]), (w.heap.size, [.int .i64 x0, .int .i64 x1, .int .i64 x2, .int .i64 x3])] w _ from by have hp := (((AzAt.start w).push [.int .i64 x0, .int .i64 x1, .int .i64 x2, .int .i64 x3] 24).push [.int .i64 y0, .int .i64 y1, .int .i64 y2, .int .i64 y3] 24).push [.int .i64 z0, .int .i64 z1] 47; simp only [World.size_alloc] at hp; exact hp)
  have LX := Lib.hid (fun (W : World) => Long_f x0 x1 x2 x3 hx0.1 hx0.2 hx1.1 hx1.2 hx2.1 hx2.2 hx3.1 hx3.2 W)
  have LY := Lib.hid (fun (W : World) => Long_f y0 y1 y2 y3 hy0.1 hy0.2 hy1.1 hy1.2 hy2.1 hy2.2 hy3.1 hy3.2 W)
  clear hq hx0 hx1 hx2 hx3 hy0 hy1 hy2 hy3 hz0 hz1
  go_enter Tryz.func8, Tryz.ntmps8
  go_upto_region 8 with (first
    | (go_at_call 11; (with_reducible refine (KS.out _ H0.out.bw).mono ?_); rintro e w1 ⟨rfl, hb⟩; have hp := H0.out.below hb; have q88 := (hp.row (w.heap.size, [.int .i64 x0, .int .i64 x1, .int .i64 x2, .int .i64 x3]) (by simp)).row 0 _ rfl; have q89 := (hp.row (w.heap.size, [.int .i64 x0, .int .i64 x1, .int .i64 x2, .int .i64 x3]) (by simp)).row 1 _ rfl; have H1 := Lib.hid hp; clear hb hp)
    | (go_at_call 28; (with_reducible refine (KX.out _).mono ?_); rintro e w2 ⟨⟨a0, hr, rfl⟩, hb⟩; have hq := H1.out.below hb; have s2 := (hq.row (w.heap.size + 1 + 1, [.int .i64 z0, .int .i64 z1]) (by simp)).sz; have hp := hq.push [.string (str a0.num), .string (str (a0.den : Int))] 23; have q90 := (hp.row (w.heap.size + 1, [.int .i64 y0, .int .i64 y1, .int .i64 y2, .int .i64 y3]) (by simp)).row 0 _ rfl; have q91 := (hp.row (w.heap.size + 1, [.int .i64 y0, .int .i64 y1, .int .i64 y2, .int .i64 y3]) (by simp)).row 1 _ rfl; have H2 := Lib.hid hp; have Ra0 := Lib.hid hr; clear hb hr hp hq)
    | (go_at_call 28; (with_reducible refine (KY.out _).mono ?_); rintro e w3 ⟨⟨b0, hr, rfl⟩, hb⟩; have hq := H2.out.below hb; have s3 := (hq.row (w2.heap.size, [.string (str a0.num), .string (str (a0.den : Int))]) (by simp)).sz; have hp := hq.push [.string (str b0.num), .string (str (b0.den : Int))] 23; have q92 := (hp.row (w.heap.size + 1 + 1, [.int .i64 z0, .int .i64 z1]) (by simp)).row 0 _ rfl; have q93 := (hp.row (w.heap.size + 1 + 1, [.int .i64 z0, .int .i64 z1]) (by simp)).row 1 _ rfl; have H3 := Lib.hid hp; have Rb0 := Lib.hid hr; clear hb hr hp hq)
    | (go_at_call 28; (with_reducible refine (KZ.out _).mono ?_); rintro e w4 ⟨⟨c, hr, rfl⟩, hb⟩; have hq := H3.out.below hb; have s4 := (hq.row (w3.heap.size, [.string (str b0.num), .string (str (b0.den : Int))]) (by simp)).sz; have hp := hq.push [.string (str c.num), .string (str (c.den : Int))] 23; have q94 := (hp.row (w.heap.size, [.int .i64 x0, .int .i64 x1, .int .i64 x2, .int .i64 x3]) (by simp)).row 0 _ rfl; have q95 := (hp.row (w.heap.size, [.int .i64 x0, .int .i64 x1, .int .i64 x2, .int .i64 x3]) (by simp)).row 1 _ rfl; have q96 := (hp.row (w.heap.size, [.int .i64 x0, .int .i64 x1, .int .i64 x2, .int .i64 x3]) (by simp)).row 2 _ rfl; have q97 := (hp.row (w.heap.size, [.int .i64 x0, .int .i64 x1, .int .i64 x2, .int .i64 x3]) (by simp)).row 3 _ rfl; have H4 := Lib.hid hp; have Rc := Lib.hid hr; clear hb hr hp hq)
    | (go_at_call 12; (with_reducible refine (LX.out _).mono ?_); rintro e w5 ⟨⟨a, hr, rfl⟩, hb⟩; have hp := (H4.out.below hb).third; have q102 := (hp.row (w2.heap.size, [.string (str a0.num), .string (str (a0.den : Int))]) (by simp)).row 0 _ rfl; have z102 := (hp.row (w2.heap.size, [.string (str a0.num), .string (str (a0.den : Int))]) (by simp)).fz 0 (by simp); have q103 := (hp.row (w2.heap.size, [.string (str a0.num), .string (str (a0.den : Int))]) (by simp)).row 1 _ rfl; have z103 := (hp.row (w2.heap.size, [.string (str a0.num), .string (str (a0.den : Int))]) (by simp)).fz 1 (by simp); have hn := hp.set2 (by have := H4.out.bw.size; omega) (by simp <;> omega) (.string (str a.num)) (.string (str (a.den : Int))); have q98 := (hn.row (w.heap.size + 1, [.int .i64 y0, .int .i64 y1, .int .i64 y2, .int .i64 y3]) (by simp)).row 0 _ rfl; have q99 := (hn.row (w.heap.size + 1, [.int .i64 y0, .int .i64 y1, .int .i64 y2, .int .i64 y3]) (by simp)).row 1 _ rfl; have q100 := (hn.row (w.heap.size + 1, [.int .i64 y0, .int .i64 y1, .int .i64 y2, .int .i64 y3]) (by simp)).row 2 _ rfl; have q101 := (hn.row (w.heap.size + 1, [.int .i64 y0, .int .i64 y1, .int .i64 y2, .int .i64 y3]) (by simp)).row 3 _ rfl; have H5 := Lib.hid hn; have Ra := Lib.hid hr; clear hb hr hp hn)
    | (go_at_call 12; (with_reducible refine (LY.out _).mono ?_); rintro e w6 ⟨⟨b, hr, rfl⟩, hb⟩; have hp := (H5.out.below hb).third; have q104 := (hp.row (w3.heap.size, [.string (str b0.num), .string (str (b0.den : Int))]) (by simp)).row 0 _ rfl; have z104 := (hp.row (w3.heap.size, [.string (str b0.num), .string (str (b0.den : Int))]) (by simp)).fz 0 (by simp); have q105 := (hp.row (w3.heap.size, [.string (str b0.num), .string (str (b0.den : Int))]) (by simp)).row 1 _ rfl; have z105 := (hp.row (w3.heap.size, [.string (str b0.num), .string (str (b0.den : Int))]) (by simp)).fz 1 (by simp); have hn := hp.set2 (by have := H5.out.bw.size; omega) (by simp <;> omega) (.string (str b.num)) (.string (str (b.den : Int))); have H6 := Lib.hid hn; have Rb := Lib.hid hr; clear hb hr hp hn)
    | fail)
  have hp := H6.out
  generalize (w6.setCell ⟨w3.heap.size, 0, none⟩ (.string (str b.num))).setCell ⟨w3.heap.size, 1, none⟩ (.string (str (b.den : Int))) = W6 at hp ⊢
  have q106 := (hp.row (w2.heap.size, [.string (str a.num), .string (str (a.den : Int))]) (by simp)).row 0 _ rfl
  have q107 := (hp.row (w2.heap.size, [.string (str a.num), .string (str (a.den : Int))]) (by simp)).row 1 _ rfl
  have q108 := (hp.row (w3.heap.size, [.string (str b.num), .string (str (b.den : Int))]) (by simp)).row 0 _ rfl
  have q109 := (hp.row (w3.heap.size, [.string (str b.num), .string (str (b.den : Int))]) (by simp)).row 1 _ rfl
  have H4 := Lib.hid (hp.sub (L' := [(w3.heap.size, [.string (str b.num), .string (str (b.den : Int))]), (w2.heap.size, [.string (str a.num), .string (str (a.den : Int))]), (w4.heap.size, [.string (str c.num), .string (str (c.den : Int))])]) (by simp))
  clear hp
  obtain ⟨T, K, P⟩ := FF.out a b c Ra.out.fits Rb.out.fits Rc.out.fits
  have F1 := P.F1
  have F2 := P.F2
  have F3 := P.F3
  have F4 := P.F4
  have A1 := P.A1
  have M1 := P.M1
  have M2 := P.M2
  have M3 := P.M3
  have A2 := P.A2
  have M4 := P.M4
  have SB1 := P.SB1
  have M5 := P.M5
  have eR0 := Lib.hid P.eR0
  have eR2 := Lib.hid P.eR2
  have eR3 := Lib.hid P.eR3
  have eU0 := Lib.hid P.eU0
  have eU2 := Lib.hid P.eU2
  have eV0 := Lib.hid P.eV0
  have eO := Lib.hid P.eO
  have eTT := Lib.hid P.eTT
  have eLL := Lib.hid P.eLL
  have eCC := Lib.hid P.eCC
  have eMM := Lib.hid P.eMM
  have eHH := Lib.hid P.eHH
  have eKK := Lib.hid P.eKK
  have eGG := Lib.hid P.eGG
  have cl1 := Lib.hid P.cl1
  have cl2 := Lib.hid P.cl2
  have cl3 := Lib.hid P.cl3
  have cl4 := Lib.hid P.cl4
  have cl5 := Lib.hid P.cl5
  have cl6 := Lib.hid P.cl6
  clear P
  clear KS KX KY KZ LX LY FF H0 H1 H2 H3 H5 H6 Ra Rb Rc Ra0 Rb0 cl6
  go_upto_region 15 with (first
    | (go_at_call 29; (with_reducible refine (F1.out _ H4.out.bw).mono ?_); rintro e w10 ⟨rfl, hb⟩; have hp := (H4.out.below hb).push12 (T 0) (T 1) (T 2) (T 3) (T 4) (T 5) (T 6) (T 7) (K 0) (K 1) (K 2) (K 3) 49 50; have q110 := (hp.row (w2.heap.size, [.string (str a.num), .string (str (a.den : Int))]) (by simp)).row 0 _ rfl; have q111 := (hp.row (w2.heap.size, [.string (str a.num), .string (str (a.den : Int))]) (by simp)).row 1 _ rfl; have q112 := (hp.row (w3.heap.size, [.string (str b.num), .string (str (b.den : Int))]) (by simp)).row 0 _ rfl; have q113 := (hp.row (w3.heap.size, [.string (str b.num), .string (str (b.den : Int))]) (by simp)).row 1 _ rfl; have H10 := Lib.hid hp; clear hb hp)
    | (go_at_call 29; (with_reducible refine (F2.out _ H10.out.bw).mono ?_); rintro e w11 ⟨rfl, hb⟩; have hp := (H10.out.below hb).push12 (T 0) (T 1) (T 8) (T 9) (T 4) (T 5) (T 10) (T 11) (K 0) (K 4) (K 2) (K 5) 49 50; have q114 := (hp.row (w3.heap.size, [.string (str b.num), .string (str (b.den : Int))]) (by simp)).row 0 _ rfl; have q115 := (hp.row (w3.heap.size, [.string (str b.num), .string (str (b.den : Int))]) (by simp)).row 1 _ rfl; have q116 := (hp.row (w4.heap.size, [.string (str c.num), .string (str (c.den : Int))]) (by simp)).row 0 _ rfl; have q117 := (hp.row (w4.heap.size, [.string (str c.num), .string (str (c.den : Int))]) (by simp)).row 1 _ rfl; have q118 := (hp.row (w10.heap.size, [.string (T 0), .string (T 1), .string (T 2), .string (T 3), .string (T 4), .string (T 5), .string (T 6), .string (T 7)]) (by simp)).row 0 _ rfl; have q119 := (hp.row (w10.heap.size, [.string (T 0), .string (T 1), .string (T 2), .string (T 3), .string (T 4), .string (T 5), .string (T 6), .string (T 7)]) (by simp)).row 1 _ rfl; have q120 := (hp.row (w10.heap.size, [.string (T 0), .string (T 1), .string (T 2), .string (T 3), .string (T 4), .string (T 5), .string (T 6), .string (T 7)]) (by simp)).row 4 _ rfl; have q121 := (hp.row (w10.heap.size, [.string (T 0), .string (T 1), .string (T 2), .string (T 3), .string (T 4), .string (T 5), .string (T 6), .string (T 7)]) (by simp)).row 5 _ rfl; have q122 := (hp.row (w10.heap.size + 1, [.int .i64 (K 0), .int .i64 (K 1), .int .i64 (K 2), .int .i64 (K 3)]) (by simp)).row 0 _ rfl; have q123 := (hp.row (w10.heap.size + 1, [.int .i64 (K 0), .int .i64 (K 1), .int .i64 (K 2), .int .i64 (K 3)]) (by simp)).row 2 _ rfl; have q124 := (hp.row (w11.heap.size, [.string (T 0), .string (T 1), .string (T 8), .string (T 9), .string (T 4), .string (T 5), .string (T 10), .string (T 11)]) (by simp)).row 0 _ rfl; have q125 := (hp.row (w11.heap.size, [.string (T 0), .string (T 1), .string (T 8), .string (T 9), .string (T 4), .string (T 5), .string (T 10), .string (T 11)]) (by simp)).row 1 _ rfl; have q126 := (hp.row (w11.heap.size, [.string (T 0), .string (T 1), .string (T 8), .string (T 9), .string (T 4), .string (T 5), .string (T 10), .string (T 11)]) (by simp)).row 4 _ rfl; have q127 := (hp.row (w11.heap.size, [.string (T 0), .string (T 1), .string (T 8), .string (T 9), .string (T 4), .string (T 5), .string (T 10), .string (T 11)]) (by simp)).row 5 _ rfl; have q128 := (hp.row (w11.heap.size + 1, [.int .i64 (K 0), .int .i64 (K 4), .int .i64 (K 2), .int .i64 (K 5)]) (by simp)).row 0 _ rfl; have q129 := (hp.row (w11.heap.size + 1, [.int .i64 (K 0), .int .i64 (K 4), .int .i64 (K 2), .int .i64 (K 5)]) (by simp)).row 2 _ rfl; have H11 := Lib.hid hp; clear hb hp)
    | (go_at_call 29; (with_reducible refine (F3.out _ H11.out.bw).mono ?_); rintro e w12 ⟨rfl, hb⟩; have hp := (H11.out.below hb).push12 (T 12) (T 13) (T 14) (T 15) (T 16) (T 17) (T 18) (T 19) (K 6) (K 7) (K 8) (K 9) 49 50; have q130 := (hp.row (w10.heap.size, [.string (T 0), .string (T 1), .string (T 2), .string (T 3), .string (T 4), .string (T 5), .string (T 6), .string (T 7)]) (by simp)).row 0 _ rfl; have q131 := (hp.row (w10.heap.size, [.string (T 0), .string (T 1), .string (T 2), .string (T 3), .string (T 4), .string (T 5), .string (T 6), .string (T 7)]) (by simp)).row 1 _ rfl; have q132 := (hp.row (w4.heap.size, [.string (str c.num), .string (str (c.den : Int))]) (by simp)).row 0 _ rfl; have q133 := (hp.row (w4.heap.size, [.string (str c.num), .string (str (c.den : Int))]) (by simp)).row 1 _ rfl; have H12 := Lib.hid hp; clear hb hp)
    | (go_at_call 29; (with_reducible refine (F4.out _ H12.out.bw).mono ?_); rintro e w13 ⟨rfl, hb⟩; have hp := (H12.out.below hb).push12 (T 20) (T 21) (T 22) (T 23) (T 24) (T 25) (T 26) (T 27) (K 10) (K 11) (K 12) (K 13) 49 50; have q134 := (hp.row (w2.heap.size, [.string (str a.num), .string (str (a.den : Int))]) (by simp)).row 0 _ rfl; have q135 := (hp.row (w2.heap.size, [.string (str a.num), .string (str (a.den : Int))]) (by simp)).row 1 _ rfl; have q136 := (hp.row (w12.heap.size, [.string (T 12), .string (T 13), .string (T 14), .string (T 15), .string (T 16), .string (T 17), .string (T 18), .string (T 19)]) (by simp)).row 0 _ rfl; have q137 := (hp.row (w12.heap.size, [.string (T 12), .string (T 13), .string (T 14), .string (T 15), .string (T 16), .string (T 17), .string (T 18), .string (T 19)]) (by simp)).row 1 _ rfl; have H13 := Lib.hid hp; clear hb hp)
    | (go_at_call 27; (with_reducible refine (A1.out _ H13.out.bw).mono ?_); rintro e w14 ⟨rfl, hb⟩; have hp := (H13.out.below hb).push [.string (T 28), .string (T 29)] 23; have q138 := (hp.row (w10.heap.size + 1, [.int .i64 (K 0), .int .i64 (K 1), .int .i64 (K 2), .int .i64 (K 3)]) (by simp)).row 0 _ rfl; have q139 := (hp.row (w12.heap.size + 1, [.int .i64 (K 6), .int .i64 (K 7), .int .i64 (K 8), .int .i64 (K 9)]) (by simp)).row 0 _ rfl; have q140 := (hp.row (w13.heap.size + 1, [.int .i64 (K 10), .int .i64 (K 11), .int .i64 (K 12), .int .i64 (K 13)]) (by simp)).row 0 _ rfl; have q141 := (hp.row (w13.heap.size, [.string (T 20), .string (T 21), .string (T 22), .string (T 23), .string (T 24), .string (T 25), .string (T 26), .string (T 27)]) (by simp)).row 0 _ rfl; have q142 := (hp.row (w13.heap.size, [.string (T 20), .string (T 21), .string (T 22), .string (T 23), .string (T 24), .string (T 25), .string (T 26), .string (T 27)]) (by simp)).row 1 _ rfl; have q143 := (hp.row (w14.heap.size, [.string ((T 28)), .string ((T 29))]) (by simp)).row 0 _ rfl; have q144 := (hp.row (w14.heap.size, [.string ((T 28)), .string ((T 29))]) (by simp)).row 1 _ rfl; have H14 := Lib.hid hp; clear hb hp)
    | fail)
  go_cut [151] from 129 to 150 (fun v wX => v = .bool false ∧ AzAt [(w14.heap.size, [.string ((T 28)), .string ((T 29))]), (w13.heap.size + 1, [.int .i64 (K 10), .int .i64 (K 11), .int .i64 (K 12), .int .i64 (K 13)]), (w13.heap.size, [.string (T 20), .string (T 21), .string (T 22), .string (T 23), .string (T 24), .string (T 25), .string (T 26), .string (T 27)]), (w12.heap.size + 1, [.int .i64 (K 6), .int .i64 (K 7), .int .i64 (K 8), .int .i64 (K 9)]), (w12.heap.size, [.string (T 12), .string (T 13), .string (T 14), .string (T 15), .string (T 16), .string (T 17), .string (T 18), .string (T 19)]), (w11.heap.size + 1, [.int .i64 (K 0), .int .i64 (K 4), .int .i64 (K 2), .int .i64 (K 5)]), (w11.heap.size, [.string (T 0), .string (T 1), .string (T 8), .string (T 9), .string (T 4), .string (T 5), .string (T 10), .string (T 11)]), (w10.heap.size + 1, [.int .i64 (K 0), .int .i64 (K 1), .int .i64 (K 2), .int .i64 (K 3)]), (w10.heap.size, [.string (T 0), .string (T 1), .string (T 2), .string (T 3), .string (T 4), .string (T 5), .string (T 6), .string (T 7)]), (w3.heap.size, [.string (str b.num), .string (str (b.den : Int))]), (w2.heap.size, [.string (str a.num), .string (str (a.den : Int))]), (w4.heap.size, [.string (str c.num), .string (str (c.den : Int))])] w wX)
  case first =>
    rcases eR0.out with gR0 | gR0
    · rcases eU0.out with gU0 | gU0
      · rcases eV0.out with gV0 | gV0
        · rcases eO.out with gO | gO
          · obtain ⟨y1, y2⟩ := cl1.out gR0 gU0 gV0 gO
            go_wp2
            go_meet
            exact ⟨rfl, H14.out⟩
          · go_wp2
            go_meet
            exact ⟨rfl, H14.out⟩
        · go_wp2
          go_meet
          exact ⟨rfl, H14.out⟩
      · go_wp2
        go_meet
        exact ⟨rfl, H14.out⟩
    · go_wp2
      go_meet
      exact ⟨rfl, H14.out⟩
  case rest =>
    obtain ⟨rfl, hX⟩ := hcut
    have q145 := (hX.row (w2.heap.size, [.string (str a.num), .string (str (a.den : Int))]) (by simp)).row 0 _ rfl
    have q146 := (hX.row (w2.heap.size, [.string (str a.num), .string (str (a.den : Int))]) (by simp)).row 1 _ rfl
    have q147 := (hX.row (w12.heap.size, [.string (T 12), .string (T 13), .string (T 14), .string (T 15), .string (T 16), .string (T 17), .string (T 18), .string (T 19)]) (by simp)).row 4 _ rfl
    have q148 := (hX.row (w12.heap.size, [.string (T 12), .string (T 13), .string (T 14), .string (T 15), .string (T 16), .string (T 17), .string (T 18), .string (T 19)]) (by simp)).row 5 _ rfl
    have H15 := Lib.hid hX
    clear hX H4 H10 H11 H12 H13 H14 F1 F2 F3 F4 A1 cl1 eV0 eO
    go_upto_region 19 with (first
      | (go_at_call 25; (with_reducible refine (M1.out _ H15.out.bw).mono ?_); rintro e w17 ⟨rfl, hb⟩; have hp := (H15.out.below hb).push [.string (T 30), .string (T 31)] 23; have q149 := (hp.row (w10.heap.size, [.string (T 0), .string (T 1), .string (T 2), .string (T 3), .string (T 4), .string (T 5), .string (T 6), .string (T 7)]) (by simp)).row 4 _ rfl; have q150 := (hp.row (w10.heap.size, [.string (T 0), .string (T 1), .string (T 2), .string (T 3), .string (T 4), .string (T 5), .string (T 6), .string (T 7)]) (by simp)).row 5 _ rfl; have q151 := (hp.row (w4.heap.size, [.string (str c.num), .string (str (c.den : Int))]) (by simp)).row 0 _ rfl; have q152 := (hp.row (w4.heap.size, [.string (str c.num), .string (str (c.den : Int))]) (by simp)).row 1 _ rfl; have H17 := Lib.hid hp; clear hb hp)
      | (go_at_call 25; (with_reducible refine (M2.out _ H17.out.bw).mono ?_); rintro e w18 ⟨rfl, hb⟩; have hp := (H17.out.below hb).push [.string (T 32), .string (T 33)] 23; have q153 := (hp.row (w10.heap.size + 1, [.int .i64 (K 0), .int .i64 (K 1), .int .i64 (K 2), .int .i64 (K 3)]) (by simp)).row 2 _ rfl; have q154 := (hp.row (w12.heap.size + 1, [.int .i64 (K 6), .int .i64 (K 7), .int .i64 (K 8), .int .i64 (K 9)]) (by simp)).row 2 _ rfl; have q155 := (hp.row (w17.heap.size, [.string ((T 30)), .string ((T 31))]) (by simp)).row 0 _ rfl; have q156 := (hp.row (w17.heap.size, [.string ((T 30)), .string ((T 31))]) (by simp)).row 1 _ rfl; have H18 := Lib.hid hp; clear hb hp)
      | fail)
    go_cut [186] from 166 to 185 (fun v wX => v = .bool false ∧ AzAt [(w18.heap.size, [.string ((T 32)), .string ((T 33))]), (w17.heap.size, [.string ((T 30)), .string ((T 31))]), (w14.heap.size, [.string ((T 28)), .string ((T 29))]), (w13.heap.size + 1, [.int .i64 (K 10), .int .i64 (K 11), .int .i64 (K 12), .int .i64 (K 13)]), (w13.heap.size, [.string (T 20), .string (T 21), .string (T 22), .string (T 23), .string (T 24), .string (T 25), .string (T 26), .string (T 27)]), (w12.heap.size + 1, [.int .i64 (K 6), .int .i64 (K 7), .int .i64 (K 8), .int .i64 (K 9)]), (w12.heap.size, [.string (T 12), .string (T 13), .string (T 14), .string (T 15), .string (T 16), .string (T 17), .string (T 18), .string (T 19)]), (w11.heap.size + 1, [.int .i64 (K 0), .int .i64 (K 4), .int .i64 (K 2), .int .i64 (K 5)]), (w11.heap.size, [.string (T 0), .string (T 1), .string (T 8), .string (T 9), .string (T 4), .string (T 5), .string (T 10), .string (T 11)]), (w10.heap.size + 1, [.int .i64 (K 0), .int .i64 (K 1), .int .i64 (K 2), .int .i64 (K 3)]), (w10.heap.size, [.string (T 0), .string (T 1), .string (T 2), .string (T 3), .string (T 4), .string (T 5), .string (T 6), .string (T 7)]), (w3.heap.size, [.string (str b.num), .string (str (b.den : Int))]), (w2.heap.size, [.string (str a.num), .string (str (a.den : Int))]), (w4.heap.size, [.string (str c.num), .string (str (c.den : Int))])] w wX)
    case first =>
      rcases eR2.out with gR2 | gR2
      · rcases eU2.out with gU2 | gU2
        · rcases eTT.out with gTT | gTT
          · rcases eLL.out with gLL | gLL
            · obtain ⟨y1, y2⟩ := cl2.out gR2 gU2 gTT gLL
              go_wp2
              go_meet
              exact ⟨rfl, H18.out⟩
            · go_wp2
              go_meet
              exact ⟨rfl, H18.out⟩
          · go_wp2
            go_meet
            exact ⟨rfl, H18.out⟩
        · go_wp2
          go_meet
          exact ⟨rfl, H18.out⟩
      · go_wp2
        go_meet
        exact ⟨rfl, H18.out⟩
    case rest =>
      obtain ⟨rfl, hX⟩ := hcut
      have q157 := (hX.row (w2.heap.size, [.string (str a.num), .string (str (a.den : Int))]) (by simp)).row 0 _ rfl
      have q158 := (hX.row (w2.heap.size, [.string (str a.num), .string (str (a.den : Int))]) (by simp)).row 1 _ rfl
      have q159 := (hX.row (w4.heap.size, [.string (str c.num), .string (str (c.den : Int))]) (by simp)).row 0 _ rfl
      have q160 := (hX.row (w4.heap.size, [.string (str c.num), .string (str (c.den : Int))]) (by simp)).row 1 _ rfl
      have H19 := Lib.hid hX
      clear hX H15 H17 H18 M1 M2 cl2 eTT eLL eU0
      go_upto_region 24 with (first
        | (go_at_call 25; (with_reducible refine (M3.out _ H19.out.bw).mono ?_); rintro e w21 ⟨rfl, hb⟩; have hp := (H19.out.below hb).push [.string (T 34), .string (T 35)] 23; have q161 := (hp.row (w12.heap.size, [.string (T 12), .string (T 13), .string (T 14), .string (T 15), .string (T 16), .string (T 17), .string (T 18), .string (T 19)]) (by simp)).row 4 _ rfl; have q162 := (hp.row (w12.heap.size, [.string (T 12), .string (T 13), .string (T 14), .string (T 15), .string (T 16), .string (T 17), .string (T 18), .string (T 19)]) (by simp)).row 5 _ rfl; have H21 := Lib.hid hp; clear hb hp)
        | (go_at_call 27; (with_reducible refine (A2.out _ H21.out.bw).mono ?_); rintro e w22 ⟨rfl, hb⟩; have hp := (H21.out.below hb).push [.string (T 36), .string (T 37)] 23; have q163 := (hp.row (w10.heap.size, [.string (T 0), .string (T 1), .string (T 2), .string (T 3), .string (T 4), .string (T 5), .string (T 6), .string (T 7)]) (by simp)).row 0 _ rfl; have q164 := (hp.row (w10.heap.size, [.string (T 0), .string (T 1), .string (T 2), .string (T 3), .string (T 4), .string (T 5), .string (T 6), .string (T 7)]) (by simp)).row 1 _ rfl; have q165 := (hp.row (w4.heap.size, [.string (str c.num), .string (str (c.den : Int))]) (by simp)).row 0 _ rfl; have q166 := (hp.row (w4.heap.size, [.string (str c.num), .string (str (c.den : Int))]) (by simp)).row 1 _ rfl; have H22 := Lib.hid hp; clear hb hp)
        | (go_at_call 25; (with_reducible refine (M4.out _ H22.out.bw).mono ?_); rintro e w23 ⟨rfl, hb⟩; have hp := (H22.out.below hb).push [.string (T 38), .string (T 39)] 23; have q167 := (hp.row (w10.heap.size + 1, [.int .i64 (K 0), .int .i64 (K 1), .int .i64 (K 2), .int .i64 (K 3)]) (by simp)).row 0 _ rfl; have q168 := (hp.row (w12.heap.size + 1, [.int .i64 (K 6), .int .i64 (K 7), .int .i64 (K 8), .int .i64 (K 9)]) (by simp)).row 2 _ rfl; have q169 := (hp.row (w22.heap.size, [.string ((T 36)), .string ((T 37))]) (by simp)).row 0 _ rfl; have q170 := (hp.row (w22.heap.size, [.string ((T 36)), .string ((T 37))]) (by simp)).row 1 _ rfl; have H23 := Lib.hid hp; clear hb hp)
        | fail)
      go_cut [231] from 207 to 230 (fun v wX => v = .bool false ∧ AzAt [(w23.heap.size, [.string ((T 38)), .string ((T 39))]), (w22.heap.size, [.string ((T 36)), .string ((T 37))]), (w21.heap.size, [.string ((T 34)), .string ((T 35))]), (w18.heap.size, [.string ((T 32)), .string ((T 33))]), (w17.heap.size, [.string ((T 30)), .string ((T 31))]), (w14.heap.size, [.string ((T 28)), .string ((T 29))]), (w13.heap.size + 1, [.int .i64 (K 10), .int .i64 (K 11), .int .i64 (K 12), .int .i64 (K 13)]), (w13.heap.size, [.string (T 20), .string (T 21), .string (T 22), .string (T 23), .string (T 24), .string (T 25), .string (T 26), .string (T 27)]), (w12.heap.size + 1, [.int .i64 (K 6), .int .i64 (K 7), .int .i64 (K 8), .int .i64 (K 9)]), (w12.heap.size, [.string (T 12), .string (T 13), .string (T 14), .string (T 15), .string (T 16), .string (T 17), .string (T 18), .string (T 19)]), (w11.heap.size + 1, [.int .i64 (K 0), .int .i64 (K 4), .int .i64 (K 2), .int .i64 (K 5)]), (w11.heap.size, [.string (T 0), .string (T 1), .string (T 8), .string (T 9), .string (T 4), .string (T 5), .string (T 10), .string (T 11)]), (w10.heap.size + 1, [.int .i64 (K 0), .int .i64 (K 1), .int .i64 (K 2), .int .i64 (K 3)]), (w10.heap.size, [.string (T 0), .string (T 1), .string (T 2), .string (T 3), .string (T 4), .string (T 5), .string (T 6), .string (T 7)]), (w3.heap.size, [.string (str b.num), .string (str (b.den : Int))]), (w2.heap.size, [.string (str a.num), .string (str (a.den : Int))]), (w4.heap.size, [.string (str c.num), .string (str (c.den : Int))])] w wX)
      case first =>
        rcases eR0.out with gR0 | gR0
        · rcases eCC.out with gCC | gCC
          · rcases eU2.out with gU2 | gU2
            · rcases eMM.out with gMM | gMM
              · rcases eHH.out with gHH | gHH
                · obtain ⟨y1, y2⟩ := cl3.out gR0 gCC gU2 gMM gHH
                  go_wp2
                  go_meet
                  exact ⟨rfl, H23.out⟩
                · go_wp2
                  go_meet
                  exact ⟨rfl, H23.out⟩
              · go_wp2
                go_meet
                exact ⟨rfl, H23.out⟩
            · go_wp2
              go_meet
              exact ⟨rfl, H23.out⟩
          · go_wp2
            go_meet
            exact ⟨rfl, H23.out⟩
        · go_wp2
          go_meet
          exact ⟨rfl, H23.out⟩
      case rest =>
        obtain ⟨rfl, hX⟩ := hcut
        have q171 := (hX.row (w10.heap.size, [.string (T 0), .string (T 1), .string (T 2), .string (T 3), .string (T 4), .string (T 5), .string (T 6), .string (T 7)]) (by simp)).row 0 _ rfl
        have q172 := (hX.row (w10.heap.size, [.string (T 0), .string (T 1), .string (T 2), .string (T 3), .string (T 4), .string (T 5), .string (T 6), .string (T 7)]) (by simp)).row 1 _ rfl
        have q173 := (hX.row (w3.heap.size, [.string (str b.num), .string (str (b.den : Int))]) (by simp)).row 0 _ rfl
        have q174 := (hX.row (w3.heap.size, [.string (str b.num), .string (str (b.den : Int))]) (by simp)).row 1 _ rfl
        have H24 := Lib.hid hX
        clear hX H19 H21 H22 H23 M3 A2 M4 cl3 eCC eU2 eMM eHH
        go_upto_region 28 with (first
          | (go_at_call 44; (with_reducible refine (SB1.out _ H24.out.bw).mono ?_); rintro e w26 ⟨rfl, hb⟩; have hp := (H24.out.below hb).push [.string (T 40), .string (T 41)] 23; have q175 := (hp.row (w10.heap.size, [.string (T 0), .string (T 1), .string (T 2), .string (T 3), .string (T 4), .string (T 5), .string (T 6), .string (T 7)]) (by simp)).row 6 _ rfl; have q176 := (hp.row (w10.heap.size, [.string (T 0), .string (T 1), .string (T 2), .string (T 3), .string (T 4), .string (T 5), .string (T 6), .string (T 7)]) (by simp)).row 7 _ rfl; have q177 := (hp.row (w3.heap.size, [.string (str b.num), .string (str (b.den : Int))]) (by simp)).row 0 _ rfl; have q178 := (hp.row (w3.heap.size, [.string (str b.num), .string (str (b.den : Int))]) (by simp)).row 1 _ rfl; have H26 := Lib.hid hp; clear hb hp)
          | (go_at_call 25; (with_reducible refine (M5.out _ H26.out.bw).mono ?_); rintro e w27 ⟨rfl, hb⟩; have hp := (H26.out.below hb).push [.string (T 42), .string (T 43)] 23; have H27 := Lib.hid hp; clear hb hp)
          | fail)
        have hp := H27.out
        generalize w27.alloc (.cells #[.string (T 42), .string (T 43)] 23) = W27 at hp ⊢
        have q179 := (hp.row (w10.heap.size + 1, [.int .i64 (K 0), .int .i64 (K 1), .int .i64 (K 2), .int .i64 (K 3)]) (by simp)).row 0 _ rfl
        have q180 := (hp.row (w10.heap.size + 1, [.int .i64 (K 0), .int .i64 (K 1), .int .i64 (K 2), .int .i64 (K 3)]) (by simp)).row 3 _ rfl
        have q181 := (hp.row (w26.heap.size, [.string ((T 40)), .string ((T 41))]) (by simp)).row 0 _ rfl
        have q182 := (hp.row (w26.heap.size, [.string ((T 40)), .string ((T 41))]) (by simp)).row 1 _ rfl
        have q183 := (hp.row (w2.heap.size, [.string (str a.num), .string (str (a.den : Int))]) (by simp)).row 0 _ rfl
        have q184 := (hp.row (w2.heap.size, [.string (str a.num), .string (str (a.den : Int))]) (by simp)).row 1 _ rfl
        have q185 := (hp.row (w27.heap.size, [.string ((T 42)), .string ((T 43))]) (by simp)).row 0 _ rfl
        have q186 := (hp.row (w27.heap.size, [.string ((T 42)), .string ((T 43))]) (by simp)).row 1 _ rfl
        have H28 := Lib.hid hp.bw
        clear hp H27 H26 H24
        rcases eR0.out with gR0 | gR0
        · rcases eKK.out with gKK | gKK
          · obtain ⟨y1, y2⟩ := cl4.out gR0 gKK
            rcases eR3.out with gR3 | gR3
            · rcases eGG.out with gGG | gGG
              · obtain ⟨y3, y4⟩ := cl5.out gR3 gGG
                go_wp2
                go_ret
                exact ⟨rfl, H28.out⟩
              · go_wp2
                go_ret
                exact ⟨rfl, H28.out⟩
            · go_wp2
              go_ret
              exact ⟨rfl, H28.out⟩
          · rcases eR3.out with gR3 | gR3
            · rcases eGG.out with gGG | gGG
              · obtain ⟨y3, y4⟩ := cl5.out gR3 gGG
                go_wp2
                go_ret
                exact ⟨rfl, H28.out⟩
              · go_wp2
                go_ret
                exact ⟨rfl, H28.out⟩
            · go_wp2
              go_ret
              exact ⟨rfl, H28.out⟩
        · rcases eR3.out with gR3 | gR3
          · rcases eGG.out with gGG | gGG
            · obtain ⟨y3, y4⟩ := cl5.out gR3 gGG
              go_wp2
              go_ret
              exact ⟨rfl, H28.out⟩
            · go_wp2
              go_ret
              exact ⟨rfl, H28.out⟩
          · go_wp2
            go_ret
            exact ⟨rfl, H28.out⟩

theorem RationalField_law (x0 x1 x2 x3 y0 y1 y2 y3 z0 z1 : Int) (long : Bool) (hx0 : -9223372036854775808 ≤ x0 ∧ x0 ≤ 9223372036854775807) (hx1 : -9223372036854775808 ≤ x1 ∧ x1 ≤ 9223372036854775807) (hx2 : -9223372036854775808 ≤ x2 ∧ x2 ≤ 9223372036854775807) (hx3 : -9223372036854775808 ≤ x3 ∧ x3 ≤ 9223372036854775807) (hy0 : -9223372036854775808 ≤ y0 ∧ y0 ≤ 9223372036854775807) (hy1 : -9223372036854775808 ≤ y1 ∧ y1 ≤ 9223372036854775807) (hy2 : -9223372036854775808 ≤ y2 ∧ y2 ≤ 9223372036854775807) (hy3 : -9223372036854775808 ≤ y3 ∧ y3 ≤ 9223372036854775807) (hz0 : -9223372036854775808 ≤ z0 ∧ z0 ≤ 9223372036854775807) (hz1 : -9223372036854775808 ≤ z1 ∧ z1 ≤ 9223372036854775807) (w : World) (hq : QOps w) :
    Calls Tryz.prog 8 #[.agg #[.int .i64 x0, .int .i64 x1, .int .i64 x2, .int .i64 x3], .agg #[.int .i64 y0, .int .i64 y1, .int .i64 y2, .int .i64 y3], .agg #[.int .i64 z0, .int .i64 z1], .bool long] w fun e W' => e = .returned (.bool true) ∧ Below w.heap.size w W' := by
  cases long with
  | false => exact Field_short x0 x1 x2 x3 y0 y1 y2 y3 z0 z1 hx0 hx1 hy0 hy1 hz0 hz1 w hq
  | true => exact Field_long x0 x1 x2 x3 y0 y1 y2 y3 z0 z1 hx0 hx1 hx2 hx3 hy0 hy1 hy2 hy3 hz0 hz1 w hq
end Go.Proofs.YtkekafamfoifmaaGreatDoor
