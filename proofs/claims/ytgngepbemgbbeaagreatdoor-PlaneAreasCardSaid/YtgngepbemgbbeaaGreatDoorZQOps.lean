/-
  What package integer answers, out of the globals.
  From the rows' list to what the laws of chapter 07 ask.
  Arguments of the laws of chapter 07, opened and shut: pairs of integers, three and four of them.
-/
import Derived.Lib.SmallJoins
import Derived.Laws.IdiomArrays
import Derived.Test.YtgngepbemgbbeaaGreatDoorZAll
import Derived.Test.YtgngepbemgbbeaaGreatDoorZRat
import Derived.Test.YtgngepbemgbbeaaGreatDoorZPost
namespace Go.Proofs.YtgngepbemgbbeaaGreatDoor
open Go.RowKit Go.Shelf
attribute [local go_sem] Oper.semAt_some

theorem IOps.of_glob {w : World} (hG : Glob w) : IOps w where
  val ha W _ := iValid_all ha W (Below.refl _ _)
  cmp ha hb W _ := iCompare_all ha hb W (Below.refl _ _)
  gcd ha hb W hk := iGcd_all (hG.below hk) ha hb W (Below.refl _ _)
  add ha hb W hk := iAdd_all (hG.below hk) ha hb W (Below.refl _ _)
  sub ha hb W hk := iSub_all (hG.below hk) ha hb W (Below.refl _ _)
  mul ha hb W hk := iMul_all (hG.below hk) ha hb W (Below.refl _ _)
  div ha hb W hk := iDiv_all (hG.below hk) ha hb W (Below.refl _ _)
theorem FrOp.of_glob {w : World} (hG : Glob w) : FrOp w := fun _ h1 h2 W hk => FromInt_s (hG.below hk) h1 h2 rfl W (Below.refl _ _)

end Go.Proofs.YtgngepbemgbbeaaGreatDoor

namespace Go.Proofs.YtgngepbemgbbeaaGreatDoor

theorem iops_of {W : World} (h : laidMetH Tryz.prog laidAll W) : IOps W ∧ FrOp W := ⟨IOps.of_glob (glob_of h), FrOp.of_glob (glob_of h)⟩
end Go.Proofs.YtgngepbemgbbeaaGreatDoor

namespace Go.Proofs.YtgngepbemgbbeaaGreatDoor
open Go.ChangeShapes Go.WideShapes Go.ChangeAt Go.RowKit
open Go.ChangeMaps (open_string shut_string)

theorem okWide_array {P : Program} {W : World} {r : Reach} {b0 n : Nat} {t e : TypeId} {v : Value} (ht : P.underlying t = some (.array n e)) (h : Value.okWide P W r b0 t v) : ∃ cs, v = .agg cs ∧ cs.size = P.cellsOf t := by
  simp only [Value.okWide, ht] at h
  obtain ⟨cs, h1, h2, _⟩ := h
  exact ⟨cs, h1, h2⟩
theorem cells_int : Tryz.prog.cellsOf 3 = 1 := by kernel_rfl
theorem cells_two : Tryz.prog.cellsOf 55 = 2 := by kernel_rfl
set_option maxRecDepth 100000 in
theorem open_ints2 {H : Type} {enc : TypeId × Value → H} {W : World} {b0 base : Nat} {sp : Nat → Bool} {hd : Bool} {v : Value} {d : DataW H} {p : List MemPlace} (hv : Value.okWide Tryz.prog W .any b0 55 v) (h : DataW.Trod enc Tryz.prog W base sp hd 55 v d p) :
    ∃ xa xb : Int, v = .agg #[.int .i64 xa, .int .i64 xb] ∧ d = .agg [.lit (.int .i64 xa), .lit (.int .i64 xb)] ∧ p = [] ∧ (Lit.int .i64 xa).wf = true ∧ (Lit.int .i64 xb).wf = true := by
  obtain ⟨cs, rfl, hsz⟩ := okWide_array Tryz.underlying55 hv
  rw [cells_two] at hsz
  obtain ⟨l⟩ := cs
  match l, hsz with
  | [c0, c1], _ =>
  obtain ⟨fuel, hf⟩ := h
  obtain ⟨ys, m, _, hx', _, hl, hy⟩ := DataW.trod_array Tryz.underlying55 hf
  match ys, hl with
  | [y0, y1], _ =>
  have hy0 := hy 0 (by decide)
  have hy1 := hy 1 (by decide)
  simp [cells_int] at hy0 hy1
  have hx := hx'
  simp only [List.map_cons, List.map_nil, List.flatMap_cons, List.flatMap_nil, List.append_nil] at hx
  obtain ⟨xa, e0, rfl, w0⟩ := DataW.trod_int Tryz.underlying3 hy0
  obtain ⟨xb, e1, rfl, w1⟩ := DataW.trod_int Tryz.underlying3 hy1
  simp [Value.cells] at e0 e1
  subst e0 e1
  simp only [Prod.mk.injEq] at hx
  exact ⟨xa, xb, rfl, hx.1, by simpa using hx.2, w0, w1⟩
set_option maxRecDepth 100000 in
theorem shut_ints2 {H : Type} {enc : TypeId × Value → H} {W : World} {base : Nat} {sp : Nat → Bool} {hd : Bool} {xa xb : Int} (w0 : (Lit.int .i64 xa).wf = true) (w1 : (Lit.int .i64 xb).wf = true) :
    DataW.Trod enc Tryz.prog W base sp hd 55 (.agg #[.int .i64 xa, .int .i64 xb]) (.agg [.lit (.int .i64 xa), .lit (.int .i64 xb)]) [] := by
  refine ⟨2, ?_⟩
  unfold DataW.trod
  rw [Tryz.underlying55]
  have r : List.range 2 = [0, 1] := rfl
  simp [r, cells_int, cells_two, Value.cells, trod_int_mk 0 Tryz.underlying3 w0, trod_int_mk 0 Tryz.underlying3 w1]
set_option maxRecDepth 100000 in
theorem trod_pair {H : Type} {enc : TypeId × Value → H} {W : World} {base : Nat} {sp : Nat → Bool} {hd : Bool} {m : Nat} {cs : List Value} {c0 c1 : Value} {y : DataW H × List MemPlace} (h : DataW.trod enc Tryz.prog W base sp hd m 55 cs = some y) (hc : cs = [c0, c1] := by rfl) :
    ∃ a b : Int, (c0 = .int .i64 a ∧ c1 = .int .i64 b) ∧ y = (.agg [.lit (.int .i64 a), .lit (.int .i64 b)], []) ∧ (Lit.int .i64 a).wf = true ∧ (Lit.int .i64 b).wf = true := by
  subst hc
  obtain ⟨ys, m', _, hx, _, hl, hy⟩ := DataW.trod_array Tryz.underlying55 h
  match ys, hl with
  | [y0, y1], _ =>
  have hy0 := hy 0 (by decide)
  have hy1 := hy 1 (by decide)
  simp [cells_int] at hy0 hy1
  simp only [List.map_cons, List.map_nil, List.flatMap_cons, List.flatMap_nil, List.append_nil] at hx
  obtain ⟨xa, e0, rfl, w0⟩ := DataW.trod_int Tryz.underlying3 hy0
  obtain ⟨xb, e1, rfl, w1⟩ := DataW.trod_int Tryz.underlying3 hy1
  simp at e0 e1
  subst e0 e1
  exact ⟨xa, xb, ⟨rfl, rfl⟩, hx, w0, w1⟩
set_option maxRecDepth 100000 in
theorem trod_pair_mk {H : Type} {enc : TypeId × Value → H} {W : World} {base : Nat} {sp : Nat → Bool} {hd : Bool} {a b : Int} (w : (Lit.int .i64 a).wf = true ∧ (Lit.int .i64 b).wf = true) :
    DataW.trod enc Tryz.prog W base sp hd 2 55 [.int .i64 a, .int .i64 b] = some (.agg [.lit (.int .i64 a), .lit (.int .i64 b)], []) := by
  unfold DataW.trod
  rw [Tryz.underlying55]
  have r : List.range 2 = [0, 1] := rfl
  simp [r, cells_int, cells_two, trod_int_mk 0 Tryz.underlying3 w.1, trod_int_mk 0 Tryz.underlying3 w.2]
theorem cells_32 : Tryz.prog.cellsOf 56 = 6 := by kernel_rfl
set_option maxRecDepth 100000 in
theorem open_pairs3 {H : Type} {enc : TypeId × Value → H} {W : World} {b0 base : Nat} {sp : Nat → Bool} {hd : Bool} {v : Value} {d : DataW H} {p : List MemPlace} (hv : Value.okWide Tryz.prog W .any b0 56 v) (h : DataW.Trod enc Tryz.prog W base sp hd 56 v d p) :
    ∃ a0 b0 a1 b1 a2 b2 : Int, v = .agg #[.int .i64 a0, .int .i64 b0, .int .i64 a1, .int .i64 b1, .int .i64 a2, .int .i64 b2] ∧ d = .agg [.agg [.lit (.int .i64 a0), .lit (.int .i64 b0)], .agg [.lit (.int .i64 a1), .lit (.int .i64 b1)], .agg [.lit (.int .i64 a2), .lit (.int .i64 b2)]] ∧ p = [] ∧ ((Lit.int .i64 a0).wf = true ∧ (Lit.int .i64 b0).wf = true) ∧ ((Lit.int .i64 a1).wf = true ∧ (Lit.int .i64 b1).wf = true) ∧ ((Lit.int .i64 a2).wf = true ∧ (Lit.int .i64 b2).wf = true) := by
  obtain ⟨cs, rfl, hsz⟩ := okWide_array Tryz.underlying56 hv
  rw [cells_32] at hsz
  obtain ⟨l⟩ := cs
  match l, hsz with
  | [c0, c1, c2, c3, c4, c5], _ =>
  obtain ⟨fuel, hf⟩ := h
  obtain ⟨ys, m, _, hx, _, hl, hy⟩ := DataW.trod_array Tryz.underlying56 hf
  match ys, hl with
  | [y0, y1, y2], _ =>
  have hy0 := hy 0 (by decide)
  have hy1 := hy 1 (by decide)
  have hy2 := hy 2 (by decide)
  rw [cells_two] at hy0 hy1 hy2
  obtain ⟨a0, b0, e0, d0, w0⟩ := trod_pair (c0 := c0) (c1 := c1) hy0
  obtain ⟨a1, b1, e1, d1, w1⟩ := trod_pair (c0 := c2) (c1 := c3) hy1
  obtain ⟨a2, b2, e2, d2, w2⟩ := trod_pair (c0 := c4) (c1 := c5) hy2
  simp only [List.map_cons, List.map_nil, List.flatMap_cons, List.flatMap_nil, List.append_nil, Prod.mk.injEq] at hx
  obtain ⟨hx1, hx2⟩ := hx
  subst d0
  subst d1
  subst d2
  refine ⟨a0, b0, a1, b1, a2, b2, ?_, hx1, by simpa using hx2, w0, w1, w2⟩
  rw [e0.1, e0.2, e1.1, e1.2, e2.1, e2.2]
set_option maxRecDepth 100000 in
theorem shut_pairs3 {H : Type} {enc : TypeId × Value → H} {W : World} {base : Nat} {sp : Nat → Bool} {hd : Bool} {a0 b0 a1 b1 a2 b2 : Int} (w0 : (Lit.int .i64 a0).wf = true ∧ (Lit.int .i64 b0).wf = true) (w1 : (Lit.int .i64 a1).wf = true ∧ (Lit.int .i64 b1).wf = true) (w2 : (Lit.int .i64 a2).wf = true ∧ (Lit.int .i64 b2).wf = true) :
    DataW.Trod enc Tryz.prog W base sp hd 56 (.agg #[.int .i64 a0, .int .i64 b0, .int .i64 a1, .int .i64 b1, .int .i64 a2, .int .i64 b2]) (.agg [.agg [.lit (.int .i64 a0), .lit (.int .i64 b0)], .agg [.lit (.int .i64 a1), .lit (.int .i64 b1)], .agg [.lit (.int .i64 a2), .lit (.int .i64 b2)]]) [] := by
  refine ⟨3, ?_⟩
  unfold DataW.trod
  rw [Tryz.underlying56]
  have r : List.range 3 = [0, 1, 2] := rfl
  simp [r, cells_two, cells_32, Value.cells, trod_pair_mk w0, trod_pair_mk w1, trod_pair_mk w2]
theorem cells_42 : Tryz.prog.cellsOf 60 = 8 := by kernel_rfl
set_option maxRecDepth 100000 in
theorem open_pairs4 {H : Type} {enc : TypeId × Value → H} {W : World} {b0 base : Nat} {sp : Nat → Bool} {hd : Bool} {v : Value} {d : DataW H} {p : List MemPlace} (hv : Value.okWide Tryz.prog W .any b0 60 v) (h : DataW.Trod enc Tryz.prog W base sp hd 60 v d p) :
    ∃ a0 b0 a1 b1 a2 b2 a3 b3 : Int, v = .agg #[.int .i64 a0, .int .i64 b0, .int .i64 a1, .int .i64 b1, .int .i64 a2, .int .i64 b2, .int .i64 a3, .int .i64 b3] ∧ d = .agg [.agg [.lit (.int .i64 a0), .lit (.int .i64 b0)], .agg [.lit (.int .i64 a1), .lit (.int .i64 b1)], .agg [.lit (.int .i64 a2), .lit (.int .i64 b2)], .agg [.lit (.int .i64 a3), .lit (.int .i64 b3)]] ∧ p = [] ∧ ((Lit.int .i64 a0).wf = true ∧ (Lit.int .i64 b0).wf = true) ∧ ((Lit.int .i64 a1).wf = true ∧ (Lit.int .i64 b1).wf = true) ∧ ((Lit.int .i64 a2).wf = true ∧ (Lit.int .i64 b2).wf = true) ∧ ((Lit.int .i64 a3).wf = true ∧ (Lit.int .i64 b3).wf = true) := by
  obtain ⟨cs, rfl, hsz⟩ := okWide_array Tryz.underlying60 hv
  rw [cells_42] at hsz
  obtain ⟨l⟩ := cs
  match l, hsz with
  | [c0, c1, c2, c3, c4, c5, c6, c7], _ =>
  obtain ⟨fuel, hf⟩ := h
  obtain ⟨ys, m, _, hx, _, hl, hy⟩ := DataW.trod_array Tryz.underlying60 hf
  match ys, hl with
  | [y0, y1, y2, y3], _ =>
  have hy0 := hy 0 (by decide)
  have hy1 := hy 1 (by decide)
  have hy2 := hy 2 (by decide)
  have hy3 := hy 3 (by decide)
  rw [cells_two] at hy0 hy1 hy2 hy3
  obtain ⟨a0, b0, e0, d0, w0⟩ := trod_pair (c0 := c0) (c1 := c1) hy0
  obtain ⟨a1, b1, e1, d1, w1⟩ := trod_pair (c0 := c2) (c1 := c3) hy1
  obtain ⟨a2, b2, e2, d2, w2⟩ := trod_pair (c0 := c4) (c1 := c5) hy2
  obtain ⟨a3, b3, e3, d3, w3⟩ := trod_pair (c0 := c6) (c1 := c7) hy3
  simp only [List.map_cons, List.map_nil, List.flatMap_cons, List.flatMap_nil, List.append_nil, Prod.mk.injEq] at hx
  obtain ⟨hx1, hx2⟩ := hx
  subst d0
  subst d1
  subst d2
  subst d3
  refine ⟨a0, b0, a1, b1, a2, b2, a3, b3, ?_, hx1, by simpa using hx2, w0, w1, w2, w3⟩
  rw [e0.1, e0.2, e1.1, e1.2, e2.1, e2.2, e3.1, e3.2]
set_option maxRecDepth 100000 in
theorem shut_pairs4 {H : Type} {enc : TypeId × Value → H} {W : World} {base : Nat} {sp : Nat → Bool} {hd : Bool} {a0 b0 a1 b1 a2 b2 a3 b3 : Int} (w0 : (Lit.int .i64 a0).wf = true ∧ (Lit.int .i64 b0).wf = true) (w1 : (Lit.int .i64 a1).wf = true ∧ (Lit.int .i64 b1).wf = true) (w2 : (Lit.int .i64 a2).wf = true ∧ (Lit.int .i64 b2).wf = true) (w3 : (Lit.int .i64 a3).wf = true ∧ (Lit.int .i64 b3).wf = true) :
    DataW.Trod enc Tryz.prog W base sp hd 60 (.agg #[.int .i64 a0, .int .i64 b0, .int .i64 a1, .int .i64 b1, .int .i64 a2, .int .i64 b2, .int .i64 a3, .int .i64 b3]) (.agg [.agg [.lit (.int .i64 a0), .lit (.int .i64 b0)], .agg [.lit (.int .i64 a1), .lit (.int .i64 b1)], .agg [.lit (.int .i64 a2), .lit (.int .i64 b2)], .agg [.lit (.int .i64 a3), .lit (.int .i64 b3)]]) [] := by
  refine ⟨3, ?_⟩
  unfold DataW.trod
  rw [Tryz.underlying60]
  have r : List.range 4 = [0, 1, 2, 3] := rfl
  simp [r, cells_two, cells_42, Value.cells, trod_pair_mk w0, trod_pair_mk w1, trod_pair_mk w2, trod_pair_mk w3]
end Go.Proofs.YtgngepbemgbbeaaGreatDoor

