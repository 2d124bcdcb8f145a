/-
  From the rows' list and the world's shape to what the laws of chapter 04 ask.
  Arguments of the laws of chapter 04, opened and shut: a fraction's two texts; four or two integers.
-/
import Derived.Shelf.Vars
import Derived.Lib.SmallJoins
import Derived.Laws.IdiomArrays
import Derived.Test.YtkekafamfoifmaaGreatDoorZAt
import Derived.Test.YtkekafamfoifmaaGreatDoorZQOps
import Derived.Test.YtkekafamfoifmaaGreatDoorZPrs
namespace Go.Proofs.YtkekafamfoifmaaGreatDoor

theorem globM_of {W : World} (h : W.ShapedOpen Tryz.prog) : GlobM W := by
  have hm := cell_of_shapedOpen_int (g := 0) (t := 3) (zero := #[.int .i64 0]) (k := .i64) h (by decide +kernel) (by kernel_rfl) rfl (by kernel_rfl) (by kernel_rfl) Tryz.underlying3
  refine ⟨hm, ?_⟩
  obtain ⟨m, hm⟩ := hm
  rcases Nat.eq_zero_or_pos W.heap.size with h0 | h0
  · exfalso
    have : W.heap = #[] := Array.eq_empty_of_size_eq_zero h0
    simp [World.cell?, this] at hm
  · exact h0
/-- All that the laws ask. -/
theorem qops_of {W : World} (h : laidMetH Tryz.prog laidAll W) (hs : W.ShapedOpen Tryz.prog) : QOps W := ⟨IOps.of_glob (glob_of h), FrOp.of_glob (glob_of h), globM_of hs⟩
end Go.Proofs.YtkekafamfoifmaaGreatDoor

namespace Go.Proofs.YtkekafamfoifmaaGreatDoor
open Go.ChangeShapes Go.WideShapes Go.ChangeAt Go.RowKit
open Go.ChangeMaps (open_string shut_string)

theorem okWide_array {P : Program} {W : World} {r : Reach} {b0 n : Nat} {t e : TypeId} {v : Value} (ht : P.underlying t = some (.array n e)) (h : Value.okWide P W r b0 t v) : ∃ cs, v = .agg cs ∧ cs.size = P.cellsOf t := by
  simp only [Value.okWide, ht] at h
  obtain ⟨cs, h1, h2, _⟩ := h
  exact ⟨cs, h1, h2⟩
theorem cells_ratio : Tryz.prog.cellsOf 23 = 2 := by kernel_rfl
theorem cells_text : Tryz.prog.cellsOf 9 = 1 := by kernel_rfl
theorem cells_int : Tryz.prog.cellsOf 3 = 1 := by kernel_rfl
theorem cells_four : Tryz.prog.cellsOf 24 = 4 := by kernel_rfl
theorem cells_two : Tryz.prog.cellsOf 47 = 2 := by kernel_rfl
set_option maxRecDepth 100000 in
theorem open_ratio {H : Type} {enc : TypeId × Value → H} {W : World} {b0 base : Nat} {sp : Nat → Bool} {hd : Bool} {v : Value} {d : DataW H} {p : List MemPlace} (hv : Value.okWide Tryz.prog W .any b0 23 v) (h : DataW.Trod enc Tryz.prog W base sp hd 23 v d p) :
    ∃ a b : ByteArray, v = .agg #[.string a, .string b] ∧ d = .agg [.lit (.string a.data.toList), .lit (.string b.data.toList)] ∧ p = [] ∧ a.size ≤ maxLen ∧ b.size ≤ maxLen := by
  obtain ⟨cs, rfl, hsz⟩ := okWide_struct Tryz.underlying23 hv
  rw [cells_ratio] at hsz
  obtain ⟨l⟩ := cs
  match l, hsz with
  | [c0, c1], _ =>
  obtain ⟨fuel, hf⟩ := h
  obtain ⟨y0, y1, m, hx, _, hy0, hy1⟩ := trod_struct2 Tryz.underlying23 hf
  obtain ⟨a, e0, rfl, wa⟩ := DataW.trod_string Tryz.underlying9 hy0
  obtain ⟨b, e1, rfl, wb⟩ := DataW.trod_string Tryz.underlying9 hy1
  simp [Value.cells, cells_text] at e0 e1
  subst e0 e1
  simp only [Prod.mk.injEq] at hx
  exact ⟨a, b, rfl, hx.1, by simpa using hx.2, wa, wb⟩
set_option maxRecDepth 100000 in
theorem shut_ratio {H : Type} {enc : TypeId × Value → H} {W : World} {base : Nat} {sp : Nat → Bool} {hd : Bool} {a b : ByteArray} (ha : a.size ≤ maxLen) (hb : b.size ≤ maxLen) :
    DataW.Trod enc Tryz.prog W base sp hd 23 (.agg #[.string a, .string b]) (.agg [.lit (.string a.data.toList), .lit (.string b.data.toList)]) [] :=
  Go.Joins.shut_agg2 (y0 := (.lit (.string a.data.toList), [])) (y1 := (.lit (.string b.data.toList), [])) Tryz.underlying23 (by kernel_rfl) cells_ratio (shut_string Tryz.underlying9 ha) (shut_string Tryz.underlying9 hb)
set_option maxRecDepth 100000 in
theorem open_ints4 {H : Type} {enc : TypeId × Value → H} {W : World} {b0 base : Nat} {sp : Nat → Bool} {hd : Bool} {v : Value} {d : DataW H} {p : List MemPlace} (hv : Value.okWide Tryz.prog W .any b0 24 v) (h : DataW.Trod enc Tryz.prog W base sp hd 24 v d p) :
    ∃ xa xb xc xd : Int, v = .agg #[.int .i64 xa, .int .i64 xb, .int .i64 xc, .int .i64 xd] ∧ d = .agg [.lit (.int .i64 xa), .lit (.int .i64 xb), .lit (.int .i64 xc), .lit (.int .i64 xd)] ∧ p = [] ∧ (Lit.int .i64 xa).wf = true ∧ (Lit.int .i64 xb).wf = true ∧ (Lit.int .i64 xc).wf = true ∧ (Lit.int .i64 xd).wf = true := by
  obtain ⟨cs, rfl, hsz⟩ := okWide_array Tryz.underlying24 hv
  rw [cells_four] at hsz
  obtain ⟨l⟩ := cs
  match l, hsz with
  | [c0, c1, c2, c3], _ =>
  obtain ⟨fuel, hf⟩ := h
  obtain ⟨y0, y1, y2, y3, m, hx, hy0, hy1, hy2, hy3⟩ := trod_array4 Tryz.underlying24 cells_int hf
  obtain ⟨xa, e0, rfl, w0⟩ := DataW.trod_int Tryz.underlying3 hy0
  obtain ⟨xb, e1, rfl, w1⟩ := DataW.trod_int Tryz.underlying3 hy1
  obtain ⟨xc, e2, rfl, w2⟩ := DataW.trod_int Tryz.underlying3 hy2
  obtain ⟨xd, e3, rfl, w3⟩ := DataW.trod_int Tryz.underlying3 hy3
  simp at e0 e1 e2 e3
  subst e0 e1 e2 e3
  simp only [Prod.mk.injEq] at hx
  exact ⟨xa, xb, xc, xd, rfl, hx.1, by simpa using hx.2, w0, w1, w2, w3⟩
set_option maxRecDepth 100000 in
theorem shut_ints4 {H : Type} {enc : TypeId × Value → H} {W : World} {base : Nat} {sp : Nat → Bool} {hd : Bool} {xa xb xc xd : Int} (w0 : (Lit.int .i64 xa).wf = true) (w1 : (Lit.int .i64 xb).wf = true) (w2 : (Lit.int .i64 xc).wf = true) (w3 : (Lit.int .i64 xd).wf = true) :
    DataW.Trod enc Tryz.prog W base sp hd 24 (.agg #[.int .i64 xa, .int .i64 xb, .int .i64 xc, .int .i64 xd]) (.agg [.lit (.int .i64 xa), .lit (.int .i64 xb), .lit (.int .i64 xc), .lit (.int .i64 xd)]) [] := by
  refine ⟨2, ?_⟩
  unfold DataW.trod
  rw [Tryz.underlying24]
  have r : List.range 4 = [0, 1, 2, 3] := rfl
  simp [r, cells_int, cells_four, Value.cells, trod_int_mk 0 Tryz.underlying3 w0, trod_int_mk 0 Tryz.underlying3 w1, trod_int_mk 0 Tryz.underlying3 w2, trod_int_mk 0 Tryz.underlying3 w3]
set_option maxRecDepth 100000 in
theorem open_ints2 {H : Type} {enc : TypeId × Value → H} {W : World} {b0 base : Nat} {sp : Nat → Bool} {hd : Bool} {v : Value} {d : DataW H} {p : List MemPlace} (hv : Value.okWide Tryz.prog W .any b0 47 v) (h : DataW.Trod enc Tryz.prog W base sp hd 47 v d p) :
    ∃ xa xb : Int, v = .agg #[.int .i64 xa, .int .i64 xb] ∧ d = .agg [.lit (.int .i64 xa), .lit (.int .i64 xb)] ∧ p = [] ∧ (Lit.int .i64 xa).wf = true ∧ (Lit.int .i64 xb).wf = true := by
  obtain ⟨cs, rfl, hsz⟩ := okWide_array Tryz.underlying47 hv
  rw [cells_two] at hsz
  obtain ⟨l⟩ := cs
  match l, hsz with
  | [c0, c1], _ =>
  obtain ⟨fuel, hf⟩ := h
  obtain ⟨ys, m, _, hx', _, hl, hy⟩ := DataW.trod_array Tryz.underlying47 hf
  match ys, hl with
  | [y0, y1], _ =>
  have hy0 := hy 0 (by decide)
  have hy1 := hy 1 (by decide)
  simp [cells_int] at hy0 hy1
  have hx := hx'
  simp only [List.map_cons, List.map_nil, List.flatMap_cons, List.flatMap_nil, List.append_nil] at hx
  obtain ⟨xa, e0, rfl, w0⟩ := DataW.trod_int Tryz.underlying3 hy0
  obtain ⟨xb, e1, rfl, w1⟩ := DataW.trod_int Tryz.underlying3 hy1
  simp [Value.cells] at e0 e1
  subst e0 e1
  simp only [Prod.mk.injEq] at hx
  exact ⟨xa, xb, rfl, hx.1, by simpa using hx.2, w0, w1⟩
set_option maxRecDepth 100000 in
theorem shut_ints2 {H : Type} {enc : TypeId × Value → H} {W : World} {base : Nat} {sp : Nat → Bool} {hd : Bool} {xa xb : Int} (w0 : (Lit.int .i64 xa).wf = true) (w1 : (Lit.int .i64 xb).wf = true) :
    DataW.Trod enc Tryz.prog W base sp hd 47 (.agg #[.int .i64 xa, .int .i64 xb]) (.agg [.lit (.int .i64 xa), .lit (.int .i64 xb)]) [] := by
  refine ⟨2, ?_⟩
  unfold DataW.trod
  rw [Tryz.underlying47]
  have r : List.range 2 = [0, 1] := rfl
  simp [r, cells_int, cells_two, Value.cells, trod_int_mk 0 Tryz.underlying3 w0, trod_int_mk 0 Tryz.underlying3 w1]
end Go.Proofs.YtkekafamfoifmaaGreatDoor

