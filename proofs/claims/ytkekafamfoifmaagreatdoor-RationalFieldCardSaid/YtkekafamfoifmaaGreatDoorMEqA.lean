/-
  Two arrays of four fractions, and two arrays of four errors, that are the same are equal for the program; stores into boxes and arrays.
-/
import Derived.Test.YtkekafamfoifmaaGreatDoorZPrs
namespace Go.Proofs.YtkekafamfoifmaaGreatDoor
open Go.RowKit Go.Shelf
attribute [local go_sem] Oper.semAt_some

theorem AzAt.set2 {L : List (Nat × List Value)} {w W : World} {B : Nat} {a b : Value} (h : AzAt ((B, [a, b]) :: L) w W) (hB : w.heap.size ≤ B) (hd : ∀ x ∈ L, B ≠ x.1) (u v : Value) : AzAt ((B, [u, v]) :: L) w ((W.setCell ⟨B, 0, none⟩ u).setCell ⟨B, 1, none⟩ v) :=
  (h.set hB hd (i := 0) rfl u).set hB hd (i := 1) rfl v
theorem AzAt.swap {a b : Nat × List Value} {L : List (Nat × List Value)} {w W : World} (h : AzAt (a :: b :: L) w W) : AzAt (b :: a :: L) w W := h.sub fun x hx => by
  rcases List.mem_cons.1 hx with rfl | hx
  · simp
  · rcases List.mem_cons.1 hx with rfl | hx
    · simp
    · simp [hx]
/-- One element of an array of fractions, and one of an array of errors, are written. -/
theorem AzAt.put3 {L : List (Nat × List Value)} {w W : World} {X Y i j k : Nat} {ts es : List Value} {u v x : Value} (h : AzAt ((Y, es) :: (X, ts) :: L) w W) (hX : w.heap.size ≤ X) (hY : w.heap.size ≤ Y) (hXY : X ≠ Y) (hd : ∀ x ∈ L, X ≠ x.1 ∧ Y ≠ x.1) (n d c : Value)
    (h1 : ts[i]? = some u) (h2 : (ts.set i n)[j]? = some v) (h3 : es[k]? = some x) :
    AzAt ((Y, es.set k c) :: (X, (ts.set i n).set j d) :: L) w (((W.setCell ⟨X, i, none⟩ n).setCell ⟨X, j, none⟩ d).setCell ⟨Y, k, none⟩ c) := by
  have hx : ∀ x ∈ ((Y, es) :: L), X ≠ x.1 := fun x hm => by
    rcases List.mem_cons.1 hm with rfl | hm
    · exact hXY
    · exact (hd x hm).1
  have hy : ∀ x ∈ ((X, (ts.set i n).set j d) :: L), Y ≠ x.1 := fun x hm => by
    rcases List.mem_cons.1 hm with rfl | hm
    · exact hXY.symm
    · exact (hd x hm).2
  exact (((h.swap.set hX hx h1 n).set hX hx h2 d).swap).set hY hy h3 c
/-- A box of two cells that was laid ahead of a call and is written behind it. -/
theorem AzAt.fresh {L : List (Nat × List Value)} {w V W : World} {a b : Value} (hV : AzAt L w V) (h : AzAt ((V.heap.size, [a, b]) :: L) w W) (u v : Value) : AzAt ((V.heap.size, [u, v]) :: L) w ((W.setCell ⟨V.heap.size, 0, none⟩ u).setCell ⟨V.heap.size, 1, none⟩ v) :=
  h.set2 hV.bw.size (fun x hx e => by have := (hV.row x hx).sz; omega) u v
theorem eq_ratio (a b : ByteArray) (w : World) : (Op.equalIn 9999 23 (.agg #[.string a, .string b]) (.agg #[.string a, .string b])).run Tryz.prog w = .ok true w := by
  have u3 := Tryz.underlying9
  have a3 := Tryz.isAgg9
  have z3 := Tryz.sizeOf9
  have hS : Tryz.prog.underlying 23 = some (.struct (Tryz.prog.fieldsOf 23)) := by kernel_rfl
  have hp : Tryz.prog.stoodInHeld 23 = false := by kernel_rfl
  rw [show (9999 : Nat) = 9998 + 1 from rfl, run_equalIn_agg w 9998 23 _ _ hS hp]
  simp only [Program.fieldsOf, Tryz.underlying23]
  go_simp
theorem eq_four (a0 a1 a2 a3 a4 a5 a6 a7 : ByteArray) (w : World) : (Op.equalIn 10000 49 (.agg #[.string a0, .string a1, .string a2, .string a3, .string a4, .string a5, .string a6, .string a7]) (.agg #[.string a0, .string a1, .string a2, .string a3, .string a4, .string a5, .string a6, .string a7])).run Tryz.prog w = .ok true w := by
  have a3 := Tryz.isAgg23
  have z3 := Tryz.sizeOf23
  have e := fun a b => eq_ratio a b w
  rw [show (10000 : Nat) = 9999 + 1 from rfl, Op.equalIn]
  simp only [Sem.run_bind, run_underlying Tryz.underlying49, Result.andThen_ok]
  simp only [Std.Legacy.Range.forIn_eq_forIn_range', Std.Legacy.Range.size, Nat.sub_zero, Nat.add_sub_cancel, Nat.div_one, List.range'_succ, List.range'_zero, List.forIn_cons, List.forIn_nil]
  go_simp
theorem eq_codes (a b c d : Int) (w : World) : (Op.equalIn 10000 50 (.agg #[.int .i64 a, .int .i64 b, .int .i64 c, .int .i64 d]) (.agg #[.int .i64 a, .int .i64 b, .int .i64 c, .int .i64 d])).run Tryz.prog w = .ok true w := by
  have u3 := Tryz.underlying30
  have a3 := Tryz.isAgg30
  have z3 := Tryz.sizeOf30
  rw [show (10000 : Nat) = 9999 + 1 from rfl, Op.equalIn]
  simp only [Sem.run_bind, run_underlying Tryz.underlying50, Result.andThen_ok]
  simp only [Std.Legacy.Range.forIn_eq_forIn_range', Std.Legacy.Range.size, Nat.sub_zero, Nat.add_sub_cancel, Nat.div_one, List.range'_succ, List.range'_zero, List.forIn_cons, List.forIn_nil]
  go_simp
end Go.Proofs.YtkekafamfoifmaaGreatDoor
