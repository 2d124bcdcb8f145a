/-
  The law IntegerText: a number that is written is read again; a string that is read as a number is the one that is written for it.
-/
import Derived.Test.YtgngepbemgbbeaaGreatDoorZParse
import Derived.Test.YtgngepbemgbbeaaGreatDoorZAt
namespace Go.Proofs.YtgngepbemgbbeaaGreatDoor
open Go.RowKit Go.Shelf
attribute [local go_sem] Oper.semAt_some

theorem small_i64 {z : Int} (h0 : -9223372036854775808 ≤ z) (h1 : z ≤ 9223372036854775807) : small z = true := by
  have h : z.natAbs < 10 ^ 19 := by
    have : (10 : Nat) ^ 19 = 10000000000000000000 := by decide
    omega
  exact Bd.small (k := 19) h (by decide)
theorem FromInt_s {w : World} (hG : Glob w) {z : Int} {s : ByteArray} (h0 : -9223372036854775808 ≤ z) (h1 : z ≤ 9223372036854775807) (es : s = str z) (W : World) (hk : Below w.heap.size w W) :
    Calls Tryz.prog 111 #[.int .i64 z] W fun e W' => e = .returned (.string s) ∧ Below w.heap.size w W' := by
  subst es
  refine (FromInt_any z W (hG.below hk) h0 h1).mono ?_
  rintro e w' ⟨rfl, hb⟩
  exact ⟨rfl, hk.trans (hb.mono hk.size)⟩
end Go.Proofs.YtgngepbemgbbeaaGreatDoor

