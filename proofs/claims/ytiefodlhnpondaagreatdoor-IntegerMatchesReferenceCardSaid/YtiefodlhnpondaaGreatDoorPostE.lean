/-
  What the rows' list says of strconv's error variables: each holds an error.
-/
import Derived.Test.YtiefodlhnpondaaGreatDoorPost
import Derived.Test.YtiefodlhnpondaaGreatDoorToInt
import Derived.Stop.LaidErr
import Derived.MakeChecks
namespace Go.Proofs.YtiefodlhnpondaaGreatDoor

theorem star : "*" ++ "errors.errorString" = "*errors.errorString" := by decide
theorem row_err (u : TypeId) (h : Tryz.prog.typeName? 3 u = some "*errors.errorString") : u = 135 :=
  typeName_ptr_named (nm := "errors.errorString") (by rw [star]; kernel_rfl) (by kernel_rfl) (by decide) u (by rw [star]; exact h)
theorem cellsErr : Tryz.prog.cellsOf 137 = 1 := by kernel_rfl
theorem cellsStr : Tryz.prog.cellsOf 9 = 1 := by kernel_rfl
theorem gSyn : Tryz.prog.globalNamed "strconv.ErrSyntax" = some 0 := by kernel_rfl
theorem gSynT : (Tryz.prog.globals[0]?).map (·.type) = some 69 := by kernel_rfl
theorem gRan : Tryz.prog.globalNamed "strconv.ErrRange" = some 1 := by kernel_rfl
theorem gRanT : (Tryz.prog.globals[1]?).map (·.type) = some 69 := by kernel_rfl
theorem syn_kept : (laidAll.filter fun x => x.1 == "strconv.ErrSyntax") = [("strconv.ErrSyntax", Rows.laid_strconv_ErrSyntax)] := by kernel_rfl
theorem ran_kept : (laidAll.filter fun x => x.1 == "strconv.ErrRange") = [("strconv.ErrRange", Rows.laid_strconv_ErrRange)] := by kernel_rfl
theorem globE_of {W : World} (h : laidMetH Tryz.prog laidAll W) : GlobE W := by
  have h1 := h.filter fun x => x.1 == "strconv.ErrSyntax"
  rw [syn_kept, MakeChecks.laidMetH_plain _ _ _ (by kernel_rfl)] at h1
  have h2 := h.filter fun x => x.1 == "strconv.ErrRange"
  rw [ran_kept, MakeChecks.laidMetH_plain _ _ _ (by kernel_rfl)] at h2
  obtain ⟨a1, _, v1, _⟩ := laid_sentinel (r := []) h1 gSyn gSynT Tryz.underlying69 row_err Tryz.underlying135 Tryz.underlying137 rfl rfl Tryz.underlying9 cellsErr cellsStr
  obtain ⟨a2, _, v2, _⟩ := laid_sentinel (r := []) h2 gRan gRanT Tryz.underlying69 row_err Tryz.underlying135 Tryz.underlying137 rfl rfl Tryz.underlying9 cellsErr cellsStr
  exact ⟨⟨_, _, v1⟩, _, _, v2⟩
end Go.Proofs.YtiefodlhnpondaaGreatDoor
