/- - -/
import Derived.Stop.LaidErr
import Derived.MakeChecks
import Derived.Test.YtdkaohphbgdkpaaGreatDoorZPost
import Derived.Test.YtdkaohphbgdkpaaGreatDoorZAt
set_option maxHeartbeats 40000000
set_option maxRecDepth 1000000
namespace Go.Proofs.YtdkaohphbgdkpaaGreatDoor
theorem star : "*" ++ "errors.errorString" = "*errors.errorString" := by decide
theorem uS_ (u : TypeId) (h : Tryz.prog.typeName? 3 u = some "*errors.errorString") : u = 259 :=
 typeName_ptr_named (nm := "errors.errorString") (by rw [star]; kernel_rfl) (by kernel_rfl) (by decide) u (by rw [star]; exact h)
theorem rH_:Tryz.prog.cellsOf 261=1:=by kernel_rfl
theorem rG_:Tryz.prog.cellsOf 9=1:=by kernel_rfl
theorem gSyn : Tryz.prog.globalNamed "strconv.ErrSyntax" = some 2 := by kernel_rfl
theorem gSynT:(Tryz.prog.globals[2]?).map (·.type)=some 148:=by kernel_rfl
theorem gRan : Tryz.prog.globalNamed "strconv.ErrRange" = some 3 := by kernel_rfl
theorem gRanT:(Tryz.prog.globals[3]?).map (·.type)=some 148:=by kernel_rfl
theorem yZ_ : (dT_.filter fun x => x.1 == "strconv.ErrSyntax") = [("strconv.ErrSyntax", Rows.laid_strconv_ErrSyntax)] := by kernel_rfl
theorem zJ_ : (dT_.filter fun x => x.1 == "strconv.ErrRange") = [("strconv.ErrRange", Rows.laid_strconv_ErrRange)] := by kernel_rfl
theorem aAT {W:World} (h:laidMetH Tryz.prog dT_ W):GlobE W:=by
 have h1 := h.filter fun x => x.1 == "strconv.ErrSyntax"
 rw[yZ_,MakeChecks.laidMetH_plain _ _ _ (by kernel_rfl)] at h1
 have h2 := h.filter fun x => x.1 == "strconv.ErrRange"
 rw[zJ_,MakeChecks.laidMetH_plain _ _ _ (by kernel_rfl)] at h2
 obtain⟨a1,_,v1,_⟩:=laid_sentinel (r:=[]) h1 gSyn gSynT Tryz.underlying148 uS_ Tryz.underlying259 Tryz.underlying261 rfl rfl Tryz.underlying9 rH_ rG_
 obtain⟨a2,_,v2,_⟩:=laid_sentinel (r:=[]) h2 gRan gRanT Tryz.underlying148 uS_ Tryz.underlying259 Tryz.underlying261 rfl rfl Tryz.underlying9 rH_ rG_
 exact⟨⟨_,_,v1⟩,_,_,v2⟩
end Go.Proofs.YtdkaohphbgdkpaaGreatDoor
