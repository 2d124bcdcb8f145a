/- - -/
import Derived.Test.YtlikmmpmnaaifaaGreatDoorCards
import Derived.Test.YtlikmmpmnaaifaaGreatDoorTie
import Derived.ProofKit
import Derived.OpenShut
import Derived.Deep.DeepHandedRow
import Derived.Lib.LaidTab
import Derived.Lay
import Derived.Lib.SmallJoins
import Derived.Laws.IdiomArrays
import Derived.Test.YtlikmmpmnaaifaaGreatDoorZAt
set_option maxHeartbeats 40000000
set_option maxRecDepth 1000000
namespace Go.Proofs.YtlikmmpmnaaifaaGreatDoor
open Go.ChangeShapes Go.WideShapes Go.ChangeAt Go.RowKit
open Go.ChangeMaps (open_string shut_string)
theorem own:ownKnob Tryz.prog.godebug=none:=by kernel_rfl
def iA_:List (String×DataW Unit):=Rows.planeMatchesReferenceRow.laid
theorem aJW : (iA_.filter fun x => x.1 == "internal/strconv.uint64pow10") = [("internal/strconv.uint64pow10", Rows.laid_internal_strconv_uint64pow10)] := by kernel_rfl
theorem gPow : Tryz.prog.globalNamed "internal/strconv.uint64pow10" = some 2 := by kernel_rfl
theorem gPowT:(Tryz.prog.globals[2]?).map (·.type)=some 304:=by kernel_rfl
theorem aLZ:Tryz.prog.cellsOf 304=20:=by kernel_rfl
theorem aLY:Tryz.prog.cellsOf 181=1:=by kernel_rfl
theorem aGC {W:World} (h:laidMetH Tryz.prog iA_ W):Glob W:=by
 have h1 := h.filter fun x => x.1 == "internal/strconv.uint64pow10"
 rw[aJW] at h1
 exact⟨Lib.tabIs_of_head (rest:=[]) gPow gPowT Tryz.underlying304 Tryz.underlying181 aLY aLZ h1⟩
def mY_:List String:=iA_.map (·.1)
noncomputable def laidWorld (os:Os):World:=(World.holding Tryz.prog os ⟨#[],#[],[]⟩).layVars Tryz.prog (iA_.filter fun x=>mY_.contains x.1)
theorem laid_met (os:Os) (args:Array Value):laidMet Tryz.prog iA_ ((laidWorld os).forCall (fun _ _=>0) ⟨#[],args,[]⟩).memory:=
 laidMet_layVars (w0:=World.holding Tryz.prog os ⟨#[],#[],[]⟩) mY_ [] (by kernel_rfl) (by kernel_rfl) (by kernel_rfl) (by
  have:(iA_.filter fun x=>!mY_.contains x.1)=[]:=by kernel_rfl
  rw[this]
  exact LaidIn.none)
end Go.Proofs.YtlikmmpmnaaifaaGreatDoor
namespace Go.Proofs.YtlikmmpmnaaifaaGreatDoor
theorem iops_of {W:World} (h:laidMetH Tryz.prog iA_ W):IOps W∧FrOp W:=⟨IOps.of_glob (aGC h),FrOp.of_glob (aGC h)⟩
end Go.Proofs.YtlikmmpmnaaifaaGreatDoor
namespace Go.Proofs.YtlikmmpmnaaifaaGreatDoor
open Go.ChangeShapes Go.WideShapes Go.ChangeAt Go.RowKit
open Go.ChangeMaps (open_string shut_string)
theorem kL_ {P:Program} {W:World} {r:Reach} {b0 n:Nat} {t e:TypeId} {v:Value} (ht:P.underlying t=some (.array n e)) (h:Value.okWide P W r b0 t v):∃cs,v=.agg cs∧cs.size=P.cellsOf t:=by
 simp only[Value.okWide,ht] at h
 obtain⟨cs,h1,h2,_⟩:=h
 exact⟨cs,h1,h2⟩
theorem uK_:Tryz.prog.cellsOf 3=1:=by kernel_rfl
end Go.Proofs.YtlikmmpmnaaifaaGreatDoor
