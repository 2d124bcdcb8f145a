/- - -/
import Derived.Test.YtdkaohphbgdkpaaGreatDoorCards
import Derived.Test.YtdkaohphbgdkpaaGreatDoorTie
import Derived.ProofKit
import Derived.OpenShut
import Derived.Deep.DeepHandedRow
import Derived.Lib.LaidTab
import Derived.Lay
import Derived.Test.YtdkaohphbgdkpaaGreatDoorZAt
set_option maxHeartbeats 40000000
set_option maxRecDepth 1000000
namespace Go.Proofs.YtdkaohphbgdkpaaGreatDoor
open Go.ChangeShapes Go.WideShapes Go.ChangeAt Go.RowKit
open Go.ChangeMaps (open_string shut_string)
theorem own:ownKnob Tryz.prog.godebug=none:=by kernel_rfl
def dT_:List (String×DataW Unit):=Rows.speechOrderRow.laid
theorem zK_ : (dT_.filter fun x => x.1 == "internal/strconv.uint64pow10") = [("internal/strconv.uint64pow10", Rows.laid_internal_strconv_uint64pow10)] := by kernel_rfl
theorem gPow : Tryz.prog.globalNamed "internal/strconv.uint64pow10" = some 1 := by kernel_rfl
theorem gPowT:(Tryz.prog.globals[1]?).map (·.type)=some 223:=by kernel_rfl
theorem aBM:Tryz.prog.cellsOf 223=20:=by kernel_rfl
theorem aBL:Tryz.prog.cellsOf 185=1:=by kernel_rfl
theorem pK_ {W:World} (h:laidMetH Tryz.prog dT_ W):Glob W:=by
 have h1 := h.filter fun x => x.1 == "internal/strconv.uint64pow10"
 rw[zK_] at h1
 exact⟨Lib.tabIs_of_head (rest:=[]) gPow gPowT Tryz.underlying223 Tryz.underlying185 aBL aBM h1⟩
def jE_:List String:=dT_.map (·.1)
noncomputable def laidWorld (os:Os):World:=(World.holding Tryz.prog os ⟨#[],#[],[]⟩).layVars Tryz.prog (dT_.filter fun x=>jE_.contains x.1)
theorem laid_met (os:Os) (args:Array Value):laidMet Tryz.prog dT_ ((laidWorld os).forCall (fun _ _=>0) ⟨#[],args,[]⟩).memory:=
 laidMet_layVars (w0:=World.holding Tryz.prog os ⟨#[],#[],[]⟩) jE_ [] (by kernel_rfl) (by kernel_rfl) (by kernel_rfl) (by
  have:(dT_.filter fun x=>!jE_.contains x.1)=[]:=by kernel_rfl
  rw[this]
  exact LaidIn.none)
end Go.Proofs.YtdkaohphbgdkpaaGreatDoor
