/- - -/
import Derived.Test.YtjfdefglpoancaaGreatDoorCards
import Derived.Test.YtjfdefglpoancaaGreatDoorTie
import Derived.ProofKit
import Derived.OpenShut
import Derived.Deep.DeepHandedRow
import Derived.Lib.LaidTab
import Derived.Lay
import Derived.Lib.SmallJoins
import Derived.Laws.IdiomArrays
import Derived.Test.YtjfdefglpoancaaGreatDoorZAt
set_option maxHeartbeats 40000000
set_option maxRecDepth 1000000
namespace Go.Proofs.YtjfdefglpoancaaGreatDoor
open Go.ChangeShapes Go.WideShapes Go.ChangeAt Go.RowKit
open Go.ChangeMaps (open_string shut_string)
theorem own:ownKnob Tryz.prog.godebug=none:=by kernel_rfl
def kA_:List (String×DataW Unit):=Rows.planeMatchesReferenceRow.laid
theorem aJN : (kA_.filter fun x => x.1 == "internal/strconv.uint64pow10") = [("internal/strconv.uint64pow10", Rows.laid_internal_strconv_uint64pow10)] := by kernel_rfl
theorem gPow : Tryz.prog.globalNamed "internal/strconv.uint64pow10" = some 0 := by kernel_rfl
theorem gPowT:(Tryz.prog.globals[0]?).map (·.type)=some 224:=by kernel_rfl
theorem aLO:Tryz.prog.cellsOf 224=20:=by kernel_rfl
theorem aLN:Tryz.prog.cellsOf 120=1:=by kernel_rfl
theorem aGG {W:World} (h:laidMetH Tryz.prog kA_ W):Glob W:=by
 have h1 := h.filter fun x => x.1 == "internal/strconv.uint64pow10"
 rw[aJN] at h1
 exact⟨Lib.tabIs_of_head (rest:=[]) gPow gPowT Tryz.underlying224 Tryz.underlying120 aLN aLO h1⟩
def pA_:List String:=kA_.map (·.1)
noncomputable def oZ_ (os:Os):World:=(World.holding Tryz.prog os ⟨#[],#[],[]⟩).layVars Tryz.prog (kA_.filter fun x=>pA_.contains x.1)
theorem aKG (os:Os) (args:Array Value):laidMet Tryz.prog kA_ ((oZ_ os).forCall (fun _ _=>0) ⟨#[],args,[]⟩).memory:=
 laidMet_layVars (w0:=World.holding Tryz.prog os ⟨#[],#[],[]⟩) pA_ [] (by kernel_rfl) (by kernel_rfl) (by kernel_rfl) (by
  have:(kA_.filter fun x=>!pA_.contains x.1)=[]:=by kernel_rfl
  rw[this]
  exact LaidIn.none)
end Go.Proofs.YtjfdefglpoancaaGreatDoor
namespace Go.Proofs.YtjfdefglpoancaaGreatDoor
theorem aPY {W:World} (h:laidMetH Tryz.prog kA_ W):IOps W∧FrOp W:=⟨IOps.of_glob (aGG h),FrOp.of_glob (aGG h)⟩
end Go.Proofs.YtjfdefglpoancaaGreatDoor
namespace Go.Proofs.YtjfdefglpoancaaGreatDoor
open Go.ChangeShapes Go.WideShapes Go.ChangeAt Go.RowKit
open Go.ChangeMaps (open_string shut_string)
theorem vI_ {P:Program} {W:World} {r:Reach} {b0 n:Nat} {t e:TypeId} {v:Value} (ht:P.underlying t=some (.array n e)) (h:Value.okWide P W r b0 t v):∃cs,v=.agg cs∧cs.size=P.cellsOf t:=by
 simp only[Value.okWide,ht] at h
 obtain⟨cs,h1,h2,_⟩:=h
 exact⟨cs,h1,h2⟩
theorem lE_:Tryz.prog.cellsOf 3=1:=by kernel_rfl
theorem aHY:Tryz.prog.cellsOf 58=2:=by kernel_rfl
theorem aDR {H:Type} {enc:TypeId×Value→H} {W:World} {base:Nat} {sp:Nat→Bool} {hd:Bool} {m:Nat} {cs:List Value} {c0 c1:Value} {y:DataW H×List MemPlace} (h:DataW.trod enc Tryz.prog W base sp hd m 58 cs=some y) (hc:cs=[c0,c1]:=by rfl) :
  ∃a b:Int,(c0=.int .i64 a∧c1=.int .i64 b)∧y=(.agg [.lit (.int .i64 a),.lit (.int .i64 b)],[])∧(Lit.int .i64 a).wf=true∧(Lit.int .i64 b).wf=true:=by
 subst hc
 obtain⟨ys,m',_,hx,_,hl,hy⟩:=DataW.trod_array Tryz.underlying58 h
 match ys,hl with
 | [y0,y1],_=>
 have hy0:=hy 0 (by decide)
 have hy1:=hy 1 (by decide)
 simp[lE_] at hy0 hy1
 simp only[List.map_cons,List.map_nil,List.flatMap_cons,List.flatMap_nil,List.append_nil] at hx
 obtain⟨xa,e0,rfl,w0⟩:=DataW.trod_int Tryz.underlying3 hy0
 obtain⟨xb,e1,rfl,w1⟩:=DataW.trod_int Tryz.underlying3 hy1
 simp at e0 e1
 subst e0 e1
 exact⟨xa,xb,⟨rfl,rfl⟩,hx,w0,w1⟩
end Go.Proofs.YtjfdefglpoancaaGreatDoor
