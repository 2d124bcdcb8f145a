/- - -/
import Derived.Deep.RegionHeld3
import Derived.Test.YtjfdefglpoancaaGreatDoorZRef
import Derived.Test.YtjfdefglpoancaaGreatDoorZParse
set_option maxHeartbeats 40000000
set_option maxRecDepth 1000000
namespace Go.Proofs.YtjfdefglpoancaaGreatDoor
open Go.RowKit Go.Shelf
attribute [local go_sem] Oper.semAt_some
theorem aEJ (neg:Bool) (a:Option Addr) (c:Nat) (w:World) :
  Calls Tryz.prog 136 #[.bool neg,.slice a 0 c] w fun e w'=>e=.returned (.tuple #[.string ⟨#[48]⟩,.bool true])∧w=w':=by
 go_enter Tryz.func136,Tryz.ntmps136
 go_wp2
 refine bodyPost_ret (v:=.tuple #[.string ⟨#[48]⟩,.bool true]) ?_ rfl ⟨rfl,rfl⟩
 simp[results,Tryz.results136,go_sem]
end Go.Proofs.YtjfdefglpoancaaGreatDoor
