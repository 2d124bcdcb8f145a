/- - -/
import Derived.Deep.QuietTactic
import Derived.BigQuiet
import Derived.Test.YtlikmmpmnaaifaaGreatDoorZBack
import Derived.Test.YtlikmmpmnaaifaaGreatDoorZRef
set_option maxHeartbeats 40000000
set_option maxRecDepth 1000000
namespace Go.Proofs.YtlikmmpmnaaifaaGreatDoor
open Go.RowKit Go.Shelf
attribute [local go_sem] Oper.semAt_some
end Go.Proofs.YtlikmmpmnaaifaaGreatDoor
