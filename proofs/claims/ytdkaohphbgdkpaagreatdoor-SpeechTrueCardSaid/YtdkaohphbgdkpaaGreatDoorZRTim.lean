/- - -/
import Derived.Test.YtdkaohphbgdkpaaGreatDoorZROrd
import Derived.Test.YtdkaohphbgdkpaaGreatDoorZOver2
set_option maxHeartbeats 40000000
set_option maxRecDepth 1000000
namespace Go.Proofs.YtdkaohphbgdkpaaGreatDoor
open Go.RowKit Go.Shelf
attribute [local go_sem] Oper.semAt_some
end Go.Proofs.YtdkaohphbgdkpaaGreatDoor
