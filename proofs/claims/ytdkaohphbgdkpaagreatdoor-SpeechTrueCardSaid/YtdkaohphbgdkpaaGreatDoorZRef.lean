/- - -/
import Derived.Lib.SlBytesRow
import Derived.Lib.UnsafeStr
import Derived.Test.YtdkaohphbgdkpaaGreatDoorZNum
import Derived.Test.YtdkaohphbgdkpaaGreatDoorZTxt
set_option maxHeartbeats 40000000
set_option maxRecDepth 1000000
namespace Go.Proofs.YtdkaohphbgdkpaaGreatDoor
open Go.RowKit Go.Shelf
attribute [local go_sem] Oper.semAt_some
end Go.Proofs.YtdkaohphbgdkpaaGreatDoor
