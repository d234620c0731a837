/- WorldNobody: closed facts of its row, each a theorem of its own, part C1a. No conditions. -/
import Derived.Test.YtmpengeeielffaaGreatDoorNobC1
import Derived.JoinedCond
namespace Go.Proofs.YtmpengeeielffaaGreatDoor.nob
open Go
set_option maxRecDepth 100000
theorem j1 : (laidOutB P) = true := by kernel_rfl
end Go.Proofs.YtmpengeeielffaaGreatDoor.nob
