/- WorldNobody: closed facts of its row, each a theorem of its own, part C1c. No conditions. -/
import Derived.Test.YtmpengeeielffaaGreatDoorNobC1a
import Derived.JoinedCond
namespace Go.Proofs.YtmpengeeielffaaGreatDoor.nob
open Go
set_option maxRecDepth 100000
theorem j2 : (mapsRowed P) = true := by kernel_rfl
end Go.Proofs.YtmpengeeielffaaGreatDoor.nob
