/- WorldNobody: closed facts of its row, each a theorem of its own, part 2. No conditions. -/
import Derived.Test.YtmpengeeielffaaGreatDoorNobC1b
import Derived.JoinedCond
namespace Go.Proofs.YtmpengeeielffaaGreatDoor.nob
open Go
set_option maxRecDepth 100000
theorem j8 : ((P.stopKnobs == [])) = true := by kernel_rfl
theorem j9 : ((c.inPlace == P.inPlace 3)) = true := by kernel_rfl
theorem j10 : ((c.unfollowed == P.unfollowed 3)) = true := by kernel_rfl
theorem j11 : ((c.recurses == P.recurses 3)) = true := by kernel_rfl
end Go.Proofs.YtmpengeeielffaaGreatDoor.nob
