/- WorldNobody: closed facts of its row, each a theorem of its own, part 1, behind. No conditions. -/
import Derived.Test.YtmpengeeielffaaGreatDoorNobC1c
import Derived.JoinedCond
namespace Go.Proofs.YtmpengeeielffaaGreatDoor.nob
open Go
set_option maxRecDepth 100000
theorem j3 : (fn.params.all (P.readableRec ·)) = true := by kernel_rfl
theorem j4 : (namedTie P c.named s.vars) = true := by kernel_rfl
theorem j5 : ((c.stops == [])) = true := by kernel_rfl
theorem j6 : ((P.stops == [])) = true := by kernel_rfl
theorem j7 : ((c.knobs == [])) = true := by kernel_rfl
end Go.Proofs.YtmpengeeielffaaGreatDoor.nob
