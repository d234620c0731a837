/- WorldNobody: closed facts of its row, each a theorem of its own, part 2, behind. No conditions. -/
import Derived.Test.YtmpengeeielffaaGreatDoorNobC2
import Derived.JoinedCond
namespace Go.Proofs.YtmpengeeielffaaGreatDoor.nob
open Go
set_option maxRecDepth 100000
theorem j12 : ((c.named == P.varsNamed 3)) = true := by kernel_rfl
theorem j13 : ((c.maps == (fn.params.toList ++ s.plain.varTypes P).any (P.mapsRec ·))) = true := by kernel_rfl
theorem j14 : ((c.ifaces == (fn.params.toList ++ s.plain.varTypes P).any (P.ifacesRec ·))) = true := by kernel_rfl
theorem j15 : ((c.mapsOut == P.mapsAmong fn.resultTypes.toList)) = true := by kernel_rfl
end Go.Proofs.YtmpengeeielffaaGreatDoor.nob
