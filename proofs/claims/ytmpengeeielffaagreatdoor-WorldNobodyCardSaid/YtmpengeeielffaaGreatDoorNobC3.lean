/- WorldNobody: closed facts of its row, each a theorem of its own, part 3. No conditions. -/
import Derived.Test.YtmpengeeielffaaGreatDoorNobC2b
import Derived.JoinedCond
namespace Go.Proofs.YtmpengeeielffaaGreatDoor.nob
open Go
set_option maxRecDepth 100000
theorem j16 : ((c.loops == (fn.params.toList ++ s.plain.varTypes P).any (P.loopsFrom ·))) = true := by kernel_rfl
theorem j17 : ((c.wideKeys == (fn.params.toList ++ s.plain.varTypes P ++ fn.resultTypes.toList).any (P.wideKeysFrom ·))) = true := by kernel_rfl
theorem j18 : (s.vars.all (P.varReadable ·)) = true := by kernel_rfl
theorem j19 : (fn.resultTypes.all (fun t => P.readableRec t && decide (t < P.types.size))) = true := by kernel_rfl
theorem j20 : ((c.ifacesOut == fn.resultTypes.toList.any (P.ifacesRec ·))) = true := by kernel_rfl
theorem j21 : ((c.loopsOut == fn.resultTypes.toList.any (P.loopsFrom ·))) = true := by kernel_rfl
theorem j22 : ((c.plainKeys == P.plainKeys)) = true := by kernel_rfl
theorem j23 : (c.shortTexts.isNone) = true := by kernel_rfl
end Go.Proofs.YtmpengeeielffaaGreatDoor.nob
