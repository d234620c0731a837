/- WorldNobody: closed facts of its row, each a theorem of its own, part 1. No conditions. -/
import Derived.Test.YtmpengeeielffaaGreatDoorNobFacts
import Derived.JoinedCond
namespace Go.Proofs.YtmpengeeielffaaGreatDoor.nob
open Go
set_option maxRecDepth 100000
noncomputable def P : Program := Tryz.pinned.checked.prog
noncomputable def fn : Func := Tryz.f3
noncomputable def s : ChangeSpec := (OpenSpec.ofChange Rows.worldNobodySpec).bare
noncomputable def c : OpenClaim := Rows.worldNobodyRow
theorem j0 : (c.wf (OpenSpec.ofChange s)) = true := by kernel_rfl
end Go.Proofs.YtmpengeeielffaaGreatDoor.nob
