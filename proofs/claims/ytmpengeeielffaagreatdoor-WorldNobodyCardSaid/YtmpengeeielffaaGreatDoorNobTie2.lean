/- WorldNobody: what the listed variables hold behind the run of the program's own statements that lay them: each fact a theorem of its own. No conditions. -/
import Derived.Test.YtmpengeeielffaaGreatDoorNobTie
namespace Go.Proofs.YtmpengeeielffaaGreatDoor.nob
open Go
theorem d1 : ∀ os tape, varsDone Tryz.prog 400 564 os tape = true := fun _ _ => by kernel_rfl
theorem w7 : Tryz.prog.funcNamed "gosem.cut.vars" = some 564 := by kernel_rfl
theorem w8 : varsNamedLaterB Tryz.prog 564 L = true := by kernel_rfl
end Go.Proofs.YtmpengeeielffaaGreatDoor.nob
