/- WorldNobody: closed facts of its row, each a theorem of its own. No conditions. -/
import Derived.Test.YtmpengeeielffaaGreatDoorRows
import Derived.ProofKit
namespace Go.Proofs.YtmpengeeielffaaGreatDoor.nob
open Go
set_option maxRecDepth 100000
theorem f_named : Tryz.pinned.checked.prog.funcNamed Rows.worldNobodyRow.func = some 3 := by kernel_rfl
theorem f_inst : Tryz.f3.isInstance Tryz.pinned.checked.prog Rows.worldNobodyRow.origin Rows.worldNobodyRow.targs := of_decide_eq_true (by kernel_rfl)
theorem f_wrap : Tryz.f3.isWrapper Tryz.pinned.checked.prog Rows.worldNobodyRow.wrapper Rows.worldNobodyRow.mainSum := by unfold Func.isWrapper; first | (rw [if_pos (by decide +kernel)]; kernel_rfl) | (rw [if_neg (by decide +kernel)]; exact ⟨rfl, rfl⟩)
end Go.Proofs.YtmpengeeielffaaGreatDoor.nob
