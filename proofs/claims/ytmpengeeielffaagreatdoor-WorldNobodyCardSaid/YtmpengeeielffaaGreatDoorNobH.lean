/-
  WorldNobody: closed facts of its card.
  Conditions: the row's own (the program's five listed variables start as its text lays them; the card ties them to the text).
-/
import Derived.Test.YtmpengeeielffaaGreatDoorCards
import Derived.SevenTiedAt
import Derived.KernelRfl
namespace Go.Proofs.YtmpengeeielffaaGreatDoor.nob
open Go
set_option maxRecDepth 100000
theorem h_wf : Rows.worldNobodyRow.wfByText (OpenSpec.ofChange Rows.worldNobodySpec) = true := by kernel_rfl
theorem h_main : Tryz.pinned.checked.prog.mainIs = some ((true, "5efc00fbf4bd38ee855e7c8a85eabba9c4292016c424bd49e870d00ef1109202").1, (true, "5efc00fbf4bd38ee855e7c8a85eabba9c4292016c424bd49e870d00ef1109202").2.toList) := by kernel_rfl
end Go.Proofs.YtmpengeeielffaaGreatDoor.nob
