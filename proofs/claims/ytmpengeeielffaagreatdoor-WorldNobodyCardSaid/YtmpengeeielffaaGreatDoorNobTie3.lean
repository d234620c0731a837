/- WorldNobody: the tie of its row: the listed variables read as the program's text lays them. No conditions. -/
import Derived.Test.YtmpengeeielffaaGreatDoorNobTie2
namespace Go.Proofs.YtmpengeeielffaaGreatDoor.nob
open Go
theorem d2 : ∀ os tape, (DataW.laidRun Tryz.prog (varsWorld Tryz.prog 400 564 os tape).memory 8 (L.map (·.1))).map (·.1) = some L := fun _ _ => by kernel_rfl
theorem d3 : ∀ os tape, (DataW.laidRun Tryz.prog (varsWorld Tryz.prog 400 564 os tape).memory 8 (L.map (·.1))).map (fun x => decide x.2.Nodup && laidRowsB Tryz.prog (varsWorld Tryz.prog 400 564 os tape).memory x.2) = some true := fun _ _ => by kernel_rfl
theorem tie : Tryz.prog.laidByTextLater L [.data, .data, .data, .data, .data] true :=
  Program.laidByTextLater_of_run 564 400 8 w1 w2 w3 w4 w7 w8 d1 d2 d3
theorem row_tie : Rows.worldNobodyRow.laidByTextAt .later Tryz.pinned [.data, .data, .data, .data, .data] true :=
  OpenClaim.laidByTextAt_later rfl rfl tie noOwn
end Go.Proofs.YtmpengeeielffaaGreatDoor.nob
