/-
  WorldNobody: a world that no call made answers ErrNil or zero values at every method, and New of a tree without zones answers ErrArg: the law returns true for every input, with its argument as it was: the card.
  Conditions: the row's own (the program's five listed variables start as its text lays them; the card ties them to the text).
-/
import Derived.Test.YtmpengeeielffaaGreatDoorNobProof
import Derived.Test.YtmpengeeielffaaGreatDoorNobI
namespace Go.Proofs.YtmpengeeielffaaGreatDoor.nob
open Go
set_option maxRecDepth 100000
/-- THE CARD -/
theorem card : Rows.WorldNobodyCardSaid :=
  Claim7.holds_tied_plain_at .later [] _ _ _ _ said (fun _ h => by cases h) h_wf (fun _ h => by cases h) row_tie rfl ⟨rfl, rfl⟩ h_main rfl plain h_goes
#print axioms card
end Go.Proofs.YtmpengeeielffaaGreatDoor.nob
