/- WorldNobody: closed facts of its row, each a theorem of its own, part 4. No conditions. -/
import Derived.Test.YtmpengeeielffaaGreatDoorNobC3
import Derived.JoinedCond
namespace Go.Proofs.YtmpengeeielffaaGreatDoor.nob
open Go
set_option maxRecDepth 100000
theorem j24 : (P.stopsHeard) = true := by kernel_rfl
theorem j25 : (P.mayEnter) = true := by kernel_rfl
theorem j26 : ((c.lifted == P.liftsFinal)) = true := by kernel_rfl
theorem j27 : ((P.make == some c.make)) = true := by kernel_rfl
theorem j28 : ((c.kinds == (if c.domain.isEmpty then [] else fn.params.toList.map fun t => match P.underlying t with | some (.int k) => some k | _ => none))) = true := by kernel_rfl
theorem j29 : ((c.pinned == c.pinnedBy)) = true := by kernel_rfl
theorem j30 : ((c.veiled == (fn.params.toList ++ s.plain.varTypes P ++ fn.resultTypes.toList).any (P.veiledRec ·))) = true := by kernel_rfl
theorem j31 : (c.veiledFits P fn.params.toList (fn.params.toList ++ s.plain.varTypes P ++ fn.resultTypes.toList)) = true := by kernel_rfl
theorem an {a b : Bool} (h : a = true) (k : b = true) : (a && b) = true := by rw [h, k]; rfl
theorem f_closed : joinedFacts P 3 fn s c = true := by
  unfold joinedFacts
  exact an (an (an (an (an (an (an (an (an (an (an (an (an (an (an (an (an (an (an (an (an (an (an (an (an (an (an (an (an (an (an (j0) j1) j2) j3) j4) j5) j6) j7) j8) j9) j10) j11) j12) j13) j14) j15) j16) j17) j18) j19) j20) j21) j22) j23) j24) j25) j26) j27) j28) j29) j30) j31
end Go.Proofs.YtmpengeeielffaaGreatDoor.nob
