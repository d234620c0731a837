/- WorldNobody: the five listed variables start as the program's text lays them: the given tie's facts, each a theorem of its own (in one theorem they outgrow the limit on memory). No conditions. -/
import Derived.Test.YtmpengeeielffaaGreatDoorRows
import Derived.LaidByTextLater
import Derived.SevenTiedAt
namespace Go.Proofs.YtmpengeeielffaaGreatDoor.nob
open Go
def L : List (String × DataW Unit) := [("cicerone/digest.begin", Rows.laid_cicerone_digest_begin), ("cicerone/digest.k", Rows.laid_cicerone_digest_k), ("internal/strconv.uint64pow10", Rows.laid_internal_strconv_uint64pow10), ("math/bits.deBruijn32tab", Rows.laid_math_bits_deBruijn32tab), ("math/bits.deBruijn64tab", Rows.laid_math_bits_deBruijn64tab)]
theorem noOwn : Tryz.pinned.checked.prog.headLifts.contains "ownunsafe" = false := by kernel_rfl
theorem w1 : Tryz.prog.worded (varsWordLater true) = true := by kernel_rfl
theorem w2 : Tryz.prog.worded (varsWordLater !true) = false := by kernel_rfl
theorem w3 : Tryz.prog.worded rootWordLater = true := by kernel_rfl
theorem w4 : L.map (fun x => Tryz.prog.kindOfLater x.1) = ([.data, .data, .data, .data, .data] : List LaidKind).map some := by kernel_rfl
end Go.Proofs.YtmpengeeielffaaGreatDoor.nob
