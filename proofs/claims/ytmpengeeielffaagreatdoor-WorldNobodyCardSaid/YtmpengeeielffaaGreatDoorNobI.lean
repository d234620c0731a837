/-
  WorldNobody: closed facts of its card (2).
  Conditions: the row's own (the program's five listed variables start as its text lays them; the card ties them to the text).
-/
import Derived.Test.YtmpengeeielffaaGreatDoorNobH

namespace Go.Proofs.YtmpengeeielffaaGreatDoor.nob
open Go
set_option maxRecDepth 100000
theorem all_quiet : Tryz.pinned.checked.prog.funcs.toList.any Func.goes = false := by kernel_rfl
theorem goes_none {P : Program} (h : P.funcs.toList.any Func.goes = false) (f : FuncId) : P.goes f = false := by
  have h1 : ∀ g : Nat, (P.funcs[g]?).any Func.goes = false := by
    intro g
    cases hg : P.funcs[g]? with
    | none => rfl
    | some fn =>
      have hm : fn ∈ P.funcs.toList := by
        have := Array.mem_of_getElem? hg
        exact Array.mem_toList_iff.2 this
      simp only [Option.any_some]
      cases hq : fn.goes with
      | false => rfl
      | true =>
        have : P.funcs.toList.any Func.goes = true := List.any_eq_true.2 ⟨fn, hm, hq⟩
        rw [h] at this
        cases this
  have h2 : P.funcs.any Func.goes = false := by
    rw [← Array.any_toList]
    exact h
  unfold Program.goes
  simp [h1, h2]
theorem h_goes : false = Rows.worldNobodyRow.goesBy Tryz.pinned.checked.prog := by
  unfold OpenClaim.goesBy Program.goesAt Program.goesFrom
  have e : Rows.worldNobodyRow.start = .entering := rfl
  rw [e]
  cases hf : Tryz.pinned.checked.prog.funcNamed Rows.worldNobodyRow.func with
  | none => rfl
  | some f => simp [goes_none all_quiet f]
end Go.Proofs.YtmpengeeielffaaGreatDoor.nob
