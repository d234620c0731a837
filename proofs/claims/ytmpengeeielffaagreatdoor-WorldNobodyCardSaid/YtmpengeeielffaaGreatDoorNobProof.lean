/-
  WorldNobody: a world that no call made answers ErrNil or zero values at every method, and New of a tree without zones answers ErrArg: the law returns true for every input, with its argument as it was.
  Conditions: the row's own (the program's five listed variables start as its text lays them; the card ties them to the text).
-/
import Derived.Test.YtmpengeeielffaaGreatDoorCards
import Derived.Test.YtmpengeeielffaaGreatDoorNobTie3
import Derived.Test.YtmpengeeielffaaGreatDoorNobC4
import Derived.Test.YtmpengeeielffaaGreatDoorNob
import Derived.ProofKit
import Derived.OpenShut
import Derived.Carry
import Derived.Deep.DeepHandedRow
import Derived.Lib.LaidTab
namespace Go.Proofs.YtmpengeeielffaaGreatDoor.nob
open Go.ChangeShapes Go.WideShapes Go.ChangeAt Go.RowKit
set_option maxRecDepth 100000

theorem own : ownKnob Tryz.prog.godebug = none := by kernel_rfl

theorem list5 {α : Type} {l : List α} (h : l.length = 5) : ∃ c0 c1 c2 c3 c4, l = [c0, c1, c2, c3, c4] := by
  match l, h with
  | [c0, c1, c2, c3, c4], _ => exact ⟨c0, c1, c2, c3, c4, rfl⟩
theorem cells26 : Tryz.prog.cellsOf 26 = 5 := by kernel_rfl
theorem cells3 : Tryz.prog.cellsOf 3 = 1 := by kernel_rfl

section
variable {H : Type} {enc : TypeId × Value → H} {W : World} {base : Nat} {sp : Nat → Bool} {held : Bool}
theorem field_of {t : TypeId} {fs : Array Field} {fuel : Nat} {cs : List Value} {x : DataW H × List MemPlace} (ht : Tryz.prog.underlying t = some (.struct fs)) (h : DataW.trod enc Tryz.prog W base sp held fuel t cs = some x) (i T off n : Nat) (hf : (fs[i]?).map (fun f => (f.type, f.offset)) = some (T, off)) (hc : Tryz.prog.cellsOf T = n) (l : List Value) (hl : (cs.drop off).take n = l) :
    ∃ m y, DataW.trod enc Tryz.prog W base sp held m T l = some y := by
  subst hl hc
  obtain ⟨xs, n, _, _, _, hlen, hall⟩ := DataW.trod_struct ht h
  cases hi : fs[i]? with
  | none => rw [hi] at hf; cases hf
  | some f =>
    rw [hi] at hf
    obtain ⟨rfl, rfl⟩ : f.type = T ∧ f.offset = off := by simpa using hf
    have := hall i f hi
    have hi : i < xs.length := by
      rw [hlen]
      rcases Nat.lt_or_ge i fs.size with h' | h'
      · exact h'
      · rw [Array.getElem?_eq_none h'] at hi; cases hi
    rw [List.getElem?_eq_getElem hi] at this
    exact ⟨n, _, this⟩
theorem int_of {c : Value} {n : Nat} {y : DataW H × List MemPlace} (h : DataW.trod enc Tryz.prog W base sp held n 3 [c] = some y) : ∃ k, c = .int .i64 k := by
  obtain ⟨k, hk, _⟩ := DataW.trod_int Tryz.underlying3 h
  exact ⟨k, by simpa using hk⟩
theorem open_do {r : Reach} {b0 : Nat} {v : Value} {d : DataW H} {p : List MemPlace} (hv : Value.okWide Tryz.prog W r b0 26 v) (h : DataW.Trod enc Tryz.prog W base sp held 26 v d p) :
    ∃ (c0 c1 : Int) (s2 s3 s4 : Value), v = .agg #[.int .i64 c0, .int .i64 c1, s2, s3, s4] := by
  obtain ⟨⟨l⟩, rfl, hsz⟩ := okWide_struct Tryz.underlying26 hv
  obtain ⟨c0, c1, c2, c3, c4, rfl⟩ := list5 (l := l) (by simpa [cells26] using hsz)
  obtain ⟨fuel, hf⟩ := h
  replace hf : DataW.trod enc Tryz.prog W base sp held fuel 26 [c0, c1, c2, c3, c4] = some (d, p) := hf
  obtain ⟨_, _, g0⟩ := field_of Tryz.underlying26 hf 0 3 0 1 rfl cells3 [c0] rfl
  obtain ⟨_, _, g1⟩ := field_of Tryz.underlying26 hf 1 3 1 1 rfl cells3 [c1] rfl
  obtain ⟨_, rfl⟩ := int_of g0
  obtain ⟨_, rfl⟩ := int_of g1
  exact ⟨_, _, _, _, _, rfl⟩
end

theorem laid_ok : laidOutB Tryz.prog = true := j1
theorem read26 : Tryz.prog.readableRec 26 = true := by kernel_rfl
theorem rows26 : 26 < Tryz.prog.types.size := of_decide_eq_true (by kernel_rfl)
theorem kept_of_below {W W' : World} (h : Below W.heap.size W W') (may : MemPlace → Prop) : W.keptBut W' may :=
  ⟨h.os, h.output, fun i hi => by rw [h.block i hi]; exact (World.keptBut_refl W may).2.2 i hi⟩

theorem contract (H : Type) (enc : TypeId × Value → H) (W : World) (base : Nat) (args : Array Value) (ds gs : List (DataW H)) (before : List MemPlace)
    (hval : ∀ (j : Nat) t v, Tryz.f3.params[j]? = some t → args[j]? = some v → Value.okWide Tryz.prog W .any base t v)
    (hW : DataW.Whole enc Tryz.prog Tryz.f3.params.toList Rows.worldNobodySpec.vars false W args.toList ds gs before) :
    Calls Tryz.prog 3 args W fun e W' => ∃ v, e = .returned v ∧ Rows.worldNobodySpec.post enc Tryz.prog Tryz.f3 false true false false W args v W' := by
  have hW' := hW
  have hlt := hW.lt
  obtain ⟨p, q, hA0, hV, rfl, hfz, hnd⟩ := hW
  have hA : DataW.TrodAll enc Tryz.prog W 0 (fun _ => true) true Tryz.f3.params.toList args.toList ds p := hA0
  rw [Tryz.params3] at hA hval
  obtain ⟨v0, vs0, d0, ds0, p0, q0, hargs, rfl, rfl, h0, r0⟩ := trodAll_cons hA
  obtain ⟨rfl, rfl, rfl⟩ := trodAll_nil r0
  obtain rfl : args = #[v0] := by cases args; simp_all
  obtain ⟨rfl, rfl⟩ := trodVars_none hV
  have hv := hval 0 26 v0 rfl rfl
  obtain ⟨c0, c1, s2, s3, s4, rfl⟩ := open_do hv h0
  clear hA0
  simp only [List.append_nil] at hW' hlt
  refine (walk c0 c1 s2 s3 s4 W).mono fun e W' ⟨he, hb⟩ => ?_
  subst he
  have hb0 := Below.trod laid_ok read26 rows26 h0 hb hlt
  have hz := trodAll_cons_mk hb0 trodAll_mk0
  simp only [List.append_nil] at hz
  exact ⟨_, rfl, [d0], [], p0, [], p0, [], hW', trodAll_cons_mk (shut_bool Tryz.underlying4 _) trodAll_mk0, hz, rfl, kept_of_below hb _, fun h => by cases h⟩

/-- the cells of a listed table -/
def litV : DataW Unit → Value
  | .lit (.int k n) => .int k n
  | _ => undef
def tabCells : DataW Unit → Array Value
  | .agg l => (l.map litV).toArray
  | _ => #[]
def lay (g : Nat) (d : DataW Unit) (h : Array Obj) : Array Obj := h.modify g fun
  | .cells _ t frozen => .cells (tabCells d) t frozen
  | o => o
noncomputable def args0 : Value := .agg #[.int .i64 0, .int .i64 0, .slice none 0 0, .slice none 0 0, .slice none 0 0]
/-- A WORLD FOR THE WITNESS: the settled one, with the listed tables laid. -/
noncomputable def laidWorld (os : Os) : World :=
  { World.holding Tryz.prog os ⟨#[], #[], []⟩ with heap := lay 0 Rows.laid_cicerone_digest_begin (lay 1 Rows.laid_cicerone_digest_k (lay 2 Rows.laid_internal_strconv_uint64pow10 (lay 4 Rows.laid_math_bits_deBruijn32tab (lay 5 Rows.laid_math_bits_deBruijn64tab (World.holding Tryz.prog os ⟨#[], #[], []⟩).heap)))) }
theorem laid_met (os : Os) : laidMet Tryz.prog Rows.worldNobodyRow.laid ((laidWorld os).forCall (fun _ _ => 0) ⟨#[], #[args0], []⟩).memory :=
  laidMet_of_run' 8 (by kernel_rfl) (by kernel_rfl)
def data0 {H : Type} : DataW H := .agg [.lit (.int .i64 0), .lit (.int .i64 0), .nil, .nil, .nil]
theorem reads (os : Os) {H : Type} (enc : TypeId × Value → H) : ∃ places, DataW.whole enc Tryz.prog ((laidWorld os).forCall (fun _ _ => 0) ⟨#[], #[args0], []⟩).memory Tryz.f3.params.toList Rows.worldNobodySpec.vars false #[args0].toList 8 = some ([data0], [], places) :=
  ⟨[], by kernel_rfl⟩

theorem lifted (os : Os) (started : os.Started) (H : Type) (enc : TypeId × Value → H) (F : Stop.Interp) :
    ReturnsInHanded {} Tryz.checked os 3 .any ((OpenSpec.ofChange Rows.worldNobodySpec).preRow enc Tryz.prog Tryz.f3 Rows.worldNobodyRow.domain false Rows.worldNobodyRow.laid) (((OpenSpec.ofChange Rows.worldNobodySpec).at F).post enc Tryz.prog Tryz.f3 false true false false) := by
  obtain ⟨places, hx⟩ := reads os enc
  refine returnsInHanded_of_row (C := Tryz.checked) (s := OpenSpec.ofChange Rows.worldNobodySpec) own started (by kernel_rfl) Tryz.func3
    (witness_row_at (enc := enc) (C := Tryz.checked) false (laidWorld os) #[args0] rfl (by kernel_rfl) (by kernel_rfl) (by kernel_rfl)
      (OpenSpec.preRow_of_cond 8 hx (by kernel_rfl) (fun k hk => by cases hk) (by kernel_rfl) (laid_met os))) ?_
  intro W base args ds gs before hval hW _ _ _ hL _ _
  exact contract H enc W base args ds gs before hval hW

theorem said : Rows.WorldNobodySaid :=
  OpenClaim.holds_of_cond 3 Tryz.f3 rfl rfl rfl rfl rfl rfl rfl ⟨rfl, rfl, rfl, rfl, rfl⟩ rfl rfl rfl rfl rfl f_named Tryz.func3 f_closed f_inst f_wrap
    (fun os started H enc _ F => by rw [OpenClaim.pre_eq_preRow]; exact lifted os started H enc F)

theorem looks_true : true = Tryz.pinned.checked.prog.looks [] := by kernel_rfl
theorem wants26 : Tryz.prog.wantsStandIn 26 = false := by kernel_rfl
theorem plain (f : FuncId) (fn : Func) (hf : Tryz.pinned.checked.prog.funcNamed "cicerone/ciceronelaw23.WorldNobody" = some f) (hfn : Tryz.pinned.checked.prog.funcs[f]? = some fn) :
    true = Tryz.pinned.checked.prog.looks [] ∧ ∀ (j : Nat) t, fn.params[j]? = some t → Tryz.pinned.checked.prog.wantsStandIn t = false := by
  obtain rfl : f = 3 := Option.some.inj (Eq.trans (Eq.symm f_named) hf) |>.symm
  obtain rfl : fn = Tryz.f3 := (Option.some.inj (Tryz.func3.symm.trans hfn)).symm
  refine ⟨looks_true, fun j t ht => ?_⟩
  rw [Tryz.params3] at ht
  obtain rfl : t = 26 := by simpa using Array.mem_of_getElem? ht
  exact wants26

end Go.Proofs.YtmpengeeielffaaGreatDoor.nob
