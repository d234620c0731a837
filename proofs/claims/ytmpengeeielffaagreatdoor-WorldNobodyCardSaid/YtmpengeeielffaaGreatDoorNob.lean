/- WorldNobody: the walk: every method of a world that no call made answers ErrNil or zero values, and a tree without zones is refused. No conditions. -/
import Derived.Test.YtmpengeeielffaaGreatDoorRows
import Derived.WalkKit
import Derived.Outline
import Derived.Below
import Derived.Lib.Hide
import Derived.Lib.QuietBelow
namespace Go.Proofs.YtmpengeeielffaaGreatDoor.nob
open Go Go.RowKit Go.Sort
set_option maxRecDepth 100000

/-- a world that no call made -/
structure Zero (w : World) (b : Nat) : Prop where
  c0 : w.cell? ⟨b, 0, none⟩ = some (.pointer none)
  c4 : w.cell? ⟨b, 4, none⟩ = some (.int .i64 0)
  c6 : w.cell? ⟨b, 6, none⟩ = some (.pointer none)
  c7 : w.cell? ⟨b, 7, none⟩ = some (.slice none 0 0)
  c8 : w.cell? ⟨b, 8, none⟩ = some (.slice none 0 0)
  c9 : w.cell? ⟨b, 9, none⟩ = some (.int .i64 0)
theorem Zero.below {w w' : World} {b B : Nat} (h : Zero w b) (hb : Below B w w') (hB : b < B) : Zero w' b := by
  have hc : ∀ o, w'.cell? ⟨b, o, none⟩ = w.cell? ⟨b, o, none⟩ := fun o => hb.cell (p := ⟨b, o, none⟩) hB
  exact ⟨(hc _).trans h.c0, (hc _).trans h.c4, (hc _).trans h.c6, (hc _).trans h.c7, (hc _).trans h.c8, (hc _).trans h.c9⟩

theorem runs_nil (w : World) : Calls Tryz.prog 12 #[.pointer none] w fun e w' => e = .returned (.bool false) ∧ w = w' := by
  go_enter Tryz.func12, Tryz.ntmps12
  go_wp2
  go_ret
  exact ⟨rfl, rfl⟩
theorem runs_zero (w : World) (b : Nat) (h : Zero w b) : Calls Tryz.prog 12 #[.pointer (some ⟨b, 0, none⟩)] w fun e w' => e = .returned (.bool false) ∧ w = w' := by
  obtain ⟨c0, c4, c6, c7, c8, c9⟩ := h
  go_enter Tryz.func12, Tryz.ntmps12
  go_wp2
  go_ret
  exact ⟨rfl, rfl⟩
def Nob (w : World) (s : Value) : Prop := s = .pointer none ∨ ∃ b, s = .pointer (some ⟨b, 0, none⟩) ∧ Zero w b
theorem runs_any (w : World) (s : Value) (h : Nob w s) : Calls Tryz.prog 12 #[s] w fun e w' => e = .returned (.bool false) ∧ w = w' := by
  rcases h with rfl | ⟨b, rfl, hc⟩
  · exact runs_nil w
  · exact runs_zero w b hc
theorem do_nil (w : World) (cs : Array Value) : Calls Tryz.prog 4 #[.pointer none, .agg cs] w fun e w' => e = .returned (.int .i64 2) ∧ Below w.heap.size w w' := by
  go_enter Tryz.func4, Tryz.ntmps4
  go_wp2
  go_ret
  exact ⟨rfl, (Below.refl _ _).alloc (Nat.le_refl _) _⟩
theorem do_zero (w : World) (cs : Array Value) (b : Nat) (h : Zero w b) : Calls Tryz.prog 4 #[.pointer (some ⟨b, 0, none⟩), .agg cs] w fun e w' => e = .returned (.int .i64 2) ∧ Below w.heap.size w w' := by
  obtain ⟨c0, c4, c6, c7, c8, c9⟩ := h
  have hlt : b < w.heap.size := World.block_lt_of_cell? _ ⟨b, 0, none⟩ c0
  go_enter Tryz.func4, Tryz.ntmps4
  go_wp2
  go_ret
  exact ⟨rfl, (Below.refl _ _).alloc (Nat.le_refl _) _⟩
theorem now_nil (w : World) : Calls Tryz.prog 5 #[.pointer none] w fun e w' => e = .returned (.int .i64 0) ∧ w = w' := by
  go_enter Tryz.func5, Tryz.ntmps5
  go_wp2
  go_ret
  exact ⟨rfl, rfl⟩
theorem now_zero (w : World) (b : Nat) (h : Zero w b) : Calls Tryz.prog 5 #[.pointer (some ⟨b, 0, none⟩)] w fun e w' => e = .returned (.int .i64 0) ∧ w = w' := by
  obtain ⟨c0, c4, c6, c7, c8, c9⟩ := h
  go_enter Tryz.func5, Tryz.ntmps5
  go_wp2
  go_ret
  exact ⟨rfl, rfl⟩
theorem journal_nil (w : World) : Calls Tryz.prog 6 #[.pointer none] w fun e w' => e = .returned (.slice none 0 0) ∧ w = w' := by
  go_enter Tryz.func6, Tryz.ntmps6
  go_wp2
  go_ret
  exact ⟨rfl, rfl⟩
theorem journal_zero (w : World) (b : Nat) (h : Zero w b) : Calls Tryz.prog 6 #[.pointer (some ⟨b, 0, none⟩)] w fun e w' => e = .returned (.slice none 0 0) ∧ w = w' := by
  have h' := Lib.hid h
  obtain ⟨c0, c4, c6, c7, c8, c9⟩ := h
  go_enter Tryz.func6, Tryz.ntmps6
  go_wp2_with fail
  refine wp_loop_once ?_
  go_wp2_with (go_at_call 12; refine (runs_zero _ _ h'.out).mono ?_; rintro e w' ⟨rfl, rfl⟩)
  go_ret
  exact ⟨rfl, rfl⟩
theorem eql_nil (w : World) : (binOp .eql 33 (.slice none 0 0) (.slice none 0 0)).run Tryz.prog w = .ok (.bool true) w := by
  have h1 : ∀ d, (Op.equalIn (d + 1) 33 (.slice none 0 0) (.slice none 0 0)).run Tryz.prog w = .ok true w := by
    intro d
    unfold Op.equalIn
    simp [underlying, Tryz.underlying33]
  have h2 : (Op.equal 33 (.slice none 0 0) (.slice none 0 0)).run Tryz.prog w = .ok true w := h1 9999
  simp [binOp, h2]
theorem clone_nil (w : World) : Calls Tryz.prog 22 #[.slice none 0 0] w fun e w' => e = .returned (.slice none 0 0) ∧ w = w' := by
  have he := eql_nil
  go_enter Tryz.func22, Tryz.ntmps22
  go_wp2
  go_ret
  exact ⟨rfl, rfl⟩
theorem accepts_nil (w : World) : Calls Tryz.prog 7 #[.pointer none] w fun e w' => e = .returned (.slice none 0 0) ∧ w = w' := by
  go_enter Tryz.func7, Tryz.ntmps7
  go_wp2
  go_ret
  exact ⟨rfl, rfl⟩
theorem accepts_zero (w : World) (b : Nat) (h : Zero w b) : Calls Tryz.prog 7 #[.pointer (some ⟨b, 0, none⟩)] w fun e w' => e = .returned (.slice none 0 0) ∧ w = w' := by
  obtain ⟨c0, c4, c6, c7, c8, c9⟩ := h
  go_enter Tryz.func7, Tryz.ntmps7
  go_wp2_with (go_at_call 22; refine (clone_nil _).mono ?_; rintro e w' ⟨rfl, rfl⟩)
  refine wp_loop_once ?_
  go_wp2
  go_ret
  exact ⟨rfl, rfl⟩
theorem out_any (w : World) (s : Value) (n : Int) (h : Nob w s) : Calls Tryz.prog 8 #[s, .int .i64 n] w fun e w' => e = .returned (.slice none 0 0) ∧ w = w' := by
  have H := Lib.hid h; clear h
  go_enter Tryz.func8, Tryz.ntmps8
  go_wp2_with (go_at_call 12; refine (runs_any _ _ H.out).mono ?_; rintro e w' ⟨rfl, rfl⟩)
  go_ret
  exact ⟨rfl, rfl⟩
theorem conns_any (w : World) (s : Value) (h : Nob w s) : Calls Tryz.prog 9 #[s] w fun e w' => e = .returned (.slice none 0 0) ∧ w = w' := by
  have H := Lib.hid h; clear h
  go_enter Tryz.func9, Tryz.ntmps9
  go_wp2_with (go_at_call 12; refine (runs_any _ _ H.out).mono ?_; rintro e w' ⟨rfl, rfl⟩)
  go_ret
  exact ⟨rfl, rfl⟩
theorem busy_any (w : World) (s : Value) (h : Nob w s) : Calls Tryz.prog 10 #[s] w fun e w' => e = .returned (.int .i64 0) ∧ w = w' := by
  have H := Lib.hid h; clear h
  go_enter Tryz.func10, Tryz.ntmps10
  go_wp2_with (go_at_call 12; refine (runs_any _ _ H.out).mono ?_; rintro e w' ⟨rfl, rfl⟩)
  go_ret
  exact ⟨rfl, rfl⟩
theorem sent_nil (w : World) : Calls Tryz.prog 11 #[.pointer none] w fun e w' => e = .returned (.int .i64 0) ∧ w = w' := by
  go_enter Tryz.func11, Tryz.ntmps11
  go_wp2
  go_ret
  exact ⟨rfl, rfl⟩
theorem sent_zero (w : World) (b : Nat) (h : Zero w b) : Calls Tryz.prog 11 #[.pointer (some ⟨b, 0, none⟩)] w fun e w' => e = .returned (.int .i64 0) ∧ w = w' := by
  obtain ⟨c0, c4, c6, c7, c8, c9⟩ := h
  go_enter Tryz.func11, Tryz.ntmps11
  go_wp2
  go_ret
  exact ⟨rfl, rfl⟩
theorem store_any (w : World) (s : Value) (h : Nob w s) : Calls Tryz.prog 13 #[s] w fun e w' => e = .returned (.pointer none) ∧ w = w' := by
  have H := Lib.hid h; clear h
  go_enter Tryz.func13, Tryz.ntmps13
  go_wp2_with (go_at_call 12; refine (runs_any _ _ H.out).mono ?_; rintro e w' ⟨rfl, rfl⟩)
  go_ret
  exact ⟨rfl, rfl⟩
theorem disk_nil (w : World) : Calls Tryz.prog 14 #[.pointer none] w fun e w' => e = .returned (.pointer none) ∧ w = w' := by
  go_enter Tryz.func14, Tryz.ntmps14
  go_wp2
  go_ret
  exact ⟨rfl, rfl⟩
theorem disk_zero (w : World) (b : Nat) (h : Zero w b) : Calls Tryz.prog 14 #[.pointer (some ⟨b, 0, none⟩)] w fun e w' => e = .returned (.pointer none) ∧ w = w' := by
  obtain ⟨c0, c4, c6, c7, c8, c9⟩ := h
  go_enter Tryz.func14, Tryz.ntmps14
  go_wp2
  go_ret
  exact ⟨rfl, rfl⟩
/-- a tree without zones -/
def noTree : Value := .agg #[.slice none 0 0, .slice none 0 0]
theorem can_none (w : World) : Calls Tryz.prog 60 #[noTree] w fun e w' => e = .returned (.bool false) ∧ Below w.heap.size w w' := by
  unfold noTree
  go_enter Tryz.func60, Tryz.ntmps60
  go_wp2
  go_ret
  exact ⟨rfl, (Below.refl _ _).alloc (Nat.le_refl _) _⟩
theorem servers_none (w : World) : Calls Tryz.prog 26 #[noTree] w fun e w' => e = .returned (.tuple #[.pointer none, .int .i64 1]) ∧ Below w.heap.size w w' := by
  unfold noTree
  go_enter Tryz.func26, Tryz.ntmps26
  go_wp2_with (go_at_call 60; refine (can_none _).mono ?_; rintro e w' ⟨rfl, hb⟩)
  go_ret2
  exact ⟨rfl, ((Below.refl _ _).alloc (Nat.le_refl _) _).trans (hb.mono (by simp))⟩
theorem new_none (w : World) (a b : Int) : Calls Tryz.prog 15 #[noTree, .int .i64 a, .int .i64 b] w fun e w' => e = .returned (.tuple #[.pointer none, .int .i64 1]) ∧ Below w.heap.size w w' := by
  unfold noTree
  go_enter Tryz.func15, Tryz.ntmps15
  go_wp2_with (go_at_call 26; refine (servers_none _).mono ?_; rintro e w' ⟨rfl, hb⟩)
  go_ret2
  exact ⟨rfl, ((Below.refl _ _).alloc (Nat.le_refl _) _).trans (hb.mono (by simp))⟩
/-- what the loop leans on: s's cells, the slice of two worlds, the zero world -/
structure Held (N : Nat) (c0 c1 : Int) (s2 s3 s4 : Value) (w : World) : Prop where
  size : N + 3 ≤ w.heap.size
  a0 : w.cell? ⟨N, 0, none⟩ = some (.int .i64 c0)
  a1 : w.cell? ⟨N, 1, none⟩ = some (.int .i64 c1)
  a2 : w.cell? ⟨N, 2, none⟩ = some s2
  a3 : w.cell? ⟨N, 3, none⟩ = some s3
  a4 : w.cell? ⟨N, 4, none⟩ = some s4
  z : Zero w (N + 1)
  t0 : w.cell? ⟨N + 1 + 1, 0, none⟩ = some (.pointer none)
  t1 : w.cell? ⟨N + 1 + 1, 1, none⟩ = some (.pointer (some ⟨N + 1, 0, none⟩))
theorem Held.below {N : Nat} {c0 c1 : Int} {s2 s3 s4 : Value} {w w' : World} {B : Nat} (h : Held N c0 c1 s2 s3 s4 w) (hb : Below B w w') (hB : N + 3 ≤ B) : Held N c0 c1 s2 s3 s4 w' := by
  have hc : ∀ b o, b < B → w'.cell? ⟨b, o, none⟩ = w.cell? ⟨b, o, none⟩ := fun b o h => hb.cell (p := ⟨b, o, none⟩) h
  have hs := hb.size
  constructor
  · exact Nat.le_trans h.size hs
  · rw [hc _ _ (by omega)]; exact h.a0
  · rw [hc _ _ (by omega)]; exact h.a1
  · rw [hc _ _ (by omega)]; exact h.a2
  · rw [hc _ _ (by omega)]; exact h.a3
  · rw [hc _ _ (by omega)]; exact h.a4
  · exact h.z.below hb (by omega)
  · rw [hc _ _ (by omega)]; exact h.t0
  · rw [hc _ _ (by omega)]; exact h.t1
theorem three (w : World) (a b c : Obj) : (((w.alloc a).alloc b).alloc c).heap[w.heap.size]? = some a ∧ (((w.alloc a).alloc b).alloc c).heap[w.heap.size + 1]? = some b ∧ (((w.alloc a).alloc b).alloc c).heap[w.heap.size + 1 + 1]? = some c := by
  refine ⟨?_, ?_, ?_⟩ <;> simp only [World.alloc, Array.getElem?_push, Array.size_push]
  · rw [if_neg (by omega), if_neg (by omega), if_pos trivial]
  · rw [if_neg (by omega), if_pos trivial]
  · rw [if_pos trivial]
theorem held_start (c0 c1 : Int) (s2 s3 s4 : Value) (w : World) (T1 T2 T3 : Nat) :
    Held w.heap.size c0 c1 s2 s3 s4 (((w.alloc (.cells #[.int .i64 c0, .int .i64 c1, s2, s3, s4] T1)).alloc (.cells #[.pointer none, .slice none 0 0, .pointer none, .int .i64 0, .int .i64 0, .slice none 0 0, .pointer none, .slice none 0 0, .slice none 0 0, .int .i64 0] T2)).alloc (.cells #[.pointer none, .pointer (some ⟨w.heap.size + 1, 0, none⟩)] T3)) := by
  obtain ⟨h0, h1, h2⟩ := three w (.cells #[.int .i64 c0, .int .i64 c1, s2, s3, s4] T1) (.cells #[.pointer none, .slice none 0 0, .pointer none, .int .i64 0, .int .i64 0, .slice none 0 0, .pointer none, .slice none 0 0, .slice none 0 0, .int .i64 0] T2) (.cells #[.pointer none, .pointer (some ⟨w.heap.size + 1, 0, none⟩)] T3)
  constructor
  · simp only [World.size_alloc]; omega
  case z => constructor <;> (simp only [World.cell?, h1]; rfl)
  all_goals first
    | (simp only [World.cell?, h0]; rfl)
    | (simp only [World.cell?, h2]; rfl)
theorem keep_start (w : World) (a b c : Obj) : Below w.heap.size w (((w.alloc a).alloc b).alloc c) :=
  (((Below.refl _ _).alloc (Nat.le_refl _) _).alloc (by simp) _).alloc (by simp; omega) _

section
variable {w : World} {s : Value}
/-- every method at such a world, wherever new blocks were laid -/
theorem Nob.grown (h : Nob w s) (d : Nat) (os : Array Obj) : Nob (grow (redrawn w d) os) s := by
  rcases h with rfl | ⟨b, rfl, hz⟩
  · exact .inl rfl
  · exact .inr ⟨b, rfl, hz.below (below_regrown w d os) (World.block_lt_of_cell? _ ⟨b, 0, none⟩ hz.c0)⟩
theorem same_below {P : Program} {f : FuncId} {args : Array Value} {w : World} {v : Value} (h : Calls P f args w fun e w' => e = .returned v ∧ w = w') : Calls P f args w fun e w' => e = .returned v ∧ Below w.heap.size w w' :=
  h.mono fun _ _ ⟨h1, h2⟩ => ⟨h1, h2 ▸ Below.refl _ _⟩
theorem do_any (w : World) (s : Value) (cs : Array Value) (h : Nob w s) : Calls Tryz.prog 4 #[s, .agg cs] w fun e w' => e = .returned (.int .i64 2) ∧ Below w.heap.size w w' := by
  rcases h with rfl | ⟨b, rfl, hc⟩
  · exact do_nil w cs
  · exact do_zero w cs b hc
theorem now_any (w : World) (s : Value) (h : Nob w s) : Calls Tryz.prog 5 #[s] w fun e w' => e = .returned (.int .i64 0) ∧ w = w' := by
  rcases h with rfl | ⟨b, rfl, hc⟩
  · exact now_nil w
  · exact now_zero w b hc
theorem journal_any (w : World) (s : Value) (h : Nob w s) : Calls Tryz.prog 6 #[s] w fun e w' => e = .returned (.slice none 0 0) ∧ w = w' := by
  rcases h with rfl | ⟨b, rfl, hc⟩
  · exact journal_nil w
  · exact journal_zero w b hc
theorem accepts_any (w : World) (s : Value) (h : Nob w s) : Calls Tryz.prog 7 #[s] w fun e w' => e = .returned (.slice none 0 0) ∧ w = w' := by
  rcases h with rfl | ⟨b, rfl, hc⟩
  · exact accepts_nil w
  · exact accepts_zero w b hc
theorem sent_any (w : World) (s : Value) (h : Nob w s) : Calls Tryz.prog 11 #[s] w fun e w' => e = .returned (.int .i64 0) ∧ w = w' := by
  rcases h with rfl | ⟨b, rfl, hc⟩
  · exact sent_nil w
  · exact sent_zero w b hc
theorem disk_any (w : World) (s : Value) (h : Nob w s) : Calls Tryz.prog 14 #[s] w fun e w' => e = .returned (.pointer none) ∧ w = w' := by
  rcases h with rfl | ⟨b, rfl, hc⟩
  · exact disk_nil w
  · exact disk_zero w b hc
def Gives (w : World) (f : FuncId) (args : Array Value) (v : Value) : Prop := ∀ d os, Calls Tryz.prog f args (grow (redrawn w d) os) fun e w'' => e = .returned v ∧ ∃ p : Regrown, w'' = grow (redrawn w p.d) p.os
theorem gives4 (h : Nob w s) (cs : Array Value) : Gives w 4 #[s, .agg cs] (.int .i64 2) := fun d os => Calls.regrown_of (do_any _ _ _ (h.grown d os))
theorem gives5 (h : Nob w s) : Gives w 5 #[s] (.int .i64 0) := fun d os => Calls.regrown_of (same_below (now_any _ _ (h.grown d os)))
theorem gives6 (h : Nob w s) : Gives w 6 #[s] (.slice none 0 0) := fun d os => Calls.regrown_of (same_below (journal_any _ _ (h.grown d os)))
theorem gives7 (h : Nob w s) : Gives w 7 #[s] (.slice none 0 0) := fun d os => Calls.regrown_of (same_below (accepts_any _ _ (h.grown d os)))
theorem gives8 (h : Nob w s) (n : Int) : Gives w 8 #[s, .int .i64 n] (.slice none 0 0) := fun d os => Calls.regrown_of (same_below (out_any _ _ _ (h.grown d os)))
theorem gives9 (h : Nob w s) : Gives w 9 #[s] (.slice none 0 0) := fun d os => Calls.regrown_of (same_below (conns_any _ _ (h.grown d os)))
theorem gives10 (h : Nob w s) : Gives w 10 #[s] (.int .i64 0) := fun d os => Calls.regrown_of (same_below (busy_any _ _ (h.grown d os)))
theorem gives11 (h : Nob w s) : Gives w 11 #[s] (.int .i64 0) := fun d os => Calls.regrown_of (same_below (sent_any _ _ (h.grown d os)))
theorem gives12 (h : Nob w s) : Gives w 12 #[s] (.bool false) := fun d os => Calls.regrown_of (same_below (runs_any _ _ (h.grown d os)))
theorem gives13 (h : Nob w s) : Gives w 13 #[s] (.pointer none) := fun d os => Calls.regrown_of (same_below (store_any _ _ (h.grown d os)))
theorem gives14 (h : Nob w s) : Gives w 14 #[s] (.pointer none) := fun d os => Calls.regrown_of (same_below (disk_any _ _ (h.grown d os)))
end

theorem mixed : Tryz.prog.follows .mixedOrders = true := by kernel_rfl
set_option maxHeartbeats 2000000 in
theorem walk (c0 c1 : Int) (s2 s3 s4 : Value) (w : World) :
    Calls Tryz.prog 3 #[.agg #[.int .i64 c0, .int .i64 c1, s2, s3, s4]] w fun e w' => e = .returned (.bool true) ∧ Below w.heap.size w w' := by
  go_enter Tryz.func3, Tryz.ntmps3
  go_wp2_with fail
  have h1 := held_start c0 c1 s2 s3 s4 w 26 35 27
  have h2 := keep_start w (.cells #[.int .i64 c0, .int .i64 c1, s2, s3, s4] 26) (.cells #[.pointer none, .slice none 0 0, .pointer none, .int .i64 0, .int .i64 0, .slice none 0 0, .pointer none, .slice none 0 0, .slice none 0 0, .int .i64 0] 35) (.cells #[.pointer none, .pointer (some ⟨w.heap.size + 1, 0, none⟩)] 27)
  generalize (((w.alloc (.cells #[.int .i64 c0, .int .i64 c1, s2, s3, s4] 26)).alloc (.cells #[.pointer none, .slice none 0 0, .pointer none, .int .i64 0, .int .i64 0, .slice none 0 0, .pointer none, .slice none 0 0, .slice none 0 0, .int .i64 0] 35)).alloc (.cells #[.pointer none, .pointer (some ⟨w.heap.size + 1, 0, none⟩)] 27)) = W at *
  go_loopw [11] (fun i wr => ∃ j : Nat, j ≤ 2 ∧ i = .int .i64 j ∧ Below w.heap.size w wr ∧ Held w.heap.size c0 c1 s2 s3 s4 wr) (fun i _ => 2 - (intOf i).toNat)
  case atStart => exact ⟨0, by omega, rfl, h2, h1⟩
  case round =>
    obtain ⟨j, hj, rfl, hbw, hh⟩ := hrel
    clear h1 h2
    have HB := Lib.hid hbw; clear hbw
    have HH := Lib.hid hh
    obtain ⟨-, a0, a1, a2, a3, a4, z, t0, t1⟩ := hh
    rcases (show j = 0 ∨ j = 1 ∨ j = 2 by omega) with rfl | rfl | rfl
    · clear hj
      have HN := (Or.inl rfl : Nob wr (.pointer none))
      have q4 := gives4 HN #[.int .i64 c0, .int .i64 c1, s2, s3, s4]
      have q5 := gives5 HN
      have q6 := gives6 HN
      have q7 := gives7 HN
      have q8 := gives8 HN c1
      have q9 := gives9 HN
      have q10 := gives10 HN
      have q11 := gives11 HN
      have q12 := gives12 HN
      have q13 := gives13 HN
      have q14 := gives14 HN
      have k0 := cell_regrown a0
      have k1 := cell_regrown a1
      have k2 := cell_regrown a2
      have k3 := cell_regrown a3
      have k4 := cell_regrown a4
      have Q := Lib.hid (And.intro q4 (And.intro q5 (And.intro q6 (And.intro q7 (And.intro q8 (And.intro q9 (And.intro q10 (And.intro q11 (And.intro q12 (And.intro q13 q14))))))))))
      clear q4 q5 q6 q7 q8 q9 q10 q11 q12 q13 q14 HN
      go_wp2_with fail
      refine wp_region_quiet_below mixed (by kernel_rfl) ?_
      repeat (quiet_step (first | exact Q.out.1 _ _ | exact Q.out.2.1 _ _ | exact Q.out.2.2.1 _ _ | exact Q.out.2.2.2.1 _ _ | exact Q.out.2.2.2.2.1 _ _ | exact Q.out.2.2.2.2.2.1 _ _ | exact Q.out.2.2.2.2.2.2.1 _ _ | exact Q.out.2.2.2.2.2.2.2.1 _ _ | exact Q.out.2.2.2.2.2.2.2.2.1 _ _ | exact Q.out.2.2.2.2.2.2.2.2.2.1 _ _ | exact Q.out.2.2.2.2.2.2.2.2.2.2 _ _))
      refine wpQuiet_nil ?_
      intro _ hw'
      obtain ⟨⟨dq, osq⟩, hw''⟩ := hw'
      subst hw''
      clear k0 k1 k2 k3 k4
      have hq := below_regrown wr dq osq
      have hh := HH.out.below hq HH.out.size
      have HB := Lib.hid (HB.out.trans (hq.mono (by have := HH.out.size; omega)))
      clear hq
      generalize grow (redrawn wr dq) osq = w1 at *
      have HH := Lib.hid hh
      clear hh
      go_wp2_with fail
      go_roundw
      case rel => exact ⟨1, by omega, by go_num, HB.out, HH.out⟩
      case measure => simp [intOf]
    · clear hj
      have HN := (Or.inr ⟨_, rfl, z⟩ : Nob wr (.pointer (some ⟨w.heap.size + 1, 0, none⟩)))
      have q4 := gives4 HN #[.int .i64 c0, .int .i64 c1, s2, s3, s4]
      have q5 := gives5 HN
      have q6 := gives6 HN
      have q7 := gives7 HN
      have q8 := gives8 HN c1
      have q9 := gives9 HN
      have q10 := gives10 HN
      have q11 := gives11 HN
      have q12 := gives12 HN
      have q13 := gives13 HN
      have q14 := gives14 HN
      have k0 := cell_regrown a0
      have k1 := cell_regrown a1
      have k2 := cell_regrown a2
      have k3 := cell_regrown a3
      have k4 := cell_regrown a4
      have Q := Lib.hid (And.intro q4 (And.intro q5 (And.intro q6 (And.intro q7 (And.intro q8 (And.intro q9 (And.intro q10 (And.intro q11 (And.intro q12 (And.intro q13 q14))))))))))
      clear q4 q5 q6 q7 q8 q9 q10 q11 q12 q13 q14 HN
      go_wp2_with fail
      refine wp_region_quiet_below mixed (by kernel_rfl) ?_
      repeat (quiet_step (first | exact Q.out.1 _ _ | exact Q.out.2.1 _ _ | exact Q.out.2.2.1 _ _ | exact Q.out.2.2.2.1 _ _ | exact Q.out.2.2.2.2.1 _ _ | exact Q.out.2.2.2.2.2.1 _ _ | exact Q.out.2.2.2.2.2.2.1 _ _ | exact Q.out.2.2.2.2.2.2.2.1 _ _ | exact Q.out.2.2.2.2.2.2.2.2.1 _ _ | exact Q.out.2.2.2.2.2.2.2.2.2.1 _ _ | exact Q.out.2.2.2.2.2.2.2.2.2.2 _ _))
      refine wpQuiet_nil ?_
      intro _ hw'
      obtain ⟨⟨dq, osq⟩, hw''⟩ := hw'
      subst hw''
      clear k0 k1 k2 k3 k4
      have hq := below_regrown wr dq osq
      have hh := HH.out.below hq HH.out.size
      have HB := Lib.hid (HB.out.trans (hq.mono (by have := HH.out.size; omega)))
      clear hq
      generalize grow (redrawn wr dq) osq = w1 at *
      have HH := Lib.hid hh
      clear hh
      go_wp2_with fail
      go_roundw
      case rel => exact ⟨2, by omega, by go_num, HB.out, HH.out⟩
      case measure => simp [intOf]
    · go_wp2_with (go_at_call 15; refine (new_none _ _ _).mono ?_; rintro e w' ⟨rfl, hb⟩)
      go_ret
      exact ⟨rfl, HB.out.trans (hb.mono (by have := HH.out.size; omega))⟩
end Go.Proofs.YtmpengeeielffaaGreatDoor.nob
