/- StoreNobody: the walk: every method of a store that no call made answers ErrNil or zero values. No conditions. -/
import Derived.Test.YtoaiflkpbadbeaaGreatDoorRows
import Derived.WalkKit
import Derived.Outline
import Derived.Below
import Derived.Lib.Hide
namespace Go.Proofs.YtoaiflkpbadbeaaGreatDoor.nob
open Go Go.RowKit
set_option maxRecDepth 100000

theorem none_nil (w : World) : Calls Tryz.prog 13 #[.pointer none] w fun e w' => e = .returned (.bool true) ∧ w = w' := by
  go_enter Tryz.func13, Tryz.ntmps13
  go_wp2
  go_ret
  exact ⟨rfl, rfl⟩
theorem none_zero (w : World) (b : Nat) (h : w.cell? ⟨b, 0, none⟩ = some (.pointer none)) : Calls Tryz.prog 13 #[.pointer (some ⟨b, 0, none⟩)] w fun e w' => e = .returned (.bool true) ∧ w = w' := by
  go_enter Tryz.func13, Tryz.ntmps13
  go_wp2
  go_ret
  exact ⟨rfl, rfl⟩
/-- a store that no call made -/
def Nob (w : World) (s : Value) : Prop := s = .pointer none ∨ ∃ b, s = .pointer (some ⟨b, 0, none⟩) ∧ w.cell? ⟨b, 0, none⟩ = some (.pointer none)
theorem none_any (w : World) (s : Value) (h : Nob w s) : Calls Tryz.prog 13 #[s] w fun e w' => e = .returned (.bool true) ∧ w = w' := by
  rcases h with rfl | ⟨b, rfl, hc⟩
  · exact none_nil w
  · exact none_zero w b hc
theorem sync_any (w : World) (s : Value) (h : Nob w s) : Calls Tryz.prog 7 #[s] w fun e w' => e = .returned (.int .i64 2) ∧ w = w' := by
  have H := Lib.hid h; clear h
  go_enter Tryz.func7, Tryz.ntmps7
  go_wp2_with (go_at_call 13; refine (none_any _ _ H.out).mono ?_; rintro e w' ⟨rfl, rfl⟩)
  go_ret
  exact ⟨rfl, rfl⟩

def zset : Value := .agg #[.string ⟨#[]⟩, .int .i64 0, .int .i64 0, .int .i64 0, .int .i64 0, .int .i64 0, .string ⟨#[]⟩, .slice none 0 0]
def GaveSet (w : World) (e : Ending) (w' : World) : Prop := e = .returned (.tuple #[zset, .bool false]) ∧ Below w.heap.size w w'
theorem compact_any (w : World) (s : Value) (n : Int) (h : Nob w s) : Calls Tryz.prog 8 #[s, .int .i64 n] w fun e w' => e = .returned (.int .i64 2) ∧ w = w' := by
  have H := Lib.hid h; clear h
  go_enter Tryz.func8, Tryz.ntmps8
  go_wp2_with (go_at_call 13; refine (none_any _ _ H.out).mono ?_; rintro e w' ⟨rfl, rfl⟩)
  go_ret
  exact ⟨rfl, rfl⟩
theorem sets_any (w : World) (s : Value) (h : Nob w s) : Calls Tryz.prog 9 #[s] w fun e w' => e = .returned (.slice none 0 0) ∧ w = w' := by
  have H := Lib.hid h; clear h
  go_enter Tryz.func9, Tryz.ntmps9
  go_wp2_with (go_at_call 13; refine (none_any _ _ H.out).mono ?_; rintro e w' ⟨rfl, rfl⟩)
  go_ret
  exact ⟨rfl, rfl⟩
theorem bytes_any (w : World) (s : Value) (h : Nob w s) : Calls Tryz.prog 10 #[s] w fun e w' => e = .returned (.int .i64 0) ∧ w = w' := by
  have H := Lib.hid h; clear h
  go_enter Tryz.func10, Tryz.ntmps10
  go_wp2_with (go_at_call 13; refine (none_any _ _ H.out).mono ?_; rintro e w' ⟨rfl, rfl⟩)
  go_ret
  exact ⟨rfl, rfl⟩
theorem memory_any (w : World) (s : Value) (h : Nob w s) : Calls Tryz.prog 11 #[s] w fun e w' => e = .returned (.bool false) ∧ w = w' := by
  have H := Lib.hid h; clear h
  go_enter Tryz.func11, Tryz.ntmps11
  go_wp2_with (go_at_call 13; refine (none_any _ _ H.out).mono ?_; rintro e w' ⟨rfl, rfl⟩)
  go_ret
  exact ⟨rfl, rfl⟩
theorem delete_any (w : World) (s : Value) (n : ByteArray) (a b : Int) (h : Nob w s) : Calls Tryz.prog 6 #[s, .string n, .int .i64 a, .int .i64 b] w fun e w' => e = .returned (.int .i64 2) ∧ Below w.heap.size w w' := by
  have H := Lib.hid h; clear h
  go_enter Tryz.func6, Tryz.ntmps6
  go_wp2_with (go_at_call 13; refine (none_any _ _ H.out).mono ?_; rintro e w' ⟨rfl, rfl⟩)
  go_ret
  exact ⟨rfl, Below.refl _ _⟩
theorem Nob.alloc {w : World} {s : Value} (h : Nob w s) (o : Obj) : Nob (w.alloc o) s := by
  rcases h with rfl | ⟨b, rfl, hc⟩
  · exact .inl rfl
  · exact .inr ⟨b, rfl, by rw [World.cell?_alloc_lt _ _ _ (World.block_lt_of_cell? _ _ hc)]; exact hc⟩
theorem put_any (w : World) (s : Value) (cs : Array Value) (n : Int) (h : Nob w s) : Calls Tryz.prog 5 #[s, .agg cs, .int .i64 n] w fun e w' => e = .returned (.int .i64 2) ∧ Below w.heap.size w w' := by
  have H := Lib.hid h; clear h
  go_enter Tryz.func5, Tryz.ntmps5
  go_wp2_with (go_at_call 13; refine (none_any _ _ (H.out.alloc _)).mono ?_; rintro e w' ⟨rfl, rfl⟩)
  go_ret
  exact ⟨rfl, (Below.refl _ _).alloc (Nat.le_refl _) _⟩
theorem made_nil (w : World) : Calls Tryz.prog 62 #[.pointer none] w fun e w' => e = .returned (.bool false) ∧ w = w' := by
  go_enter Tryz.func62, Tryz.ntmps62
  go_wp2
  go_ret
  exact ⟨rfl, rfl⟩
theorem read_nil (w : World) (n : ByteArray) : Calls Tryz.prog 28 #[.pointer none, .string n] w fun e w' => e = .returned (.tuple #[.slice none 0 0, .int .i64 2]) ∧ w = w' := by
  go_enter Tryz.func28, Tryz.ntmps28
  go_wp2_with (go_at_call 62; refine (made_nil _).mono ?_; rintro e w' ⟨rfl, rfl⟩)
  go_ret2
  exact ⟨rfl, rfl⟩
theorem open_nil (w : World) (a b : Int) : Calls Tryz.prog 12 #[.pointer none, .int .i64 a, .int .i64 b] w fun e w' => e = .returned (.tuple #[.pointer none, .int .i64 2]) ∧ Below w.heap.size w w' := by
  go_enter Tryz.func12, Tryz.ntmps12
  go_wp2_with (go_at_call 28; refine (read_nil _ _).mono ?_; rintro e w' ⟨rfl, rfl⟩)
  go_ret2
  exact ⟨rfl, (Below.refl _ _).alloc (Nat.le_refl _) _⟩
theorem lookup_any (w : World) (s : Value) (n : ByteArray) (a b c : Int) (h : Nob w s) : Calls Tryz.prog 4 #[s, .string n, .int .i64 a, .int .i64 b, .int .i64 c] w (GaveSet w) := by
  have H := Lib.hid h; clear h
  go_enter Tryz.func4, Tryz.ntmps4
  go_wp2_with (go_at_call 13; refine (none_any _ _ (H.out.alloc _)).mono ?_; rintro e w' ⟨rfl, rfl⟩)
  refine bodyPost_ret (v := .tuple #[zset, .bool false]) (by simp [results, Tryz.results4, go_sem, zset]) rfl ⟨rfl, ?_⟩
  repeat (refine Below.setCell ?_ (Nat.le_refl _) _)
  exact (Below.refl _ _).alloc (Nat.le_refl _) _
theorem Nob.below {w w' : World} {s : Value} {B : Nat} (h : Nob w s) (hb : Below B w w') (hs : ∀ b, s = .pointer (some ⟨b, 0, none⟩) → b < B) : Nob w' s := by
  rcases h with rfl | ⟨b, rfl, hc⟩
  · exact .inl rfl
  · exact .inr ⟨b, rfl, by rw [hb.cell (p := ⟨b, 0, none⟩) (hs b rfl)]; exact hc⟩
theorem bcell {W w1 : World} {B : Nat} (hb : Below B W w1) : (∀ b o, b < B → w1.cell? ⟨b, o, none⟩ = W.cell? ⟨b, o, none⟩) ∧ (∀ b o, b < B → w1.frozen? ⟨b, o, none⟩ = W.frozen? ⟨b, o, none⟩) :=
  ⟨fun b o h => hb.cell (p := ⟨b, o, none⟩) h, fun b o h => hb.frozen (p := ⟨b, o, none⟩) h⟩
/-- what the loop leans on: k's cells, the slice of two stores, the zero store -/
structure Held (N : Nat) (now : Int) (n : ByteArray) (t c r k e : Int) (z : ByteArray) (ds : Value) (w : World) : Prop where
  size : N + 3 ≤ w.heap.size
  c1 : w.cell? ⟨N, 1, none⟩ = some (.int .i64 now)
  c2 : w.cell? ⟨N, 2, none⟩ = some (.string n)
  c3 : w.cell? ⟨N, 3, none⟩ = some (.int .i64 t)
  c4 : w.cell? ⟨N, 4, none⟩ = some (.int .i64 c)
  c5 : w.cell? ⟨N, 5, none⟩ = some (.int .i64 r)
  c6 : w.cell? ⟨N, 6, none⟩ = some (.int .i64 k)
  c7 : w.cell? ⟨N, 7, none⟩ = some (.int .i64 e)
  c8 : w.cell? ⟨N, 8, none⟩ = some (.string z)
  c9 : w.cell? ⟨N, 9, none⟩ = some ds
  z0 : w.cell? ⟨N + 1, 0, none⟩ = some (.pointer none)
  s0 : w.cell? ⟨N + 1 + 1, 0, none⟩ = some (.pointer none)
  s1 : w.cell? ⟨N + 1 + 1, 1, none⟩ = some (.pointer (some ⟨N + 1, 0, none⟩))
theorem Held.below {N : Nat} {now : Int} {n : ByteArray} {t c r k e : Int} {z : ByteArray} {ds : Value} {w w' : World} {B : Nat} (h : Held N now n t c r k e z ds w) (hb : Below B w w') (hB : N + 3 ≤ B) : Held N now n t c r k e z ds w' := by
  obtain ⟨hc, -⟩ := bcell hb
  have hs := hb.size
  constructor
  · exact Nat.le_trans h.size hs
  · rw [hc _ _ (by omega)]; exact h.c1
  · rw [hc _ _ (by omega)]; exact h.c2
  · rw [hc _ _ (by omega)]; exact h.c3
  · rw [hc _ _ (by omega)]; exact h.c4
  · rw [hc _ _ (by omega)]; exact h.c5
  · rw [hc _ _ (by omega)]; exact h.c6
  · rw [hc _ _ (by omega)]; exact h.c7
  · rw [hc _ _ (by omega)]; exact h.c8
  · rw [hc _ _ (by omega)]; exact h.c9
  · rw [hc _ _ (by omega)]; exact h.z0
  · rw [hc _ _ (by omega)]; exact h.s0
  · rw [hc _ _ (by omega)]; exact h.s1
theorem Held.nob0 (w : World) : Nob w (.pointer none) := .inl rfl
theorem Held.nob1 {N : Nat} {now : Int} {n : ByteArray} {t c r k e : Int} {z : ByteArray} {ds : Value} {w : World} (h : Held N now n t c r k e z ds w) : Nob w (.pointer (some ⟨N + 1, 0, none⟩)) := .inr ⟨_, rfl, h.z0⟩
theorem three (w : World) (a b c : Obj) : (((w.alloc a).alloc b).alloc c).heap[w.heap.size]? = some a ∧ (((w.alloc a).alloc b).alloc c).heap[w.heap.size + 1]? = some b ∧ (((w.alloc a).alloc b).alloc c).heap[w.heap.size + 1 + 1]? = some c := by
  refine ⟨?_, ?_, ?_⟩ <;> simp only [World.alloc, Array.getElem?_push, Array.size_push]
  · rw [if_neg (by omega), if_neg (by omega), if_pos trivial]
  · rw [if_neg (by omega), if_pos trivial]
  · rw [if_pos trivial]
theorem held_start (c0 c1 : Int) (n : ByteArray) (t c r k e : Int) (z : ByteArray) (ds : Value) (s0 s1 : Int) (s2 s3 : ByteArray) (s4 s5 : Value) (w : World) (T1 T2 T3 : Nat) (x y u : Value) :
    Held w.heap.size c1 n t c r k e z ds (((w.alloc (.cells #[.int .i64 c0, .int .i64 c1, .string n, .int .i64 t, .int .i64 c, .int .i64 r, .int .i64 k, .int .i64 e, .string z, ds, .int .i64 s0, .int .i64 s1, .string s2, .string s3, s4, s5] T1)).alloc (.cells #[.pointer none, x, y, u] T2)).alloc (.cells #[.pointer none, .pointer (some ⟨w.heap.size + 1, 0, none⟩)] T3)) := by
  obtain ⟨h0, h1, h2⟩ := three w (.cells #[.int .i64 c0, .int .i64 c1, .string n, .int .i64 t, .int .i64 c, .int .i64 r, .int .i64 k, .int .i64 e, .string z, ds, .int .i64 s0, .int .i64 s1, .string s2, .string s3, s4, s5] T1) (.cells #[.pointer none, x, y, u] T2) (.cells #[.pointer none, .pointer (some ⟨w.heap.size + 1, 0, none⟩)] T3)
  constructor
  · simp only [World.size_alloc]; omega
  all_goals first
    | (simp only [World.cell?, h0]; rfl)
    | (simp only [World.cell?, h1]; rfl)
    | (simp only [World.cell?, h2]; rfl)
theorem keep_start (w : World) (a b c : Obj) : Below w.heap.size w (((w.alloc a).alloc b).alloc c) :=
  (((Below.refl _ _).alloc (Nat.le_refl _) _).alloc (by simp) _).alloc (by simp; omega) _
set_option maxHeartbeats 1000000 in
theorem walk (c0 c1 : Int) (n : ByteArray) (t c r k e : Int) (z : ByteArray) (ds : Value) (s0 s1 : Int) (s2 s3 : ByteArray) (s4 s5 : Value) (w : World) :
    Calls Tryz.prog 3 #[.agg #[.int .i64 c0, .int .i64 c1, .string n, .int .i64 t, .int .i64 c, .int .i64 r, .int .i64 k, .int .i64 e, .string z, ds, .int .i64 s0, .int .i64 s1, .string s2, .string s3, s4, s5]] w fun e w' => e = .returned (.bool true) ∧ Below w.heap.size w w' := by
  go_enter Tryz.func3, Tryz.ntmps3
  go_wp2_with fail
  have h1 := held_start c0 c1 n t c r k e z ds s0 s1 s2 s3 s4 s5 w 30 35 31 (.int .i64 0) (.map none) (.bool false)
  have h2 := keep_start w (.cells #[.int .i64 c0, .int .i64 c1, .string n, .int .i64 t, .int .i64 c, .int .i64 r, .int .i64 k, .int .i64 e, .string z, ds, .int .i64 s0, .int .i64 s1, .string s2, .string s3, s4, s5] 30) (.cells #[.pointer none, .int .i64 0, .map none, .bool false] 35) (.cells #[.pointer none, .pointer (some ⟨w.heap.size + 1, 0, none⟩)] 31)
  generalize (((w.alloc (.cells #[.int .i64 c0, .int .i64 c1, .string n, .int .i64 t, .int .i64 c, .int .i64 r, .int .i64 k, .int .i64 e, .string z, ds, .int .i64 s0, .int .i64 s1, .string s2, .string s3, s4, s5] 30)).alloc (.cells #[.pointer none, .int .i64 0, .map none, .bool false] 35)).alloc (.cells #[.pointer none, .pointer (some ⟨w.heap.size + 1, 0, none⟩)] 31)) = W at *
  go_loopw [13] (fun i wr => ∃ j : Nat, j ≤ 2 ∧ i = .int .i64 j ∧ Below w.heap.size w wr ∧ Held w.heap.size c1 n t c r k e z ds wr) (fun i _ => 2 - (intOf i).toNat)
  case atStart => exact ⟨0, by omega, rfl, h2, h1⟩
  case round =>
    obtain ⟨j, hj, rfl, hbw, hh⟩ := hrel
    clear h1 h2
    have HB := Lib.hid hbw; clear hbw
    have HH := Lib.hid hh
    obtain ⟨-, g1, g2, g3, g4, g5, g6, g7, g8, g9, z0, t0, t1⟩ := hh
    rcases (show j = 0 ∨ j = 1 ∨ j = 2 by omega) with rfl | rfl | rfl
    · go_wp2_with fail
      refine (lookup_any _ _ _ _ _ _ ?n1).mono ?_
      case n1 => exact Held.nob0 _
      rintro e w1 ⟨rfl, hb1⟩
      have hh := HH.out.below hb1 HH.out.size
      have HB := Lib.hid (HB.out.trans (hb1.mono (by have := HH.out.size; omega)))
      clear HH hb1
      have HH := Lib.hid hh
      have hz : w.heap.size < w1.heap.size := by have := hh.size; omega
      have hz1 : w.heap.size + 1 < w1.heap.size := by have := hh.size; omega
      obtain ⟨-, g1, g2, g3, g4, g5, g6, g7, g8, g9, z0, t0, t1⟩ := hh
      unfold zset
      go_wp2_with fail
      refine (put_any _ _ _ _ ?n2).mono ?_
      case n2 => exact Held.nob0 _
      rintro e w2 ⟨rfl, hb2⟩
      have hb2' : Below w1.heap.size w1 w2 := by
        refine Below.trans ?_ (hb2.mono (by simp))
        (repeat' (first | exact (Below.refl _ w1).alloc (Nat.le_refl _) _ | refine Below.setCell ?_ (Nat.le_refl _) _))
      clear hb2 g1 g2 g3 g4 g5 g6 g7 g8 g9 z0 t0 t1
      have hh := HH.out.below hb2' HH.out.size
      have HB := Lib.hid (HB.out.trans (hb2'.mono (by have := HH.out.size; omega)))
      clear HH hb2'
      have HH := Lib.hid hh
      obtain ⟨-, g1, g2, g3, g4, g5, g6, g7, g8, g9, z0, t0, t1⟩ := hh
      go_wp2_with fail
      refine (delete_any _ _ _ _ _ ?n3).mono ?_
      case n3 => exact Held.nob0 _
      rintro e w3 ⟨rfl, hb3⟩
      clear g1 g2 g3 g4 g5 g6 g7 g8 g9 z0 t0 t1
      have hh := HH.out.below hb3 HH.out.size
      have HB := Lib.hid (HB.out.trans (hb3.mono (by have := HH.out.size; omega)))
      clear HH hb3
      have HH := Lib.hid hh
      obtain ⟨-, g1, g2, g3, g4, g5, g6, g7, g8, g9, z0, t0, t1⟩ := hh
      have HNOB : Hid (Nob w3 (.pointer none)) := Lib.hid (Held.nob0 _)
      go_wp2_with (first
        | (go_at_call 7; refine (sync_any _ _ HNOB.out).mono ?_; rintro e w' ⟨rfl, rfl⟩)
        | (go_at_call 8; refine (compact_any _ _ _ HNOB.out).mono ?_; rintro e w' ⟨rfl, rfl⟩)
        | (go_at_call 9; refine (sets_any _ _ HNOB.out).mono ?_; rintro e w' ⟨rfl, rfl⟩)
        | (go_at_call 10; refine (bytes_any _ _ HNOB.out).mono ?_; rintro e w' ⟨rfl, rfl⟩)
        | (go_at_call 11; refine (memory_any _ _ HNOB.out).mono ?_; rintro e w' ⟨rfl, rfl⟩))
      go_roundw
      case rel => exact ⟨1, by omega, by go_num, HB.out, HH.out⟩
      case measure => simp [intOf]
    · go_wp2_with fail
      refine (lookup_any _ _ _ _ _ _ ?m1).mono ?_
      case m1 => exact HH.out.nob1
      rintro e w1 ⟨rfl, hb1⟩
      have hh := HH.out.below hb1 HH.out.size
      have HB := Lib.hid (HB.out.trans (hb1.mono (by have := HH.out.size; omega)))
      clear HH hb1
      have HH := Lib.hid hh
      have hz : w.heap.size < w1.heap.size := by have := hh.size; omega
      have hz1 : w.heap.size + 1 < w1.heap.size := by have := hh.size; omega
      obtain ⟨-, g1, g2, g3, g4, g5, g6, g7, g8, g9, z0, t0, t1⟩ := hh
      unfold zset
      go_wp2_with fail
      refine (put_any _ _ _ _ ?m2).mono ?_
      case m2 => exact .inr ⟨_, rfl, by go_simp⟩
      rintro e w2 ⟨rfl, hb2⟩
      have hb2' : Below w1.heap.size w1 w2 := by
        refine Below.trans ?_ (hb2.mono (by simp))
        (repeat' (first | exact (Below.refl _ w1).alloc (Nat.le_refl _) _ | refine Below.setCell ?_ (Nat.le_refl _) _))
      clear hb2 g1 g2 g3 g4 g5 g6 g7 g8 g9 z0 t0 t1
      have hh := HH.out.below hb2' HH.out.size
      have HB := Lib.hid (HB.out.trans (hb2'.mono (by have := HH.out.size; omega)))
      clear HH hb2'
      have HH := Lib.hid hh
      obtain ⟨-, g1, g2, g3, g4, g5, g6, g7, g8, g9, z0, t0, t1⟩ := hh
      go_wp2_with fail
      refine (delete_any _ _ _ _ _ ?m3).mono ?_
      case m3 => exact HH.out.nob1
      rintro e w3 ⟨rfl, hb3⟩
      clear g1 g2 g3 g4 g5 g6 g7 g8 g9 z0 t0 t1
      have hh := HH.out.below hb3 HH.out.size
      have HB := Lib.hid (HB.out.trans (hb3.mono (by have := HH.out.size; omega)))
      clear HH hb3
      have HH := Lib.hid hh
      obtain ⟨-, g1, g2, g3, g4, g5, g6, g7, g8, g9, z0, t0, t1⟩ := hh
      have HNOB : Hid (Nob w3 (.pointer (some ⟨w.heap.size + 1, 0, none⟩))) := Lib.hid HH.out.nob1
      go_wp2_with (first
        | (go_at_call 7; refine (sync_any _ _ HNOB.out).mono ?_; rintro e w' ⟨rfl, rfl⟩)
        | (go_at_call 8; refine (compact_any _ _ _ HNOB.out).mono ?_; rintro e w' ⟨rfl, rfl⟩)
        | (go_at_call 9; refine (sets_any _ _ HNOB.out).mono ?_; rintro e w' ⟨rfl, rfl⟩)
        | (go_at_call 10; refine (bytes_any _ _ HNOB.out).mono ?_; rintro e w' ⟨rfl, rfl⟩)
        | (go_at_call 11; refine (memory_any _ _ HNOB.out).mono ?_; rintro e w' ⟨rfl, rfl⟩))
      go_roundw
      case rel => exact ⟨2, by omega, by go_num, HB.out, HH.out⟩
      case measure => simp [intOf]
    · go_wp2_with (go_at_call 12; refine (open_nil _ _ _).mono ?_; rintro e w' ⟨rfl, hb⟩)
      go_ret
      exact ⟨rfl, HB.out.trans (hb.mono (by have := HH.out.size; omega))⟩
end Go.Proofs.YtoaiflkpbadbeaaGreatDoor.nob
