/-
  More small lemmas on memory: make, and rows of integers that are written by index.
-/
import Derived.Test.YtmmjkchjgeklnaaDoorLib
namespace Go.Proofs.YtmmjkchjgeklnaaDoor
open Go.RowKit

/-- 'make([]int, n)': the run, and the row. -/
theorem run_make_ints (n : Nat) (hn : n ≤ 1048576) (w : World) :
    (Instr.makeSlice 22 (.int .i64 (n : Int)) (.int .i64 (n : Int))).run Tryd.prog w = .ok (.slice (some ⟨w.heap.size, 0, none⟩) n n) (w.alloc (.cells (madeCells #[.int .i64 0] n) 3)) := by
  obtain ⟨i0, hi, hz0, hz1, hz2⟩ := info_parts (show (Tryd.prog.info? 3).map (fun i => (i.zero, i.size, i.bytes)) = some (some (.int .i64 0), 1, 8) by kernel_rfl)
  have hr := run_make (P := Tryd.prog) w 22 3 i0 (.int .i64 0) Tryd.underlying22 hi hz0 .i64 .i64 n n (by omega) (by omega) (by rw [hz2]; omega) (by omega)
  rw [hz1, show (Value.int .i64 0).cells = #[.int .i64 0] from rfl] at hr
  simpa using hr
theorem ownI_made (n lo : Nat) (hn : n ≤ 1048576) (w : World) (hlo : lo ≤ w.heap.size) : OwnI (w.alloc (.cells (madeCells #[.int .i64 0] n) 3)) lo (some ⟨w.heap.size, 0, none⟩) n (List.replicate n 0) := by
  have h := World.ownsRow_lit (base := lo) (e := 3) (size := 1) w (madeCells #[.int .i64 0] n) n hlo (by unfold maxLen; omega) (by have := congrArg List.length (toList_madeCells_one (.int .i64 0) n); simpa using this)
  unfold OwnI Own
  rw [toList_madeCells_one] at h
  simpa using h


/-- A store into an owned row of integers. -/
theorem OwnI.store {w : World} {lo g cap : Nat} {xs : List Int} (h : OwnI w lo (some ⟨g, 0, none⟩) cap xs) (j : Nat) (u : Int) : OwnI (w.setCell ⟨g, j, none⟩ (.int .i64 u)) lo (some ⟨g, 0, none⟩) cap (xs.set j u) := by
  have hs := (World.ownsRow.stored h j (.int .i64 u)).1
  unfold OwnI Own
  rw [List.length_set, List.map_set]
  exact hs
end Go.Proofs.YtmmjkchjgeklnaaDoor
