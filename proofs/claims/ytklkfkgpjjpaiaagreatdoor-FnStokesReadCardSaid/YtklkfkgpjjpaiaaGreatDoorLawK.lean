/-
  Walks: the laws' helpers on four numbers, and the law FnExactStokesText.
-/
import Derived.Test.YtklkfkgpjjpaiaaGreatDoorLawT
import Derived.Test.YtklkfkgpjjpaiaaGreatDoorStkT
import Derived.Test.YtklkfkgpjjpaiaaGreatDoorReadF
set_option linter.unusedSimpArgs false
set_option linter.unusedVariables false
namespace Go.Proofs.YtklkfkgpjjpaiaaGreatDoor
open Go.RowKit

theorem alloc_size1 (w : World) (o : Obj) : (w.alloc o).heap.size = w.heap.size + 1 := by
  show (w.heap.push o).size = _
  exact Array.size_push ..
/-- Storing fraction 0. -/
theorem put4_0 (a1 a2 a3 b1 b2 b3 c1 c2 c3 d1 d2 d3 : Int) {W : World} {b : Nat} {t : TypeId} (h : Box W b t #[.int .i64 0, .int .i64 0, .int .i64 0, .int .i64 0, .int .i64 0, .int .i64 0, .int .i64 0, .int .i64 0, .int .i64 0, .int .i64 0, .int .i64 0, .int .i64 0]) : Box (((W.setCell ⟨b, 0, none⟩ (.int .i64 a1)).setCell ⟨b, 1, none⟩ (.int .i64 a2)).setCell ⟨b, 2, none⟩ (.int .i64 a3)) b t #[.int .i64 a1, .int .i64 a2, .int .i64 a3, .int .i64 0, .int .i64 0, .int .i64 0, .int .i64 0, .int .i64 0, .int .i64 0, .int .i64 0, .int .i64 0, .int .i64 0] := by
  have h2 := ((h.set_ 0 (.int .i64 a1)).set_ 1 (.int .i64 a2)).set_ 2 (.int .i64 a3)
  simpa using h2
/-- Storing fraction 1. -/
theorem put4_1 (a1 a2 a3 b1 b2 b3 c1 c2 c3 d1 d2 d3 : Int) {W : World} {b : Nat} {t : TypeId} (h : Box W b t #[.int .i64 a1, .int .i64 a2, .int .i64 a3, .int .i64 0, .int .i64 0, .int .i64 0, .int .i64 0, .int .i64 0, .int .i64 0, .int .i64 0, .int .i64 0, .int .i64 0]) : Box (((W.setCell ⟨b, 3, none⟩ (.int .i64 b1)).setCell ⟨b, 4, none⟩ (.int .i64 b2)).setCell ⟨b, 5, none⟩ (.int .i64 b3)) b t #[.int .i64 a1, .int .i64 a2, .int .i64 a3, .int .i64 b1, .int .i64 b2, .int .i64 b3, .int .i64 0, .int .i64 0, .int .i64 0, .int .i64 0, .int .i64 0, .int .i64 0] := by
  have h2 := ((h.set_ 3 (.int .i64 b1)).set_ 4 (.int .i64 b2)).set_ 5 (.int .i64 b3)
  simpa using h2
/-- Storing fraction 2. -/
theorem put4_2 (a1 a2 a3 b1 b2 b3 c1 c2 c3 d1 d2 d3 : Int) {W : World} {b : Nat} {t : TypeId} (h : Box W b t #[.int .i64 a1, .int .i64 a2, .int .i64 a3, .int .i64 b1, .int .i64 b2, .int .i64 b3, .int .i64 0, .int .i64 0, .int .i64 0, .int .i64 0, .int .i64 0, .int .i64 0]) : Box (((W.setCell ⟨b, 6, none⟩ (.int .i64 c1)).setCell ⟨b, 7, none⟩ (.int .i64 c2)).setCell ⟨b, 8, none⟩ (.int .i64 c3)) b t #[.int .i64 a1, .int .i64 a2, .int .i64 a3, .int .i64 b1, .int .i64 b2, .int .i64 b3, .int .i64 c1, .int .i64 c2, .int .i64 c3, .int .i64 0, .int .i64 0, .int .i64 0] := by
  have h2 := ((h.set_ 6 (.int .i64 c1)).set_ 7 (.int .i64 c2)).set_ 8 (.int .i64 c3)
  simpa using h2
/-- Storing fraction 3. -/
theorem put4_3 (a1 a2 a3 b1 b2 b3 c1 c2 c3 d1 d2 d3 : Int) {W : World} {b : Nat} {t : TypeId} (h : Box W b t #[.int .i64 a1, .int .i64 a2, .int .i64 a3, .int .i64 b1, .int .i64 b2, .int .i64 b3, .int .i64 c1, .int .i64 c2, .int .i64 c3, .int .i64 0, .int .i64 0, .int .i64 0]) : Box (((W.setCell ⟨b, 9, none⟩ (.int .i64 d1)).setCell ⟨b, 10, none⟩ (.int .i64 d2)).setCell ⟨b, 11, none⟩ (.int .i64 d3)) b t #[.int .i64 a1, .int .i64 a2, .int .i64 a3, .int .i64 b1, .int .i64 b2, .int .i64 b3, .int .i64 c1, .int .i64 c2, .int .i64 c3, .int .i64 d1, .int .i64 d2, .int .i64 d3] := by
  have h2 := ((h.set_ 9 (.int .i64 d1)).set_ 10 (.int .i64 d2)).set_ 11 (.int .i64 d3)
  simpa using h2
theorem far3 {W : World} {b g : Nat} {t : TypeId} {cs : Array Value} (h : Box W g t cs) (hne : g ≠ b) (i j k : Nat) (u v x : Value) : Box (((W.setCell ⟨b, i, none⟩ u).setCell ⟨b, j, none⟩ v).setCell ⟨b, k, none⟩ x) g t cs :=
  ((h.far (p := ⟨b, i, none⟩) hne u).far (p := ⟨b, j, none⟩) hne v).far (p := ⟨b, k, none⟩) hne x
theorem ex3 {w W : World} (h : Ex w W) {b : Nat} (hb : w.heap.size ≤ b) (i j k : Nat) (u v x : Value) : Ex w (((W.setCell ⟨b, i, none⟩ u).setCell ⟨b, j, none⟩ v).setCell ⟨b, k, none⟩ x) :=
  ((h.setCell (p := ⟨b, i, none⟩) hb u).setCell (p := ⟨b, j, none⟩) hb v).setCell (p := ⟨b, k, none⟩) hb x
end Go.Proofs.YtklkfkgpjjpaiaaGreatDoor

