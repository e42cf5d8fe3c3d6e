/-
  Walks: the draws of grids and of what is sought, by their names.
-/
import Derived.Test.YtgkekdiffgmllaaDrawS
namespace Go.Proofs.Ytgkekdiffgmllaa
open Go.RowKit

theorem drawGridFit (A : Option Addr) (xs : List Int) (cap : Nat) (w : World) (hB : Byts w A xs) (hl : xs.length ≤ 9223372036854775807) (hcap : xs.length ≤ cap) (hcap2 : cap ≤ 9223372036854775807) :
    Calls Try.prog 36 #[.slice A xs.length cap] w (SoughtR w) := by
  go_enter Try.func36, Try.ntmps36
  go_wp2_with fail
  refine (l92Sought_any A xs cap _ (hB.alloc _) hl hcap hcap2).mono ?_
  rintro e w2 ⟨B, cb, ys, ⟨x1, x2, x3⟩, rfl, hy, hF, hx⟩
  have bR := (Box.new w #[.int .i64 0, .int .i64 0, .int .i64 0] 24).ex hx
  have cR := bR.cell
  have fR := bR.frozen
  have hE := ((Ex.refl w).alloc _).trans hx
  simp only [Fr.v]
  go_wp2
  refine bodyPost_ret (v := .tuple #[.slice B ys.length cb, .agg #[.int .i64 x1, .int .i64 x2, .int .i64 x3]]) ?_ rfl ⟨B, cb, ys, ⟨x1, x2, x3⟩, rfl, hy, ?_, ?_⟩
  · simp [results, Try.results36, go_sem, cR]
  · have hF' : Own w2 (w.heap.size + 1) 24 3 (.slice B ys.length cb) ys.length (frCells ys) := by
      have := hF
      rw [World.size_alloc] at this
      exact this
    have h1 := Own.setBelow (p := ⟨w.heap.size, 0, none⟩) hF' (by simp only; omega) (.int .i64 x1)
    have h2 := Own.setBelow (p := ⟨w.heap.size, 1, none⟩) h1 (by simp only; omega) (.int .i64 x2)
    have h3 := Own.setBelow (p := ⟨w.heap.size, 2, none⟩) h2 (by simp only; omega) (.int .i64 x3)
    exact Own.wide h3 (by omega)
  · exact ((hE.setCell (p := ⟨w.heap.size, 0, none⟩) (Nat.le_refl _) _).setCell (p := ⟨w.heap.size, 1, none⟩) (Nat.le_refl _) _).setCell (p := ⟨w.heap.size, 2, none⟩) (Nat.le_refl _) _
theorem drawGridBest (A : Option Addr) (xs : List Int) (cap : Nat) (w : World) (hB : Byts w A xs) (hl : xs.length ≤ 9223372036854775807) (hcap : xs.length ≤ cap) (hcap2 : cap ≤ 9223372036854775807) :
    Calls Try.prog 43 #[.slice A xs.length cap] w (SoughtR w) := by
  go_enter Try.func43, Try.ntmps43
  go_wp2_with fail
  refine (l92Sought_any A xs cap _ (hB.alloc _) hl hcap hcap2).mono ?_
  rintro e w2 ⟨B, cb, ys, ⟨x1, x2, x3⟩, rfl, hy, hF, hx⟩
  have bR := (Box.new w #[.int .i64 0, .int .i64 0, .int .i64 0] 24).ex hx
  have cR := bR.cell
  have fR := bR.frozen
  have hE := ((Ex.refl w).alloc _).trans hx
  simp only [Fr.v]
  go_wp2
  refine bodyPost_ret (v := .tuple #[.slice B ys.length cb, .agg #[.int .i64 x1, .int .i64 x2, .int .i64 x3]]) ?_ rfl ⟨B, cb, ys, ⟨x1, x2, x3⟩, rfl, hy, ?_, ?_⟩
  · simp [results, Try.results43, go_sem, cR]
  · have hF' : Own w2 (w.heap.size + 1) 24 3 (.slice B ys.length cb) ys.length (frCells ys) := by
      have := hF
      rw [World.size_alloc] at this
      exact this
    have h1 := Own.setBelow (p := ⟨w.heap.size, 0, none⟩) hF' (by simp only; omega) (.int .i64 x1)
    have h2 := Own.setBelow (p := ⟨w.heap.size, 1, none⟩) h1 (by simp only; omega) (.int .i64 x2)
    have h3 := Own.setBelow (p := ⟨w.heap.size, 2, none⟩) h2 (by simp only; omega) (.int .i64 x3)
    exact Own.wide h3 (by omega)
  · exact ((hE.setCell (p := ⟨w.heap.size, 0, none⟩) (Nat.le_refl _) _).setCell (p := ⟨w.heap.size, 1, none⟩) (Nat.le_refl _) _).setCell (p := ⟨w.heap.size, 2, none⟩) (Nat.le_refl _) _
theorem drawGridAgrees (A : Option Addr) (xs : List Int) (cap : Nat) (w : World) (hB : Byts w A xs) (hl : xs.length ≤ 9223372036854775807) (hcap : xs.length ≤ cap) (hcap2 : cap ≤ 9223372036854775807) :
    Calls Try.prog 51 #[.slice A xs.length cap] w (SoughtR w) := by
  go_enter Try.func51, Try.ntmps51
  go_wp2_with fail
  refine (l92Sought_any A xs cap _ (hB.alloc _) hl hcap hcap2).mono ?_
  rintro e w2 ⟨B, cb, ys, ⟨x1, x2, x3⟩, rfl, hy, hF, hx⟩
  have bR := (Box.new w #[.int .i64 0, .int .i64 0, .int .i64 0] 24).ex hx
  have cR := bR.cell
  have fR := bR.frozen
  have hE := ((Ex.refl w).alloc _).trans hx
  simp only [Fr.v]
  go_wp2
  refine bodyPost_ret (v := .tuple #[.slice B ys.length cb, .agg #[.int .i64 x1, .int .i64 x2, .int .i64 x3]]) ?_ rfl ⟨B, cb, ys, ⟨x1, x2, x3⟩, rfl, hy, ?_, ?_⟩
  · simp [results, Try.results51, go_sem, cR]
  · have hF' : Own w2 (w.heap.size + 1) 24 3 (.slice B ys.length cb) ys.length (frCells ys) := by
      have := hF
      rw [World.size_alloc] at this
      exact this
    have h1 := Own.setBelow (p := ⟨w.heap.size, 0, none⟩) hF' (by simp only; omega) (.int .i64 x1)
    have h2 := Own.setBelow (p := ⟨w.heap.size, 1, none⟩) h1 (by simp only; omega) (.int .i64 x2)
    have h3 := Own.setBelow (p := ⟨w.heap.size, 2, none⟩) h2 (by simp only; omega) (.int .i64 x3)
    exact Own.wide h3 (by omega)
  · exact ((hE.setCell (p := ⟨w.heap.size, 0, none⟩) (Nat.le_refl _) _).setCell (p := ⟨w.heap.size, 1, none⟩) (Nat.le_refl _) _).setCell (p := ⟨w.heap.size, 2, none⟩) (Nat.le_refl _) _
theorem drawGridSorted (A : Option Addr) (xs : List Int) (cap : Nat) (w : World) (hB : Byts w A xs) (hl : xs.length ≤ 9223372036854775807) (hcap : xs.length ≤ cap) (hcap2 : cap ≤ 9223372036854775807) :
    Calls Try.prog 47 #[.slice A xs.length cap] w (SoughtR w) := by
  go_enter Try.func47, Try.ntmps47
  go_wp2_with fail
  refine (l92Sought_any A xs cap _ (hB.alloc _) hl hcap hcap2).mono ?_
  rintro e w2 ⟨B, cb, ys, ⟨x1, x2, x3⟩, rfl, hy, hF, hx⟩
  have bR := (Box.new w #[.int .i64 0, .int .i64 0, .int .i64 0] 24).ex hx
  have cR := bR.cell
  have fR := bR.frozen
  have hE := ((Ex.refl w).alloc _).trans hx
  simp only [Fr.v]
  go_wp2
  refine bodyPost_ret (v := .tuple #[.slice B ys.length cb, .agg #[.int .i64 x1, .int .i64 x2, .int .i64 x3]]) ?_ rfl ⟨B, cb, ys, ⟨x1, x2, x3⟩, rfl, hy, ?_, ?_⟩
  · simp [results, Try.results47, go_sem, cR]
  · have hF' : Own w2 (w.heap.size + 1) 24 3 (.slice B ys.length cb) ys.length (frCells ys) := by
      have := hF
      rw [World.size_alloc] at this
      exact this
    have h1 := Own.setBelow (p := ⟨w.heap.size, 0, none⟩) hF' (by simp only; omega) (.int .i64 x1)
    have h2 := Own.setBelow (p := ⟨w.heap.size, 1, none⟩) h1 (by simp only; omega) (.int .i64 x2)
    have h3 := Own.setBelow (p := ⟨w.heap.size, 2, none⟩) h2 (by simp only; omega) (.int .i64 x3)
    exact Own.wide h3 (by omega)
  · exact ((hE.setCell (p := ⟨w.heap.size, 0, none⟩) (Nat.le_refl _) _).setCell (p := ⟨w.heap.size, 1, none⟩) (Nat.le_refl _) _).setCell (p := ⟨w.heap.size, 2, none⟩) (Nat.le_refl _) _
end Go.Proofs.Ytgkekdiffgmllaa
