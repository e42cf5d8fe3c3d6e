/-
  Walks: the laws' helpers on four numbers, and the law FnExactStokesText.
-/
import Derived.Test.YtklkfkgpjjpaiaaDoorLawT
import Derived.Test.YtklkfkgpjjpaiaaDoorStkT
import Derived.Test.YtklkfkgpjjpaiaaDoorReadF
set_option linter.unusedSimpArgs false
set_option linter.unusedVariables false
namespace Go.Proofs.YtklkfkgpjjpaiaaDoor
open Go.RowKit

theorem alloc_size1 (w : World) (o : Obj) : (w.alloc o).heap.size = w.heap.size + 1 := by
  show (w.heap.push o).size = _
  exact Array.size_push ..
/-- Storing fraction 0. -/
theorem put4_0 (a1 a2 a3 b1 b2 b3 c1 c2 c3 d1 d2 d3 : Int) {W : World} {b : Nat} {t : TypeId} (h : Box W b t #[.int .i64 0, .int .i64 0, .int .i64 0, .int .i64 0, .int .i64 0, .int .i64 0, .int .i64 0, .int .i64 0, .int .i64 0, .int .i64 0, .int .i64 0, .int .i64 0]) : Box (((W.setCell ⟨b, 0, none⟩ (.int .i64 a1)).setCell ⟨b, 1, none⟩ (.int .i64 a2)).setCell ⟨b, 2, none⟩ (.int .i64 a3)) b t #[.int .i64 a1, .int .i64 a2, .int .i64 a3, .int .i64 0, .int .i64 0, .int .i64 0, .int .i64 0, .int .i64 0, .int .i64 0, .int .i64 0, .int .i64 0, .int .i64 0] := by
  have h2 := ((h.set_ 0 (.int .i64 a1)).set_ 1 (.int .i64 a2)).set_ 2 (.int .i64 a3)
  simpa using h2
/-- Storing fraction 1. -/
theorem put4_1 (a1 a2 a3 b1 b2 b3 c1 c2 c3 d1 d2 d3 : Int) {W : World} {b : Nat} {t : TypeId} (h : Box W b t #[.int .i64 a1, .int .i64 a2, .int .i64 a3, .int .i64 0, .int .i64 0, .int .i64 0, .int .i64 0, .int .i64 0, .int .i64 0, .int .i64 0, .int .i64 0, .int .i64 0]) : Box (((W.setCell ⟨b, 3, none⟩ (.int .i64 b1)).setCell ⟨b, 4, none⟩ (.int .i64 b2)).setCell ⟨b, 5, none⟩ (.int .i64 b3)) b t #[.int .i64 a1, .int .i64 a2, .int .i64 a3, .int .i64 b1, .int .i64 b2, .int .i64 b3, .int .i64 0, .int .i64 0, .int .i64 0, .int .i64 0, .int .i64 0, .int .i64 0] := by
  have h2 := ((h.set_ 3 (.int .i64 b1)).set_ 4 (.int .i64 b2)).set_ 5 (.int .i64 b3)
  simpa using h2
/-- Storing fraction 2. -/
theorem put4_2 (a1 a2 a3 b1 b2 b3 c1 c2 c3 d1 d2 d3 : Int) {W : World} {b : Nat} {t : TypeId} (h : Box W b t #[.int .i64 a1, .int .i64 a2, .int .i64 a3, .int .i64 b1, .int .i64 b2, .int .i64 b3, .int .i64 0, .int .i64 0, .int .i64 0, .int .i64 0, .int .i64 0, .int .i64 0]) : Box (((W.setCell ⟨b, 6, none⟩ (.int .i64 c1)).setCell ⟨b, 7, none⟩ (.int .i64 c2)).setCell ⟨b, 8, none⟩ (.int .i64 c3)) b t #[.int .i64 a1, .int .i64 a2, .int .i64 a3, .int .i64 b1, .int .i64 b2, .int .i64 b3, .int .i64 c1, .int .i64 c2, .int .i64 c3, .int .i64 0, .int .i64 0, .int .i64 0] := by
  have h2 := ((h.set_ 6 (.int .i64 c1)).set_ 7 (.int .i64 c2)).set_ 8 (.int .i64 c3)
  simpa using h2
/-- Storing fraction 3. -/
theorem put4_3 (a1 a2 a3 b1 b2 b3 c1 c2 c3 d1 d2 d3 : Int) {W : World} {b : Nat} {t : TypeId} (h : Box W b t #[.int .i64 a1, .int .i64 a2, .int .i64 a3, .int .i64 b1, .int .i64 b2, .int .i64 b3, .int .i64 c1, .int .i64 c2, .int .i64 c3, .int .i64 0, .int .i64 0, .int .i64 0]) : Box (((W.setCell ⟨b, 9, none⟩ (.int .i64 d1)).setCell ⟨b, 10, none⟩ (.int .i64 d2)).setCell ⟨b, 11, none⟩ (.int .i64 d3)) b t #[.int .i64 a1, .int .i64 a2, .int .i64 a3, .int .i64 b1, .int .i64 b2, .int .i64 b3, .int .i64 c1, .int .i64 c2, .int .i64 c3, .int .i64 d1, .int .i64 d2, .int .i64 d3] := by
  have h2 := ((h.set_ 9 (.int .i64 d1)).set_ 10 (.int .i64 d2)).set_ 11 (.int .i64 d3)
  simpa using h2
theorem far3 {W : World} {b g : Nat} {t : TypeId} {cs : Array Value} (h : Box W g t cs) (hne : g ≠ b) (i j k : Nat) (u v x : Value) : Box (((W.setCell ⟨b, i, none⟩ u).setCell ⟨b, j, none⟩ v).setCell ⟨b, k, none⟩ x) g t cs :=
  ((h.far (p := ⟨b, i, none⟩) hne u).far (p := ⟨b, j, none⟩) hne v).far (p := ⟨b, k, none⟩) hne x
theorem ex3 {w W : World} (h : Ex w W) {b : Nat} (hb : w.heap.size ≤ b) (i j k : Nat) (u v x : Value) : Ex w (((W.setCell ⟨b, i, none⟩ u).setCell ⟨b, j, none⟩ v).setCell ⟨b, k, none⟩ x) :=
  ((h.setCell (p := ⟨b, i, none⟩) hb u).setCell (p := ⟨b, j, none⟩) hb v).setCell (p := ⟨b, k, none⟩) hb x
set_option maxRecDepth 10000 in
set_option maxHeartbeats 1000000 in
theorem toFracA4_any (a1 a2 a3 b1 b2 b3 c1 c2 c3 d1 d2 d3 : Int) (w : World) : Calls Tryd.prog 29 #[.agg #[.int .i64 a1, .int .i64 a2, .int .i64 a3, .int .i64 b1, .int .i64 b2, .int .i64 b3, .int .i64 c1, .int .i64 c2, .int .i64 c3, .int .i64 d1, .int .i64 d2, .int .i64 d3]] w fun e w' => e = .returned (.agg #[.int .i64 a1, .int .i64 a2, .int .i64 a3, .int .i64 b1, .int .i64 b2, .int .i64 b3, .int .i64 c1, .int .i64 c2, .int .i64 c3, .int .i64 d1, .int .i64 d2, .int .i64 d3]) ∧ Ex w w' := by
  go_enter Tryd.func29, Tryd.ntmps29
  go_wp2
  have bA := ((Box.new w #[.int .i64 a1, .int .i64 a2, .int .i64 a3, .int .i64 b1, .int .i64 b2, .int .i64 b3, .int .i64 c1, .int .i64 c2, .int .i64 c3, .int .i64 d1, .int .i64 d2, .int .i64 d3] 29).alloc (.cells #[.int .i64 0, .int .i64 0, .int .i64 0, .int .i64 0, .int .i64 0, .int .i64 0, .int .i64 0, .int .i64 0, .int .i64 0, .int .i64 0, .int .i64 0, .int .i64 0] 33)).alloc (.cells #[.int .i64 0, .int .i64 0, .int .i64 0, .int .i64 0, .int .i64 0, .int .i64 0, .int .i64 0, .int .i64 0, .int .i64 0, .int .i64 0, .int .i64 0, .int .i64 0] 33)
  have bR := (Box.new (w.alloc (.cells #[.int .i64 a1, .int .i64 a2, .int .i64 a3, .int .i64 b1, .int .i64 b2, .int .i64 b3, .int .i64 c1, .int .i64 c2, .int .i64 c3, .int .i64 d1, .int .i64 d2, .int .i64 d3] 29)) #[.int .i64 0, .int .i64 0, .int .i64 0, .int .i64 0, .int .i64 0, .int .i64 0, .int .i64 0, .int .i64 0, .int .i64 0, .int .i64 0, .int .i64 0, .int .i64 0] 33).alloc (.cells #[.int .i64 0, .int .i64 0, .int .i64 0, .int .i64 0, .int .i64 0, .int .i64 0, .int .i64 0, .int .i64 0, .int .i64 0, .int .i64 0, .int .i64 0, .int .i64 0] 33)
  have bO := Box.new ((w.alloc (.cells #[.int .i64 a1, .int .i64 a2, .int .i64 a3, .int .i64 b1, .int .i64 b2, .int .i64 b3, .int .i64 c1, .int .i64 c2, .int .i64 c3, .int .i64 d1, .int .i64 d2, .int .i64 d3] 29)).alloc (.cells #[.int .i64 0, .int .i64 0, .int .i64 0, .int .i64 0, .int .i64 0, .int .i64 0, .int .i64 0, .int .i64 0, .int .i64 0, .int .i64 0, .int .i64 0, .int .i64 0] 33)) #[.int .i64 0, .int .i64 0, .int .i64 0, .int .i64 0, .int .i64 0, .int .i64 0, .int .i64 0, .int .i64 0, .int .i64 0, .int .i64 0, .int .i64 0, .int .i64 0] 33
  have hE : Ex w _ := (((Ex.refl w).alloc (.cells #[.int .i64 a1, .int .i64 a2, .int .i64 a3, .int .i64 b1, .int .i64 b2, .int .i64 b3, .int .i64 c1, .int .i64 c2, .int .i64 c3, .int .i64 d1, .int .i64 d2, .int .i64 d3] 29)).alloc (.cells #[.int .i64 0, .int .i64 0, .int .i64 0, .int .i64 0, .int .i64 0, .int .i64 0, .int .i64 0, .int .i64 0, .int .i64 0, .int .i64 0, .int .i64 0, .int .i64 0] 33)).alloc (.cells #[.int .i64 0, .int .i64 0, .int .i64 0, .int .i64 0, .int .i64 0, .int .i64 0, .int .i64 0, .int .i64 0, .int .i64 0, .int .i64 0, .int .i64 0, .int .i64 0] 33)
  rw [alloc_size1, alloc_size1] at bO
  rw [alloc_size1] at bR
  generalize ((w.alloc (.cells #[.int .i64 a1, .int .i64 a2, .int .i64 a3, .int .i64 b1, .int .i64 b2, .int .i64 b3, .int .i64 c1, .int .i64 c2, .int .i64 c3, .int .i64 d1, .int .i64 d2, .int .i64 d3] 29)).alloc (.cells #[.int .i64 0, .int .i64 0, .int .i64 0, .int .i64 0, .int .i64 0, .int .i64 0, .int .i64 0, .int .i64 0, .int .i64 0, .int .i64 0, .int .i64 0, .int .i64 0] 33)).alloc (.cells #[.int .i64 0, .int .i64 0, .int .i64 0, .int .i64 0, .int .i64 0, .int .i64 0, .int .i64 0, .int .i64 0, .int .i64 0, .int .i64 0, .int .i64 0, .int .i64 0] 33) = W0 at bA bR bO hE ⊢
  have cA := bA.cell
  have cO := bO.cell
  have zO := bO.lt
  have fO := bO.frozen
  refine wp_loop_rounds 5 ?_
  rw [rounds_succ]
  go_wp2_with fail
  refine (toFrac_any a1 a2 a3 _).mono ?_
  rintro e W1 ⟨rfl, hx⟩
  replace hE := hE.trans hx
  replace bA := bA.ex hx
  replace bO := bO.ex hx
  replace bR := bR.ex hx
  replace cO := bO.cell
  replace zO := bO.lt
  replace fO := bO.frozen
  clear hx cA
  go_wp2_with fail
  replace hE := ex3 hE (b := w.heap.size + 1 + 1) (by omega) 0 1 2 (.int .i64 a1) (.int .i64 a2) (.int .i64 a3)
  replace bA := far3 bA (b := w.heap.size + 1 + 1) (by omega) 0 1 2 (.int .i64 a1) (.int .i64 a2) (.int .i64 a3)
  replace bR := far3 bR (b := w.heap.size + 1 + 1) (by omega) 0 1 2 (.int .i64 a1) (.int .i64 a2) (.int .i64 a3)
  replace bO := put4_0 a1 a2 a3 b1 b2 b3 c1 c2 c3 d1 d2 d3 bO
  generalize ((W1.setCell ⟨w.heap.size + 1 + 1, 0, none⟩ (.int .i64 a1)).setCell ⟨w.heap.size + 1 + 1, 1, none⟩ (.int .i64 a2)).setCell ⟨w.heap.size + 1 + 1, 2, none⟩ (.int .i64 a3) = X1 at bA bR bO hE ⊢
  have cA := bA.cell
  replace cO := bO.cell
  replace zO := bO.lt
  replace fO := bO.frozen
  rw [rounds_succ]
  go_wp2_with fail
  refine (toFrac_any b1 b2 b3 _).mono ?_
  rintro e W2 ⟨rfl, hx⟩
  replace hE := hE.trans hx
  replace bA := bA.ex hx
  replace bO := bO.ex hx
  replace bR := bR.ex hx
  replace cO := bO.cell
  replace zO := bO.lt
  replace fO := bO.frozen
  clear hx cA
  go_wp2_with fail
  replace hE := ex3 hE (b := w.heap.size + 1 + 1) (by omega) 3 4 5 (.int .i64 b1) (.int .i64 b2) (.int .i64 b3)
  replace bA := far3 bA (b := w.heap.size + 1 + 1) (by omega) 3 4 5 (.int .i64 b1) (.int .i64 b2) (.int .i64 b3)
  replace bR := far3 bR (b := w.heap.size + 1 + 1) (by omega) 3 4 5 (.int .i64 b1) (.int .i64 b2) (.int .i64 b3)
  replace bO := put4_1 a1 a2 a3 b1 b2 b3 c1 c2 c3 d1 d2 d3 bO
  generalize ((W2.setCell ⟨w.heap.size + 1 + 1, 3, none⟩ (.int .i64 b1)).setCell ⟨w.heap.size + 1 + 1, 4, none⟩ (.int .i64 b2)).setCell ⟨w.heap.size + 1 + 1, 5, none⟩ (.int .i64 b3) = X2 at bA bR bO hE ⊢
  have cA := bA.cell
  replace cO := bO.cell
  replace zO := bO.lt
  replace fO := bO.frozen
  rw [rounds_succ]
  go_wp2_with fail
  refine (toFrac_any c1 c2 c3 _).mono ?_
  rintro e W3 ⟨rfl, hx⟩
  replace hE := hE.trans hx
  replace bA := bA.ex hx
  replace bO := bO.ex hx
  replace bR := bR.ex hx
  replace cO := bO.cell
  replace zO := bO.lt
  replace fO := bO.frozen
  clear hx cA
  go_wp2_with fail
  replace hE := ex3 hE (b := w.heap.size + 1 + 1) (by omega) 6 7 8 (.int .i64 c1) (.int .i64 c2) (.int .i64 c3)
  replace bA := far3 bA (b := w.heap.size + 1 + 1) (by omega) 6 7 8 (.int .i64 c1) (.int .i64 c2) (.int .i64 c3)
  replace bR := far3 bR (b := w.heap.size + 1 + 1) (by omega) 6 7 8 (.int .i64 c1) (.int .i64 c2) (.int .i64 c3)
  replace bO := put4_2 a1 a2 a3 b1 b2 b3 c1 c2 c3 d1 d2 d3 bO
  generalize ((W3.setCell ⟨w.heap.size + 1 + 1, 6, none⟩ (.int .i64 c1)).setCell ⟨w.heap.size + 1 + 1, 7, none⟩ (.int .i64 c2)).setCell ⟨w.heap.size + 1 + 1, 8, none⟩ (.int .i64 c3) = X3 at bA bR bO hE ⊢
  have cA := bA.cell
  replace cO := bO.cell
  replace zO := bO.lt
  replace fO := bO.frozen
  rw [rounds_succ]
  go_wp2_with fail
  refine (toFrac_any d1 d2 d3 _).mono ?_
  rintro e W4 ⟨rfl, hx⟩
  replace hE := hE.trans hx
  replace bA := bA.ex hx
  replace bO := bO.ex hx
  replace bR := bR.ex hx
  replace cO := bO.cell
  replace zO := bO.lt
  replace fO := bO.frozen
  clear hx cA
  go_wp2_with fail
  replace hE := ex3 hE (b := w.heap.size + 1 + 1) (by omega) 9 10 11 (.int .i64 d1) (.int .i64 d2) (.int .i64 d3)
  replace bA := far3 bA (b := w.heap.size + 1 + 1) (by omega) 9 10 11 (.int .i64 d1) (.int .i64 d2) (.int .i64 d3)
  replace bR := far3 bR (b := w.heap.size + 1 + 1) (by omega) 9 10 11 (.int .i64 d1) (.int .i64 d2) (.int .i64 d3)
  replace bO := put4_3 a1 a2 a3 b1 b2 b3 c1 c2 c3 d1 d2 d3 bO
  generalize ((W4.setCell ⟨w.heap.size + 1 + 1, 9, none⟩ (.int .i64 d1)).setCell ⟨w.heap.size + 1 + 1, 10, none⟩ (.int .i64 d2)).setCell ⟨w.heap.size + 1 + 1, 11, none⟩ (.int .i64 d3) = X4 at bA bR bO hE ⊢
  have cA := bA.cell
  replace cO := bO.cell
  replace zO := bO.lt
  replace fO := bO.frozen
  rw [rounds_succ]
  have cR := bR.cell
  have zR := bR.lt
  have fR := bR.frozen
  clear bA cA
  go_wp2_with fail
  clear cR zR fR zO fO cO bO
  replace hE := ex3 (ex3 (ex3 (ex3 hE (b := w.heap.size + 1) (by omega) 0 1 2 (.int .i64 a1) (.int .i64 a2) (.int .i64 a3)) (b := w.heap.size + 1) (by omega) 3 4 5 (.int .i64 b1) (.int .i64 b2) (.int .i64 b3)) (b := w.heap.size + 1) (by omega) 6 7 8 (.int .i64 c1) (.int .i64 c2) (.int .i64 c3)) (b := w.heap.size + 1) (by omega) 9 10 11 (.int .i64 d1) (.int .i64 d2) (.int .i64 d3)
  replace bR := put4_3 a1 a2 a3 b1 b2 b3 c1 c2 c3 d1 d2 d3 (put4_2 a1 a2 a3 b1 b2 b3 c1 c2 c3 d1 d2 d3 (put4_1 a1 a2 a3 b1 b2 b3 c1 c2 c3 d1 d2 d3 (put4_0 a1 a2 a3 b1 b2 b3 c1 c2 c3 d1 d2 d3 bR)))
  generalize ((((((((((((X4.setCell ⟨w.heap.size + 1, 0, none⟩ (.int .i64 a1)).setCell ⟨w.heap.size + 1, 1, none⟩ (.int .i64 a2)).setCell ⟨w.heap.size + 1, 2, none⟩ (.int .i64 a3)).setCell ⟨w.heap.size + 1, 3, none⟩ (.int .i64 b1)).setCell ⟨w.heap.size + 1, 4, none⟩ (.int .i64 b2)).setCell ⟨w.heap.size + 1, 5, none⟩ (.int .i64 b3)).setCell ⟨w.heap.size + 1, 6, none⟩ (.int .i64 c1)).setCell ⟨w.heap.size + 1, 7, none⟩ (.int .i64 c2)).setCell ⟨w.heap.size + 1, 8, none⟩ (.int .i64 c3)).setCell ⟨w.heap.size + 1, 9, none⟩ (.int .i64 d1)).setCell ⟨w.heap.size + 1, 10, none⟩ (.int .i64 d2)).setCell ⟨w.heap.size + 1, 11, none⟩ (.int .i64 d3)) = Y at bR hE ⊢
  have cR := bR.cell
  have d0 : Y.cell? ⟨w.heap.size + 1, 0, none⟩ = some (.int .i64 a1) := cR 0
  refine bodyPost_ret (v := .agg #[.int .i64 a1, .int .i64 a2, .int .i64 a3, .int .i64 b1, .int .i64 b2, .int .i64 b3, .int .i64 c1, .int .i64 c2, .int .i64 c3, .int .i64 d1, .int .i64 d2, .int .i64 d3]) ?_ rfl ⟨rfl, hE⟩
  simp [results, Tryd.results29, go_sem, cR]
set_option maxRecDepth 10000 in
set_option maxHeartbeats 1000000 in
theorem toStokes_any (a1 a2 a3 b1 b2 b3 c1 c2 c3 d1 d2 d3 : Int) (w : World) : Calls Tryd.prog 13 #[.agg #[.int .i64 a1, .int .i64 a2, .int .i64 a3, .int .i64 b1, .int .i64 b2, .int .i64 b3, .int .i64 c1, .int .i64 c2, .int .i64 c3, .int .i64 d1, .int .i64 d2, .int .i64 d3]] w fun e w' => e = .returned (.agg #[.int .i64 a1, .int .i64 a2, .int .i64 a3, .int .i64 b1, .int .i64 b2, .int .i64 b3, .int .i64 c1, .int .i64 c2, .int .i64 c3, .int .i64 d1, .int .i64 d2, .int .i64 d3]) ∧ Ex w w' := by
  go_enter Tryd.func13, Tryd.ntmps13
  go_wp2_with fail
  have bR := (Box.new (w.alloc (.cells #[.int .i64 a1, .int .i64 a2, .int .i64 a3, .int .i64 b1, .int .i64 b2, .int .i64 b3, .int .i64 c1, .int .i64 c2, .int .i64 c3, .int .i64 d1, .int .i64 d2, .int .i64 d3] 31)) #[.int .i64 0, .int .i64 0, .int .i64 0, .int .i64 0, .int .i64 0, .int .i64 0, .int .i64 0, .int .i64 0, .int .i64 0, .int .i64 0, .int .i64 0, .int .i64 0] 35).alloc (.cells #[.int .i64 0, .int .i64 0, .int .i64 0, .int .i64 0, .int .i64 0, .int .i64 0, .int .i64 0, .int .i64 0, .int .i64 0, .int .i64 0, .int .i64 0, .int .i64 0] 35)
  have bO := Box.new ((w.alloc (.cells #[.int .i64 a1, .int .i64 a2, .int .i64 a3, .int .i64 b1, .int .i64 b2, .int .i64 b3, .int .i64 c1, .int .i64 c2, .int .i64 c3, .int .i64 d1, .int .i64 d2, .int .i64 d3] 31)).alloc (.cells #[.int .i64 0, .int .i64 0, .int .i64 0, .int .i64 0, .int .i64 0, .int .i64 0, .int .i64 0, .int .i64 0, .int .i64 0, .int .i64 0, .int .i64 0, .int .i64 0] 35)) #[.int .i64 0, .int .i64 0, .int .i64 0, .int .i64 0, .int .i64 0, .int .i64 0, .int .i64 0, .int .i64 0, .int .i64 0, .int .i64 0, .int .i64 0, .int .i64 0] 35
  have hE : Ex w _ := (((Ex.refl w).alloc (.cells #[.int .i64 a1, .int .i64 a2, .int .i64 a3, .int .i64 b1, .int .i64 b2, .int .i64 b3, .int .i64 c1, .int .i64 c2, .int .i64 c3, .int .i64 d1, .int .i64 d2, .int .i64 d3] 31)).alloc (.cells #[.int .i64 0, .int .i64 0, .int .i64 0, .int .i64 0, .int .i64 0, .int .i64 0, .int .i64 0, .int .i64 0, .int .i64 0, .int .i64 0, .int .i64 0, .int .i64 0] 35)).alloc (.cells #[.int .i64 0, .int .i64 0, .int .i64 0, .int .i64 0, .int .i64 0, .int .i64 0, .int .i64 0, .int .i64 0, .int .i64 0, .int .i64 0, .int .i64 0, .int .i64 0] 35)
  rw [alloc_size1, alloc_size1] at bO
  rw [alloc_size1] at bR
  refine (toFracA4_any a1 a2 a3 b1 b2 b3 c1 c2 c3 d1 d2 d3 _).mono ?_
  rintro e w1 ⟨rfl, hx⟩
  replace hE := hE.trans hx
  replace bR := bR.ex hx
  replace bO := bO.ex hx
  clear hx
  have cO := bO.cell
  have zO := bO.lt
  have fO := bO.frozen
  go_upto_region 3 with fail
  replace hE := ex3 (ex3 (ex3 (ex3 (hE) (b := w.heap.size + 1 + 1) (by omega) 0 1 2 (.int .i64 a1) (.int .i64 a2) (.int .i64 a3)) (b := w.heap.size + 1 + 1) (by omega) 3 4 5 (.int .i64 b1) (.int .i64 b2) (.int .i64 b3)) (b := w.heap.size + 1 + 1) (by omega) 6 7 8 (.int .i64 c1) (.int .i64 c2) (.int .i64 c3)) (b := w.heap.size + 1 + 1) (by omega) 9 10 11 (.int .i64 d1) (.int .i64 d2) (.int .i64 d3)
  replace bR := far3 (far3 (far3 (far3 (bR) (b := w.heap.size + 1 + 1) (by omega) 0 1 2 (.int .i64 a1) (.int .i64 a2) (.int .i64 a3)) (b := w.heap.size + 1 + 1) (by omega) 3 4 5 (.int .i64 b1) (.int .i64 b2) (.int .i64 b3)) (b := w.heap.size + 1 + 1) (by omega) 6 7 8 (.int .i64 c1) (.int .i64 c2) (.int .i64 c3)) (b := w.heap.size + 1 + 1) (by omega) 9 10 11 (.int .i64 d1) (.int .i64 d2) (.int .i64 d3)
  replace bO := put4_3 a1 a2 a3 b1 b2 b3 c1 c2 c3 d1 d2 d3 (put4_2 a1 a2 a3 b1 b2 b3 c1 c2 c3 d1 d2 d3 (put4_1 a1 a2 a3 b1 b2 b3 c1 c2 c3 d1 d2 d3 (put4_0 a1 a2 a3 b1 b2 b3 c1 c2 c3 d1 d2 d3 bO)))
  clear cO zO fO
  generalize ((((((((((((w1.setCell ⟨w.heap.size + 1 + 1, 0, none⟩ (.int .i64 a1)).setCell ⟨w.heap.size + 1 + 1, 1, none⟩ (.int .i64 a2)).setCell ⟨w.heap.size + 1 + 1, 2, none⟩ (.int .i64 a3)).setCell ⟨w.heap.size + 1 + 1, 3, none⟩ (.int .i64 b1)).setCell ⟨w.heap.size + 1 + 1, 4, none⟩ (.int .i64 b2)).setCell ⟨w.heap.size + 1 + 1, 5, none⟩ (.int .i64 b3)).setCell ⟨w.heap.size + 1 + 1, 6, none⟩ (.int .i64 c1)).setCell ⟨w.heap.size + 1 + 1, 7, none⟩ (.int .i64 c2)).setCell ⟨w.heap.size + 1 + 1, 8, none⟩ (.int .i64 c3)).setCell ⟨w.heap.size + 1 + 1, 9, none⟩ (.int .i64 d1)).setCell ⟨w.heap.size + 1 + 1, 10, none⟩ (.int .i64 d2)).setCell ⟨w.heap.size + 1 + 1, 11, none⟩ (.int .i64 d3)) = Y at bR bO hE ⊢
  have cO := bO.cell
  have cR := bR.cell
  have zR := bR.lt
  have fR := bR.frozen
  go_wp2_with fail
  clear cR zR fR cO bO
  replace hE := ex3 (ex3 (ex3 (ex3 (hE) (b := w.heap.size + 1) (by omega) 0 1 2 (.int .i64 a1) (.int .i64 a2) (.int .i64 a3)) (b := w.heap.size + 1) (by omega) 3 4 5 (.int .i64 b1) (.int .i64 b2) (.int .i64 b3)) (b := w.heap.size + 1) (by omega) 6 7 8 (.int .i64 c1) (.int .i64 c2) (.int .i64 c3)) (b := w.heap.size + 1) (by omega) 9 10 11 (.int .i64 d1) (.int .i64 d2) (.int .i64 d3)
  replace bR := put4_3 a1 a2 a3 b1 b2 b3 c1 c2 c3 d1 d2 d3 (put4_2 a1 a2 a3 b1 b2 b3 c1 c2 c3 d1 d2 d3 (put4_1 a1 a2 a3 b1 b2 b3 c1 c2 c3 d1 d2 d3 (put4_0 a1 a2 a3 b1 b2 b3 c1 c2 c3 d1 d2 d3 bR)))
  generalize ((((((((((((Y.setCell ⟨w.heap.size + 1, 0, none⟩ (.int .i64 a1)).setCell ⟨w.heap.size + 1, 1, none⟩ (.int .i64 a2)).setCell ⟨w.heap.size + 1, 2, none⟩ (.int .i64 a3)).setCell ⟨w.heap.size + 1, 3, none⟩ (.int .i64 b1)).setCell ⟨w.heap.size + 1, 4, none⟩ (.int .i64 b2)).setCell ⟨w.heap.size + 1, 5, none⟩ (.int .i64 b3)).setCell ⟨w.heap.size + 1, 6, none⟩ (.int .i64 c1)).setCell ⟨w.heap.size + 1, 7, none⟩ (.int .i64 c2)).setCell ⟨w.heap.size + 1, 8, none⟩ (.int .i64 c3)).setCell ⟨w.heap.size + 1, 9, none⟩ (.int .i64 d1)).setCell ⟨w.heap.size + 1, 10, none⟩ (.int .i64 d2)).setCell ⟨w.heap.size + 1, 11, none⟩ (.int .i64 d3)) = Z at bR hE ⊢
  have cR := bR.cell
  refine bodyPost_ret (v := .agg #[.int .i64 a1, .int .i64 a2, .int .i64 a3, .int .i64 b1, .int .i64 b2, .int .i64 b3, .int .i64 c1, .int .i64 c2, .int .i64 c3, .int .i64 d1, .int .i64 d2, .int .i64 d3]) ?_ rfl ⟨rfl, hE⟩
  simp [results, Tryd.results13, go_sem, cR]
end Go.Proofs.YtklkfkgpjjpaiaaDoor

