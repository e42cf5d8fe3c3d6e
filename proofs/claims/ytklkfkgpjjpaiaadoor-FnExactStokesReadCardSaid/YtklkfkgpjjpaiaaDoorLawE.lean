/-
  Walks: the law's comparison of four numbers.
-/
import Derived.Test.YtklkfkgpjjpaiaaDoorLawR
import Derived.Test.YtklkfkgpjjpaiaaDoorLawK
import Derived.Deep.RegionHeld3
set_option linter.unusedSimpArgs false
set_option linter.unusedVariables false
namespace Go.Proofs.YtklkfkgpjjpaiaaDoor
open Go.RowKit

set_option maxRecDepth 10000 in
set_option maxHeartbeats 2000000 in
theorem eqFracA4_same (a1 a2 a3 b1 b2 b3 c1 c2 c3 d1 d2 d3 : Int) (w : World) : Calls Tryd.prog 45 #[.agg #[.int .i64 a1, .int .i64 a2, .int .i64 a3, .int .i64 b1, .int .i64 b2, .int .i64 b3, .int .i64 c1, .int .i64 c2, .int .i64 c3, .int .i64 d1, .int .i64 d2, .int .i64 d3], .agg #[.int .i64 a1, .int .i64 a2, .int .i64 a3, .int .i64 b1, .int .i64 b2, .int .i64 b3, .int .i64 c1, .int .i64 c2, .int .i64 c3, .int .i64 d1, .int .i64 d2, .int .i64 d3]] w fun e w' => e = .returned (.bool true) ∧ Ex w w' := by
  go_enter Tryd.func45, Tryd.ntmps45
  go_wp2_with fail
  have bA := (Box.new w #[.int .i64 a1, .int .i64 a2, .int .i64 a3, .int .i64 b1, .int .i64 b2, .int .i64 b3, .int .i64 c1, .int .i64 c2, .int .i64 c3, .int .i64 d1, .int .i64 d2, .int .i64 d3] 33).alloc (.cells #[.int .i64 a1, .int .i64 a2, .int .i64 a3, .int .i64 b1, .int .i64 b2, .int .i64 b3, .int .i64 c1, .int .i64 c2, .int .i64 c3, .int .i64 d1, .int .i64 d2, .int .i64 d3] 33)
  have bB := Box.new (w.alloc (.cells #[.int .i64 a1, .int .i64 a2, .int .i64 a3, .int .i64 b1, .int .i64 b2, .int .i64 b3, .int .i64 c1, .int .i64 c2, .int .i64 c3, .int .i64 d1, .int .i64 d2, .int .i64 d3] 33)) #[.int .i64 a1, .int .i64 a2, .int .i64 a3, .int .i64 b1, .int .i64 b2, .int .i64 b3, .int .i64 c1, .int .i64 c2, .int .i64 c3, .int .i64 d1, .int .i64 d2, .int .i64 d3] 33
  rw [alloc_size1] at bB
  have hE := ((Ex.refl w).alloc (.cells #[.int .i64 a1, .int .i64 a2, .int .i64 a3, .int .i64 b1, .int .i64 b2, .int .i64 b3, .int .i64 c1, .int .i64 c2, .int .i64 c3, .int .i64 d1, .int .i64 d2, .int .i64 d3] 33)).alloc (.cells #[.int .i64 a1, .int .i64 a2, .int .i64 a3, .int .i64 b1, .int .i64 b2, .int .i64 b3, .int .i64 c1, .int .i64 c2, .int .i64 c3, .int .i64 d1, .int .i64 d2, .int .i64 d3] 33)
  generalize (w.alloc (.cells #[.int .i64 a1, .int .i64 a2, .int .i64 a3, .int .i64 b1, .int .i64 b2, .int .i64 b3, .int .i64 c1, .int .i64 c2, .int .i64 c3, .int .i64 d1, .int .i64 d2, .int .i64 d3] 33)).alloc (.cells #[.int .i64 a1, .int .i64 a2, .int .i64 a3, .int .i64 b1, .int .i64 b2, .int .i64 b3, .int .i64 c1, .int .i64 c2, .int .i64 c3, .int .i64 d1, .int .i64 d2, .int .i64 d3] 33) = w0 at bA bB hE ⊢
  refine wp_loop_rounds 5 ?_
  all_goals skip
  all_goals (
    have cA := bA.cell
    have cB := bB.cell
    rw [rounds_succ]
    go_wp2_with fail
    go_region_law (go_simp; go_at_call 18; refine (eqFrac_same a1 a2 a3 _).mono ?_; rintro e w1 ⟨rfl, hx⟩)
    all_goals (
      replace hE := hE.trans (Ex.trans (Ex.drew (Ex.refl w0)) hx)
      replace bA := (Box.drew bA).ex hx
      replace bB := (Box.drew bB).ex hx
      clear hx cA cB
      go_wp2_with fail))
  all_goals (
    have cA := bA.cell
    have cB := bB.cell
    rw [rounds_succ]
    go_wp2_with fail
    go_region_law (go_simp; go_at_call 18; refine (eqFrac_same b1 b2 b3 _).mono ?_; rintro e w2 ⟨rfl, hx⟩)
    all_goals (
      replace hE := hE.trans (Ex.trans (Ex.drew (Ex.refl w1)) hx)
      replace bA := (Box.drew bA).ex hx
      replace bB := (Box.drew bB).ex hx
      clear hx cA cB
      go_wp2_with fail))
  all_goals (
    have cA := bA.cell
    have cB := bB.cell
    rw [rounds_succ]
    go_wp2_with fail
    go_region_law (go_simp; go_at_call 18; refine (eqFrac_same c1 c2 c3 _).mono ?_; rintro e w3 ⟨rfl, hx⟩)
    all_goals (
      replace hE := hE.trans (Ex.trans (Ex.drew (Ex.refl w2)) hx)
      replace bA := (Box.drew bA).ex hx
      replace bB := (Box.drew bB).ex hx
      clear hx cA cB
      go_wp2_with fail))
  all_goals (
    have cA := bA.cell
    have cB := bB.cell
    rw [rounds_succ]
    go_wp2_with fail
    go_region_law (go_simp; go_at_call 18; refine (eqFrac_same d1 d2 d3 _).mono ?_; rintro e w4 ⟨rfl, hx⟩)
    all_goals (
      replace hE := hE.trans (Ex.trans (Ex.drew (Ex.refl w3)) hx)
      replace bA := (Box.drew bA).ex hx
      replace bB := (Box.drew bB).ex hx
      clear hx cA cB
      go_wp2_with fail))
  all_goals (
    rw [rounds_succ]
    go_wp2
    go_ret
    exact ⟨rfl, hE⟩)
set_option maxRecDepth 10000 in
set_option maxHeartbeats 2000000 in
theorem eqStokes_same (a1 a2 a3 b1 b2 b3 c1 c2 c3 d1 d2 d3 : Int) (w : World) : Calls Tryd.prog 22 #[.agg #[.int .i64 a1, .int .i64 a2, .int .i64 a3, .int .i64 b1, .int .i64 b2, .int .i64 b3, .int .i64 c1, .int .i64 c2, .int .i64 c3, .int .i64 d1, .int .i64 d2, .int .i64 d3], .agg #[.int .i64 a1, .int .i64 a2, .int .i64 a3, .int .i64 b1, .int .i64 b2, .int .i64 b3, .int .i64 c1, .int .i64 c2, .int .i64 c3, .int .i64 d1, .int .i64 d2, .int .i64 d3]] w fun e w' => e = .returned (.bool true) ∧ Ex w w' := by
  have k := fun w => eqFracA4_same a1 a2 a3 b1 b2 b3 c1 c2 c3 d1 d2 d3 w
  have K := Lib.hid k
  clear k
  go_enter Tryd.func22, Tryd.ntmps22
  go_wp2_with fail
  have bA := (Box.new w #[.int .i64 a1, .int .i64 a2, .int .i64 a3, .int .i64 b1, .int .i64 b2, .int .i64 b3, .int .i64 c1, .int .i64 c2, .int .i64 c3, .int .i64 d1, .int .i64 d2, .int .i64 d3] 35).alloc (.cells #[.int .i64 a1, .int .i64 a2, .int .i64 a3, .int .i64 b1, .int .i64 b2, .int .i64 b3, .int .i64 c1, .int .i64 c2, .int .i64 c3, .int .i64 d1, .int .i64 d2, .int .i64 d3] 35)
  have hE := ((Ex.refl w).alloc (.cells #[.int .i64 a1, .int .i64 a2, .int .i64 a3, .int .i64 b1, .int .i64 b2, .int .i64 b3, .int .i64 c1, .int .i64 c2, .int .i64 c3, .int .i64 d1, .int .i64 d2, .int .i64 d3] 35)).alloc (.cells #[.int .i64 a1, .int .i64 a2, .int .i64 a3, .int .i64 b1, .int .i64 b2, .int .i64 b3, .int .i64 c1, .int .i64 c2, .int .i64 c3, .int .i64 d1, .int .i64 d2, .int .i64 d3] 35)
  refine (K.out _).mono ?_
  rintro e w1 ⟨rfl, hx⟩
  replace hE := hE.trans hx
  go_wp2
  go_ret
  exact ⟨rfl, hE⟩
end Go.Proofs.YtklkfkgpjjpaiaaDoor

