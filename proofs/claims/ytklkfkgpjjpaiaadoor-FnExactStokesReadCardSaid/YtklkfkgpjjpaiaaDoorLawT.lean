/-
  Walks: the laws' helpers on one fraction.
-/
import Derived.Test.YtklkfkgpjjpaiaaDoorTxtW
set_option linter.unusedSimpArgs false
set_option linter.unusedVariables false
namespace Go.Proofs.YtklkfkgpjjpaiaaDoor
open Go.RowKit

set_option maxHeartbeats 400000 in
theorem toFrac_any (a1 a2 a3 : Int) (w : World) : Calls Tryd.prog 10 #[.agg #[.int .i64 a1, .int .i64 a2, .int .i64 a3]] w fun e w' => e = .returned (.agg #[.int .i64 a1, .int .i64 a2, .int .i64 a3]) ∧ Ex w w' := by
  go_enter Tryd.func10, Tryd.ntmps10
  go_wp2
  refine bodyPost_ret (v := .agg #[.int .i64 a1, .int .i64 a2, .int .i64 a3]) ?_ rfl ⟨rfl, ?_⟩
  · simp [results, Tryd.results10, go_sem]
  · repeat' (with_reducible first | exact Ex.refl _ | assumption | refine Ex.alloc ?_ _ | refine Ex.drewN ?_ _ | refine Ex.drew ?_ | refine Ex.setCell ?_ (by simp <;> omega) _)
theorem eqFrac_same (a1 a2 a3 : Int) (w : World) : Calls Tryd.prog 18 #[.agg #[.int .i64 a1, .int .i64 a2, .int .i64 a3], .agg #[.int .i64 a1, .int .i64 a2, .int .i64 a3]] w fun e w' => e = .returned (.bool true) ∧ Ex w w' := by
  go_enter Tryd.func18, Tryd.ntmps18
  go_wp2
  go_ret
  exact ⟨rfl, ((Ex.refl _).alloc _).alloc _⟩
end Go.Proofs.YtklkfkgpjjpaiaaDoor
