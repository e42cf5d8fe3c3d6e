/-
  Equality of four numbers, as '==' decides it.
-/
import Derived.Test.YtklkfkgpjjpaiaaGreatDoorLib
import Derived.Laws.StructEq
import Derived.ChangeKeysEq
import Derived.DeepKeys
set_option linter.unusedSimpArgs false
set_option linter.unusedVariables false
namespace Go.Proofs.YtklkfkgpjjpaiaaGreatDoor
open Go.RowKit

set_option maxRecDepth 20000 in
set_option maxHeartbeats 1000000 in
theorem eqA4 (a1 a2 a3 b1 b2 b3 c1 c2 c3 d1 d2 d3 : Int) (d : Nat) (w : World) : (Op.equalIn (d + 1 + 1 + 1) 25 (.agg (#[.int .i64 a1, .int .i64 a2, .int .i64 a3, .int .i64 b1, .int .i64 b2, .int .i64 b3, .int .i64 c1, .int .i64 c2, .int .i64 c3, .int .i64 d1, .int .i64 d2, .int .i64 d3])) (.agg (#[.int .i64 a1, .int .i64 a2, .int .i64 a3, .int .i64 b1, .int .i64 b2, .int .i64 b3, .int .i64 c1, .int .i64 c2, .int .i64 c3, .int .i64 d1, .int .i64 d2, .int .i64 d3]))).run Tryz.prog w = .ok true w := by
  obtain ⟨i, hi⟩ := info_of_underlying Tryz.underlying24
  have hc : Tryz.prog.cellsOf 24 = 3 := by kernel_rfl
  have hr : List.range 4 = [0, 1, 2, 3] := rfl
  rw [run_equalIn_array w (d + 1 + 1) (#[.int .i64 a1, .int .i64 a2, .int .i64 a3, .int .i64 b1, .int .i64 b2, .int .i64 b3, .int .i64 c1, .int .i64 c2, .int .i64 c3, .int .i64 d1, .int .i64 d2, .int .i64 d3]) (#[.int .i64 a1, .int .i64 a2, .int .i64 a3, .int .i64 b1, .int .i64 b2, .int .i64 b3, .int .i64 c1, .int .i64 c2, .int .i64 c3, .int .i64 d1, .int .i64 d2, .int .i64 d3]) Tryz.underlying25 hi, hc, hr]
  simp [Op.eqItems, go_sem]
end Go.Proofs.YtklkfkgpjjpaiaaGreatDoor
