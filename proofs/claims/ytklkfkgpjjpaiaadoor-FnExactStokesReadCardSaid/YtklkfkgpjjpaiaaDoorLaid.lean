/-
  From a row's listed variables to what the walks ask of the world.
-/
import Derived.Test.YtklkfkgpjjpaiaaDoorTxtP
import Derived.Test.YtklkfkgpjjpaiaaDoorRows
import Derived.ProofKit
import Derived.LaidMore
import Derived.OpenShut
import Derived.Stop.Joined
import Derived.Stop.LaidErr
import Derived.Lib.LaidTab
set_option linter.unusedSimpArgs false
set_option linter.unusedVariables false
namespace Go.Proofs.YtklkfkgpjjpaiaaDoor
open Go.RowKit
set_option maxRecDepth 20000

theorem gTab : Tryd.prog.globalNamed "internal/strconv.uint64pow10" = some 3 := by kernel_rfl
theorem gTabType : (Tryd.prog.globals[3]?).map (·.type) = some 125 := by kernel_rfl
theorem laid_short {W : World} (h : laidMetH Tryd.prog Rows.fnExactFracTextRow.laid W) : Tab W := by
  rw [MakeChecks.laidMetH_plain _ _ _ (by kernel_rfl)] at h
  have h2 : laidMet Tryd.prog [("internal/strconv.uint64pow10", Lib.tabData .u64 Lib.pow10Tab)] W := laidMet.tail (laidMet.tail h)
  exact Lib.tabIs_of_head gTab gTabType Tryd.underlying125 Tryd.underlying111 (by kernel_rfl) (by kernel_rfl) h2
end Go.Proofs.YtklkfkgpjjpaiaaDoor
