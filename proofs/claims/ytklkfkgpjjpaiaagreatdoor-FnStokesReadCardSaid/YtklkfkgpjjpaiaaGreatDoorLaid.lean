/-
  From a row's listed variables to what the walks ask of the world.
-/
import Derived.Test.YtklkfkgpjjpaiaaGreatDoorTxtP
import Derived.Test.YtklkfkgpjjpaiaaGreatDoorRows
import Derived.ProofKit
import Derived.LaidMore
import Derived.OpenShut
import Derived.Stop.Joined
import Derived.Stop.LaidErr
import Derived.Lib.LaidTab
set_option linter.unusedSimpArgs false
set_option linter.unusedVariables false
namespace Go.Proofs.YtklkfkgpjjpaiaaGreatDoor
open Go.RowKit
set_option maxRecDepth 20000

theorem gTab : Tryz.prog.globalNamed "internal/strconv.uint64pow10" = some 5 := by kernel_rfl
theorem gTabType : (Tryz.prog.globals[5]?).map (·.type) = some 137 := by kernel_rfl
end Go.Proofs.YtklkfkgpjjpaiaaGreatDoor
