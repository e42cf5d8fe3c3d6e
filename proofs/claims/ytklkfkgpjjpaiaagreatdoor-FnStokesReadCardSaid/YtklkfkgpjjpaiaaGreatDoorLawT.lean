/-
  Walks: the laws' helpers on one fraction.
-/
import Derived.Test.YtklkfkgpjjpaiaaGreatDoorTxtW
set_option linter.unusedSimpArgs false
set_option linter.unusedVariables false
namespace Go.Proofs.YtklkfkgpjjpaiaaGreatDoor
open Go.RowKit

end Go.Proofs.YtklkfkgpjjpaiaaGreatDoor
