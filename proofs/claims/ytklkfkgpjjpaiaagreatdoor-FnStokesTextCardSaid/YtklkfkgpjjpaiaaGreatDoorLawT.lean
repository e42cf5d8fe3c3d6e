/-
  Walks: the laws' helpers on one fraction.
-/
import Derived.Test.YtklkfkgpjjpaiaaGreatDoorTxtW
namespace Go.Proofs.YtklkfkgpjjpaiaaGreatDoor
open Go.RowKit

end Go.Proofs.YtklkfkgpjjpaiaaGreatDoor
