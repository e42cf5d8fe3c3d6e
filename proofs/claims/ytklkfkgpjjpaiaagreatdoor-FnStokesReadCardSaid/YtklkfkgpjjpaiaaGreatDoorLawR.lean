/-
  Walks: the law's comparison of fractions.
-/
import Derived.Test.YtklkfkgpjjpaiaaGreatDoorLawT
import Derived.Test.YtklkfkgpjjpaiaaGreatDoorRdI
import Derived.Test.YtklkfkgpjjpaiaaGreatDoorReadF
set_option linter.unusedSimpArgs false
set_option linter.unusedVariables false
namespace Go.Proofs.YtklkfkgpjjpaiaaGreatDoor
open Go.RowKit

theorem bs_of (s : ByteArray) : s = Bs s.data.toList := bytes_same (by simp [Bs])
theorem bs_len (s : ByteArray) : s.data.toList.length = s.size := by rw [Array.length_toList]; rfl
end Go.Proofs.YtklkfkgpjjpaiaaGreatDoor
