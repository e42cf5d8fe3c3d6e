/-
  Walks: the law's comparison of fractions.
-/
import Derived.Test.YtklkfkgpjjpaiaaDoorLawT
import Derived.Test.YtklkfkgpjjpaiaaDoorRdI
import Derived.Test.YtklkfkgpjjpaiaaDoorReadF
set_option linter.unusedSimpArgs false
set_option linter.unusedVariables false
namespace Go.Proofs.YtklkfkgpjjpaiaaDoor
open Go.RowKit

theorem bs_of (s : ByteArray) : s = Bs s.data.toList := bytes_same (by simp [Bs])
theorem bs_len (s : ByteArray) : s.data.toList.length = s.size := by rw [Array.length_toList]; rfl
end Go.Proofs.YtklkfkgpjjpaiaaDoor
