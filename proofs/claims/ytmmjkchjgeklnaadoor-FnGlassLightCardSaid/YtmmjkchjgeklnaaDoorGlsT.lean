/-
  Walks: GlassTurned, the program's and the reference's.
-/
import Derived.Test.YtmmjkchjgeklnaaDoorGlsV
import Derived.Deep.RegionHeld3
import Derived.Deep.RegionLaw
import Derived.Deep.AppendLies
namespace Go.Proofs.YtmmjkchjgeklnaaDoor
open Go.RowKit

/-- A call hands back a glass in new memory, and whether there is one. -/
def GotGB (w : World) (x : GR) (e : Ending) (w' : World) : Prop :=
  ∃ A cap, e = .returned (.tuple #[.agg #[.int .i64 x.r, .int .i64 x.c, .slice A x.q.length cap], .bool x.ok]) ∧ OwnI w' w.heap.size A cap x.q ∧ Ex w w'

theorem ownI_none (w : World) (lo : Nat) : OwnI w lo none 0 [] := World.ownsRow_nil _ _ _ _

end Go.Proofs.YtmmjkchjgeklnaaDoor
