/-
  Proved: what functions compute, part 27. No condition.
-/
import Derived.Test.YtiommfmaleeibaaGreatDoorB05
import Derived.Test.YtiommfmaleeibaaGreatDoorB26
set_option linter.unusedSimpArgs false
set_option linter.unusedVariables false
set_option maxRecDepth 20000
set_option maxHeartbeats 8000000
namespace Go.Proofs.YtiommfmaleeibaaGreatDoor
section
open Go.RowKit

def fsingle (a : Fr) : Nat × Nat × Bool := if a.valid then (spart a.re a.den, spart a.im a.den, true) else (0, 0, false)
def fwide (a : Fr) : Nat × Nat × Bool := if a.valid then (wpart a.re a.den, wpart a.im a.den, true) else (0, 0, false)
def SglGot (k : FloatKind) (w : World) (r : Nat × Nat × Bool) : Ending → World → Prop := fun e w' => e = .returned (.tuple #[.complex k r.1 r.2.1, .bool r.2.2]) ∧ Ex w w'
def gfarN (a b : Fr) : Nat := sfar (spart a.re a.den) (spart a.im a.den) (spart b.re b.den) (spart b.im b.den)
def gfar (a b : Fr) : Nat × Bool := if a.valid && b.valid then (gfarN a b, true) else (0, false)
def FarGot (w : World) (r : Nat × Bool) : Ending → World → Prop := fun e w' => e = .returned (.tuple #[.float .f32 r.1, .bool r.2]) ∧ Ex w w'
end
end Go.Proofs.YtiommfmaleeibaaGreatDoor
