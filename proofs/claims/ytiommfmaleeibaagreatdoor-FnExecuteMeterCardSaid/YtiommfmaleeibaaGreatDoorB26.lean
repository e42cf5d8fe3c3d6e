/-
  Proved: what functions compute, part 26. No condition.
-/
import Derived.WalkLawsBesides
set_option linter.unusedSimpArgs false
set_option linter.unusedVariables false
set_option maxRecDepth 20000
set_option maxHeartbeats 8000000
namespace Go.Proofs.YtiommfmaleeibaaGreatDoor
section
open Ieee

def NumLe (f : Format) (x : Nat) (k : Int) : Prop := ∃ s m e, f.read x = .number s m e ∧ (m ≠ 0 → e + m.log2 ≤ k)

section
variable {f : Format}
theorem NumLe.wide {x : Nat} {k k' : Int} (h : NumLe f x k) (hk : k ≤ k') : NumLe f x k' := by
 obtain ⟨s, m, e, h1, h2⟩ := h
 exact ⟨s, m, e, h1, fun h => by have := h2 h; omega⟩

end
end
section
open Ieee

def key (f : Format) (r : Nat) : Nat :=
 if r < f.binade then r else if r < f.infRung then (f.binade + r % f.binade) * 2 ^ (r / f.binade - 1) else 2 ^ (f.fractionBits + 2 ^ f.exponentBits)

def Sgl (p : Nat) : Prop := NumLe single p 33

def wpart (n d : Int) : Nat := (floatBits .quo .f64 (floatOfInt .f64 n) (floatOfInt .f64 d)).getD 0
def spart (n d : Int) : Nat := (floatToFloatBits .f64 (wpart n d) .f32).getD 0
def fsub (p q : Nat) : Nat := (floatBits .sub .f32 p q).getD 0
def fsq (x : Nat) : Nat := (floatBits .mul .f32 x x).getD 0
def fadd (x y : Nat) : Nat := (floatBits .add .f32 x y).getD 0
def sfar (p p' q q' : Nat) : Nat := fadd (fsq (fsub p q)) (fsq (fsub p' q'))
def skey (r : Nat) : Nat := key single r
end
end Go.Proofs.YtiommfmaleeibaaGreatDoor
