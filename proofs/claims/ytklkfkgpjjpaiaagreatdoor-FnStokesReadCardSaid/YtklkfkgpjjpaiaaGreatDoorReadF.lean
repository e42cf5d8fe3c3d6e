/-
  What the laws' arguments read as: fractions and slices of fractions.
-/
import Derived.Test.YtklkfkgpjjpaiaaGreatDoorRead
import Derived.Deep.Slices
import Derived.Deep.Strs
set_option linter.unusedSimpArgs false
set_option linter.unusedVariables false
namespace Go.Proofs.YtklkfkgpjjpaiaaGreatDoor
set_option maxRecDepth 20000
open Go.ChangeShapes Go.WideShapes Go.ChangeAt Go.RowKit Go.Joins Go.Deep

section
variable {H : Type} {enc : TypeId × Value → H} {w : World} {base : Nat} {r : Reach} {b0 : Nat} {d : DataW H} {p : List MemPlace} {v : Value}
/-- A text that came in. -/
def IsStr (_ : World) (v : Value) : Prop := ∃ s : ByteArray, v = .string s ∧ s.size ≤ 9223372036854775807
theorem read_string (hv : Value.okWide Tryz.prog w r b0 9 v) (h : DataW.Trod enc Tryz.prog w base (fun _ => true) true 9 v d p) : IsStr w v := by
  obtain ⟨s, rfl, rfl, rfl, ws⟩ := Go.ChangeMaps.open_string Tryz.underlying9 hv h
  unfold maxLen at ws
  exact ⟨s, rfl, by omega⟩
end
end Go.Proofs.YtklkfkgpjjpaiaaGreatDoor
