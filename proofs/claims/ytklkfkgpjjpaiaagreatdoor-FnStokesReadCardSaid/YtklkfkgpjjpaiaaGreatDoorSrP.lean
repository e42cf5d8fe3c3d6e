/-
  What the reading of four numbers gives.
-/
import Derived.Test.YtklkfkgpjjpaiaaGreatDoorWdW
import Derived.Test.YtklkfkgpjjpaiaaGreatDoorLawK
set_option linter.unusedSimpArgs false
set_option linter.unusedVariables false
namespace Go.Proofs.YtklkfkgpjjpaiaaGreatDoor
open Go.RowKit

def okR (r : Fr × Bool) : Bool := r.2 && decide (r.1.im = 0)
def fin4 (a b c d : Fr × Bool) : (Fr × Fr × Fr × Fr) × Bool := if okR a && (okR b && (okR c && okR d)) then ((a.1, b.1, c.1, d.1), true) else ((⟨0, 0, 0⟩, ⟨0, 0, 0⟩, ⟨0, 0, 0⟩, ⟨0, 0, 0⟩), false)
/-- What is read out of a text of four numbers. -/
def skr (l : List UInt8) : (Fr × Fr × Fr × Fr) × Bool :=
  match wds l with
  | [a, b, c, d] => fin4 (rd a) (rd b) (rd c) (rd d)
  | _ => ((⟨0, 0, 0⟩, ⟨0, 0, 0⟩, ⟨0, 0, 0⟩, ⟨0, 0, 0⟩), false)
theorem list4 {α : Type} {l : List α} (h : l.length = 4) : ∃ a b c d, l = [a, b, c, d] := by
  match l, h with
  | [a, b, c, d], _ => exact ⟨a, b, c, d, rfl⟩
theorem skr_len {l : List UInt8} (h : ¬ (wds l).length = 4) : skr l = ((⟨0, 0, 0⟩, ⟨0, 0, 0⟩, ⟨0, 0, 0⟩, ⟨0, 0, 0⟩), false) := by
  unfold skr
  split
  · rename_i a b c d hw
    rw [hw] at h
    exact absurd rfl h
  · rfl
theorem rd_valid (l : List UInt8) : (rd l).2 = true → (rd l).1.valid = true := by
  intro h
  rcases rd_spec l with ⟨x, h1, h2, h3⟩ | ⟨-, h3⟩
  · rw [h3]; exact h1
  · rw [h3] at h; cases h
theorem rok_not {x : Fr} (h : ¬ x.im = 0) : rok x = false := by simp [rok, h]
theorem rok_yes {x : Fr} (h : x.valid = true) (h2 : x.im = 0) : rok x = true := by simp [rok, h, h2]
/-- What a call that reads four numbers hands back. -/
def GotK (w : World) (r : (Fr × Fr × Fr × Fr) × Bool) : Ending → World → Prop := fun e w' => e = .returned (.tuple #[Sv r.1.1 r.1.2.1 r.1.2.2.1 r.1.2.2.2, .bool r.2]) ∧ Ex w w'
end Go.Proofs.YtklkfkgpjjpaiaaGreatDoor
