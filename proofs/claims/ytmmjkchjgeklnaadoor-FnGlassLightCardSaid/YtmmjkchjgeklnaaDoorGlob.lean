/-
  What the package-level variables that the row lists read as, in a world that has only grown since the first one.
-/
import Derived.Test.YtmmjkchjgeklnaaDoorSee
namespace Go.Proofs.YtmmjkchjgeklnaaDoor
open Go.RowKit

/-- The listed variables read as listed. -/
class Glob (w : World) : Prop where
  triv : True
  zero : ∀ i, w.cell? ⟨1, i, none⟩ = (#[.int .i64 0, .int .i64 0, .int .i64 1] : Array Value)[i]?
  one : ∀ i, w.cell? ⟨0, i, none⟩ = (#[.int .i64 1, .int .i64 0, .int .i64 1] : Array Value)[i]?
  turns : ∀ i, w.cell? ⟨2, i, none⟩ = (#[.int .i64 1, .int .i64 0, .int .i64 1, .int .i64 0, .int .i64 1, .int .i64 1, .int .i64 (-1), .int .i64 0, .int .i64 1, .int .i64 0, .int .i64 (-1), .int .i64 1] : Array Value)[i]?
theorem cells_ex {w w1 : World} (hx : Ex w w1) {b : Nat} {cs : Array Value} (h0 : 0 < cs.size) (h : ∀ i, w.cell? ⟨b, i, none⟩ = cs[i]?) : ∀ i, w1.cell? ⟨b, i, none⟩ = cs[i]? := by
  intro i
  have hb : b < w.heap.size := by
    have h2 := h 0
    rw [Array.getElem?_eq_getElem h0] at h2
    exact World.block_lt_of_cell? w ⟨b, 0, none⟩ h2
  exact (Below.cell (p := ⟨b, i, none⟩) hx hb).trans (h i)
theorem Glob.ex {w w1 : World} (h : Glob w) (hx : Ex w w1) : Glob w1 where
  triv := trivial
  zero := cells_ex hx (by decide) h.zero
  one := cells_ex hx (by decide) h.one
  turns := cells_ex hx (by decide) h.turns
instance Glob.alloc {w : World} {o : Obj} [h : Glob w] : Glob (w.alloc o) := h.ex ((Ex.refl w).alloc o)
instance Glob.drew {w : World} [h : Glob w] : Glob w.drew := h.ex (Ex.refl w).drew
instance Glob.drewN {w : World} {n : Nat} [h : Glob w] : Glob (w.drewN n) := h.ex ((Ex.refl w).drewN n)
theorem Glob.after {w w1 : World} [h : Glob w] (hx : Ex w w1) : Glob w1 := h.ex hx
theorem glob_lt {w : World} {b : Nat} {cs : Array Value} (h : ∀ i, w.cell? ⟨b, i, none⟩ = cs[i]?) (h0 : 0 < cs.size) : b < w.heap.size := by
  have h2 := h 0
  rw [Array.getElem?_eq_getElem h0] at h2
  exact World.block_lt_of_cell? w ⟨b, 0, none⟩ h2
/-- What can be read. -/
theorem Glob.reads {w : World} (h : Glob w) : True
  ∧ (∀ i, w.cell? ⟨1, i, none⟩ = (#[.int .i64 0, .int .i64 0, .int .i64 1] : Array Value)[i]?)
  ∧ (1 < w.heap.size)
  ∧ (∀ i, w.cell? ⟨0, i, none⟩ = (#[.int .i64 1, .int .i64 0, .int .i64 1] : Array Value)[i]?)
  ∧ (0 < w.heap.size)
  ∧ (∀ i, w.cell? ⟨2, i, none⟩ = (#[.int .i64 1, .int .i64 0, .int .i64 1, .int .i64 0, .int .i64 1, .int .i64 1, .int .i64 (-1), .int .i64 0, .int .i64 1, .int .i64 0, .int .i64 (-1), .int .i64 1] : Array Value)[i]?)
  ∧ (2 < w.heap.size)
  := ⟨trivial
  , h.zero
  , glob_lt h.zero (by decide)
  , h.one
  , glob_lt h.one (by decide)
  , h.turns
  , glob_lt h.turns (by decide)
  ⟩
end Go.Proofs.YtmmjkchjgeklnaaDoor
