/-
  Small lemmas on memory for walks with many calls: what is known of a world that has only grown since the first one, carried by instances.
-/
import Derived.Test.YtmmjkchjgeklnaaDoorLib
namespace Go.Proofs.YtmmjkchjgeklnaaDoor
open Go.RowKit

/-- Blocks that are known whole. -/
def Boxes (w : World) : List (Nat × TypeId × Array Value) → Prop
  | [] => True
  | x :: L => Box w x.1 x.2.1 x.2.2 ∧ Boxes w L
theorem Boxes.ex {w w1 : World} (he : Ex w w1) : ∀ {L : List (Nat × TypeId × Array Value)}, Boxes w L → Boxes w1 L
  | [], _ => trivial
  | _ :: _, h => ⟨h.1.ex he, Boxes.ex he h.2⟩
/-- What can be read in the blocks that are known whole. -/
def Reads (w : World) : List (Nat × TypeId × Array Value) → Prop
  | [] => True
  | x :: L => (∀ i, w.cell? ⟨x.1, i, none⟩ = x.2.2[i]?) ∧ (∀ i, w.frozen? ⟨x.1, i, none⟩ = false) ∧ x.1 < w.heap.size ∧ Reads w L
theorem Boxes.reads {w : World} : ∀ {L : List (Nat × TypeId × Array Value)}, Boxes w L → Reads w L
  | [], _ => trivial
  | _ :: _, h => ⟨h.1.cell, h.1.frozen, h.1.lt, Boxes.reads h.2⟩
theorem reads_cons (w : World) (b : Nat) (t : TypeId) (cs : Array Value) (L : List (Nat × TypeId × Array Value)) :
    Reads w ((b, t, cs) :: L) = ((∀ i, w.cell? ⟨b, i, none⟩ = cs[i]?) ∧ (∀ i, w.frozen? ⟨b, i, none⟩ = false) ∧ b < w.heap.size ∧ Reads w L) := rfl
theorem reads_nil (w : World) : Reads w [] = True := rfl

/-- World w has only grown since W, and in it these blocks are known whole. -/
class Sees (W w : World) (L : outParam (List (Nat × TypeId × Array Value))) : Prop where
  ex : Ex W w
  boxes : Boxes w L
theorem Sees.refl (w : World) : Sees w w [] := ⟨Ex.refl w, trivial⟩
instance Sees.alloc {W w : World} {L : List (Nat × TypeId × Array Value)} {cs : Array Value} {t : TypeId} [h : Sees W w L] : Sees W (w.alloc (.cells cs t)) ((w.heap.size, t, cs) :: L) :=
  ⟨h.ex.alloc _, Box.new w cs t, Boxes.ex ((Ex.refl w).alloc _) h.boxes⟩
instance Sees.drew {W w : World} {L : List (Nat × TypeId × Array Value)} [h : Sees W w L] : Sees W w.drew L := ⟨h.ex.drew, Boxes.ex (Ex.refl w).drew h.boxes⟩
instance Sees.drewN {W w : World} {n : Nat} {L : List (Nat × TypeId × Array Value)} [h : Sees W w L] : Sees W (w.drewN n) L := ⟨h.ex.drewN n, Boxes.ex ((Ex.refl w).drewN n) h.boxes⟩
/-- Behind a call that only makes memory. -/
theorem Sees.after {W w w1 : World} {L : List (Nat × TypeId × Array Value)} [h : Sees W w L] (hx : Ex w w1) : Sees W w1 L := ⟨h.ex.trans hx, Boxes.ex hx h.boxes⟩
theorem Sees.reads {W w : World} {L : List (Nat × TypeId × Array Value)} (h : Sees W w L) : Reads w L := h.boxes.reads
theorem nat_eq_lt {a b : Nat} (h : a < b) : (a = b) = False := eq_false (Nat.ne_of_lt h)
theorem nat_eq_gt {a b : Nat} (h : b < a) : (a = b) = False := eq_false (Nat.ne_of_gt h)
end Go.Proofs.YtmmjkchjgeklnaaDoor
