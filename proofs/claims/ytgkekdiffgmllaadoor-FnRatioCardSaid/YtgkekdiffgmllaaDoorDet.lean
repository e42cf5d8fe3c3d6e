/-
  Contracts of a reckoning's methods, each of one value; what 'got' hands on.
-/
import Derived.Test.YtgkekdiffgmllaaDoorSeeS
import Derived.Test.YtgkekdiffgmllaaDoorQui
namespace Go.Proofs.YtgkekdiffgmllaaDoor
open Go.RowKit

section
variable {W w : World} {bs : Nat} {b : Bool} {L : List (Nat × TypeId × Array Value)} {a1 a2 a3 b1 b2 b3 x y z : Int} {k : Bool}
theorem det_of {r : Fr × Bool} {f : FuncId} {args : Array Value} (hB : SeesS W w bs b L) (hc : Calls Tryd.prog f args w (SumGot bs b w r)) (hr : r = (⟨x, y, z⟩, k)) :
    Calls Tryd.prog f args w fun e w' => e = .returned (.agg #[.int .i64 x, .int .i64 y, .int .i64 z]) ∧ SeesS W w' bs (b || !k) L ∧ Sm bs w w' := by
  subst hr
  refine hc.mono ?_
  rintro e w' ⟨rfl, hs, hb⟩
  exact ⟨rfl, hB.call hs hb, hs⟩
theorem times_det (hB : SeesS W w bs b L) (hr : ftimes ⟨a1, a2, a3⟩ ⟨b1, b2, b3⟩ = (⟨x, y, z⟩, k)) : Calls Tryd.prog 19 #[.pointer (some ⟨bs, 0, none⟩), .agg #[.int .i64 a1, .int .i64 a2, .int .i64 a3], .agg #[.int .i64 b1, .int .i64 b2, .int .i64 b3]] w fun e w' => e = .returned (.agg #[.int .i64 x, .int .i64 y, .int .i64 z]) ∧ SeesS W w' bs (b || !k) L ∧ Sm bs w w' := det_of hB (times_any bs b ⟨a1, a2, a3⟩ ⟨b1, b2, b3⟩ w hB.sum) hr
end
theorem SeesS.cast {W w : World} {bs bs' : Nat} {b : Bool} {L L' : List (Nat × TypeId × Array Value)} [h : SeesS W w bs b L] (e1 : bs = bs') (e2 : L = L') : SeesS W w bs' b L' := by
  subst e1 e2
  exact h
theorem Sees.cast {W w : World} {L L' : List (Nat × TypeId × Array Value)} [h : Sees W w L] (e2 : L = L') : Sees W w L' := by
  subst e2
  exact h
theorem Sees.drewW {W w : World} {L : List (Nat × TypeId × Array Value)} (h : Sees W w L) : Sees W { w with drawn := w.drawn + 1 } L := Sees.drew (h := h)
theorem Sees.go {W w w1 : World} {L : List (Nat × TypeId × Array Value)} (h : Sees W w L) (hx : Ex w w1) : Sees W w1 L := Sees.after (h := h) hx
theorem SeesS.drewW {W w : World} {bs : Nat} {b : Bool} {L : List (Nat × TypeId × Array Value)} (h : SeesS W w bs b L) : SeesS W { w with drawn := w.drawn + 1 } bs b L := SeesS.drew (h := h)
theorem SeesS.ex {W w w1 : World} {bs : Nat} {b : Bool} {L : List (Nat × TypeId × Array Value)} (h : SeesS W w bs b L) (hx : Ex w w1) : SeesS W w1 bs b L := SeesS.after (h := h) hx
end Go.Proofs.YtgkekdiffgmllaaDoor
