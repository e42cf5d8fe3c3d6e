/-
  New variables in regions of many orders: the classes of worlds of the walks, and the operations that make and fill a block.
-/
import Derived.Test.YtmmjkchjgeklnaaDoorDet
import Derived.Test.YtmmjkchjgeklnaaDoorNew
import Derived.Laws.Tables
import Derived.Laws.CopyOwn
namespace Go.Proofs.YtmmjkchjgeklnaaDoor
open Go.RowKit

theorem Box.setRow {w : World} {g : Nat} {t : TypeId} {cs : Array Value} (h : Box w g t cs) (x : Array Value) : Box (w.setRow g x) g t x := setRow_heap w g cs x t (0, 0) h
theorem Box.setRow_far {w : World} {b g : Nat} {t : TypeId} {cs : Array Value} (h : Box w b t cs) (hne : b ≠ g) (x : Array Value) : Box (w.setRow g x) b t cs := (setRow_other w g b x hne).trans h
theorem Ex.setRow {W w : World} (h : Ex W w) {g : Nat} (hg : W.heap.size ≤ g) (x : Array Value) : Ex W (w.setRow g x) := below_setRow h hg x
theorem Sm.setRow {bs : Nat} {w w' : World} (h : Sm bs w w') {g : Nat} (hg : w.heap.size ≤ g) (x : Array Value) : Sm bs w (w'.setRow g x) :=
  ⟨fun W hW hl => (h.ex W hW hl).setRow (Nat.le_trans hW.size hg) x, fun b t cs hne hb => (h.box b t cs hne hb).setRow_far (by have := hb.lt; omega) x,
   fun lo T k v n cs hT ho => by
    have ho' := h.own lo T k v n cs hT ho
    refine ⟨ho'.1, ?_⟩
    rcases ho'.2 with h0 | ⟨g', cap, cur, rfl, hg', hh, hr⟩
    · exact .inl h0
    · refine .inr ⟨g', cap, cur, rfl, hg', ?_, hr⟩
      have : g' ≠ g := by have := (Own.lt ho g' rfl).2; omega
      exact (setRow_other w' g g' x this).trans hh, by have := h.size; simpa using this⟩
section
variable {W w w2 : World} {bs : Nat} {b b2 : Bool} {L : List (Nat × TypeId × Array Value)} {g : Nat}
theorem Boxes.setRow_far : ∀ {L : List (Nat × TypeId × Array Value)}, (∀ x ∈ L, x.1 < g) → Boxes w L → ∀ x, Boxes (w.setRow g x) L
  | [], _, _, _ => trivial
  | _ :: _, hl, h, x => ⟨h.1.setRow_far (Nat.ne_of_lt (hl _ (.head _))) x, Boxes.setRow_far (fun y hy => hl y (.tail _ hy)) h.2 x⟩
/-- The class of a region: since the world in which it began. -/
structure InS (W : World) (bs : Nat) (L : List (Nat × TypeId × Array Value)) (b : Bool) (w : World) : Prop where
  sees : SeesS W w bs b L
  old : ∀ x ∈ L, x.1 < W.heap.size
  olds : bs < W.heap.size
theorem InS.start (h : SeesS W w bs b L) : InS w bs L b w := ⟨⟨Sm.refl _ _, h.sum, h.boxes, h.far⟩, Boxes.old h.boxes, h.sum.lt⟩
theorem InS.drew (h : InS W bs L b w) : InS W bs L b { w with drawn := w.drawn + 1 } := ⟨h.sees.drewW, h.old, h.olds⟩
theorem InS.alloc (h : InS W bs L b w) (o : Obj) : InS W bs L b (w.alloc o) := ⟨h.sees.ex ((Ex.refl w).alloc o), h.old, h.olds⟩
theorem InS.size (h : InS W bs L b w) : W.heap.size ≤ w.heap.size := h.sees.sm.size
theorem InS.setRow (h : InS W bs L b w) (hg : W.heap.size ≤ g) (x : Array Value) : InS W bs L b (w.setRow g x) :=
  ⟨⟨h.sees.sm.setRow hg x, h.sees.sum.setRow_far (by have := h.olds; omega) x, Boxes.setRow_far (fun y hy => Nat.lt_of_lt_of_le (h.old y hy) hg) h.sees.boxes x, h.sees.far⟩, h.old, h.olds⟩
theorem InS.call (h : InS W bs L b w) (hN : SeesS W w2 bs b2 L) : InS W bs L b2 w2 := ⟨hN, h.old, h.olds⟩
theorem InS.join (h0 : SeesS W w bs b L) (h : InS w bs L b2 w2) : SeesS W w2 bs b2 L := ⟨h0.sm.trans h.sees.sm, h.sees.sum, h.sees.boxes, h.sees.far⟩
/-- .. without a reckoning. -/
structure InE (W : World) (L : List (Nat × TypeId × Array Value)) (w : World) : Prop where
  sees : Sees W w L
  old : ∀ x ∈ L, x.1 < W.heap.size
theorem InE.start (h : Sees W w L) : InE w L w := ⟨⟨Ex.refl _, h.boxes⟩, Boxes.old h.boxes⟩
theorem InE.drew (h : InE W L w) : InE W L { w with drawn := w.drawn + 1 } := ⟨h.sees.drewW, h.old⟩
theorem InE.alloc (h : InE W L w) (o : Obj) : InE W L (w.alloc o) := ⟨h.sees.go ((Ex.refl w).alloc o), h.old⟩
theorem InE.size (h : InE W L w) : W.heap.size ≤ w.heap.size := h.sees.ex.size
theorem InE.setRow (h : InE W L w) (hg : W.heap.size ≤ g) (x : Array Value) : InE W L (w.setRow g x) :=
  ⟨⟨h.sees.ex.setRow hg x, Boxes.setRow_far (fun y hy => Nat.lt_of_lt_of_le (h.old y hy) hg) h.sees.boxes x⟩, h.old⟩
theorem InE.go (h : InE W L w) (hx : Ex w w2) : InE W L w2 := ⟨h.sees.go hx, h.old⟩
theorem InE.join (h0 : Sees W w L) (h : InE w L w2) : Sees W w2 L := ⟨h0.ex.trans h.sees.ex, h.sees.boxes⟩
end
/-- Filling a block whole. -/
theorem fillsB_row {B : Bool → World → Prop} {N0 : Nat} {t ty ty' : TypeId} {pos : String} {after : Array Edge} {p q : Nat} {z x : Array Value} (hi : (Tryd.prog.info? t).map (·.size) = some x.size) (hz : z.size = x.size) (h1 : x.all (·.oneCell') = true)
    (hB : ∀ b w g, N0 ≤ g → B b w → B b (w.setRow g x)) : FillsB Tryd.prog N0 B ty { dst := none, op := .store t (.tmp p) (.tmp q), type := ty', pos := pos, after := after, guard := none } p q (.agg x) z x := by
  refine ⟨rfl, rfl, fun a g w hp hq hb => ⟨w.setRow g x, ?_, hb.setRow x, fun b t' cs hne h => h.setRow_far hne x, fun hg b h => hB b w g hg h⟩⟩
  unfold execOp
  simp only [hp, hq, Instr.storeAt, Instr.sureAddr, Sem.run_bind, Sem.run_pure, Result.andThen_ok, run_storeVar_row w g ty t z x hb hi hz h1]
theorem makes_Frac {p : Nat} {ty' : TypeId} {pos : String} {after : Array Edge} : MakesB Tryd.prog 42 { dst := some p, op := .alloc 42, type := ty', pos := pos, after := after, guard := none } p #[.int .i64 0, .int .i64 0, .int .i64 0] := ⟨rfl, rfl, fun ρ w => by simp [execOp, go_sem]⟩
theorem makes_Mat {p : Nat} {ty' : TypeId} {pos : String} {after : Array Edge} : MakesB Tryd.prog 54 { dst := some p, op := .alloc 54, type := ty', pos := pos, after := after, guard := none } p #[.int .i64 0, .int .i64 0, .int .i64 0, .int .i64 0, .int .i64 0, .int .i64 0, .int .i64 0, .int .i64 0, .int .i64 0, .int .i64 0, .int .i64 0, .int .i64 0] := ⟨rfl, rfl, fun ρ w => by simp [execOp, go_sem]⟩
theorem makes_Jones {p : Nat} {ty' : TypeId} {pos : String} {after : Array Edge} : MakesB Tryd.prog 59 { dst := some p, op := .alloc 59, type := ty', pos := pos, after := after, guard := none } p #[.int .i64 0, .int .i64 0, .int .i64 0, .int .i64 0, .int .i64 0, .int .i64 0] := ⟨rfl, rfl, fun ρ w => by simp [execOp, go_sem]⟩
theorem info_Frac : (Tryd.prog.info? 42).map (·.size) = some 3 := by kernel_rfl
theorem info_Mat : (Tryd.prog.info? 54).map (·.size) = some 12 := by kernel_rfl
theorem info_Jones : (Tryd.prog.info? 59).map (·.size) = some 6 := by kernel_rfl
theorem Sees.put {W w : World} {L : List (Nat × TypeId × Array Value)} {g : Nat} {t : TypeId} {cs : Array Value} (h : Sees W w L) (hb : Box w g t cs) : Sees W w ((g, t, cs) :: L) := ⟨h.ex, hb, h.boxes⟩
end Go.Proofs.YtmmjkchjgeklnaaDoor
