/-
  Proved: what functions compute, part 18. No condition.
-/
import Derived.Test.YtmjggolkopbcnaaGreatDoorB17
import Derived.Test.YtmjggolkopbcnaaGreatDoorB16
import Derived.Deep.Cut
set_option linter.unusedSimpArgs false
set_option linter.unusedVariables false
set_option maxRecDepth 20000
set_option maxHeartbeats 8000000
namespace Go.Proofs.YtmjggolkopbcnaaGreatDoor
section
open Go.RowKit

attribute [local go_sem] Zq Zp
def tabCells (a b c d pa pb pc pd : Fr) : List (Fr × Bool) := [fhalf (Ze (Ze (Ze pa pb).1 pc).1 pd).1,
 fhalf (Tw (Ze (Tw pa pb).1 pc).1 pd).1,
 freal (Ze (Za a b).1 (Za c d).1).1,
 fimag (Ze (Za b a).1 (Za d c).1).1,
 fhalf (Tw (Tw (Ze pa pb).1 pc).1 pd).1,
 fhalf (Ze (Tw (Tw pa pb).1 pc).1 pd).1,
 freal (Tw (Za a b).1 (Za c d).1).1,
 fimag (Tw (Za b a).1 (Za d c).1).1,
 freal (Ze (Za a c).1 (Za b d).1).1,
 freal (Tw (Za a c).1 (Za b d).1).1,
 freal (Ze (Za a d).1 (Za b c).1).1,
 fimag (Tw (Za b c).1 (Za a d).1).1,
 fimag (Ze (Za a c).1 (Za b d).1).1,
 fimag (Tw (Za a c).1 (Za b d).1).1,
 fimag (Ze (Za a d).1 (Za b c).1).1,
 freal (Tw (Za a d).1 (Za b c).1).1]
def tabOf (m : M4) : List Fr × Bool :=
 if m.valid && (tabCells m.a m.b m.c m.d (Wb m.a).1 (Wb m.b).1 (Wb m.c).1 (Wb m.d).1).all (·.2) then ((tabCells m.a m.b m.c m.d (Wb m.a).1 (Wb m.b).1 (Wb m.c).1 (Wb m.d).1).map (·.1), true) else (nones 16, false)
section
variable {N lo t m bs : Nat} {r : Nat → Value} {a : Act} {v : Value} {x y z : Nat × Value} {L L0 : List (Nat × Value)} {P : Program} {ops : Array Oper} {B : Bool → World → Prop} {St : World → World → Prop} {Q : List Oper → Act → Bool → Prop} {o : Oper} {n : Nat} {rest : List Oper} {e d b : Bool} {W w : World} {M : List (Nat × TypeId × Array Value)} {p0 p1 p2 p3 p4 p5 p6 p7 p8 : Nat × TypeId × Array Value}
def okS (N lo t : Nat) (o : Oper) (L : List (Nat × Value)) : Bool := o.guard.isNone && Nat.blt t N && Nat.ble lo t && L.all fun x => x.1 != t
theorem Has.g0 (h : Has N lo r a (x :: L)) : a.eval (.tmp x.1) = x.2 := h.get _ (.head _)
theorem Has.g1 (h : Has N lo r a (x :: y :: L)) : a.eval (.tmp y.1) = y.2 := h.get _ (.tail _ (.head _))
theorem Has.g2 (h : Has N lo r a (x :: y :: z :: L)) : a.eval (.tmp z.1) = z.2 := h.get _ (.tail _ (.tail _ (.head _)))
theorem InS.b0 (h : InS W bs (p0 :: M) b w) : Box w p0.1 p0.2.1 p0.2.2 := h.sees.boxes.1
theorem InS.b1 (h : InS W bs (p0 :: p1 :: M) b w) : Box w p1.1 p1.2.1 p1.2.2 := h.sees.boxes.2.1
theorem InS.b2 (h : InS W bs (p0 :: p1 :: p2 :: M) b w) : Box w p2.1 p2.2.1 p2.2.2 := h.sees.boxes.2.2.1
theorem InS.b3 (h : InS W bs (p0 :: p1 :: p2 :: p3 :: M) b w) : Box w p3.1 p3.2.1 p3.2.2 := h.sees.boxes.2.2.2.1
theorem InS.b4 (h : InS W bs (p0 :: p1 :: p2 :: p3 :: p4 :: M) b w) : Box w p4.1 p4.2.1 p4.2.2 := h.sees.boxes.2.2.2.2.1
theorem InS.b5 (h : InS W bs (p0 :: p1 :: p2 :: p3 :: p4 :: p5 :: M) b w) : Box w p5.1 p5.2.1 p5.2.2 := h.sees.boxes.2.2.2.2.2.1
theorem InS.b6 (h : InS W bs (p0 :: p1 :: p2 :: p3 :: p4 :: p5 :: p6 :: M) b w) : Box w p6.1 p6.2.1 p6.2.2 := h.sees.boxes.2.2.2.2.2.2.1
theorem InS.b7 (h : InS W bs (p0 :: p1 :: p2 :: p3 :: p4 :: p5 :: p6 :: p7 :: M) b w) : Box w p7.1 p7.2.1 p7.2.2 := h.sees.boxes.2.2.2.2.2.2.2.1
theorem InS.b8 (h : InS W bs (p0 :: p1 :: p2 :: p3 :: p4 :: p5 :: p6 :: p7 :: p8 :: M) b w) : Box w p8.1 p8.2.1 p8.2.2 := h.sees.boxes.2.2.2.2.2.2.2.2.1
end
end
section
def Alk (x y : Fr × Bool) : Prop := x.2 = y.2 ∧ (y.2 = true → x.1 = y.1)
def sCells (a b c d : Fr) : List (Fr × Bool) := [tpow 1 1 1 a b c d, tpow (-1) 1 (-1) a b c d, Qd 1 false a b c d, Qd 1 true b a d c,
 tpow 1 (-1) (-1) a b c d, tpow (-1) (-1) 1 a b c d, Qd (-1) false a b c d, Qd (-1) true b a d c,
 Qd 1 false a c b d, Qd (-1) false a c b d, Qd 1 false a d b c, Qd (-1) true b c a d,
 Qd 1 true a c b d, Qd (-1) true a c b d, Qd 1 true a d b c, Qd (-1) false a d b c]
inductive Alks : List (Fr × Bool) → List (Fr × Bool) → Prop
 | nil : Alks [] []
 | cons {x y : Fr × Bool} {l m : List (Fr × Bool)} (h : Alk x y) (t : Alks l m) : Alks (x :: l) (y :: m)
theorem Alks.all {l m : List (Fr × Bool)} (h : Alks l m) : l.all (·.2) = m.all (·.2) ∧ (m.all (·.2) = true → l.map (·.1) = m.map (·.1)) := by
 induction h with
 | nil => exact ⟨rfl, fun _ => rfl⟩
 | cons h t ih =>
  refine ⟨?_, fun hm => ?_⟩
  ·simp only [List.all_cons, h.1, ih.1]
  ·simp only [List.all_cons, Bool.and_eq_true] at hm
   simp only [List.map_cons, h.2 hm.1, ih.2 hm.2]
end
section
open Go.RowKit

section
variable {w : World} {dst : Option Tmp} {ty : TypeId} {pos : String} {after : Array Edge} {ρ : Operand → Value} {x y : Operand} {g o : Nat} {u v z : Int} {p0 p1 p2 : Value}
end
theorem Zt.tail {W w : World} {bs : Nat} {b : Bool} {x : Nat × TypeId × Array Value} {L : List (Nat × TypeId × Array Value)} (h : Zt W w bs b (x :: L)) : Zt W w bs b L := ⟨h.sm, h.sum, h.boxes.2, fun y hy => h.far y (.tail _ hy)⟩
theorem Yy.tail {W w : World} {bs : Nat} {b : Bool} {x : Nat × TypeId × Array Value} {L : List (Nat × TypeId × Array Value)} (h : Yy W w bs b (x :: L)) : Yy W w bs b L := ⟨h.sm, h.sum, h.boxes.2, fun y hy => h.far y (.tail _ hy)⟩
theorem Tz {w : World} {g : Nat} {x : Array Value} : ∀ {L : List (Nat × TypeId × Array Value)}, (∀ y ∈ L, y.1 ≠ g) → Zb w L → Zb (w.setRow g x) L
 | [], _, _ => trivial
 | y :: L, h, hb => ⟨hb.1.setRow_far (h y (.head _)) x, Tz (fun z hz => h z (.tail _ hz)) hb.2⟩
theorem Yy.setRow {W w : World} {bs g : Nat} {b : Bool} {t : TypeId} {y : Array Value} {L : List (Nat × TypeId × Array Value)} (h : Yy W w bs b ((g, t, y) :: L)) (hg : W.heap.size ≤ g) (hne : ∀ x ∈ L, x.1 ≠ g) (x : Array Value) : Yy W (w.setRow g x) bs b ((g, t, x) :: L) :=
 ⟨h.sm.setRow hg x, h.sum.setRow_far (Ne.symm (h.far _ (.head _))) x, ⟨h.boxes.1.setRow x, Tz hne h.boxes.2⟩, fun v hv => by
  rcases List.mem_cons.1 hv with rfl | hv
  ·exact h.far (g, t, y) (.head _)
  ·exact h.far v (.tail _ hv)⟩
section
variable {W w : World} {bs g i : Nat} {b : Bool} {t : TypeId} {l : List Fr} {L : List (Nat × TypeId × Array Value)} {ops : Array Oper} {rest : List Oper} {a : Act} {Q : Exit → Act → World → Prop} {x y : Operand} {u v z : Int} {ty : TypeId} {pos : String} {after : Array Edge}
end
end
section
open Go.RowKit

attribute [local go_sem] Zq Zp
section
variable {W w : World} {bs : Nat} {b : Bool} {L : List (Nat × TypeId × Array Value)} {a1 a2 a3 b1 b2 b3 c1 c2 c3 d1 d2 d3 x y z s1 s2 s3 : Int} {k : Bool}
end
end
end Go.Proofs.YtmjggolkopbcnaaGreatDoor
