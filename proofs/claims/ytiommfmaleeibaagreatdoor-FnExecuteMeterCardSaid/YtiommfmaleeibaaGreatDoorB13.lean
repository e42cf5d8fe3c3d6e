/-
  Proved: what functions compute, part 13. No condition.
-/
import Derived.Test.YtiommfmaleeibaaGreatDoorB12
import Derived.Test.YtiommfmaleeibaaGreatDoorB05
import Derived.Test.YtiommfmaleeibaaGreatDoorB01
import Derived.LoopN
import Derived.Test.YtiommfmaleeibaaGreatDoorB10
set_option linter.unusedSimpArgs false
set_option linter.unusedVariables false
set_option maxRecDepth 20000
set_option maxHeartbeats 8000000
namespace Go.Proofs.YtiommfmaleeibaaGreatDoor
section
open Go.RowKit

structure SmO (bs : Nat) (w w' : World) : Prop where
  ex : ∀ W, Ex W w → W.heap.size ≤ bs → Ex W w'
  box : ∀ b t cs, b ≠ bs → Box w b t cs → Box w' b t cs
  own : ∀ lo T k v n cs, T ≠ 155 → Own w lo T k v n cs → Own w' lo T k v n cs
  size : w.heap.size ≤ w'.heap.size
theorem SmO.of_ex {bs : Nat} {w w' : World} (h : Ex w w') : SmO bs w w' := ⟨fun _ hW _ => hW.trans h, fun _ _ _ _ hb => hb.ex h, fun _ _ _ _ _ _ _ ho => Own.ex ho h, h.size⟩
theorem SmO.refl (bs : Nat) (w : World) : SmO bs w w := SmO.of_ex (Ex.refl w)
theorem SmO.trans {bs : Nat} {w w1 w2 : World} (h : SmO bs w w1) (k : SmO bs w1 w2) : SmO bs w w2 :=
  ⟨fun W hW hl => k.ex W (h.ex W hW hl) hl, fun b t cs hne hb => k.box b t cs hne (h.box b t cs hne hb), fun _ _ _ _ _ _ hT ho => k.own _ _ _ _ _ _ hT (h.own _ _ _ _ _ _ hT ho), Nat.le_trans h.size k.size⟩
theorem SmO.set {bs : Nat} {w : World} {cs : Array Value} (hb : Box w bs 155 cs) (i : Nat) (u : Value) : SmO bs w (w.setCell ⟨bs, i, none⟩ u) :=
  ⟨fun W hW hl => hW.setCell (p := ⟨bs, i, none⟩) hl u, fun b t cs hne hb' => hb'.far (p := ⟨bs, i, none⟩) hne u,
   fun lo T k v n cs hT ho => Own.setCell (p := ⟨bs, i, none⟩) ho (fun g hg e => by subst e; exact Own.ne ho hb hT hg.symm) u, by simp⟩
theorem SmO.setNew {bs : Nat} {w w' : World} (h : SmO bs w w') {p : Addr} (hp : w.heap.size ≤ p.block) (u : Value) : SmO bs w (w'.setCell p u) :=
  ⟨fun W hW hl => (h.ex W hW hl).setCell (Nat.le_trans hW.size hp) u, fun b t cs hne hb => (h.box b t cs hne hb).far (by have := hb.lt; omega) u,
   fun lo T k v n cs hT ho => Own.setCell (h.own lo T k v n cs hT ho) (fun g hg e => by have := (Own.lt ho g hg).2; omega) u, by have := h.size; simpa using this⟩
theorem SmO.alloc {bs : Nat} {w w' : World} (h : SmO bs w w') (o : Obj) : SmO bs w (w'.alloc o) := h.trans (SmO.of_ex ((Ex.refl _).alloc o))

class Zr (W w : World) (bs : outParam Nat) (bad : outParam Bool) (L : outParam (List (Nat × TypeId × Array Value))) : Prop where
  sm : SmO bs W w
  sum : Box w bs 155 #[.bool bad]
  boxes : Yr w L
  far : ∀ x ∈ L, x.1 ≠ bs
theorem Yr.smO {bs : Nat} {w w1 : World} (hs : SmO bs w w1) : ∀ {L : List (Nat × TypeId × Array Value)}, (∀ x ∈ L, x.1 ≠ bs) → Yr w L → Yr w1 L
  | [], _, _ => trivial
  | _ :: _, hf, h => ⟨hs.box _ _ _ (hf _ (.head _)) h.1, Yr.smO hs (fun x hx => hf x (.tail _ hx)) h.2⟩
section
variable {W w w1 : World} {bs n : Nat} {bad : Bool} {L : List (Nat × TypeId × Array Value)} {cs : Array Value} {t : TypeId}
instance Zr.start {b : Bool} [h : Zw W w L] : Zr W (w.alloc (.cells #[.bool b] 155)) w.heap.size b L :=
  ⟨SmO.of_ex (h.ex.alloc _), Box.new w _ _, Yr.ex ((Ex.refl w).alloc _) h.boxes, fun x hx => Nat.ne_of_lt (Yr.old h.boxes x hx)⟩
instance Zr.alloc [h : Zr W w bs bad L] : Zr W (w.alloc (.cells cs t)) bs bad ((w.heap.size, t, cs) :: L) :=
  ⟨h.sm.alloc _, h.sum.alloc _, ⟨Box.new w cs t, Yr.ex ((Ex.refl w).alloc _) h.boxes⟩, fun x hx => by
    rcases List.mem_cons.1 hx with rfl | hx
    · exact (Nat.ne_of_lt h.sum.lt).symm
    · exact h.far x hx⟩
instance Zr.drew [h : Zr W w bs bad L] : Zr W w.drew bs bad L := ⟨h.sm.trans (SmO.of_ex (Ex.refl w).drew), h.sum.drew, Yr.ex (Ex.refl w).drew h.boxes, h.far⟩
instance Zr.drewN [h : Zr W w bs bad L] : Zr W (w.drewN n) bs bad L := ⟨h.sm.trans (SmO.of_ex ((Ex.refl w).drewN n)), h.sum.ex ((Ex.refl w).drewN n), Yr.ex ((Ex.refl w).drewN n) h.boxes, h.far⟩
theorem Zr.rel (h : Zr W w bs bad L) (hl : W.heap.size ≤ bs) : Ex W w := h.sm.ex W (Ex.refl W) hl
theorem Zr.init (hb : Box w bs 155 #[.bool bad]) : Zr w w bs bad [] := ⟨SmO.refl _ _, hb, trivial, fun x hx => by cases hx⟩
theorem Zr.put {b : Nat} (h : Zr W w bs bad L) (hb : Box w b t cs) (hne : b ≠ bs) : Zr W w bs bad ((b, t, cs) :: L) := ⟨h.sm, h.sum, ⟨hb, h.boxes⟩, fun x hx => by
  rcases List.mem_cons.1 hx with rfl | hx
  · exact hne
  · exact h.far x hx⟩
theorem Zr.after [h : Zr W w bs bad L] (hx : Ex w w1) : Zr W w1 bs bad L :=
  ⟨h.sm.trans (SmO.of_ex hx), h.sum.ex hx, Yr.ex hx h.boxes, h.far⟩
theorem Zr.call {bad' : Bool} (h : Zr W w bs bad L) (hs : SmO bs w w1) (hb : Box w1 bs 155 #[.bool bad']) : Zr W w1 bs bad' L :=
  ⟨h.sm.trans hs, hb, Yr.smO hs h.far h.boxes, h.far⟩
theorem Zr.reads (h : Zr W w bs bad L) : Nj w ((bs, 155, #[.bool bad]) :: L) := ⟨h.sum.cell, h.sum.frozen, h.sum.lt, h.boxes.reads⟩
end

theorem SmO.setRow {bs : Nat} {w w' : World} (h : SmO bs w w') {g : Nat} (hg : w.heap.size ≤ g) (x : Array Value) : SmO bs w (w'.setRow g x) :=
  ⟨fun W hW hl => (h.ex W hW hl).setRow (Nat.le_trans hW.size hg) x, fun b t cs hne hb => (h.box b t cs hne hb).setRow_far (by have := hb.lt; omega) x,
   fun lo T k v n cs hT ho => by
    have ho' := h.own lo T k v n cs hT ho
    refine ⟨ho'.1, ?_⟩
    rcases ho'.2 with h0 | ⟨g', cap, cur, rfl, hg', hh, hr⟩
    · exact .inl h0
    · refine .inr ⟨g', cap, cur, rfl, hg', ?_, hr⟩
      have : g' ≠ g := by have := (Own.lt ho g' rfl).2; omega
      exact (setRow_other w' g g' x this).trans hh, by have := h.size; simpa using this⟩
theorem Zr.drewW {W w : World} {bs : Nat} {b : Bool} {L : List (Nat × TypeId × Array Value)} (h : Zr W w bs b L) : Zr W { w with drawn := w.drawn + 1 } bs b L := Zr.drew (h := h)
theorem Zr.ex {W w w1 : World} {bs : Nat} {b : Bool} {L : List (Nat × TypeId × Array Value)} (h : Zr W w bs b L) (hx : Ex w w1) : Zr W w1 bs b L := Zr.after (h := h) hx
theorem Zr.cast {W w : World} {bs bs' : Nat} {b : Bool} {L L' : List (Nat × TypeId × Array Value)} [h : Zr W w bs b L] (e1 : bs = bs') (e2 : L = L') : Zr W w bs' b L' := by
  subst e1 e2
  exact h
section
variable {W w w2 : World} {bs : Nat} {b b2 : Bool} {L : List (Nat × TypeId × Array Value)} {g : Nat}
structure InO (W : World) (bs : Nat) (L : List (Nat × TypeId × Array Value)) (b : Bool) (w : World) : Prop where
  sees : Zr W w bs b L
  old : ∀ x ∈ L, x.1 < W.heap.size
  olds : bs < W.heap.size
theorem InO.start (h : Zr W w bs b L) : InO w bs L b w := ⟨⟨SmO.refl _ _, h.sum, h.boxes, h.far⟩, Yr.old h.boxes, h.sum.lt⟩
theorem InO.drew (h : InO W bs L b w) : InO W bs L b { w with drawn := w.drawn + 1 } := ⟨h.sees.drewW, h.old, h.olds⟩
theorem InO.alloc (h : InO W bs L b w) (o : Obj) : InO W bs L b (w.alloc o) := ⟨h.sees.ex ((Ex.refl w).alloc o), h.old, h.olds⟩
theorem InO.size (h : InO W bs L b w) : W.heap.size ≤ w.heap.size := h.sees.sm.size
theorem InO.setRow (h : InO W bs L b w) (hg : W.heap.size ≤ g) (x : Array Value) : InO W bs L b (w.setRow g x) :=
  ⟨⟨h.sees.sm.setRow hg x, h.sees.sum.setRow_far (by have := h.olds; omega) x, Yr.setRow_far (fun y hy => Nat.lt_of_lt_of_le (h.old y hy) hg) h.sees.boxes x, h.sees.far⟩, h.old, h.olds⟩
theorem InO.call (h : InO W bs L b w) (hN : Zr W w2 bs b2 L) : InO W bs L b2 w2 := ⟨hN, h.old, h.olds⟩
theorem InO.join (h0 : Zr W w bs b L) (h : InO w bs L b2 w2) : Zr W w2 bs b2 L := ⟨h0.sm.trans h.sees.sm, h.sees.sum, h.sees.boxes, h.sees.far⟩
end
theorem Zr.set3 {W w : World} {bs g : Nat} {b : Bool} {t : TypeId} {p q r : Value} {L : List (Nat × TypeId × Array Value)} (h : Zr W w bs b ((g, t, #[p, q, r]) :: L)) (hg : W.heap.size ≤ g) (hne : ∀ x ∈ L, x.1 ≠ g) (x y z : Value) :
    Zr W (((w.setCell ⟨g, 0, none⟩ x).setCell ⟨g, 1, none⟩ y).setCell ⟨g, 2, none⟩ z) bs b ((g, t, #[x, y, z]) :: L) := by
  have hb : g ≠ bs := h.far _ (.head _)
  refine ⟨((h.sm.setNew (p := ⟨g, 0, none⟩) hg x).setNew (p := ⟨g, 1, none⟩) hg y).setNew (p := ⟨g, 2, none⟩) hg z, ((h.sum.far (p := ⟨g, 0, none⟩) (Ne.symm hb) x).far (p := ⟨g, 1, none⟩) (Ne.symm hb) y).far (p := ⟨g, 2, none⟩) (Ne.symm hb) z, ⟨?_, ?_⟩, fun v hv => ?_⟩
  · have h2 := ((h.boxes.1.set_ 0 x).set_ 1 y).set_ 2 z
    simpa using h2
  · have : ∀ {M : List (Nat × TypeId × Array Value)}, (∀ v ∈ M, v.1 ≠ g) → Yr w M → Yr (((w.setCell ⟨g, 0, none⟩ x).setCell ⟨g, 1, none⟩ y).setCell ⟨g, 2, none⟩ z) M := by
      intro M
      induction M with
      | nil => exact fun _ _ => trivial
      | cons v M ih => exact fun hv hB => ⟨((hB.1.far (p := ⟨g, 0, none⟩) (hv _ (.head _)) x).far (p := ⟨g, 1, none⟩) (hv _ (.head _)) y).far (p := ⟨g, 2, none⟩) (hv _ (.head _)) z, ih (fun u hu => hv u (.tail _ hu)) hB.2⟩
    exact this hne h.boxes.2
  · rcases List.mem_cons.1 hv with rfl | hv
    · exact hb
    · exact h.far v (.tail _ hv)
def Xk (bs : Nat) (ok : Bool) (w : World) (r : Fr × Bool) : Ending → World → Prop := fun e w' => e = .returned r.1.v ∧ SmO bs w w' ∧ Box w' bs 155 #[.bool (ok && r.2)]
end
section
open Go.RowKit

theorem index4_0 (a1 a2 a3 b1 b2 b3 c1 c2 c3 d1 d2 d3 : Int) (w : World) : (Instr.index 31 (.agg #[.int .i64 a1, .int .i64 a2, .int .i64 a3, .int .i64 b1, .int .i64 b2, .int .i64 b3, .int .i64 c1, .int .i64 c2, .int .i64 c3, .int .i64 d1, .int .i64 d2, .int .i64 d3]) (.int .i64 0)).run Tryz.prog w = .ok (.agg #[.int .i64 a1, .int .i64 a2, .int .i64 a3]) w := by
 simp [Instr.index, run_underlying Tryz.underlying31, asIntOf, go_sem]
theorem index4_1 (a1 a2 a3 b1 b2 b3 c1 c2 c3 d1 d2 d3 : Int) (w : World) : (Instr.index 31 (.agg #[.int .i64 a1, .int .i64 a2, .int .i64 a3, .int .i64 b1, .int .i64 b2, .int .i64 b3, .int .i64 c1, .int .i64 c2, .int .i64 c3, .int .i64 d1, .int .i64 d2, .int .i64 d3]) (.int .i64 1)).run Tryz.prog w = .ok (.agg #[.int .i64 b1, .int .i64 b2, .int .i64 b3]) w := by
 simp [Instr.index, run_underlying Tryz.underlying31, asIntOf, go_sem]
theorem index4_2 (a1 a2 a3 b1 b2 b3 c1 c2 c3 d1 d2 d3 : Int) (w : World) : (Instr.index 31 (.agg #[.int .i64 a1, .int .i64 a2, .int .i64 a3, .int .i64 b1, .int .i64 b2, .int .i64 b3, .int .i64 c1, .int .i64 c2, .int .i64 c3, .int .i64 d1, .int .i64 d2, .int .i64 d3]) (.int .i64 2)).run Tryz.prog w = .ok (.agg #[.int .i64 c1, .int .i64 c2, .int .i64 c3]) w := by
 simp [Instr.index, run_underlying Tryz.underlying31, asIntOf, go_sem]
theorem index4_3 (a1 a2 a3 b1 b2 b3 c1 c2 c3 d1 d2 d3 : Int) (w : World) : (Instr.index 31 (.agg #[.int .i64 a1, .int .i64 a2, .int .i64 a3, .int .i64 b1, .int .i64 b2, .int .i64 b3, .int .i64 c1, .int .i64 c2, .int .i64 c3, .int .i64 d1, .int .i64 d2, .int .i64 d3]) (.int .i64 3)).run Tryz.prog w = .ok (.agg #[.int .i64 d1, .int .i64 d2, .int .i64 d3]) w := by
 simp [Instr.index, run_underlying Tryz.underlying31, asIntOf, go_sem]
theorem Of (m : M4) (w : World) : Calls Tryz.prog 96 #[m.v] w (fun e w' => e = .returned (.bool m.valid) ∧ Ex w w') := by
 obtain ⟨⟨a1, a2, a3⟩, ⟨b1, b2, b3⟩, ⟨c1, c2, c3⟩, ⟨d1, d2, d3⟩⟩ := m
 show Calls _ _ #[.agg #[.int .i64 a1, .int .i64 a2, .int .i64 a3, .int .i64 b1, .int .i64 b2, .int .i64 b3, .int .i64 c1, .int .i64 c2, .int .i64 c3, .int .i64 d1, .int .i64 d2, .int .i64 d3]] _ fun e w' => e = .returned (.bool (Zg a1 a2 a3 && Zg b1 b2 b3 && Zg c1 c2 c3 && Zg d1 d2 d3)) ∧ Ex w w'
 have ka := fun w => Yk a1 a2 a3 w
 generalize Zg a1 a2 a3 = va at ka ⊢
 have kb := fun w => Yk b1 b2 b3 w
 generalize Zg b1 b2 b3 = vb at kb ⊢
 have kc := fun w => Yk c1 c2 c3 w
 generalize Zg c1 c2 c3 = vc at kc ⊢
 have kd := fun w => Yk d1 d2 d3 w
 generalize Zg d1 d2 d3 = vd at kd ⊢
 rcases va with _ | _
 ·have KA := Kw ka
  clear ka kb kc kd
  have hS := Zw.refl w
  have hC := True.intro
  go_enter Tryz.func96, Tryz.ntmps96
  go_wp2
  have i0 := fun w => index4_0 a1 a2 a3 b1 b2 b3 c1 c2 c3 d1 d2 d3 w
  refine wp_loop_rounds 5 ?_
  rw [rounds_succ]
  go_wp2_with ((go_at_call 59; (with_reducible refine (KA.out _).mono ?_); rintro e wn ⟨rfl, hx⟩; replace hS := Zw.after (W := w) hx; clear hx; replace hC := hS.reads; simp only [Zz, Zy, Kv] at hC))
  go_ret
  refine ⟨Ya (by simp), ?_⟩
  repeat' (with_reducible first | exact hS.ex | exact Ex.refl _ | assumption | apply Ex.alloc | apply Ex.drewN | apply Ex.drew | refine Ex.setCell ?_ (by simp <;> omega) _)
 ·rcases vb with _ | _
  ·have KA := Kw ka
   have KB := Kw kb
   clear ka kb kc kd
   have hS := Zw.refl w
   have hC := True.intro
   go_enter Tryz.func96, Tryz.ntmps96
   go_wp2
   have i0 := fun w => index4_0 a1 a2 a3 b1 b2 b3 c1 c2 c3 d1 d2 d3 w
   have i1 := fun w => index4_1 a1 a2 a3 b1 b2 b3 c1 c2 c3 d1 d2 d3 w
   refine wp_loop_rounds 5 ?_
   rw [rounds_succ]
   go_wp2_with ((go_at_call 59; (with_reducible refine (KA.out _).mono ?_); rintro e wn ⟨rfl, hx⟩; replace hS := Zw.after (W := w) hx; clear hx; replace hC := hS.reads; simp only [Zz, Zy, Kv] at hC))
   rw [rounds_succ]
   go_wp2_with ((go_at_call 59; (with_reducible refine (KB.out _).mono ?_); rintro e wn ⟨rfl, hx⟩; replace hS := Zw.after (W := w) hx; clear hx; replace hC := hS.reads; simp only [Zz, Zy, Kv] at hC))
   go_ret
   refine ⟨Ya (by simp), ?_⟩
   repeat' (with_reducible first | exact hS.ex | exact Ex.refl _ | assumption | apply Ex.alloc | apply Ex.drewN | apply Ex.drew | refine Ex.setCell ?_ (by simp <;> omega) _)
  ·rcases vc with _ | _
   ·have KA := Kw ka
    have KB := Kw kb
    have KC := Kw kc
    clear ka kb kc kd
    have hS := Zw.refl w
    have hC := True.intro
    go_enter Tryz.func96, Tryz.ntmps96
    go_wp2
    have i0 := fun w => index4_0 a1 a2 a3 b1 b2 b3 c1 c2 c3 d1 d2 d3 w
    have i1 := fun w => index4_1 a1 a2 a3 b1 b2 b3 c1 c2 c3 d1 d2 d3 w
    have i2 := fun w => index4_2 a1 a2 a3 b1 b2 b3 c1 c2 c3 d1 d2 d3 w
    refine wp_loop_rounds 5 ?_
    rw [rounds_succ]
    go_wp2_with ((go_at_call 59; (with_reducible refine (KA.out _).mono ?_); rintro e wn ⟨rfl, hx⟩; replace hS := Zw.after (W := w) hx; clear hx; replace hC := hS.reads; simp only [Zz, Zy, Kv] at hC))
    rw [rounds_succ]
    go_wp2_with ((go_at_call 59; (with_reducible refine (KB.out _).mono ?_); rintro e wn ⟨rfl, hx⟩; replace hS := Zw.after (W := w) hx; clear hx; replace hC := hS.reads; simp only [Zz, Zy, Kv] at hC))
    rw [rounds_succ]
    go_wp2_with ((go_at_call 59; (with_reducible refine (KC.out _).mono ?_); rintro e wn ⟨rfl, hx⟩; replace hS := Zw.after (W := w) hx; clear hx; replace hC := hS.reads; simp only [Zz, Zy, Kv] at hC))
    go_ret
    refine ⟨Ya (by simp), ?_⟩
    repeat' (with_reducible first | exact hS.ex | exact Ex.refl _ | assumption | apply Ex.alloc | apply Ex.drewN | apply Ex.drew | refine Ex.setCell ?_ (by simp <;> omega) _)
   ·rcases vd with _ | _
    ·have KA := Kw ka
     have KB := Kw kb
     have KC := Kw kc
     have KD := Kw kd
     clear ka kb kc kd
     have hS := Zw.refl w
     have hC := True.intro
     go_enter Tryz.func96, Tryz.ntmps96
     go_wp2
     have i0 := fun w => index4_0 a1 a2 a3 b1 b2 b3 c1 c2 c3 d1 d2 d3 w
     have i1 := fun w => index4_1 a1 a2 a3 b1 b2 b3 c1 c2 c3 d1 d2 d3 w
     have i2 := fun w => index4_2 a1 a2 a3 b1 b2 b3 c1 c2 c3 d1 d2 d3 w
     have i3 := fun w => index4_3 a1 a2 a3 b1 b2 b3 c1 c2 c3 d1 d2 d3 w
     refine wp_loop_rounds 5 ?_
     rw [rounds_succ]
     go_wp2_with ((go_at_call 59; (with_reducible refine (KA.out _).mono ?_); rintro e wn ⟨rfl, hx⟩; replace hS := Zw.after (W := w) hx; clear hx; replace hC := hS.reads; simp only [Zz, Zy, Kv] at hC))
     rw [rounds_succ]
     go_wp2_with ((go_at_call 59; (with_reducible refine (KB.out _).mono ?_); rintro e wn ⟨rfl, hx⟩; replace hS := Zw.after (W := w) hx; clear hx; replace hC := hS.reads; simp only [Zz, Zy, Kv] at hC))
     rw [rounds_succ]
     go_wp2_with ((go_at_call 59; (with_reducible refine (KC.out _).mono ?_); rintro e wn ⟨rfl, hx⟩; replace hS := Zw.after (W := w) hx; clear hx; replace hC := hS.reads; simp only [Zz, Zy, Kv] at hC))
     rw [rounds_succ]
     go_wp2_with ((go_at_call 59; (with_reducible refine (KD.out _).mono ?_); rintro e wn ⟨rfl, hx⟩; replace hS := Zw.after (W := w) hx; clear hx; replace hC := hS.reads; simp only [Zz, Zy, Kv] at hC))
     go_ret
     refine ⟨Ya (by simp), ?_⟩
     repeat' (with_reducible first | exact hS.ex | exact Ex.refl _ | assumption | apply Ex.alloc | apply Ex.drewN | apply Ex.drew | refine Ex.setCell ?_ (by simp <;> omega) _)
    ·have KA := Kw ka
     have KB := Kw kb
     have KC := Kw kc
     have KD := Kw kd
     clear ka kb kc kd
     have hS := Zw.refl w
     have hC := True.intro
     go_enter Tryz.func96, Tryz.ntmps96
     go_wp2
     have i0 := fun w => index4_0 a1 a2 a3 b1 b2 b3 c1 c2 c3 d1 d2 d3 w
     have i1 := fun w => index4_1 a1 a2 a3 b1 b2 b3 c1 c2 c3 d1 d2 d3 w
     have i2 := fun w => index4_2 a1 a2 a3 b1 b2 b3 c1 c2 c3 d1 d2 d3 w
     have i3 := fun w => index4_3 a1 a2 a3 b1 b2 b3 c1 c2 c3 d1 d2 d3 w
     refine wp_loop_rounds 5 ?_
     rw [rounds_succ]
     go_wp2_with ((go_at_call 59; (with_reducible refine (KA.out _).mono ?_); rintro e wn ⟨rfl, hx⟩; replace hS := Zw.after (W := w) hx; clear hx; replace hC := hS.reads; simp only [Zz, Zy, Kv] at hC))
     rw [rounds_succ]
     go_wp2_with ((go_at_call 59; (with_reducible refine (KB.out _).mono ?_); rintro e wn ⟨rfl, hx⟩; replace hS := Zw.after (W := w) hx; clear hx; replace hC := hS.reads; simp only [Zz, Zy, Kv] at hC))
     rw [rounds_succ]
     go_wp2_with ((go_at_call 59; (with_reducible refine (KC.out _).mono ?_); rintro e wn ⟨rfl, hx⟩; replace hS := Zw.after (W := w) hx; clear hx; replace hC := hS.reads; simp only [Zz, Zy, Kv] at hC))
     rw [rounds_succ]
     go_wp2_with ((go_at_call 59; (with_reducible refine (KD.out _).mono ?_); rintro e wn ⟨rfl, hx⟩; replace hS := Zw.after (W := w) hx; clear hx; replace hC := hS.reads; simp only [Zz, Zy, Kv] at hC))
     rw [rounds_succ]
     go_wp2
     go_ret
     refine ⟨Ya (by simp), ?_⟩
     repeat' (with_reducible first | exact hS.ex | exact Ex.refl _ | assumption | apply Ex.alloc | apply Ex.drewN | apply Ex.drew | refine Ex.setCell ?_ (by simp <;> omega) _)
theorem Oe (m : M4) (w : World) : Calls Tryz.prog 110 #[m.v] w (fun e w' => e = .returned (.bool m.valid) ∧ Ex w w') := by
 obtain ⟨⟨a1, a2, a3⟩, ⟨b1, b2, b3⟩, ⟨c1, c2, c3⟩, ⟨d1, d2, d3⟩⟩ := m
 show Calls _ _ #[.agg #[.int .i64 a1, .int .i64 a2, .int .i64 a3, .int .i64 b1, .int .i64 b2, .int .i64 b3, .int .i64 c1, .int .i64 c2, .int .i64 c3, .int .i64 d1, .int .i64 d2, .int .i64 d3]] _ fun e w' => e = .returned (.bool (Zg a1 a2 a3 && Zg b1 b2 b3 && Zg c1 c2 c3 && Zg d1 d2 d3)) ∧ Ex w w'
 have ka := fun w => Wq a1 a2 a3 w
 generalize Zg a1 a2 a3 = va at ka ⊢
 have kb := fun w => Wq b1 b2 b3 w
 generalize Zg b1 b2 b3 = vb at kb ⊢
 have kc := fun w => Wq c1 c2 c3 w
 generalize Zg c1 c2 c3 = vc at kc ⊢
 have kd := fun w => Wq d1 d2 d3 w
 generalize Zg d1 d2 d3 = vd at kd ⊢
 rcases va with _ | _
 ·have KA := Kw ka
  clear ka kb kc kd
  have hS := Zw.refl w
  have hC := True.intro
  go_enter Tryz.func110, Tryz.ntmps110
  go_wp2
  refine wp_loop_rounds 5 ?_
  rw [rounds_succ]
  go_wp2_with ((go_at_call 174; (with_reducible refine (KA.out _).mono ?_); rintro e wn ⟨rfl, hx⟩; replace hS := Zw.after (W := w) hx; clear hx; replace hC := hS.reads; simp only [Zz, Zy, Kv] at hC))
  go_ret
  refine ⟨Ya (by simp), ?_⟩
  repeat' (with_reducible first | exact hS.ex | exact Ex.refl _ | assumption | apply Ex.alloc | apply Ex.drewN | apply Ex.drew | refine Ex.setCell ?_ (by simp <;> omega) _)
 ·rcases vb with _ | _
  ·have KA := Kw ka
   have KB := Kw kb
   clear ka kb kc kd
   have hS := Zw.refl w
   have hC := True.intro
   go_enter Tryz.func110, Tryz.ntmps110
   go_wp2
   refine wp_loop_rounds 5 ?_
   rw [rounds_succ]
   go_wp2_with ((go_at_call 174; (with_reducible refine (KA.out _).mono ?_); rintro e wn ⟨rfl, hx⟩; replace hS := Zw.after (W := w) hx; clear hx; replace hC := hS.reads; simp only [Zz, Zy, Kv] at hC))
   rw [rounds_succ]
   go_wp2_with ((go_at_call 174; (with_reducible refine (KB.out _).mono ?_); rintro e wn ⟨rfl, hx⟩; replace hS := Zw.after (W := w) hx; clear hx; replace hC := hS.reads; simp only [Zz, Zy, Kv] at hC))
   go_ret
   refine ⟨Ya (by simp), ?_⟩
   repeat' (with_reducible first | exact hS.ex | exact Ex.refl _ | assumption | apply Ex.alloc | apply Ex.drewN | apply Ex.drew | refine Ex.setCell ?_ (by simp <;> omega) _)
  ·rcases vc with _ | _
   ·have KA := Kw ka
    have KB := Kw kb
    have KC := Kw kc
    clear ka kb kc kd
    have hS := Zw.refl w
    have hC := True.intro
    go_enter Tryz.func110, Tryz.ntmps110
    go_wp2
    refine wp_loop_rounds 5 ?_
    rw [rounds_succ]
    go_wp2_with ((go_at_call 174; (with_reducible refine (KA.out _).mono ?_); rintro e wn ⟨rfl, hx⟩; replace hS := Zw.after (W := w) hx; clear hx; replace hC := hS.reads; simp only [Zz, Zy, Kv] at hC))
    rw [rounds_succ]
    go_wp2_with ((go_at_call 174; (with_reducible refine (KB.out _).mono ?_); rintro e wn ⟨rfl, hx⟩; replace hS := Zw.after (W := w) hx; clear hx; replace hC := hS.reads; simp only [Zz, Zy, Kv] at hC))
    rw [rounds_succ]
    go_wp2_with ((go_at_call 174; (with_reducible refine (KC.out _).mono ?_); rintro e wn ⟨rfl, hx⟩; replace hS := Zw.after (W := w) hx; clear hx; replace hC := hS.reads; simp only [Zz, Zy, Kv] at hC))
    go_ret
    refine ⟨Ya (by simp), ?_⟩
    repeat' (with_reducible first | exact hS.ex | exact Ex.refl _ | assumption | apply Ex.alloc | apply Ex.drewN | apply Ex.drew | refine Ex.setCell ?_ (by simp <;> omega) _)
   ·rcases vd with _ | _
    ·have KA := Kw ka
     have KB := Kw kb
     have KC := Kw kc
     have KD := Kw kd
     clear ka kb kc kd
     have hS := Zw.refl w
     have hC := True.intro
     go_enter Tryz.func110, Tryz.ntmps110
     go_wp2
     refine wp_loop_rounds 5 ?_
     rw [rounds_succ]
     go_wp2_with ((go_at_call 174; (with_reducible refine (KA.out _).mono ?_); rintro e wn ⟨rfl, hx⟩; replace hS := Zw.after (W := w) hx; clear hx; replace hC := hS.reads; simp only [Zz, Zy, Kv] at hC))
     rw [rounds_succ]
     go_wp2_with ((go_at_call 174; (with_reducible refine (KB.out _).mono ?_); rintro e wn ⟨rfl, hx⟩; replace hS := Zw.after (W := w) hx; clear hx; replace hC := hS.reads; simp only [Zz, Zy, Kv] at hC))
     rw [rounds_succ]
     go_wp2_with ((go_at_call 174; (with_reducible refine (KC.out _).mono ?_); rintro e wn ⟨rfl, hx⟩; replace hS := Zw.after (W := w) hx; clear hx; replace hC := hS.reads; simp only [Zz, Zy, Kv] at hC))
     rw [rounds_succ]
     go_wp2_with ((go_at_call 174; (with_reducible refine (KD.out _).mono ?_); rintro e wn ⟨rfl, hx⟩; replace hS := Zw.after (W := w) hx; clear hx; replace hC := hS.reads; simp only [Zz, Zy, Kv] at hC))
     go_ret
     refine ⟨Ya (by simp), ?_⟩
     repeat' (with_reducible first | exact hS.ex | exact Ex.refl _ | assumption | apply Ex.alloc | apply Ex.drewN | apply Ex.drew | refine Ex.setCell ?_ (by simp <;> omega) _)
    ·have KA := Kw ka
     have KB := Kw kb
     have KC := Kw kc
     have KD := Kw kd
     clear ka kb kc kd
     have hS := Zw.refl w
     have hC := True.intro
     go_enter Tryz.func110, Tryz.ntmps110
     go_wp2
     refine wp_loop_rounds 5 ?_
     rw [rounds_succ]
     go_wp2_with ((go_at_call 174; (with_reducible refine (KA.out _).mono ?_); rintro e wn ⟨rfl, hx⟩; replace hS := Zw.after (W := w) hx; clear hx; replace hC := hS.reads; simp only [Zz, Zy, Kv] at hC))
     rw [rounds_succ]
     go_wp2_with ((go_at_call 174; (with_reducible refine (KB.out _).mono ?_); rintro e wn ⟨rfl, hx⟩; replace hS := Zw.after (W := w) hx; clear hx; replace hC := hS.reads; simp only [Zz, Zy, Kv] at hC))
     rw [rounds_succ]
     go_wp2_with ((go_at_call 174; (with_reducible refine (KC.out _).mono ?_); rintro e wn ⟨rfl, hx⟩; replace hS := Zw.after (W := w) hx; clear hx; replace hC := hS.reads; simp only [Zz, Zy, Kv] at hC))
     rw [rounds_succ]
     go_wp2_with ((go_at_call 174; (with_reducible refine (KD.out _).mono ?_); rintro e wn ⟨rfl, hx⟩; replace hS := Zw.after (W := w) hx; clear hx; replace hC := hS.reads; simp only [Zz, Zy, Kv] at hC))
     rw [rounds_succ]
     go_wp2
     go_ret
     refine ⟨Ya (by simp), ?_⟩
     repeat' (with_reducible first | exact hS.ex | exact Ex.refl _ | assumption | apply Ex.alloc | apply Ex.drewN | apply Ex.drew | refine Ex.setCell ?_ (by simp <;> omega) _)
end
section
open Go.RowKit

theorem Yh.opn {P : Program} {f : Nat} {args : Array Value} {w : World} {r : Fr × Bool} (h : Calls P f args w (Yh w r)) : Calls P f args w fun e w' => e = .returned (frv r) ∧ Ex w w' := h
def m4v (r : M4 × Bool) : Value := .tuple #[r.1.v, .bool r.2]
def jvv (x y : Fr) : Value := .agg #[.int .i64 x.re, .int .i64 x.im, .int .i64 x.den, .int .i64 y.re, .int .i64 y.im, .int .i64 y.den]
def v2v (r : (Fr × Fr) × Bool) : Value := .tuple #[jvv r.1.1 r.1.2, .bool r.2]
theorem Pn (a b c d : Fr) (w : World) : Calls Tryz.prog 172 #[a.v, b.v, c.v, d.v] w (fun e w' => e = .returned (frv (Xx a b c d)) ∧ Ex w w') := by
 rw [← finner_eq]
 have k1 := fun w => Yh.opn (Vh a b w)
 have k2 := fun w => Yh.opn (Vh c d w)
 have k3 := fun w => Yh.opn (sFracAdd (Zu a b).1 (Zu c d).1 w)
 generalize Za (Zu a b).1 (Zu c d).1 = s at *
 generalize Zu a b = t at *
 generalize Zu c d = u at *
 obtain ⟨a1, a2, a3⟩ := a
 obtain ⟨b1, b2, b3⟩ := b
 obtain ⟨c1, c2, c3⟩ := c
 obtain ⟨d1, d2, d3⟩ := d
 obtain ⟨⟨s1, s2, s3⟩, sk⟩ := s
 obtain ⟨⟨t1, t2, t3⟩, tk⟩ := t
 obtain ⟨⟨u1, u2, u3⟩, uk⟩ := u
 simp only [m4v, v2v, frv, Fr.v, M4.v, jvv, Fr.none, M4.none] at k1 k2 k3 ⊢
 rcases tk with _ | _
 ·try simp only [Bool.false_and, Bool.and_false, Bool.false_eq_true, if_false, Bool.true_and, Bool.and_true]
  have K1 := Kw k1
  have K2 := Kw k2
  have K3 := Kw k3
  clear k1 k2 k3
  have hS := Zw.refl w
  have hC := True.intro
  go_enter Tryz.func172, Tryz.ntmps172
  go_wp2_with ((first | (go_at_call 108; (first | (with_reducible refine (K1.out _).mono ?_) | (with_reducible refine (K2.out _).mono ?_)); rintro e wn ⟨rfl, hx⟩; replace hS := Zw.after (W := w) hx; clear hx; replace hC := hS.reads; simp only [Zz, Zy, Kv] at hC) | (go_at_call 217; (with_reducible refine (K3.out _).mono ?_); rintro e wn ⟨rfl, hx⟩; replace hS := Zw.after (W := w) hx; clear hx; replace hC := hS.reads; simp only [Zz, Zy, Kv] at hC)))
  refine Kr ?_ rfl ⟨rfl, ?_⟩
  ·simp [results, Tryz.results172, go_sem, hC]
  ·repeat' (with_reducible first | exact hS.ex | exact Ex.refl _ | assumption | apply Ex.alloc | apply Ex.drewN | apply Ex.drew | refine Ex.setCell ?_ (by simp <;> omega) _)
 ·rcases uk with _ | _
  ·try simp only [Bool.false_and, Bool.and_false, Bool.false_eq_true, if_false, Bool.true_and, Bool.and_true]
   have K1 := Kw k1
   have K2 := Kw k2
   have K3 := Kw k3
   clear k1 k2 k3
   have hS := Zw.refl w
   have hC := True.intro
   go_enter Tryz.func172, Tryz.ntmps172
   go_wp2_with ((first | (go_at_call 108; (first | (with_reducible refine (K1.out _).mono ?_) | (with_reducible refine (K2.out _).mono ?_)); rintro e wn ⟨rfl, hx⟩; replace hS := Zw.after (W := w) hx; clear hx; replace hC := hS.reads; simp only [Zz, Zy, Kv] at hC) | (go_at_call 217; (with_reducible refine (K3.out _).mono ?_); rintro e wn ⟨rfl, hx⟩; replace hS := Zw.after (W := w) hx; clear hx; replace hC := hS.reads; simp only [Zz, Zy, Kv] at hC)))
   refine Kr ?_ rfl ⟨rfl, ?_⟩
   ·simp [results, Tryz.results172, go_sem, hC]
   ·repeat' (with_reducible first | exact hS.ex | exact Ex.refl _ | assumption | apply Ex.alloc | apply Ex.drewN | apply Ex.drew | refine Ex.setCell ?_ (by simp <;> omega) _)
  ·try simp only [Bool.and_self, if_true]
   have K1 := Kw k1
   have K2 := Kw k2
   have K3 := Kw k3
   clear k1 k2 k3
   have hS := Zw.refl w
   have hC := True.intro
   go_enter Tryz.func172, Tryz.ntmps172
   go_wp2_with ((first | (go_at_call 108; (first | (with_reducible refine (K1.out _).mono ?_) | (with_reducible refine (K2.out _).mono ?_)); rintro e wn ⟨rfl, hx⟩; replace hS := Zw.after (W := w) hx; clear hx; replace hC := hS.reads; simp only [Zz, Zy, Kv] at hC) | (go_at_call 217; (with_reducible refine (K3.out _).mono ?_); rintro e wn ⟨rfl, hx⟩; replace hS := Zw.after (W := w) hx; clear hx; replace hC := hS.reads; simp only [Zz, Zy, Kv] at hC)))
   refine Kr ?_ rfl ⟨rfl, ?_⟩
   ·simp [results, Tryz.results172, go_sem, hC]
   ·repeat' (with_reducible first | exact hS.ex | exact Ex.refl _ | assumption | apply Ex.alloc | apply Ex.drewN | apply Ex.drew | refine Ex.setCell ?_ (by simp <;> omega) _)
theorem Xc (a1 a2 a3 b1 b2 b3 c1 c2 c3 d1 d2 d3 : Int) (w : World) : Calls Tryz.prog 109 #[.agg #[.int .i64 a1, .int .i64 a2, .int .i64 a3], .agg #[.int .i64 b1, .int .i64 b2, .int .i64 b3], .agg #[.int .i64 c1, .int .i64 c2, .int .i64 c3], .agg #[.int .i64 d1, .int .i64 d2, .int .i64 d3], .bool true] w (fun e w' => e = .returned (.tuple #[.agg #[.int .i64 a1, .int .i64 a2, .int .i64 a3, .int .i64 b1, .int .i64 b2, .int .i64 b3, .int .i64 c1, .int .i64 c2, .int .i64 c3, .int .i64 d1, .int .i64 d2, .int .i64 d3], .bool true]) ∧ Ex w w') := by
 have hS := Zw.refl w
 have hC := True.intro
 go_enter Tryz.func109, Tryz.ntmps109
 go_wp2
 refine Kr ?_ rfl ⟨rfl, ?_⟩
 ·simp [results, Tryz.results109, go_sem]
 ·repeat' (with_reducible first | exact hS.ex | exact Ex.refl _ | assumption | apply Ex.alloc | apply Ex.drewN | apply Ex.drew | refine Ex.setCell ?_ (by simp <;> omega) _)
theorem Xn (a1 a2 a3 b1 b2 b3 c1 c2 c3 d1 d2 d3 : Int) (w : World) : Calls Tryz.prog 109 #[.agg #[.int .i64 a1, .int .i64 a2, .int .i64 a3], .agg #[.int .i64 b1, .int .i64 b2, .int .i64 b3], .agg #[.int .i64 c1, .int .i64 c2, .int .i64 c3], .agg #[.int .i64 d1, .int .i64 d2, .int .i64 d3], .bool false] w (fun e w' => e = .returned (.tuple #[.agg #[.int .i64 0, .int .i64 0, .int .i64 0, .int .i64 0, .int .i64 0, .int .i64 0, .int .i64 0, .int .i64 0, .int .i64 0, .int .i64 0, .int .i64 0, .int .i64 0], .bool false]) ∧ Ex w w') := by
 have hS := Zw.refl w
 have hC := True.intro
 go_enter Tryz.func109, Tryz.ntmps109
 go_wp2
 refine Kr ?_ rfl ⟨rfl, ?_⟩
 ·simp [results, Tryz.results109, go_sem]
 ·repeat' (with_reducible first | exact hS.ex | exact Ex.refl _ | assumption | apply Ex.alloc | apply Ex.drewN | apply Ex.drew | refine Ex.setCell ?_ (by simp <;> omega) _)
theorem sMatTimes (x y : M4) (w : World) : Calls Tryz.prog 105 #[x.v, y.v] w (fun e w' => e = .returned (m4v (Yx x y)) ∧ Ex w w') := by
 unfold Yx Po
 have kx := fun w => Oe x w
 have ky := fun w => Oe y w
 have k1 := fun w => Pn x.a y.a x.b y.c w
 have k2 := fun w => Pn x.a y.b x.b y.d w
 have k3 := fun w => Pn x.c y.a x.d y.c w
 have k4 := fun w => Pn x.c y.b x.d y.d w
 generalize Xx x.a y.a x.b y.c = s at *
 generalize Xx x.a y.b x.b y.d = t at *
 generalize Xx x.c y.a x.d y.c = u at *
 generalize Xx x.c y.b x.d y.d = v at *
 generalize x.valid = vx at *
 generalize y.valid = vy at *
 obtain ⟨⟨a1, a2, a3⟩, ⟨b1, b2, b3⟩, ⟨c1, c2, c3⟩, ⟨d1, d2, d3⟩⟩ := x
 obtain ⟨⟨e1, e2, e3⟩, ⟨f1, f2, f3⟩, ⟨g1, g2, g3⟩, ⟨h1, h2, h3⟩⟩ := y
 obtain ⟨⟨s1, s2, s3⟩, sk⟩ := s
 obtain ⟨⟨t1, t2, t3⟩, tk⟩ := t
 obtain ⟨⟨u1, u2, u3⟩, uk⟩ := u
 obtain ⟨⟨v1, v2, v3⟩, vk⟩ := v
 simp only [m4v, v2v, frv, Fr.v, M4.v, jvv, Fr.none, M4.none] at kx ky k1 k2 k3 k4 ⊢
 rcases vx with _ | _
 ·try simp only [Bool.false_and, Bool.and_false, Bool.false_eq_true, if_false, Bool.true_and, Bool.and_true]
  have KX := Kw kx
  have KY := Kw ky
  have K1 := Kw k1
  have K2 := Kw k2
  have K3 := Kw k3
  have K4 := Kw k4
  clear kx ky k1 k2 k3 k4
  have hS := Zw.refl w
  have hC := True.intro
  go_enter Tryz.func105, Tryz.ntmps105
  go_wp2_with ((first | (go_at_call 110; (first | (with_reducible refine (KX.out _).mono ?_) | (with_reducible refine (KY.out _).mono ?_)); rintro e wn ⟨rfl, hx⟩; replace hS := Zw.after (W := w) hx; clear hx; replace hC := hS.reads; simp only [Zz, Zy, Kv] at hC) | (go_at_call 172; (first | (with_reducible refine (K1.out _).mono ?_) | (with_reducible refine (K2.out _).mono ?_) | (with_reducible refine (K3.out _).mono ?_) | (with_reducible refine (K4.out _).mono ?_)); rintro e wn ⟨rfl, hx⟩; replace hS := Zw.after (W := w) hx; clear hx; replace hC := hS.reads; simp only [Zz, Zy, Kv] at hC) | (go_at_call 109; (first | (with_reducible refine (Xc _ _ _ _ _ _ _ _ _ _ _ _ _).mono ?_) | (with_reducible refine (Xn _ _ _ _ _ _ _ _ _ _ _ _ _).mono ?_)); rintro e wn ⟨rfl, hx⟩; replace hS := Zw.after (W := w) hx; clear hx; replace hC := hS.reads; simp only [Zz, Zy, Kv] at hC)))
  all_goals
   refine Kr ?_ rfl ⟨rfl, ?_⟩
   ·simp [results, Tryz.results105, go_sem, hC, *]
   ·repeat' (with_reducible first | exact hS.ex | exact Ex.refl _ | assumption | apply Ex.alloc | apply Ex.drewN | apply Ex.drew | refine Ex.setCell ?_ (by simp <;> omega) _)
 ·rcases vy with _ | _
  ·try simp only [Bool.false_and, Bool.and_false, Bool.false_eq_true, if_false, Bool.true_and, Bool.and_true]
   have KX := Kw kx
   have KY := Kw ky
   have K1 := Kw k1
   have K2 := Kw k2
   have K3 := Kw k3
   have K4 := Kw k4
   clear kx ky k1 k2 k3 k4
   have hS := Zw.refl w
   have hC := True.intro
   go_enter Tryz.func105, Tryz.ntmps105
   go_wp2_with ((first | (go_at_call 110; (first | (with_reducible refine (KX.out _).mono ?_) | (with_reducible refine (KY.out _).mono ?_)); rintro e wn ⟨rfl, hx⟩; replace hS := Zw.after (W := w) hx; clear hx; replace hC := hS.reads; simp only [Zz, Zy, Kv] at hC) | (go_at_call 172; (first | (with_reducible refine (K1.out _).mono ?_) | (with_reducible refine (K2.out _).mono ?_) | (with_reducible refine (K3.out _).mono ?_) | (with_reducible refine (K4.out _).mono ?_)); rintro e wn ⟨rfl, hx⟩; replace hS := Zw.after (W := w) hx; clear hx; replace hC := hS.reads; simp only [Zz, Zy, Kv] at hC) | (go_at_call 109; (first | (with_reducible refine (Xc _ _ _ _ _ _ _ _ _ _ _ _ _).mono ?_) | (with_reducible refine (Xn _ _ _ _ _ _ _ _ _ _ _ _ _).mono ?_)); rintro e wn ⟨rfl, hx⟩; replace hS := Zw.after (W := w) hx; clear hx; replace hC := hS.reads; simp only [Zz, Zy, Kv] at hC)))
   all_goals
    refine Kr ?_ rfl ⟨rfl, ?_⟩
    ·simp [results, Tryz.results105, go_sem, hC, *]
    ·repeat' (with_reducible first | exact hS.ex | exact Ex.refl _ | assumption | apply Ex.alloc | apply Ex.drewN | apply Ex.drew | refine Ex.setCell ?_ (by simp <;> omega) _)
  ·rcases vk with _ | _
   ·try simp only [Bool.false_and, Bool.and_false, Bool.false_eq_true, if_false, Bool.true_and, Bool.and_true]
    have KX := Kw kx
    have KY := Kw ky
    have K1 := Kw k1
    have K2 := Kw k2
    have K3 := Kw k3
    have K4 := Kw k4
    clear kx ky k1 k2 k3 k4
    have hS := Zw.refl w
    have hC := True.intro
    go_enter Tryz.func105, Tryz.ntmps105
    go_wp2_with ((first | (go_at_call 110; (first | (with_reducible refine (KX.out _).mono ?_) | (with_reducible refine (KY.out _).mono ?_)); rintro e wn ⟨rfl, hx⟩; replace hS := Zw.after (W := w) hx; clear hx; replace hC := hS.reads; simp only [Zz, Zy, Kv] at hC) | (go_at_call 172; (first | (with_reducible refine (K1.out _).mono ?_) | (with_reducible refine (K2.out _).mono ?_) | (with_reducible refine (K3.out _).mono ?_) | (with_reducible refine (K4.out _).mono ?_)); rintro e wn ⟨rfl, hx⟩; replace hS := Zw.after (W := w) hx; clear hx; replace hC := hS.reads; simp only [Zz, Zy, Kv] at hC) | (go_at_call 109; (first | (with_reducible refine (Xc _ _ _ _ _ _ _ _ _ _ _ _ _).mono ?_) | (with_reducible refine (Xn _ _ _ _ _ _ _ _ _ _ _ _ _).mono ?_)); rintro e wn ⟨rfl, hx⟩; replace hS := Zw.after (W := w) hx; clear hx; replace hC := hS.reads; simp only [Zz, Zy, Kv] at hC)))
    all_goals
     refine Kr ?_ rfl ⟨rfl, ?_⟩
     ·simp [results, Tryz.results105, go_sem, hC, *]
     ·repeat' (with_reducible first | exact hS.ex | exact Ex.refl _ | assumption | apply Ex.alloc | apply Ex.drewN | apply Ex.drew | refine Ex.setCell ?_ (by simp <;> omega) _)
   ·try simp only [Bool.and_self, if_true]
    have KX := Kw kx
    have KY := Kw ky
    have K1 := Kw k1
    have K2 := Kw k2
    have K3 := Kw k3
    have K4 := Kw k4
    clear kx ky k1 k2 k3 k4
    have hS := Zw.refl w
    have hC := True.intro
    go_enter Tryz.func105, Tryz.ntmps105
    go_wp2_with ((first | (go_at_call 110; (first | (with_reducible refine (KX.out _).mono ?_) | (with_reducible refine (KY.out _).mono ?_)); rintro e wn ⟨rfl, hx⟩; replace hS := Zw.after (W := w) hx; clear hx; replace hC := hS.reads; simp only [Zz, Zy, Kv] at hC) | (go_at_call 172; (first | (with_reducible refine (K1.out _).mono ?_) | (with_reducible refine (K2.out _).mono ?_) | (with_reducible refine (K3.out _).mono ?_) | (with_reducible refine (K4.out _).mono ?_)); rintro e wn ⟨rfl, hx⟩; replace hS := Zw.after (W := w) hx; clear hx; replace hC := hS.reads; simp only [Zz, Zy, Kv] at hC) | (go_at_call 109; (first | (with_reducible refine (Xc _ _ _ _ _ _ _ _ _ _ _ _ _).mono ?_) | (with_reducible refine (Xn _ _ _ _ _ _ _ _ _ _ _ _ _).mono ?_)); rintro e wn ⟨rfl, hx⟩; replace hS := Zw.after (W := w) hx; clear hx; replace hC := hS.reads; simp only [Zz, Zy, Kv] at hC)))
    all_goals
     refine Kr ?_ rfl ⟨rfl, ?_⟩
     ·simp [results, Tryz.results105, go_sem, hC, *]
     ·repeat' (with_reducible first | exact hS.ex | exact Ex.refl _ | assumption | apply Ex.alloc | apply Ex.drewN | apply Ex.drew | refine Ex.setCell ?_ (by simp <;> omega) _)
theorem sMatAdjoint (x : M4) (w : World) : Calls Tryz.prog 104 #[x.v] w (fun e w' => e = .returned (m4v (Vl x)) ∧ Ex w w') := by
 unfold Vl Po
 have k1 := fun w => Yh.opn (Us x.a w)
 have k2 := fun w => Yh.opn (Us x.c w)
 have k3 := fun w => Yh.opn (Us x.b w)
 have k4 := fun w => Yh.opn (Us x.d w)
 generalize Ze x.a = s at *
 generalize Ze x.c = t at *
 generalize Ze x.b = u at *
 generalize Ze x.d = v at *
 obtain ⟨⟨a1, a2, a3⟩, ⟨b1, b2, b3⟩, ⟨c1, c2, c3⟩, ⟨d1, d2, d3⟩⟩ := x
 obtain ⟨⟨s1, s2, s3⟩, sk⟩ := s
 obtain ⟨⟨t1, t2, t3⟩, tk⟩ := t
 obtain ⟨⟨u1, u2, u3⟩, uk⟩ := u
 obtain ⟨⟨v1, v2, v3⟩, vk⟩ := v
 simp only [m4v, v2v, frv, Fr.v, M4.v, jvv, Fr.none, M4.none] at k1 k2 k3 k4 ⊢
 rcases vk with _ | _
 ·try simp only [Bool.false_and, Bool.and_false, Bool.false_eq_true, if_false, Bool.true_and, Bool.and_true]
  have K1 := Kw k1
  have K2 := Kw k2
  have K3 := Kw k3
  have K4 := Kw k4
  clear k1 k2 k3 k4
  have hS := Zw.refl w
  have hC := True.intro
  go_enter Tryz.func104, Tryz.ntmps104
  go_wp2_with ((first | (go_at_call 171; (first | (with_reducible refine (K1.out _).mono ?_) | (with_reducible refine (K2.out _).mono ?_) | (with_reducible refine (K3.out _).mono ?_) | (with_reducible refine (K4.out _).mono ?_)); rintro e wn ⟨rfl, hx⟩; replace hS := Zw.after (W := w) hx; clear hx; replace hC := hS.reads; simp only [Zz, Zy, Kv] at hC) | (go_at_call 109; (first | (with_reducible refine (Xc _ _ _ _ _ _ _ _ _ _ _ _ _).mono ?_) | (with_reducible refine (Xn _ _ _ _ _ _ _ _ _ _ _ _ _).mono ?_)); rintro e wn ⟨rfl, hx⟩; replace hS := Zw.after (W := w) hx; clear hx; replace hC := hS.reads; simp only [Zz, Zy, Kv] at hC)))
  all_goals
   refine Kr ?_ rfl ⟨rfl, ?_⟩
   ·simp [results, Tryz.results104, go_sem, hC, *]
   ·repeat' (with_reducible first | exact hS.ex | exact Ex.refl _ | assumption | apply Ex.alloc | apply Ex.drewN | apply Ex.drew | refine Ex.setCell ?_ (by simp <;> omega) _)
 ·try simp only [Bool.and_self, if_true]
  have K1 := Kw k1
  have K2 := Kw k2
  have K3 := Kw k3
  have K4 := Kw k4
  clear k1 k2 k3 k4
  have hS := Zw.refl w
  have hC := True.intro
  go_enter Tryz.func104, Tryz.ntmps104
  go_wp2_with ((first | (go_at_call 171; (first | (with_reducible refine (K1.out _).mono ?_) | (with_reducible refine (K2.out _).mono ?_) | (with_reducible refine (K3.out _).mono ?_) | (with_reducible refine (K4.out _).mono ?_)); rintro e wn ⟨rfl, hx⟩; replace hS := Zw.after (W := w) hx; clear hx; replace hC := hS.reads; simp only [Zz, Zy, Kv] at hC) | (go_at_call 109; (first | (with_reducible refine (Xc _ _ _ _ _ _ _ _ _ _ _ _ _).mono ?_) | (with_reducible refine (Xn _ _ _ _ _ _ _ _ _ _ _ _ _).mono ?_)); rintro e wn ⟨rfl, hx⟩; replace hS := Zw.after (W := w) hx; clear hx; replace hC := hS.reads; simp only [Zz, Zy, Kv] at hC)))
  all_goals
   refine Kr ?_ rfl ⟨rfl, ?_⟩
   ·simp [results, Tryz.results104, go_sem, hC, *]
   ·repeat' (with_reducible first | exact hS.ex | exact Ex.refl _ | assumption | apply Ex.alloc | apply Ex.drewN | apply Ex.drew | refine Ex.setCell ?_ (by simp <;> omega) _)
end
end Go.Proofs.YtiommfmaleeibaaGreatDoor
