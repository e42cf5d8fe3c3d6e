/-
  What is known of a world in which a reckoning's block may be written: carried by instances.
-/
import Derived.Test.YtmmjkchjgeklnaaDoorSumB
import Derived.Test.YtmmjkchjgeklnaaDoorGlob
namespace Go.Proofs.YtmmjkchjgeklnaaDoor
open Go.RowKit

/-- World w has only grown since W, but for the block bs of a reckoning; its flag and other blocks are known. -/
class SeesS (W w : World) (bs : outParam Nat) (bad : outParam Bool) (L : outParam (List (Nat × TypeId × Array Value))) : Prop where
  sm : Sm bs W w
  sum : Box w bs 75 #[.bool bad]
  boxes : Boxes w L
  far : ∀ x ∈ L, x.1 ≠ bs
theorem Boxes.sm {bs : Nat} {w w1 : World} (hs : Sm bs w w1) : ∀ {L : List (Nat × TypeId × Array Value)}, (∀ x ∈ L, x.1 ≠ bs) → Boxes w L → Boxes w1 L
  | [], _, _ => trivial
  | _ :: _, hf, h => ⟨hs.box _ _ _ (hf _ (.head _)) h.1, Boxes.sm hs (fun x hx => hf x (.tail _ hx)) h.2⟩
theorem Boxes.old {w : World} : ∀ {L : List (Nat × TypeId × Array Value)}, Boxes w L → ∀ x ∈ L, x.1 < w.heap.size
  | [], _, _, hx => by cases hx
  | _ :: _, h, x, hx => by
    rcases List.mem_cons.1 hx with rfl | hx
    · exact h.1.lt
    · exact Boxes.old h.2 x hx
section
variable {W w w1 : World} {bs n : Nat} {bad : Bool} {L : List (Nat × TypeId × Array Value)} {cs : Array Value} {t : TypeId}
instance SeesS.start {b : Bool} [h : Sees W w L] : SeesS W (w.alloc (.cells #[.bool b] 75)) w.heap.size b L :=
  ⟨Sm.of_ex (h.ex.alloc _), Box.new w _ _, Boxes.ex ((Ex.refl w).alloc _) h.boxes, fun x hx => Nat.ne_of_lt (Boxes.old h.boxes x hx)⟩
instance SeesS.alloc [h : SeesS W w bs bad L] : SeesS W (w.alloc (.cells cs t)) bs bad ((w.heap.size, t, cs) :: L) :=
  ⟨h.sm.alloc _, h.sum.alloc _, ⟨Box.new w cs t, Boxes.ex ((Ex.refl w).alloc _) h.boxes⟩, fun x hx => by
    rcases List.mem_cons.1 hx with rfl | hx
    · exact (Nat.ne_of_lt h.sum.lt).symm
    · exact h.far x hx⟩
instance SeesS.drew [h : SeesS W w bs bad L] : SeesS W w.drew bs bad L := ⟨h.sm.trans (Sm.of_ex (Ex.refl w).drew), h.sum.drew, Boxes.ex (Ex.refl w).drew h.boxes, h.far⟩
instance SeesS.drewN [h : SeesS W w bs bad L] : SeesS W (w.drewN n) bs bad L := ⟨h.sm.trans (Sm.of_ex ((Ex.refl w).drewN n)), h.sum.ex ((Ex.refl w).drewN n), Boxes.ex ((Ex.refl w).drewN n) h.boxes, h.far⟩
theorem SeesS.rel (h : SeesS W w bs bad L) (hl : W.heap.size ≤ bs) : Ex W w := h.sm.ex W (Ex.refl W) hl
theorem SeesS.init (hb : Box w bs 75 #[.bool bad]) : SeesS w w bs bad [] := ⟨Sm.refl _ _, hb, trivial, fun x hx => by cases hx⟩
theorem SeesS.put {b : Nat} (h : SeesS W w bs bad L) (hb : Box w b t cs) (hne : b ≠ bs) : SeesS W w bs bad ((b, t, cs) :: L) := ⟨h.sm, h.sum, ⟨hb, h.boxes⟩, fun x hx => by
  rcases List.mem_cons.1 hx with rfl | hx
  · exact hne
  · exact h.far x hx⟩
/-- Behind a call that only makes memory. -/
theorem SeesS.after [h : SeesS W w bs bad L] (hx : Ex w w1) : SeesS W w1 bs bad L :=
  ⟨h.sm.trans (Sm.of_ex hx), h.sum.ex hx, Boxes.ex hx h.boxes, h.far⟩
/-- Behind a call of the reckoning's own. -/
theorem SeesS.call {bad' : Bool} (h : SeesS W w bs bad L) (hs : Sm bs w w1) (hb : Box w1 bs 75 #[.bool bad']) : SeesS W w1 bs bad' L :=
  ⟨h.sm.trans hs, hb, Boxes.sm hs h.far h.boxes, h.far⟩
theorem SeesS.reads (h : SeesS W w bs bad L) : Reads w ((bs, 75, #[.bool bad]) :: L) := ⟨h.sum.cell, h.sum.frozen, h.sum.lt, h.boxes.reads⟩
end

/-- What a method of a reckoning gives: a fraction, and the flag. -/
def SumR (W : World) (bs : Nat) (bad : Bool) (L : List (Nat × TypeId × Array Value)) (r : Fr × Bool) : Ending → World → Prop := fun e w' =>
  ∃ (x y z : Int) (ok : Bool), Hid ((⟨x, y, z⟩, ok) = r) ∧ e = .returned (.agg #[.int .i64 x, .int .i64 y, .int .i64 z]) ∧ SeesS W w' bs (bad || !ok) L
theorem SumR.of {W w : World} {bs : Nat} {bad : Bool} {L : List (Nat × TypeId × Array Value)} (h : SeesS W w bs bad L) {r : Fr × Bool} {f : FuncId} {args : Array Value} (hc : Calls Tryd.prog f args w (SumGot bs bad w r)) : Calls Tryd.prog f args w (SumR W bs bad L r) := by
  obtain ⟨⟨x, y, z⟩, ok⟩ := r
  refine hc.mono ?_
  rintro e w' ⟨rfl, hs, hb⟩
  exact ⟨x, y, z, ok, rfl, rfl, h.call hs hb⟩
section
variable (W : World) {w : World} {bs : Nat} {bad : Bool} {L : List (Nat × TypeId × Array Value)} [h : SeesS W w bs bad L] {a1 a2 a3 b1 b2 b3 : Int}
theorem add_see : Calls Tryd.prog 54 #[.pointer (some ⟨bs, 0, none⟩), .agg #[.int .i64 a1, .int .i64 a2, .int .i64 a3], .agg #[.int .i64 b1, .int .i64 b2, .int .i64 b3]] w (SumR W bs bad L (fadd2 ⟨a1, a2, a3⟩ ⟨b1, b2, b3⟩)) := SumR.of h (add_any bs bad ⟨a1, a2, a3⟩ ⟨b1, b2, b3⟩ w h.sum)
theorem times_see : Calls Tryd.prog 46 #[.pointer (some ⟨bs, 0, none⟩), .agg #[.int .i64 a1, .int .i64 a2, .int .i64 a3], .agg #[.int .i64 b1, .int .i64 b2, .int .i64 b3]] w (SumR W bs bad L (ftimes ⟨a1, a2, a3⟩ ⟨b1, b2, b3⟩)) := SumR.of h (times_any bs bad ⟨a1, a2, a3⟩ ⟨b1, b2, b3⟩ w h.sum)
theorem mirror_see : Calls Tryd.prog 76 #[.pointer (some ⟨bs, 0, none⟩), .agg #[.int .i64 a1, .int .i64 a2, .int .i64 a3]] w (SumR W bs bad L (fmirror ⟨a1, a2, a3⟩)) := SumR.of h (mirror_any bs bad ⟨a1, a2, a3⟩ w h.sum)
theorem power_see : Calls Tryd.prog 57 #[.pointer (some ⟨bs, 0, none⟩), .agg #[.int .i64 a1, .int .i64 a2, .int .i64 a3]] w (SumR W bs bad L (fpower ⟨a1, a2, a3⟩)) := SumR.of h (power_any bs bad ⟨a1, a2, a3⟩ w h.sum)
end
set_option maxHeartbeats 400000 in
theorem need_any (bs : Nat) (bad ok : Bool) (w : World) (hb : Box w bs 75 #[.bool bad]) :
    Calls Tryd.prog 44 #[.pointer (some ⟨bs, 0, none⟩), .bool ok] w fun e w' => e = .returned (.pointer (some ⟨bs, 0, none⟩)) ∧ Sm bs w w' ∧ Box w' bs 75 #[.bool (bad || !ok)] := by
  have c := hb.cell
  have f := hb.frozen
  have z := hb.lt
  rcases ok with _ | _
  · go_enter Tryd.func44, Tryd.ntmps44
    go_wp2
    go_ret
    refine ⟨rfl, Sm.set hb 0 _, ?_⟩
    have hs : Box _ bs 75 #[.bool true] := hb.set_ 0 (.bool true)
    have : (bad || !false) = true := by simp
    rw [this]
    exact hs
  · go_enter Tryd.func44, Tryd.ntmps44
    go_wp2
    go_ret
    refine ⟨rfl, Sm.refl _ _, ?_⟩
    have : (bad || !true) = bad := by simp
    rw [this]
    exact hb
def NeedR (W : World) (bs : Nat) (bad ok : Bool) (L : List (Nat × TypeId × Array Value)) : Ending → World → Prop := fun e w' => e = .returned (.pointer (some ⟨bs, 0, none⟩)) ∧ SeesS W w' bs (bad || !ok) L
theorem need_see (W : World) {w : World} {bs : Nat} {bad ok : Bool} {L : List (Nat × TypeId × Array Value)} [h : SeesS W w bs bad L] :
    Calls Tryd.prog 44 #[.pointer (some ⟨bs, 0, none⟩), .bool ok] w (NeedR W bs bad ok L) := by
  refine (need_any bs bad ok w h.sum).mono ?_
  rintro e w' ⟨rfl, hs, hb⟩
  exact ⟨rfl, h.call hs hb⟩
/-- Where the result is known. -/
theorem SumR.known {W w' : World} {bs : Nat} {bad : Bool} {L : List (Nat × TypeId × Array Value)} {r : Fr × Bool} {x y z : Int} {e : Ending} (h : SumR W bs bad L r e w') (hr : r = (⟨x, y, z⟩, true)) :
    e = .returned (.agg #[.int .i64 x, .int .i64 y, .int .i64 z]) ∧ SeesS W w' bs bad L := by
  obtain ⟨a, b, c, ok, H, rfl, hs⟩ := h
  have e1 := H.out
  rw [hr] at e1
  simp only [Prod.mk.injEq, Fr.mk.injEq] at e1
  obtain ⟨⟨rfl, rfl, rfl⟩, rfl⟩ := e1
  refine ⟨rfl, ?_⟩
  have : (bad || !true) = bad := by simp
  rw [this] at hs
  exact hs
end Go.Proofs.YtmmjkchjgeklnaaDoor
