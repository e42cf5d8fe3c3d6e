/-
  Contracts of a reckoning's methods, each of one value; what 'got' hands on.
-/
import Derived.Test.YtmmjkchjgeklnaaDoorSeeS
import Derived.Test.YtmmjkchjgeklnaaDoorQui
namespace Go.Proofs.YtmmjkchjgeklnaaDoor
open Go.RowKit

section
variable {W w : World} {bs : Nat} {b : Bool} {L : List (Nat × TypeId × Array Value)} {a1 a2 a3 b1 b2 b3 x y z : Int} {k : Bool}
theorem det_of {r : Fr × Bool} {f : FuncId} {args : Array Value} (hB : SeesS W w bs b L) (hc : Calls Tryd.prog f args w (SumGot bs b w r)) (hr : r = (⟨x, y, z⟩, k)) :
    Calls Tryd.prog f args w fun e w' => e = .returned (.agg #[.int .i64 x, .int .i64 y, .int .i64 z]) ∧ SeesS W w' bs (b || !k) L ∧ Sm bs w w' := by
  subst hr
  refine hc.mono ?_
  rintro e w' ⟨rfl, hs, hb⟩
  exact ⟨rfl, hB.call hs hb, hs⟩
theorem add_det (hB : SeesS W w bs b L) (hr : fadd2 ⟨a1, a2, a3⟩ ⟨b1, b2, b3⟩ = (⟨x, y, z⟩, k)) : Calls Tryd.prog 54 #[.pointer (some ⟨bs, 0, none⟩), .agg #[.int .i64 a1, .int .i64 a2, .int .i64 a3], .agg #[.int .i64 b1, .int .i64 b2, .int .i64 b3]] w fun e w' => e = .returned (.agg #[.int .i64 x, .int .i64 y, .int .i64 z]) ∧ SeesS W w' bs (b || !k) L ∧ Sm bs w w' := det_of hB (add_any bs b ⟨a1, a2, a3⟩ ⟨b1, b2, b3⟩ w hB.sum) hr
theorem times_det (hB : SeesS W w bs b L) (hr : ftimes ⟨a1, a2, a3⟩ ⟨b1, b2, b3⟩ = (⟨x, y, z⟩, k)) : Calls Tryd.prog 46 #[.pointer (some ⟨bs, 0, none⟩), .agg #[.int .i64 a1, .int .i64 a2, .int .i64 a3], .agg #[.int .i64 b1, .int .i64 b2, .int .i64 b3]] w fun e w' => e = .returned (.agg #[.int .i64 x, .int .i64 y, .int .i64 z]) ∧ SeesS W w' bs (b || !k) L ∧ Sm bs w w' := det_of hB (times_any bs b ⟨a1, a2, a3⟩ ⟨b1, b2, b3⟩ w hB.sum) hr
theorem mirror_det (hB : SeesS W w bs b L) (hr : fmirror ⟨a1, a2, a3⟩ = (⟨x, y, z⟩, k)) : Calls Tryd.prog 76 #[.pointer (some ⟨bs, 0, none⟩), .agg #[.int .i64 a1, .int .i64 a2, .int .i64 a3]] w fun e w' => e = .returned (.agg #[.int .i64 x, .int .i64 y, .int .i64 z]) ∧ SeesS W w' bs (b || !k) L ∧ Sm bs w w' := det_of hB (mirror_any bs b ⟨a1, a2, a3⟩ w hB.sum) hr
theorem power_det (hB : SeesS W w bs b L) (hr : fpower ⟨a1, a2, a3⟩ = (⟨x, y, z⟩, k)) : Calls Tryd.prog 57 #[.pointer (some ⟨bs, 0, none⟩), .agg #[.int .i64 a1, .int .i64 a2, .int .i64 a3]] w fun e w' => e = .returned (.agg #[.int .i64 x, .int .i64 y, .int .i64 z]) ∧ SeesS W w' bs (b || !k) L ∧ Sm bs w w' := det_of hB (power_any bs b ⟨a1, a2, a3⟩ w hB.sum) hr
end
theorem SeesS.cast {W w : World} {bs bs' : Nat} {b : Bool} {L L' : List (Nat × TypeId × Array Value)} [h : SeesS W w bs b L] (e1 : bs = bs') (e2 : L = L') : SeesS W w bs' b L' := by
  subst e1 e2
  exact h
theorem Sees.cast {W w : World} {L L' : List (Nat × TypeId × Array Value)} [h : Sees W w L] (e2 : L = L') : Sees W w L' := by
  subst e2
  exact h
theorem Sees.drewW {W w : World} {L : List (Nat × TypeId × Array Value)} (h : Sees W w L) : Sees W { w with drawn := w.drawn + 1 } L := Sees.drew (h := h)
theorem Sees.go {W w w1 : World} {L : List (Nat × TypeId × Array Value)} (h : Sees W w L) (hx : Ex w w1) : Sees W w1 L := Sees.after (h := h) hx
theorem SeesS.drewW {W w : World} {bs : Nat} {b : Bool} {L : List (Nat × TypeId × Array Value)} (h : SeesS W w bs b L) : SeesS W { w with drawn := w.drawn + 1 } bs b L := SeesS.drew (h := h)
theorem SeesS.ex {W w w1 : World} {bs : Nat} {b : Bool} {L : List (Nat × TypeId × Array Value)} (h : SeesS W w bs b L) (hx : Ex w w1) : SeesS W w1 bs b L := SeesS.after (h := h) hx
set_option maxHeartbeats 400000 in
theorem gotFrac_true (bs : Nat) (v0 v1 v2 : Int) (w : World) (hb : Box w bs 75 #[.bool true]) : Calls Tryd.prog 56 #[.pointer (some ⟨bs, 0, none⟩), .agg #[.int .i64 v0, .int .i64 v1, .int .i64 v2]] w fun e w' => e = .returned (.tuple #[.agg #[.int .i64 0, .int .i64 0, .int .i64 0], .bool false]) ∧ Ex w w' := by
  have c := hb.cell
  have z := hb.lt
  have ne1 : w.heap.size ≠ bs := Nat.ne_of_gt z
  have hS := Sees.refl w
  have hC := True.intro
  go_enter Tryd.func56, Tryd.ntmps56
  go_wp2
  refine bodyPost_ret ?_ rfl ⟨rfl, ?_⟩
  · simp [results, Tryd.results56, go_sem, hC]
  · repeat' (with_reducible first | exact hS.ex | exact Ex.refl _ | assumption | refine Ex.alloc ?_ _ | refine Ex.drewN ?_ _ | refine Ex.drew ?_ | refine Ex.setCell ?_ (by simp <;> omega) _)
set_option maxHeartbeats 400000 in
theorem gotFrac_false (bs : Nat) (v0 v1 v2 : Int) (w : World) (hb : Box w bs 75 #[.bool false]) : Calls Tryd.prog 56 #[.pointer (some ⟨bs, 0, none⟩), .agg #[.int .i64 v0, .int .i64 v1, .int .i64 v2]] w fun e w' => e = .returned (.tuple #[.agg #[.int .i64 v0, .int .i64 v1, .int .i64 v2], .bool true]) ∧ Ex w w' := by
  have c := hb.cell
  have z := hb.lt
  have ne1 : w.heap.size ≠ bs := Nat.ne_of_gt z
  have hS := Sees.refl w
  have hC := True.intro
  go_enter Tryd.func56, Tryd.ntmps56
  go_wp2
  refine bodyPost_ret ?_ rfl ⟨rfl, ?_⟩
  · simp [results, Tryd.results56, go_sem, hC]
  · repeat' (with_reducible first | exact hS.ex | exact Ex.refl _ | assumption | refine Ex.alloc ?_ _ | refine Ex.drewN ?_ _ | refine Ex.drew ?_ | refine Ex.setCell ?_ (by simp <;> omega) _)
set_option maxHeartbeats 400000 in
theorem gotMat_true (bs : Nat) (v0 v1 v2 v3 v4 v5 v6 v7 v8 v9 v10 v11 : Int) (w : World) (hb : Box w bs 75 #[.bool true]) : Calls Tryd.prog 45 #[.pointer (some ⟨bs, 0, none⟩), .agg #[.int .i64 v0, .int .i64 v1, .int .i64 v2, .int .i64 v3, .int .i64 v4, .int .i64 v5, .int .i64 v6, .int .i64 v7, .int .i64 v8, .int .i64 v9, .int .i64 v10, .int .i64 v11]] w fun e w' => e = .returned (.tuple #[.agg #[.int .i64 0, .int .i64 0, .int .i64 0, .int .i64 0, .int .i64 0, .int .i64 0, .int .i64 0, .int .i64 0, .int .i64 0, .int .i64 0, .int .i64 0, .int .i64 0], .bool false]) ∧ Ex w w' := by
  have c := hb.cell
  have z := hb.lt
  have ne1 : w.heap.size ≠ bs := Nat.ne_of_gt z
  have hS := Sees.refl w
  have hC := True.intro
  go_enter Tryd.func45, Tryd.ntmps45
  go_wp2
  refine bodyPost_ret ?_ rfl ⟨rfl, ?_⟩
  · simp [results, Tryd.results45, go_sem, hC]
  · repeat' (with_reducible first | exact hS.ex | exact Ex.refl _ | assumption | refine Ex.alloc ?_ _ | refine Ex.drewN ?_ _ | refine Ex.drew ?_ | refine Ex.setCell ?_ (by simp <;> omega) _)
set_option maxHeartbeats 400000 in
theorem gotMat_false (bs : Nat) (v0 v1 v2 v3 v4 v5 v6 v7 v8 v9 v10 v11 : Int) (w : World) (hb : Box w bs 75 #[.bool false]) : Calls Tryd.prog 45 #[.pointer (some ⟨bs, 0, none⟩), .agg #[.int .i64 v0, .int .i64 v1, .int .i64 v2, .int .i64 v3, .int .i64 v4, .int .i64 v5, .int .i64 v6, .int .i64 v7, .int .i64 v8, .int .i64 v9, .int .i64 v10, .int .i64 v11]] w fun e w' => e = .returned (.tuple #[.agg #[.int .i64 v0, .int .i64 v1, .int .i64 v2, .int .i64 v3, .int .i64 v4, .int .i64 v5, .int .i64 v6, .int .i64 v7, .int .i64 v8, .int .i64 v9, .int .i64 v10, .int .i64 v11], .bool true]) ∧ Ex w w' := by
  have c := hb.cell
  have z := hb.lt
  have ne1 : w.heap.size ≠ bs := Nat.ne_of_gt z
  have hS := Sees.refl w
  have hC := True.intro
  go_enter Tryd.func45, Tryd.ntmps45
  go_wp2
  refine bodyPost_ret ?_ rfl ⟨rfl, ?_⟩
  · simp [results, Tryd.results45, go_sem, hC]
  · repeat' (with_reducible first | exact hS.ex | exact Ex.refl _ | assumption | refine Ex.alloc ?_ _ | refine Ex.drewN ?_ _ | refine Ex.drew ?_ | refine Ex.setCell ?_ (by simp <;> omega) _)
set_option maxHeartbeats 400000 in
theorem gotJones_true (bs : Nat) (v0 v1 v2 v3 v4 v5 : Int) (w : World) (hb : Box w bs 75 #[.bool true]) : Calls Tryd.prog 55 #[.pointer (some ⟨bs, 0, none⟩), .agg #[.int .i64 v0, .int .i64 v1, .int .i64 v2, .int .i64 v3, .int .i64 v4, .int .i64 v5]] w fun e w' => e = .returned (.tuple #[.agg #[.int .i64 0, .int .i64 0, .int .i64 0, .int .i64 0, .int .i64 0, .int .i64 0], .bool false]) ∧ Ex w w' := by
  have c := hb.cell
  have z := hb.lt
  have ne1 : w.heap.size ≠ bs := Nat.ne_of_gt z
  have hS := Sees.refl w
  have hC := True.intro
  go_enter Tryd.func55, Tryd.ntmps55
  go_wp2
  refine bodyPost_ret ?_ rfl ⟨rfl, ?_⟩
  · simp [results, Tryd.results55, go_sem, hC]
  · repeat' (with_reducible first | exact hS.ex | exact Ex.refl _ | assumption | refine Ex.alloc ?_ _ | refine Ex.drewN ?_ _ | refine Ex.drew ?_ | refine Ex.setCell ?_ (by simp <;> omega) _)
set_option maxHeartbeats 400000 in
theorem gotJones_false (bs : Nat) (v0 v1 v2 v3 v4 v5 : Int) (w : World) (hb : Box w bs 75 #[.bool false]) : Calls Tryd.prog 55 #[.pointer (some ⟨bs, 0, none⟩), .agg #[.int .i64 v0, .int .i64 v1, .int .i64 v2, .int .i64 v3, .int .i64 v4, .int .i64 v5]] w fun e w' => e = .returned (.tuple #[.agg #[.int .i64 v0, .int .i64 v1, .int .i64 v2, .int .i64 v3, .int .i64 v4, .int .i64 v5], .bool true]) ∧ Ex w w' := by
  have c := hb.cell
  have z := hb.lt
  have ne1 : w.heap.size ≠ bs := Nat.ne_of_gt z
  have hS := Sees.refl w
  have hC := True.intro
  go_enter Tryd.func55, Tryd.ntmps55
  go_wp2
  refine bodyPost_ret ?_ rfl ⟨rfl, ?_⟩
  · simp [results, Tryd.results55, go_sem, hC]
  · repeat' (with_reducible first | exact hS.ex | exact Ex.refl _ | assumption | refine Ex.alloc ?_ _ | refine Ex.drewN ?_ _ | refine Ex.drew ?_ | refine Ex.setCell ?_ (by simp <;> omega) _)
end Go.Proofs.YtmmjkchjgeklnaaDoor
