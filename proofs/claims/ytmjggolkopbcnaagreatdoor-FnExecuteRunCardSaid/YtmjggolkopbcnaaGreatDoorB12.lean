/-
  Proved: what functions compute, part 12. No condition.
-/
import Derived.Test.YtmjggolkopbcnaaGreatDoorB10
import Derived.Test.YtmjggolkopbcnaaGreatDoorB01
import Derived.Test.YtmjggolkopbcnaaGreatDoorB05
import Derived.LoopN
import Derived.Test.YtmjggolkopbcnaaGreatDoorB11
import Derived.Deep.RegionWith
set_option linter.unusedSimpArgs false
set_option linter.unusedVariables false
set_option maxRecDepth 20000
set_option maxHeartbeats 8000000
namespace Go.Proofs.YtmjggolkopbcnaaGreatDoor
section
open Go.RowKit

theorem index4_0 (a1 a2 a3 b1 b2 b3 c1 c2 c3 d1 d2 d3 : Int) (w : World) : (Instr.index 28 (.agg #[.int .i64 a1, .int .i64 a2, .int .i64 a3, .int .i64 b1, .int .i64 b2, .int .i64 b3, .int .i64 c1, .int .i64 c2, .int .i64 c3, .int .i64 d1, .int .i64 d2, .int .i64 d3]) (.int .i64 0)).run Tryz.prog w = .ok (.agg #[.int .i64 a1, .int .i64 a2, .int .i64 a3]) w := by
 simp [Instr.index, run_underlying Tryz.underlying28, asIntOf, go_sem]
theorem index4_1 (a1 a2 a3 b1 b2 b3 c1 c2 c3 d1 d2 d3 : Int) (w : World) : (Instr.index 28 (.agg #[.int .i64 a1, .int .i64 a2, .int .i64 a3, .int .i64 b1, .int .i64 b2, .int .i64 b3, .int .i64 c1, .int .i64 c2, .int .i64 c3, .int .i64 d1, .int .i64 d2, .int .i64 d3]) (.int .i64 1)).run Tryz.prog w = .ok (.agg #[.int .i64 b1, .int .i64 b2, .int .i64 b3]) w := by
 simp [Instr.index, run_underlying Tryz.underlying28, asIntOf, go_sem]
theorem index4_2 (a1 a2 a3 b1 b2 b3 c1 c2 c3 d1 d2 d3 : Int) (w : World) : (Instr.index 28 (.agg #[.int .i64 a1, .int .i64 a2, .int .i64 a3, .int .i64 b1, .int .i64 b2, .int .i64 b3, .int .i64 c1, .int .i64 c2, .int .i64 c3, .int .i64 d1, .int .i64 d2, .int .i64 d3]) (.int .i64 2)).run Tryz.prog w = .ok (.agg #[.int .i64 c1, .int .i64 c2, .int .i64 c3]) w := by
 simp [Instr.index, run_underlying Tryz.underlying28, asIntOf, go_sem]
theorem index4_3 (a1 a2 a3 b1 b2 b3 c1 c2 c3 d1 d2 d3 : Int) (w : World) : (Instr.index 28 (.agg #[.int .i64 a1, .int .i64 a2, .int .i64 a3, .int .i64 b1, .int .i64 b2, .int .i64 b3, .int .i64 c1, .int .i64 c2, .int .i64 c3, .int .i64 d1, .int .i64 d2, .int .i64 d3]) (.int .i64 3)).run Tryz.prog w = .ok (.agg #[.int .i64 d1, .int .i64 d2, .int .i64 d3]) w := by
 simp [Instr.index, run_underlying Tryz.underlying28, asIntOf, go_sem]
theorem Rf (m : M4) (w : World) : Calls Tryz.prog 92 #[m.v] w (fun e w' => e = .returned (.bool m.valid) ∧ Ex w w') := by
 obtain ⟨⟨a1, a2, a3⟩, ⟨b1, b2, b3⟩, ⟨c1, c2, c3⟩, ⟨d1, d2, d3⟩⟩ := m
 show Calls _ _ #[.agg #[.int .i64 a1, .int .i64 a2, .int .i64 a3, .int .i64 b1, .int .i64 b2, .int .i64 b3, .int .i64 c1, .int .i64 c2, .int .i64 c3, .int .i64 d1, .int .i64 d2, .int .i64 d3]] _ fun e w' => e = .returned (.bool (Zk a1 a2 a3 && Zk b1 b2 b3 && Zk c1 c2 c3 && Zk d1 d2 d3)) ∧ Ex w w'
 have ka := fun w => Ya a1 a2 a3 w
 generalize Zk a1 a2 a3 = va at ka ⊢
 have kb := fun w => Ya b1 b2 b3 w
 generalize Zk b1 b2 b3 = vb at kb ⊢
 have kc := fun w => Ya c1 c2 c3 w
 generalize Zk c1 c2 c3 = vc at kc ⊢
 have kd := fun w => Ya d1 d2 d3 w
 generalize Zk d1 d2 d3 = vd at kd ⊢
 rcases va with _ | _
 ·have KA := Oi ka
  clear ka kb kc kd
  have hS := Zw.refl w
  have hC := True.intro
  go_enter Tryz.func92, Tryz.ntmps92
  go_wp2
  have i0 := fun w => index4_0 a1 a2 a3 b1 b2 b3 c1 c2 c3 d1 d2 d3 w
  refine wp_loop_rounds 5 ?_
  rw [rounds_succ]
  go_wp2_with ((go_at_call 60; (with_reducible refine (KA.out _).mono ?_); rintro e wn ⟨rfl, hx⟩; replace hS := Zw.after (W := w) hx; clear hx; replace hC := hS.reads; simp only [Zz, Zy, Oh] at hC))
  go_ret
  refine ⟨Yr (by simp), ?_⟩
  repeat' (with_reducible first | exact hS.ex | exact Ex.refl _ | assumption | apply Ex.alloc | apply Ex.drewN | apply Ex.drew | refine Ex.setCell ?_ (by simp <;> omega) _)
 ·rcases vb with _ | _
  ·have KA := Oi ka
   have KB := Oi kb
   clear ka kb kc kd
   have hS := Zw.refl w
   have hC := True.intro
   go_enter Tryz.func92, Tryz.ntmps92
   go_wp2
   have i0 := fun w => index4_0 a1 a2 a3 b1 b2 b3 c1 c2 c3 d1 d2 d3 w
   have i1 := fun w => index4_1 a1 a2 a3 b1 b2 b3 c1 c2 c3 d1 d2 d3 w
   refine wp_loop_rounds 5 ?_
   rw [rounds_succ]
   go_wp2_with ((go_at_call 60; (with_reducible refine (KA.out _).mono ?_); rintro e wn ⟨rfl, hx⟩; replace hS := Zw.after (W := w) hx; clear hx; replace hC := hS.reads; simp only [Zz, Zy, Oh] at hC))
   rw [rounds_succ]
   go_wp2_with ((go_at_call 60; (with_reducible refine (KB.out _).mono ?_); rintro e wn ⟨rfl, hx⟩; replace hS := Zw.after (W := w) hx; clear hx; replace hC := hS.reads; simp only [Zz, Zy, Oh] at hC))
   go_ret
   refine ⟨Yr (by simp), ?_⟩
   repeat' (with_reducible first | exact hS.ex | exact Ex.refl _ | assumption | apply Ex.alloc | apply Ex.drewN | apply Ex.drew | refine Ex.setCell ?_ (by simp <;> omega) _)
  ·rcases vc with _ | _
   ·have KA := Oi ka
    have KB := Oi kb
    have KC := Oi kc
    clear ka kb kc kd
    have hS := Zw.refl w
    have hC := True.intro
    go_enter Tryz.func92, Tryz.ntmps92
    go_wp2
    have i0 := fun w => index4_0 a1 a2 a3 b1 b2 b3 c1 c2 c3 d1 d2 d3 w
    have i1 := fun w => index4_1 a1 a2 a3 b1 b2 b3 c1 c2 c3 d1 d2 d3 w
    have i2 := fun w => index4_2 a1 a2 a3 b1 b2 b3 c1 c2 c3 d1 d2 d3 w
    refine wp_loop_rounds 5 ?_
    rw [rounds_succ]
    go_wp2_with ((go_at_call 60; (with_reducible refine (KA.out _).mono ?_); rintro e wn ⟨rfl, hx⟩; replace hS := Zw.after (W := w) hx; clear hx; replace hC := hS.reads; simp only [Zz, Zy, Oh] at hC))
    rw [rounds_succ]
    go_wp2_with ((go_at_call 60; (with_reducible refine (KB.out _).mono ?_); rintro e wn ⟨rfl, hx⟩; replace hS := Zw.after (W := w) hx; clear hx; replace hC := hS.reads; simp only [Zz, Zy, Oh] at hC))
    rw [rounds_succ]
    go_wp2_with ((go_at_call 60; (with_reducible refine (KC.out _).mono ?_); rintro e wn ⟨rfl, hx⟩; replace hS := Zw.after (W := w) hx; clear hx; replace hC := hS.reads; simp only [Zz, Zy, Oh] at hC))
    go_ret
    refine ⟨Yr (by simp), ?_⟩
    repeat' (with_reducible first | exact hS.ex | exact Ex.refl _ | assumption | apply Ex.alloc | apply Ex.drewN | apply Ex.drew | refine Ex.setCell ?_ (by simp <;> omega) _)
   ·rcases vd with _ | _
    ·have KA := Oi ka
     have KB := Oi kb
     have KC := Oi kc
     have KD := Oi kd
     clear ka kb kc kd
     have hS := Zw.refl w
     have hC := True.intro
     go_enter Tryz.func92, Tryz.ntmps92
     go_wp2
     have i0 := fun w => index4_0 a1 a2 a3 b1 b2 b3 c1 c2 c3 d1 d2 d3 w
     have i1 := fun w => index4_1 a1 a2 a3 b1 b2 b3 c1 c2 c3 d1 d2 d3 w
     have i2 := fun w => index4_2 a1 a2 a3 b1 b2 b3 c1 c2 c3 d1 d2 d3 w
     have i3 := fun w => index4_3 a1 a2 a3 b1 b2 b3 c1 c2 c3 d1 d2 d3 w
     refine wp_loop_rounds 5 ?_
     rw [rounds_succ]
     go_wp2_with ((go_at_call 60; (with_reducible refine (KA.out _).mono ?_); rintro e wn ⟨rfl, hx⟩; replace hS := Zw.after (W := w) hx; clear hx; replace hC := hS.reads; simp only [Zz, Zy, Oh] at hC))
     rw [rounds_succ]
     go_wp2_with ((go_at_call 60; (with_reducible refine (KB.out _).mono ?_); rintro e wn ⟨rfl, hx⟩; replace hS := Zw.after (W := w) hx; clear hx; replace hC := hS.reads; simp only [Zz, Zy, Oh] at hC))
     rw [rounds_succ]
     go_wp2_with ((go_at_call 60; (with_reducible refine (KC.out _).mono ?_); rintro e wn ⟨rfl, hx⟩; replace hS := Zw.after (W := w) hx; clear hx; replace hC := hS.reads; simp only [Zz, Zy, Oh] at hC))
     rw [rounds_succ]
     go_wp2_with ((go_at_call 60; (with_reducible refine (KD.out _).mono ?_); rintro e wn ⟨rfl, hx⟩; replace hS := Zw.after (W := w) hx; clear hx; replace hC := hS.reads; simp only [Zz, Zy, Oh] at hC))
     go_ret
     refine ⟨Yr (by simp), ?_⟩
     repeat' (with_reducible first | exact hS.ex | exact Ex.refl _ | assumption | apply Ex.alloc | apply Ex.drewN | apply Ex.drew | refine Ex.setCell ?_ (by simp <;> omega) _)
    ·have KA := Oi ka
     have KB := Oi kb
     have KC := Oi kc
     have KD := Oi kd
     clear ka kb kc kd
     have hS := Zw.refl w
     have hC := True.intro
     go_enter Tryz.func92, Tryz.ntmps92
     go_wp2
     have i0 := fun w => index4_0 a1 a2 a3 b1 b2 b3 c1 c2 c3 d1 d2 d3 w
     have i1 := fun w => index4_1 a1 a2 a3 b1 b2 b3 c1 c2 c3 d1 d2 d3 w
     have i2 := fun w => index4_2 a1 a2 a3 b1 b2 b3 c1 c2 c3 d1 d2 d3 w
     have i3 := fun w => index4_3 a1 a2 a3 b1 b2 b3 c1 c2 c3 d1 d2 d3 w
     refine wp_loop_rounds 5 ?_
     rw [rounds_succ]
     go_wp2_with ((go_at_call 60; (with_reducible refine (KA.out _).mono ?_); rintro e wn ⟨rfl, hx⟩; replace hS := Zw.after (W := w) hx; clear hx; replace hC := hS.reads; simp only [Zz, Zy, Oh] at hC))
     rw [rounds_succ]
     go_wp2_with ((go_at_call 60; (with_reducible refine (KB.out _).mono ?_); rintro e wn ⟨rfl, hx⟩; replace hS := Zw.after (W := w) hx; clear hx; replace hC := hS.reads; simp only [Zz, Zy, Oh] at hC))
     rw [rounds_succ]
     go_wp2_with ((go_at_call 60; (with_reducible refine (KC.out _).mono ?_); rintro e wn ⟨rfl, hx⟩; replace hS := Zw.after (W := w) hx; clear hx; replace hC := hS.reads; simp only [Zz, Zy, Oh] at hC))
     rw [rounds_succ]
     go_wp2_with ((go_at_call 60; (with_reducible refine (KD.out _).mono ?_); rintro e wn ⟨rfl, hx⟩; replace hS := Zw.after (W := w) hx; clear hx; replace hC := hS.reads; simp only [Zz, Zy, Oh] at hC))
     rw [rounds_succ]
     go_wp2
     go_ret
     refine ⟨Yr (by simp), ?_⟩
     repeat' (with_reducible first | exact hS.ex | exact Ex.refl _ | assumption | apply Ex.alloc | apply Ex.drewN | apply Ex.drew | refine Ex.setCell ?_ (by simp <;> omega) _)
theorem sMatValid (m : M4) (w : World) : Calls Tryz.prog 108 #[m.v] w (fun e w' => e = .returned (.bool m.valid) ∧ Ex w w') := by
 obtain ⟨⟨a1, a2, a3⟩, ⟨b1, b2, b3⟩, ⟨c1, c2, c3⟩, ⟨d1, d2, d3⟩⟩ := m
 show Calls _ _ #[.agg #[.int .i64 a1, .int .i64 a2, .int .i64 a3, .int .i64 b1, .int .i64 b2, .int .i64 b3, .int .i64 c1, .int .i64 c2, .int .i64 c3, .int .i64 d1, .int .i64 d2, .int .i64 d3]] _ fun e w' => e = .returned (.bool (Zk a1 a2 a3 && Zk b1 b2 b3 && Zk c1 c2 c3 && Zk d1 d2 d3)) ∧ Ex w w'
 have ka := fun w => Xw a1 a2 a3 w
 generalize Zk a1 a2 a3 = va at ka ⊢
 have kb := fun w => Xw b1 b2 b3 w
 generalize Zk b1 b2 b3 = vb at kb ⊢
 have kc := fun w => Xw c1 c2 c3 w
 generalize Zk c1 c2 c3 = vc at kc ⊢
 have kd := fun w => Xw d1 d2 d3 w
 generalize Zk d1 d2 d3 = vd at kd ⊢
 rcases va with _ | _
 ·have KA := Oi ka
  clear ka kb kc kd
  have hS := Zw.refl w
  have hC := True.intro
  go_enter Tryz.func108, Tryz.ntmps108
  go_wp2
  refine wp_loop_rounds 5 ?_
  rw [rounds_succ]
  go_wp2_with ((go_at_call 155; (with_reducible refine (KA.out _).mono ?_); rintro e wn ⟨rfl, hx⟩; replace hS := Zw.after (W := w) hx; clear hx; replace hC := hS.reads; simp only [Zz, Zy, Oh] at hC))
  go_ret
  refine ⟨Yr (by simp), ?_⟩
  repeat' (with_reducible first | exact hS.ex | exact Ex.refl _ | assumption | apply Ex.alloc | apply Ex.drewN | apply Ex.drew | refine Ex.setCell ?_ (by simp <;> omega) _)
 ·rcases vb with _ | _
  ·have KA := Oi ka
   have KB := Oi kb
   clear ka kb kc kd
   have hS := Zw.refl w
   have hC := True.intro
   go_enter Tryz.func108, Tryz.ntmps108
   go_wp2
   refine wp_loop_rounds 5 ?_
   rw [rounds_succ]
   go_wp2_with ((go_at_call 155; (with_reducible refine (KA.out _).mono ?_); rintro e wn ⟨rfl, hx⟩; replace hS := Zw.after (W := w) hx; clear hx; replace hC := hS.reads; simp only [Zz, Zy, Oh] at hC))
   rw [rounds_succ]
   go_wp2_with ((go_at_call 155; (with_reducible refine (KB.out _).mono ?_); rintro e wn ⟨rfl, hx⟩; replace hS := Zw.after (W := w) hx; clear hx; replace hC := hS.reads; simp only [Zz, Zy, Oh] at hC))
   go_ret
   refine ⟨Yr (by simp), ?_⟩
   repeat' (with_reducible first | exact hS.ex | exact Ex.refl _ | assumption | apply Ex.alloc | apply Ex.drewN | apply Ex.drew | refine Ex.setCell ?_ (by simp <;> omega) _)
  ·rcases vc with _ | _
   ·have KA := Oi ka
    have KB := Oi kb
    have KC := Oi kc
    clear ka kb kc kd
    have hS := Zw.refl w
    have hC := True.intro
    go_enter Tryz.func108, Tryz.ntmps108
    go_wp2
    refine wp_loop_rounds 5 ?_
    rw [rounds_succ]
    go_wp2_with ((go_at_call 155; (with_reducible refine (KA.out _).mono ?_); rintro e wn ⟨rfl, hx⟩; replace hS := Zw.after (W := w) hx; clear hx; replace hC := hS.reads; simp only [Zz, Zy, Oh] at hC))
    rw [rounds_succ]
    go_wp2_with ((go_at_call 155; (with_reducible refine (KB.out _).mono ?_); rintro e wn ⟨rfl, hx⟩; replace hS := Zw.after (W := w) hx; clear hx; replace hC := hS.reads; simp only [Zz, Zy, Oh] at hC))
    rw [rounds_succ]
    go_wp2_with ((go_at_call 155; (with_reducible refine (KC.out _).mono ?_); rintro e wn ⟨rfl, hx⟩; replace hS := Zw.after (W := w) hx; clear hx; replace hC := hS.reads; simp only [Zz, Zy, Oh] at hC))
    go_ret
    refine ⟨Yr (by simp), ?_⟩
    repeat' (with_reducible first | exact hS.ex | exact Ex.refl _ | assumption | apply Ex.alloc | apply Ex.drewN | apply Ex.drew | refine Ex.setCell ?_ (by simp <;> omega) _)
   ·rcases vd with _ | _
    ·have KA := Oi ka
     have KB := Oi kb
     have KC := Oi kc
     have KD := Oi kd
     clear ka kb kc kd
     have hS := Zw.refl w
     have hC := True.intro
     go_enter Tryz.func108, Tryz.ntmps108
     go_wp2
     refine wp_loop_rounds 5 ?_
     rw [rounds_succ]
     go_wp2_with ((go_at_call 155; (with_reducible refine (KA.out _).mono ?_); rintro e wn ⟨rfl, hx⟩; replace hS := Zw.after (W := w) hx; clear hx; replace hC := hS.reads; simp only [Zz, Zy, Oh] at hC))
     rw [rounds_succ]
     go_wp2_with ((go_at_call 155; (with_reducible refine (KB.out _).mono ?_); rintro e wn ⟨rfl, hx⟩; replace hS := Zw.after (W := w) hx; clear hx; replace hC := hS.reads; simp only [Zz, Zy, Oh] at hC))
     rw [rounds_succ]
     go_wp2_with ((go_at_call 155; (with_reducible refine (KC.out _).mono ?_); rintro e wn ⟨rfl, hx⟩; replace hS := Zw.after (W := w) hx; clear hx; replace hC := hS.reads; simp only [Zz, Zy, Oh] at hC))
     rw [rounds_succ]
     go_wp2_with ((go_at_call 155; (with_reducible refine (KD.out _).mono ?_); rintro e wn ⟨rfl, hx⟩; replace hS := Zw.after (W := w) hx; clear hx; replace hC := hS.reads; simp only [Zz, Zy, Oh] at hC))
     go_ret
     refine ⟨Yr (by simp), ?_⟩
     repeat' (with_reducible first | exact hS.ex | exact Ex.refl _ | assumption | apply Ex.alloc | apply Ex.drewN | apply Ex.drew | refine Ex.setCell ?_ (by simp <;> omega) _)
    ·have KA := Oi ka
     have KB := Oi kb
     have KC := Oi kc
     have KD := Oi kd
     clear ka kb kc kd
     have hS := Zw.refl w
     have hC := True.intro
     go_enter Tryz.func108, Tryz.ntmps108
     go_wp2
     refine wp_loop_rounds 5 ?_
     rw [rounds_succ]
     go_wp2_with ((go_at_call 155; (with_reducible refine (KA.out _).mono ?_); rintro e wn ⟨rfl, hx⟩; replace hS := Zw.after (W := w) hx; clear hx; replace hC := hS.reads; simp only [Zz, Zy, Oh] at hC))
     rw [rounds_succ]
     go_wp2_with ((go_at_call 155; (with_reducible refine (KB.out _).mono ?_); rintro e wn ⟨rfl, hx⟩; replace hS := Zw.after (W := w) hx; clear hx; replace hC := hS.reads; simp only [Zz, Zy, Oh] at hC))
     rw [rounds_succ]
     go_wp2_with ((go_at_call 155; (with_reducible refine (KC.out _).mono ?_); rintro e wn ⟨rfl, hx⟩; replace hS := Zw.after (W := w) hx; clear hx; replace hC := hS.reads; simp only [Zz, Zy, Oh] at hC))
     rw [rounds_succ]
     go_wp2_with ((go_at_call 155; (with_reducible refine (KD.out _).mono ?_); rintro e wn ⟨rfl, hx⟩; replace hS := Zw.after (W := w) hx; clear hx; replace hC := hS.reads; simp only [Zz, Zy, Oh] at hC))
     rw [rounds_succ]
     go_wp2
     go_ret
     refine ⟨Yr (by simp), ?_⟩
     repeat' (with_reducible first | exact hS.ex | exact Ex.refl _ | assumption | apply Ex.alloc | apply Ex.drewN | apply Ex.drew | refine Ex.setCell ?_ (by simp <;> omega) _)
end
section
open Go.RowKit

theorem Yc.opn {P : Program} {f : Nat} {args : Array Value} {w : World} {r : Fr × Bool} (h : Calls P f args w (Yc w r)) : Calls P f args w fun e w' => e = .returned (frv r) ∧ Ex w w' := h
def m4v (r : M4 × Bool) : Value := .tuple #[r.1.v, .bool r.2]
def jvv (x y : Fr) : Value := .agg #[.int .i64 x.re, .int .i64 x.im, .int .i64 x.den, .int .i64 y.re, .int .i64 y.im, .int .i64 y.den]
def v2v (r : (Fr × Fr) × Bool) : Value := .tuple #[jvv r.1.1 r.1.2, .bool r.2]
theorem Rx (a b c d : Fr) (w : World) : Calls Tryz.prog 124 #[a.v, b.v, c.v, d.v] w (fun e w' => e = .returned (frv (Zc a b c d)) ∧ Ex w w') := by
 rw [← finner_eq]
 have k1 := fun w => Yc.opn (Vh a b w)
 have k2 := fun w => Yc.opn (Vh c d w)
 have k3 := fun w => Yc.opn (sFracAdd (Zu a b).1 (Zu c d).1 w)
 generalize Ze (Zu a b).1 (Zu c d).1 = s at *
 generalize Zu a b = t at *
 generalize Zu c d = u at *
 obtain ⟨a1, a2, a3⟩ := a
 obtain ⟨b1, b2, b3⟩ := b
 obtain ⟨c1, c2, c3⟩ := c
 obtain ⟨d1, d2, d3⟩ := d
 obtain ⟨⟨s1, s2, s3⟩, sk⟩ := s
 obtain ⟨⟨t1, t2, t3⟩, tk⟩ := t
 obtain ⟨⟨u1, u2, u3⟩, uk⟩ := u
 simp only [m4v, v2v, frv, Fr.v, M4.v, jvv, Fr.none, M4.none] at k1 k2 k3 ⊢
 rcases tk with _ | _
 ·try simp only [Bool.false_and, Bool.and_false, Bool.false_eq_true, if_false, Bool.true_and, Bool.and_true]
  have K1 := Oi k1
  have K2 := Oi k2
  have K3 := Oi k3
  clear k1 k2 k3
  have hS := Zw.refl w
  have hC := True.intro
  go_enter Tryz.func124, Tryz.ntmps124
  go_wp2_with ((first | (go_at_call 106; (first | (with_reducible refine (K1.out _).mono ?_) | (with_reducible refine (K2.out _).mono ?_)); rintro e wn ⟨rfl, hx⟩; replace hS := Zw.after (W := w) hx; clear hx; replace hC := hS.reads; simp only [Zz, Zy, Oh] at hC) | (go_at_call 160; (with_reducible refine (K3.out _).mono ?_); rintro e wn ⟨rfl, hx⟩; replace hS := Zw.after (W := w) hx; clear hx; replace hC := hS.reads; simp only [Zz, Zy, Oh] at hC)))
  refine Od ?_ rfl ⟨rfl, ?_⟩
  ·simp [results, Tryz.results124, go_sem, hC]
  ·repeat' (with_reducible first | exact hS.ex | exact Ex.refl _ | assumption | apply Ex.alloc | apply Ex.drewN | apply Ex.drew | refine Ex.setCell ?_ (by simp <;> omega) _)
 ·rcases uk with _ | _
  ·try simp only [Bool.false_and, Bool.and_false, Bool.false_eq_true, if_false, Bool.true_and, Bool.and_true]
   have K1 := Oi k1
   have K2 := Oi k2
   have K3 := Oi k3
   clear k1 k2 k3
   have hS := Zw.refl w
   have hC := True.intro
   go_enter Tryz.func124, Tryz.ntmps124
   go_wp2_with ((first | (go_at_call 106; (first | (with_reducible refine (K1.out _).mono ?_) | (with_reducible refine (K2.out _).mono ?_)); rintro e wn ⟨rfl, hx⟩; replace hS := Zw.after (W := w) hx; clear hx; replace hC := hS.reads; simp only [Zz, Zy, Oh] at hC) | (go_at_call 160; (with_reducible refine (K3.out _).mono ?_); rintro e wn ⟨rfl, hx⟩; replace hS := Zw.after (W := w) hx; clear hx; replace hC := hS.reads; simp only [Zz, Zy, Oh] at hC)))
   refine Od ?_ rfl ⟨rfl, ?_⟩
   ·simp [results, Tryz.results124, go_sem, hC]
   ·repeat' (with_reducible first | exact hS.ex | exact Ex.refl _ | assumption | apply Ex.alloc | apply Ex.drewN | apply Ex.drew | refine Ex.setCell ?_ (by simp <;> omega) _)
  ·try simp only [Bool.and_self, if_true]
   have K1 := Oi k1
   have K2 := Oi k2
   have K3 := Oi k3
   clear k1 k2 k3
   have hS := Zw.refl w
   have hC := True.intro
   go_enter Tryz.func124, Tryz.ntmps124
   go_wp2_with ((first | (go_at_call 106; (first | (with_reducible refine (K1.out _).mono ?_) | (with_reducible refine (K2.out _).mono ?_)); rintro e wn ⟨rfl, hx⟩; replace hS := Zw.after (W := w) hx; clear hx; replace hC := hS.reads; simp only [Zz, Zy, Oh] at hC) | (go_at_call 160; (with_reducible refine (K3.out _).mono ?_); rintro e wn ⟨rfl, hx⟩; replace hS := Zw.after (W := w) hx; clear hx; replace hC := hS.reads; simp only [Zz, Zy, Oh] at hC)))
   refine Od ?_ rfl ⟨rfl, ?_⟩
   ·simp [results, Tryz.results124, go_sem, hC]
   ·repeat' (with_reducible first | exact hS.ex | exact Ex.refl _ | assumption | apply Ex.alloc | apply Ex.drewN | apply Ex.drew | refine Ex.setCell ?_ (by simp <;> omega) _)
theorem Ye (a1 a2 a3 b1 b2 b3 c1 c2 c3 d1 d2 d3 : Int) (w : World) : Calls Tryz.prog 107 #[.agg #[.int .i64 a1, .int .i64 a2, .int .i64 a3], .agg #[.int .i64 b1, .int .i64 b2, .int .i64 b3], .agg #[.int .i64 c1, .int .i64 c2, .int .i64 c3], .agg #[.int .i64 d1, .int .i64 d2, .int .i64 d3], .bool true] w (fun e w' => e = .returned (.tuple #[.agg #[.int .i64 a1, .int .i64 a2, .int .i64 a3, .int .i64 b1, .int .i64 b2, .int .i64 b3, .int .i64 c1, .int .i64 c2, .int .i64 c3, .int .i64 d1, .int .i64 d2, .int .i64 d3], .bool true]) ∧ Ex w w') := by
 have hS := Zw.refl w
 have hC := True.intro
 go_enter Tryz.func107, Tryz.ntmps107
 go_wp2
 refine Od ?_ rfl ⟨rfl, ?_⟩
 ·simp [results, Tryz.results107, go_sem]
 ·repeat' (with_reducible first | exact hS.ex | exact Ex.refl _ | assumption | apply Ex.alloc | apply Ex.drewN | apply Ex.drew | refine Ex.setCell ?_ (by simp <;> omega) _)
theorem Yl (a1 a2 a3 b1 b2 b3 c1 c2 c3 d1 d2 d3 : Int) (w : World) : Calls Tryz.prog 107 #[.agg #[.int .i64 a1, .int .i64 a2, .int .i64 a3], .agg #[.int .i64 b1, .int .i64 b2, .int .i64 b3], .agg #[.int .i64 c1, .int .i64 c2, .int .i64 c3], .agg #[.int .i64 d1, .int .i64 d2, .int .i64 d3], .bool false] w (fun e w' => e = .returned (.tuple #[.agg #[.int .i64 0, .int .i64 0, .int .i64 0, .int .i64 0, .int .i64 0, .int .i64 0, .int .i64 0, .int .i64 0, .int .i64 0, .int .i64 0, .int .i64 0, .int .i64 0], .bool false]) ∧ Ex w w') := by
 have hS := Zw.refl w
 have hC := True.intro
 go_enter Tryz.func107, Tryz.ntmps107
 go_wp2
 refine Od ?_ rfl ⟨rfl, ?_⟩
 ·simp [results, Tryz.results107, go_sem]
 ·repeat' (with_reducible first | exact hS.ex | exact Ex.refl _ | assumption | apply Ex.alloc | apply Ex.drewN | apply Ex.drew | refine Ex.setCell ?_ (by simp <;> omega) _)
theorem Re (x y : M4) (w : World) : Calls Tryz.prog 65 #[x.v, y.v] w (fun e w' => e = .returned (m4v (Zl x y)) ∧ Ex w w') := by
 unfold Zl Qe
 have kx := fun w => sMatValid x w
 have ky := fun w => sMatValid y w
 have k1 := fun w => Rx x.a y.a x.b y.c w
 have k2 := fun w => Rx x.a y.b x.b y.d w
 have k3 := fun w => Rx x.c y.a x.d y.c w
 have k4 := fun w => Rx x.c y.b x.d y.d w
 generalize Zc x.a y.a x.b y.c = s at *
 generalize Zc x.a y.b x.b y.d = t at *
 generalize Zc x.c y.a x.d y.c = u at *
 generalize Zc x.c y.b x.d y.d = v at *
 generalize x.valid = vx at *
 generalize y.valid = vy at *
 obtain ⟨⟨a1, a2, a3⟩, ⟨b1, b2, b3⟩, ⟨c1, c2, c3⟩, ⟨d1, d2, d3⟩⟩ := x
 obtain ⟨⟨e1, e2, e3⟩, ⟨f1, f2, f3⟩, ⟨g1, g2, g3⟩, ⟨h1, h2, h3⟩⟩ := y
 obtain ⟨⟨s1, s2, s3⟩, sk⟩ := s
 obtain ⟨⟨t1, t2, t3⟩, tk⟩ := t
 obtain ⟨⟨u1, u2, u3⟩, uk⟩ := u
 obtain ⟨⟨v1, v2, v3⟩, vk⟩ := v
 simp only [m4v, v2v, frv, Fr.v, M4.v, jvv, Fr.none, M4.none] at kx ky k1 k2 k3 k4 ⊢
 rcases vx with _ | _
 ·try simp only [Bool.false_and, Bool.and_false, Bool.false_eq_true, if_false, Bool.true_and, Bool.and_true]
  have KX := Oi kx
  have KY := Oi ky
  have K1 := Oi k1
  have K2 := Oi k2
  have K3 := Oi k3
  have K4 := Oi k4
  clear kx ky k1 k2 k3 k4
  have hS := Zw.refl w
  have hC := True.intro
  go_enter Tryz.func65, Tryz.ntmps65
  go_wp2_with ((first | (go_at_call 108; (first | (with_reducible refine (KX.out _).mono ?_) | (with_reducible refine (KY.out _).mono ?_)); rintro e wn ⟨rfl, hx⟩; replace hS := Zw.after (W := w) hx; clear hx; replace hC := hS.reads; simp only [Zz, Zy, Oh] at hC) | (go_at_call 124; (first | (with_reducible refine (K1.out _).mono ?_) | (with_reducible refine (K2.out _).mono ?_) | (with_reducible refine (K3.out _).mono ?_) | (with_reducible refine (K4.out _).mono ?_)); rintro e wn ⟨rfl, hx⟩; replace hS := Zw.after (W := w) hx; clear hx; replace hC := hS.reads; simp only [Zz, Zy, Oh] at hC) | (go_at_call 107; (first | (with_reducible refine (Ye _ _ _ _ _ _ _ _ _ _ _ _ _).mono ?_) | (with_reducible refine (Yl _ _ _ _ _ _ _ _ _ _ _ _ _).mono ?_)); rintro e wn ⟨rfl, hx⟩; replace hS := Zw.after (W := w) hx; clear hx; replace hC := hS.reads; simp only [Zz, Zy, Oh] at hC)))
  all_goals
   refine Od ?_ rfl ⟨rfl, ?_⟩
   ·simp [results, Tryz.results65, go_sem, hC, *]
   ·repeat' (with_reducible first | exact hS.ex | exact Ex.refl _ | assumption | apply Ex.alloc | apply Ex.drewN | apply Ex.drew | refine Ex.setCell ?_ (by simp <;> omega) _)
 ·rcases vy with _ | _
  ·try simp only [Bool.false_and, Bool.and_false, Bool.false_eq_true, if_false, Bool.true_and, Bool.and_true]
   have KX := Oi kx
   have KY := Oi ky
   have K1 := Oi k1
   have K2 := Oi k2
   have K3 := Oi k3
   have K4 := Oi k4
   clear kx ky k1 k2 k3 k4
   have hS := Zw.refl w
   have hC := True.intro
   go_enter Tryz.func65, Tryz.ntmps65
   go_wp2_with ((first | (go_at_call 108; (first | (with_reducible refine (KX.out _).mono ?_) | (with_reducible refine (KY.out _).mono ?_)); rintro e wn ⟨rfl, hx⟩; replace hS := Zw.after (W := w) hx; clear hx; replace hC := hS.reads; simp only [Zz, Zy, Oh] at hC) | (go_at_call 124; (first | (with_reducible refine (K1.out _).mono ?_) | (with_reducible refine (K2.out _).mono ?_) | (with_reducible refine (K3.out _).mono ?_) | (with_reducible refine (K4.out _).mono ?_)); rintro e wn ⟨rfl, hx⟩; replace hS := Zw.after (W := w) hx; clear hx; replace hC := hS.reads; simp only [Zz, Zy, Oh] at hC) | (go_at_call 107; (first | (with_reducible refine (Ye _ _ _ _ _ _ _ _ _ _ _ _ _).mono ?_) | (with_reducible refine (Yl _ _ _ _ _ _ _ _ _ _ _ _ _).mono ?_)); rintro e wn ⟨rfl, hx⟩; replace hS := Zw.after (W := w) hx; clear hx; replace hC := hS.reads; simp only [Zz, Zy, Oh] at hC)))
   all_goals
    refine Od ?_ rfl ⟨rfl, ?_⟩
    ·simp [results, Tryz.results65, go_sem, hC, *]
    ·repeat' (with_reducible first | exact hS.ex | exact Ex.refl _ | assumption | apply Ex.alloc | apply Ex.drewN | apply Ex.drew | refine Ex.setCell ?_ (by simp <;> omega) _)
  ·rcases vk with _ | _
   ·try simp only [Bool.false_and, Bool.and_false, Bool.false_eq_true, if_false, Bool.true_and, Bool.and_true]
    have KX := Oi kx
    have KY := Oi ky
    have K1 := Oi k1
    have K2 := Oi k2
    have K3 := Oi k3
    have K4 := Oi k4
    clear kx ky k1 k2 k3 k4
    have hS := Zw.refl w
    have hC := True.intro
    go_enter Tryz.func65, Tryz.ntmps65
    go_wp2_with ((first | (go_at_call 108; (first | (with_reducible refine (KX.out _).mono ?_) | (with_reducible refine (KY.out _).mono ?_)); rintro e wn ⟨rfl, hx⟩; replace hS := Zw.after (W := w) hx; clear hx; replace hC := hS.reads; simp only [Zz, Zy, Oh] at hC) | (go_at_call 124; (first | (with_reducible refine (K1.out _).mono ?_) | (with_reducible refine (K2.out _).mono ?_) | (with_reducible refine (K3.out _).mono ?_) | (with_reducible refine (K4.out _).mono ?_)); rintro e wn ⟨rfl, hx⟩; replace hS := Zw.after (W := w) hx; clear hx; replace hC := hS.reads; simp only [Zz, Zy, Oh] at hC) | (go_at_call 107; (first | (with_reducible refine (Ye _ _ _ _ _ _ _ _ _ _ _ _ _).mono ?_) | (with_reducible refine (Yl _ _ _ _ _ _ _ _ _ _ _ _ _).mono ?_)); rintro e wn ⟨rfl, hx⟩; replace hS := Zw.after (W := w) hx; clear hx; replace hC := hS.reads; simp only [Zz, Zy, Oh] at hC)))
    all_goals
     refine Od ?_ rfl ⟨rfl, ?_⟩
     ·simp [results, Tryz.results65, go_sem, hC, *]
     ·repeat' (with_reducible first | exact hS.ex | exact Ex.refl _ | assumption | apply Ex.alloc | apply Ex.drewN | apply Ex.drew | refine Ex.setCell ?_ (by simp <;> omega) _)
   ·try simp only [Bool.and_self, if_true]
    have KX := Oi kx
    have KY := Oi ky
    have K1 := Oi k1
    have K2 := Oi k2
    have K3 := Oi k3
    have K4 := Oi k4
    clear kx ky k1 k2 k3 k4
    have hS := Zw.refl w
    have hC := True.intro
    go_enter Tryz.func65, Tryz.ntmps65
    go_wp2_with ((first | (go_at_call 108; (first | (with_reducible refine (KX.out _).mono ?_) | (with_reducible refine (KY.out _).mono ?_)); rintro e wn ⟨rfl, hx⟩; replace hS := Zw.after (W := w) hx; clear hx; replace hC := hS.reads; simp only [Zz, Zy, Oh] at hC) | (go_at_call 124; (first | (with_reducible refine (K1.out _).mono ?_) | (with_reducible refine (K2.out _).mono ?_) | (with_reducible refine (K3.out _).mono ?_) | (with_reducible refine (K4.out _).mono ?_)); rintro e wn ⟨rfl, hx⟩; replace hS := Zw.after (W := w) hx; clear hx; replace hC := hS.reads; simp only [Zz, Zy, Oh] at hC) | (go_at_call 107; (first | (with_reducible refine (Ye _ _ _ _ _ _ _ _ _ _ _ _ _).mono ?_) | (with_reducible refine (Yl _ _ _ _ _ _ _ _ _ _ _ _ _).mono ?_)); rintro e wn ⟨rfl, hx⟩; replace hS := Zw.after (W := w) hx; clear hx; replace hC := hS.reads; simp only [Zz, Zy, Oh] at hC)))
    all_goals
     refine Od ?_ rfl ⟨rfl, ?_⟩
     ·simp [results, Tryz.results65, go_sem, hC, *]
     ·repeat' (with_reducible first | exact hS.ex | exact Ex.refl _ | assumption | apply Ex.alloc | apply Ex.drewN | apply Ex.drew | refine Ex.setCell ?_ (by simp <;> omega) _)
theorem sMatAdjoint (x : M4) (w : World) : Calls Tryz.prog 103 #[x.v] w (fun e w' => e = .returned (m4v (Wz x)) ∧ Ex w w') := by
 unfold Wz Qe
 have k1 := fun w => Yc.opn (Uy x.a w)
 have k2 := fun w => Yc.opn (Uy x.c w)
 have k3 := fun w => Yc.opn (Uy x.b w)
 have k4 := fun w => Yc.opn (Uy x.d w)
 generalize Yx x.a = s at *
 generalize Yx x.c = t at *
 generalize Yx x.b = u at *
 generalize Yx x.d = v at *
 obtain ⟨⟨a1, a2, a3⟩, ⟨b1, b2, b3⟩, ⟨c1, c2, c3⟩, ⟨d1, d2, d3⟩⟩ := x
 obtain ⟨⟨s1, s2, s3⟩, sk⟩ := s
 obtain ⟨⟨t1, t2, t3⟩, tk⟩ := t
 obtain ⟨⟨u1, u2, u3⟩, uk⟩ := u
 obtain ⟨⟨v1, v2, v3⟩, vk⟩ := v
 simp only [m4v, v2v, frv, Fr.v, M4.v, jvv, Fr.none, M4.none] at k1 k2 k3 k4 ⊢
 rcases vk with _ | _
 ·try simp only [Bool.false_and, Bool.and_false, Bool.false_eq_true, if_false, Bool.true_and, Bool.and_true]
  have K1 := Oi k1
  have K2 := Oi k2
  have K3 := Oi k3
  have K4 := Oi k4
  clear k1 k2 k3 k4
  have hS := Zw.refl w
  have hC := True.intro
  go_enter Tryz.func103, Tryz.ntmps103
  go_wp2_with ((first | (go_at_call 153; (first | (with_reducible refine (K1.out _).mono ?_) | (with_reducible refine (K2.out _).mono ?_) | (with_reducible refine (K3.out _).mono ?_) | (with_reducible refine (K4.out _).mono ?_)); rintro e wn ⟨rfl, hx⟩; replace hS := Zw.after (W := w) hx; clear hx; replace hC := hS.reads; simp only [Zz, Zy, Oh] at hC) | (go_at_call 107; (first | (with_reducible refine (Ye _ _ _ _ _ _ _ _ _ _ _ _ _).mono ?_) | (with_reducible refine (Yl _ _ _ _ _ _ _ _ _ _ _ _ _).mono ?_)); rintro e wn ⟨rfl, hx⟩; replace hS := Zw.after (W := w) hx; clear hx; replace hC := hS.reads; simp only [Zz, Zy, Oh] at hC)))
  all_goals
   refine Od ?_ rfl ⟨rfl, ?_⟩
   ·simp [results, Tryz.results103, go_sem, hC, *]
   ·repeat' (with_reducible first | exact hS.ex | exact Ex.refl _ | assumption | apply Ex.alloc | apply Ex.drewN | apply Ex.drew | refine Ex.setCell ?_ (by simp <;> omega) _)
 ·try simp only [Bool.and_self, if_true]
  have K1 := Oi k1
  have K2 := Oi k2
  have K3 := Oi k3
  have K4 := Oi k4
  clear k1 k2 k3 k4
  have hS := Zw.refl w
  have hC := True.intro
  go_enter Tryz.func103, Tryz.ntmps103
  go_wp2_with ((first | (go_at_call 153; (first | (with_reducible refine (K1.out _).mono ?_) | (with_reducible refine (K2.out _).mono ?_) | (with_reducible refine (K3.out _).mono ?_) | (with_reducible refine (K4.out _).mono ?_)); rintro e wn ⟨rfl, hx⟩; replace hS := Zw.after (W := w) hx; clear hx; replace hC := hS.reads; simp only [Zz, Zy, Oh] at hC) | (go_at_call 107; (first | (with_reducible refine (Ye _ _ _ _ _ _ _ _ _ _ _ _ _).mono ?_) | (with_reducible refine (Yl _ _ _ _ _ _ _ _ _ _ _ _ _).mono ?_)); rintro e wn ⟨rfl, hx⟩; replace hS := Zw.after (W := w) hx; clear hx; replace hC := hS.reads; simp only [Zz, Zy, Oh] at hC)))
  all_goals
   refine Od ?_ rfl ⟨rfl, ?_⟩
   ·simp [results, Tryz.results103, go_sem, hC, *]
   ·repeat' (with_reducible first | exact hS.ex | exact Ex.refl _ | assumption | apply Ex.alloc | apply Ex.drewN | apply Ex.drew | refine Ex.setCell ?_ (by simp <;> omega) _)
end
section
open Go.RowKit

structure Dr (bo : Nat) (w w' : World) : Prop where
  ex : ∀ W, Ex W w → W.heap.size ≤ bo → Ex W w'
  box : ∀ b t cs, b ≠ bo → Box w b t cs → Box w' b t cs
  own : ∀ lo e size v n cs, e ≠ 119 → Own w lo e size v n cs → Own w' lo e size v n cs
  size : w.heap.size ≤ w'.heap.size
theorem Dr.of_ex {bo : Nat} {w w' : World} (h : Ex w w') : Dr bo w w' := ⟨fun W hW _ => hW.trans h, fun _ _ _ _ hb => hb.ex h, fun _ _ _ _ _ _ _ ho => Own.ex ho h, h.size⟩
theorem Dr.refl (bo : Nat) (w : World) : Dr bo w w := Dr.of_ex (Ex.refl w)
theorem Dr.trans {bo : Nat} {w w1 w2 : World} (h : Dr bo w w1) (k : Dr bo w1 w2) : Dr bo w w2 :=
  ⟨fun W hW hl => k.ex W (h.ex W hW hl) hl, fun b t cs hne hb => k.box b t cs hne (h.box b t cs hne hb), fun _ _ _ _ _ _ he ho => k.own _ _ _ _ _ _ he (h.own _ _ _ _ _ _ he ho), Nat.le_trans h.size k.size⟩
theorem Dr.alloc {bo : Nat} {w w1 : World} (h : Dr bo w w1) (o : Obj) : Dr bo w (w1.alloc o) := h.trans (Dr.of_ex ((Ex.refl _).alloc o))
theorem Dr.setNew {bo : Nat} {w w1 : World} (h : Dr bo w w1) {p : Addr} (hp : w.heap.size ≤ p.block) (u : Value) : Dr bo w (w1.setCell p u) :=
  ⟨fun W hW hl => (h.ex W hW hl).setCell (Nat.le_trans hW.size hp) u, fun b t cs hne hb => (h.box b t cs hne hb).far (by have := hb.lt; omega) u,
   fun lo e size v n cs he ho => Own.setCell (h.own _ _ _ _ _ _ he ho) (fun g hg e => by have := (Own.lt ho g hg).2; omega) u, by have := h.size; simpa using this⟩
def Rdr (w : World) (bo : Nat) (A : Option Addr) (n cap a : Nat) : Prop := Box w bo 119 #[.slice A n cap, .int .i64 (a : Int)]
def PickD (m : Int) (bo : Nat) (A : Option Addr) (n cap a : Nat) (w : World) : Ending → World → Prop := fun e w' =>
  ∃ v : Int, e = .returned (.int .i64 v) ∧ 0 ≤ v ∧ v < m ∧ Dr bo w w' ∧ Rdr w' bo A n cap (a + 1)
theorem Ps {W : World} {A : Option Addr} {bs : List Int} (hB : Vt W A bs) (hl : bs.length ≤ 2000) (bo cap a : Nat) (m : Int) (w : World) (hE : Ex W w) (hbo : W.heap.size ≤ bo)
    (hb : Rdr w bo A bs.length cap a) (ha : a ≤ 1099511627776) (hm : 1 ≤ m) (hm2 : m ≤ 1099511627776) :
    Calls Tryz.prog 62 #[.pointer (some ⟨bo, 0, none⟩), .int .i64 m] w (PickD m bo A bs.length cap a w) := by
  refine (pick_any bo A bs cap a m w (hB.ex hE) hl hb ?_ ha hm hm2).mono ?_
  · intro b off hA hp
    obtain ⟨b', off', hA', hc⟩ := hB.at hp
    rw [hA] at hA'
    simp only [Option.some.injEq, Addr.mk.injEq, and_true] at hA'
    obtain ⟨rfl, rfl⟩ := hA'
    have := World.block_lt_of_cell? _ _ (hc 0 hp).1
    simp only at this
    omega
  · rintro e w' ⟨v, d, rfl, h0, h1, rfl⟩
    have hbs := hb.set_ 1 (.int .i64 ((a : Int) + 1))
    refine ⟨v, rfl, h0, h1, ⟨fun W' hW hw => (hW.setCell hw _).drewN d, fun b t cs h1 h3 => ?_, fun lo e size v n cs he ho => ?_, ?_⟩, ?_⟩
    · exact (h3.far (p := ⟨bo, 1, none⟩) h1 _).ex ((Ex.refl _).drewN d)
    · exact Own.ex (Own.setCell (p := ⟨bo, 1, none⟩) ho (fun g hg e => by subst e; exact Own.ne ho hb he hg.symm) _) ((Ex.refl _).drewN d)
    · simp
    · have := hbs.ex ((Ex.refl _).drewN d)
      unfold Rdr
      simpa using this
def LFrac (bo : Nat) (A : Option Addr) (n cap a : Nat) (w : World) : Ending → World → Prop := fun e w' =>
  ∃ (x : Fr) (a' : Nat), e = .returned x.v ∧ a' ≤ a + 5 ∧ Dr bo w w' ∧ Rdr w' bo A n cap a'
end
end Go.Proofs.YtmjggolkopbcnaaGreatDoor
