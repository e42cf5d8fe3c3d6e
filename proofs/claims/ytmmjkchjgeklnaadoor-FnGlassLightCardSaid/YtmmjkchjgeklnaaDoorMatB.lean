/-
  Walks: valid matrices.
-/
import Derived.Test.YtmmjkchjgeklnaaDoorMatP
import Derived.Test.YtmmjkchjgeklnaaDoorGlob
import Derived.Test.YtmmjkchjgeklnaaDoorFrcL
import Derived.LoopN
namespace Go.Proofs.YtmmjkchjgeklnaaDoor
open Go.RowKit

theorem index4_0 (a1 a2 a3 b1 b2 b3 c1 c2 c3 d1 d2 d3 : Int) (w : World) : (Instr.index 52 (.agg #[.int .i64 a1, .int .i64 a2, .int .i64 a3, .int .i64 b1, .int .i64 b2, .int .i64 b3, .int .i64 c1, .int .i64 c2, .int .i64 c3, .int .i64 d1, .int .i64 d2, .int .i64 d3]) (.int .i64 0)).run Tryd.prog w = .ok (.agg #[.int .i64 a1, .int .i64 a2, .int .i64 a3]) w := by
  simp [Instr.index, run_underlying Tryd.underlying52, asIntOf, go_sem]
theorem index4_1 (a1 a2 a3 b1 b2 b3 c1 c2 c3 d1 d2 d3 : Int) (w : World) : (Instr.index 52 (.agg #[.int .i64 a1, .int .i64 a2, .int .i64 a3, .int .i64 b1, .int .i64 b2, .int .i64 b3, .int .i64 c1, .int .i64 c2, .int .i64 c3, .int .i64 d1, .int .i64 d2, .int .i64 d3]) (.int .i64 1)).run Tryd.prog w = .ok (.agg #[.int .i64 b1, .int .i64 b2, .int .i64 b3]) w := by
  simp [Instr.index, run_underlying Tryd.underlying52, asIntOf, go_sem]
theorem index4_2 (a1 a2 a3 b1 b2 b3 c1 c2 c3 d1 d2 d3 : Int) (w : World) : (Instr.index 52 (.agg #[.int .i64 a1, .int .i64 a2, .int .i64 a3, .int .i64 b1, .int .i64 b2, .int .i64 b3, .int .i64 c1, .int .i64 c2, .int .i64 c3, .int .i64 d1, .int .i64 d2, .int .i64 d3]) (.int .i64 2)).run Tryd.prog w = .ok (.agg #[.int .i64 c1, .int .i64 c2, .int .i64 c3]) w := by
  simp [Instr.index, run_underlying Tryd.underlying52, asIntOf, go_sem]
theorem index4_3 (a1 a2 a3 b1 b2 b3 c1 c2 c3 d1 d2 d3 : Int) (w : World) : (Instr.index 52 (.agg #[.int .i64 a1, .int .i64 a2, .int .i64 a3, .int .i64 b1, .int .i64 b2, .int .i64 b3, .int .i64 c1, .int .i64 c2, .int .i64 c3, .int .i64 d1, .int .i64 d2, .int .i64 d3]) (.int .i64 3)).run Tryd.prog w = .ok (.agg #[.int .i64 d1, .int .i64 d2, .int .i64 d3]) w := by
  simp [Instr.index, run_underlying Tryd.underlying52, asIntOf, go_sem]
set_option maxRecDepth 4000 in
set_option maxHeartbeats 1000000 in
theorem iMatValid (m : M4) (w : World) : Calls Tryd.prog 51 #[m.v] w (fun e w' => e = .returned (.bool m.valid) ∧ Ex w w') := by
  obtain ⟨⟨a1, a2, a3⟩, ⟨b1, b2, b3⟩, ⟨c1, c2, c3⟩, ⟨d1, d2, d3⟩⟩ := m
  show Calls _ _ #[.agg #[.int .i64 a1, .int .i64 a2, .int .i64 a3, .int .i64 b1, .int .i64 b2, .int .i64 b3, .int .i64 c1, .int .i64 c2, .int .i64 c3, .int .i64 d1, .int .i64 d2, .int .i64 d3]] _ fun e w' => e = .returned (.bool (fvalid a1 a2 a3 && fvalid b1 b2 b3 && fvalid c1 c2 c3 && fvalid d1 d2 d3)) ∧ Ex w w'
  have ka := fun w => iFracValid a1 a2 a3 w
  generalize fvalid a1 a2 a3 = va at ka ⊢
  have kb := fun w => iFracValid b1 b2 b3 w
  generalize fvalid b1 b2 b3 = vb at kb ⊢
  have kc := fun w => iFracValid c1 c2 c3 w
  generalize fvalid c1 c2 c3 = vc at kc ⊢
  have kd := fun w => iFracValid d1 d2 d3 w
  generalize fvalid d1 d2 d3 = vd at kd ⊢
  rcases va with _ | _
  · have KA := Lib.hid ka
    clear ka kb kc kd
    have hS := Sees.refl w
    have hC := True.intro
    go_enter Tryd.func51, Tryd.ntmps51
    go_wp2
    have i0 := fun w => index4_0 a1 a2 a3 b1 b2 b3 c1 c2 c3 d1 d2 d3 w
    refine wp_loop_rounds 5 ?_
    rw [rounds_succ]
    go_wp2_with ((go_at_call 77; (with_reducible refine (KA.out _).mono ?_); rintro e wn ⟨rfl, hx⟩; replace hS := Sees.after (W := w) hx; clear hx; replace hC := hS.reads; simp only [reads_cons, reads_nil, World.size_alloc] at hC))
    go_ret
    refine ⟨ret_bool (by simp), ?_⟩
    repeat' (with_reducible first | exact hS.ex | exact Ex.refl _ | assumption | refine Ex.alloc ?_ _ | refine Ex.drewN ?_ _ | refine Ex.drew ?_ | refine Ex.setCell ?_ (by simp <;> omega) _)
  · rcases vb with _ | _
    · have KA := Lib.hid ka
      have KB := Lib.hid kb
      clear ka kb kc kd
      have hS := Sees.refl w
      have hC := True.intro
      go_enter Tryd.func51, Tryd.ntmps51
      go_wp2
      have i0 := fun w => index4_0 a1 a2 a3 b1 b2 b3 c1 c2 c3 d1 d2 d3 w
      have i1 := fun w => index4_1 a1 a2 a3 b1 b2 b3 c1 c2 c3 d1 d2 d3 w
      refine wp_loop_rounds 5 ?_
      rw [rounds_succ]
      go_wp2_with ((go_at_call 77; (with_reducible refine (KA.out _).mono ?_); rintro e wn ⟨rfl, hx⟩; replace hS := Sees.after (W := w) hx; clear hx; replace hC := hS.reads; simp only [reads_cons, reads_nil, World.size_alloc] at hC))
      rw [rounds_succ]
      go_wp2_with ((go_at_call 77; (with_reducible refine (KB.out _).mono ?_); rintro e wn ⟨rfl, hx⟩; replace hS := Sees.after (W := w) hx; clear hx; replace hC := hS.reads; simp only [reads_cons, reads_nil, World.size_alloc] at hC))
      go_ret
      refine ⟨ret_bool (by simp), ?_⟩
      repeat' (with_reducible first | exact hS.ex | exact Ex.refl _ | assumption | refine Ex.alloc ?_ _ | refine Ex.drewN ?_ _ | refine Ex.drew ?_ | refine Ex.setCell ?_ (by simp <;> omega) _)
    · rcases vc with _ | _
      · have KA := Lib.hid ka
        have KB := Lib.hid kb
        have KC := Lib.hid kc
        clear ka kb kc kd
        have hS := Sees.refl w
        have hC := True.intro
        go_enter Tryd.func51, Tryd.ntmps51
        go_wp2
        have i0 := fun w => index4_0 a1 a2 a3 b1 b2 b3 c1 c2 c3 d1 d2 d3 w
        have i1 := fun w => index4_1 a1 a2 a3 b1 b2 b3 c1 c2 c3 d1 d2 d3 w
        have i2 := fun w => index4_2 a1 a2 a3 b1 b2 b3 c1 c2 c3 d1 d2 d3 w
        refine wp_loop_rounds 5 ?_
        rw [rounds_succ]
        go_wp2_with ((go_at_call 77; (with_reducible refine (KA.out _).mono ?_); rintro e wn ⟨rfl, hx⟩; replace hS := Sees.after (W := w) hx; clear hx; replace hC := hS.reads; simp only [reads_cons, reads_nil, World.size_alloc] at hC))
        rw [rounds_succ]
        go_wp2_with ((go_at_call 77; (with_reducible refine (KB.out _).mono ?_); rintro e wn ⟨rfl, hx⟩; replace hS := Sees.after (W := w) hx; clear hx; replace hC := hS.reads; simp only [reads_cons, reads_nil, World.size_alloc] at hC))
        rw [rounds_succ]
        go_wp2_with ((go_at_call 77; (with_reducible refine (KC.out _).mono ?_); rintro e wn ⟨rfl, hx⟩; replace hS := Sees.after (W := w) hx; clear hx; replace hC := hS.reads; simp only [reads_cons, reads_nil, World.size_alloc] at hC))
        go_ret
        refine ⟨ret_bool (by simp), ?_⟩
        repeat' (with_reducible first | exact hS.ex | exact Ex.refl _ | assumption | refine Ex.alloc ?_ _ | refine Ex.drewN ?_ _ | refine Ex.drew ?_ | refine Ex.setCell ?_ (by simp <;> omega) _)
      · rcases vd with _ | _
        · have KA := Lib.hid ka
          have KB := Lib.hid kb
          have KC := Lib.hid kc
          have KD := Lib.hid kd
          clear ka kb kc kd
          have hS := Sees.refl w
          have hC := True.intro
          go_enter Tryd.func51, Tryd.ntmps51
          go_wp2
          have i0 := fun w => index4_0 a1 a2 a3 b1 b2 b3 c1 c2 c3 d1 d2 d3 w
          have i1 := fun w => index4_1 a1 a2 a3 b1 b2 b3 c1 c2 c3 d1 d2 d3 w
          have i2 := fun w => index4_2 a1 a2 a3 b1 b2 b3 c1 c2 c3 d1 d2 d3 w
          have i3 := fun w => index4_3 a1 a2 a3 b1 b2 b3 c1 c2 c3 d1 d2 d3 w
          refine wp_loop_rounds 5 ?_
          rw [rounds_succ]
          go_wp2_with ((go_at_call 77; (with_reducible refine (KA.out _).mono ?_); rintro e wn ⟨rfl, hx⟩; replace hS := Sees.after (W := w) hx; clear hx; replace hC := hS.reads; simp only [reads_cons, reads_nil, World.size_alloc] at hC))
          rw [rounds_succ]
          go_wp2_with ((go_at_call 77; (with_reducible refine (KB.out _).mono ?_); rintro e wn ⟨rfl, hx⟩; replace hS := Sees.after (W := w) hx; clear hx; replace hC := hS.reads; simp only [reads_cons, reads_nil, World.size_alloc] at hC))
          rw [rounds_succ]
          go_wp2_with ((go_at_call 77; (with_reducible refine (KC.out _).mono ?_); rintro e wn ⟨rfl, hx⟩; replace hS := Sees.after (W := w) hx; clear hx; replace hC := hS.reads; simp only [reads_cons, reads_nil, World.size_alloc] at hC))
          rw [rounds_succ]
          go_wp2_with ((go_at_call 77; (with_reducible refine (KD.out _).mono ?_); rintro e wn ⟨rfl, hx⟩; replace hS := Sees.after (W := w) hx; clear hx; replace hC := hS.reads; simp only [reads_cons, reads_nil, World.size_alloc] at hC))
          go_ret
          refine ⟨ret_bool (by simp), ?_⟩
          repeat' (with_reducible first | exact hS.ex | exact Ex.refl _ | assumption | refine Ex.alloc ?_ _ | refine Ex.drewN ?_ _ | refine Ex.drew ?_ | refine Ex.setCell ?_ (by simp <;> omega) _)
        · have KA := Lib.hid ka
          have KB := Lib.hid kb
          have KC := Lib.hid kc
          have KD := Lib.hid kd
          clear ka kb kc kd
          have hS := Sees.refl w
          have hC := True.intro
          go_enter Tryd.func51, Tryd.ntmps51
          go_wp2
          have i0 := fun w => index4_0 a1 a2 a3 b1 b2 b3 c1 c2 c3 d1 d2 d3 w
          have i1 := fun w => index4_1 a1 a2 a3 b1 b2 b3 c1 c2 c3 d1 d2 d3 w
          have i2 := fun w => index4_2 a1 a2 a3 b1 b2 b3 c1 c2 c3 d1 d2 d3 w
          have i3 := fun w => index4_3 a1 a2 a3 b1 b2 b3 c1 c2 c3 d1 d2 d3 w
          refine wp_loop_rounds 5 ?_
          rw [rounds_succ]
          go_wp2_with ((go_at_call 77; (with_reducible refine (KA.out _).mono ?_); rintro e wn ⟨rfl, hx⟩; replace hS := Sees.after (W := w) hx; clear hx; replace hC := hS.reads; simp only [reads_cons, reads_nil, World.size_alloc] at hC))
          rw [rounds_succ]
          go_wp2_with ((go_at_call 77; (with_reducible refine (KB.out _).mono ?_); rintro e wn ⟨rfl, hx⟩; replace hS := Sees.after (W := w) hx; clear hx; replace hC := hS.reads; simp only [reads_cons, reads_nil, World.size_alloc] at hC))
          rw [rounds_succ]
          go_wp2_with ((go_at_call 77; (with_reducible refine (KC.out _).mono ?_); rintro e wn ⟨rfl, hx⟩; replace hS := Sees.after (W := w) hx; clear hx; replace hC := hS.reads; simp only [reads_cons, reads_nil, World.size_alloc] at hC))
          rw [rounds_succ]
          go_wp2_with ((go_at_call 77; (with_reducible refine (KD.out _).mono ?_); rintro e wn ⟨rfl, hx⟩; replace hS := Sees.after (W := w) hx; clear hx; replace hC := hS.reads; simp only [reads_cons, reads_nil, World.size_alloc] at hC))
          rw [rounds_succ]
          go_wp2
          go_ret
          refine ⟨ret_bool (by simp), ?_⟩
          repeat' (with_reducible first | exact hS.ex | exact Ex.refl _ | assumption | refine Ex.alloc ?_ _ | refine Ex.drewN ?_ _ | refine Ex.drew ?_ | refine Ex.setCell ?_ (by simp <;> omega) _)
set_option maxRecDepth 4000 in
set_option maxHeartbeats 1000000 in
theorem sMatValid (m : M4) (w : World) : Calls Tryd.prog 66 #[m.v] w (fun e w' => e = .returned (.bool m.valid) ∧ Ex w w') := by
  obtain ⟨⟨a1, a2, a3⟩, ⟨b1, b2, b3⟩, ⟨c1, c2, c3⟩, ⟨d1, d2, d3⟩⟩ := m
  show Calls _ _ #[.agg #[.int .i64 a1, .int .i64 a2, .int .i64 a3, .int .i64 b1, .int .i64 b2, .int .i64 b3, .int .i64 c1, .int .i64 c2, .int .i64 c3, .int .i64 d1, .int .i64 d2, .int .i64 d3]] _ fun e w' => e = .returned (.bool (fvalid a1 a2 a3 && fvalid b1 b2 b3 && fvalid c1 c2 c3 && fvalid d1 d2 d3)) ∧ Ex w w'
  have ka := fun w => sFracValid a1 a2 a3 w
  generalize fvalid a1 a2 a3 = va at ka ⊢
  have kb := fun w => sFracValid b1 b2 b3 w
  generalize fvalid b1 b2 b3 = vb at kb ⊢
  have kc := fun w => sFracValid c1 c2 c3 w
  generalize fvalid c1 c2 c3 = vc at kc ⊢
  have kd := fun w => sFracValid d1 d2 d3 w
  generalize fvalid d1 d2 d3 = vd at kd ⊢
  rcases va with _ | _
  · have KA := Lib.hid ka
    clear ka kb kc kd
    have hS := Sees.refl w
    have hC := True.intro
    go_enter Tryd.func66, Tryd.ntmps66
    go_wp2
    refine wp_loop_rounds 5 ?_
    rw [rounds_succ]
    go_wp2_with ((go_at_call 81; (with_reducible refine (KA.out _).mono ?_); rintro e wn ⟨rfl, hx⟩; replace hS := Sees.after (W := w) hx; clear hx; replace hC := hS.reads; simp only [reads_cons, reads_nil, World.size_alloc] at hC))
    go_ret
    refine ⟨ret_bool (by simp), ?_⟩
    repeat' (with_reducible first | exact hS.ex | exact Ex.refl _ | assumption | refine Ex.alloc ?_ _ | refine Ex.drewN ?_ _ | refine Ex.drew ?_ | refine Ex.setCell ?_ (by simp <;> omega) _)
  · rcases vb with _ | _
    · have KA := Lib.hid ka
      have KB := Lib.hid kb
      clear ka kb kc kd
      have hS := Sees.refl w
      have hC := True.intro
      go_enter Tryd.func66, Tryd.ntmps66
      go_wp2
      refine wp_loop_rounds 5 ?_
      rw [rounds_succ]
      go_wp2_with ((go_at_call 81; (with_reducible refine (KA.out _).mono ?_); rintro e wn ⟨rfl, hx⟩; replace hS := Sees.after (W := w) hx; clear hx; replace hC := hS.reads; simp only [reads_cons, reads_nil, World.size_alloc] at hC))
      rw [rounds_succ]
      go_wp2_with ((go_at_call 81; (with_reducible refine (KB.out _).mono ?_); rintro e wn ⟨rfl, hx⟩; replace hS := Sees.after (W := w) hx; clear hx; replace hC := hS.reads; simp only [reads_cons, reads_nil, World.size_alloc] at hC))
      go_ret
      refine ⟨ret_bool (by simp), ?_⟩
      repeat' (with_reducible first | exact hS.ex | exact Ex.refl _ | assumption | refine Ex.alloc ?_ _ | refine Ex.drewN ?_ _ | refine Ex.drew ?_ | refine Ex.setCell ?_ (by simp <;> omega) _)
    · rcases vc with _ | _
      · have KA := Lib.hid ka
        have KB := Lib.hid kb
        have KC := Lib.hid kc
        clear ka kb kc kd
        have hS := Sees.refl w
        have hC := True.intro
        go_enter Tryd.func66, Tryd.ntmps66
        go_wp2
        refine wp_loop_rounds 5 ?_
        rw [rounds_succ]
        go_wp2_with ((go_at_call 81; (with_reducible refine (KA.out _).mono ?_); rintro e wn ⟨rfl, hx⟩; replace hS := Sees.after (W := w) hx; clear hx; replace hC := hS.reads; simp only [reads_cons, reads_nil, World.size_alloc] at hC))
        rw [rounds_succ]
        go_wp2_with ((go_at_call 81; (with_reducible refine (KB.out _).mono ?_); rintro e wn ⟨rfl, hx⟩; replace hS := Sees.after (W := w) hx; clear hx; replace hC := hS.reads; simp only [reads_cons, reads_nil, World.size_alloc] at hC))
        rw [rounds_succ]
        go_wp2_with ((go_at_call 81; (with_reducible refine (KC.out _).mono ?_); rintro e wn ⟨rfl, hx⟩; replace hS := Sees.after (W := w) hx; clear hx; replace hC := hS.reads; simp only [reads_cons, reads_nil, World.size_alloc] at hC))
        go_ret
        refine ⟨ret_bool (by simp), ?_⟩
        repeat' (with_reducible first | exact hS.ex | exact Ex.refl _ | assumption | refine Ex.alloc ?_ _ | refine Ex.drewN ?_ _ | refine Ex.drew ?_ | refine Ex.setCell ?_ (by simp <;> omega) _)
      · rcases vd with _ | _
        · have KA := Lib.hid ka
          have KB := Lib.hid kb
          have KC := Lib.hid kc
          have KD := Lib.hid kd
          clear ka kb kc kd
          have hS := Sees.refl w
          have hC := True.intro
          go_enter Tryd.func66, Tryd.ntmps66
          go_wp2
          refine wp_loop_rounds 5 ?_
          rw [rounds_succ]
          go_wp2_with ((go_at_call 81; (with_reducible refine (KA.out _).mono ?_); rintro e wn ⟨rfl, hx⟩; replace hS := Sees.after (W := w) hx; clear hx; replace hC := hS.reads; simp only [reads_cons, reads_nil, World.size_alloc] at hC))
          rw [rounds_succ]
          go_wp2_with ((go_at_call 81; (with_reducible refine (KB.out _).mono ?_); rintro e wn ⟨rfl, hx⟩; replace hS := Sees.after (W := w) hx; clear hx; replace hC := hS.reads; simp only [reads_cons, reads_nil, World.size_alloc] at hC))
          rw [rounds_succ]
          go_wp2_with ((go_at_call 81; (with_reducible refine (KC.out _).mono ?_); rintro e wn ⟨rfl, hx⟩; replace hS := Sees.after (W := w) hx; clear hx; replace hC := hS.reads; simp only [reads_cons, reads_nil, World.size_alloc] at hC))
          rw [rounds_succ]
          go_wp2_with ((go_at_call 81; (with_reducible refine (KD.out _).mono ?_); rintro e wn ⟨rfl, hx⟩; replace hS := Sees.after (W := w) hx; clear hx; replace hC := hS.reads; simp only [reads_cons, reads_nil, World.size_alloc] at hC))
          go_ret
          refine ⟨ret_bool (by simp), ?_⟩
          repeat' (with_reducible first | exact hS.ex | exact Ex.refl _ | assumption | refine Ex.alloc ?_ _ | refine Ex.drewN ?_ _ | refine Ex.drew ?_ | refine Ex.setCell ?_ (by simp <;> omega) _)
        · have KA := Lib.hid ka
          have KB := Lib.hid kb
          have KC := Lib.hid kc
          have KD := Lib.hid kd
          clear ka kb kc kd
          have hS := Sees.refl w
          have hC := True.intro
          go_enter Tryd.func66, Tryd.ntmps66
          go_wp2
          refine wp_loop_rounds 5 ?_
          rw [rounds_succ]
          go_wp2_with ((go_at_call 81; (with_reducible refine (KA.out _).mono ?_); rintro e wn ⟨rfl, hx⟩; replace hS := Sees.after (W := w) hx; clear hx; replace hC := hS.reads; simp only [reads_cons, reads_nil, World.size_alloc] at hC))
          rw [rounds_succ]
          go_wp2_with ((go_at_call 81; (with_reducible refine (KB.out _).mono ?_); rintro e wn ⟨rfl, hx⟩; replace hS := Sees.after (W := w) hx; clear hx; replace hC := hS.reads; simp only [reads_cons, reads_nil, World.size_alloc] at hC))
          rw [rounds_succ]
          go_wp2_with ((go_at_call 81; (with_reducible refine (KC.out _).mono ?_); rintro e wn ⟨rfl, hx⟩; replace hS := Sees.after (W := w) hx; clear hx; replace hC := hS.reads; simp only [reads_cons, reads_nil, World.size_alloc] at hC))
          rw [rounds_succ]
          go_wp2_with ((go_at_call 81; (with_reducible refine (KD.out _).mono ?_); rintro e wn ⟨rfl, hx⟩; replace hS := Sees.after (W := w) hx; clear hx; replace hC := hS.reads; simp only [reads_cons, reads_nil, World.size_alloc] at hC))
          rw [rounds_succ]
          go_wp2
          go_ret
          refine ⟨ret_bool (by simp), ?_⟩
          repeat' (with_reducible first | exact hS.ex | exact Ex.refl _ | assumption | refine Ex.alloc ?_ _ | refine Ex.drewN ?_ _ | refine Ex.drew ?_ | refine Ex.setCell ?_ (by simp <;> omega) _)
end Go.Proofs.YtmmjkchjgeklnaaDoor
