/-
  Walks: the tests of four numbers.
-/
import Derived.Test.YtklkfkgpjjpaiaaGreatDoorTxtW
import Derived.LoopN
set_option linter.unusedSimpArgs false
set_option linter.unusedVariables false
namespace Go.Proofs.YtklkfkgpjjpaiaaGreatDoor
open Go.RowKit

/-- Four fractions as a value. -/
def Sv (a b c d : Fr) : Value := .agg #[.int .i64 a.re, .int .i64 a.im, .int .i64 a.den, .int .i64 b.re, .int .i64 b.im, .int .i64 b.den, .int .i64 c.re, .int .i64 c.im, .int .i64 c.den, .int .i64 d.re, .int .i64 d.im, .int .i64 d.den]
def rok (x : Fr) : Bool := x.valid && decide (x.im = 0)
def svalid (a b c d : Fr) : Bool := rok a && (rok b && (rok c && rok d))
theorem ret_tuple2 {a b c d : Value} (h : a = c) (h2 : b = d) : Ending.returned (.tuple #[a, b]) = .returned (.tuple #[c, d]) := by rw [h, h2]

set_option maxHeartbeats 400000 in
theorem realOk_any (x : Fr) (w : World) : Calls Tryz.prog 19 #[x.v] w fun e w' => e = .returned (.bool (rok x)) ∧ Ex w w' := by
  have kv := fun w => iFracValid x.re x.im x.den w
  have hvv : fvalid x.re x.im x.den = x.valid := rfl
  simp only [hvv] at kv
  have hr : rok x = (x.valid && decide (x.im = 0)) := rfl
  rw [hr]
  generalize x.valid = v at kv ⊢
  obtain ⟨a1, a2, a3⟩ := x
  have KV := Lib.hid kv
  clear kv hvv hr
  show Calls _ _ #[.agg #[.int .i64 a1, .int .i64 a2, .int .i64 a3]] _ _
  rcases v with _ | _
  · go_enter Tryz.func19, Tryz.ntmps19
    go_wp2_with fail
    refine (KV.out _).mono ?_
    rintro e w1 ⟨rfl, hx⟩
    have hE := ((Ex.refl w).alloc _).trans hx
    clear hx
    go_wp2
    go_ret
    exact ⟨rfl, hE⟩
  · by_cases h : a2 = 0
    · subst h
      go_enter Tryz.func19, Tryz.ntmps19
      go_wp2_with fail
      refine (KV.out _).mono ?_
      rintro e w1 ⟨rfl, hx⟩
      have bA := (Box.new w #[.int .i64 a1, .int .i64 0, .int .i64 a3] 24).ex hx
      have cA := bA.cell
      have hE := ((Ex.refl w).alloc _).trans hx
      clear hx
      go_wp2
      go_ret
      exact ⟨rfl, hE⟩
    · have h2 : (a2 == 0) = false := by simpa using h
      go_enter Tryz.func19, Tryz.ntmps19
      go_wp2_with fail
      refine (KV.out _).mono ?_
      rintro e w1 ⟨rfl, hx⟩
      have bA := (Box.new w #[.int .i64 a1, .int .i64 a2, .int .i64 a3] 24).ex hx
      have cA := bA.cell
      have hE := ((Ex.refl w).alloc _).trans hx
      clear hx
      go_wp2
      go_ret
      exact ⟨ret_bool (by simp [h]), hE⟩

theorem index4_0 (a1 a2 a3 b1 b2 b3 c1 c2 c3 d1 d2 d3 : Int) (w : World) : (Instr.index 25 (.agg #[.int .i64 a1, .int .i64 a2, .int .i64 a3, .int .i64 b1, .int .i64 b2, .int .i64 b3, .int .i64 c1, .int .i64 c2, .int .i64 c3, .int .i64 d1, .int .i64 d2, .int .i64 d3]) (.int .i64 0)).run Tryz.prog w = .ok (.agg #[.int .i64 a1, .int .i64 a2, .int .i64 a3]) w := by
  simp [Instr.index, run_underlying Tryz.underlying25, asIntOf, go_sem]
theorem index4_1 (a1 a2 a3 b1 b2 b3 c1 c2 c3 d1 d2 d3 : Int) (w : World) : (Instr.index 25 (.agg #[.int .i64 a1, .int .i64 a2, .int .i64 a3, .int .i64 b1, .int .i64 b2, .int .i64 b3, .int .i64 c1, .int .i64 c2, .int .i64 c3, .int .i64 d1, .int .i64 d2, .int .i64 d3]) (.int .i64 1)).run Tryz.prog w = .ok (.agg #[.int .i64 b1, .int .i64 b2, .int .i64 b3]) w := by
  simp [Instr.index, run_underlying Tryz.underlying25, asIntOf, go_sem]
theorem index4_2 (a1 a2 a3 b1 b2 b3 c1 c2 c3 d1 d2 d3 : Int) (w : World) : (Instr.index 25 (.agg #[.int .i64 a1, .int .i64 a2, .int .i64 a3, .int .i64 b1, .int .i64 b2, .int .i64 b3, .int .i64 c1, .int .i64 c2, .int .i64 c3, .int .i64 d1, .int .i64 d2, .int .i64 d3]) (.int .i64 2)).run Tryz.prog w = .ok (.agg #[.int .i64 c1, .int .i64 c2, .int .i64 c3]) w := by
  simp [Instr.index, run_underlying Tryz.underlying25, asIntOf, go_sem]
theorem index4_3 (a1 a2 a3 b1 b2 b3 c1 c2 c3 d1 d2 d3 : Int) (w : World) : (Instr.index 25 (.agg #[.int .i64 a1, .int .i64 a2, .int .i64 a3, .int .i64 b1, .int .i64 b2, .int .i64 b3, .int .i64 c1, .int .i64 c2, .int .i64 c3, .int .i64 d1, .int .i64 d2, .int .i64 d3]) (.int .i64 3)).run Tryz.prog w = .ok (.agg #[.int .i64 d1, .int .i64 d2, .int .i64 d3]) w := by
  simp [Instr.index, run_underlying Tryz.underlying25, asIntOf, go_sem]
set_option maxRecDepth 10000 in
set_option maxHeartbeats 1000000 in
theorem iStokesValid (a b c d : Fr) (w : World) : Calls Tryz.prog 11 #[Sv a b c d] w fun e w' => e = .returned (.bool (svalid a b c d)) ∧ Ex w w' := by
  have ka := fun w => realOk_any a w
  have kb := fun w => realOk_any b w
  have kc := fun w => realOk_any c w
  have kd := fun w => realOk_any d w
  unfold svalid
  generalize rok a = va at ka ⊢
  generalize rok b = vb at kb ⊢
  generalize rok c = vc at kc ⊢
  generalize rok d = vd at kd ⊢
  obtain ⟨a1, a2, a3⟩ := a
  obtain ⟨b1, b2, b3⟩ := b
  obtain ⟨c1, c2, c3⟩ := c
  obtain ⟨d1, d2, d3⟩ := d
  have Ka : Hid (∀ w, Calls Tryz.prog 19 #[.agg #[.int .i64 a1, .int .i64 a2, .int .i64 a3]] w fun e w' => e = .returned (.bool va) ∧ Ex w w') := ka
  have Kb : Hid (∀ w, Calls Tryz.prog 19 #[.agg #[.int .i64 b1, .int .i64 b2, .int .i64 b3]] w fun e w' => e = .returned (.bool vb) ∧ Ex w w') := kb
  have Kc : Hid (∀ w, Calls Tryz.prog 19 #[.agg #[.int .i64 c1, .int .i64 c2, .int .i64 c3]] w fun e w' => e = .returned (.bool vc) ∧ Ex w w') := kc
  have Kd : Hid (∀ w, Calls Tryz.prog 19 #[.agg #[.int .i64 d1, .int .i64 d2, .int .i64 d3]] w fun e w' => e = .returned (.bool vd) ∧ Ex w w') := kd
  clear ka kb kc kd
  show Calls _ _ #[.agg #[.int .i64 a1, .int .i64 a2, .int .i64 a3, .int .i64 b1, .int .i64 b2, .int .i64 b3, .int .i64 c1, .int .i64 c2, .int .i64 c3, .int .i64 d1, .int .i64 d2, .int .i64 d3]] _ _
  rcases va with _ | _
  · go_enter Tryz.func11, Tryz.ntmps11
    go_wp2
    have hE := (Ex.refl w).alloc (.cells #[.int .i64 a1, .int .i64 a2, .int .i64 a3, .int .i64 b1, .int .i64 b2, .int .i64 b3, .int .i64 c1, .int .i64 c2, .int .i64 c3, .int .i64 d1, .int .i64 d2, .int .i64 d3] 27)
    have i0 := fun w => index4_0 a1 a2 a3 b1 b2 b3 c1 c2 c3 d1 d2 d3 w
    have i1 := fun w => index4_1 a1 a2 a3 b1 b2 b3 c1 c2 c3 d1 d2 d3 w
    have i2 := fun w => index4_2 a1 a2 a3 b1 b2 b3 c1 c2 c3 d1 d2 d3 w
    have i3 := fun w => index4_3 a1 a2 a3 b1 b2 b3 c1 c2 c3 d1 d2 d3 w
    refine wp_loop_rounds 5 ?_
    rw [rounds_succ]
    go_wp2_with fail
    refine (Ka.out _).mono ?_
    rintro e w1 ⟨rfl, hx⟩
    replace hE := (hE.alloc _).trans hx
    clear hx
    go_wp2_with fail
    go_ret
    exact ⟨rfl, hE⟩
  rcases vb with _ | _
  · go_enter Tryz.func11, Tryz.ntmps11
    go_wp2
    have hE := (Ex.refl w).alloc (.cells #[.int .i64 a1, .int .i64 a2, .int .i64 a3, .int .i64 b1, .int .i64 b2, .int .i64 b3, .int .i64 c1, .int .i64 c2, .int .i64 c3, .int .i64 d1, .int .i64 d2, .int .i64 d3] 27)
    have i0 := fun w => index4_0 a1 a2 a3 b1 b2 b3 c1 c2 c3 d1 d2 d3 w
    have i1 := fun w => index4_1 a1 a2 a3 b1 b2 b3 c1 c2 c3 d1 d2 d3 w
    have i2 := fun w => index4_2 a1 a2 a3 b1 b2 b3 c1 c2 c3 d1 d2 d3 w
    have i3 := fun w => index4_3 a1 a2 a3 b1 b2 b3 c1 c2 c3 d1 d2 d3 w
    refine wp_loop_rounds 5 ?_
    rw [rounds_succ]
    go_wp2_with fail
    refine (Ka.out _).mono ?_
    rintro e w1 ⟨rfl, hx⟩
    replace hE := (hE.alloc _).trans hx
    clear hx
    go_wp2_with fail
    rw [rounds_succ]
    go_wp2_with fail
    refine (Kb.out _).mono ?_
    rintro e w2 ⟨rfl, hx⟩
    replace hE := (hE.alloc _).trans hx
    clear hx
    go_wp2_with fail
    go_ret
    exact ⟨rfl, hE⟩
  rcases vc with _ | _
  · go_enter Tryz.func11, Tryz.ntmps11
    go_wp2
    have hE := (Ex.refl w).alloc (.cells #[.int .i64 a1, .int .i64 a2, .int .i64 a3, .int .i64 b1, .int .i64 b2, .int .i64 b3, .int .i64 c1, .int .i64 c2, .int .i64 c3, .int .i64 d1, .int .i64 d2, .int .i64 d3] 27)
    have i0 := fun w => index4_0 a1 a2 a3 b1 b2 b3 c1 c2 c3 d1 d2 d3 w
    have i1 := fun w => index4_1 a1 a2 a3 b1 b2 b3 c1 c2 c3 d1 d2 d3 w
    have i2 := fun w => index4_2 a1 a2 a3 b1 b2 b3 c1 c2 c3 d1 d2 d3 w
    have i3 := fun w => index4_3 a1 a2 a3 b1 b2 b3 c1 c2 c3 d1 d2 d3 w
    refine wp_loop_rounds 5 ?_
    rw [rounds_succ]
    go_wp2_with fail
    refine (Ka.out _).mono ?_
    rintro e w1 ⟨rfl, hx⟩
    replace hE := (hE.alloc _).trans hx
    clear hx
    go_wp2_with fail
    rw [rounds_succ]
    go_wp2_with fail
    refine (Kb.out _).mono ?_
    rintro e w2 ⟨rfl, hx⟩
    replace hE := (hE.alloc _).trans hx
    clear hx
    go_wp2_with fail
    rw [rounds_succ]
    go_wp2_with fail
    refine (Kc.out _).mono ?_
    rintro e w3 ⟨rfl, hx⟩
    replace hE := (hE.alloc _).trans hx
    clear hx
    go_wp2_with fail
    go_ret
    exact ⟨rfl, hE⟩
  rcases vd with _ | _
  · go_enter Tryz.func11, Tryz.ntmps11
    go_wp2
    have hE := (Ex.refl w).alloc (.cells #[.int .i64 a1, .int .i64 a2, .int .i64 a3, .int .i64 b1, .int .i64 b2, .int .i64 b3, .int .i64 c1, .int .i64 c2, .int .i64 c3, .int .i64 d1, .int .i64 d2, .int .i64 d3] 27)
    have i0 := fun w => index4_0 a1 a2 a3 b1 b2 b3 c1 c2 c3 d1 d2 d3 w
    have i1 := fun w => index4_1 a1 a2 a3 b1 b2 b3 c1 c2 c3 d1 d2 d3 w
    have i2 := fun w => index4_2 a1 a2 a3 b1 b2 b3 c1 c2 c3 d1 d2 d3 w
    have i3 := fun w => index4_3 a1 a2 a3 b1 b2 b3 c1 c2 c3 d1 d2 d3 w
    refine wp_loop_rounds 5 ?_
    rw [rounds_succ]
    go_wp2_with fail
    refine (Ka.out _).mono ?_
    rintro e w1 ⟨rfl, hx⟩
    replace hE := (hE.alloc _).trans hx
    clear hx
    go_wp2_with fail
    rw [rounds_succ]
    go_wp2_with fail
    refine (Kb.out _).mono ?_
    rintro e w2 ⟨rfl, hx⟩
    replace hE := (hE.alloc _).trans hx
    clear hx
    go_wp2_with fail
    rw [rounds_succ]
    go_wp2_with fail
    refine (Kc.out _).mono ?_
    rintro e w3 ⟨rfl, hx⟩
    replace hE := (hE.alloc _).trans hx
    clear hx
    go_wp2_with fail
    rw [rounds_succ]
    go_wp2_with fail
    refine (Kd.out _).mono ?_
    rintro e w4 ⟨rfl, hx⟩
    replace hE := (hE.alloc _).trans hx
    clear hx
    go_wp2_with fail
    go_ret
    exact ⟨rfl, hE⟩
  · go_enter Tryz.func11, Tryz.ntmps11
    go_wp2
    have hE := (Ex.refl w).alloc (.cells #[.int .i64 a1, .int .i64 a2, .int .i64 a3, .int .i64 b1, .int .i64 b2, .int .i64 b3, .int .i64 c1, .int .i64 c2, .int .i64 c3, .int .i64 d1, .int .i64 d2, .int .i64 d3] 27)
    have i0 := fun w => index4_0 a1 a2 a3 b1 b2 b3 c1 c2 c3 d1 d2 d3 w
    have i1 := fun w => index4_1 a1 a2 a3 b1 b2 b3 c1 c2 c3 d1 d2 d3 w
    have i2 := fun w => index4_2 a1 a2 a3 b1 b2 b3 c1 c2 c3 d1 d2 d3 w
    have i3 := fun w => index4_3 a1 a2 a3 b1 b2 b3 c1 c2 c3 d1 d2 d3 w
    refine wp_loop_rounds 5 ?_
    rw [rounds_succ]
    go_wp2_with fail
    refine (Ka.out _).mono ?_
    rintro e w1 ⟨rfl, hx⟩
    replace hE := (hE.alloc _).trans hx
    clear hx
    go_wp2_with fail
    rw [rounds_succ]
    go_wp2_with fail
    refine (Kb.out _).mono ?_
    rintro e w2 ⟨rfl, hx⟩
    replace hE := (hE.alloc _).trans hx
    clear hx
    go_wp2_with fail
    rw [rounds_succ]
    go_wp2_with fail
    refine (Kc.out _).mono ?_
    rintro e w3 ⟨rfl, hx⟩
    replace hE := (hE.alloc _).trans hx
    clear hx
    go_wp2_with fail
    rw [rounds_succ]
    go_wp2_with fail
    refine (Kd.out _).mono ?_
    rintro e w4 ⟨rfl, hx⟩
    replace hE := (hE.alloc _).trans hx
    clear hx
    go_wp2_with fail
    rw [rounds_succ]
    go_wp2
    go_ret
    exact ⟨rfl, hE⟩
set_option maxRecDepth 10000 in
set_option maxHeartbeats 1000000 in
theorem sStokesValid (a b c d : Fr) (w : World) : Calls Tryz.prog 15 #[Sv a b c d] w fun e w' => e = .returned (.bool (svalid a b c d)) ∧ Ex w w' := by
  have ka := fun w => sFracValid a.re a.im a.den w
  have ra : rok a = (fvalid a.re a.im a.den && decide (a.im = 0)) := rfl
  have kb := fun w => sFracValid b.re b.im b.den w
  have rb : rok b = (fvalid b.re b.im b.den && decide (b.im = 0)) := rfl
  have kc := fun w => sFracValid c.re c.im c.den w
  have rc : rok c = (fvalid c.re c.im c.den && decide (c.im = 0)) := rfl
  have kd := fun w => sFracValid d.re d.im d.den w
  have rd : rok d = (fvalid d.re d.im d.den && decide (d.im = 0)) := rfl
  unfold svalid
  rw [ra, rb, rc, rd]
  generalize fvalid a.re a.im a.den = va at ka ⊢
  generalize fvalid b.re b.im b.den = vb at kb ⊢
  generalize fvalid c.re c.im c.den = vc at kc ⊢
  generalize fvalid d.re d.im d.den = vd at kd ⊢
  clear ra rb rc rd
  obtain ⟨a1, a2, a3⟩ := a
  obtain ⟨b1, b2, b3⟩ := b
  obtain ⟨c1, c2, c3⟩ := c
  obtain ⟨d1, d2, d3⟩ := d
  have Ka : Hid (∀ w, Calls Tryz.prog 30 #[.agg #[.int .i64 a1, .int .i64 a2, .int .i64 a3]] w fun e w' => e = .returned (.bool va) ∧ Ex w w') := Lib.hid ka
  have Kb : Hid (∀ w, Calls Tryz.prog 30 #[.agg #[.int .i64 b1, .int .i64 b2, .int .i64 b3]] w fun e w' => e = .returned (.bool vb) ∧ Ex w w') := Lib.hid kb
  have Kc : Hid (∀ w, Calls Tryz.prog 30 #[.agg #[.int .i64 c1, .int .i64 c2, .int .i64 c3]] w fun e w' => e = .returned (.bool vc) ∧ Ex w w') := Lib.hid kc
  have Kd : Hid (∀ w, Calls Tryz.prog 30 #[.agg #[.int .i64 d1, .int .i64 d2, .int .i64 d3]] w fun e w' => e = .returned (.bool vd) ∧ Ex w w') := Lib.hid kd
  clear ka kb kc kd
  show Calls _ _ #[.agg #[.int .i64 a1, .int .i64 a2, .int .i64 a3, .int .i64 b1, .int .i64 b2, .int .i64 b3, .int .i64 c1, .int .i64 c2, .int .i64 c3, .int .i64 d1, .int .i64 d2, .int .i64 d3]] _ _
  dsimp only
  rcases va with _ | _
  · go_enter Tryz.func15, Tryz.ntmps15
    go_wp2
    have bA := Box.new w #[.int .i64 a1, .int .i64 a2, .int .i64 a3, .int .i64 b1, .int .i64 b2, .int .i64 b3, .int .i64 c1, .int .i64 c2, .int .i64 c3, .int .i64 d1, .int .i64 d2, .int .i64 d3] 27
    have hE := (Ex.refl w).alloc (.cells #[.int .i64 a1, .int .i64 a2, .int .i64 a3, .int .i64 b1, .int .i64 b2, .int .i64 b3, .int .i64 c1, .int .i64 c2, .int .i64 c3, .int .i64 d1, .int .i64 d2, .int .i64 d3] 27)
    have cA := bA.cell
    refine wp_loop_rounds 5 ?_
    rw [rounds_succ]
    go_wp2_with fail
    refine (Ka.out _).mono ?_
    rintro e w1 ⟨rfl, hx⟩
    replace hE := hE.trans hx
    replace bA := bA.ex hx
    replace cA := bA.cell
    clear hx
    go_wp2_with fail
    go_ret
    exact ⟨rfl, hE⟩
  · by_cases ha : a2 = 0
    · subst ha
      rcases vb with _ | _
      · go_enter Tryz.func15, Tryz.ntmps15
        go_wp2
        have bA := Box.new w #[.int .i64 a1, .int .i64 0, .int .i64 a3, .int .i64 b1, .int .i64 b2, .int .i64 b3, .int .i64 c1, .int .i64 c2, .int .i64 c3, .int .i64 d1, .int .i64 d2, .int .i64 d3] 27
        have hE := (Ex.refl w).alloc (.cells #[.int .i64 a1, .int .i64 0, .int .i64 a3, .int .i64 b1, .int .i64 b2, .int .i64 b3, .int .i64 c1, .int .i64 c2, .int .i64 c3, .int .i64 d1, .int .i64 d2, .int .i64 d3] 27)
        have cA := bA.cell
        refine wp_loop_rounds 5 ?_
        rw [rounds_succ]
        go_wp2_with fail
        refine (Ka.out _).mono ?_
        rintro e w1 ⟨rfl, hx⟩
        replace hE := hE.trans hx
        replace bA := bA.ex hx
        replace cA := bA.cell
        clear hx
        go_wp2_with fail
        rw [rounds_succ]
        go_wp2_with fail
        refine (Kb.out _).mono ?_
        rintro e w2 ⟨rfl, hx⟩
        replace hE := hE.trans hx
        replace bA := bA.ex hx
        replace cA := bA.cell
        clear hx
        go_wp2_with fail
        go_ret
        exact ⟨rfl, hE⟩
      · by_cases hb : b2 = 0
        · subst hb
          rcases vc with _ | _
          · go_enter Tryz.func15, Tryz.ntmps15
            go_wp2
            have bA := Box.new w #[.int .i64 a1, .int .i64 0, .int .i64 a3, .int .i64 b1, .int .i64 0, .int .i64 b3, .int .i64 c1, .int .i64 c2, .int .i64 c3, .int .i64 d1, .int .i64 d2, .int .i64 d3] 27
            have hE := (Ex.refl w).alloc (.cells #[.int .i64 a1, .int .i64 0, .int .i64 a3, .int .i64 b1, .int .i64 0, .int .i64 b3, .int .i64 c1, .int .i64 c2, .int .i64 c3, .int .i64 d1, .int .i64 d2, .int .i64 d3] 27)
            have cA := bA.cell
            refine wp_loop_rounds 5 ?_
            rw [rounds_succ]
            go_wp2_with fail
            refine (Ka.out _).mono ?_
            rintro e w1 ⟨rfl, hx⟩
            replace hE := hE.trans hx
            replace bA := bA.ex hx
            replace cA := bA.cell
            clear hx
            go_wp2_with fail
            rw [rounds_succ]
            go_wp2_with fail
            refine (Kb.out _).mono ?_
            rintro e w2 ⟨rfl, hx⟩
            replace hE := hE.trans hx
            replace bA := bA.ex hx
            replace cA := bA.cell
            clear hx
            go_wp2_with fail
            rw [rounds_succ]
            go_wp2_with fail
            refine (Kc.out _).mono ?_
            rintro e w3 ⟨rfl, hx⟩
            replace hE := hE.trans hx
            replace bA := bA.ex hx
            replace cA := bA.cell
            clear hx
            go_wp2_with fail
            go_ret
            exact ⟨rfl, hE⟩
          · by_cases hc : c2 = 0
            · subst hc
              rcases vd with _ | _
              · go_enter Tryz.func15, Tryz.ntmps15
                go_wp2
                have bA := Box.new w #[.int .i64 a1, .int .i64 0, .int .i64 a3, .int .i64 b1, .int .i64 0, .int .i64 b3, .int .i64 c1, .int .i64 0, .int .i64 c3, .int .i64 d1, .int .i64 d2, .int .i64 d3] 27
                have hE := (Ex.refl w).alloc (.cells #[.int .i64 a1, .int .i64 0, .int .i64 a3, .int .i64 b1, .int .i64 0, .int .i64 b3, .int .i64 c1, .int .i64 0, .int .i64 c3, .int .i64 d1, .int .i64 d2, .int .i64 d3] 27)
                have cA := bA.cell
                refine wp_loop_rounds 5 ?_
                rw [rounds_succ]
                go_wp2_with fail
                refine (Ka.out _).mono ?_
                rintro e w1 ⟨rfl, hx⟩
                replace hE := hE.trans hx
                replace bA := bA.ex hx
                replace cA := bA.cell
                clear hx
                go_wp2_with fail
                rw [rounds_succ]
                go_wp2_with fail
                refine (Kb.out _).mono ?_
                rintro e w2 ⟨rfl, hx⟩
                replace hE := hE.trans hx
                replace bA := bA.ex hx
                replace cA := bA.cell
                clear hx
                go_wp2_with fail
                rw [rounds_succ]
                go_wp2_with fail
                refine (Kc.out _).mono ?_
                rintro e w3 ⟨rfl, hx⟩
                replace hE := hE.trans hx
                replace bA := bA.ex hx
                replace cA := bA.cell
                clear hx
                go_wp2_with fail
                rw [rounds_succ]
                go_wp2_with fail
                refine (Kd.out _).mono ?_
                rintro e w4 ⟨rfl, hx⟩
                replace hE := hE.trans hx
                replace bA := bA.ex hx
                replace cA := bA.cell
                clear hx
                go_wp2_with fail
                go_ret
                exact ⟨rfl, hE⟩
              · by_cases hd : d2 = 0
                · subst hd
                  go_enter Tryz.func15, Tryz.ntmps15
                  go_wp2
                  have bA := Box.new w #[.int .i64 a1, .int .i64 0, .int .i64 a3, .int .i64 b1, .int .i64 0, .int .i64 b3, .int .i64 c1, .int .i64 0, .int .i64 c3, .int .i64 d1, .int .i64 0, .int .i64 d3] 27
                  have hE := (Ex.refl w).alloc (.cells #[.int .i64 a1, .int .i64 0, .int .i64 a3, .int .i64 b1, .int .i64 0, .int .i64 b3, .int .i64 c1, .int .i64 0, .int .i64 c3, .int .i64 d1, .int .i64 0, .int .i64 d3] 27)
                  have cA := bA.cell
                  refine wp_loop_rounds 5 ?_
                  rw [rounds_succ]
                  go_wp2_with fail
                  refine (Ka.out _).mono ?_
                  rintro e w1 ⟨rfl, hx⟩
                  replace hE := hE.trans hx
                  replace bA := bA.ex hx
                  replace cA := bA.cell
                  clear hx
                  go_wp2_with fail
                  rw [rounds_succ]
                  go_wp2_with fail
                  refine (Kb.out _).mono ?_
                  rintro e w2 ⟨rfl, hx⟩
                  replace hE := hE.trans hx
                  replace bA := bA.ex hx
                  replace cA := bA.cell
                  clear hx
                  go_wp2_with fail
                  rw [rounds_succ]
                  go_wp2_with fail
                  refine (Kc.out _).mono ?_
                  rintro e w3 ⟨rfl, hx⟩
                  replace hE := hE.trans hx
                  replace bA := bA.ex hx
                  replace cA := bA.cell
                  clear hx
                  go_wp2_with fail
                  rw [rounds_succ]
                  go_wp2_with fail
                  refine (Kd.out _).mono ?_
                  rintro e w4 ⟨rfl, hx⟩
                  replace hE := hE.trans hx
                  replace bA := bA.ex hx
                  replace cA := bA.cell
                  clear hx
                  go_wp2_with fail
                  rw [rounds_succ]
                  go_wp2
                  go_ret
                  exact ⟨rfl, hE⟩
                · have qd : (d2 == 0) = false := by simpa using hd
                  have pd : decide (d2 = 0) = false := by simpa using hd
                  rw [pd]
                  go_enter Tryz.func15, Tryz.ntmps15
                  go_wp2
                  have bA := Box.new w #[.int .i64 a1, .int .i64 0, .int .i64 a3, .int .i64 b1, .int .i64 0, .int .i64 b3, .int .i64 c1, .int .i64 0, .int .i64 c3, .int .i64 d1, .int .i64 d2, .int .i64 d3] 27
                  have hE := (Ex.refl w).alloc (.cells #[.int .i64 a1, .int .i64 0, .int .i64 a3, .int .i64 b1, .int .i64 0, .int .i64 b3, .int .i64 c1, .int .i64 0, .int .i64 c3, .int .i64 d1, .int .i64 d2, .int .i64 d3] 27)
                  have cA := bA.cell
                  refine wp_loop_rounds 5 ?_
                  rw [rounds_succ]
                  go_wp2_with fail
                  refine (Ka.out _).mono ?_
                  rintro e w1 ⟨rfl, hx⟩
                  replace hE := hE.trans hx
                  replace bA := bA.ex hx
                  replace cA := bA.cell
                  clear hx
                  go_wp2_with fail
                  rw [rounds_succ]
                  go_wp2_with fail
                  refine (Kb.out _).mono ?_
                  rintro e w2 ⟨rfl, hx⟩
                  replace hE := hE.trans hx
                  replace bA := bA.ex hx
                  replace cA := bA.cell
                  clear hx
                  go_wp2_with fail
                  rw [rounds_succ]
                  go_wp2_with fail
                  refine (Kc.out _).mono ?_
                  rintro e w3 ⟨rfl, hx⟩
                  replace hE := hE.trans hx
                  replace bA := bA.ex hx
                  replace cA := bA.cell
                  clear hx
                  go_wp2_with fail
                  rw [rounds_succ]
                  go_wp2_with fail
                  refine (Kd.out _).mono ?_
                  rintro e w4 ⟨rfl, hx⟩
                  replace hE := hE.trans hx
                  replace bA := bA.ex hx
                  replace cA := bA.cell
                  clear hx
                  go_wp2_with fail
                  go_ret
                  exact ⟨rfl, hE⟩
            · have qc : (c2 == 0) = false := by simpa using hc
              have pc : decide (c2 = 0) = false := by simpa using hc
              rw [pc]
              go_enter Tryz.func15, Tryz.ntmps15
              go_wp2
              have bA := Box.new w #[.int .i64 a1, .int .i64 0, .int .i64 a3, .int .i64 b1, .int .i64 0, .int .i64 b3, .int .i64 c1, .int .i64 c2, .int .i64 c3, .int .i64 d1, .int .i64 d2, .int .i64 d3] 27
              have hE := (Ex.refl w).alloc (.cells #[.int .i64 a1, .int .i64 0, .int .i64 a3, .int .i64 b1, .int .i64 0, .int .i64 b3, .int .i64 c1, .int .i64 c2, .int .i64 c3, .int .i64 d1, .int .i64 d2, .int .i64 d3] 27)
              have cA := bA.cell
              refine wp_loop_rounds 5 ?_
              rw [rounds_succ]
              go_wp2_with fail
              refine (Ka.out _).mono ?_
              rintro e w1 ⟨rfl, hx⟩
              replace hE := hE.trans hx
              replace bA := bA.ex hx
              replace cA := bA.cell
              clear hx
              go_wp2_with fail
              rw [rounds_succ]
              go_wp2_with fail
              refine (Kb.out _).mono ?_
              rintro e w2 ⟨rfl, hx⟩
              replace hE := hE.trans hx
              replace bA := bA.ex hx
              replace cA := bA.cell
              clear hx
              go_wp2_with fail
              rw [rounds_succ]
              go_wp2_with fail
              refine (Kc.out _).mono ?_
              rintro e w3 ⟨rfl, hx⟩
              replace hE := hE.trans hx
              replace bA := bA.ex hx
              replace cA := bA.cell
              clear hx
              go_wp2_with fail
              go_ret
              exact ⟨rfl, hE⟩
        · have qb : (b2 == 0) = false := by simpa using hb
          have pb : decide (b2 = 0) = false := by simpa using hb
          rw [pb]
          go_enter Tryz.func15, Tryz.ntmps15
          go_wp2
          have bA := Box.new w #[.int .i64 a1, .int .i64 0, .int .i64 a3, .int .i64 b1, .int .i64 b2, .int .i64 b3, .int .i64 c1, .int .i64 c2, .int .i64 c3, .int .i64 d1, .int .i64 d2, .int .i64 d3] 27
          have hE := (Ex.refl w).alloc (.cells #[.int .i64 a1, .int .i64 0, .int .i64 a3, .int .i64 b1, .int .i64 b2, .int .i64 b3, .int .i64 c1, .int .i64 c2, .int .i64 c3, .int .i64 d1, .int .i64 d2, .int .i64 d3] 27)
          have cA := bA.cell
          refine wp_loop_rounds 5 ?_
          rw [rounds_succ]
          go_wp2_with fail
          refine (Ka.out _).mono ?_
          rintro e w1 ⟨rfl, hx⟩
          replace hE := hE.trans hx
          replace bA := bA.ex hx
          replace cA := bA.cell
          clear hx
          go_wp2_with fail
          rw [rounds_succ]
          go_wp2_with fail
          refine (Kb.out _).mono ?_
          rintro e w2 ⟨rfl, hx⟩
          replace hE := hE.trans hx
          replace bA := bA.ex hx
          replace cA := bA.cell
          clear hx
          go_wp2_with fail
          go_ret
          exact ⟨rfl, hE⟩
    · have qa : (a2 == 0) = false := by simpa using ha
      have pa : decide (a2 = 0) = false := by simpa using ha
      rw [pa]
      go_enter Tryz.func15, Tryz.ntmps15
      go_wp2
      have bA := Box.new w #[.int .i64 a1, .int .i64 a2, .int .i64 a3, .int .i64 b1, .int .i64 b2, .int .i64 b3, .int .i64 c1, .int .i64 c2, .int .i64 c3, .int .i64 d1, .int .i64 d2, .int .i64 d3] 27
      have hE := (Ex.refl w).alloc (.cells #[.int .i64 a1, .int .i64 a2, .int .i64 a3, .int .i64 b1, .int .i64 b2, .int .i64 b3, .int .i64 c1, .int .i64 c2, .int .i64 c3, .int .i64 d1, .int .i64 d2, .int .i64 d3] 27)
      have cA := bA.cell
      refine wp_loop_rounds 5 ?_
      rw [rounds_succ]
      go_wp2_with fail
      refine (Ka.out _).mono ?_
      rintro e w1 ⟨rfl, hx⟩
      replace hE := hE.trans hx
      replace bA := bA.ex hx
      replace cA := bA.cell
      clear hx
      go_wp2_with fail
      go_ret
      exact ⟨rfl, hE⟩
end Go.Proofs.YtklkfkgpjjpaiaaGreatDoor
