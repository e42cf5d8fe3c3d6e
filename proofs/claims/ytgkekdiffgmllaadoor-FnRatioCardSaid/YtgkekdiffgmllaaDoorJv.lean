/-
  Walks: valid vectors.
-/
import Derived.Test.YtgkekdiffgmllaaDoorFrcL
import Derived.Test.YtgkekdiffgmllaaDoorGlob
namespace Go.Proofs.YtgkekdiffgmllaaDoor
open Go.RowKit

theorem FrGot.opn {P : Program} {f : Nat} {args : Array Value} {w : World} {r : Fr × Bool} (h : Calls P f args w (FrGot w r)) : Calls P f args w fun e w' => e = .returned (frv r) ∧ Ex w w' := h
def jvv (x y : Fr) : Value := .agg #[.int .i64 x.re, .int .i64 x.im, .int .i64 x.den, .int .i64 y.re, .int .i64 y.im, .int .i64 y.den]
/-- A vector and whether it is one, as values. -/
def v2v (r : (Fr × Fr) × Bool) : Value := .tuple #[jvv r.1.1 r.1.2, .bool r.2]
set_option maxHeartbeats 400000 in
theorem iJonesValid (x y : Fr) (w : World) : Calls Tryd.prog 12 #[jvv x y] w (fun e w' => e = .returned (.bool (x.valid && y.valid)) ∧ Ex w w') := by
  obtain ⟨x1, x2, x3⟩ := x
  obtain ⟨y1, y2, y3⟩ := y
  show Calls _ _ #[.agg #[.int .i64 x1, .int .i64 x2, .int .i64 x3, .int .i64 y1, .int .i64 y2, .int .i64 y3]] _ fun e w' => e = .returned (.bool (fvalid x1 x2 x3 && fvalid y1 y2 y3)) ∧ Ex w w'
  have k1 := fun w => iFracValid x1 x2 x3 w
  have k2 := fun w => iFracValid y1 y2 y3 w
  generalize fvalid x1 x2 x3 = vx at *
  generalize fvalid y1 y2 y3 = vy at *
  rcases vx with _ | _
  · have K1 := Lib.hid k1
    have K2 := Lib.hid k2
    clear k1 k2
    have hS := Sees.refl w
    have hC := True.intro
    go_enter Tryd.func12, Tryd.ntmps12
    go_wp2_with ((go_at_call 16; (first | (with_reducible refine (K1.out _).mono ?_) | (with_reducible refine (K2.out _).mono ?_)); rintro e wn ⟨rfl, hx⟩; replace hS := Sees.after (W := w) hx; clear hx; replace hC := hS.reads; simp only [reads_cons, reads_nil, World.size_alloc] at hC))
    go_ret
    refine ⟨ret_bool (by simp), ?_⟩
    repeat' (with_reducible first | exact hS.ex | exact Ex.refl _ | assumption | refine Ex.alloc ?_ _ | refine Ex.drewN ?_ _ | refine Ex.drew ?_ | refine Ex.setCell ?_ (by simp <;> omega) _)
  · have K1 := Lib.hid k1
    have K2 := Lib.hid k2
    clear k1 k2
    have hS := Sees.refl w
    have hC := True.intro
    go_enter Tryd.func12, Tryd.ntmps12
    go_wp2_with ((go_at_call 16; (first | (with_reducible refine (K1.out _).mono ?_) | (with_reducible refine (K2.out _).mono ?_)); rintro e wn ⟨rfl, hx⟩; replace hS := Sees.after (W := w) hx; clear hx; replace hC := hS.reads; simp only [reads_cons, reads_nil, World.size_alloc] at hC))
    go_ret
    refine ⟨ret_bool (by simp), ?_⟩
    repeat' (with_reducible first | exact hS.ex | exact Ex.refl _ | assumption | refine Ex.alloc ?_ _ | refine Ex.drewN ?_ _ | refine Ex.drew ?_ | refine Ex.setCell ?_ (by simp <;> omega) _)
set_option maxHeartbeats 400000 in
theorem sJonesValid (x y : Fr) (w : World) : Calls Tryd.prog 14 #[jvv x y] w (fun e w' => e = .returned (.bool (x.valid && y.valid)) ∧ Ex w w') := by
  obtain ⟨x1, x2, x3⟩ := x
  obtain ⟨y1, y2, y3⟩ := y
  show Calls _ _ #[.agg #[.int .i64 x1, .int .i64 x2, .int .i64 x3, .int .i64 y1, .int .i64 y2, .int .i64 y3]] _ fun e w' => e = .returned (.bool (fvalid x1 x2 x3 && fvalid y1 y2 y3)) ∧ Ex w w'
  have k1 := fun w => sFracValid x1 x2 x3 w
  have k2 := fun w => sFracValid y1 y2 y3 w
  generalize fvalid x1 x2 x3 = vx at *
  generalize fvalid y1 y2 y3 = vy at *
  rcases vx with _ | _
  · have K1 := Lib.hid k1
    have K2 := Lib.hid k2
    clear k1 k2
    have hS := Sees.refl w
    have hC := True.intro
    go_enter Tryd.func14, Tryd.ntmps14
    go_wp2_with ((go_at_call 23; (first | (with_reducible refine (K1.out _).mono ?_) | (with_reducible refine (K2.out _).mono ?_)); rintro e wn ⟨rfl, hx⟩; replace hS := Sees.after (W := w) hx; clear hx; replace hC := hS.reads; simp only [reads_cons, reads_nil, World.size_alloc] at hC))
    go_ret
    refine ⟨ret_bool (by simp), ?_⟩
    repeat' (with_reducible first | exact hS.ex | exact Ex.refl _ | assumption | refine Ex.alloc ?_ _ | refine Ex.drewN ?_ _ | refine Ex.drew ?_ | refine Ex.setCell ?_ (by simp <;> omega) _)
  · have K1 := Lib.hid k1
    have K2 := Lib.hid k2
    clear k1 k2
    have hS := Sees.refl w
    have hC := True.intro
    go_enter Tryd.func14, Tryd.ntmps14
    go_wp2_with ((go_at_call 23; (first | (with_reducible refine (K1.out _).mono ?_) | (with_reducible refine (K2.out _).mono ?_)); rintro e wn ⟨rfl, hx⟩; replace hS := Sees.after (W := w) hx; clear hx; replace hC := hS.reads; simp only [reads_cons, reads_nil, World.size_alloc] at hC))
    go_ret
    refine ⟨ret_bool (by simp), ?_⟩
    repeat' (with_reducible first | exact hS.ex | exact Ex.refl _ | assumption | refine Ex.alloc ?_ _ | refine Ex.drewN ?_ _ | refine Ex.drew ?_ | refine Ex.setCell ?_ (by simp <;> omega) _)
end Go.Proofs.YtgkekdiffgmllaaDoor
