/-
  Walks: matrices, the reference's.
-/
import Derived.Test.YtmmjkchjgeklnaaDoorMatP
import Derived.Test.YtmmjkchjgeklnaaDoorMatB
import Derived.Test.YtmmjkchjgeklnaaDoorFrcY
import Derived.Test.YtmmjkchjgeklnaaDoorFrcX
import Derived.LoopN
namespace Go.Proofs.YtmmjkchjgeklnaaDoor
open Go.RowKit

theorem FrGot.opn {P : Program} {f : Nat} {args : Array Value} {w : World} {r : Fr × Bool} (h : Calls P f args w (FrGot w r)) : Calls P f args w fun e w' => e = .returned (frv r) ∧ Ex w w' := h
/-- A matrix and whether it is one, as values. -/
def m4v (r : M4 × Bool) : Value := .tuple #[r.1.v, .bool r.2]
def jvv (x y : Fr) : Value := .agg #[.int .i64 x.re, .int .i64 x.im, .int .i64 x.den, .int .i64 y.re, .int .i64 y.im, .int .i64 y.den]
/-- A vector and whether it is one, as values. -/
def v2v (r : (Fr × Fr) × Bool) : Value := .tuple #[jvv r.1.1 r.1.2, .bool r.2]
set_option maxRecDepth 4000 in
set_option maxHeartbeats 1000000 in
theorem sl3Inner (a b c d : Fr) (w : World) : Calls Tryd.prog 68 #[a.v, b.v, c.v, d.v] w (fun e w' => e = .returned (frv (finner a b c d)) ∧ Ex w w') := by
  rw [← finner_eq]
  have k1 := fun w => FrGot.opn (sFracTimes a b w)
  have k2 := fun w => FrGot.opn (sFracTimes c d w)
  have k3 := fun w => FrGot.opn (sFracAdd (ftimes a b).1 (ftimes c d).1 w)
  generalize fadd2 (ftimes a b).1 (ftimes c d).1 = s at *
  generalize ftimes a b = t at *
  generalize ftimes c d = u at *
  obtain ⟨a1, a2, a3⟩ := a
  obtain ⟨b1, b2, b3⟩ := b
  obtain ⟨c1, c2, c3⟩ := c
  obtain ⟨d1, d2, d3⟩ := d
  obtain ⟨⟨s1, s2, s3⟩, sk⟩ := s
  obtain ⟨⟨t1, t2, t3⟩, tk⟩ := t
  obtain ⟨⟨u1, u2, u3⟩, uk⟩ := u
  simp only [m4v, v2v, frv, Fr.v, M4.v, jvv, Fr.none, M4.none] at k1 k2 k3 ⊢
  rcases tk with _ | _
  · try simp only [Bool.false_and, Bool.and_false, Bool.false_eq_true, if_false, Bool.true_and, Bool.and_true]
    have K1 := Lib.hid k1
    have K2 := Lib.hid k2
    have K3 := Lib.hid k3
    clear k1 k2 k3
    have hS := Sees.refl w
    have hC := True.intro
    go_enter Tryd.func68, Tryd.ntmps68
    go_wp2_with ((first | (go_at_call 64; (first | (with_reducible refine (K1.out _).mono ?_) | (with_reducible refine (K2.out _).mono ?_)); rintro e wn ⟨rfl, hx⟩; replace hS := Sees.after (W := w) hx; clear hx; replace hC := hS.reads; simp only [reads_cons, reads_nil, World.size_alloc] at hC) | (go_at_call 70; (with_reducible refine (K3.out _).mono ?_); rintro e wn ⟨rfl, hx⟩; replace hS := Sees.after (W := w) hx; clear hx; replace hC := hS.reads; simp only [reads_cons, reads_nil, World.size_alloc] at hC)))
    refine bodyPost_ret ?_ rfl ⟨rfl, ?_⟩
    · simp [results, Tryd.results68, go_sem, hC]
    · repeat' (with_reducible first | exact hS.ex | exact Ex.refl _ | assumption | refine Ex.alloc ?_ _ | refine Ex.drewN ?_ _ | refine Ex.drew ?_ | refine Ex.setCell ?_ (by simp <;> omega) _)
  · rcases uk with _ | _
    · try simp only [Bool.false_and, Bool.and_false, Bool.false_eq_true, if_false, Bool.true_and, Bool.and_true]
      have K1 := Lib.hid k1
      have K2 := Lib.hid k2
      have K3 := Lib.hid k3
      clear k1 k2 k3
      have hS := Sees.refl w
      have hC := True.intro
      go_enter Tryd.func68, Tryd.ntmps68
      go_wp2_with ((first | (go_at_call 64; (first | (with_reducible refine (K1.out _).mono ?_) | (with_reducible refine (K2.out _).mono ?_)); rintro e wn ⟨rfl, hx⟩; replace hS := Sees.after (W := w) hx; clear hx; replace hC := hS.reads; simp only [reads_cons, reads_nil, World.size_alloc] at hC) | (go_at_call 70; (with_reducible refine (K3.out _).mono ?_); rintro e wn ⟨rfl, hx⟩; replace hS := Sees.after (W := w) hx; clear hx; replace hC := hS.reads; simp only [reads_cons, reads_nil, World.size_alloc] at hC)))
      refine bodyPost_ret ?_ rfl ⟨rfl, ?_⟩
      · simp [results, Tryd.results68, go_sem, hC]
      · repeat' (with_reducible first | exact hS.ex | exact Ex.refl _ | assumption | refine Ex.alloc ?_ _ | refine Ex.drewN ?_ _ | refine Ex.drew ?_ | refine Ex.setCell ?_ (by simp <;> omega) _)
    · try simp only [Bool.and_self, if_true]
      have K1 := Lib.hid k1
      have K2 := Lib.hid k2
      have K3 := Lib.hid k3
      clear k1 k2 k3
      have hS := Sees.refl w
      have hC := True.intro
      go_enter Tryd.func68, Tryd.ntmps68
      go_wp2_with ((first | (go_at_call 64; (first | (with_reducible refine (K1.out _).mono ?_) | (with_reducible refine (K2.out _).mono ?_)); rintro e wn ⟨rfl, hx⟩; replace hS := Sees.after (W := w) hx; clear hx; replace hC := hS.reads; simp only [reads_cons, reads_nil, World.size_alloc] at hC) | (go_at_call 70; (with_reducible refine (K3.out _).mono ?_); rintro e wn ⟨rfl, hx⟩; replace hS := Sees.after (W := w) hx; clear hx; replace hC := hS.reads; simp only [reads_cons, reads_nil, World.size_alloc] at hC)))
      refine bodyPost_ret ?_ rfl ⟨rfl, ?_⟩
      · simp [results, Tryd.results68, go_sem, hC]
      · repeat' (with_reducible first | exact hS.ex | exact Ex.refl _ | assumption | refine Ex.alloc ?_ _ | refine Ex.drewN ?_ _ | refine Ex.drew ?_ | refine Ex.setCell ?_ (by simp <;> omega) _)
theorem sl5Four_true (a1 a2 a3 b1 b2 b3 c1 c2 c3 d1 d2 d3 : Int) (w : World) : Calls Tryd.prog 65 #[.agg #[.int .i64 a1, .int .i64 a2, .int .i64 a3], .agg #[.int .i64 b1, .int .i64 b2, .int .i64 b3], .agg #[.int .i64 c1, .int .i64 c2, .int .i64 c3], .agg #[.int .i64 d1, .int .i64 d2, .int .i64 d3], .bool true] w (fun e w' => e = .returned (.tuple #[.agg #[.int .i64 a1, .int .i64 a2, .int .i64 a3, .int .i64 b1, .int .i64 b2, .int .i64 b3, .int .i64 c1, .int .i64 c2, .int .i64 c3, .int .i64 d1, .int .i64 d2, .int .i64 d3], .bool true]) ∧ Ex w w') := by
  have hS := Sees.refl w
  have hC := True.intro
  go_enter Tryd.func65, Tryd.ntmps65
  go_wp2
  refine bodyPost_ret ?_ rfl ⟨rfl, ?_⟩
  · simp [results, Tryd.results65, go_sem]
  · repeat' (with_reducible first | exact hS.ex | exact Ex.refl _ | assumption | refine Ex.alloc ?_ _ | refine Ex.drewN ?_ _ | refine Ex.drew ?_ | refine Ex.setCell ?_ (by simp <;> omega) _)
theorem sl5Four_false (a1 a2 a3 b1 b2 b3 c1 c2 c3 d1 d2 d3 : Int) (w : World) : Calls Tryd.prog 65 #[.agg #[.int .i64 a1, .int .i64 a2, .int .i64 a3], .agg #[.int .i64 b1, .int .i64 b2, .int .i64 b3], .agg #[.int .i64 c1, .int .i64 c2, .int .i64 c3], .agg #[.int .i64 d1, .int .i64 d2, .int .i64 d3], .bool false] w (fun e w' => e = .returned (.tuple #[.agg #[.int .i64 0, .int .i64 0, .int .i64 0, .int .i64 0, .int .i64 0, .int .i64 0, .int .i64 0, .int .i64 0, .int .i64 0, .int .i64 0, .int .i64 0, .int .i64 0], .bool false]) ∧ Ex w w') := by
  have hS := Sees.refl w
  have hC := True.intro
  go_enter Tryd.func65, Tryd.ntmps65
  go_wp2
  refine bodyPost_ret ?_ rfl ⟨rfl, ?_⟩
  · simp [results, Tryd.results65, go_sem]
  · repeat' (with_reducible first | exact hS.ex | exact Ex.refl _ | assumption | refine Ex.alloc ?_ _ | refine Ex.drewN ?_ _ | refine Ex.drew ?_ | refine Ex.setCell ?_ (by simp <;> omega) _)
set_option maxRecDepth 4000 in
set_option maxHeartbeats 1000000 in
theorem sMatTimes (x y : M4) (w : World) : Calls Tryd.prog 62 #[x.v, y.v] w (fun e w' => e = .returned (m4v (mtimes x y)) ∧ Ex w w') := by
  unfold mtimes four
  have kx := fun w => sMatValid x w
  have ky := fun w => sMatValid y w
  have k1 := fun w => sl3Inner x.a y.a x.b y.c w
  have k2 := fun w => sl3Inner x.a y.b x.b y.d w
  have k3 := fun w => sl3Inner x.c y.a x.d y.c w
  have k4 := fun w => sl3Inner x.c y.b x.d y.d w
  generalize finner x.a y.a x.b y.c = s at *
  generalize finner x.a y.b x.b y.d = t at *
  generalize finner x.c y.a x.d y.c = u at *
  generalize finner x.c y.b x.d y.d = v at *
  generalize x.valid = vx at *
  generalize y.valid = vy at *
  obtain ⟨⟨a1, a2, a3⟩, ⟨b1, b2, b3⟩, ⟨c1, c2, c3⟩, ⟨d1, d2, d3⟩⟩ := x
  obtain ⟨⟨e1, e2, e3⟩, ⟨f1, f2, f3⟩, ⟨g1, g2, g3⟩, ⟨h1, h2, h3⟩⟩ := y
  obtain ⟨⟨s1, s2, s3⟩, sk⟩ := s
  obtain ⟨⟨t1, t2, t3⟩, tk⟩ := t
  obtain ⟨⟨u1, u2, u3⟩, uk⟩ := u
  obtain ⟨⟨v1, v2, v3⟩, vk⟩ := v
  simp only [m4v, v2v, frv, Fr.v, M4.v, jvv, Fr.none, M4.none] at kx ky k1 k2 k3 k4 ⊢
  rcases vx with _ | _
  · try simp only [Bool.false_and, Bool.and_false, Bool.false_eq_true, if_false, Bool.true_and, Bool.and_true]
    have KX := Lib.hid kx
    have KY := Lib.hid ky
    have K1 := Lib.hid k1
    have K2 := Lib.hid k2
    have K3 := Lib.hid k3
    have K4 := Lib.hid k4
    clear kx ky k1 k2 k3 k4
    have hS := Sees.refl w
    have hC := True.intro
    go_enter Tryd.func62, Tryd.ntmps62
    go_wp2_with ((first | (go_at_call 66; (first | (with_reducible refine (KX.out _).mono ?_) | (with_reducible refine (KY.out _).mono ?_)); rintro e wn ⟨rfl, hx⟩; replace hS := Sees.after (W := w) hx; clear hx; replace hC := hS.reads; simp only [reads_cons, reads_nil, World.size_alloc] at hC) | (go_at_call 68; (first | (with_reducible refine (K1.out _).mono ?_) | (with_reducible refine (K2.out _).mono ?_) | (with_reducible refine (K3.out _).mono ?_) | (with_reducible refine (K4.out _).mono ?_)); rintro e wn ⟨rfl, hx⟩; replace hS := Sees.after (W := w) hx; clear hx; replace hC := hS.reads; simp only [reads_cons, reads_nil, World.size_alloc] at hC) | (go_at_call 65; (first | (with_reducible refine (sl5Four_true _ _ _ _ _ _ _ _ _ _ _ _ _).mono ?_) | (with_reducible refine (sl5Four_false _ _ _ _ _ _ _ _ _ _ _ _ _).mono ?_)); rintro e wn ⟨rfl, hx⟩; replace hS := Sees.after (W := w) hx; clear hx; replace hC := hS.reads; simp only [reads_cons, reads_nil, World.size_alloc] at hC)))
    all_goals
      refine bodyPost_ret ?_ rfl ⟨rfl, ?_⟩
      · simp [results, Tryd.results62, go_sem, hC, *]
      · repeat' (with_reducible first | exact hS.ex | exact Ex.refl _ | assumption | refine Ex.alloc ?_ _ | refine Ex.drewN ?_ _ | refine Ex.drew ?_ | refine Ex.setCell ?_ (by simp <;> omega) _)
  · rcases vy with _ | _
    · try simp only [Bool.false_and, Bool.and_false, Bool.false_eq_true, if_false, Bool.true_and, Bool.and_true]
      have KX := Lib.hid kx
      have KY := Lib.hid ky
      have K1 := Lib.hid k1
      have K2 := Lib.hid k2
      have K3 := Lib.hid k3
      have K4 := Lib.hid k4
      clear kx ky k1 k2 k3 k4
      have hS := Sees.refl w
      have hC := True.intro
      go_enter Tryd.func62, Tryd.ntmps62
      go_wp2_with ((first | (go_at_call 66; (first | (with_reducible refine (KX.out _).mono ?_) | (with_reducible refine (KY.out _).mono ?_)); rintro e wn ⟨rfl, hx⟩; replace hS := Sees.after (W := w) hx; clear hx; replace hC := hS.reads; simp only [reads_cons, reads_nil, World.size_alloc] at hC) | (go_at_call 68; (first | (with_reducible refine (K1.out _).mono ?_) | (with_reducible refine (K2.out _).mono ?_) | (with_reducible refine (K3.out _).mono ?_) | (with_reducible refine (K4.out _).mono ?_)); rintro e wn ⟨rfl, hx⟩; replace hS := Sees.after (W := w) hx; clear hx; replace hC := hS.reads; simp only [reads_cons, reads_nil, World.size_alloc] at hC) | (go_at_call 65; (first | (with_reducible refine (sl5Four_true _ _ _ _ _ _ _ _ _ _ _ _ _).mono ?_) | (with_reducible refine (sl5Four_false _ _ _ _ _ _ _ _ _ _ _ _ _).mono ?_)); rintro e wn ⟨rfl, hx⟩; replace hS := Sees.after (W := w) hx; clear hx; replace hC := hS.reads; simp only [reads_cons, reads_nil, World.size_alloc] at hC)))
      all_goals
        refine bodyPost_ret ?_ rfl ⟨rfl, ?_⟩
        · simp [results, Tryd.results62, go_sem, hC, *]
        · repeat' (with_reducible first | exact hS.ex | exact Ex.refl _ | assumption | refine Ex.alloc ?_ _ | refine Ex.drewN ?_ _ | refine Ex.drew ?_ | refine Ex.setCell ?_ (by simp <;> omega) _)
    · rcases vk with _ | _
      · try simp only [Bool.false_and, Bool.and_false, Bool.false_eq_true, if_false, Bool.true_and, Bool.and_true]
        have KX := Lib.hid kx
        have KY := Lib.hid ky
        have K1 := Lib.hid k1
        have K2 := Lib.hid k2
        have K3 := Lib.hid k3
        have K4 := Lib.hid k4
        clear kx ky k1 k2 k3 k4
        have hS := Sees.refl w
        have hC := True.intro
        go_enter Tryd.func62, Tryd.ntmps62
        go_wp2_with ((first | (go_at_call 66; (first | (with_reducible refine (KX.out _).mono ?_) | (with_reducible refine (KY.out _).mono ?_)); rintro e wn ⟨rfl, hx⟩; replace hS := Sees.after (W := w) hx; clear hx; replace hC := hS.reads; simp only [reads_cons, reads_nil, World.size_alloc] at hC) | (go_at_call 68; (first | (with_reducible refine (K1.out _).mono ?_) | (with_reducible refine (K2.out _).mono ?_) | (with_reducible refine (K3.out _).mono ?_) | (with_reducible refine (K4.out _).mono ?_)); rintro e wn ⟨rfl, hx⟩; replace hS := Sees.after (W := w) hx; clear hx; replace hC := hS.reads; simp only [reads_cons, reads_nil, World.size_alloc] at hC) | (go_at_call 65; (first | (with_reducible refine (sl5Four_true _ _ _ _ _ _ _ _ _ _ _ _ _).mono ?_) | (with_reducible refine (sl5Four_false _ _ _ _ _ _ _ _ _ _ _ _ _).mono ?_)); rintro e wn ⟨rfl, hx⟩; replace hS := Sees.after (W := w) hx; clear hx; replace hC := hS.reads; simp only [reads_cons, reads_nil, World.size_alloc] at hC)))
        all_goals
          refine bodyPost_ret ?_ rfl ⟨rfl, ?_⟩
          · simp [results, Tryd.results62, go_sem, hC, *]
          · repeat' (with_reducible first | exact hS.ex | exact Ex.refl _ | assumption | refine Ex.alloc ?_ _ | refine Ex.drewN ?_ _ | refine Ex.drew ?_ | refine Ex.setCell ?_ (by simp <;> omega) _)
      · try simp only [Bool.and_self, if_true]
        have KX := Lib.hid kx
        have KY := Lib.hid ky
        have K1 := Lib.hid k1
        have K2 := Lib.hid k2
        have K3 := Lib.hid k3
        have K4 := Lib.hid k4
        clear kx ky k1 k2 k3 k4
        have hS := Sees.refl w
        have hC := True.intro
        go_enter Tryd.func62, Tryd.ntmps62
        go_wp2_with ((first | (go_at_call 66; (first | (with_reducible refine (KX.out _).mono ?_) | (with_reducible refine (KY.out _).mono ?_)); rintro e wn ⟨rfl, hx⟩; replace hS := Sees.after (W := w) hx; clear hx; replace hC := hS.reads; simp only [reads_cons, reads_nil, World.size_alloc] at hC) | (go_at_call 68; (first | (with_reducible refine (K1.out _).mono ?_) | (with_reducible refine (K2.out _).mono ?_) | (with_reducible refine (K3.out _).mono ?_) | (with_reducible refine (K4.out _).mono ?_)); rintro e wn ⟨rfl, hx⟩; replace hS := Sees.after (W := w) hx; clear hx; replace hC := hS.reads; simp only [reads_cons, reads_nil, World.size_alloc] at hC) | (go_at_call 65; (first | (with_reducible refine (sl5Four_true _ _ _ _ _ _ _ _ _ _ _ _ _).mono ?_) | (with_reducible refine (sl5Four_false _ _ _ _ _ _ _ _ _ _ _ _ _).mono ?_)); rintro e wn ⟨rfl, hx⟩; replace hS := Sees.after (W := w) hx; clear hx; replace hC := hS.reads; simp only [reads_cons, reads_nil, World.size_alloc] at hC)))
        all_goals
          refine bodyPost_ret ?_ rfl ⟨rfl, ?_⟩
          · simp [results, Tryd.results62, go_sem, hC, *]
          · repeat' (with_reducible first | exact hS.ex | exact Ex.refl _ | assumption | refine Ex.alloc ?_ _ | refine Ex.drewN ?_ _ | refine Ex.drew ?_ | refine Ex.setCell ?_ (by simp <;> omega) _)
set_option maxRecDepth 4000 in
set_option maxHeartbeats 1000000 in
theorem sMatAdjoint (x : M4) (w : World) : Calls Tryd.prog 61 #[x.v] w (fun e w' => e = .returned (m4v (madj x)) ∧ Ex w w') := by
  unfold madj four
  have k1 := fun w => FrGot.opn (sFracMirror x.a w)
  have k2 := fun w => FrGot.opn (sFracMirror x.c w)
  have k3 := fun w => FrGot.opn (sFracMirror x.b w)
  have k4 := fun w => FrGot.opn (sFracMirror x.d w)
  generalize fmirror x.a = s at *
  generalize fmirror x.c = t at *
  generalize fmirror x.b = u at *
  generalize fmirror x.d = v at *
  obtain ⟨⟨a1, a2, a3⟩, ⟨b1, b2, b3⟩, ⟨c1, c2, c3⟩, ⟨d1, d2, d3⟩⟩ := x
  obtain ⟨⟨s1, s2, s3⟩, sk⟩ := s
  obtain ⟨⟨t1, t2, t3⟩, tk⟩ := t
  obtain ⟨⟨u1, u2, u3⟩, uk⟩ := u
  obtain ⟨⟨v1, v2, v3⟩, vk⟩ := v
  simp only [m4v, v2v, frv, Fr.v, M4.v, jvv, Fr.none, M4.none] at k1 k2 k3 k4 ⊢
  rcases vk with _ | _
  · try simp only [Bool.false_and, Bool.and_false, Bool.false_eq_true, if_false, Bool.true_and, Bool.and_true]
    have K1 := Lib.hid k1
    have K2 := Lib.hid k2
    have K3 := Lib.hid k3
    have K4 := Lib.hid k4
    clear k1 k2 k3 k4
    have hS := Sees.refl w
    have hC := True.intro
    go_enter Tryd.func61, Tryd.ntmps61
    go_wp2_with ((first | (go_at_call 82; (first | (with_reducible refine (K1.out _).mono ?_) | (with_reducible refine (K2.out _).mono ?_) | (with_reducible refine (K3.out _).mono ?_) | (with_reducible refine (K4.out _).mono ?_)); rintro e wn ⟨rfl, hx⟩; replace hS := Sees.after (W := w) hx; clear hx; replace hC := hS.reads; simp only [reads_cons, reads_nil, World.size_alloc] at hC) | (go_at_call 65; (first | (with_reducible refine (sl5Four_true _ _ _ _ _ _ _ _ _ _ _ _ _).mono ?_) | (with_reducible refine (sl5Four_false _ _ _ _ _ _ _ _ _ _ _ _ _).mono ?_)); rintro e wn ⟨rfl, hx⟩; replace hS := Sees.after (W := w) hx; clear hx; replace hC := hS.reads; simp only [reads_cons, reads_nil, World.size_alloc] at hC)))
    all_goals
      refine bodyPost_ret ?_ rfl ⟨rfl, ?_⟩
      · simp [results, Tryd.results61, go_sem, hC, *]
      · repeat' (with_reducible first | exact hS.ex | exact Ex.refl _ | assumption | refine Ex.alloc ?_ _ | refine Ex.drewN ?_ _ | refine Ex.drew ?_ | refine Ex.setCell ?_ (by simp <;> omega) _)
  · try simp only [Bool.and_self, if_true]
    have K1 := Lib.hid k1
    have K2 := Lib.hid k2
    have K3 := Lib.hid k3
    have K4 := Lib.hid k4
    clear k1 k2 k3 k4
    have hS := Sees.refl w
    have hC := True.intro
    go_enter Tryd.func61, Tryd.ntmps61
    go_wp2_with ((first | (go_at_call 82; (first | (with_reducible refine (K1.out _).mono ?_) | (with_reducible refine (K2.out _).mono ?_) | (with_reducible refine (K3.out _).mono ?_) | (with_reducible refine (K4.out _).mono ?_)); rintro e wn ⟨rfl, hx⟩; replace hS := Sees.after (W := w) hx; clear hx; replace hC := hS.reads; simp only [reads_cons, reads_nil, World.size_alloc] at hC) | (go_at_call 65; (first | (with_reducible refine (sl5Four_true _ _ _ _ _ _ _ _ _ _ _ _ _).mono ?_) | (with_reducible refine (sl5Four_false _ _ _ _ _ _ _ _ _ _ _ _ _).mono ?_)); rintro e wn ⟨rfl, hx⟩; replace hS := Sees.after (W := w) hx; clear hx; replace hC := hS.reads; simp only [reads_cons, reads_nil, World.size_alloc] at hC)))
    all_goals
      refine bodyPost_ret ?_ rfl ⟨rfl, ?_⟩
      · simp [results, Tryd.results61, go_sem, hC, *]
      · repeat' (with_reducible first | exact hS.ex | exact Ex.refl _ | assumption | refine Ex.alloc ?_ _ | refine Ex.drewN ?_ _ | refine Ex.drew ?_ | refine Ex.setCell ?_ (by simp <;> omega) _)
end Go.Proofs.YtmmjkchjgeklnaaDoor
