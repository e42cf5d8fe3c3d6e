/-
  Proved: what functions compute, part 16. No condition.
-/
import Derived.Test.YtiommfmaleeibaaGreatDoorB14
import Derived.Deep.RegionHeld3
import Derived.Test.YtiommfmaleeibaaGreatDoorB11
set_option linter.unusedSimpArgs false
set_option linter.unusedVariables false
set_option maxRecDepth 20000
set_option maxHeartbeats 8000000
namespace Go.Proofs.YtiommfmaleeibaaGreatDoor
section
open Go.RowKit

theorem dir_ok {p q : Int} (h : Xd p q = true) : (Vx p q).valid = true ∧ (Vw p q).valid = true ∧ (Vx p q).im = 0 ∧ (Vw p q).im = 0 := by
 unfold Xd at h
 simp only [Bool.and_eq_true] at h
 obtain ⟨b1, b2, b3⟩ := dir_bd h.1.1 h.1.2
 have hn := dir_pos (p := p) (q := q) (by
  have h2 := h.2
  rcases hh : (decide (p = 0) && decide (q = 0)) with _ | _
  ·rfl
  ·rw [hh] at h2; cases h2)
 have e4 : 2 * p * q = 2 * (p * q) := Int.mul_assoc _ _ _
 refine ⟨Sw hn (Mb (by omega) (by omega) (by omega)), Sw hn (Mb (by rw [e4]; omega) (by omega) (by omega)), Pp, Pp⟩
theorem Ub (p q : Int) : (Yt p q).2 = Xd p q := by
 unfold Yt
 split
 ·rename_i h; exact h.symm
 ·rename_i h; simp only [Bool.not_eq_true] at h; exact h.symm

theorem iJonesValid (x y : Fr) (w : World) : Calls Tryz.prog 47 #[jvv x y] w (fun e w' => e = .returned (.bool (x.valid && y.valid)) ∧ Ex w w') := by
 obtain ⟨x1, x2, x3⟩ := x
 obtain ⟨y1, y2, y3⟩ := y
 show Calls _ _ #[.agg #[.int .i64 x1, .int .i64 x2, .int .i64 x3, .int .i64 y1, .int .i64 y2, .int .i64 y3]] _ fun e w' => e = .returned (.bool (Zg x1 x2 x3 && Zg y1 y2 y3)) ∧ Ex w w'
 have k1 := fun w => Yk x1 x2 x3 w
 have k2 := fun w => Yk y1 y2 y3 w
 generalize Zg x1 x2 x3 = vx at *
 generalize Zg y1 y2 y3 = vy at *
 rcases vx with _ | _
 ·have K1 := Kw k1
  have K2 := Kw k2
  clear k1 k2
  have hS := Zw.refl w
  have hC := True.intro
  go_enter Tryz.func47, Tryz.ntmps47
  go_wp2_with ((go_at_call 59; (first | (with_reducible refine (K1.out _).mono ?_) | (with_reducible refine (K2.out _).mono ?_)); rintro e wn ⟨rfl, hx⟩; replace hS := Zw.after (W := w) hx; clear hx; replace hC := hS.reads; simp only [Zz, Zy, Kv] at hC))
  go_ret
  refine ⟨Ya (by simp), ?_⟩
  repeat' (with_reducible first | exact hS.ex | exact Ex.refl _ | assumption | apply Ex.alloc | apply Ex.drewN | apply Ex.drew | refine Ex.setCell ?_ (by simp <;> omega) _)
 ·have K1 := Kw k1
  have K2 := Kw k2
  clear k1 k2
  have hS := Zw.refl w
  have hC := True.intro
  go_enter Tryz.func47, Tryz.ntmps47
  go_wp2_with ((go_at_call 59; (first | (with_reducible refine (K1.out _).mono ?_) | (with_reducible refine (K2.out _).mono ?_)); rintro e wn ⟨rfl, hx⟩; replace hS := Zw.after (W := w) hx; clear hx; replace hC := hS.reads; simp only [Zz, Zy, Kv] at hC))
  go_ret
  refine ⟨Ya (by simp), ?_⟩
  repeat' (with_reducible first | exact hS.ex | exact Ex.refl _ | assumption | apply Ex.alloc | apply Ex.drewN | apply Ex.drew | refine Ex.setCell ?_ (by simp <;> omega) _)
theorem sl5One (a b : Fr) (w : World) : Calls Tryz.prog 106 #[a.v, b.v] w (fun e w' => e = .returned (M4.v ⟨a, Fr.nul, Fr.nul, b⟩) ∧ Ex w w') := by
 obtain ⟨a1, a2, a3⟩ := a
 obtain ⟨b1, b2, b3⟩ := b
 simp only [Fr.v, M4.v, Fr.nul]
 have hS := Zw.refl w
 have hC := True.intro
 go_enter Tryz.func106, Tryz.ntmps106
 go_wp2
 refine Kr ?_ rfl ⟨rfl, ?_⟩
 ·simp [results, Tryz.results106, go_sem, hC]
 ·repeat' (with_reducible first | exact hS.ex | exact Ex.refl _ | assumption | apply Ex.alloc | apply Ex.drewN | apply Ex.drew | refine Ex.setCell ?_ (by simp <;> omega) _)
theorem sl5Phase (k : Int) (h0 : 0 ≤ k) (h3 : k ≤ 3) (w : World) : Calls Tryz.prog 32 #[.int .i64 k] w (fun e w' => e = .returned ((Xw k).v) ∧ Ex w w') := by
 obtain rfl | rfl | rfl | rfl : k = 0 ∨ k = 1 ∨ k = 2 ∨ k = 3 := by omega
 all_goals
  simp only [Xw, Fr.v]
  try simp only [if_true, Int.one_ne_zero, if_false, show ¬ ((2 : Int) = 0) by decide, show ¬ ((2 : Int) = 1) by decide, show ¬ ((3 : Int) = 0) by decide, show ¬ ((3 : Int) = 1) by decide, show ¬ ((3 : Int) = 2) by decide]
  have hS := Zw.refl w
  have hC := True.intro
  go_enter Tryz.func32, Tryz.ntmps32
  go_wp2
  refine Kr ?_ rfl ⟨rfl, ?_⟩
  ·simp [results, Tryz.results32, go_sem, hC]
  ·repeat' (with_reducible first | exact hS.ex | exact Ex.refl _ | assumption | apply Ex.alloc | apply Ex.drewN | apply Ex.drew | refine Ex.setCell ?_ (by simp <;> omega) _)
theorem sMatRotator (p q : Int) (w : World) : Calls Tryz.prog 102 #[.int .i64 p, .int .i64 q] w (fun e w' => e = .returned (m4v (Yt p q)) ∧ Ex w w') := by
 have kd := fun w => Pm p q w
 rcases h : Xd p q with _ | _
 ·have e : Yt p q = (M4.none, false) := by simp [Yt, h]
  rw [e]
  simp only [Un, h, Bool.false_eq_true, if_false, Fr.none, Fr.v] at kd
  simp only [m4v, M4.v, M4.none, Fr.none]
  clear e h
  have KD := Kw kd
  clear kd
  have hS := Zw.refl w
  have hC := True.intro
  go_enter Tryz.func102, Tryz.ntmps102
  go_wp2_with ((first | (go_at_call 107; (with_reducible refine (KD.out _).mono ?_); rintro e wn ⟨rfl, hx⟩; replace hS := Zw.after (W := w) hx; clear hx; replace hC := hS.reads; simp only [Zz, Zy, Kv] at hC) | (go_at_call 109; (first | (with_reducible refine (Xc _ _ _ _ _ _ _ _ _ _ _ _ _).mono ?_) | (with_reducible refine (Xn _ _ _ _ _ _ _ _ _ _ _ _ _).mono ?_)); rintro e wn ⟨rfl, hx⟩; replace hS := Zw.after (W := w) hx; clear hx; replace hC := hS.reads; simp only [Zz, Zy, Kv] at hC)))
  refine Kr ?_ rfl ⟨rfl, ?_⟩
  ·simp [results, Tryz.results102, go_sem, hC]
  ·repeat' (with_reducible first | exact hS.ex | exact Ex.refl _ | assumption | apply Ex.alloc | apply Ex.drewN | apply Ex.drew | refine Ex.setCell ?_ (by simp <;> omega) _)
 ·have e : Yt p q = (⟨Vx p q, fneg (Vw p q), Vw p q, Vx p q⟩, true) := by simp [Yt, h]
  rw [e]
  simp only [Un, h, if_true] at kd
  obtain ⟨-, v2, -, i2⟩ := dir_ok h
  generalize Vx p q = c at *
  generalize Vw p q = s at *
  obtain ⟨c1, c2, c3⟩ := c
  obtain ⟨s1, s2, s3⟩ := s
  simp only at i2
  subst i2
  obtain ⟨q1, -, -, -⟩ := Fr.valid_out v2
  simp only at q1
  have w1 := Kq (-s1) (by omega)
  simp only [Fr.v] at kd
  simp only [m4v, M4.v, fneg, Int.neg_zero]
  clear e h v2
  have KD := Kw kd
  clear kd
  have hS := Zw.refl w
  have hC := True.intro
  go_enter Tryz.func102, Tryz.ntmps102
  go_wp2_with ((first | (go_at_call 107; (with_reducible refine (KD.out _).mono ?_); rintro e wn ⟨rfl, hx⟩; replace hS := Zw.after (W := w) hx; clear hx; replace hC := hS.reads; simp only [Zz, Zy, Kv] at hC) | (go_at_call 109; (first | (with_reducible refine (Xc _ _ _ _ _ _ _ _ _ _ _ _ _).mono ?_) | (with_reducible refine (Xn _ _ _ _ _ _ _ _ _ _ _ _ _).mono ?_)); rintro e wn ⟨rfl, hx⟩; replace hS := Zw.after (W := w) hx; clear hx; replace hC := hS.reads; simp only [Zz, Zy, Kv] at hC)))
  refine Kr ?_ rfl ⟨rfl, ?_⟩
  ·simp [results, Tryz.results102, go_sem, hC]
  ·repeat' (with_reducible first | exact hS.ex | exact Ex.refl _ | assumption | apply Ex.alloc | apply Ex.drewN | apply Ex.drew | refine Ex.setCell ?_ (by simp <;> omega) _)
theorem sMatFilter (p q : Int) (w : World) : Calls Tryz.prog 42 #[.int .i64 p, .int .i64 q] w (fun e w' => e = .returned (m4v (Yb p q)) ∧ Ex w w') := by
 have kd := fun w => Pm p q w
 rcases h : Xd p q with _ | _
 ·have e : Yb p q = (M4.none, false) := by simp [Yb, h]
  rw [e]
  simp only [Un, h, Bool.false_eq_true, if_false, Fr.none, Fr.v] at kd
  simp only [m4v, M4.v, M4.none, Fr.none]
  clear e h
  have KD := Kw kd
  clear kd
  have hS := Zw.refl w
  have hC := True.intro
  go_enter Tryz.func42, Tryz.ntmps42
  go_wp2_with ((go_at_call 107; (with_reducible refine (KD.out _).mono ?_); rintro e wn ⟨rfl, hx⟩; replace hS := Zw.after (W := w) hx; clear hx; replace hC := hS.reads; simp only [Zz, Zy, Kv] at hC))
  refine Kr ?_ rfl ⟨rfl, ?_⟩
  ·simp [results, Tryz.results42, go_sem, hC]
  ·repeat' (with_reducible first | exact hS.ex | exact Ex.refl _ | assumption | apply Ex.alloc | apply Ex.drewN | apply Ex.drew | refine Ex.setCell ?_ (by simp <;> omega) _)
 ·have e : Yb p q = Po (Zu (Vx p q) (Vx p q)) (Zu (Vx p q) (Vw p q)) (Zu (Vx p q) (Vw p q)) (Zu (Vw p q) (Vw p q)) true := by simp [Yb, h]
  rw [e]
  unfold Po
  simp only [Un, h, if_true] at kd
  clear e h
  have k1 := fun w => Yh.opn (Vh (Vx p q) (Vx p q) w)
  have k2 := fun w => Yh.opn (Vh (Vx p q) (Vw p q) w)
  have k3 := fun w => Yh.opn (Vh (Vw p q) (Vw p q) w)
  generalize Zu (Vx p q) (Vx p q) = a at *
  generalize Zu (Vx p q) (Vw p q) = b at *
  generalize Zu (Vw p q) (Vw p q) = d at *
  generalize Vx p q = c at *
  generalize Vw p q = s at *
  obtain ⟨c1, c2, c3⟩ := c
  obtain ⟨s1, s2, s3⟩ := s
  obtain ⟨⟨a1, a2, a3⟩, ak⟩ := a
  obtain ⟨⟨b1, b2, b3⟩, bk⟩ := b
  obtain ⟨⟨d1, d2, d3⟩, dk⟩ := d
  simp only [frv, Fr.v] at kd k1 k2 k3
  simp only [m4v, M4.v, M4.none, Fr.none]
  rcases dk with _ | _
  ·try simp only [Bool.and_false, Bool.and_true, Bool.true_and, Bool.false_eq_true, if_false]
   have KD := Kw kd
   have K1 := Kw k1
   have K2 := Kw k2
   have K3 := Kw k3
   clear kd k1 k2 k3
   have hS := Zw.refl w
   have hC := True.intro
   go_enter Tryz.func42, Tryz.ntmps42
   go_wp2_with ((first | (go_at_call 107; (with_reducible refine (KD.out _).mono ?_); rintro e wn ⟨rfl, hx⟩; replace hS := Zw.after (W := w) hx; clear hx; replace hC := hS.reads; simp only [Zz, Zy, Kv] at hC) | (go_at_call 108; (first | (with_reducible refine (K1.out _).mono ?_) | (with_reducible refine (K2.out _).mono ?_) | (with_reducible refine (K3.out _).mono ?_)); rintro e wn ⟨rfl, hx⟩; replace hS := Zw.after (W := w) hx; clear hx; replace hC := hS.reads; simp only [Zz, Zy, Kv] at hC) | (go_at_call 109; (first | (with_reducible refine (Xc _ _ _ _ _ _ _ _ _ _ _ _ _).mono ?_) | (with_reducible refine (Xn _ _ _ _ _ _ _ _ _ _ _ _ _).mono ?_)); rintro e wn ⟨rfl, hx⟩; replace hS := Zw.after (W := w) hx; clear hx; replace hC := hS.reads; simp only [Zz, Zy, Kv] at hC)))
   all_goals
    refine Kr ?_ rfl ⟨rfl, ?_⟩
    ·simp [results, Tryz.results42, go_sem, hC, *]
    ·repeat' (with_reducible first | exact hS.ex | exact Ex.refl _ | assumption | apply Ex.alloc | apply Ex.drewN | apply Ex.drew | refine Ex.setCell ?_ (by simp <;> omega) _)
  ·try simp only [Bool.and_false, Bool.and_true, Bool.true_and, Bool.false_eq_true, if_false]
   have KD := Kw kd
   have K1 := Kw k1
   have K2 := Kw k2
   have K3 := Kw k3
   clear kd k1 k2 k3
   have hS := Zw.refl w
   have hC := True.intro
   go_enter Tryz.func42, Tryz.ntmps42
   go_wp2_with ((first | (go_at_call 107; (with_reducible refine (KD.out _).mono ?_); rintro e wn ⟨rfl, hx⟩; replace hS := Zw.after (W := w) hx; clear hx; replace hC := hS.reads; simp only [Zz, Zy, Kv] at hC) | (go_at_call 108; (first | (with_reducible refine (K1.out _).mono ?_) | (with_reducible refine (K2.out _).mono ?_) | (with_reducible refine (K3.out _).mono ?_)); rintro e wn ⟨rfl, hx⟩; replace hS := Zw.after (W := w) hx; clear hx; replace hC := hS.reads; simp only [Zz, Zy, Kv] at hC) | (go_at_call 109; (first | (with_reducible refine (Xc _ _ _ _ _ _ _ _ _ _ _ _ _).mono ?_) | (with_reducible refine (Xn _ _ _ _ _ _ _ _ _ _ _ _ _).mono ?_)); rintro e wn ⟨rfl, hx⟩; replace hS := Zw.after (W := w) hx; clear hx; replace hC := hS.reads; simp only [Zz, Zy, Kv] at hC)))
   all_goals
    refine Kr ?_ rfl ⟨rfl, ?_⟩
    ·simp [results, Tryz.results42, go_sem, hC, *]
    ·repeat' (with_reducible first | exact hS.ex | exact Ex.refl _ | assumption | apply Ex.alloc | apply Ex.drewN | apply Ex.drew | refine Ex.setCell ?_ (by simp <;> omega) _)
end
section
open Go.RowKit
end
end Go.Proofs.YtiommfmaleeibaaGreatDoor
