/-
  Proved: what functions compute, part 14. No condition.
-/
import Derived.Test.YtmjggolkopbcnaaGreatDoorB13
import Derived.Deep.RegionHeld3
import Derived.Test.YtmjggolkopbcnaaGreatDoorB10
set_option linter.unusedSimpArgs false
set_option linter.unusedVariables false
set_option maxRecDepth 20000
set_option maxHeartbeats 8000000
namespace Go.Proofs.YtmjggolkopbcnaaGreatDoor
section
open Go.RowKit

theorem dir_ok {p q : Int} (h : Yi p q = true) : (Xl p q).valid = true ∧ (Xk p q).valid = true ∧ (Xl p q).im = 0 ∧ (Xk p q).im = 0 := by
 unfold Yi at h
 simp only [Bool.and_eq_true] at h
 obtain ⟨b1, b2, b3⟩ := dir_bd h.1.1 h.1.2
 have hn := dir_pos (p := p) (q := q) (by
  have h2 := h.2
  rcases hh : (decide (p = 0) && decide (q = 0)) with _ | _
  ·rfl
  ·rw [hh] at h2; cases h2)
 have e4 : 2 * p * q = 2 * (p * q) := Int.mul_assoc _ _ _
 refine ⟨flow_ok hn (Pb (by omega) (by omega) (by omega)), flow_ok hn (Pb (by rw [e4]; omega) (by omega) (by omega)), flow_im0, flow_im0⟩
theorem Vq (p q : Int) : (Zg p q).2 = Yi p q := by
 unfold Zg
 split
 ·rename_i h; exact h.symm
 ·rename_i h; simp only [Bool.not_eq_true] at h; exact h.symm

theorem Qn (x y : Fr) (w : World) : Calls Tryz.prog 48 #[jvv x y] w (fun e w' => e = .returned (.bool (x.valid && y.valid)) ∧ Ex w w') := by
 obtain ⟨x1, x2, x3⟩ := x
 obtain ⟨y1, y2, y3⟩ := y
 show Calls _ _ #[.agg #[.int .i64 x1, .int .i64 x2, .int .i64 x3, .int .i64 y1, .int .i64 y2, .int .i64 y3]] _ fun e w' => e = .returned (.bool (Zk x1 x2 x3 && Zk y1 y2 y3)) ∧ Ex w w'
 have k1 := fun w => Ya x1 x2 x3 w
 have k2 := fun w => Ya y1 y2 y3 w
 generalize Zk x1 x2 x3 = vx at *
 generalize Zk y1 y2 y3 = vy at *
 rcases vx with _ | _
 ·have K1 := Oi k1
  have K2 := Oi k2
  clear k1 k2
  have hS := Zw.refl w
  have hC := True.intro
  go_enter Tryz.func48, Tryz.ntmps48
  go_wp2_with ((go_at_call 60; (first | (with_reducible refine (K1.out _).mono ?_) | (with_reducible refine (K2.out _).mono ?_)); rintro e wn ⟨rfl, hx⟩; replace hS := Zw.after (W := w) hx; clear hx; replace hC := hS.reads; simp only [Zz, Zy, Oh] at hC))
  go_ret
  refine ⟨Yr (by simp), ?_⟩
  repeat' (with_reducible first | exact hS.ex | exact Ex.refl _ | assumption | apply Ex.alloc | apply Ex.drewN | apply Ex.drew | refine Ex.setCell ?_ (by simp <;> omega) _)
 ·have K1 := Oi k1
  have K2 := Oi k2
  clear k1 k2
  have hS := Zw.refl w
  have hC := True.intro
  go_enter Tryz.func48, Tryz.ntmps48
  go_wp2_with ((go_at_call 60; (first | (with_reducible refine (K1.out _).mono ?_) | (with_reducible refine (K2.out _).mono ?_)); rintro e wn ⟨rfl, hx⟩; replace hS := Zw.after (W := w) hx; clear hx; replace hC := hS.reads; simp only [Zz, Zy, Oh] at hC))
  go_ret
  refine ⟨Yr (by simp), ?_⟩
  repeat' (with_reducible first | exact hS.ex | exact Ex.refl _ | assumption | apply Ex.alloc | apply Ex.drewN | apply Ex.drew | refine Ex.setCell ?_ (by simp <;> omega) _)
theorem sl5One (a b : Fr) (w : World) : Calls Tryz.prog 63 #[a.v, b.v] w (fun e w' => e = .returned (M4.v ⟨a, Fr.nul, Fr.nul, b⟩) ∧ Ex w w') := by
 obtain ⟨a1, a2, a3⟩ := a
 obtain ⟨b1, b2, b3⟩ := b
 simp only [Fr.v, M4.v, Fr.nul]
 have hS := Zw.refl w
 have hC := True.intro
 go_enter Tryz.func63, Tryz.ntmps63
 go_wp2
 refine Od ?_ rfl ⟨rfl, ?_⟩
 ·simp [results, Tryz.results63, go_sem, hC]
 ·repeat' (with_reducible first | exact hS.ex | exact Ex.refl _ | assumption | apply Ex.alloc | apply Ex.drewN | apply Ex.drew | refine Ex.setCell ?_ (by simp <;> omega) _)
theorem sl5Phase (k : Int) (h0 : 0 ≤ k) (h3 : k ≤ 3) (w : World) : Calls Tryz.prog 104 #[.int .i64 k] w (fun e w' => e = .returned ((Ys k).v) ∧ Ex w w') := by
 obtain rfl | rfl | rfl | rfl : k = 0 ∨ k = 1 ∨ k = 2 ∨ k = 3 := by omega
 all_goals
  simp only [Ys, Fr.v]
  try simp only [if_true, Int.one_ne_zero, if_false, show ¬ ((2 : Int) = 0) by decide, show ¬ ((2 : Int) = 1) by decide, show ¬ ((3 : Int) = 0) by decide, show ¬ ((3 : Int) = 1) by decide, show ¬ ((3 : Int) = 2) by decide]
  have hS := Zw.refl w
  have hC := True.intro
  go_enter Tryz.func104, Tryz.ntmps104
  go_wp2
  refine Od ?_ rfl ⟨rfl, ?_⟩
  ·simp [results, Tryz.results104, go_sem, hC]
  ·repeat' (with_reducible first | exact hS.ex | exact Ex.refl _ | assumption | apply Ex.alloc | apply Ex.drewN | apply Ex.drew | refine Ex.setCell ?_ (by simp <;> omega) _)
theorem Qm (p q : Int) (w : World) : Calls Tryz.prog 101 #[.int .i64 p, .int .i64 q] w (fun e w' => e = .returned (m4v (Zg p q)) ∧ Ex w w') := by
 have kd := fun w => Vx p q w
 rcases h : Yi p q with _ | _
 ·have e : Zg p q = (M4.none, false) := by simp [Zg, h]
  rw [e]
  simp only [Wn, h, Bool.false_eq_true, if_false, Fr.none, Fr.v] at kd
  simp only [m4v, M4.v, M4.none, Fr.none]
  clear e h
  have KD := Oi kd
  clear kd
  have hS := Zw.refl w
  have hC := True.intro
  go_enter Tryz.func101, Tryz.ntmps101
  go_wp2_with ((first | (go_at_call 105; (with_reducible refine (KD.out _).mono ?_); rintro e wn ⟨rfl, hx⟩; replace hS := Zw.after (W := w) hx; clear hx; replace hC := hS.reads; simp only [Zz, Zy, Oh] at hC) | (go_at_call 107; (first | (with_reducible refine (Ye _ _ _ _ _ _ _ _ _ _ _ _ _).mono ?_) | (with_reducible refine (Yl _ _ _ _ _ _ _ _ _ _ _ _ _).mono ?_)); rintro e wn ⟨rfl, hx⟩; replace hS := Zw.after (W := w) hx; clear hx; replace hC := hS.reads; simp only [Zz, Zy, Oh] at hC)))
  refine Od ?_ rfl ⟨rfl, ?_⟩
  ·simp [results, Tryz.results101, go_sem, hC]
  ·repeat' (with_reducible first | exact hS.ex | exact Ex.refl _ | assumption | apply Ex.alloc | apply Ex.drewN | apply Ex.drew | refine Ex.setCell ?_ (by simp <;> omega) _)
 ·have e : Zg p q = (⟨Xl p q, fneg (Xk p q), Xk p q, Xl p q⟩, true) := by simp [Zg, h]
  rw [e]
  simp only [Wn, h, if_true] at kd
  obtain ⟨-, v2, -, i2⟩ := dir_ok h
  generalize Xl p q = c at *
  generalize Xk p q = s at *
  obtain ⟨c1, c2, c3⟩ := c
  obtain ⟨s1, s2, s3⟩ := s
  simp only at i2
  subst i2
  obtain ⟨q1, -, -, -⟩ := Fr.valid_out v2
  simp only at q1
  have w1 := Oc (-s1) (by omega)
  simp only [Fr.v] at kd
  simp only [m4v, M4.v, fneg, Int.neg_zero]
  clear e h v2
  have KD := Oi kd
  clear kd
  have hS := Zw.refl w
  have hC := True.intro
  go_enter Tryz.func101, Tryz.ntmps101
  go_wp2_with ((first | (go_at_call 105; (with_reducible refine (KD.out _).mono ?_); rintro e wn ⟨rfl, hx⟩; replace hS := Zw.after (W := w) hx; clear hx; replace hC := hS.reads; simp only [Zz, Zy, Oh] at hC) | (go_at_call 107; (first | (with_reducible refine (Ye _ _ _ _ _ _ _ _ _ _ _ _ _).mono ?_) | (with_reducible refine (Yl _ _ _ _ _ _ _ _ _ _ _ _ _).mono ?_)); rintro e wn ⟨rfl, hx⟩; replace hS := Zw.after (W := w) hx; clear hx; replace hC := hS.reads; simp only [Zz, Zy, Oh] at hC)))
  refine Od ?_ rfl ⟨rfl, ?_⟩
  ·simp [results, Tryz.results101, go_sem, hC]
  ·repeat' (with_reducible first | exact hS.ex | exact Ex.refl _ | assumption | apply Ex.alloc | apply Ex.drewN | apply Ex.drew | refine Ex.setCell ?_ (by simp <;> omega) _)
theorem sMatFilter (p q : Int) (w : World) : Calls Tryz.prog 43 #[.int .i64 p, .int .i64 q] w (fun e w' => e = .returned (m4v (Xq p q)) ∧ Ex w w') := by
 have kd := fun w => Vx p q w
 rcases h : Yi p q with _ | _
 ·have e : Xq p q = (M4.none, false) := by simp [Xq, h]
  rw [e]
  simp only [Wn, h, Bool.false_eq_true, if_false, Fr.none, Fr.v] at kd
  simp only [m4v, M4.v, M4.none, Fr.none]
  clear e h
  have KD := Oi kd
  clear kd
  have hS := Zw.refl w
  have hC := True.intro
  go_enter Tryz.func43, Tryz.ntmps43
  go_wp2_with ((go_at_call 105; (with_reducible refine (KD.out _).mono ?_); rintro e wn ⟨rfl, hx⟩; replace hS := Zw.after (W := w) hx; clear hx; replace hC := hS.reads; simp only [Zz, Zy, Oh] at hC))
  refine Od ?_ rfl ⟨rfl, ?_⟩
  ·simp [results, Tryz.results43, go_sem, hC]
  ·repeat' (with_reducible first | exact hS.ex | exact Ex.refl _ | assumption | apply Ex.alloc | apply Ex.drewN | apply Ex.drew | refine Ex.setCell ?_ (by simp <;> omega) _)
 ·have e : Xq p q = Qe (Zu (Xl p q) (Xl p q)) (Zu (Xl p q) (Xk p q)) (Zu (Xl p q) (Xk p q)) (Zu (Xk p q) (Xk p q)) true := by simp [Xq, h]
  rw [e]
  unfold Qe
  simp only [Wn, h, if_true] at kd
  clear e h
  have k1 := fun w => Yc.opn (Vh (Xl p q) (Xl p q) w)
  have k2 := fun w => Yc.opn (Vh (Xl p q) (Xk p q) w)
  have k3 := fun w => Yc.opn (Vh (Xk p q) (Xk p q) w)
  generalize Zu (Xl p q) (Xl p q) = a at *
  generalize Zu (Xl p q) (Xk p q) = b at *
  generalize Zu (Xk p q) (Xk p q) = d at *
  generalize Xl p q = c at *
  generalize Xk p q = s at *
  obtain ⟨c1, c2, c3⟩ := c
  obtain ⟨s1, s2, s3⟩ := s
  obtain ⟨⟨a1, a2, a3⟩, ak⟩ := a
  obtain ⟨⟨b1, b2, b3⟩, bk⟩ := b
  obtain ⟨⟨d1, d2, d3⟩, dk⟩ := d
  simp only [frv, Fr.v] at kd k1 k2 k3
  simp only [m4v, M4.v, M4.none, Fr.none]
  rcases dk with _ | _
  ·try simp only [Bool.and_false, Bool.and_true, Bool.true_and, Bool.false_eq_true, if_false]
   have KD := Oi kd
   have K1 := Oi k1
   have K2 := Oi k2
   have K3 := Oi k3
   clear kd k1 k2 k3
   have hS := Zw.refl w
   have hC := True.intro
   go_enter Tryz.func43, Tryz.ntmps43
   go_wp2_with ((first | (go_at_call 105; (with_reducible refine (KD.out _).mono ?_); rintro e wn ⟨rfl, hx⟩; replace hS := Zw.after (W := w) hx; clear hx; replace hC := hS.reads; simp only [Zz, Zy, Oh] at hC) | (go_at_call 106; (first | (with_reducible refine (K1.out _).mono ?_) | (with_reducible refine (K2.out _).mono ?_) | (with_reducible refine (K3.out _).mono ?_)); rintro e wn ⟨rfl, hx⟩; replace hS := Zw.after (W := w) hx; clear hx; replace hC := hS.reads; simp only [Zz, Zy, Oh] at hC) | (go_at_call 107; (first | (with_reducible refine (Ye _ _ _ _ _ _ _ _ _ _ _ _ _).mono ?_) | (with_reducible refine (Yl _ _ _ _ _ _ _ _ _ _ _ _ _).mono ?_)); rintro e wn ⟨rfl, hx⟩; replace hS := Zw.after (W := w) hx; clear hx; replace hC := hS.reads; simp only [Zz, Zy, Oh] at hC)))
   all_goals
    refine Od ?_ rfl ⟨rfl, ?_⟩
    ·simp [results, Tryz.results43, go_sem, hC, *]
    ·repeat' (with_reducible first | exact hS.ex | exact Ex.refl _ | assumption | apply Ex.alloc | apply Ex.drewN | apply Ex.drew | refine Ex.setCell ?_ (by simp <;> omega) _)
  ·try simp only [Bool.and_false, Bool.and_true, Bool.true_and, Bool.false_eq_true, if_false]
   have KD := Oi kd
   have K1 := Oi k1
   have K2 := Oi k2
   have K3 := Oi k3
   clear kd k1 k2 k3
   have hS := Zw.refl w
   have hC := True.intro
   go_enter Tryz.func43, Tryz.ntmps43
   go_wp2_with ((first | (go_at_call 105; (with_reducible refine (KD.out _).mono ?_); rintro e wn ⟨rfl, hx⟩; replace hS := Zw.after (W := w) hx; clear hx; replace hC := hS.reads; simp only [Zz, Zy, Oh] at hC) | (go_at_call 106; (first | (with_reducible refine (K1.out _).mono ?_) | (with_reducible refine (K2.out _).mono ?_) | (with_reducible refine (K3.out _).mono ?_)); rintro e wn ⟨rfl, hx⟩; replace hS := Zw.after (W := w) hx; clear hx; replace hC := hS.reads; simp only [Zz, Zy, Oh] at hC) | (go_at_call 107; (first | (with_reducible refine (Ye _ _ _ _ _ _ _ _ _ _ _ _ _).mono ?_) | (with_reducible refine (Yl _ _ _ _ _ _ _ _ _ _ _ _ _).mono ?_)); rintro e wn ⟨rfl, hx⟩; replace hS := Zw.after (W := w) hx; clear hx; replace hC := hS.reads; simp only [Zz, Zy, Oh] at hC)))
   all_goals
    refine Od ?_ rfl ⟨rfl, ?_⟩
    ·simp [results, Tryz.results43, go_sem, hC, *]
    ·repeat' (with_reducible first | exact hS.ex | exact Ex.refl _ | assumption | apply Ex.alloc | apply Ex.drewN | apply Ex.drew | refine Ex.setCell ?_ (by simp <;> omega) _)
end
section
open Go.RowKit
end
end Go.Proofs.YtmjggolkopbcnaaGreatDoor
