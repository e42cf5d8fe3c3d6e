/-
  Proved: what functions compute, part 10. No condition.
-/
import Derived.Test.YtmmjkchjgeklnaaGreatDoorK09
import Derived.Deep.RegionHeld3
import Derived.Test.YtmmjkchjgeklnaaGreatDoorK07
set_option linter.unusedSimpArgs false
set_option linter.unusedVariables false
set_option maxRecDepth 20000
set_option maxHeartbeats 8000000
namespace Go.Proofs.YtmmjkchjgeklnaaGreatDoor
section
open Go.RowKit

theorem dir_ok {p q : Int} (h : Xa p q = true) : (Vs p q).valid = true ∧ (Vr p q).valid = true ∧ (Vs p q).im = 0 ∧ (Vr p q).im = 0 := by
 unfold Xa at h
 simp only [Bool.and_eq_true] at h
 obtain ⟨b1, b2, b3⟩ := dir_bd h.1.1 h.1.2
 have hn := dir_pos (p := p) (q := q) (by
  have h2 := h.2
  rcases hh : (decide (p = 0) && decide (q = 0)) with _ | _
  ·rfl
  ·rw [hh] at h2; cases h2)
 have e4 : 2 * p * q = 2 * (p * q) := Int.mul_assoc _ _ _
 refine ⟨Nm hn (Ps (by omega) (by omega) (by omega)), Nm hn (Ps (by rw [e4]; omega) (by omega) (by omega)), Lz, Lz⟩
theorem Rz (p q : Int) : (Yo p q).2 = Xa p q := by
 unfold Yo
 split
 ·rename_i h; exact h.symm
 ·rename_i h; simp only [Bool.not_eq_true] at h; exact h.symm

theorem sl5One (a b : Fr) (w : World) : Calls Tryz.prog 143 #[a.v, b.v] w (fun e w' => e = .returned (M4.v ⟨a, Fr.nul, Fr.nul, b⟩) ∧ Ex w w') := by
 obtain ⟨a1, a2, a3⟩ := a
 obtain ⟨b1, b2, b3⟩ := b
 simp only [Fr.v, M4.v, Fr.nul]
 have hS := Zw.refl w
 have hC := True.intro
 go_enter Tryz.func143, Tryz.ntmps143
 go_wp2
 refine Gq ?_ rfl ⟨rfl, ?_⟩
 ·simp [results, Tryz.results143, go_sem, hC]
 ·repeat' (with_reducible first | exact hS.ex | exact Ex.refl _ | assumption | apply Ex.alloc | apply Ex.drewN | apply Ex.drew | refine Ex.setCell ?_ (by simp <;> omega) _)
theorem sl5Phase (k : Int) (h0 : 0 ≤ k) (h3 : k ≤ 3) (w : World) : Calls Tryz.prog 167 #[.int .i64 k] w (fun e w' => e = .returned ((Xp k).v) ∧ Ex w w') := by
 obtain rfl | rfl | rfl | rfl : k = 0 ∨ k = 1 ∨ k = 2 ∨ k = 3 := by omega
 all_goals
  simp only [Xp, Fr.v]
  try simp only [if_true, Int.one_ne_zero, if_false, show ¬ ((2 : Int) = 0) by decide, show ¬ ((2 : Int) = 1) by decide, show ¬ ((3 : Int) = 0) by decide, show ¬ ((3 : Int) = 1) by decide, show ¬ ((3 : Int) = 2) by decide]
  have hS := Zw.refl w
  have hC := True.intro
  go_enter Tryz.func167, Tryz.ntmps167
  go_wp2
  refine Gq ?_ rfl ⟨rfl, ?_⟩
  ·simp [results, Tryz.results167, go_sem, hC]
  ·repeat' (with_reducible first | exact hS.ex | exact Ex.refl _ | assumption | apply Ex.alloc | apply Ex.drewN | apply Ex.drew | refine Ex.setCell ?_ (by simp <;> omega) _)
theorem Jo (p q : Int) (w : World) : Calls Tryz.prog 140 #[.int .i64 p, .int .i64 q] w (fun e w' => e = .returned (m4v (Yo p q)) ∧ Ex w w') := by
 have kd := fun w => Sl p q w
 rcases h : Xa p q with _ | _
 ·have e : Yo p q = (M4.none, false) := by simp [Yo, h]
  rw [e]
  simp only [Tu, h, Bool.false_eq_true, if_false, Fr.none, Fr.v] at kd
  simp only [m4v, M4.v, M4.none, Fr.none]
  clear e h
  have KD := Gv kd
  clear kd
  have hS := Zw.refl w
  have hC := True.intro
  go_enter Tryz.func140, Tryz.ntmps140
  go_wp2_with ((first | (go_at_call 134; (with_reducible refine (KD.out _).mono ?_); rintro e wn ⟨rfl, hx⟩; replace hS := Zw.after (W := w) hx; clear hx; replace hC := hS.reads; simp only [Zz, Zy, Gu] at hC) | (go_at_call 164; (first | (with_reducible refine (Wu _ _ _ _ _ _ _ _ _ _ _ _ _).mono ?_) | (with_reducible refine (Wz _ _ _ _ _ _ _ _ _ _ _ _ _).mono ?_)); rintro e wn ⟨rfl, hx⟩; replace hS := Zw.after (W := w) hx; clear hx; replace hC := hS.reads; simp only [Zz, Zy, Gu] at hC)))
  refine Gq ?_ rfl ⟨rfl, ?_⟩
  ·simp [results, Tryz.results140, go_sem, hC]
  ·repeat' (with_reducible first | exact hS.ex | exact Ex.refl _ | assumption | apply Ex.alloc | apply Ex.drewN | apply Ex.drew | refine Ex.setCell ?_ (by simp <;> omega) _)
 ·have e : Yo p q = (⟨Vs p q, fneg (Vr p q), Vr p q, Vs p q⟩, true) := by simp [Yo, h]
  rw [e]
  simp only [Tu, h, if_true] at kd
  obtain ⟨-, v2, -, i2⟩ := dir_ok h
  generalize Vs p q = c at *
  generalize Vr p q = s at *
  obtain ⟨c1, c2, c3⟩ := c
  obtain ⟨s1, s2, s3⟩ := s
  simp only at i2
  subst i2
  obtain ⟨q1, -, -, -⟩ := Fr.valid_out v2
  simp only at q1
  have w1 := Gp (-s1) (by omega)
  simp only [Fr.v] at kd
  simp only [m4v, M4.v, fneg, Int.neg_zero]
  clear e h v2
  have KD := Gv kd
  clear kd
  have hS := Zw.refl w
  have hC := True.intro
  go_enter Tryz.func140, Tryz.ntmps140
  go_wp2_with ((first | (go_at_call 134; (with_reducible refine (KD.out _).mono ?_); rintro e wn ⟨rfl, hx⟩; replace hS := Zw.after (W := w) hx; clear hx; replace hC := hS.reads; simp only [Zz, Zy, Gu] at hC) | (go_at_call 164; (first | (with_reducible refine (Wu _ _ _ _ _ _ _ _ _ _ _ _ _).mono ?_) | (with_reducible refine (Wz _ _ _ _ _ _ _ _ _ _ _ _ _).mono ?_)); rintro e wn ⟨rfl, hx⟩; replace hS := Zw.after (W := w) hx; clear hx; replace hC := hS.reads; simp only [Zz, Zy, Gu] at hC)))
  refine Gq ?_ rfl ⟨rfl, ?_⟩
  ·simp [results, Tryz.results140, go_sem, hC]
  ·repeat' (with_reducible first | exact hS.ex | exact Ex.refl _ | assumption | apply Ex.alloc | apply Ex.drewN | apply Ex.drew | refine Ex.setCell ?_ (by simp <;> omega) _)
theorem sMatFilter (p q : Int) (w : World) : Calls Tryz.prog 142 #[.int .i64 p, .int .i64 q] w (fun e w' => e = .returned (m4v (Wr p q)) ∧ Ex w w') := by
 have kd := fun w => Sl p q w
 rcases h : Xa p q with _ | _
 ·have e : Wr p q = (M4.none, false) := by simp [Wr, h]
  rw [e]
  simp only [Tu, h, Bool.false_eq_true, if_false, Fr.none, Fr.v] at kd
  simp only [m4v, M4.v, M4.none, Fr.none]
  clear e h
  have KD := Gv kd
  clear kd
  have hS := Zw.refl w
  have hC := True.intro
  go_enter Tryz.func142, Tryz.ntmps142
  go_wp2_with ((go_at_call 134; (with_reducible refine (KD.out _).mono ?_); rintro e wn ⟨rfl, hx⟩; replace hS := Zw.after (W := w) hx; clear hx; replace hC := hS.reads; simp only [Zz, Zy, Gu] at hC))
  refine Gq ?_ rfl ⟨rfl, ?_⟩
  ·simp [results, Tryz.results142, go_sem, hC]
  ·repeat' (with_reducible first | exact hS.ex | exact Ex.refl _ | assumption | apply Ex.alloc | apply Ex.drewN | apply Ex.drew | refine Ex.setCell ?_ (by simp <;> omega) _)
 ·have e : Wr p q = Pt (Zs (Vs p q) (Vs p q)) (Zs (Vs p q) (Vr p q)) (Zs (Vs p q) (Vr p q)) (Zs (Vr p q) (Vr p q)) true := by simp [Wr, h]
  rw [e]
  unfold Pt
  simp only [Tu, h, if_true] at kd
  clear e h
  have k1 := fun w => Yu.opn (Xd (Vs p q) (Vs p q) w)
  have k2 := fun w => Yu.opn (Xd (Vs p q) (Vr p q) w)
  have k3 := fun w => Yu.opn (Xd (Vr p q) (Vr p q) w)
  generalize Zs (Vs p q) (Vs p q) = a at *
  generalize Zs (Vs p q) (Vr p q) = b at *
  generalize Zs (Vr p q) (Vr p q) = d at *
  generalize Vs p q = c at *
  generalize Vr p q = s at *
  obtain ⟨c1, c2, c3⟩ := c
  obtain ⟨s1, s2, s3⟩ := s
  obtain ⟨⟨a1, a2, a3⟩, ak⟩ := a
  obtain ⟨⟨b1, b2, b3⟩, bk⟩ := b
  obtain ⟨⟨d1, d2, d3⟩, dk⟩ := d
  simp only [frv, Fr.v] at kd k1 k2 k3
  simp only [m4v, M4.v, M4.none, Fr.none]
  rcases dk with _ | _
  ·try simp only [Bool.and_false, Bool.and_true, Bool.true_and, Bool.false_eq_true, if_false]
   have KD := Gv kd
   have K1 := Gv k1
   have K2 := Gv k2
   have K3 := Gv k3
   clear kd k1 k2 k3
   have hS := Zw.refl w
   have hC := True.intro
   go_enter Tryz.func142, Tryz.ntmps142
   go_wp2_with ((first | (go_at_call 134; (with_reducible refine (KD.out _).mono ?_); rintro e wn ⟨rfl, hx⟩; replace hS := Zw.after (W := w) hx; clear hx; replace hC := hS.reads; simp only [Zz, Zy, Gu] at hC) | (go_at_call 60; (first | (with_reducible refine (K1.out _).mono ?_) | (with_reducible refine (K2.out _).mono ?_) | (with_reducible refine (K3.out _).mono ?_)); rintro e wn ⟨rfl, hx⟩; replace hS := Zw.after (W := w) hx; clear hx; replace hC := hS.reads; simp only [Zz, Zy, Gu] at hC) | (go_at_call 164; (first | (with_reducible refine (Wu _ _ _ _ _ _ _ _ _ _ _ _ _).mono ?_) | (with_reducible refine (Wz _ _ _ _ _ _ _ _ _ _ _ _ _).mono ?_)); rintro e wn ⟨rfl, hx⟩; replace hS := Zw.after (W := w) hx; clear hx; replace hC := hS.reads; simp only [Zz, Zy, Gu] at hC)))
   all_goals
    refine Gq ?_ rfl ⟨rfl, ?_⟩
    ·simp [results, Tryz.results142, go_sem, hC, *]
    ·repeat' (with_reducible first | exact hS.ex | exact Ex.refl _ | assumption | apply Ex.alloc | apply Ex.drewN | apply Ex.drew | refine Ex.setCell ?_ (by simp <;> omega) _)
  ·try simp only [Bool.and_false, Bool.and_true, Bool.true_and, Bool.false_eq_true, if_false]
   have KD := Gv kd
   have K1 := Gv k1
   have K2 := Gv k2
   have K3 := Gv k3
   clear kd k1 k2 k3
   have hS := Zw.refl w
   have hC := True.intro
   go_enter Tryz.func142, Tryz.ntmps142
   go_wp2_with ((first | (go_at_call 134; (with_reducible refine (KD.out _).mono ?_); rintro e wn ⟨rfl, hx⟩; replace hS := Zw.after (W := w) hx; clear hx; replace hC := hS.reads; simp only [Zz, Zy, Gu] at hC) | (go_at_call 60; (first | (with_reducible refine (K1.out _).mono ?_) | (with_reducible refine (K2.out _).mono ?_) | (with_reducible refine (K3.out _).mono ?_)); rintro e wn ⟨rfl, hx⟩; replace hS := Zw.after (W := w) hx; clear hx; replace hC := hS.reads; simp only [Zz, Zy, Gu] at hC) | (go_at_call 164; (first | (with_reducible refine (Wu _ _ _ _ _ _ _ _ _ _ _ _ _).mono ?_) | (with_reducible refine (Wz _ _ _ _ _ _ _ _ _ _ _ _ _).mono ?_)); rintro e wn ⟨rfl, hx⟩; replace hS := Zw.after (W := w) hx; clear hx; replace hC := hS.reads; simp only [Zz, Zy, Gu] at hC)))
   all_goals
    refine Gq ?_ rfl ⟨rfl, ?_⟩
    ·simp [results, Tryz.results142, go_sem, hC, *]
    ·repeat' (with_reducible first | exact hS.ex | exact Ex.refl _ | assumption | apply Ex.alloc | apply Ex.drewN | apply Ex.drew | refine Ex.setCell ?_ (by simp <;> omega) _)
end
section
open Go.RowKit
end
end Go.Proofs.YtmmjkchjgeklnaaGreatDoor
