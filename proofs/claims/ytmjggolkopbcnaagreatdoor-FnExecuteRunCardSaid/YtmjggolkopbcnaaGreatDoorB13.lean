/-
  Proved: what functions compute, part 13. No condition.
-/
import Derived.Test.YtmjggolkopbcnaaGreatDoorB12
import Derived.RegionTactic
import Derived.ChangeAlike
import Derived.Test.YtmjggolkopbcnaaGreatDoorB11
import Derived.Test.YtmjggolkopbcnaaGreatDoorB05
set_option linter.unusedSimpArgs false
set_option linter.unusedVariables false
set_option maxRecDepth 20000
set_option maxHeartbeats 8000000
namespace Go.Proofs.YtmjggolkopbcnaaGreatDoor
section
open Go.RowKit

theorem dir_bd {p q : Int} (h1 : Yo p (-100) 100 = true) (h2 : Yo q (-100) 100 = true) : (0 ≤ p * p ∧ p * p ≤ 10000) ∧ (0 ≤ q * q ∧ q * q ≤ 10000) ∧ (-10000 ≤ p * q ∧ p * q ≤ 10000) := by
 have hp := Yq h1
 have hq := Yq h2
 have bd : ∀ x y : Int, -100 ≤ x → x ≤ 100 → -100 ≤ y → y ≤ 100 → -10000 ≤ x * y ∧ x * y ≤ 10000 := by
  intro x y h1 h2 h3 h4
  have : (x * y).natAbs ≤ 100 * 100 := by
   rw [Int.natAbs_mul]
   exact Nat.mul_le_mul (by omega) (by omega)
  omega
 exact ⟨⟨Ul _, (bd p p hp.1 hp.2 hp.1 hp.2).2⟩, ⟨Ul _, (bd q q hq.1 hq.2 hq.1 hq.2).2⟩, bd p q hp.1 hp.2 hq.1 hq.2⟩
theorem dir_pos {p q : Int} (h : (decide (p = 0) && decide (q = 0)) = false) : 1 ≤ p * p + q * q := by
 have s1 := Ul p
 have s2 := Ul q
 rw [Bool.and_eq_false_iff] at h
 rcases h with h | h
 ·have := Int.mul_ne_zero (show p ≠ 0 by simpa using h) (show p ≠ 0 by simpa using h)
  omega
 ·have := Int.mul_ne_zero (show q ≠ 0 by simpa using h) (show q ≠ 0 by simpa using h)
  omega
def Wn (p q : Int) : Value := if Yi p q then .tuple #[(Xl p q).v, (Xk p q).v, .bool true] else .tuple #[Fr.none.v, Fr.none.v, .bool false]
theorem Rd (re im den : Int) (w : World) (h1 : -1000000000000000000 ≤ re ∧ re ≤ 1000000000000000000) (h2 : -1000000000000000000 ≤ im ∧ im ≤ 1000000000000000000) (h3 : 1 ≤ den ∧ den ≤ 1000000000000000000) : Calls Tryz.prog 154 #[.int .i64 re, .int .i64 im, .int .i64 den] w (fun e w' => e = .returned (frv (flow re im den)) ∧ Ex w w') := by
 have k1 := fun w => Xg den 1 1000000000000000000 w
 have k2 := fun w => Xg re (-1000000000000000000) 1000000000000000000 w
 have k3 := fun w => Xg im (-1000000000000000000) 1000000000000000000 w
 have e1 : Yo den 1 1000000000000000000 = true := by simp [Yo]; omega
 have e2 : Yo re (-1000000000000000000) 1000000000000000000 = true := by simp [Yo]; omega
 have e3 : Yo im (-1000000000000000000) 1000000000000000000 = true := by simp [Yo]; omega
 rw [e1] at k1
 rw [e2] at k2
 rw [e3] at k3
 have k4 := fun w => Yc.opn (Rk re im den w (by omega) (by omega) (by omega))
 generalize flow re im den = r at k4 ⊢
 obtain ⟨⟨r1, r2, r3⟩, rk⟩ := r
 simp only [frv, Fr.v] at k4 ⊢
 clear e1 e2 e3
 have K1 := Oi k1
 have K2 := Oi k2
 have K3 := Oi k3
 have K4 := Oi k4
 clear k1 k2 k3 k4
 have hS := Zw.refl w
 have hC := True.intro
 go_enter Tryz.func154, Tryz.ntmps154
 go_wp2_with ((first | (go_at_call 102; (first | (with_reducible refine (K1.out _).mono ?_) | (with_reducible refine (K2.out _).mono ?_) | (with_reducible refine (K3.out _).mono ?_)); rintro e wn ⟨rfl, rfl⟩) | (go_at_call 156; (with_reducible refine (K4.out _).mono ?_); rintro e wn ⟨rfl, hx⟩; replace hS := Zw.after (W := w) hx; clear hx; replace hC := hS.reads; simp only [Zz, Zy, Oh] at hC)))
 refine Od ?_ rfl ⟨rfl, ?_⟩
 ·simp [results, Tryz.results154, go_sem, hC]
 ·repeat' (with_reducible first | exact hS.ex | exact Ex.refl _ | assumption | apply Ex.alloc | apply Ex.drewN | apply Ex.drew | refine Ex.setCell ?_ (by simp <;> omega) _)
theorem Vx (p q : Int) (w : World) : Calls Tryz.prog 105 #[.int .i64 p, .int .i64 q] w (fun e w' => e = .returned (Wn p q) ∧ Ex w w') := by
 have k1 := fun w => Xg p (-100) 100 w
 have k2 := fun w => Xg q (-100) 100 w
 rcases h1 : Yo p (-100) 100 with _ | _
 ·have e : Yi p q = false := by simp [Yi, h1]
  simp only [Wn, e, Bool.false_eq_true, if_false, Fr.none, Fr.v]
  clear e
  rw [h1] at k1
  clear h1
  have K1 := Oi k1
  have K2 := Oi k2
  clear k1 k2
  have hS := Zw.refl w
  have hC := True.intro
  go_enter Tryz.func105, Tryz.ntmps105
  go_wp2_with ((go_at_call 102; (with_reducible refine (K1.out _).mono ?_); rintro e wn ⟨rfl, rfl⟩))
  refine Od ?_ rfl ⟨rfl, ?_⟩
  ·simp [results, Tryz.results105, go_sem, hC]
  ·repeat' (with_reducible first | exact hS.ex | exact Ex.refl _ | assumption | apply Ex.alloc | apply Ex.drewN | apply Ex.drew | refine Ex.setCell ?_ (by simp <;> omega) _)
 ·rcases h2 : Yo q (-100) 100 with _ | _
  ·have e : Yi p q = false := by simp [Yi, h1, h2]
   simp only [Wn, e, Bool.false_eq_true, if_false, Fr.none, Fr.v]
   clear e
   rw [h1] at k1
   rw [h2] at k2
   clear h1 h2
   have K1 := Oi k1
   have K2 := Oi k2
   clear k1 k2
   have hS := Zw.refl w
   have hC := True.intro
   go_enter Tryz.func105, Tryz.ntmps105
   go_wp2_with ((go_at_call 102; (first | (with_reducible refine (K1.out _).mono ?_) | (with_reducible refine (K2.out _).mono ?_)); rintro e wn ⟨rfl, rfl⟩))
   refine Od ?_ rfl ⟨rfl, ?_⟩
   ·simp [results, Tryz.results105, go_sem, hC]
   ·repeat' (with_reducible first | exact hS.ex | exact Ex.refl _ | assumption | apply Ex.alloc | apply Ex.drewN | apply Ex.drew | refine Ex.setCell ?_ (by simp <;> omega) _)
  ·rcases h3 : (decide (p = 0) && decide (q = 0)) with _ | _
   ·have e : Yi p q = true := by unfold Yi; rw [h1, h2, h3]; rfl
    have hn := dir_pos h3
    obtain ⟨b1, b2, b3⟩ := dir_bd h1 h2
    have hp := Yq h1
    have hq := Yq h2
    have e4 : 2 * p * q = 2 * (p * q) := Int.mul_assoc _ _ _
    have k3 := fun w => Rd (p * p - q * q) 0 (p * p + q * q) w (by omega) (by omega) (by omega)
    have k4 := fun w => Rd (2 * p * q) 0 (p * p + q * q) w (by rw [e4]; omega) (by omega) (by omega)
    simp only [Wn, e, if_true, Xl, Xk]
    have m4 : -20000 ≤ 2 * p * q ∧ 2 * p * q ≤ 20000 := by rw [e4]; omega
    have hne : (decide (p = 0) && decide (q = 0)) = false := h3
    rw [h1] at k1
    rw [h2] at k2
    clear e e4 h1 h2 h3
    generalize flow (p * p - q * q) 0 (p * p + q * q) = c at *
    generalize flow (2 * p * q) 0 (p * p + q * q) = s at *
    obtain ⟨⟨c1, c2, c3⟩, ck⟩ := c
    obtain ⟨⟨s1, s2, s3⟩, sk⟩ := s
    simp only [frv, Fr.v] at k3 k4 ⊢
    by_cases hp0 : p = 0
    ·subst hp0
     have hq0 : (q == 0) = false := by simpa using hne
     clear hne
     have ex3 : (2 : Int) * 0 * q = 0 := by simp
     rw [ex3] at k4
     have ex1 : (0 : Int) * 0 = 0 := rfl
     rw [ex1] at k3 k4
     simp only [Int.zero_add, Int.zero_sub] at k3 k4
     clear ex1 ex3 m4 b1 b3
     generalize ex2 : q * q = x2 at *
     have K1 := Oi k1
     have K2 := Oi k2
     have K3 := Oi k3
     have K4 := Oi k4
     clear k1 k2 k3 k4
     have hS := Zw.refl w
     have hC := True.intro
     go_enter Tryz.func105, Tryz.ntmps105
     go_wp2_with ((first | (go_at_call 102; (first | (with_reducible refine (K1.out _).mono ?_) | (with_reducible refine (K2.out _).mono ?_)); rintro e wn ⟨rfl, rfl⟩) | (go_at_call 154; (first | (with_reducible refine (K3.out _).mono ?_) | (with_reducible refine (K4.out _).mono ?_)); rintro e wn ⟨rfl, hx⟩; replace hS := Zw.after (W := w) hx; clear hx; replace hC := hS.reads; simp only [Zz, Zy, Oh] at hC)))
     go_region
     all_goals
      go_wp2
      refine Od ?_ rfl ⟨rfl, ?_⟩
      ·simp [results, Tryz.results105, go_sem, hC]
      ·repeat' (with_reducible first | exact hS.ex | exact Ex.refl _ | assumption | apply Ex.alloc | apply Ex.drewN | apply Ex.drew | refine Ex.setCell ?_ (by simp <;> omega) _)
    ·have hp1 : (p == 0) = false := by simpa using hp0
     clear hne hp0
     generalize ex1 : p * p = x1 at *
     generalize ex2 : q * q = x2 at *
     generalize ex3 : 2 * p * q = x3 at *
     clear b3
     have K1 := Oi k1
     have K2 := Oi k2
     have K3 := Oi k3
     have K4 := Oi k4
     clear k1 k2 k3 k4
     have hS := Zw.refl w
     have hC := True.intro
     go_enter Tryz.func105, Tryz.ntmps105
     go_wp2_with ((first | (go_at_call 102; (first | (with_reducible refine (K1.out _).mono ?_) | (with_reducible refine (K2.out _).mono ?_)); rintro e wn ⟨rfl, rfl⟩) | (go_at_call 154; (first | (with_reducible refine (K3.out _).mono ?_) | (with_reducible refine (K4.out _).mono ?_)); rintro e wn ⟨rfl, hx⟩; replace hS := Zw.after (W := w) hx; clear hx; replace hC := hS.reads; simp only [Zz, Zy, Oh] at hC)))
     go_region
     all_goals
      go_wp2
      refine Od ?_ rfl ⟨rfl, ?_⟩
      ·simp [results, Tryz.results105, go_sem, hC]
      ·repeat' (with_reducible first | exact hS.ex | exact Ex.refl _ | assumption | apply Ex.alloc | apply Ex.drewN | apply Ex.drew | refine Ex.setCell ?_ (by simp <;> omega) _)
   ·have e : Yi p q = false := by simp [Yi, h1, h2, h3]
    simp only [Wn, e, Bool.false_eq_true, if_false, Fr.none, Fr.v]
    clear e
    rw [h1] at k1
    rw [h2] at k2
    rw [Bool.and_eq_true] at h3
    obtain ⟨h3, h4⟩ := h3
    have hp : p = 0 := of_decide_eq_true h3
    have hq : q = 0 := of_decide_eq_true h4
    subst hp hq
    clear h1 h2 h3 h4
    have K1 := Oi k1
    have K2 := Oi k2
    clear k1 k2
    have hS := Zw.refl w
    have hC := True.intro
    go_enter Tryz.func105, Tryz.ntmps105
    go_wp2_with ((go_at_call 102; (first | (with_reducible refine (K1.out _).mono ?_) | (with_reducible refine (K2.out _).mono ?_)); rintro e wn ⟨rfl, rfl⟩))
    refine Od ?_ rfl ⟨rfl, ?_⟩
    ·simp [results, Tryz.results105, go_sem, hC]
    ·repeat' (with_reducible first | exact hS.ex | exact Ex.refl _ | assumption | apply Ex.alloc | apply Ex.drewN | apply Ex.drew | refine Ex.setCell ?_ (by simp <;> omega) _)
theorem Wh (p q : Int) (w : World) : Calls Tryz.prog 95 #[.int .i64 p, .int .i64 q] w (fun e w' => e = .returned (Wn p q) ∧ Ex w w') := by
 have k1 := fun w => Yz p (-100) 100 w
 have k2 := fun w => Yz q (-100) 100 w
 rcases h1 : Yo p (-100) 100 with _ | _
 ·have e : Yi p q = false := by simp [Yi, h1]
  simp only [Wn, e, Bool.false_eq_true, if_false, Fr.none, Fr.v]
  clear e
  rw [h1] at k1
  clear h1
  have K1 := Oi k1
  have K2 := Oi k2
  clear k1 k2
  have hS := Zw.refl w
  have hC := True.intro
  go_enter Tryz.func95, Tryz.ntmps95
  go_wp2_with ((go_at_call 79; (with_reducible refine (K1.out _).mono ?_); rintro e wn ⟨rfl, rfl⟩))
  refine Od ?_ rfl ⟨rfl, ?_⟩
  ·simp [results, Tryz.results95, go_sem, hC]
  ·repeat' (with_reducible first | exact hS.ex | exact Ex.refl _ | assumption | apply Ex.alloc | apply Ex.drewN | apply Ex.drew | refine Ex.setCell ?_ (by simp <;> omega) _)
 ·rcases h2 : Yo q (-100) 100 with _ | _
  ·have e : Yi p q = false := by simp [Yi, h1, h2]
   simp only [Wn, e, Bool.false_eq_true, if_false, Fr.none, Fr.v]
   clear e
   rw [h1] at k1
   rw [h2] at k2
   clear h1 h2
   have K1 := Oi k1
   have K2 := Oi k2
   clear k1 k2
   have hS := Zw.refl w
   have hC := True.intro
   go_enter Tryz.func95, Tryz.ntmps95
   go_wp2_with ((go_at_call 79; (first | (with_reducible refine (K1.out _).mono ?_) | (with_reducible refine (K2.out _).mono ?_)); rintro e wn ⟨rfl, rfl⟩))
   refine Od ?_ rfl ⟨rfl, ?_⟩
   ·simp [results, Tryz.results95, go_sem, hC]
   ·repeat' (with_reducible first | exact hS.ex | exact Ex.refl _ | assumption | apply Ex.alloc | apply Ex.drewN | apply Ex.drew | refine Ex.setCell ?_ (by simp <;> omega) _)
  ·rcases h3 : (decide (p = 0) && decide (q = 0)) with _ | _
   ·have e : Yi p q = true := by unfold Yi; rw [h1, h2, h3]; rfl
    have hn := dir_pos h3
    obtain ⟨b1, b2, b3⟩ := dir_bd h1 h2
    have hp := Yq h1
    have hq := Yq h2
    have e4 : 2 * p * q = 2 * (p * q) := Int.mul_assoc _ _ _
    have k3 := fun w => Yc.opn (Vi (p * p - q * q) 0 (p * p + q * q) w (by omega) (by omega) (by omega))
    have k4 := fun w => Yc.opn (Vi (2 * p * q) 0 (p * p + q * q) w (by rw [e4]; omega) (by omega) (by omega))
    simp only [Wn, e, if_true, Xl, Xk]
    have m4 : -20000 ≤ 2 * p * q ∧ 2 * p * q ≤ 20000 := by rw [e4]; omega
    have hne : (decide (p = 0) && decide (q = 0)) = false := h3
    rw [h1] at k1
    rw [h2] at k2
    clear e e4 h1 h2 h3
    generalize flow (p * p - q * q) 0 (p * p + q * q) = c at *
    generalize flow (2 * p * q) 0 (p * p + q * q) = s at *
    obtain ⟨⟨c1, c2, c3⟩, ck⟩ := c
    obtain ⟨⟨s1, s2, s3⟩, sk⟩ := s
    simp only [frv, Fr.v] at k3 k4 ⊢
    by_cases hp0 : p = 0
    ·subst hp0
     have hq0 : (q == 0) = false := by simpa using hne
     clear hne
     have ex3 : (2 : Int) * 0 * q = 0 := by simp
     rw [ex3] at k4
     have ex1 : (0 : Int) * 0 = 0 := rfl
     rw [ex1] at k3 k4
     simp only [Int.zero_add, Int.zero_sub] at k3 k4
     clear ex1 ex3 m4 b1 b3
     generalize ex2 : q * q = x2 at *
     have K1 := Oi k1
     have K2 := Oi k2
     have K3 := Oi k3
     have K4 := Oi k4
     clear k1 k2 k3 k4
     have hS := Zw.refl w
     have hC := True.intro
     go_enter Tryz.func95, Tryz.ntmps95
     go_wp2_with ((first | (go_at_call 79; (first | (with_reducible refine (K1.out _).mono ?_) | (with_reducible refine (K2.out _).mono ?_)); rintro e wn ⟨rfl, rfl⟩) | (go_at_call 119; (first | (with_reducible refine (K3.out _).mono ?_) | (with_reducible refine (K4.out _).mono ?_)); rintro e wn ⟨rfl, hx⟩; replace hS := Zw.after (W := w) hx; clear hx; replace hC := hS.reads; simp only [Zz, Zy, Oh] at hC)))
     go_region
     all_goals
      go_wp2
      refine Od ?_ rfl ⟨rfl, ?_⟩
      ·simp [results, Tryz.results95, go_sem, hC]
      ·repeat' (with_reducible first | exact hS.ex | exact Ex.refl _ | assumption | apply Ex.alloc | apply Ex.drewN | apply Ex.drew | refine Ex.setCell ?_ (by simp <;> omega) _)
    ·have hp1 : (p == 0) = false := by simpa using hp0
     clear hne hp0
     generalize ex1 : p * p = x1 at *
     generalize ex2 : q * q = x2 at *
     generalize ex3 : 2 * p * q = x3 at *
     clear b3
     have K1 := Oi k1
     have K2 := Oi k2
     have K3 := Oi k3
     have K4 := Oi k4
     clear k1 k2 k3 k4
     have hS := Zw.refl w
     have hC := True.intro
     go_enter Tryz.func95, Tryz.ntmps95
     go_wp2_with ((first | (go_at_call 79; (first | (with_reducible refine (K1.out _).mono ?_) | (with_reducible refine (K2.out _).mono ?_)); rintro e wn ⟨rfl, rfl⟩) | (go_at_call 119; (first | (with_reducible refine (K3.out _).mono ?_) | (with_reducible refine (K4.out _).mono ?_)); rintro e wn ⟨rfl, hx⟩; replace hS := Zw.after (W := w) hx; clear hx; replace hC := hS.reads; simp only [Zz, Zy, Oh] at hC)))
     go_region
     all_goals
      go_wp2
      refine Od ?_ rfl ⟨rfl, ?_⟩
      ·simp [results, Tryz.results95, go_sem, hC]
      ·repeat' (with_reducible first | exact hS.ex | exact Ex.refl _ | assumption | apply Ex.alloc | apply Ex.drewN | apply Ex.drew | refine Ex.setCell ?_ (by simp <;> omega) _)
   ·have e : Yi p q = false := by simp [Yi, h1, h2, h3]
    simp only [Wn, e, Bool.false_eq_true, if_false, Fr.none, Fr.v]
    clear e
    rw [h1] at k1
    rw [h2] at k2
    rw [Bool.and_eq_true] at h3
    obtain ⟨h3, h4⟩ := h3
    have hp : p = 0 := of_decide_eq_true h3
    have hq : q = 0 := of_decide_eq_true h4
    subst hp hq
    clear h1 h2 h3 h4
    have K1 := Oi k1
    have K2 := Oi k2
    clear k1 k2
    have hS := Zw.refl w
    have hC := True.intro
    go_enter Tryz.func95, Tryz.ntmps95
    go_wp2_with ((go_at_call 79; (first | (with_reducible refine (K1.out _).mono ?_) | (with_reducible refine (K2.out _).mono ?_)); rintro e wn ⟨rfl, rfl⟩))
    refine Od ?_ rfl ⟨rfl, ?_⟩
    ·simp [results, Tryz.results95, go_sem, hC]
    ·repeat' (with_reducible first | exact hS.ex | exact Ex.refl _ | assumption | apply Ex.alloc | apply Ex.drewN | apply Ex.drew | refine Ex.setCell ?_ (by simp <;> omega) _)
end
section
open Go.RowKit

attribute [local go_sem] Zq Zp
def tpart (a : Fr) (over : Int) (im : Bool) : Fr × Bool := flow (if im then a.im else a.re) 0 (max 1 a.den * over)
end
end Go.Proofs.YtmjggolkopbcnaaGreatDoor
