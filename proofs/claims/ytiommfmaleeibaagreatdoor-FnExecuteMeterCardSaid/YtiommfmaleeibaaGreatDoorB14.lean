/-
  Proved: what functions compute, part 14. No condition.
-/
import Derived.Test.YtiommfmaleeibaaGreatDoorB13
import Derived.RegionTactic
import Derived.ChangeAlike
set_option linter.unusedSimpArgs false
set_option linter.unusedVariables false
set_option maxRecDepth 20000
set_option maxHeartbeats 8000000
namespace Go.Proofs.YtiommfmaleeibaaGreatDoor
section
open Go.RowKit

theorem dir_bd {p q : Int} (h1 : Xu p (-100) 100 = true) (h2 : Xu q (-100) 100 = true) : (0 ≤ p * p ∧ p * p ≤ 10000) ∧ (0 ≤ q * q ∧ q * q ≤ 10000) ∧ (-10000 ≤ p * q ∧ p * q ≤ 10000) := by
 have hp := Xt h1
 have hq := Xt h2
 have bd : ∀ x y : Int, -100 ≤ x → x ≤ 100 → -100 ≤ y → y ≤ 100 → -10000 ≤ x * y ∧ x * y ≤ 10000 := by
  intro x y h1 h2 h3 h4
  have : (x * y).natAbs ≤ 100 * 100 := by
   rw [Int.natAbs_mul]
   exact Nat.mul_le_mul (by omega) (by omega)
  omega
 exact ⟨⟨Uw _, (bd p p hp.1 hp.2 hp.1 hp.2).2⟩, ⟨Uw _, (bd q q hq.1 hq.2 hq.1 hq.2).2⟩, bd p q hp.1 hp.2 hq.1 hq.2⟩
theorem dir_pos {p q : Int} (h : (decide (p = 0) && decide (q = 0)) = false) : 1 ≤ p * p + q * q := by
 have s1 := Uw p
 have s2 := Uw q
 rw [Bool.and_eq_false_iff] at h
 rcases h with h | h
 ·have := Int.mul_ne_zero (show p ≠ 0 by simpa using h) (show p ≠ 0 by simpa using h)
  omega
 ·have := Int.mul_ne_zero (show q ≠ 0 by simpa using h) (show q ≠ 0 by simpa using h)
  omega
def Un (p q : Int) : Value := if Xd p q then .tuple #[(Vx p q).v, (Vw p q).v, .bool true] else .tuple #[Fr.none.v, Fr.none.v, .bool false]
theorem Th (re im den : Int) (w : World) (h1 : -1000000000000000000 ≤ re ∧ re ≤ 1000000000000000000) (h2 : -1000000000000000000 ≤ im ∧ im ≤ 1000000000000000000) (h3 : 1 ≤ den ∧ den ≤ 1000000000000000000) : Calls Tryz.prog 173 #[.int .i64 re, .int .i64 im, .int .i64 den] w (fun e w' => e = .returned (frv (flow re im den)) ∧ Ex w w') := by
 have k1 := fun w => Sx den 1 1000000000000000000 w
 have k2 := fun w => Sx re (-1000000000000000000) 1000000000000000000 w
 have k3 := fun w => Sx im (-1000000000000000000) 1000000000000000000 w
 have e1 : Xu den 1 1000000000000000000 = true := by simp [Xu]; omega
 have e2 : Xu re (-1000000000000000000) 1000000000000000000 = true := by simp [Xu]; omega
 have e3 : Xu im (-1000000000000000000) 1000000000000000000 = true := by simp [Xu]; omega
 rw [e1] at k1
 rw [e2] at k2
 rw [e3] at k3
 have k4 := fun w => Yh.opn (Oo re im den w (by omega) (by omega) (by omega))
 generalize flow re im den = r at k4 ⊢
 obtain ⟨⟨r1, r2, r3⟩, rk⟩ := r
 simp only [frv, Fr.v] at k4 ⊢
 clear e1 e2 e3
 have K1 := Kw k1
 have K2 := Kw k2
 have K3 := Kw k3
 have K4 := Kw k4
 clear k1 k2 k3 k4
 have hS := Zw.refl w
 have hC := True.intro
 go_enter Tryz.func173, Tryz.ntmps173
 go_wp2_with ((first | (go_at_call 103; (first | (with_reducible refine (K1.out _).mono ?_) | (with_reducible refine (K2.out _).mono ?_) | (with_reducible refine (K3.out _).mono ?_)); rintro e wn ⟨rfl, rfl⟩) | (go_at_call 175; (with_reducible refine (K4.out _).mono ?_); rintro e wn ⟨rfl, hx⟩; replace hS := Zw.after (W := w) hx; clear hx; replace hC := hS.reads; simp only [Zz, Zy, Kv] at hC)))
 refine Kr ?_ rfl ⟨rfl, ?_⟩
 ·simp [results, Tryz.results173, go_sem, hC]
 ·repeat' (with_reducible first | exact hS.ex | exact Ex.refl _ | assumption | apply Ex.alloc | apply Ex.drewN | apply Ex.drew | refine Ex.setCell ?_ (by simp <;> omega) _)
theorem Pm (p q : Int) (w : World) : Calls Tryz.prog 107 #[.int .i64 p, .int .i64 q] w (fun e w' => e = .returned (Un p q) ∧ Ex w w') := by
 have k1 := fun w => Sx p (-100) 100 w
 have k2 := fun w => Sx q (-100) 100 w
 rcases h1 : Xu p (-100) 100 with _ | _
 ·have e : Xd p q = false := by simp [Xd, h1]
  simp only [Un, e, Bool.false_eq_true, if_false, Fr.none, Fr.v]
  clear e
  rw [h1] at k1
  clear h1
  have K1 := Kw k1
  have K2 := Kw k2
  clear k1 k2
  have hS := Zw.refl w
  have hC := True.intro
  go_enter Tryz.func107, Tryz.ntmps107
  go_wp2_with ((go_at_call 103; (with_reducible refine (K1.out _).mono ?_); rintro e wn ⟨rfl, rfl⟩))
  refine Kr ?_ rfl ⟨rfl, ?_⟩
  ·simp [results, Tryz.results107, go_sem, hC]
  ·repeat' (with_reducible first | exact hS.ex | exact Ex.refl _ | assumption | apply Ex.alloc | apply Ex.drewN | apply Ex.drew | refine Ex.setCell ?_ (by simp <;> omega) _)
 ·rcases h2 : Xu q (-100) 100 with _ | _
  ·have e : Xd p q = false := by simp [Xd, h1, h2]
   simp only [Un, e, Bool.false_eq_true, if_false, Fr.none, Fr.v]
   clear e
   rw [h1] at k1
   rw [h2] at k2
   clear h1 h2
   have K1 := Kw k1
   have K2 := Kw k2
   clear k1 k2
   have hS := Zw.refl w
   have hC := True.intro
   go_enter Tryz.func107, Tryz.ntmps107
   go_wp2_with ((go_at_call 103; (first | (with_reducible refine (K1.out _).mono ?_) | (with_reducible refine (K2.out _).mono ?_)); rintro e wn ⟨rfl, rfl⟩))
   refine Kr ?_ rfl ⟨rfl, ?_⟩
   ·simp [results, Tryz.results107, go_sem, hC]
   ·repeat' (with_reducible first | exact hS.ex | exact Ex.refl _ | assumption | apply Ex.alloc | apply Ex.drewN | apply Ex.drew | refine Ex.setCell ?_ (by simp <;> omega) _)
  ·rcases h3 : (decide (p = 0) && decide (q = 0)) with _ | _
   ·have e : Xd p q = true := by unfold Xd; rw [h1, h2, h3]; rfl
    have hn := dir_pos h3
    obtain ⟨b1, b2, b3⟩ := dir_bd h1 h2
    have hp := Xt h1
    have hq := Xt h2
    have e4 : 2 * p * q = 2 * (p * q) := Int.mul_assoc _ _ _
    have k3 := fun w => Th (p * p - q * q) 0 (p * p + q * q) w (by omega) (by omega) (by omega)
    have k4 := fun w => Th (2 * p * q) 0 (p * p + q * q) w (by rw [e4]; omega) (by omega) (by omega)
    simp only [Un, e, if_true, Vx, Vw]
    have m4 : -20000 ≤ 2 * p * q ∧ 2 * p * q ≤ 20000 := by rw [e4]; omega
    have hne : (decide (p = 0) && decide (q = 0)) = false := h3
    rw [h1] at k1
    rw [h2] at k2
    clear e e4 h1 h2 h3
    generalize flow (p * p - q * q) 0 (p * p + q * q) = c at *
    generalize flow (2 * p * q) 0 (p * p + q * q) = s at *
    obtain ⟨⟨c1, c2, c3⟩, ck⟩ := c
    obtain ⟨⟨s1, s2, s3⟩, sk⟩ := s
    simp only [frv, Fr.v] at k3 k4 ⊢
    by_cases hp0 : p = 0
    ·subst hp0
     have hq0 : (q == 0) = false := by simpa using hne
     clear hne
     have ex3 : (2 : Int) * 0 * q = 0 := by simp
     rw [ex3] at k4
     have ex1 : (0 : Int) * 0 = 0 := rfl
     rw [ex1] at k3 k4
     simp only [Int.zero_add, Int.zero_sub] at k3 k4
     clear ex1 ex3 m4 b1 b3
     generalize ex2 : q * q = x2 at *
     have K1 := Kw k1
     have K2 := Kw k2
     have K3 := Kw k3
     have K4 := Kw k4
     clear k1 k2 k3 k4
     have hS := Zw.refl w
     have hC := True.intro
     go_enter Tryz.func107, Tryz.ntmps107
     go_wp2_with ((first | (go_at_call 103; (first | (with_reducible refine (K1.out _).mono ?_) | (with_reducible refine (K2.out _).mono ?_)); rintro e wn ⟨rfl, rfl⟩) | (go_at_call 173; (first | (with_reducible refine (K3.out _).mono ?_) | (with_reducible refine (K4.out _).mono ?_)); rintro e wn ⟨rfl, hx⟩; replace hS := Zw.after (W := w) hx; clear hx; replace hC := hS.reads; simp only [Zz, Zy, Kv] at hC)))
     go_region
     all_goals
      go_wp2
      refine Kr ?_ rfl ⟨rfl, ?_⟩
      ·simp [results, Tryz.results107, go_sem, hC]
      ·repeat' (with_reducible first | exact hS.ex | exact Ex.refl _ | assumption | apply Ex.alloc | apply Ex.drewN | apply Ex.drew | refine Ex.setCell ?_ (by simp <;> omega) _)
    ·have hp1 : (p == 0) = false := by simpa using hp0
     clear hne hp0
     generalize ex1 : p * p = x1 at *
     generalize ex2 : q * q = x2 at *
     generalize ex3 : 2 * p * q = x3 at *
     clear b3
     have K1 := Kw k1
     have K2 := Kw k2
     have K3 := Kw k3
     have K4 := Kw k4
     clear k1 k2 k3 k4
     have hS := Zw.refl w
     have hC := True.intro
     go_enter Tryz.func107, Tryz.ntmps107
     go_wp2_with ((first | (go_at_call 103; (first | (with_reducible refine (K1.out _).mono ?_) | (with_reducible refine (K2.out _).mono ?_)); rintro e wn ⟨rfl, rfl⟩) | (go_at_call 173; (first | (with_reducible refine (K3.out _).mono ?_) | (with_reducible refine (K4.out _).mono ?_)); rintro e wn ⟨rfl, hx⟩; replace hS := Zw.after (W := w) hx; clear hx; replace hC := hS.reads; simp only [Zz, Zy, Kv] at hC)))
     go_region
     all_goals
      go_wp2
      refine Kr ?_ rfl ⟨rfl, ?_⟩
      ·simp [results, Tryz.results107, go_sem, hC]
      ·repeat' (with_reducible first | exact hS.ex | exact Ex.refl _ | assumption | apply Ex.alloc | apply Ex.drewN | apply Ex.drew | refine Ex.setCell ?_ (by simp <;> omega) _)
   ·have e : Xd p q = false := by simp [Xd, h1, h2, h3]
    simp only [Un, e, Bool.false_eq_true, if_false, Fr.none, Fr.v]
    clear e
    rw [h1] at k1
    rw [h2] at k2
    rw [Bool.and_eq_true] at h3
    obtain ⟨h3, h4⟩ := h3
    have hp : p = 0 := of_decide_eq_true h3
    have hq : q = 0 := of_decide_eq_true h4
    subst hp hq
    clear h1 h2 h3 h4
    have K1 := Kw k1
    have K2 := Kw k2
    clear k1 k2
    have hS := Zw.refl w
    have hC := True.intro
    go_enter Tryz.func107, Tryz.ntmps107
    go_wp2_with ((go_at_call 103; (first | (with_reducible refine (K1.out _).mono ?_) | (with_reducible refine (K2.out _).mono ?_)); rintro e wn ⟨rfl, rfl⟩))
    refine Kr ?_ rfl ⟨rfl, ?_⟩
    ·simp [results, Tryz.results107, go_sem, hC]
    ·repeat' (with_reducible first | exact hS.ex | exact Ex.refl _ | assumption | apply Ex.alloc | apply Ex.drewN | apply Ex.drew | refine Ex.setCell ?_ (by simp <;> omega) _)
theorem Uv (p q : Int) (w : World) : Calls Tryz.prog 94 #[.int .i64 p, .int .i64 q] w (fun e w' => e = .returned (Un p q) ∧ Ex w w') := by
 have k1 := fun w => Yf p (-100) 100 w
 have k2 := fun w => Yf q (-100) 100 w
 rcases h1 : Xu p (-100) 100 with _ | _
 ·have e : Xd p q = false := by simp [Xd, h1]
  simp only [Un, e, Bool.false_eq_true, if_false, Fr.none, Fr.v]
  clear e
  rw [h1] at k1
  clear h1
  have K1 := Kw k1
  have K2 := Kw k2
  clear k1 k2
  have hS := Zw.refl w
  have hC := True.intro
  go_enter Tryz.func94, Tryz.ntmps94
  go_wp2_with ((go_at_call 71; (with_reducible refine (K1.out _).mono ?_); rintro e wn ⟨rfl, rfl⟩))
  refine Kr ?_ rfl ⟨rfl, ?_⟩
  ·simp [results, Tryz.results94, go_sem, hC]
  ·repeat' (with_reducible first | exact hS.ex | exact Ex.refl _ | assumption | apply Ex.alloc | apply Ex.drewN | apply Ex.drew | refine Ex.setCell ?_ (by simp <;> omega) _)
 ·rcases h2 : Xu q (-100) 100 with _ | _
  ·have e : Xd p q = false := by simp [Xd, h1, h2]
   simp only [Un, e, Bool.false_eq_true, if_false, Fr.none, Fr.v]
   clear e
   rw [h1] at k1
   rw [h2] at k2
   clear h1 h2
   have K1 := Kw k1
   have K2 := Kw k2
   clear k1 k2
   have hS := Zw.refl w
   have hC := True.intro
   go_enter Tryz.func94, Tryz.ntmps94
   go_wp2_with ((go_at_call 71; (first | (with_reducible refine (K1.out _).mono ?_) | (with_reducible refine (K2.out _).mono ?_)); rintro e wn ⟨rfl, rfl⟩))
   refine Kr ?_ rfl ⟨rfl, ?_⟩
   ·simp [results, Tryz.results94, go_sem, hC]
   ·repeat' (with_reducible first | exact hS.ex | exact Ex.refl _ | assumption | apply Ex.alloc | apply Ex.drewN | apply Ex.drew | refine Ex.setCell ?_ (by simp <;> omega) _)
  ·rcases h3 : (decide (p = 0) && decide (q = 0)) with _ | _
   ·have e : Xd p q = true := by unfold Xd; rw [h1, h2, h3]; rfl
    have hn := dir_pos h3
    obtain ⟨b1, b2, b3⟩ := dir_bd h1 h2
    have hp := Xt h1
    have hq := Xt h2
    have e4 : 2 * p * q = 2 * (p * q) := Int.mul_assoc _ _ _
    have k3 := fun w => Yh.opn (Wp (p * p - q * q) 0 (p * p + q * q) w (by omega) (by omega) (by omega))
    have k4 := fun w => Yh.opn (Wp (2 * p * q) 0 (p * p + q * q) w (by rw [e4]; omega) (by omega) (by omega))
    simp only [Un, e, if_true, Vx, Vw]
    have m4 : -20000 ≤ 2 * p * q ∧ 2 * p * q ≤ 20000 := by rw [e4]; omega
    have hne : (decide (p = 0) && decide (q = 0)) = false := h3
    rw [h1] at k1
    rw [h2] at k2
    clear e e4 h1 h2 h3
    generalize flow (p * p - q * q) 0 (p * p + q * q) = c at *
    generalize flow (2 * p * q) 0 (p * p + q * q) = s at *
    obtain ⟨⟨c1, c2, c3⟩, ck⟩ := c
    obtain ⟨⟨s1, s2, s3⟩, sk⟩ := s
    simp only [frv, Fr.v] at k3 k4 ⊢
    by_cases hp0 : p = 0
    ·subst hp0
     have hq0 : (q == 0) = false := by simpa using hne
     clear hne
     have ex3 : (2 : Int) * 0 * q = 0 := by simp
     rw [ex3] at k4
     have ex1 : (0 : Int) * 0 = 0 := rfl
     rw [ex1] at k3 k4
     simp only [Int.zero_add, Int.zero_sub] at k3 k4
     clear ex1 ex3 m4 b1 b3
     generalize ex2 : q * q = x2 at *
     have K1 := Kw k1
     have K2 := Kw k2
     have K3 := Kw k3
     have K4 := Kw k4
     clear k1 k2 k3 k4
     have hS := Zw.refl w
     have hC := True.intro
     go_enter Tryz.func94, Tryz.ntmps94
     go_wp2_with ((first | (go_at_call 71; (first | (with_reducible refine (K1.out _).mono ?_) | (with_reducible refine (K2.out _).mono ?_)); rintro e wn ⟨rfl, rfl⟩) | (go_at_call 121; (first | (with_reducible refine (K3.out _).mono ?_) | (with_reducible refine (K4.out _).mono ?_)); rintro e wn ⟨rfl, hx⟩; replace hS := Zw.after (W := w) hx; clear hx; replace hC := hS.reads; simp only [Zz, Zy, Kv] at hC)))
     go_region
     all_goals
      go_wp2
      refine Kr ?_ rfl ⟨rfl, ?_⟩
      ·simp [results, Tryz.results94, go_sem, hC]
      ·repeat' (with_reducible first | exact hS.ex | exact Ex.refl _ | assumption | apply Ex.alloc | apply Ex.drewN | apply Ex.drew | refine Ex.setCell ?_ (by simp <;> omega) _)
    ·have hp1 : (p == 0) = false := by simpa using hp0
     clear hne hp0
     generalize ex1 : p * p = x1 at *
     generalize ex2 : q * q = x2 at *
     generalize ex3 : 2 * p * q = x3 at *
     clear b3
     have K1 := Kw k1
     have K2 := Kw k2
     have K3 := Kw k3
     have K4 := Kw k4
     clear k1 k2 k3 k4
     have hS := Zw.refl w
     have hC := True.intro
     go_enter Tryz.func94, Tryz.ntmps94
     go_wp2_with ((first | (go_at_call 71; (first | (with_reducible refine (K1.out _).mono ?_) | (with_reducible refine (K2.out _).mono ?_)); rintro e wn ⟨rfl, rfl⟩) | (go_at_call 121; (first | (with_reducible refine (K3.out _).mono ?_) | (with_reducible refine (K4.out _).mono ?_)); rintro e wn ⟨rfl, hx⟩; replace hS := Zw.after (W := w) hx; clear hx; replace hC := hS.reads; simp only [Zz, Zy, Kv] at hC)))
     go_region
     all_goals
      go_wp2
      refine Kr ?_ rfl ⟨rfl, ?_⟩
      ·simp [results, Tryz.results94, go_sem, hC]
      ·repeat' (with_reducible first | exact hS.ex | exact Ex.refl _ | assumption | apply Ex.alloc | apply Ex.drewN | apply Ex.drew | refine Ex.setCell ?_ (by simp <;> omega) _)
   ·have e : Xd p q = false := by simp [Xd, h1, h2, h3]
    simp only [Un, e, Bool.false_eq_true, if_false, Fr.none, Fr.v]
    clear e
    rw [h1] at k1
    rw [h2] at k2
    rw [Bool.and_eq_true] at h3
    obtain ⟨h3, h4⟩ := h3
    have hp : p = 0 := of_decide_eq_true h3
    have hq : q = 0 := of_decide_eq_true h4
    subst hp hq
    clear h1 h2 h3 h4
    have K1 := Kw k1
    have K2 := Kw k2
    clear k1 k2
    have hS := Zw.refl w
    have hC := True.intro
    go_enter Tryz.func94, Tryz.ntmps94
    go_wp2_with ((go_at_call 71; (first | (with_reducible refine (K1.out _).mono ?_) | (with_reducible refine (K2.out _).mono ?_)); rintro e wn ⟨rfl, rfl⟩))
    refine Kr ?_ rfl ⟨rfl, ?_⟩
    ·simp [results, Tryz.results94, go_sem, hC]
    ·repeat' (with_reducible first | exact hS.ex | exact Ex.refl _ | assumption | apply Ex.alloc | apply Ex.drewN | apply Ex.drew | refine Ex.setCell ?_ (by simp <;> omega) _)
end
end Go.Proofs.YtiommfmaleeibaaGreatDoor
