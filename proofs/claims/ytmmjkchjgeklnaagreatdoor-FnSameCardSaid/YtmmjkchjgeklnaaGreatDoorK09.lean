/-
  Proved: what functions compute, part 9. No condition.
-/
import Derived.Test.YtmmjkchjgeklnaaGreatDoorK08
import Derived.RegionTactic
import Derived.ChangeAlike
import Derived.Test.YtmmjkchjgeklnaaGreatDoorK06
set_option linter.unusedSimpArgs false
set_option linter.unusedVariables false
set_option maxRecDepth 20000
set_option maxHeartbeats 8000000
namespace Go.Proofs.YtmmjkchjgeklnaaGreatDoor
section
open Go.RowKit

theorem dir_bd {p q : Int} (h1 : Xs p (-100) 100 = true) (h2 : Xs q (-100) 100 = true) : (0 ≤ p * p ∧ p * p ≤ 10000) ∧ (0 ≤ q * q ∧ q * q ≤ 10000) ∧ (-10000 ≤ p * q ∧ p * q ≤ 10000) := by
 have hp := Xz h1
 have hq := Xz h2
 have bd : ∀ x y : Int, -100 ≤ x → x ≤ 100 → -100 ≤ y → y ≤ 100 → -10000 ≤ x * y ∧ x * y ≤ 10000 := by
  intro x y h1 h2 h3 h4
  have : (x * y).natAbs ≤ 100 * 100 := by
   rw [Int.natAbs_mul]
   exact Nat.mul_le_mul (by omega) (by omega)
  omega
 exact ⟨⟨Wp _, (bd p p hp.1 hp.2 hp.1 hp.2).2⟩, ⟨Wp _, (bd q q hq.1 hq.2 hq.1 hq.2).2⟩, bd p q hp.1 hp.2 hq.1 hq.2⟩
theorem dir_pos {p q : Int} (h : (decide (p = 0) && decide (q = 0)) = false) : 1 ≤ p * p + q * q := by
 have s1 := Wp p
 have s2 := Wp q
 rw [Bool.and_eq_false_iff] at h
 rcases h with h | h
 ·have := Int.mul_ne_zero (show p ≠ 0 by simpa using h) (show p ≠ 0 by simpa using h)
  omega
 ·have := Int.mul_ne_zero (show q ≠ 0 by simpa using h) (show q ≠ 0 by simpa using h)
  omega
def Tu (p q : Int) : Value := if Xa p q then .tuple #[(Vs p q).v, (Vr p q).v, .bool true] else .tuple #[Fr.none.v, Fr.none.v, .bool false]
theorem Sa (re im den : Int) (w : World) (h1 : -1000000000000000000 ≤ re ∧ re ≤ 1000000000000000000) (h2 : -1000000000000000000 ≤ im ∧ im ≤ 1000000000000000000) (h3 : 1 ≤ den ∧ den ≤ 1000000000000000000) : Calls Tryz.prog 139 #[.int .i64 re, .int .i64 im, .int .i64 den] w (fun e w' => e = .returned (frv (flow re im den)) ∧ Ex w w') := by
 have k1 := fun w => Vp den 1 1000000000000000000 w
 have k2 := fun w => Vp re (-1000000000000000000) 1000000000000000000 w
 have k3 := fun w => Vp im (-1000000000000000000) 1000000000000000000 w
 have e1 : Xs den 1 1000000000000000000 = true := by simp [Xs]; omega
 have e2 : Xs re (-1000000000000000000) 1000000000000000000 = true := by simp [Xs]; omega
 have e3 : Xs im (-1000000000000000000) 1000000000000000000 = true := by simp [Xs]; omega
 rw [e1] at k1
 rw [e2] at k2
 rw [e3] at k3
 have k4 := fun w => Yu.opn (Sc re im den w (by omega) (by omega) (by omega))
 generalize flow re im den = r at k4 ⊢
 obtain ⟨⟨r1, r2, r3⟩, rk⟩ := r
 simp only [frv, Fr.v] at k4 ⊢
 clear e1 e2 e3
 have K1 := Gv k1
 have K2 := Gv k2
 have K3 := Gv k3
 have K4 := Gv k4
 clear k1 k2 k3 k4
 have hS := Zw.refl w
 have hC := True.intro
 go_enter Tryz.func139, Tryz.ntmps139
 go_wp2_with ((first | (go_at_call 135; (first | (with_reducible refine (K1.out _).mono ?_) | (with_reducible refine (K2.out _).mono ?_) | (with_reducible refine (K3.out _).mono ?_)); rintro e wn ⟨rfl, rfl⟩) | (go_at_call 95; (with_reducible refine (K4.out _).mono ?_); rintro e wn ⟨rfl, hx⟩; replace hS := Zw.after (W := w) hx; clear hx; replace hC := hS.reads; simp only [Zz, Zy, Gu] at hC)))
 refine Gq ?_ rfl ⟨rfl, ?_⟩
 ·simp [results, Tryz.results139, go_sem, hC]
 ·repeat' (with_reducible first | exact hS.ex | exact Ex.refl _ | assumption | apply Ex.alloc | apply Ex.drewN | apply Ex.drew | refine Ex.setCell ?_ (by simp <;> omega) _)
theorem Sl (p q : Int) (w : World) : Calls Tryz.prog 134 #[.int .i64 p, .int .i64 q] w (fun e w' => e = .returned (Tu p q) ∧ Ex w w') := by
 have k1 := fun w => Vp p (-100) 100 w
 have k2 := fun w => Vp q (-100) 100 w
 rcases h1 : Xs p (-100) 100 with _ | _
 ·have e : Xa p q = false := by simp [Xa, h1]
  simp only [Tu, e, Bool.false_eq_true, if_false, Fr.none, Fr.v]
  clear e
  rw [h1] at k1
  clear h1
  have K1 := Gv k1
  have K2 := Gv k2
  clear k1 k2
  have hS := Zw.refl w
  have hC := True.intro
  go_enter Tryz.func134, Tryz.ntmps134
  go_wp2_with ((go_at_call 135; (with_reducible refine (K1.out _).mono ?_); rintro e wn ⟨rfl, rfl⟩))
  refine Gq ?_ rfl ⟨rfl, ?_⟩
  ·simp [results, Tryz.results134, go_sem, hC]
  ·repeat' (with_reducible first | exact hS.ex | exact Ex.refl _ | assumption | apply Ex.alloc | apply Ex.drewN | apply Ex.drew | refine Ex.setCell ?_ (by simp <;> omega) _)
 ·rcases h2 : Xs q (-100) 100 with _ | _
  ·have e : Xa p q = false := by simp [Xa, h1, h2]
   simp only [Tu, e, Bool.false_eq_true, if_false, Fr.none, Fr.v]
   clear e
   rw [h1] at k1
   rw [h2] at k2
   clear h1 h2
   have K1 := Gv k1
   have K2 := Gv k2
   clear k1 k2
   have hS := Zw.refl w
   have hC := True.intro
   go_enter Tryz.func134, Tryz.ntmps134
   go_wp2_with ((go_at_call 135; (first | (with_reducible refine (K1.out _).mono ?_) | (with_reducible refine (K2.out _).mono ?_)); rintro e wn ⟨rfl, rfl⟩))
   refine Gq ?_ rfl ⟨rfl, ?_⟩
   ·simp [results, Tryz.results134, go_sem, hC]
   ·repeat' (with_reducible first | exact hS.ex | exact Ex.refl _ | assumption | apply Ex.alloc | apply Ex.drewN | apply Ex.drew | refine Ex.setCell ?_ (by simp <;> omega) _)
  ·rcases h3 : (decide (p = 0) && decide (q = 0)) with _ | _
   ·have e : Xa p q = true := by unfold Xa; rw [h1, h2, h3]; rfl
    have hn := dir_pos h3
    obtain ⟨b1, b2, b3⟩ := dir_bd h1 h2
    have hp := Xz h1
    have hq := Xz h2
    have e4 : 2 * p * q = 2 * (p * q) := Int.mul_assoc _ _ _
    have k3 := fun w => Sa (p * p - q * q) 0 (p * p + q * q) w (by omega) (by omega) (by omega)
    have k4 := fun w => Sa (2 * p * q) 0 (p * p + q * q) w (by rw [e4]; omega) (by omega) (by omega)
    simp only [Tu, e, if_true, Vs, Vr]
    have m4 : -20000 ≤ 2 * p * q ∧ 2 * p * q ≤ 20000 := by rw [e4]; omega
    have hne : (decide (p = 0) && decide (q = 0)) = false := h3
    rw [h1] at k1
    rw [h2] at k2
    clear e e4 h1 h2 h3
    generalize flow (p * p - q * q) 0 (p * p + q * q) = c at *
    generalize flow (2 * p * q) 0 (p * p + q * q) = s at *
    obtain ⟨⟨c1, c2, c3⟩, ck⟩ := c
    obtain ⟨⟨s1, s2, s3⟩, sk⟩ := s
    simp only [frv, Fr.v] at k3 k4 ⊢
    by_cases hp0 : p = 0
    ·subst hp0
     have hq0 : (q == 0) = false := by simpa using hne
     clear hne
     have ex3 : (2 : Int) * 0 * q = 0 := by simp
     rw [ex3] at k4
     have ex1 : (0 : Int) * 0 = 0 := rfl
     rw [ex1] at k3 k4
     simp only [Int.zero_add, Int.zero_sub] at k3 k4
     clear ex1 ex3 m4 b1 b3
     generalize ex2 : q * q = x2 at *
     have K1 := Gv k1
     have K2 := Gv k2
     have K3 := Gv k3
     have K4 := Gv k4
     clear k1 k2 k3 k4
     have hS := Zw.refl w
     have hC := True.intro
     go_enter Tryz.func134, Tryz.ntmps134
     go_wp2_with ((first | (go_at_call 135; (first | (with_reducible refine (K1.out _).mono ?_) | (with_reducible refine (K2.out _).mono ?_)); rintro e wn ⟨rfl, rfl⟩) | (go_at_call 139; (first | (with_reducible refine (K3.out _).mono ?_) | (with_reducible refine (K4.out _).mono ?_)); rintro e wn ⟨rfl, hx⟩; replace hS := Zw.after (W := w) hx; clear hx; replace hC := hS.reads; simp only [Zz, Zy, Gu] at hC)))
     go_region
     all_goals
      go_wp2
      refine Gq ?_ rfl ⟨rfl, ?_⟩
      ·simp [results, Tryz.results134, go_sem, hC]
      ·repeat' (with_reducible first | exact hS.ex | exact Ex.refl _ | assumption | apply Ex.alloc | apply Ex.drewN | apply Ex.drew | refine Ex.setCell ?_ (by simp <;> omega) _)
    ·have hp1 : (p == 0) = false := by simpa using hp0
     clear hne hp0
     generalize ex1 : p * p = x1 at *
     generalize ex2 : q * q = x2 at *
     generalize ex3 : 2 * p * q = x3 at *
     clear b3
     have K1 := Gv k1
     have K2 := Gv k2
     have K3 := Gv k3
     have K4 := Gv k4
     clear k1 k2 k3 k4
     have hS := Zw.refl w
     have hC := True.intro
     go_enter Tryz.func134, Tryz.ntmps134
     go_wp2_with ((first | (go_at_call 135; (first | (with_reducible refine (K1.out _).mono ?_) | (with_reducible refine (K2.out _).mono ?_)); rintro e wn ⟨rfl, rfl⟩) | (go_at_call 139; (first | (with_reducible refine (K3.out _).mono ?_) | (with_reducible refine (K4.out _).mono ?_)); rintro e wn ⟨rfl, hx⟩; replace hS := Zw.after (W := w) hx; clear hx; replace hC := hS.reads; simp only [Zz, Zy, Gu] at hC)))
     go_region
     all_goals
      go_wp2
      refine Gq ?_ rfl ⟨rfl, ?_⟩
      ·simp [results, Tryz.results134, go_sem, hC]
      ·repeat' (with_reducible first | exact hS.ex | exact Ex.refl _ | assumption | apply Ex.alloc | apply Ex.drewN | apply Ex.drew | refine Ex.setCell ?_ (by simp <;> omega) _)
   ·have e : Xa p q = false := by simp [Xa, h1, h2, h3]
    simp only [Tu, e, Bool.false_eq_true, if_false, Fr.none, Fr.v]
    clear e
    rw [h1] at k1
    rw [h2] at k2
    rw [Bool.and_eq_true] at h3
    obtain ⟨h3, h4⟩ := h3
    have hp : p = 0 := of_decide_eq_true h3
    have hq : q = 0 := of_decide_eq_true h4
    subst hp hq
    clear h1 h2 h3 h4
    have K1 := Gv k1
    have K2 := Gv k2
    clear k1 k2
    have hS := Zw.refl w
    have hC := True.intro
    go_enter Tryz.func134, Tryz.ntmps134
    go_wp2_with ((go_at_call 135; (first | (with_reducible refine (K1.out _).mono ?_) | (with_reducible refine (K2.out _).mono ?_)); rintro e wn ⟨rfl, rfl⟩))
    refine Gq ?_ rfl ⟨rfl, ?_⟩
    ·simp [results, Tryz.results134, go_sem, hC]
    ·repeat' (with_reducible first | exact hS.ex | exact Ex.refl _ | assumption | apply Ex.alloc | apply Ex.drewN | apply Ex.drew | refine Ex.setCell ?_ (by simp <;> omega) _)
theorem Th (p q : Int) (w : World) : Calls Tryz.prog 105 #[.int .i64 p, .int .i64 q] w (fun e w' => e = .returned (Tu p q) ∧ Ex w w') := by
 have k1 := fun w => Xu p (-100) 100 w
 have k2 := fun w => Xu q (-100) 100 w
 rcases h1 : Xs p (-100) 100 with _ | _
 ·have e : Xa p q = false := by simp [Xa, h1]
  simp only [Tu, e, Bool.false_eq_true, if_false, Fr.none, Fr.v]
  clear e
  rw [h1] at k1
  clear h1
  have K1 := Gv k1
  have K2 := Gv k2
  clear k1 k2
  have hS := Zw.refl w
  have hC := True.intro
  go_enter Tryz.func105, Tryz.ntmps105
  go_wp2_with ((go_at_call 106; (with_reducible refine (K1.out _).mono ?_); rintro e wn ⟨rfl, rfl⟩))
  refine Gq ?_ rfl ⟨rfl, ?_⟩
  ·simp [results, Tryz.results105, go_sem, hC]
  ·repeat' (with_reducible first | exact hS.ex | exact Ex.refl _ | assumption | apply Ex.alloc | apply Ex.drewN | apply Ex.drew | refine Ex.setCell ?_ (by simp <;> omega) _)
 ·rcases h2 : Xs q (-100) 100 with _ | _
  ·have e : Xa p q = false := by simp [Xa, h1, h2]
   simp only [Tu, e, Bool.false_eq_true, if_false, Fr.none, Fr.v]
   clear e
   rw [h1] at k1
   rw [h2] at k2
   clear h1 h2
   have K1 := Gv k1
   have K2 := Gv k2
   clear k1 k2
   have hS := Zw.refl w
   have hC := True.intro
   go_enter Tryz.func105, Tryz.ntmps105
   go_wp2_with ((go_at_call 106; (first | (with_reducible refine (K1.out _).mono ?_) | (with_reducible refine (K2.out _).mono ?_)); rintro e wn ⟨rfl, rfl⟩))
   refine Gq ?_ rfl ⟨rfl, ?_⟩
   ·simp [results, Tryz.results105, go_sem, hC]
   ·repeat' (with_reducible first | exact hS.ex | exact Ex.refl _ | assumption | apply Ex.alloc | apply Ex.drewN | apply Ex.drew | refine Ex.setCell ?_ (by simp <;> omega) _)
  ·rcases h3 : (decide (p = 0) && decide (q = 0)) with _ | _
   ·have e : Xa p q = true := by unfold Xa; rw [h1, h2, h3]; rfl
    have hn := dir_pos h3
    obtain ⟨b1, b2, b3⟩ := dir_bd h1 h2
    have hp := Xz h1
    have hq := Xz h2
    have e4 : 2 * p * q = 2 * (p * q) := Int.mul_assoc _ _ _
    have k3 := fun w => Yu.opn (Wh (p * p - q * q) 0 (p * p + q * q) w (by omega) (by omega) (by omega))
    have k4 := fun w => Yu.opn (Wh (2 * p * q) 0 (p * p + q * q) w (by rw [e4]; omega) (by omega) (by omega))
    simp only [Tu, e, if_true, Vs, Vr]
    have m4 : -20000 ≤ 2 * p * q ∧ 2 * p * q ≤ 20000 := by rw [e4]; omega
    have hne : (decide (p = 0) && decide (q = 0)) = false := h3
    rw [h1] at k1
    rw [h2] at k2
    clear e e4 h1 h2 h3
    generalize flow (p * p - q * q) 0 (p * p + q * q) = c at *
    generalize flow (2 * p * q) 0 (p * p + q * q) = s at *
    obtain ⟨⟨c1, c2, c3⟩, ck⟩ := c
    obtain ⟨⟨s1, s2, s3⟩, sk⟩ := s
    simp only [frv, Fr.v] at k3 k4 ⊢
    by_cases hp0 : p = 0
    ·subst hp0
     have hq0 : (q == 0) = false := by simpa using hne
     clear hne
     have ex3 : (2 : Int) * 0 * q = 0 := by simp
     rw [ex3] at k4
     have ex1 : (0 : Int) * 0 = 0 := rfl
     rw [ex1] at k3 k4
     simp only [Int.zero_add, Int.zero_sub] at k3 k4
     clear ex1 ex3 m4 b1 b3
     generalize ex2 : q * q = x2 at *
     have K1 := Gv k1
     have K2 := Gv k2
     have K3 := Gv k3
     have K4 := Gv k4
     clear k1 k2 k3 k4
     have hS := Zw.refl w
     have hC := True.intro
     go_enter Tryz.func105, Tryz.ntmps105
     go_wp2_with ((first | (go_at_call 106; (first | (with_reducible refine (K1.out _).mono ?_) | (with_reducible refine (K2.out _).mono ?_)); rintro e wn ⟨rfl, rfl⟩) | (go_at_call 108; (first | (with_reducible refine (K3.out _).mono ?_) | (with_reducible refine (K4.out _).mono ?_)); rintro e wn ⟨rfl, hx⟩; replace hS := Zw.after (W := w) hx; clear hx; replace hC := hS.reads; simp only [Zz, Zy, Gu] at hC)))
     go_region
     all_goals
      go_wp2
      refine Gq ?_ rfl ⟨rfl, ?_⟩
      ·simp [results, Tryz.results105, go_sem, hC]
      ·repeat' (with_reducible first | exact hS.ex | exact Ex.refl _ | assumption | apply Ex.alloc | apply Ex.drewN | apply Ex.drew | refine Ex.setCell ?_ (by simp <;> omega) _)
    ·have hp1 : (p == 0) = false := by simpa using hp0
     clear hne hp0
     generalize ex1 : p * p = x1 at *
     generalize ex2 : q * q = x2 at *
     generalize ex3 : 2 * p * q = x3 at *
     clear b3
     have K1 := Gv k1
     have K2 := Gv k2
     have K3 := Gv k3
     have K4 := Gv k4
     clear k1 k2 k3 k4
     have hS := Zw.refl w
     have hC := True.intro
     go_enter Tryz.func105, Tryz.ntmps105
     go_wp2_with ((first | (go_at_call 106; (first | (with_reducible refine (K1.out _).mono ?_) | (with_reducible refine (K2.out _).mono ?_)); rintro e wn ⟨rfl, rfl⟩) | (go_at_call 108; (first | (with_reducible refine (K3.out _).mono ?_) | (with_reducible refine (K4.out _).mono ?_)); rintro e wn ⟨rfl, hx⟩; replace hS := Zw.after (W := w) hx; clear hx; replace hC := hS.reads; simp only [Zz, Zy, Gu] at hC)))
     go_region
     all_goals
      go_wp2
      refine Gq ?_ rfl ⟨rfl, ?_⟩
      ·simp [results, Tryz.results105, go_sem, hC]
      ·repeat' (with_reducible first | exact hS.ex | exact Ex.refl _ | assumption | apply Ex.alloc | apply Ex.drewN | apply Ex.drew | refine Ex.setCell ?_ (by simp <;> omega) _)
   ·have e : Xa p q = false := by simp [Xa, h1, h2, h3]
    simp only [Tu, e, Bool.false_eq_true, if_false, Fr.none, Fr.v]
    clear e
    rw [h1] at k1
    rw [h2] at k2
    rw [Bool.and_eq_true] at h3
    obtain ⟨h3, h4⟩ := h3
    have hp : p = 0 := of_decide_eq_true h3
    have hq : q = 0 := of_decide_eq_true h4
    subst hp hq
    clear h1 h2 h3 h4
    have K1 := Gv k1
    have K2 := Gv k2
    clear k1 k2
    have hS := Zw.refl w
    have hC := True.intro
    go_enter Tryz.func105, Tryz.ntmps105
    go_wp2_with ((go_at_call 106; (first | (with_reducible refine (K1.out _).mono ?_) | (with_reducible refine (K2.out _).mono ?_)); rintro e wn ⟨rfl, rfl⟩))
    refine Gq ?_ rfl ⟨rfl, ?_⟩
    ·simp [results, Tryz.results105, go_sem, hC]
    ·repeat' (with_reducible first | exact hS.ex | exact Ex.refl _ | assumption | apply Ex.alloc | apply Ex.drewN | apply Ex.drew | refine Ex.setCell ?_ (by simp <;> omega) _)
end
section
open Go.RowKit

attribute [local go_sem] Zk Zj
def Vm (a : Fr) (over : Int) (im : Bool) : Fr × Bool := flow (if im then a.im else a.re) 0 (max 1 a.den * over)
theorem l6tPair_any (bs : Nat) (ok : Bool) (a b : Fr) (w : World) (hb : Box w bs 144 #[.bool ok]) :
  Calls Tryz.prog 168 #[.pointer (some ⟨bs, 0, none⟩), a.v, b.v] w (Wy bs ok w (Zg a b)) := by
 have k1 := fun w => Yu.opn (Uu b w)
 have ho : ∀ x : Bool, (x && (Ys b).2 && (Zg a b).2) = (x && (Zg a b).2) := fun x => by
  have h := fpair_or a b (!x)
  revert h
  cases x <;> cases (Ys b).2 <;> cases (Zg a b).2 <;> simp
 unfold Zg at ho ⊢
 have k2 := fun w => Yu.opn (Xd a (Ys b).1 w)
 rcases hm : Ys b with ⟨⟨m1, m2, m3⟩, mk⟩
 rw [hm] at k1 k2 ho
 simp only at k1 k2 ho ⊢
 rcases ht : Zs a ⟨m1, m2, m3⟩ with ⟨⟨t1, t2, t3⟩, tk⟩
 rw [ht] at k2 ho
 simp only at ho
 obtain ⟨a1, a2, a3⟩ := a
 obtain ⟨b1, b2, b3⟩ := b
 unfold Wy
 simp only [frv, Fr.v] at k1 k2 ⊢
 rw [← ho]
 clear ho hm ht
 have K1 := Gv k1
 have K2 := Gv k2
 clear k1 k2
 rcases ok with _ | _
 ·rcases mk with _ | _
  ·rcases tk with _ | _
   ·have hS := Zr.init hb
    have hC := hS.reads
    simp only [Zz, Zy] at hC
    have hbl := hb.lt
    have m2 : w.heap.size ≠ bs := Nat.ne_of_gt hb.lt
    go_enter Tryz.func168, Tryz.ntmps168
    go_wp2_with (first | (go_at_call 99; (with_reducible refine (K1.out _).mono ?_); rintro e wn ⟨rfl, hx⟩; replace hS := Zr.after (W := w) hx; clear hx; (try simp only [Gu] at hS); replace hC := hS.reads; simp only [Zz, Zy] at hC) | (go_at_call 60; (with_reducible refine (K2.out _).mono ?_); rintro e wn ⟨rfl, hx⟩; replace hS := Zr.after (W := w) hx; clear hx; (try simp only [Gu] at hS); replace hC := hS.reads; simp only [Zz, Zy] at hC))
    have hm := hS.sm
    have hs := hS.sum
    have hs2 : Box (World.setCell _ ⟨bs, 0, none⟩ (.bool false)) bs 144 #[.bool false] := hs.set_ 0 (.bool false)
    have hm2 := hm.trans (SmO.set hs 0 (.bool false))
    refine Gq ?_ rfl ⟨rfl, ?_, (show Box _ bs 144 #[.bool false] from ?_)⟩
    ·simp [results, Tryz.results168, go_sem, hC]
    ·repeat' (with_reducible first
      | exact hm2
      | refine SmO.setNew ?_ (by simp <;> omega) _
      | refine SmO.alloc ?_ _)
    ·repeat' (with_reducible first
      | exact hs2
      | refine Box.far ?_ (by simp <;> omega) _
      | refine Box.alloc ?_ _)
   ·have hS := Zr.init hb
    have hC := hS.reads
    simp only [Zz, Zy] at hC
    have hbl := hb.lt
    have m2 : w.heap.size ≠ bs := Nat.ne_of_gt hb.lt
    go_enter Tryz.func168, Tryz.ntmps168
    go_wp2_with (first | (go_at_call 99; (with_reducible refine (K1.out _).mono ?_); rintro e wn ⟨rfl, hx⟩; replace hS := Zr.after (W := w) hx; clear hx; (try simp only [Gu] at hS); replace hC := hS.reads; simp only [Zz, Zy] at hC) | (go_at_call 60; (with_reducible refine (K2.out _).mono ?_); rintro e wn ⟨rfl, hx⟩; replace hS := Zr.after (W := w) hx; clear hx; (try simp only [Gu] at hS); replace hC := hS.reads; simp only [Zz, Zy] at hC))
    have hm := hS.sm
    have hs := hS.sum
    have hs2 : Box (World.setCell _ ⟨bs, 0, none⟩ (.bool false)) bs 144 #[.bool false] := hs.set_ 0 (.bool false)
    have hm2 := hm.trans (SmO.set hs 0 (.bool false))
    refine Gq ?_ rfl ⟨rfl, ?_, (show Box _ bs 144 #[.bool false] from ?_)⟩
    ·simp [results, Tryz.results168, go_sem, hC]
    ·repeat' (with_reducible first
      | exact hm2
      | refine SmO.setNew ?_ (by simp <;> omega) _
      | refine SmO.alloc ?_ _)
    ·repeat' (with_reducible first
      | exact hs2
      | refine Box.far ?_ (by simp <;> omega) _
      | refine Box.alloc ?_ _)
  ·rcases tk with _ | _
   ·have hS := Zr.init hb
    have hC := hS.reads
    simp only [Zz, Zy] at hC
    have hbl := hb.lt
    have m2 : w.heap.size ≠ bs := Nat.ne_of_gt hb.lt
    go_enter Tryz.func168, Tryz.ntmps168
    go_wp2_with (first | (go_at_call 99; (with_reducible refine (K1.out _).mono ?_); rintro e wn ⟨rfl, hx⟩; replace hS := Zr.after (W := w) hx; clear hx; (try simp only [Gu] at hS); replace hC := hS.reads; simp only [Zz, Zy] at hC) | (go_at_call 60; (with_reducible refine (K2.out _).mono ?_); rintro e wn ⟨rfl, hx⟩; replace hS := Zr.after (W := w) hx; clear hx; (try simp only [Gu] at hS); replace hC := hS.reads; simp only [Zz, Zy] at hC))
    have hm := hS.sm
    have hs := hS.sum
    have hs2 : Box (World.setCell _ ⟨bs, 0, none⟩ (.bool false)) bs 144 #[.bool false] := hs.set_ 0 (.bool false)
    have hm2 := hm.trans (SmO.set hs 0 (.bool false))
    refine Gq ?_ rfl ⟨rfl, ?_, (show Box _ bs 144 #[.bool false] from ?_)⟩
    ·simp [results, Tryz.results168, go_sem, hC]
    ·repeat' (with_reducible first
      | exact hm2
      | refine SmO.setNew ?_ (by simp <;> omega) _
      | refine SmO.alloc ?_ _)
    ·repeat' (with_reducible first
      | exact hs2
      | refine Box.far ?_ (by simp <;> omega) _
      | refine Box.alloc ?_ _)
   ·have hS := Zr.init hb
    have hC := hS.reads
    simp only [Zz, Zy] at hC
    have hbl := hb.lt
    have m2 : w.heap.size ≠ bs := Nat.ne_of_gt hb.lt
    go_enter Tryz.func168, Tryz.ntmps168
    go_wp2_with (first | (go_at_call 99; (with_reducible refine (K1.out _).mono ?_); rintro e wn ⟨rfl, hx⟩; replace hS := Zr.after (W := w) hx; clear hx; (try simp only [Gu] at hS); replace hC := hS.reads; simp only [Zz, Zy] at hC) | (go_at_call 60; (with_reducible refine (K2.out _).mono ?_); rintro e wn ⟨rfl, hx⟩; replace hS := Zr.after (W := w) hx; clear hx; (try simp only [Gu] at hS); replace hC := hS.reads; simp only [Zz, Zy] at hC))
    have hm := hS.sm
    have hs := hS.sum
    have hs2 : Box (World.setCell _ ⟨bs, 0, none⟩ (.bool false)) bs 144 #[.bool false] := hs.set_ 0 (.bool false)
    have hm2 := hm.trans (SmO.set hs 0 (.bool false))
    refine Gq ?_ rfl ⟨rfl, ?_, (show Box _ bs 144 #[.bool false] from ?_)⟩
    ·simp [results, Tryz.results168, go_sem, hC]
    ·repeat' (with_reducible first
      | exact hm2
      | refine SmO.setNew ?_ (by simp <;> omega) _
      | refine SmO.alloc ?_ _)
    ·repeat' (with_reducible first
      | exact hs2
      | refine Box.far ?_ (by simp <;> omega) _
      | refine Box.alloc ?_ _)
 ·rcases mk with _ | _
  ·rcases tk with _ | _
   ·have hS := Zr.init hb
    have hC := hS.reads
    simp only [Zz, Zy] at hC
    have hbl := hb.lt
    have m2 : w.heap.size ≠ bs := Nat.ne_of_gt hb.lt
    go_enter Tryz.func168, Tryz.ntmps168
    go_wp2_with (first | (go_at_call 99; (with_reducible refine (K1.out _).mono ?_); rintro e wn ⟨rfl, hx⟩; replace hS := Zr.after (W := w) hx; clear hx; (try simp only [Gu] at hS); replace hC := hS.reads; simp only [Zz, Zy] at hC) | (go_at_call 60; (with_reducible refine (K2.out _).mono ?_); rintro e wn ⟨rfl, hx⟩; replace hS := Zr.after (W := w) hx; clear hx; (try simp only [Gu] at hS); replace hC := hS.reads; simp only [Zz, Zy] at hC))
    have hm := hS.sm
    have hs := hS.sum
    have hs2 : Box (World.setCell _ ⟨bs, 0, none⟩ (.bool false)) bs 144 #[.bool false] := hs.set_ 0 (.bool false)
    have hm2 := hm.trans (SmO.set hs 0 (.bool false))
    refine Gq ?_ rfl ⟨rfl, ?_, (show Box _ bs 144 #[.bool false] from ?_)⟩
    ·simp [results, Tryz.results168, go_sem, hC]
    ·repeat' (with_reducible first
      | exact hm2
      | refine SmO.setNew ?_ (by simp <;> omega) _
      | refine SmO.alloc ?_ _)
    ·repeat' (with_reducible first
      | exact hs2
      | refine Box.far ?_ (by simp <;> omega) _
      | refine Box.alloc ?_ _)
   ·have hS := Zr.init hb
    have hC := hS.reads
    simp only [Zz, Zy] at hC
    have hbl := hb.lt
    have m2 : w.heap.size ≠ bs := Nat.ne_of_gt hb.lt
    go_enter Tryz.func168, Tryz.ntmps168
    go_wp2_with (first | (go_at_call 99; (with_reducible refine (K1.out _).mono ?_); rintro e wn ⟨rfl, hx⟩; replace hS := Zr.after (W := w) hx; clear hx; (try simp only [Gu] at hS); replace hC := hS.reads; simp only [Zz, Zy] at hC) | (go_at_call 60; (with_reducible refine (K2.out _).mono ?_); rintro e wn ⟨rfl, hx⟩; replace hS := Zr.after (W := w) hx; clear hx; (try simp only [Gu] at hS); replace hC := hS.reads; simp only [Zz, Zy] at hC))
    have hm := hS.sm
    have hs := hS.sum
    have hs2 : Box (World.setCell _ ⟨bs, 0, none⟩ (.bool false)) bs 144 #[.bool false] := hs.set_ 0 (.bool false)
    have hm2 := hm.trans (SmO.set hs 0 (.bool false))
    refine Gq ?_ rfl ⟨rfl, ?_, (show Box _ bs 144 #[.bool false] from ?_)⟩
    ·simp [results, Tryz.results168, go_sem, hC]
    ·repeat' (with_reducible first
      | exact hm2
      | refine SmO.setNew ?_ (by simp <;> omega) _
      | refine SmO.alloc ?_ _)
    ·repeat' (with_reducible first
      | exact hs2
      | refine Box.far ?_ (by simp <;> omega) _
      | refine Box.alloc ?_ _)
  ·rcases tk with _ | _
   ·have hS := Zr.init hb
    have hC := hS.reads
    simp only [Zz, Zy] at hC
    have hbl := hb.lt
    have m2 : w.heap.size ≠ bs := Nat.ne_of_gt hb.lt
    go_enter Tryz.func168, Tryz.ntmps168
    go_wp2_with (first | (go_at_call 99; (with_reducible refine (K1.out _).mono ?_); rintro e wn ⟨rfl, hx⟩; replace hS := Zr.after (W := w) hx; clear hx; (try simp only [Gu] at hS); replace hC := hS.reads; simp only [Zz, Zy] at hC) | (go_at_call 60; (with_reducible refine (K2.out _).mono ?_); rintro e wn ⟨rfl, hx⟩; replace hS := Zr.after (W := w) hx; clear hx; (try simp only [Gu] at hS); replace hC := hS.reads; simp only [Zz, Zy] at hC))
    have hm := hS.sm
    have hs := hS.sum
    have hs2 : Box (World.setCell _ ⟨bs, 0, none⟩ (.bool false)) bs 144 #[.bool false] := hs.set_ 0 (.bool false)
    have hm2 := hm.trans (SmO.set hs 0 (.bool false))
    refine Gq ?_ rfl ⟨rfl, ?_, (show Box _ bs 144 #[.bool false] from ?_)⟩
    ·simp [results, Tryz.results168, go_sem, hC]
    ·repeat' (with_reducible first
      | exact hm2
      | refine SmO.setNew ?_ (by simp <;> omega) _
      | refine SmO.alloc ?_ _)
    ·repeat' (with_reducible first
      | exact hs2
      | refine Box.far ?_ (by simp <;> omega) _
      | refine Box.alloc ?_ _)
   ·have hS := Zr.init hb
    have hC := hS.reads
    simp only [Zz, Zy] at hC
    have hbl := hb.lt
    have m2 : w.heap.size ≠ bs := Nat.ne_of_gt hb.lt
    go_enter Tryz.func168, Tryz.ntmps168
    go_wp2_with (first | (go_at_call 99; (with_reducible refine (K1.out _).mono ?_); rintro e wn ⟨rfl, hx⟩; replace hS := Zr.after (W := w) hx; clear hx; (try simp only [Gu] at hS); replace hC := hS.reads; simp only [Zz, Zy] at hC) | (go_at_call 60; (with_reducible refine (K2.out _).mono ?_); rintro e wn ⟨rfl, hx⟩; replace hS := Zr.after (W := w) hx; clear hx; (try simp only [Gu] at hS); replace hC := hS.reads; simp only [Zz, Zy] at hC))
    have hm := hS.sm
    have hs := hS.sum
    have hs2 : Box (World.setCell _ ⟨bs, 0, none⟩ (.bool true)) bs 144 #[.bool true] := hs.set_ 0 (.bool true)
    have hm2 := hm.trans (SmO.set hs 0 (.bool true))
    refine Gq ?_ rfl ⟨rfl, ?_, (show Box _ bs 144 #[.bool true] from ?_)⟩
    ·simp [results, Tryz.results168, go_sem, hC]
    ·repeat' (with_reducible first
      | exact hm2
      | refine SmO.setNew ?_ (by simp <;> omega) _
      | refine SmO.alloc ?_ _)
    ·repeat' (with_reducible first
      | exact hs2
      | refine Box.far ?_ (by simp <;> omega) _
      | refine Box.alloc ?_ _)
theorem l6tAdd_any (bs : Nat) (ok : Bool) (a : Fr) (s : Int) (b : Fr) (w : World) (hb : Box w bs 144 #[.bool ok]) (hsg : s = 1 ∨ s = -1) :
  Calls Tryz.prog 147 #[.pointer (some ⟨bs, 0, none⟩), a.v, .int .i64 s, b.v] w (Wy bs ok w (Yk s a b)) := by
 have k1 := fun w => Yu.opn (sl2Sum a b s hsg w)
 rcases ht : Yk s a b with ⟨⟨t1, t2, t3⟩, tk⟩
 rw [ht] at k1
 obtain ⟨a1, a2, a3⟩ := a
 obtain ⟨b1, b2, b3⟩ := b
 unfold Wy
 simp only [frv, Fr.v] at k1 ⊢
 clear ht
 have K1 := Gv k1
 clear k1
 rcases ok with _ | _
 ·rcases tk with _ | _
  ·have hS := Zr.init hb
   have hC := hS.reads
   simp only [Zz, Zy] at hC
   have hbl := hb.lt
   have m2 : w.heap.size ≠ bs := Nat.ne_of_gt hb.lt
   go_enter Tryz.func147, Tryz.ntmps147
   go_wp2_with (first | (go_at_call 149; (with_reducible refine (K1.out _).mono ?_); rintro e wn ⟨rfl, hx⟩; replace hS := Zr.after (W := w) hx; clear hx; (try simp only [Gu] at hS); replace hC := hS.reads; simp only [Zz, Zy] at hC))
   have hm := hS.sm
   have hs := hS.sum
   have hs2 : Box (World.setCell _ ⟨bs, 0, none⟩ (.bool false)) bs 144 #[.bool false] := hs.set_ 0 (.bool false)
   have hm2 := hm.trans (SmO.set hs 0 (.bool false))
   refine Gq ?_ rfl ⟨rfl, ?_, (show Box _ bs 144 #[.bool false] from ?_)⟩
   ·simp [results, Tryz.results147, go_sem, hC]
   ·repeat' (with_reducible first
     | exact hm2
     | refine SmO.setNew ?_ (by simp <;> omega) _
     | refine SmO.alloc ?_ _)
   ·repeat' (with_reducible first
     | exact hs2
     | refine Box.far ?_ (by simp <;> omega) _
     | refine Box.alloc ?_ _)
  ·have hS := Zr.init hb
   have hC := hS.reads
   simp only [Zz, Zy] at hC
   have hbl := hb.lt
   have m2 : w.heap.size ≠ bs := Nat.ne_of_gt hb.lt
   go_enter Tryz.func147, Tryz.ntmps147
   go_wp2_with (first | (go_at_call 149; (with_reducible refine (K1.out _).mono ?_); rintro e wn ⟨rfl, hx⟩; replace hS := Zr.after (W := w) hx; clear hx; (try simp only [Gu] at hS); replace hC := hS.reads; simp only [Zz, Zy] at hC))
   have hm := hS.sm
   have hs := hS.sum
   have hs2 : Box (World.setCell _ ⟨bs, 0, none⟩ (.bool false)) bs 144 #[.bool false] := hs.set_ 0 (.bool false)
   have hm2 := hm.trans (SmO.set hs 0 (.bool false))
   refine Gq ?_ rfl ⟨rfl, ?_, (show Box _ bs 144 #[.bool false] from ?_)⟩
   ·simp [results, Tryz.results147, go_sem, hC]
   ·repeat' (with_reducible first
     | exact hm2
     | refine SmO.setNew ?_ (by simp <;> omega) _
     | refine SmO.alloc ?_ _)
   ·repeat' (with_reducible first
     | exact hs2
     | refine Box.far ?_ (by simp <;> omega) _
     | refine Box.alloc ?_ _)
 ·rcases tk with _ | _
  ·have hS := Zr.init hb
   have hC := hS.reads
   simp only [Zz, Zy] at hC
   have hbl := hb.lt
   have m2 : w.heap.size ≠ bs := Nat.ne_of_gt hb.lt
   go_enter Tryz.func147, Tryz.ntmps147
   go_wp2_with (first | (go_at_call 149; (with_reducible refine (K1.out _).mono ?_); rintro e wn ⟨rfl, hx⟩; replace hS := Zr.after (W := w) hx; clear hx; (try simp only [Gu] at hS); replace hC := hS.reads; simp only [Zz, Zy] at hC))
   have hm := hS.sm
   have hs := hS.sum
   have hs2 : Box (World.setCell _ ⟨bs, 0, none⟩ (.bool false)) bs 144 #[.bool false] := hs.set_ 0 (.bool false)
   have hm2 := hm.trans (SmO.set hs 0 (.bool false))
   refine Gq ?_ rfl ⟨rfl, ?_, (show Box _ bs 144 #[.bool false] from ?_)⟩
   ·simp [results, Tryz.results147, go_sem, hC]
   ·repeat' (with_reducible first
     | exact hm2
     | refine SmO.setNew ?_ (by simp <;> omega) _
     | refine SmO.alloc ?_ _)
   ·repeat' (with_reducible first
     | exact hs2
     | refine Box.far ?_ (by simp <;> omega) _
     | refine Box.alloc ?_ _)
  ·have hS := Zr.init hb
   have hC := hS.reads
   simp only [Zz, Zy] at hC
   have hbl := hb.lt
   have m2 : w.heap.size ≠ bs := Nat.ne_of_gt hb.lt
   go_enter Tryz.func147, Tryz.ntmps147
   go_wp2_with (first | (go_at_call 149; (with_reducible refine (K1.out _).mono ?_); rintro e wn ⟨rfl, hx⟩; replace hS := Zr.after (W := w) hx; clear hx; (try simp only [Gu] at hS); replace hC := hS.reads; simp only [Zz, Zy] at hC))
   have hm := hS.sm
   have hs := hS.sum
   have hs2 : Box (World.setCell _ ⟨bs, 0, none⟩ (.bool true)) bs 144 #[.bool true] := hs.set_ 0 (.bool true)
   have hm2 := hm.trans (SmO.set hs 0 (.bool true))
   refine Gq ?_ rfl ⟨rfl, ?_, (show Box _ bs 144 #[.bool true] from ?_)⟩
   ·simp [results, Tryz.results147, go_sem, hC]
   ·repeat' (with_reducible first
     | exact hm2
     | refine SmO.setNew ?_ (by simp <;> omega) _
     | refine SmO.alloc ?_ _)
   ·repeat' (with_reducible first
     | exact hs2
     | refine Box.far ?_ (by simp <;> omega) _
     | refine Box.alloc ?_ _)
theorem l6tPart_re2 (bs : Nat) (ok : Bool) (a : Fr) (w : World) (hb : Box w bs 144 #[.bool ok]) (hbd : -2000000000 ≤ a.re ∧ a.re ≤ 2000000000 ∧ -2000000000 ≤ a.im ∧ a.im ≤ 2000000000 ∧ 0 ≤ a.den ∧ a.den ≤ 2000000000) :
  Calls Tryz.prog 169 #[.pointer (some ⟨bs, 0, none⟩), a.v, .int .i64 2, .bool false] w (Wy bs ok w (Vm a 2 false)) := by
 obtain ⟨h1, h2, h3, h4, h5, h6⟩ := hbd
 obtain ⟨a1, a2, a3⟩ := a
 simp only at h1 h2 h3 h4 h5 h6
 obtain ⟨M, eM, l1, u1⟩ : ∃ M, (if 1 < a3 then a3 else 1) = M ∧ 1 ≤ M ∧ M ≤ 2000000000 := ⟨_, rfl, by split <;> omega, by split <;> omega⟩
 have eN : max 1 a3 = M := by rw [← eM]; split <;> omega
 unfold Vm
 simp only
 rw [eN]
 have w1 := Gp (M * 1) (by omega)
 have w2 := Gp (M * 2) (by omega)
 have w3 := Gp M (by omega)
 simp only [Bool.false_eq_true, if_true, if_false]
 have k1 := fun w => Yu.opn (Sa a1 0 (M * 2) w (by omega) (by omega) (by omega))
 rcases ht : flow a1 0 (M * 2) with ⟨⟨t1, t2, t3⟩, tk⟩
 rw [ht] at k1
 unfold Wy
 simp only [frv, Fr.v] at k1 ⊢
 try simp only [Int.mul_one] at k1
 clear ht h1 h2 h3 h4 h5 h6 eN
 have K1 := Gv k1
 clear k1
 rcases ok with _ | _
 ·rcases tk with _ | _
  ·have hS := Zr.init hb
   have hC := hS.reads
   simp only [Zz, Zy] at hC
   have hbl := hb.lt
   have m2 : w.heap.size ≠ bs := Nat.ne_of_gt hb.lt
   go_enter Tryz.func169, Tryz.ntmps169
   go_wp2_with (first | (go_at_call 139; (with_reducible refine (K1.out _).mono ?_); rintro e wn ⟨rfl, hx⟩; replace hS := Zr.after (W := w) hx; clear hx; (try simp only [Gu] at hS); replace hC := hS.reads; simp only [Zz, Zy] at hC))
   have hm := hS.sm
   have hs := hS.sum
   have hs2 : Box (World.setCell _ ⟨bs, 0, none⟩ (.bool false)) bs 144 #[.bool false] := hs.set_ 0 (.bool false)
   have hm2 := hm.trans (SmO.set hs 0 (.bool false))
   refine Gq ?_ rfl ⟨rfl, ?_, (show Box _ bs 144 #[.bool false] from ?_)⟩
   ·simp [results, Tryz.results169, go_sem, hC]
   ·repeat' (with_reducible first
     | exact hm2
     | refine SmO.setNew ?_ (by simp <;> omega) _
     | refine SmO.alloc ?_ _)
   ·repeat' (with_reducible first
     | exact hs2
     | refine Box.far ?_ (by simp <;> omega) _
     | refine Box.alloc ?_ _)
  ·have hS := Zr.init hb
   have hC := hS.reads
   simp only [Zz, Zy] at hC
   have hbl := hb.lt
   have m2 : w.heap.size ≠ bs := Nat.ne_of_gt hb.lt
   go_enter Tryz.func169, Tryz.ntmps169
   go_wp2_with (first | (go_at_call 139; (with_reducible refine (K1.out _).mono ?_); rintro e wn ⟨rfl, hx⟩; replace hS := Zr.after (W := w) hx; clear hx; (try simp only [Gu] at hS); replace hC := hS.reads; simp only [Zz, Zy] at hC))
   have hm := hS.sm
   have hs := hS.sum
   have hs2 : Box (World.setCell _ ⟨bs, 0, none⟩ (.bool false)) bs 144 #[.bool false] := hs.set_ 0 (.bool false)
   have hm2 := hm.trans (SmO.set hs 0 (.bool false))
   refine Gq ?_ rfl ⟨rfl, ?_, (show Box _ bs 144 #[.bool false] from ?_)⟩
   ·simp [results, Tryz.results169, go_sem, hC]
   ·repeat' (with_reducible first
     | exact hm2
     | refine SmO.setNew ?_ (by simp <;> omega) _
     | refine SmO.alloc ?_ _)
   ·repeat' (with_reducible first
     | exact hs2
     | refine Box.far ?_ (by simp <;> omega) _
     | refine Box.alloc ?_ _)
 ·rcases tk with _ | _
  ·have hS := Zr.init hb
   have hC := hS.reads
   simp only [Zz, Zy] at hC
   have hbl := hb.lt
   have m2 : w.heap.size ≠ bs := Nat.ne_of_gt hb.lt
   go_enter Tryz.func169, Tryz.ntmps169
   go_wp2_with (first | (go_at_call 139; (with_reducible refine (K1.out _).mono ?_); rintro e wn ⟨rfl, hx⟩; replace hS := Zr.after (W := w) hx; clear hx; (try simp only [Gu] at hS); replace hC := hS.reads; simp only [Zz, Zy] at hC))
   have hm := hS.sm
   have hs := hS.sum
   have hs2 : Box (World.setCell _ ⟨bs, 0, none⟩ (.bool false)) bs 144 #[.bool false] := hs.set_ 0 (.bool false)
   have hm2 := hm.trans (SmO.set hs 0 (.bool false))
   refine Gq ?_ rfl ⟨rfl, ?_, (show Box _ bs 144 #[.bool false] from ?_)⟩
   ·simp [results, Tryz.results169, go_sem, hC]
   ·repeat' (with_reducible first
     | exact hm2
     | refine SmO.setNew ?_ (by simp <;> omega) _
     | refine SmO.alloc ?_ _)
   ·repeat' (with_reducible first
     | exact hs2
     | refine Box.far ?_ (by simp <;> omega) _
     | refine Box.alloc ?_ _)
  ·have hS := Zr.init hb
   have hC := hS.reads
   simp only [Zz, Zy] at hC
   have hbl := hb.lt
   have m2 : w.heap.size ≠ bs := Nat.ne_of_gt hb.lt
   go_enter Tryz.func169, Tryz.ntmps169
   go_wp2_with (first | (go_at_call 139; (with_reducible refine (K1.out _).mono ?_); rintro e wn ⟨rfl, hx⟩; replace hS := Zr.after (W := w) hx; clear hx; (try simp only [Gu] at hS); replace hC := hS.reads; simp only [Zz, Zy] at hC))
   have hm := hS.sm
   have hs := hS.sum
   have hs2 : Box (World.setCell _ ⟨bs, 0, none⟩ (.bool true)) bs 144 #[.bool true] := hs.set_ 0 (.bool true)
   have hm2 := hm.trans (SmO.set hs 0 (.bool true))
   refine Gq ?_ rfl ⟨rfl, ?_, (show Box _ bs 144 #[.bool true] from ?_)⟩
   ·simp [results, Tryz.results169, go_sem, hC]
   ·repeat' (with_reducible first
     | exact hm2
     | refine SmO.setNew ?_ (by simp <;> omega) _
     | refine SmO.alloc ?_ _)
   ·repeat' (with_reducible first
     | exact hs2
     | refine Box.far ?_ (by simp <;> omega) _
     | refine Box.alloc ?_ _)
theorem l6tPart_re1 (bs : Nat) (ok : Bool) (a : Fr) (w : World) (hb : Box w bs 144 #[.bool ok]) (hbd : -2000000000 ≤ a.re ∧ a.re ≤ 2000000000 ∧ -2000000000 ≤ a.im ∧ a.im ≤ 2000000000 ∧ 0 ≤ a.den ∧ a.den ≤ 2000000000) :
  Calls Tryz.prog 169 #[.pointer (some ⟨bs, 0, none⟩), a.v, .int .i64 1, .bool false] w (Wy bs ok w (Vm a 1 false)) := by
 obtain ⟨h1, h2, h3, h4, h5, h6⟩ := hbd
 obtain ⟨a1, a2, a3⟩ := a
 simp only at h1 h2 h3 h4 h5 h6
 obtain ⟨M, eM, l1, u1⟩ : ∃ M, (if 1 < a3 then a3 else 1) = M ∧ 1 ≤ M ∧ M ≤ 2000000000 := ⟨_, rfl, by split <;> omega, by split <;> omega⟩
 have eN : max 1 a3 = M := by rw [← eM]; split <;> omega
 unfold Vm
 simp only
 rw [eN]
 have w1 := Gp (M * 1) (by omega)
 have w2 := Gp (M * 2) (by omega)
 have w3 := Gp M (by omega)
 simp only [Bool.false_eq_true, if_true, if_false]
 have k1 := fun w => Yu.opn (Sa a1 0 (M * 1) w (by omega) (by omega) (by omega))
 rcases ht : flow a1 0 (M * 1) with ⟨⟨t1, t2, t3⟩, tk⟩
 rw [ht] at k1
 unfold Wy
 simp only [frv, Fr.v] at k1 ⊢
 try simp only [Int.mul_one] at k1
 clear ht h1 h2 h3 h4 h5 h6 eN
 have K1 := Gv k1
 clear k1
 rcases ok with _ | _
 ·rcases tk with _ | _
  ·have hS := Zr.init hb
   have hC := hS.reads
   simp only [Zz, Zy] at hC
   have hbl := hb.lt
   have m2 : w.heap.size ≠ bs := Nat.ne_of_gt hb.lt
   go_enter Tryz.func169, Tryz.ntmps169
   go_wp2_with (first | (go_at_call 139; (with_reducible refine (K1.out _).mono ?_); rintro e wn ⟨rfl, hx⟩; replace hS := Zr.after (W := w) hx; clear hx; (try simp only [Gu] at hS); replace hC := hS.reads; simp only [Zz, Zy] at hC))
   have hm := hS.sm
   have hs := hS.sum
   have hs2 : Box (World.setCell _ ⟨bs, 0, none⟩ (.bool false)) bs 144 #[.bool false] := hs.set_ 0 (.bool false)
   have hm2 := hm.trans (SmO.set hs 0 (.bool false))
   refine Gq ?_ rfl ⟨rfl, ?_, (show Box _ bs 144 #[.bool false] from ?_)⟩
   ·simp [results, Tryz.results169, go_sem, hC]
   ·repeat' (with_reducible first
     | exact hm2
     | refine SmO.setNew ?_ (by simp <;> omega) _
     | refine SmO.alloc ?_ _)
   ·repeat' (with_reducible first
     | exact hs2
     | refine Box.far ?_ (by simp <;> omega) _
     | refine Box.alloc ?_ _)
  ·have hS := Zr.init hb
   have hC := hS.reads
   simp only [Zz, Zy] at hC
   have hbl := hb.lt
   have m2 : w.heap.size ≠ bs := Nat.ne_of_gt hb.lt
   go_enter Tryz.func169, Tryz.ntmps169
   go_wp2_with (first | (go_at_call 139; (with_reducible refine (K1.out _).mono ?_); rintro e wn ⟨rfl, hx⟩; replace hS := Zr.after (W := w) hx; clear hx; (try simp only [Gu] at hS); replace hC := hS.reads; simp only [Zz, Zy] at hC))
   have hm := hS.sm
   have hs := hS.sum
   have hs2 : Box (World.setCell _ ⟨bs, 0, none⟩ (.bool false)) bs 144 #[.bool false] := hs.set_ 0 (.bool false)
   have hm2 := hm.trans (SmO.set hs 0 (.bool false))
   refine Gq ?_ rfl ⟨rfl, ?_, (show Box _ bs 144 #[.bool false] from ?_)⟩
   ·simp [results, Tryz.results169, go_sem, hC]
   ·repeat' (with_reducible first
     | exact hm2
     | refine SmO.setNew ?_ (by simp <;> omega) _
     | refine SmO.alloc ?_ _)
   ·repeat' (with_reducible first
     | exact hs2
     | refine Box.far ?_ (by simp <;> omega) _
     | refine Box.alloc ?_ _)
 ·rcases tk with _ | _
  ·have hS := Zr.init hb
   have hC := hS.reads
   simp only [Zz, Zy] at hC
   have hbl := hb.lt
   have m2 : w.heap.size ≠ bs := Nat.ne_of_gt hb.lt
   go_enter Tryz.func169, Tryz.ntmps169
   go_wp2_with (first | (go_at_call 139; (with_reducible refine (K1.out _).mono ?_); rintro e wn ⟨rfl, hx⟩; replace hS := Zr.after (W := w) hx; clear hx; (try simp only [Gu] at hS); replace hC := hS.reads; simp only [Zz, Zy] at hC))
   have hm := hS.sm
   have hs := hS.sum
   have hs2 : Box (World.setCell _ ⟨bs, 0, none⟩ (.bool false)) bs 144 #[.bool false] := hs.set_ 0 (.bool false)
   have hm2 := hm.trans (SmO.set hs 0 (.bool false))
   refine Gq ?_ rfl ⟨rfl, ?_, (show Box _ bs 144 #[.bool false] from ?_)⟩
   ·simp [results, Tryz.results169, go_sem, hC]
   ·repeat' (with_reducible first
     | exact hm2
     | refine SmO.setNew ?_ (by simp <;> omega) _
     | refine SmO.alloc ?_ _)
   ·repeat' (with_reducible first
     | exact hs2
     | refine Box.far ?_ (by simp <;> omega) _
     | refine Box.alloc ?_ _)
  ·have hS := Zr.init hb
   have hC := hS.reads
   simp only [Zz, Zy] at hC
   have hbl := hb.lt
   have m2 : w.heap.size ≠ bs := Nat.ne_of_gt hb.lt
   go_enter Tryz.func169, Tryz.ntmps169
   go_wp2_with (first | (go_at_call 139; (with_reducible refine (K1.out _).mono ?_); rintro e wn ⟨rfl, hx⟩; replace hS := Zr.after (W := w) hx; clear hx; (try simp only [Gu] at hS); replace hC := hS.reads; simp only [Zz, Zy] at hC))
   have hm := hS.sm
   have hs := hS.sum
   have hs2 : Box (World.setCell _ ⟨bs, 0, none⟩ (.bool true)) bs 144 #[.bool true] := hs.set_ 0 (.bool true)
   have hm2 := hm.trans (SmO.set hs 0 (.bool true))
   refine Gq ?_ rfl ⟨rfl, ?_, (show Box _ bs 144 #[.bool true] from ?_)⟩
   ·simp [results, Tryz.results169, go_sem, hC]
   ·repeat' (with_reducible first
     | exact hm2
     | refine SmO.setNew ?_ (by simp <;> omega) _
     | refine SmO.alloc ?_ _)
   ·repeat' (with_reducible first
     | exact hs2
     | refine Box.far ?_ (by simp <;> omega) _
     | refine Box.alloc ?_ _)
theorem l6tPart_im1 (bs : Nat) (ok : Bool) (a : Fr) (w : World) (hb : Box w bs 144 #[.bool ok]) (hbd : -2000000000 ≤ a.re ∧ a.re ≤ 2000000000 ∧ -2000000000 ≤ a.im ∧ a.im ≤ 2000000000 ∧ 0 ≤ a.den ∧ a.den ≤ 2000000000) :
  Calls Tryz.prog 169 #[.pointer (some ⟨bs, 0, none⟩), a.v, .int .i64 1, .bool true] w (Wy bs ok w (Vm a 1 true)) := by
 obtain ⟨h1, h2, h3, h4, h5, h6⟩ := hbd
 obtain ⟨a1, a2, a3⟩ := a
 simp only at h1 h2 h3 h4 h5 h6
 obtain ⟨M, eM, l1, u1⟩ : ∃ M, (if 1 < a3 then a3 else 1) = M ∧ 1 ≤ M ∧ M ≤ 2000000000 := ⟨_, rfl, by split <;> omega, by split <;> omega⟩
 have eN : max 1 a3 = M := by rw [← eM]; split <;> omega
 unfold Vm
 simp only
 rw [eN]
 have w1 := Gp (M * 1) (by omega)
 have w2 := Gp (M * 2) (by omega)
 have w3 := Gp M (by omega)
 simp only [if_true]
 have k1 := fun w => Yu.opn (Sa a2 0 (M * 1) w (by omega) (by omega) (by omega))
 rcases ht : flow a2 0 (M * 1) with ⟨⟨t1, t2, t3⟩, tk⟩
 rw [ht] at k1
 unfold Wy
 simp only [frv, Fr.v] at k1 ⊢
 try simp only [Int.mul_one] at k1
 clear ht h1 h2 h3 h4 h5 h6 eN
 have K1 := Gv k1
 clear k1
 rcases ok with _ | _
 ·rcases tk with _ | _
  ·have hS := Zr.init hb
   have hC := hS.reads
   simp only [Zz, Zy] at hC
   have hbl := hb.lt
   have m2 : w.heap.size ≠ bs := Nat.ne_of_gt hb.lt
   go_enter Tryz.func169, Tryz.ntmps169
   go_wp2_with (first | (go_at_call 139; (with_reducible refine (K1.out _).mono ?_); rintro e wn ⟨rfl, hx⟩; replace hS := Zr.after (W := w) hx; clear hx; (try simp only [Gu] at hS); replace hC := hS.reads; simp only [Zz, Zy] at hC))
   have hm := hS.sm
   have hs := hS.sum
   have hs2 : Box (World.setCell _ ⟨bs, 0, none⟩ (.bool false)) bs 144 #[.bool false] := hs.set_ 0 (.bool false)
   have hm2 := hm.trans (SmO.set hs 0 (.bool false))
   refine Gq ?_ rfl ⟨rfl, ?_, (show Box _ bs 144 #[.bool false] from ?_)⟩
   ·simp [results, Tryz.results169, go_sem, hC]
   ·repeat' (with_reducible first
     | exact hm2
     | refine SmO.setNew ?_ (by simp <;> omega) _
     | refine SmO.alloc ?_ _)
   ·repeat' (with_reducible first
     | exact hs2
     | refine Box.far ?_ (by simp <;> omega) _
     | refine Box.alloc ?_ _)
  ·have hS := Zr.init hb
   have hC := hS.reads
   simp only [Zz, Zy] at hC
   have hbl := hb.lt
   have m2 : w.heap.size ≠ bs := Nat.ne_of_gt hb.lt
   go_enter Tryz.func169, Tryz.ntmps169
   go_wp2_with (first | (go_at_call 139; (with_reducible refine (K1.out _).mono ?_); rintro e wn ⟨rfl, hx⟩; replace hS := Zr.after (W := w) hx; clear hx; (try simp only [Gu] at hS); replace hC := hS.reads; simp only [Zz, Zy] at hC))
   have hm := hS.sm
   have hs := hS.sum
   have hs2 : Box (World.setCell _ ⟨bs, 0, none⟩ (.bool false)) bs 144 #[.bool false] := hs.set_ 0 (.bool false)
   have hm2 := hm.trans (SmO.set hs 0 (.bool false))
   refine Gq ?_ rfl ⟨rfl, ?_, (show Box _ bs 144 #[.bool false] from ?_)⟩
   ·simp [results, Tryz.results169, go_sem, hC]
   ·repeat' (with_reducible first
     | exact hm2
     | refine SmO.setNew ?_ (by simp <;> omega) _
     | refine SmO.alloc ?_ _)
   ·repeat' (with_reducible first
     | exact hs2
     | refine Box.far ?_ (by simp <;> omega) _
     | refine Box.alloc ?_ _)
 ·rcases tk with _ | _
  ·have hS := Zr.init hb
   have hC := hS.reads
   simp only [Zz, Zy] at hC
   have hbl := hb.lt
   have m2 : w.heap.size ≠ bs := Nat.ne_of_gt hb.lt
   go_enter Tryz.func169, Tryz.ntmps169
   go_wp2_with (first | (go_at_call 139; (with_reducible refine (K1.out _).mono ?_); rintro e wn ⟨rfl, hx⟩; replace hS := Zr.after (W := w) hx; clear hx; (try simp only [Gu] at hS); replace hC := hS.reads; simp only [Zz, Zy] at hC))
   have hm := hS.sm
   have hs := hS.sum
   have hs2 : Box (World.setCell _ ⟨bs, 0, none⟩ (.bool false)) bs 144 #[.bool false] := hs.set_ 0 (.bool false)
   have hm2 := hm.trans (SmO.set hs 0 (.bool false))
   refine Gq ?_ rfl ⟨rfl, ?_, (show Box _ bs 144 #[.bool false] from ?_)⟩
   ·simp [results, Tryz.results169, go_sem, hC]
   ·repeat' (with_reducible first
     | exact hm2
     | refine SmO.setNew ?_ (by simp <;> omega) _
     | refine SmO.alloc ?_ _)
   ·repeat' (with_reducible first
     | exact hs2
     | refine Box.far ?_ (by simp <;> omega) _
     | refine Box.alloc ?_ _)
  ·have hS := Zr.init hb
   have hC := hS.reads
   simp only [Zz, Zy] at hC
   have hbl := hb.lt
   have m2 : w.heap.size ≠ bs := Nat.ne_of_gt hb.lt
   go_enter Tryz.func169, Tryz.ntmps169
   go_wp2_with (first | (go_at_call 139; (with_reducible refine (K1.out _).mono ?_); rintro e wn ⟨rfl, hx⟩; replace hS := Zr.after (W := w) hx; clear hx; (try simp only [Gu] at hS); replace hC := hS.reads; simp only [Zz, Zy] at hC))
   have hm := hS.sm
   have hs := hS.sum
   have hs2 : Box (World.setCell _ ⟨bs, 0, none⟩ (.bool true)) bs 144 #[.bool true] := hs.set_ 0 (.bool true)
   have hm2 := hm.trans (SmO.set hs 0 (.bool true))
   refine Gq ?_ rfl ⟨rfl, ?_, (show Box _ bs 144 #[.bool true] from ?_)⟩
   ·simp [results, Tryz.results169, go_sem, hC]
   ·repeat' (with_reducible first
     | exact hm2
     | refine SmO.setNew ?_ (by simp <;> omega) _
     | refine SmO.alloc ?_ _)
   ·repeat' (with_reducible first
     | exact hs2
     | refine Box.far ?_ (by simp <;> omega) _
     | refine Box.alloc ?_ _)
end
end Go.Proofs.YtmmjkchjgeklnaaGreatDoor
