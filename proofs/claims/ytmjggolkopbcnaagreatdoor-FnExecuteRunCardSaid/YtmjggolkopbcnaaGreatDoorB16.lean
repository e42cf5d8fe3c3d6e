/-
  Proved: what functions compute, part 16. No condition.
-/
import Derived.Test.YtmjggolkopbcnaaGreatDoorB15
import Derived.Test.YtmjggolkopbcnaaGreatDoorB11
import Derived.Test.YtmjggolkopbcnaaGreatDoorB13
import Derived.Test.YtmjggolkopbcnaaGreatDoorB10
set_option linter.unusedSimpArgs false
set_option linter.unusedVariables false
set_option maxRecDepth 20000
set_option maxHeartbeats 8000000
namespace Go.Proofs.YtmjggolkopbcnaaGreatDoor
section
open Go.RowKit

attribute [local go_sem] Zq Zp
theorem iOpposite (f1 f2 f3 : Int) (h1 : -2000000000 ≤ f1 ∧ f1 ≤ 2000000000) (h2 : -2000000000 ≤ f2 ∧ f2 ≤ 2000000000) (w : World) : Calls Tryz.prog 151 #[.agg #[.int .i64 f1, .int .i64 f2, .int .i64 f3]] w (fun e w' => e = .returned (.agg #[.int .i64 (-f1), .int .i64 (-f2), .int .i64 f3]) ∧ Ex w w') := by
 have w1 := Oc (-f1) (by omega)
 have w2 := Oc (-f2) (by omega)
 have hS := Zw.refl w
 have hC := True.intro
 go_enter Tryz.func151, Tryz.ntmps151
 go_wp2
 refine Od ?_ rfl ⟨rfl, ?_⟩
 ·simp [results, Tryz.results151, go_sem, hC]
 ·repeat' (with_reducible first | exact hS.ex | exact Ex.refl _ | assumption | apply Ex.alloc | apply Ex.drewN | apply Ex.drew | refine Ex.setCell ?_ (by simp <;> omega) _)
theorem Wq (p q : Int) (w : World) : Calls Tryz.prog 90 #[.int .i64 p, .int .i64 q] w (fun e w' => e = .returned (m4v (Zg p q)) ∧ Ex w w') := by
 have kd := fun w => Wh p q w
 rcases h : Yi p q with _ | _
 ·have e : Zg p q = (M4.none, false) := by simp [Zg, h]
  rw [e]
  simp only [Wn, h, Bool.false_eq_true, if_false, Fr.none, Fr.v] at kd
  simp only [m4v, M4.v, M4.none, Fr.none]
  clear e h
  have KD := Oi kd
  clear kd
  have hS := Zw.refl w
  have hC := True.intro
  go_enter Tryz.func90, Tryz.ntmps90
  go_wp2_with (go_at_call 95; (with_reducible refine (KD.out _).mono ?_); rintro e w1 ⟨rfl, hx⟩; replace hS := Zw.after (W := w) hx; clear hx; replace hC := hS.reads; simp only [Zz, Zy, Oh] at hC)
  refine Od ?_ rfl ⟨rfl, ?_⟩
  ·simp [results, Tryz.results90, go_sem, hC]
  ·repeat' (with_reducible first | exact hS.ex | exact Ex.refl _ | assumption | apply Ex.alloc | apply Ex.drewN | apply Ex.drew | refine Ex.setCell ?_ (by simp <;> omega) _)
 ·have e : Zg p q = (⟨Xl p q, fneg (Xk p q), Xk p q, Xl p q⟩, true) := by simp [Zg, h]
  rw [e]
  simp only [Wn, h, if_true] at kd
  obtain ⟨-, v2, -, i2⟩ := dir_ok h
  generalize Xl p q = c at *
  generalize Xk p q = s at *
  obtain ⟨c1, c2, c3⟩ := c
  obtain ⟨s1, s2, s3⟩ := s
  obtain ⟨q1, q2, -, -⟩ := Fr.valid_out v2
  simp only at q1 q2
  have ko := fun w => iOpposite s1 s2 s3 q1 q2 w
  simp only [Fr.v] at kd
  simp only [m4v, M4.v, fneg]
  clear e h v2 i2
  have KD := Oi kd
  have KO := Oi ko
  clear kd ko
  have hS := Zw.refl w
  have hC := True.intro
  go_enter Tryz.func90, Tryz.ntmps90
  go_wp2_with (go_at_call 95; (with_reducible refine (KD.out _).mono ?_); rintro e w1 ⟨rfl, hx⟩; replace hS := Zw.after (W := w) hx; clear hx; replace hC := hS.reads; simp only [Zz, Zy, Oh] at hC)
  refine Zn (St := fun _ _ => True) 7 false (B := fun _ w' => Zw w w' [(w1.heap.size + 1, 27, #[.int .i64 s1, .int .i64 s2, .int .i64 s3]), (w1.heap.size, 27, #[.int .i64 c1, .int .i64 c2, .int .i64 c3]), (w.heap.size, 30, #[.int .i64 0, .int .i64 0, .int .i64 0, .int .i64 0, .int .i64 0, .int .i64 0, .int .i64 0, .int .i64 0, .int .i64 0, .int .i64 0, .int .i64 0, .int .i64 0])]) (by kernel_rfl) (by kernel_rfl) (Zw.drewW (Zw.cast (by simp only [Oh]))) (by exact fun _ _ _ _ _ h => h) ?_
  iterate 2 (apply Zx; (· rfl); (· intro b wb hB Q1 hQ1; have hS := hB; have hC := hS.reads; simp only [Zz, Zy] at hC; go_wp2_with fail; exact hQ1 _ trivial hB); (· exact ⟨_, rfl⟩))
  (apply Zx; (· rfl); (· intro b wb hB Q1 hQ1; go_wp2_with (go_at_call 151; (with_reducible refine (KO.out _).mono ?_); rintro e wn ⟨rfl, hx⟩); exact hQ1 _ trivial (hB.go hx)); (· exact ⟨_, rfl⟩))
  iterate 4 (apply Zx; (· rfl); (· intro b wb hB Q1 hQ1; have hS := hB; have hC := hS.reads; simp only [Zz, Zy] at hC; go_wp2_with fail; exact hQ1 _ trivial hB); (· exact ⟨_, rfl⟩))
  refine Zv ?_
  intro wz hz
  have hS := hz
  have hC := hS.reads
  simp only [Zz, Zy] at hC
  clear hz
  go_wp2_with fail
  refine Od ?_ rfl ⟨rfl, ?_⟩
  ·simp [results, Tryz.results90, go_sem, hC]
  ·repeat' (with_reducible first | exact hS.ex | exact Ex.refl _ | assumption | apply Ex.alloc | apply Ex.drewN | apply Ex.drew | refine Ex.setCell ?_ (by simp <;> omega) _)
theorem iMatFilter (p q : Int) (w : World) : Calls Tryz.prog 39 #[.int .i64 p, .int .i64 q] w (fun e w' => e = .returned (m4v (Xq p q)) ∧ Ex w w') := by
 have kd := fun w => Wh p q w
 rcases h : Yi p q with _ | _
 ·have e : Xq p q = (M4.none, false) := by simp [Xq, h]
  rw [e]
  simp only [Wn, h, Bool.false_eq_true, if_false, Fr.none, Fr.v] at kd
  simp only [m4v, M4.v, M4.none, Fr.none]
  clear e h
  have HZ : Hid (Zu ⟨0, 0, 0⟩ ⟨0, 0, 0⟩ = (⟨0, 0, 0⟩, false)) := Oi (by decide)
  have KD := Oi kd
  clear kd
  have hS := Zw.refl w
  have hC := True.intro
  go_enter Tryz.func39, Tryz.ntmps39
  go_wp2_with (first | (go_at_call 95; (with_reducible refine (KD.out _).mono ?_); rintro e w1 ⟨rfl, hx⟩; replace hS := Zw.after (W := w) hx; clear hx; replace hC := hS.reads; simp only [Zz, Zy, Oh] at hC) | (go_at_call 47; (with_reducible refine (Xd w (h := Zt.cast (by simp only [Oh]) rfl)).mono ?_); rintro e wn ⟨rfl, hS⟩; (try simp only [Oh] at hS); have hC := hS.reads; simp only [Zz, Zy] at hC))
  refine Zn (St := fun _ _ => True) 19 _ (B := fun b w' => Zt w w' _ b _) (by kernel_rfl) (by kernel_rfl) (hS.drewW) (by exact fun _ _ _ _ _ h => h) ?_
  iterate 4 (apply Zx; (· rfl); (· intro b wb hB Q1 hQ1; have hS := hB; have hC := hS.reads; simp only [Zz, Zy] at hC; go_wp2_with fail; exact hQ1 _ trivial hB); (· exact ⟨_, rfl⟩))
  (apply Zs; (· rfl); (· intro b wb hB Q1 hQ1; go_wp2_with (go_at_call 50; (with_reducible refine (Yj hB HZ.out).mono ?_); rintro e wn ⟨rfl, hN, hM⟩); exact hQ1 _ trivial hN); (· exact ⟨_, rfl⟩))
  iterate 3 (apply Zx; (· rfl); (· intro b wb hB Q1 hQ1; have hS := hB; have hC := hS.reads; simp only [Zz, Zy] at hC; go_wp2_with fail; exact hQ1 _ trivial hB); (· exact ⟨_, rfl⟩))
  (apply Zs; (· rfl); (· intro b wb hB Q1 hQ1; go_wp2_with (go_at_call 50; (with_reducible refine (Yj hB HZ.out).mono ?_); rintro e wn ⟨rfl, hN, hM⟩); exact hQ1 _ trivial hN); (· exact ⟨_, rfl⟩))
  iterate 3 (apply Zx; (· rfl); (· intro b wb hB Q1 hQ1; have hS := hB; have hC := hS.reads; simp only [Zz, Zy] at hC; go_wp2_with fail; exact hQ1 _ trivial hB); (· exact ⟨_, rfl⟩))
  (apply Zs; (· rfl); (· intro b wb hB Q1 hQ1; go_wp2_with (go_at_call 50; (with_reducible refine (Yj hB HZ.out).mono ?_); rintro e wn ⟨rfl, hN, hM⟩); exact hQ1 _ trivial hN); (· exact ⟨_, rfl⟩))
  iterate 3 (apply Zx; (· rfl); (· intro b wb hB Q1 hQ1; have hS := hB; have hC := hS.reads; simp only [Zz, Zy] at hC; go_wp2_with fail; exact hQ1 _ trivial hB); (· exact ⟨_, rfl⟩))
  (apply Zs; (· rfl); (· intro b wb hB Q1 hQ1; go_wp2_with (go_at_call 50; (with_reducible refine (Yj hB HZ.out).mono ?_); rintro e wn ⟨rfl, hN, hM⟩); exact hQ1 _ trivial hN); (· exact ⟨_, rfl⟩))
  iterate 2 (apply Zx; (· rfl); (· intro b wb hB Q1 hQ1; go_wp2_with fail; exact hQ1 _ trivial hB); (· exact ⟨_, rfl⟩))
  refine Zv ?_
  intro wz hz
  rw [or4_no] at hz
  go_wp2_with (go_at_call 94; (with_reducible refine (Wr _ _ _ _ _ _ _ _ _ _ _ _ _ _ hz.sum).mono ?_); rintro e wn ⟨rfl, hx⟩; have hS := Zt.ex hz hx; have hC := hS.reads; simp only [Zz, Zy] at hC; have hE := hS.rel (by omega))
  refine Od ?_ rfl ⟨rfl, ?_⟩
  ·simp [results, Tryz.results39, go_sem, hC]
  ·repeat' (with_reducible first | exact hE | exact Ex.refl _ | assumption | apply Ex.alloc | apply Ex.drewN | apply Ex.drew | refine Ex.setCell ?_ (by simp <;> omega) _)
 ·have e : Xq p q = Qe (Zu (Xl p q) (Xl p q)) (Zu (Xl p q) (Xk p q)) (Zu (Xl p q) (Xk p q)) (Zu (Xk p q) (Xk p q)) true := by simp [Xq, h]
  rw [e]
  unfold Qe
  simp only [Wn, h, if_true] at kd
  clear e h
  generalize Xl p q = c at *
  generalize Xk p q = d at *
  obtain ⟨c1, c2, c3⟩ := c
  obtain ⟨d1, d2, d3⟩ := d
  rcases hss : Zu ⟨c1, c2, c3⟩ ⟨c1, c2, c3⟩ with ⟨⟨s1, s2, s3⟩, sk⟩
  rcases htt : Zu ⟨c1, c2, c3⟩ ⟨d1, d2, d3⟩ with ⟨⟨t1, t2, t3⟩, tk⟩
  rcases huu : Zu ⟨d1, d2, d3⟩ ⟨d1, d2, d3⟩ with ⟨⟨u1, u2, u3⟩, uk⟩
  simp only [Fr.v] at kd
  rcases hK : (sk && tk && tk && uk) with _ | _
  ·have HK := Oi (or4_true hK)
   have e : (true && sk && tk && tk && uk) = false := by rw [Bool.true_and]; exact hK
   rw [e]
   simp only [m4v, M4.v, M4.none, Fr.none, Bool.false_eq_true, if_false]
   clear e hK
   have KD := Oi kd
   have HSS := Oi hss
   have HTT := Oi htt
   have HUU := Oi huu
   clear kd hss htt huu
   have hS := Zw.refl w
   have hC := True.intro
   go_enter Tryz.func39, Tryz.ntmps39
   go_wp2_with (first | (go_at_call 95; (with_reducible refine (KD.out _).mono ?_); rintro e w1 ⟨rfl, hx⟩; replace hS := Zw.after (W := w) hx; clear hx; replace hC := hS.reads; simp only [Zz, Zy, Oh] at hC) | (go_at_call 47; (with_reducible refine (Xd w (h := Zt.cast (by simp only [Oh]) rfl)).mono ?_); rintro e wn ⟨rfl, hS⟩; (try simp only [Oh] at hS); have hC := hS.reads; simp only [Zz, Zy] at hC))
   refine Zn (St := fun _ _ => True) 19 _ (B := fun b w' => Zt w w' _ b _) (by kernel_rfl) (by kernel_rfl) (hS.drewW) (by exact fun _ _ _ _ _ h => h) ?_
   iterate 4 (apply Zx; (· rfl); (· intro b wb hB Q1 hQ1; have hS := hB; have hC := hS.reads; simp only [Zz, Zy] at hC; go_wp2_with fail; exact hQ1 _ trivial hB); (· exact ⟨_, rfl⟩))
   (apply Zs; (· rfl); (· intro b wb hB Q1 hQ1; go_wp2_with (go_at_call 50; (with_reducible refine (Yj hB HSS.out).mono ?_); rintro e wn ⟨rfl, hN, hM⟩); exact hQ1 _ trivial hN); (· exact ⟨_, rfl⟩))
   iterate 3 (apply Zx; (· rfl); (· intro b wb hB Q1 hQ1; have hS := hB; have hC := hS.reads; simp only [Zz, Zy] at hC; go_wp2_with fail; exact hQ1 _ trivial hB); (· exact ⟨_, rfl⟩))
   (apply Zs; (· rfl); (· intro b wb hB Q1 hQ1; go_wp2_with (go_at_call 50; (with_reducible refine (Yj hB HTT.out).mono ?_); rintro e wn ⟨rfl, hN, hM⟩); exact hQ1 _ trivial hN); (· exact ⟨_, rfl⟩))
   iterate 3 (apply Zx; (· rfl); (· intro b wb hB Q1 hQ1; have hS := hB; have hC := hS.reads; simp only [Zz, Zy] at hC; go_wp2_with fail; exact hQ1 _ trivial hB); (· exact ⟨_, rfl⟩))
   (apply Zs; (· rfl); (· intro b wb hB Q1 hQ1; go_wp2_with (go_at_call 50; (with_reducible refine (Yj hB HTT.out).mono ?_); rintro e wn ⟨rfl, hN, hM⟩); exact hQ1 _ trivial hN); (· exact ⟨_, rfl⟩))
   iterate 3 (apply Zx; (· rfl); (· intro b wb hB Q1 hQ1; have hS := hB; have hC := hS.reads; simp only [Zz, Zy] at hC; go_wp2_with fail; exact hQ1 _ trivial hB); (· exact ⟨_, rfl⟩))
   (apply Zs; (· rfl); (· intro b wb hB Q1 hQ1; go_wp2_with (go_at_call 50; (with_reducible refine (Yj hB HUU.out).mono ?_); rintro e wn ⟨rfl, hN, hM⟩); exact hQ1 _ trivial hN); (· exact ⟨_, rfl⟩))
   iterate 2 (apply Zx; (· rfl); (· intro b wb hB Q1 hQ1; go_wp2_with fail; exact hQ1 _ trivial hB); (· exact ⟨_, rfl⟩))
   refine Zv ?_
   intro wz hz
   rw [HK.out] at hz
   go_wp2_with (go_at_call 94; (with_reducible refine (Wr _ _ _ _ _ _ _ _ _ _ _ _ _ _ hz.sum).mono ?_); rintro e wn ⟨rfl, hx⟩; have hS := Zt.ex hz hx; have hC := hS.reads; simp only [Zz, Zy] at hC; have hE := hS.rel (by omega))
   refine Od ?_ rfl ⟨rfl, ?_⟩
   ·simp [results, Tryz.results39, go_sem, hC]
   ·repeat' (with_reducible first | exact hE | exact Ex.refl _ | assumption | apply Ex.alloc | apply Ex.drewN | apply Ex.drew | refine Ex.setCell ?_ (by simp <;> omega) _)
  ·simp only [Bool.and_eq_true] at hK
   obtain ⟨⟨⟨rfl, rfl⟩, -⟩, rfl⟩ := hK
   simp only [m4v, M4.v, Bool.and_self, if_true]
   have KD := Oi kd
   have HSS := Oi hss
   have HTT := Oi htt
   have HUU := Oi huu
   clear kd hss htt huu
   have hS := Zw.refl w
   have hC := True.intro
   go_enter Tryz.func39, Tryz.ntmps39
   go_wp2_with (first | (go_at_call 95; (with_reducible refine (KD.out _).mono ?_); rintro e w1 ⟨rfl, hx⟩; replace hS := Zw.after (W := w) hx; clear hx; replace hC := hS.reads; simp only [Zz, Zy, Oh] at hC) | (go_at_call 47; (with_reducible refine (Xd w (h := Zt.cast (by simp only [Oh]) rfl)).mono ?_); rintro e wn ⟨rfl, hS⟩; (try simp only [Oh] at hS); have hC := hS.reads; simp only [Zz, Zy] at hC))
   refine Zn (St := fun _ _ => True) 19 _ (B := fun b w' => Zt w w' _ b _) (by kernel_rfl) (by kernel_rfl) (hS.drewW) (by exact fun _ _ _ _ _ h => h) ?_
   iterate 4 (apply Zx; (· rfl); (· intro b wb hB Q1 hQ1; have hS := hB; have hC := hS.reads; simp only [Zz, Zy] at hC; go_wp2_with fail; exact hQ1 _ trivial hB); (· exact ⟨_, rfl⟩))
   (apply Zs; (· rfl); (· intro b wb hB Q1 hQ1; go_wp2_with (go_at_call 50; (with_reducible refine (Yj hB HSS.out).mono ?_); rintro e wn ⟨rfl, hN, hM⟩); exact hQ1 _ trivial hN); (· exact ⟨_, rfl⟩))
   iterate 3 (apply Zx; (· rfl); (· intro b wb hB Q1 hQ1; have hS := hB; have hC := hS.reads; simp only [Zz, Zy] at hC; go_wp2_with fail; exact hQ1 _ trivial hB); (· exact ⟨_, rfl⟩))
   (apply Zs; (· rfl); (· intro b wb hB Q1 hQ1; go_wp2_with (go_at_call 50; (with_reducible refine (Yj hB HTT.out).mono ?_); rintro e wn ⟨rfl, hN, hM⟩); exact hQ1 _ trivial hN); (· exact ⟨_, rfl⟩))
   iterate 3 (apply Zx; (· rfl); (· intro b wb hB Q1 hQ1; have hS := hB; have hC := hS.reads; simp only [Zz, Zy] at hC; go_wp2_with fail; exact hQ1 _ trivial hB); (· exact ⟨_, rfl⟩))
   (apply Zs; (· rfl); (· intro b wb hB Q1 hQ1; go_wp2_with (go_at_call 50; (with_reducible refine (Yj hB HTT.out).mono ?_); rintro e wn ⟨rfl, hN, hM⟩); exact hQ1 _ trivial hN); (· exact ⟨_, rfl⟩))
   iterate 3 (apply Zx; (· rfl); (· intro b wb hB Q1 hQ1; have hS := hB; have hC := hS.reads; simp only [Zz, Zy] at hC; go_wp2_with fail; exact hQ1 _ trivial hB); (· exact ⟨_, rfl⟩))
   (apply Zs; (· rfl); (· intro b wb hB Q1 hQ1; go_wp2_with (go_at_call 50; (with_reducible refine (Yj hB HUU.out).mono ?_); rintro e wn ⟨rfl, hN, hM⟩); exact hQ1 _ trivial hN); (· exact ⟨_, rfl⟩))
   iterate 2 (apply Zx; (· rfl); (· intro b wb hB Q1 hQ1; go_wp2_with fail; exact hQ1 _ trivial hB); (· exact ⟨_, rfl⟩))
   refine Zv ?_
   intro wz hz
   replace hz : Zt w wz _ false _ := hz
   go_wp2_with (go_at_call 94; (with_reducible refine (Ui _ _ _ _ _ _ _ _ _ _ _ _ _ _ hz.sum).mono ?_); rintro e wn ⟨rfl, hx⟩; have hS := Zt.ex hz hx; have hC := hS.reads; simp only [Zz, Zy] at hC; have hE := hS.rel (by omega))
   refine Od ?_ rfl ⟨rfl, ?_⟩
   ·simp [results, Tryz.results39, go_sem, hC]
   ·repeat' (with_reducible first | exact hE | exact Ex.refl _ | assumption | apply Ex.alloc | apply Ex.drewN | apply Ex.drew | refine Ex.setCell ?_ (by simp <;> omega) _)
end
section
open Go.RowKit

attribute [local go_sem] Zq Zp
section
variable {W w : World} {bs : Nat} {b : Bool} {L : List (Nat × TypeId × Array Value)} {a1 a2 a3 b1 b2 b3 x y z s : Int} {k : Bool}
end
def tpow (s1 s2 s3 : Int) (a b c d : Fr) : Fr × Bool :=
 ((tpart (Xv s3 (Xv s2 (Xv s1 (Za a a).1 (Za b b).1).1 (Za c c).1).1 (Za d d).1).1 2 false).1,
  (Za a a).2 && (Za b b).2 && (Xv s1 (Za a a).1 (Za b b).1).2 && (Za c c).2 && (Xv s2 (Xv s1 (Za a a).1 (Za b b).1).1 (Za c c).1).2 && (Za d d).2 && (Xv s3 (Xv s2 (Xv s1 (Za a a).1 (Za b b).1).1 (Za c c).1).1 (Za d d).1).2 && (tpart (Xv s3 (Xv s2 (Xv s1 (Za a a).1 (Za b b).1).1 (Za c c).1).1 (Za d d).1).1 2 false).2)
end
section
open Go.RowKit

attribute [local go_sem] Zq Zp
section
variable {W w : World} {bs : Nat} {b : Bool} {L : List (Nat × TypeId × Array Value)} {a1 a2 a3 x y z : Int} {k : Bool}
end
def Qd (s : Int) (im : Bool) (a b c d : Fr) : Fr × Bool :=
 ((tpart (Xv s (Za a b).1 (Za c d).1).1 1 im).1, (Za a b).2 && (Za c d).2 && (Xv s (Za a b).1 (Za c d).1).2 && (tpart (Xv s (Za a b).1 (Za c d).1).1 1 im).2)
end
section
open Go.RowKit

attribute [local go_sem] Zq Zp
attribute [local go_sem ↓] Go.wp_at_zero Go.wp_at_succ
theorem sMatPlate (p q k : Int) (w : World) : Calls Tryz.prog 42 #[.int .i64 p, .int .i64 q, .int .i64 k] w (fun e w' => e = .returned (m4v (Yp p q k)) ∧ Ex w w') := by
 have kr := fun w => Qm p q w
 have ki := fun w => Xg k 0 3 w
 have hrd := Vq p q
 rcases h1 : (Zg p q).2 with _ | _
 ·have e : Yp p q k = (M4.none, false) := by unfold Yp; rw [← hrd, h1]; rfl
  rw [e]
  generalize Zg p q = r at *
  obtain ⟨⟨⟨a1, a2, a3⟩, ⟨b1, b2, b3⟩, ⟨c1, c2, c3⟩, ⟨d1, d2, d3⟩⟩, rk⟩ := r
  simp only at h1
  subst h1
  simp only [m4v, M4.v, M4.none, Fr.none] at kr ⊢
  clear e hrd ki
  have KR := Oi kr
  clear kr
  have hS := Zw.refl w
  have hC := True.intro
  go_enter Tryz.func42, Tryz.ntmps42
  go_wp2_with (go_at_call 101; (with_reducible refine (KR.out _).mono ?_); rintro e w1 ⟨rfl, hx⟩; replace hS := Zw.after (W := w) hx; clear hx; replace hC := hS.reads; simp only [Zz, Zy, Oh] at hC)
  refine Od ?_ rfl ⟨rfl, ?_⟩
  ·simp [results, Tryz.results42, go_sem, hC]
  ·repeat' (with_reducible first | exact hS.ex | exact Ex.refl _ | assumption | apply Ex.alloc | apply Ex.drewN | apply Ex.drew | refine Ex.setCell ?_ (by simp <;> omega) _)
 ·rcases h2 : Yo k 0 3 with _ | _
  ·have e : Yp p q k = (M4.none, false) := by unfold Yp; rw [h2, Bool.and_false]; rfl
   rw [e]
   generalize Zg p q = r at *
   obtain ⟨⟨⟨a1, a2, a3⟩, ⟨b1, b2, b3⟩, ⟨c1, c2, c3⟩, ⟨d1, d2, d3⟩⟩, rk⟩ := r
   simp only at h1
   subst h1
   rw [h2] at ki
   simp only [m4v, M4.v, M4.none, Fr.none] at kr ⊢
   clear e hrd h2
   have KR := Oi kr
   have KI := Oi ki
   clear kr ki
   have hS := Zw.refl w
   have hC := True.intro
   go_enter Tryz.func42, Tryz.ntmps42
   go_wp2_with (first | (go_at_call 101; (with_reducible refine (KR.out _).mono ?_); rintro e w1 ⟨rfl, hx⟩; replace hS := Zw.after (W := w) hx; clear hx; replace hC := hS.reads; simp only [Zz, Zy, Oh] at hC) | (go_at_call 102; (with_reducible refine (KI.out _).mono ?_); rintro e wn ⟨rfl, rfl⟩))
   refine Od ?_ rfl ⟨rfl, ?_⟩
   ·simp [results, Tryz.results42, go_sem, hC]
   ·repeat' (with_reducible first | exact hS.ex | exact Ex.refl _ | assumption | apply Ex.alloc | apply Ex.drewN | apply Ex.drew | refine Ex.setCell ?_ (by simp <;> omega) _)
  ·have e : Yp p q k = (if (Zl (Zg p q).1 ⟨Fr.one, Fr.nul, Fr.nul, Ys k⟩).2 && (Zl (Zl (Zg p q).1 ⟨Fr.one, Fr.nul, Fr.nul, Ys k⟩).1 (Wz (Zg p q).1).1).2 then Zl (Zl (Zg p q).1 ⟨Fr.one, Fr.nul, Fr.nul, Ys k⟩).1 (Wz (Zg p q).1).1 else (M4.none, false)) := by unfold Yp; rw [← hrd, h1, h2]; rfl
   rw [e]
   clear e
   have hk := Yq h2
   rw [h2] at ki
   clear h2
   have kj := fun w => sMatAdjoint (Zg p q).1 w
   have kp := fun w => sl5Phase k hk.1 hk.2 w
   have ko := fun w => sl5One Fr.one (Ys k) w
   have kz := fun w => sl5Phase 0 (by omega) (by omega) w
   have e0 : (Ys 0).v = .agg #[.int .i64 1, .int .i64 0, .int .i64 1] := rfl
   rw [e0] at kz
   clear e0
   have ka := fun w => Re (Zg p q).1 ⟨Fr.one, Fr.nul, Fr.nul, Ys k⟩ w
   have kb := fun w => Re (Zl (Zg p q).1 ⟨Fr.one, Fr.nul, Fr.nul, Ys k⟩).1 (Wz (Zg p q).1).1 w
   generalize Zl (Zl (Zg p q).1 ⟨Fr.one, Fr.nul, Fr.nul, Ys k⟩).1 (Wz (Zg p q).1).1 = t at *
   generalize Zl (Zg p q).1 ⟨Fr.one, Fr.nul, Fr.nul, Ys k⟩ = g at *
   generalize Wz (Zg p q).1 = j at *
   generalize Zg p q = r at *
   generalize Ys k = f at *
   obtain ⟨f1, f2, f3⟩ := f
   obtain ⟨⟨⟨a1, a2, a3⟩, ⟨b1, b2, b3⟩, ⟨c1, c2, c3⟩, ⟨d1, d2, d3⟩⟩, rk⟩ := r
   obtain ⟨⟨⟨ta1, ta2, ta3⟩, ⟨tb1, tb2, tb3⟩, ⟨tc1, tc2, tc3⟩, ⟨td1, td2, td3⟩⟩, tk⟩ := t
   obtain ⟨⟨⟨ga1, ga2, ga3⟩, ⟨gb1, gb2, gb3⟩, ⟨gc1, gc2, gc3⟩, ⟨gd1, gd2, gd3⟩⟩, gk⟩ := g
   obtain ⟨⟨⟨ja1, ja2, ja3⟩, ⟨jb1, jb2, jb3⟩, ⟨jc1, jc2, jc3⟩, ⟨jd1, jd2, jd3⟩⟩, jk⟩ := j
   simp only at h1
   subst h1
   clear hrd
   simp only [m4v, M4.v, M4.none, Fr.none, Fr.v, Fr.one, Fr.nul] at kr ki kj ka kb kp ko kz ⊢
   have KR := Oi kr
   have KI := Oi ki
   have KJ := Oi kj
   have KA := Oi ka
   have KB := Oi kb
   have KP := Oi kp
   have KO := Oi ko
   have KZ := Oi kz
   clear kr ki kj ka kb kp ko kz
   have hS := Zw.refl w
   have hC := True.intro
   go_enter Tryz.func42, Tryz.ntmps42
   go_wp2_with (first | (go_at_call 101; (with_reducible refine (KR.out _).mono ?_); rintro e w1 ⟨rfl, hx⟩; replace hS := Zw.after (W := w) hx; clear hx; replace hC := hS.reads; simp only [Zz, Zy, Oh] at hC) | (go_at_call 102; (with_reducible refine (KI.out _).mono ?_); rintro e wn ⟨rfl, rfl⟩) | (go_at_call 103; (with_reducible refine (KJ.out _).mono ?_); rintro e w2 ⟨rfl, hx⟩; replace hS := Zw.after (W := w) hx; clear hx; replace hC := hS.reads; simp only [Zz, Zy, Oh] at hC))
   have hS0 := Zw.alloc (h := hS) (cs := #[.int .i64 ja1, .int .i64 ja2, .int .i64 ja3, .int .i64 jb1, .int .i64 jb2, .int .i64 jb3, .int .i64 jc1, .int .i64 jc2, .int .i64 jc3, .int .i64 jd1, .int .i64 jd2, .int .i64 jd3]) (t := 30)
   refine Zm (St := Ex) (B := fun _ w' => InE _ _ w') 9 1 1 _ 30 (fun _ => 12) (fun _ => 42) (fun _ => #[.int .i64 0, .int .i64 0, .int .i64 0, .int .i64 0, .int .i64 0, .int .i64 0, .int .i64 0, .int .i64 0, .int .i64 0, .int .i64 0, .int .i64 0, .int .i64 0]) (fun _ => #[.int .i64 ga1, .int .i64 ga2, .int .i64 ga3, .int .i64 gb1, .int .i64 gb2, .int .i64 gb3, .int .i64 gc1, .int .i64 gc2, .int .i64 gc3, .int .i64 gd1, .int .i64 gd2, .int .i64 gd3]) false (by kernel_rfl) (by kernel_rfl) (InE.drew (InE.start hS0)) (fun x y h1 h2 _ => by omega) (fun x y _ _ => by decide) (fun _ _ h g cs _ hb => hb.ex h) (fun _ _ cs h => h.alloc _) (fun _ _ h => h.size) ?_
   (apply Zx; (· rfl); (· intro b wb hB Q1 hQ1; have hC := hB.sees.reads; simp only [Zz, Zy] at hC; go_wp2_with fail; exact hQ1 _ (Ex.refl _) hB); (· exact ⟨_, rfl⟩))
   (apply Zx; (· rfl); (· intro b wb hB Q1 hQ1; go_wp2_with (go_at_call 104; (with_reducible refine (KZ.out _).mono ?_); rintro e wn ⟨rfl, hx⟩); exact hQ1 _ hx (hB.go hx)); (· exact ⟨_, rfl⟩))
   (apply Zx; (· rfl); (· intro b wb hB Q1 hQ1; go_wp2_with fail; exact hQ1 _ (Ex.refl _) hB); (· exact ⟨_, rfl⟩))
   (apply Zx; (· rfl); (· intro b wb hB Q1 hQ1; go_wp2_with (go_at_call 104; (with_reducible refine (KP.out _).mono ?_); rintro e wn ⟨rfl, hx⟩); exact hQ1 _ hx (hB.go hx)); (· exact ⟨_, rfl⟩))
   (apply Zx; (· rfl); (· intro b wb hB Q1 hQ1; go_wp2_with (go_at_call 63; (with_reducible refine (KO.out _).mono ?_); rintro e wn ⟨rfl, hx⟩); exact hQ1 _ hx (hB.go hx)); (· exact ⟨_, rfl⟩))
   (apply Zx; (· rfl); (· intro b wb hB Q1 hQ1; go_wp2_with (go_at_call 65; (with_reducible refine (KA.out _).mono ?_); rintro e wn ⟨rfl, hx⟩); exact hQ1 _ hx (hB.go hx)); (· exact ⟨_, rfl⟩))
   iterate 3 (apply Zx; (· rfl); (· intro b wb hB Q1 hQ1; go_wp2_with fail; exact hQ1 _ (Ex.refl _) hB); (· exact ⟨_, rfl⟩))
   refine Zv ?_
   refine ⟨fun i hi => ?_, fun i hi => ?_, fun i hi => ?_, fun gg wz hz hbx hne => ?_⟩
   ·obtain rfl : i = 0 := by omega
    all_goals exact ⟨_, rfl, Uq⟩
   ·obtain rfl : i = 0 := by omega
    all_goals exact ⟨_, rfl, Zf Tp rfl (by kernel_rfl) (fun _ _ _ hg h => h.setRow hg _)⟩
   ·obtain rfl : i = 0 := by omega
    ·exact (show (12 : Nat) < 58 by decide)
   obtain ⟨hg0, hb0⟩ := hbx 0 (by omega)
   replace hS := InE.join hS0 hz
   replace hS := Zw.put hS hb0
   simp only [frN, Act.put, Og, Of, Oe, Nat.reduceAdd, List.drop_succ_cons, List.drop_zero]
   generalize gg 0 = g0 at *
   clear hbx hz hS0 hne
   replace hC := hS.reads
   simp only [Zz, Zy] at hC
   have z0 := hS.ex.size
   rcases gk with _ | _
   all_goals rcases tk with _ | _
   all_goals
    go_wp2_with (first | (go_at_call 65; (with_reducible refine (KB.out _).mono ?_); rintro e w4 ⟨rfl, hx⟩; replace hS := Zw.after (W := w) hx; clear hx; replace hC := hS.reads; simp only [Zz, Zy, Oh] at hC))
    refine Od ?_ rfl ⟨rfl, ?_⟩
    ·simp [results, Tryz.results42, go_sem, hC]
    ·repeat' (with_reducible first | exact hS.ex | exact Ex.refl _ | assumption | apply Ex.alloc | apply Ex.drewN | apply Ex.drew | refine Ex.setCell ?_ (by simp <;> omega) _)
end
section
open Go.RowKit

attribute [local go_sem] Zq Zp
attribute [local go_sem ↓] Go.wp_at_zero Go.wp_at_succ
theorem iMatPlate0 (p q : Int) (w : World) [hG : Ym w] (h1 : (Zg p q).2 = true) : Calls Tryz.prog 38 #[.int .i64 p, .int .i64 q, .int .i64 0] w (fun e w' => e = .returned (m4v (Yp p q 0)) ∧ Ex w w') := by
 have kr := fun w => Wq p q w
 have ki := fun w => Yz 0 0 3 w
 have hrd := Vq p q
 have h2 : Yo 0 0 3 = true := by decide
 have e : Yp p q 0 = (if (Zl (Zg p q).1 ⟨Fr.one, Fr.nul, Fr.nul, Ys 0⟩).2 && (Zl (Zl (Zg p q).1 ⟨Fr.one, Fr.nul, Fr.nul, Ys 0⟩).1 (Wz (Zg p q).1).1).2 then Zl (Zl (Zg p q).1 ⟨Fr.one, Fr.nul, Fr.nul, Ys 0⟩).1 (Wz (Zg p q).1).1 else (M4.none, false)) := by unfold Yp; rw [← hrd, h1, h2]; rfl
 rw [e]
 clear e
 rw [h2] at ki
 clear h2
 have kj := fun w => Wd (Zg p q).1 w
 have ka := fun w => Xi (Zg p q).1 ⟨Fr.one, Fr.nul, Fr.nul, Ys 0⟩ w
 have kb := fun w => Xi (Zl (Zg p q).1 ⟨Fr.one, Fr.nul, Fr.nul, Ys 0⟩).1 (Wz (Zg p q).1).1 w
 generalize Zl (Zl (Zg p q).1 ⟨Fr.one, Fr.nul, Fr.nul, Ys 0⟩).1 (Wz (Zg p q).1).1 = t at *
 generalize Zl (Zg p q).1 ⟨Fr.one, Fr.nul, Fr.nul, Ys 0⟩ = g at *
 generalize Wz (Zg p q).1 = j at *
 generalize Zg p q = r at *
 obtain ⟨⟨⟨a1, a2, a3⟩, ⟨b1, b2, b3⟩, ⟨c1, c2, c3⟩, ⟨d1, d2, d3⟩⟩, rk⟩ := r
 obtain ⟨⟨⟨ta1, ta2, ta3⟩, ⟨tb1, tb2, tb3⟩, ⟨tc1, tc2, tc3⟩, ⟨td1, td2, td3⟩⟩, tk⟩ := t
 obtain ⟨⟨⟨ga1, ga2, ga3⟩, ⟨gb1, gb2, gb3⟩, ⟨gc1, gc2, gc3⟩, ⟨gd1, gd2, gd3⟩⟩, gk⟩ := g
 obtain ⟨⟨⟨ja1, ja2, ja3⟩, ⟨jb1, jb2, jb3⟩, ⟨jc1, jc2, jc3⟩, ⟨jd1, jd2, jd3⟩⟩, jk⟩ := j
 simp only at h1
 subst h1
 clear hrd
 simp only [Ys, if_true, m4v, M4.v, M4.none, Fr.none, Fr.v, Fr.one, Fr.nul] at kr ki kj ka kb ⊢
 have KR := Oi kr
 have KI := Oi ki
 have KJ := Oi kj
 have KA := Oi ka
 have KB := Oi kb
 clear kr ki kj ka kb
 have hS := Zw.refl w
 have hC := True.intro
 go_enter Tryz.func38, Tryz.ntmps38
 go_wp2_with (first | (go_at_call 90; (with_reducible refine (KR.out _).mono ?_); rintro e w1 ⟨rfl, hx⟩; replace hS := Zw.after (W := w) hx; clear hx; replace hC := hS.reads; simp only [Zz, Zy, Oh] at hC) | (go_at_call 79; (with_reducible refine (KI.out _).mono ?_); rintro e wn ⟨rfl, rfl⟩))
 have hG1 := hG.ex ((Zw.alloc (h := hS) (cs := #[.int .i64 a1, .int .i64 a2, .int .i64 a3, .int .i64 b1, .int .i64 b2, .int .i64 b3, .int .i64 c1, .int .i64 c2, .int .i64 c3, .int .i64 d1, .int .i64 d2, .int .i64 d3]) (t := 30)).ex)
 have hS0 := Zw.alloc (h := hS) (cs := #[.int .i64 a1, .int .i64 a2, .int .i64 a3, .int .i64 b1, .int .i64 b2, .int .i64 b3, .int .i64 c1, .int .i64 c2, .int .i64 c3, .int .i64 d1, .int .i64 d2, .int .i64 d3]) (t := 30)
 refine Zm (St := Ex) (B := fun _ w' => InE _ _ w') 13 1 1 _ 30 (fun _ => 10) (fun _ => 41) (fun _ => #[.int .i64 0, .int .i64 0, .int .i64 0, .int .i64 0, .int .i64 0, .int .i64 0, .int .i64 0, .int .i64 0, .int .i64 0, .int .i64 0, .int .i64 0, .int .i64 0]) (fun _ => #[.int .i64 ga1, .int .i64 ga2, .int .i64 ga3, .int .i64 gb1, .int .i64 gb2, .int .i64 gb3, .int .i64 gc1, .int .i64 gc2, .int .i64 gc3, .int .i64 gd1, .int .i64 gd2, .int .i64 gd3]) false (by kernel_rfl) (by kernel_rfl) (InE.drew (InE.start hS0)) (fun x y h1 h2 _ => by omega) (fun x y _ _ => by decide) (fun _ _ h g cs _ hb => hb.ex h) (fun _ _ cs h => h.alloc _) (fun _ _ h => h.size) ?_
 (apply Zx; (· rfl); (· intro b wb hB Q1 hQ1; have hC := hB.sees.reads; simp only [Zz, Zy] at hC; go_wp2_with fail; exact hQ1 _ (Ex.refl _) hB); (· exact ⟨_, rfl⟩))
 iterate 8 (apply Zx; (· rfl); (· intro b wb hB Q1 hQ1; have hg := (hG1.ex hB.sees.ex).reads; go_wp2_with fail; exact hQ1 _ (Ex.refl _) hB); (· exact ⟨_, rfl⟩))
 (apply Zx; (· rfl); (· intro b wb hB Q1 hQ1; go_wp2_with (go_at_call 35; (with_reducible refine (KA.out _).mono ?_); rintro e wn ⟨rfl, hx⟩); exact hQ1 _ hx (hB.go hx)); (· exact ⟨_, rfl⟩))
 iterate 3 (apply Zx; (· rfl); (· intro b wb hB Q1 hQ1; go_wp2_with fail; exact hQ1 _ (Ex.refl _) hB); (· exact ⟨_, rfl⟩))
 refine Zv ?_
 refine ⟨fun i hi => ?_, fun i hi => ?_, fun i hi => ?_, fun gg wz hz hbx hne => ?_⟩
 ·obtain rfl : i = 0 := by omega
  all_goals exact ⟨_, rfl, Uq⟩
 ·obtain rfl : i = 0 := by omega
  all_goals exact ⟨_, rfl, Zf Tp rfl (by kernel_rfl) (fun _ _ _ hg h => h.setRow hg _)⟩
 ·obtain rfl : i = 0 := by omega
  ·exact (show (10 : Nat) < 62 by decide)
 obtain ⟨hg0, hb0⟩ := hbx 0 (by omega)
 replace hS := InE.join hS0 hz
 replace hS := Zw.put hS hb0
 simp only [frN, Act.put, Og, Of, Oe, Nat.reduceAdd, List.drop_succ_cons, List.drop_zero]
 generalize gg 0 = g0 at *
 clear hbx hz hS0 hne
 replace hC := hS.reads
 simp only [Zz, Zy] at hC
 have z0 := hS.ex.size
 rcases gk with _ | _
 all_goals rcases tk with _ | _
 all_goals
  go_wp2_with (first | (go_at_call 35; (with_reducible refine (KB.out _).mono ?_); rintro e w4 ⟨rfl, hx⟩; replace hS := Zw.after (W := w) hx; clear hx; replace hC := hS.reads; simp only [Zz, Zy, Oh] at hC) | (go_at_call 36; (with_reducible refine (KJ.out _).mono ?_); rintro e w3 ⟨rfl, hx⟩; replace hS := Zw.after (W := w) hx; clear hx; replace hC := hS.reads; simp only [Zz, Zy, Oh] at hC))
  refine Od ?_ rfl ⟨rfl, ?_⟩
  ·simp [results, Tryz.results38, go_sem, hC]
  ·repeat' (with_reducible first | exact hS.ex | exact Ex.refl _ | assumption | apply Ex.alloc | apply Ex.drewN | apply Ex.drew | refine Ex.setCell ?_ (by simp <;> omega) _)
theorem iMatPlate1 (p q : Int) (w : World) [hG : Ym w] (h1 : (Zg p q).2 = true) : Calls Tryz.prog 38 #[.int .i64 p, .int .i64 q, .int .i64 1] w (fun e w' => e = .returned (m4v (Yp p q 1)) ∧ Ex w w') := by
 have kr := fun w => Wq p q w
 have ki := fun w => Yz 1 0 3 w
 have hrd := Vq p q
 have h2 : Yo 1 0 3 = true := by decide
 have e : Yp p q 1 = (if (Zl (Zg p q).1 ⟨Fr.one, Fr.nul, Fr.nul, Ys 1⟩).2 && (Zl (Zl (Zg p q).1 ⟨Fr.one, Fr.nul, Fr.nul, Ys 1⟩).1 (Wz (Zg p q).1).1).2 then Zl (Zl (Zg p q).1 ⟨Fr.one, Fr.nul, Fr.nul, Ys 1⟩).1 (Wz (Zg p q).1).1 else (M4.none, false)) := by unfold Yp; rw [← hrd, h1, h2]; rfl
 rw [e]
 clear e
 rw [h2] at ki
 clear h2
 have kj := fun w => Wd (Zg p q).1 w
 have ka := fun w => Xi (Zg p q).1 ⟨Fr.one, Fr.nul, Fr.nul, Ys 1⟩ w
 have kb := fun w => Xi (Zl (Zg p q).1 ⟨Fr.one, Fr.nul, Fr.nul, Ys 1⟩).1 (Wz (Zg p q).1).1 w
 generalize Zl (Zl (Zg p q).1 ⟨Fr.one, Fr.nul, Fr.nul, Ys 1⟩).1 (Wz (Zg p q).1).1 = t at *
 generalize Zl (Zg p q).1 ⟨Fr.one, Fr.nul, Fr.nul, Ys 1⟩ = g at *
 generalize Wz (Zg p q).1 = j at *
 generalize Zg p q = r at *
 obtain ⟨⟨⟨a1, a2, a3⟩, ⟨b1, b2, b3⟩, ⟨c1, c2, c3⟩, ⟨d1, d2, d3⟩⟩, rk⟩ := r
 obtain ⟨⟨⟨ta1, ta2, ta3⟩, ⟨tb1, tb2, tb3⟩, ⟨tc1, tc2, tc3⟩, ⟨td1, td2, td3⟩⟩, tk⟩ := t
 obtain ⟨⟨⟨ga1, ga2, ga3⟩, ⟨gb1, gb2, gb3⟩, ⟨gc1, gc2, gc3⟩, ⟨gd1, gd2, gd3⟩⟩, gk⟩ := g
 obtain ⟨⟨⟨ja1, ja2, ja3⟩, ⟨jb1, jb2, jb3⟩, ⟨jc1, jc2, jc3⟩, ⟨jd1, jd2, jd3⟩⟩, jk⟩ := j
 simp only at h1
 subst h1
 clear hrd
 simp only [Ys, Int.one_ne_zero, if_true, if_false, m4v, M4.v, M4.none, Fr.none, Fr.v, Fr.one, Fr.nul] at kr ki kj ka kb ⊢
 have KR := Oi kr
 have KI := Oi ki
 have KJ := Oi kj
 have KA := Oi ka
 have KB := Oi kb
 clear kr ki kj ka kb
 have hS := Zw.refl w
 have hC := True.intro
 go_enter Tryz.func38, Tryz.ntmps38
 go_wp2_with (first | (go_at_call 90; (with_reducible refine (KR.out _).mono ?_); rintro e w1 ⟨rfl, hx⟩; replace hS := Zw.after (W := w) hx; clear hx; replace hC := hS.reads; simp only [Zz, Zy, Oh] at hC) | (go_at_call 79; (with_reducible refine (KI.out _).mono ?_); rintro e wn ⟨rfl, rfl⟩))
 have hG1 := hG.ex ((Zw.alloc (h := hS) (cs := #[.int .i64 a1, .int .i64 a2, .int .i64 a3, .int .i64 b1, .int .i64 b2, .int .i64 b3, .int .i64 c1, .int .i64 c2, .int .i64 c3, .int .i64 d1, .int .i64 d2, .int .i64 d3]) (t := 30)).ex)
 have hS0 := Zw.alloc (h := hS) (cs := #[.int .i64 a1, .int .i64 a2, .int .i64 a3, .int .i64 b1, .int .i64 b2, .int .i64 b3, .int .i64 c1, .int .i64 c2, .int .i64 c3, .int .i64 d1, .int .i64 d2, .int .i64 d3]) (t := 30)
 refine Zm (St := Ex) (B := fun _ w' => InE _ _ w') 13 1 1 _ 30 (fun _ => 10) (fun _ => 41) (fun _ => #[.int .i64 0, .int .i64 0, .int .i64 0, .int .i64 0, .int .i64 0, .int .i64 0, .int .i64 0, .int .i64 0, .int .i64 0, .int .i64 0, .int .i64 0, .int .i64 0]) (fun _ => #[.int .i64 ga1, .int .i64 ga2, .int .i64 ga3, .int .i64 gb1, .int .i64 gb2, .int .i64 gb3, .int .i64 gc1, .int .i64 gc2, .int .i64 gc3, .int .i64 gd1, .int .i64 gd2, .int .i64 gd3]) false (by kernel_rfl) (by kernel_rfl) (InE.drew (InE.start hS0)) (fun x y h1 h2 _ => by omega) (fun x y _ _ => by decide) (fun _ _ h g cs _ hb => hb.ex h) (fun _ _ cs h => h.alloc _) (fun _ _ h => h.size) ?_
 (apply Zx; (· rfl); (· intro b wb hB Q1 hQ1; have hC := hB.sees.reads; simp only [Zz, Zy] at hC; go_wp2_with fail; exact hQ1 _ (Ex.refl _) hB); (· exact ⟨_, rfl⟩))
 iterate 8 (apply Zx; (· rfl); (· intro b wb hB Q1 hQ1; have hg := (hG1.ex hB.sees.ex).reads; go_wp2_with fail; exact hQ1 _ (Ex.refl _) hB); (· exact ⟨_, rfl⟩))
 (apply Zx; (· rfl); (· intro b wb hB Q1 hQ1; go_wp2_with (go_at_call 35; (with_reducible refine (KA.out _).mono ?_); rintro e wn ⟨rfl, hx⟩); exact hQ1 _ hx (hB.go hx)); (· exact ⟨_, rfl⟩))
 iterate 3 (apply Zx; (· rfl); (· intro b wb hB Q1 hQ1; go_wp2_with fail; exact hQ1 _ (Ex.refl _) hB); (· exact ⟨_, rfl⟩))
 refine Zv ?_
 refine ⟨fun i hi => ?_, fun i hi => ?_, fun i hi => ?_, fun gg wz hz hbx hne => ?_⟩
 ·obtain rfl : i = 0 := by omega
  all_goals exact ⟨_, rfl, Uq⟩
 ·obtain rfl : i = 0 := by omega
  all_goals exact ⟨_, rfl, Zf Tp rfl (by kernel_rfl) (fun _ _ _ hg h => h.setRow hg _)⟩
 ·obtain rfl : i = 0 := by omega
  ·exact (show (10 : Nat) < 62 by decide)
 obtain ⟨hg0, hb0⟩ := hbx 0 (by omega)
 replace hS := InE.join hS0 hz
 replace hS := Zw.put hS hb0
 simp only [frN, Act.put, Og, Of, Oe, Nat.reduceAdd, List.drop_succ_cons, List.drop_zero]
 generalize gg 0 = g0 at *
 clear hbx hz hS0 hne
 replace hC := hS.reads
 simp only [Zz, Zy] at hC
 have z0 := hS.ex.size
 rcases gk with _ | _
 all_goals rcases tk with _ | _
 all_goals
  go_wp2_with (first | (go_at_call 35; (with_reducible refine (KB.out _).mono ?_); rintro e w4 ⟨rfl, hx⟩; replace hS := Zw.after (W := w) hx; clear hx; replace hC := hS.reads; simp only [Zz, Zy, Oh] at hC) | (go_at_call 36; (with_reducible refine (KJ.out _).mono ?_); rintro e w3 ⟨rfl, hx⟩; replace hS := Zw.after (W := w) hx; clear hx; replace hC := hS.reads; simp only [Zz, Zy, Oh] at hC))
  refine Od ?_ rfl ⟨rfl, ?_⟩
  ·simp [results, Tryz.results38, go_sem, hC]
  ·repeat' (with_reducible first | exact hS.ex | exact Ex.refl _ | assumption | apply Ex.alloc | apply Ex.drewN | apply Ex.drew | refine Ex.setCell ?_ (by simp <;> omega) _)
end
end Go.Proofs.YtmjggolkopbcnaaGreatDoor
