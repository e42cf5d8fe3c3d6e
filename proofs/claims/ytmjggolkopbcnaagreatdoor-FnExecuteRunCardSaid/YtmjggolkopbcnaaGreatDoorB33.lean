/-
  Proved: what functions compute, part 33. No condition.
-/
import Derived.Test.YtmjggolkopbcnaaGreatDoorB16
set_option linter.unusedSimpArgs false
set_option linter.unusedVariables false
set_option maxRecDepth 20000
set_option maxHeartbeats 8000000
namespace Go.Proofs.YtmjggolkopbcnaaGreatDoor
section
open Go.RowKit

attribute [local go_sem] Zq Zp
theorem Rn {W w : World} {bs ps pa pv : Nat} {bad : Bool} {r : Nat × TypeId × Array Value} {L : List (Nat × TypeId × Array Value)} {a1 a2 a3 b1 b2 b3 c1 c2 c3 d1 d2 d3 x1 x2 x3 y1 y2 y3 z1 z2 z3 : Int} {k : Bool} (hB : Zt W w bs bad ((ps, 99, #[.pointer (some ⟨bs, 0, none⟩)]) :: r :: (pv, 47, #[.int .i64 x1, .int .i64 x2, .int .i64 x3, .int .i64 y1, .int .i64 y2, .int .i64 y3]) :: (pa, 30, #[.int .i64 a1, .int .i64 a2, .int .i64 a3, .int .i64 b1, .int .i64 b2, .int .i64 b3, .int .i64 c1, .int .i64 c2, .int .i64 c3, .int .i64 d1, .int .i64 d2, .int .i64 d3]) :: L)) (hr : Zc ⟨a1, a2, a3⟩ ⟨x1, x2, x3⟩ ⟨b1, b2, b3⟩ ⟨y1, y2, y3⟩ = (⟨z1, z2, z3⟩, k)) : Calls Tryz.prog 125 #[.int .i64 0, .pointer (some ⟨ps, 0, none⟩), .pointer (some ⟨pa, 0, none⟩), .pointer (some ⟨pv, 0, none⟩)] w (fun e w' => e = .returned (.agg #[.int .i64 z1, .int .i64 z2, .int .i64 z3]) ∧ Zt W w' bs (bad || !k) ((ps, 99, #[.pointer (some ⟨bs, 0, none⟩)]) :: r :: (pv, 47, #[.int .i64 x1, .int .i64 x2, .int .i64 x3, .int .i64 y1, .int .i64 y2, .int .i64 y3]) :: (pa, 30, #[.int .i64 a1, .int .i64 a2, .int .i64 a3, .int .i64 b1, .int .i64 b2, .int .i64 b3, .int .i64 c1, .int .i64 c2, .int .i64 c3, .int .i64 d1, .int .i64 d2, .int .i64 d3]) :: L) ∧ Sm bs w w') := by
 have hfo := Vr ⟨a1, a2, a3⟩ ⟨x1, x2, x3⟩ ⟨b1, b2, b3⟩ ⟨y1, y2, y3⟩ bad
 rcases hss : Zu ⟨a1, a2, a3⟩ ⟨x1, x2, x3⟩ with ⟨⟨s1, s2, s3⟩, sk⟩
 rcases htt : Zu ⟨b1, b2, b3⟩ ⟨y1, y2, y3⟩ with ⟨⟨t1, t2, t3⟩, tk⟩
 rcases huu : Ze ⟨s1, s2, s3⟩ ⟨t1, t2, t3⟩ with ⟨⟨u1, u2, u3⟩, uk⟩
 have hf : Zc ⟨a1, a2, a3⟩ ⟨x1, x2, x3⟩ ⟨b1, b2, b3⟩ ⟨y1, y2, y3⟩ = (⟨u1, u2, u3⟩, uk) := by
  unfold Zc
  rw [hss, htt]
  exact huu
 rw [hf, hss, htt] at hfo
 simp only at hfo
 rw [hf] at hr
 simp only [Prod.mk.injEq, Fr.mk.injEq] at hr
 obtain ⟨⟨rfl, rfl, rfl⟩, rfl⟩ := hr
 have HSS := Oi hss
 have HTT := Oi htt
 have HUU := Oi huu
 have HFO := Oi hfo
 clear hss htt huu hfo
 clear hf
 have hS : Zt w w bs bad [(ps, 99, #[.pointer (some ⟨bs, 0, none⟩)]), (pv, 47, #[.int .i64 x1, .int .i64 x2, .int .i64 x3, .int .i64 y1, .int .i64 y2, .int .i64 y3]), (pa, 30, #[.int .i64 a1, .int .i64 a2, .int .i64 a3, .int .i64 b1, .int .i64 b2, .int .i64 b3, .int .i64 c1, .int .i64 c2, .int .i64 c3, .int .i64 d1, .int .i64 d2, .int .i64 d3])] := (((Zt.init hB.sum).put hB.boxes.2.2.2.1 (hB.far _ (.tail _ (.tail _ (.tail _ (.head _)))))).put hB.boxes.2.2.1 (hB.far _ (.tail _ (.tail _ (.head _))))).put hB.boxes.1 (hB.far _ (.head _))
 have hB0 := hB
 clear hB
 have hC := hS.reads
 simp only [Zz, Zy] at hC
 have m1 : w.heap.size ≠ ps := Nat.ne_of_gt hS.boxes.1.lt
 have m2 : w.heap.size ≠ pv := Nat.ne_of_gt hS.boxes.2.1.lt
 have m3 : w.heap.size ≠ pa := Nat.ne_of_gt hS.boxes.2.2.1.lt
 have m4 : w.heap.size ≠ bs := Nat.ne_of_gt hS.sum.lt
 have q0 : IntKind.i64.wrap 0 = 0 := by decide
 have q1 : IntKind.i64.wrap 1 = 1 := by decide
 have q2 : IntKind.i64.wrap 2 = 2 := by decide
 have q3 : IntKind.i64.wrap 3 = 3 := by decide
 go_enter Tryz.func125, Tryz.ntmps125
 go_wp2_with fail
 refine Zn (St := fun _ _ => True) 21 _ (B := fun b w' => Zt w w' _ b _) (by kernel_rfl) (by kernel_rfl) (Zt.drewW (Zt.alloc (h := hS))) (by exact fun _ _ _ _ _ h => h) ?_
 iterate 9 (apply Zx; (· rfl); (· intro b wb hB Q1 hQ1; have hS := hB; have hC := hS.reads; simp only [Zz, Zy] at hC; go_wp2_with fail; exact hQ1 _ trivial hB); (· exact ⟨_, rfl⟩))
 (apply Zs; (· rfl); (· intro b wb hB Q1 hQ1; go_wp2_with (go_at_call 50; (with_reducible refine (Yj hB HSS.out).mono ?_); rintro e wn ⟨rfl, hN, hM⟩); exact hQ1 _ trivial hN); (· exact ⟨_, rfl⟩))
 iterate 9 (apply Zx; (· rfl); (· intro b wb hB Q1 hQ1; have hS := hB; have hC := hS.reads; simp only [Zz, Zy] at hC; go_wp2_with fail; exact hQ1 _ trivial hB); (· exact ⟨_, rfl⟩))
 (apply Zs; (· rfl); (· intro b wb hB Q1 hQ1; go_wp2_with (go_at_call 50; (with_reducible refine (Yj hB HTT.out).mono ?_); rintro e wn ⟨rfl, hN, hM⟩); exact hQ1 _ trivial hN); (· exact ⟨_, rfl⟩))
 (apply Zs; (· rfl); (· intro b wb hB Q1 hQ1; go_wp2_with (go_at_call 54; (with_reducible refine (add_det hB HUU.out).mono ?_); rintro e wn ⟨rfl, hN, hM⟩); exact hQ1 _ trivial hN); (· exact ⟨_, rfl⟩))
 refine Zv ?_
 intro wz hz
 rw [HFO.out] at hz
 replace hC := hz.reads
 simp only [Zz, Zy] at hC
 go_wp2_with fail
 refine Od ?_ rfl ⟨rfl, ?_, ?_⟩
 ·simp [results, Tryz.results125, go_sem, hC]
 ·refine hB0.call ?_ ?_
  ·repeat' (first
    | exact hz.sm
    | refine Sm.setNew ?_ (by simp) _)
  ·repeat' (first
    | exact hz.sum
    | refine Box.far ?_ (by simp; omega) _)
 ·repeat' (first
   | exact hz.sm
   | refine Sm.setNew ?_ (by simp) _)
theorem Rm {W w : World} {bs ps pa pv : Nat} {bad : Bool} {r : Nat × TypeId × Array Value} {L : List (Nat × TypeId × Array Value)} {a1 a2 a3 b1 b2 b3 c1 c2 c3 d1 d2 d3 x1 x2 x3 y1 y2 y3 z1 z2 z3 : Int} {k : Bool} (hB : Zt W w bs bad ((ps, 99, #[.pointer (some ⟨bs, 0, none⟩)]) :: r :: (pv, 47, #[.int .i64 x1, .int .i64 x2, .int .i64 x3, .int .i64 y1, .int .i64 y2, .int .i64 y3]) :: (pa, 30, #[.int .i64 a1, .int .i64 a2, .int .i64 a3, .int .i64 b1, .int .i64 b2, .int .i64 b3, .int .i64 c1, .int .i64 c2, .int .i64 c3, .int .i64 d1, .int .i64 d2, .int .i64 d3]) :: L)) (hr : Zc ⟨c1, c2, c3⟩ ⟨x1, x2, x3⟩ ⟨d1, d2, d3⟩ ⟨y1, y2, y3⟩ = (⟨z1, z2, z3⟩, k)) : Calls Tryz.prog 125 #[.int .i64 1, .pointer (some ⟨ps, 0, none⟩), .pointer (some ⟨pa, 0, none⟩), .pointer (some ⟨pv, 0, none⟩)] w (fun e w' => e = .returned (.agg #[.int .i64 z1, .int .i64 z2, .int .i64 z3]) ∧ Zt W w' bs (bad || !k) ((ps, 99, #[.pointer (some ⟨bs, 0, none⟩)]) :: r :: (pv, 47, #[.int .i64 x1, .int .i64 x2, .int .i64 x3, .int .i64 y1, .int .i64 y2, .int .i64 y3]) :: (pa, 30, #[.int .i64 a1, .int .i64 a2, .int .i64 a3, .int .i64 b1, .int .i64 b2, .int .i64 b3, .int .i64 c1, .int .i64 c2, .int .i64 c3, .int .i64 d1, .int .i64 d2, .int .i64 d3]) :: L) ∧ Sm bs w w') := by
 have hfo := Vr ⟨c1, c2, c3⟩ ⟨x1, x2, x3⟩ ⟨d1, d2, d3⟩ ⟨y1, y2, y3⟩ bad
 rcases hss : Zu ⟨c1, c2, c3⟩ ⟨x1, x2, x3⟩ with ⟨⟨s1, s2, s3⟩, sk⟩
 rcases htt : Zu ⟨d1, d2, d3⟩ ⟨y1, y2, y3⟩ with ⟨⟨t1, t2, t3⟩, tk⟩
 rcases huu : Ze ⟨s1, s2, s3⟩ ⟨t1, t2, t3⟩ with ⟨⟨u1, u2, u3⟩, uk⟩
 have hf : Zc ⟨c1, c2, c3⟩ ⟨x1, x2, x3⟩ ⟨d1, d2, d3⟩ ⟨y1, y2, y3⟩ = (⟨u1, u2, u3⟩, uk) := by
  unfold Zc
  rw [hss, htt]
  exact huu
 rw [hf, hss, htt] at hfo
 simp only at hfo
 rw [hf] at hr
 simp only [Prod.mk.injEq, Fr.mk.injEq] at hr
 obtain ⟨⟨rfl, rfl, rfl⟩, rfl⟩ := hr
 have HSS := Oi hss
 have HTT := Oi htt
 have HUU := Oi huu
 have HFO := Oi hfo
 clear hss htt huu hfo
 clear hf
 have hS : Zt w w bs bad [(ps, 99, #[.pointer (some ⟨bs, 0, none⟩)]), (pv, 47, #[.int .i64 x1, .int .i64 x2, .int .i64 x3, .int .i64 y1, .int .i64 y2, .int .i64 y3]), (pa, 30, #[.int .i64 a1, .int .i64 a2, .int .i64 a3, .int .i64 b1, .int .i64 b2, .int .i64 b3, .int .i64 c1, .int .i64 c2, .int .i64 c3, .int .i64 d1, .int .i64 d2, .int .i64 d3])] := (((Zt.init hB.sum).put hB.boxes.2.2.2.1 (hB.far _ (.tail _ (.tail _ (.tail _ (.head _)))))).put hB.boxes.2.2.1 (hB.far _ (.tail _ (.tail _ (.head _))))).put hB.boxes.1 (hB.far _ (.head _))
 have hB0 := hB
 clear hB
 have hC := hS.reads
 simp only [Zz, Zy] at hC
 have m1 : w.heap.size ≠ ps := Nat.ne_of_gt hS.boxes.1.lt
 have m2 : w.heap.size ≠ pv := Nat.ne_of_gt hS.boxes.2.1.lt
 have m3 : w.heap.size ≠ pa := Nat.ne_of_gt hS.boxes.2.2.1.lt
 have m4 : w.heap.size ≠ bs := Nat.ne_of_gt hS.sum.lt
 have q0 : IntKind.i64.wrap 0 = 0 := by decide
 have q1 : IntKind.i64.wrap 1 = 1 := by decide
 have q2 : IntKind.i64.wrap 2 = 2 := by decide
 have q3 : IntKind.i64.wrap 3 = 3 := by decide
 go_enter Tryz.func125, Tryz.ntmps125
 go_wp2_with fail
 refine Zn (St := fun _ _ => True) 21 _ (B := fun b w' => Zt w w' _ b _) (by kernel_rfl) (by kernel_rfl) (Zt.drewW (Zt.alloc (h := hS))) (by exact fun _ _ _ _ _ h => h) ?_
 iterate 9 (apply Zx; (· rfl); (· intro b wb hB Q1 hQ1; have hS := hB; have hC := hS.reads; simp only [Zz, Zy] at hC; go_wp2_with fail; exact hQ1 _ trivial hB); (· exact ⟨_, rfl⟩))
 (apply Zs; (· rfl); (· intro b wb hB Q1 hQ1; go_wp2_with (go_at_call 50; (with_reducible refine (Yj hB HSS.out).mono ?_); rintro e wn ⟨rfl, hN, hM⟩); exact hQ1 _ trivial hN); (· exact ⟨_, rfl⟩))
 iterate 9 (apply Zx; (· rfl); (· intro b wb hB Q1 hQ1; have hS := hB; have hC := hS.reads; simp only [Zz, Zy] at hC; go_wp2_with fail; exact hQ1 _ trivial hB); (· exact ⟨_, rfl⟩))
 (apply Zs; (· rfl); (· intro b wb hB Q1 hQ1; go_wp2_with (go_at_call 50; (with_reducible refine (Yj hB HTT.out).mono ?_); rintro e wn ⟨rfl, hN, hM⟩); exact hQ1 _ trivial hN); (· exact ⟨_, rfl⟩))
 (apply Zs; (· rfl); (· intro b wb hB Q1 hQ1; go_wp2_with (go_at_call 54; (with_reducible refine (add_det hB HUU.out).mono ?_); rintro e wn ⟨rfl, hN, hM⟩); exact hQ1 _ trivial hN); (· exact ⟨_, rfl⟩))
 refine Zv ?_
 intro wz hz
 rw [HFO.out] at hz
 replace hC := hz.reads
 simp only [Zz, Zy] at hC
 go_wp2_with fail
 refine Od ?_ rfl ⟨rfl, ?_, ?_⟩
 ·simp [results, Tryz.results125, go_sem, hC]
 ·refine hB0.call ?_ ?_
  ·repeat' (first
    | exact hz.sm
    | refine Sm.setNew ?_ (by simp) _)
  ·repeat' (first
    | exact hz.sum
    | refine Box.far ?_ (by simp; omega) _)
 ·repeat' (first
   | exact hz.sm
   | refine Sm.setNew ?_ (by simp) _)
theorem or2_true {a b : Bool} (h : (a && b) = false) : (((false || !true) || !a) || !b) = true := by
 cases a <;> cases b <;> first | rfl | cases h
theorem or2_no (a b : Bool) : (((false || !false) || !a) || !b) = true := by simp
theorem iMatApply (m : M4) (x y : Fr) (w : World) : Calls Tryz.prog 66 #[m.v, jvv x y] w (fun e w' => e = .returned (v2v (Wi m x y)) ∧ Ex w w') := by
 have kx := fun w => Rf m w
 have ky := fun w => Qn x y w
 unfold Wi two
 generalize m.valid = vx at *
 generalize (x.valid && y.valid) = vy at *
 obtain ⟨⟨a1, a2, a3⟩, ⟨b1, b2, b3⟩, ⟨c1, c2, c3⟩, ⟨d1, d2, d3⟩⟩ := m
 obtain ⟨x1, x2, x3⟩ := x
 obtain ⟨y1, y2, y3⟩ := y
 simp only [M4.v, jvv] at kx ky ⊢
 rcases hss : Zc ⟨a1, a2, a3⟩ ⟨x1, x2, x3⟩ ⟨b1, b2, b3⟩ ⟨y1, y2, y3⟩ with ⟨⟨s1, s2, s3⟩, sk⟩
 rcases htt : Zc ⟨c1, c2, c3⟩ ⟨x1, x2, x3⟩ ⟨d1, d2, d3⟩ ⟨y1, y2, y3⟩ with ⟨⟨t1, t2, t3⟩, tk⟩
 simp only
 rcases vx with _ | _
 ·simp only [v2v, jvv, Fr.none, Bool.false_and, Bool.and_false, Bool.false_eq_true, if_false]
  have HSS := Oi hss
  have HTT := Oi htt
  have KX := Oi kx
  have KY := Oi ky
  clear hss htt kx ky
  have hS := Zw.refl w
  have hC := True.intro
  go_enter Tryz.func66, Tryz.ntmps66
  go_wp2_with (first | (go_at_call 92; (with_reducible refine (KX.out _).mono ?_); rintro e wn ⟨rfl, hx⟩; replace hS := Zt.after (W := w) hx; clear hx; (try simp only [Oh] at hS); replace hC := hS.reads; simp only [Zz, Zy] at hC) | (go_at_call 48; (with_reducible refine (KY.out _).mono ?_); rintro e wn ⟨rfl, hx⟩; replace hS := Zt.after (W := w) hx; clear hx; (try simp only [Oh] at hS); replace hC := hS.reads; simp only [Zz, Zy] at hC) | (go_at_call 47; (with_reducible refine (Xd w).mono ?_); rintro e wn ⟨rfl, hS⟩; have hC := hS.reads; simp only [Zz, Zy] at hC))
  refine Zn (St := fun _ _ => True) 6 _ (B := fun b w' => Zt w w' _ b _) (by kernel_rfl) (by kernel_rfl) ((Zt.alloc (h := hS)).drewW) (by exact fun _ _ _ _ _ h => h) ?_
  iterate 2 (apply Zx; (· rfl); (· intro b wb hB Q1 hQ1; have hS := hB; have hC := hS.reads; simp only [Zz, Zy] at hC; go_wp2_with fail; exact hQ1 _ trivial hB); (· exact ⟨_, rfl⟩))
  (apply Zs; (· rfl); (· intro b wb hB Q1 hQ1; go_wp2_with (go_at_call 125; (with_reducible refine (Rn hB HSS.out).mono ?_); rintro e wn ⟨rfl, hN, hM⟩); exact hQ1 _ trivial hN); (· exact ⟨_, rfl⟩))
  (apply Zx; (· rfl); (· intro b wb hB Q1 hQ1; go_wp2_with fail; exact hQ1 _ trivial hB); (· exact ⟨_, rfl⟩))
  (apply Zs; (· rfl); (· intro b wb hB Q1 hQ1; go_wp2_with (go_at_call 125; (with_reducible refine (Rm hB HTT.out).mono ?_); rintro e wn ⟨rfl, hN, hM⟩); exact hQ1 _ trivial hN); (· exact ⟨_, rfl⟩))
  (apply Zx; (· rfl); (· intro b wb hB Q1 hQ1; go_wp2_with fail; exact hQ1 _ trivial hB); (· exact ⟨_, rfl⟩))
  refine Zv ?_
  intro wz hz
  rw [or2_no] at hz
  go_wp2_with (go_at_call 126; (with_reducible refine (Ut _ _ _ _ _ _ _ _ hz.sum).mono ?_); rintro e wn ⟨rfl, hx⟩; have hS := Zt.ex hz hx; have hC := hS.reads; simp only [Zz, Zy] at hC; have hE := hS.rel (by omega))
  refine Od ?_ rfl ⟨rfl, ?_⟩
  ·simp [results, Tryz.results66, go_sem, hC]
  ·repeat' (with_reducible first | exact hE | exact Ex.refl _ | assumption | apply Ex.alloc | apply Ex.drewN | apply Ex.drew | refine Ex.setCell ?_ (by simp <;> omega) _)
 ·rcases vy with _ | _
  ·simp only [v2v, jvv, Fr.none, Bool.false_and, Bool.and_false, Bool.false_eq_true, if_false]
   have HSS := Oi hss
   have HTT := Oi htt
   have KX := Oi kx
   have KY := Oi ky
   clear hss htt kx ky
   have hS := Zw.refl w
   have hC := True.intro
   go_enter Tryz.func66, Tryz.ntmps66
   go_wp2_with (first | (go_at_call 92; (with_reducible refine (KX.out _).mono ?_); rintro e wn ⟨rfl, hx⟩; replace hS := Zt.after (W := w) hx; clear hx; (try simp only [Oh] at hS); replace hC := hS.reads; simp only [Zz, Zy] at hC) | (go_at_call 48; (with_reducible refine (KY.out _).mono ?_); rintro e wn ⟨rfl, hx⟩; replace hS := Zt.after (W := w) hx; clear hx; (try simp only [Oh] at hS); replace hC := hS.reads; simp only [Zz, Zy] at hC) | (go_at_call 47; (with_reducible refine (Xd w).mono ?_); rintro e wn ⟨rfl, hS⟩; have hC := hS.reads; simp only [Zz, Zy] at hC))
   refine Zn (St := fun _ _ => True) 6 _ (B := fun b w' => Zt w w' _ b _) (by kernel_rfl) (by kernel_rfl) ((Zt.alloc (h := hS)).drewW) (by exact fun _ _ _ _ _ h => h) ?_
   iterate 2 (apply Zx; (· rfl); (· intro b wb hB Q1 hQ1; have hS := hB; have hC := hS.reads; simp only [Zz, Zy] at hC; go_wp2_with fail; exact hQ1 _ trivial hB); (· exact ⟨_, rfl⟩))
   (apply Zs; (· rfl); (· intro b wb hB Q1 hQ1; go_wp2_with (go_at_call 125; (with_reducible refine (Rn hB HSS.out).mono ?_); rintro e wn ⟨rfl, hN, hM⟩); exact hQ1 _ trivial hN); (· exact ⟨_, rfl⟩))
   (apply Zx; (· rfl); (· intro b wb hB Q1 hQ1; go_wp2_with fail; exact hQ1 _ trivial hB); (· exact ⟨_, rfl⟩))
   (apply Zs; (· rfl); (· intro b wb hB Q1 hQ1; go_wp2_with (go_at_call 125; (with_reducible refine (Rm hB HTT.out).mono ?_); rintro e wn ⟨rfl, hN, hM⟩); exact hQ1 _ trivial hN); (· exact ⟨_, rfl⟩))
   (apply Zx; (· rfl); (· intro b wb hB Q1 hQ1; go_wp2_with fail; exact hQ1 _ trivial hB); (· exact ⟨_, rfl⟩))
   refine Zv ?_
   intro wz hz
   rw [or2_no] at hz
   go_wp2_with (go_at_call 126; (with_reducible refine (Ut _ _ _ _ _ _ _ _ hz.sum).mono ?_); rintro e wn ⟨rfl, hx⟩; have hS := Zt.ex hz hx; have hC := hS.reads; simp only [Zz, Zy] at hC; have hE := hS.rel (by omega))
   refine Od ?_ rfl ⟨rfl, ?_⟩
   ·simp [results, Tryz.results66, go_sem, hC]
   ·repeat' (with_reducible first | exact hE | exact Ex.refl _ | assumption | apply Ex.alloc | apply Ex.drewN | apply Ex.drew | refine Ex.setCell ?_ (by simp <;> omega) _)
  ·rcases hK : (sk && tk) with _ | _
   ·have HK := Oi (or2_true hK)
    have e : (true && true && sk && tk) = false := by rw [Bool.and_self, Bool.true_and]; exact hK
    rw [e]
    simp only [v2v, jvv, Fr.none, Bool.false_eq_true, if_false]
    clear e hK
    have HSS := Oi hss
    have HTT := Oi htt
    have KX := Oi kx
    have KY := Oi ky
    clear hss htt kx ky
    have hS := Zw.refl w
    have hC := True.intro
    go_enter Tryz.func66, Tryz.ntmps66
    go_wp2_with (first | (go_at_call 92; (with_reducible refine (KX.out _).mono ?_); rintro e wn ⟨rfl, hx⟩; replace hS := Zt.after (W := w) hx; clear hx; (try simp only [Oh] at hS); replace hC := hS.reads; simp only [Zz, Zy] at hC) | (go_at_call 48; (with_reducible refine (KY.out _).mono ?_); rintro e wn ⟨rfl, hx⟩; replace hS := Zt.after (W := w) hx; clear hx; (try simp only [Oh] at hS); replace hC := hS.reads; simp only [Zz, Zy] at hC) | (go_at_call 47; (with_reducible refine (Xd w).mono ?_); rintro e wn ⟨rfl, hS⟩; have hC := hS.reads; simp only [Zz, Zy] at hC))
    refine Zn (St := fun _ _ => True) 6 _ (B := fun b w' => Zt w w' _ b _) (by kernel_rfl) (by kernel_rfl) ((Zt.alloc (h := hS)).drewW) (by exact fun _ _ _ _ _ h => h) ?_
    iterate 2 (apply Zx; (· rfl); (· intro b wb hB Q1 hQ1; have hS := hB; have hC := hS.reads; simp only [Zz, Zy] at hC; go_wp2_with fail; exact hQ1 _ trivial hB); (· exact ⟨_, rfl⟩))
    (apply Zs; (· rfl); (· intro b wb hB Q1 hQ1; go_wp2_with (go_at_call 125; (with_reducible refine (Rn hB HSS.out).mono ?_); rintro e wn ⟨rfl, hN, hM⟩); exact hQ1 _ trivial hN); (· exact ⟨_, rfl⟩))
    (apply Zx; (· rfl); (· intro b wb hB Q1 hQ1; go_wp2_with fail; exact hQ1 _ trivial hB); (· exact ⟨_, rfl⟩))
    (apply Zs; (· rfl); (· intro b wb hB Q1 hQ1; go_wp2_with (go_at_call 125; (with_reducible refine (Rm hB HTT.out).mono ?_); rintro e wn ⟨rfl, hN, hM⟩); exact hQ1 _ trivial hN); (· exact ⟨_, rfl⟩))
    (apply Zx; (· rfl); (· intro b wb hB Q1 hQ1; go_wp2_with fail; exact hQ1 _ trivial hB); (· exact ⟨_, rfl⟩))
    refine Zv ?_
    intro wz hz
    rw [HK.out] at hz
    go_wp2_with (go_at_call 126; (with_reducible refine (Ut _ _ _ _ _ _ _ _ hz.sum).mono ?_); rintro e wn ⟨rfl, hx⟩; have hS := Zt.ex hz hx; have hC := hS.reads; simp only [Zz, Zy] at hC; have hE := hS.rel (by omega))
    refine Od ?_ rfl ⟨rfl, ?_⟩
    ·simp [results, Tryz.results66, go_sem, hC]
    ·repeat' (with_reducible first | exact hE | exact Ex.refl _ | assumption | apply Ex.alloc | apply Ex.drewN | apply Ex.drew | refine Ex.setCell ?_ (by simp <;> omega) _)
   ·simp only [Bool.and_eq_true] at hK
    obtain ⟨rfl, rfl⟩ := hK
    simp only [v2v, jvv, Bool.and_self, if_true]
    have HSS := Oi hss
    have HTT := Oi htt
    have KX := Oi kx
    have KY := Oi ky
    clear hss htt kx ky
    have hS := Zw.refl w
    have hC := True.intro
    go_enter Tryz.func66, Tryz.ntmps66
    go_wp2_with (first | (go_at_call 92; (with_reducible refine (KX.out _).mono ?_); rintro e wn ⟨rfl, hx⟩; replace hS := Zt.after (W := w) hx; clear hx; (try simp only [Oh] at hS); replace hC := hS.reads; simp only [Zz, Zy] at hC) | (go_at_call 48; (with_reducible refine (KY.out _).mono ?_); rintro e wn ⟨rfl, hx⟩; replace hS := Zt.after (W := w) hx; clear hx; (try simp only [Oh] at hS); replace hC := hS.reads; simp only [Zz, Zy] at hC) | (go_at_call 47; (with_reducible refine (Xd w).mono ?_); rintro e wn ⟨rfl, hS⟩; have hC := hS.reads; simp only [Zz, Zy] at hC))
    refine Zn (St := fun _ _ => True) 6 _ (B := fun b w' => Zt w w' _ b _) (by kernel_rfl) (by kernel_rfl) ((Zt.alloc (h := hS)).drewW) (by exact fun _ _ _ _ _ h => h) ?_
    iterate 2 (apply Zx; (· rfl); (· intro b wb hB Q1 hQ1; have hS := hB; have hC := hS.reads; simp only [Zz, Zy] at hC; go_wp2_with fail; exact hQ1 _ trivial hB); (· exact ⟨_, rfl⟩))
    (apply Zs; (· rfl); (· intro b wb hB Q1 hQ1; go_wp2_with (go_at_call 125; (with_reducible refine (Rn hB HSS.out).mono ?_); rintro e wn ⟨rfl, hN, hM⟩); exact hQ1 _ trivial hN); (· exact ⟨_, rfl⟩))
    (apply Zx; (· rfl); (· intro b wb hB Q1 hQ1; go_wp2_with fail; exact hQ1 _ trivial hB); (· exact ⟨_, rfl⟩))
    (apply Zs; (· rfl); (· intro b wb hB Q1 hQ1; go_wp2_with (go_at_call 125; (with_reducible refine (Rm hB HTT.out).mono ?_); rintro e wn ⟨rfl, hN, hM⟩); exact hQ1 _ trivial hN); (· exact ⟨_, rfl⟩))
    (apply Zx; (· rfl); (· intro b wb hB Q1 hQ1; go_wp2_with fail; exact hQ1 _ trivial hB); (· exact ⟨_, rfl⟩))
    refine Zv ?_
    intro wz hz
    replace hz : Zt w wz _ false _ := hz
    go_wp2_with (go_at_call 126; (with_reducible refine (Pi _ _ _ _ _ _ _ _ hz.sum).mono ?_); rintro e wn ⟨rfl, hx⟩; have hS := Zt.ex hz hx; have hC := hS.reads; simp only [Zz, Zy] at hC; have hE := hS.rel (by omega))
    refine Od ?_ rfl ⟨rfl, ?_⟩
    ·simp [results, Tryz.results66, go_sem, hC]
    ·repeat' (with_reducible first | exact hE | exact Ex.refl _ | assumption | apply Ex.alloc | apply Ex.drewN | apply Ex.drew | refine Ex.setCell ?_ (by simp <;> omega) _)
end
end Go.Proofs.YtmjggolkopbcnaaGreatDoor
