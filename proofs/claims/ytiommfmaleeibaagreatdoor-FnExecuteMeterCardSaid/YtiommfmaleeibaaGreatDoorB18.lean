/-
  Proved: what functions compute, part 18. No condition.
-/
import Derived.Test.YtiommfmaleeibaaGreatDoorB17
import Derived.Test.YtiommfmaleeibaaGreatDoorB12
import Derived.Test.YtiommfmaleeibaaGreatDoorB15
import Derived.Test.YtiommfmaleeibaaGreatDoorB05
set_option linter.unusedSimpArgs false
set_option linter.unusedVariables false
set_option maxRecDepth 20000
set_option maxHeartbeats 8000000
namespace Go.Proofs.YtiommfmaleeibaaGreatDoor
section
open Go.RowKit

attribute [local go_sem] Zi Zh
theorem iOpposite (f1 f2 f3 : Int) (h1 : -2000000000 ≤ f1 ∧ f1 ≤ 2000000000) (h2 : -2000000000 ≤ f2 ∧ f2 ≤ 2000000000) (w : World) : Calls Tryz.prog 168 #[.agg #[.int .i64 f1, .int .i64 f2, .int .i64 f3]] w (fun e w' => e = .returned (.agg #[.int .i64 (-f1), .int .i64 (-f2), .int .i64 f3]) ∧ Ex w w') := by
 have w1 := Kq (-f1) (by omega)
 have w2 := Kq (-f2) (by omega)
 have hS := Zw.refl w
 have hC := True.intro
 go_enter Tryz.func168, Tryz.ntmps168
 go_wp2
 refine Kr ?_ rfl ⟨rfl, ?_⟩
 ·simp [results, Tryz.results168, go_sem, hC]
 ·repeat' (with_reducible first | exact hS.ex | exact Ex.refl _ | assumption | apply Ex.alloc | apply Ex.drewN | apply Ex.drew | refine Ex.setCell ?_ (by simp <;> omega) _)
theorem Va (p q : Int) (w : World) : Calls Tryz.prog 91 #[.int .i64 p, .int .i64 q] w (fun e w' => e = .returned (m4v (Yt p q)) ∧ Ex w w') := by
 have kd := fun w => Uv p q w
 rcases h : Xd p q with _ | _
 ·have e : Yt p q = (M4.none, false) := by simp [Yt, h]
  rw [e]
  simp only [Un, h, Bool.false_eq_true, if_false, Fr.none, Fr.v] at kd
  simp only [m4v, M4.v, M4.none, Fr.none]
  clear e h
  have KD := Kw kd
  clear kd
  have hS := Zw.refl w
  have hC := True.intro
  go_enter Tryz.func91, Tryz.ntmps91
  go_wp2_with (go_at_call 94; (with_reducible refine (KD.out _).mono ?_); rintro e w1 ⟨rfl, hx⟩; replace hS := Zw.after (W := w) hx; clear hx; replace hC := hS.reads; simp only [Zz, Zy, Kv] at hC)
  refine Kr ?_ rfl ⟨rfl, ?_⟩
  ·simp [results, Tryz.results91, go_sem, hC]
  ·repeat' (with_reducible first | exact hS.ex | exact Ex.refl _ | assumption | apply Ex.alloc | apply Ex.drewN | apply Ex.drew | refine Ex.setCell ?_ (by simp <;> omega) _)
 ·have e : Yt p q = (⟨Vx p q, fneg (Vw p q), Vw p q, Vx p q⟩, true) := by simp [Yt, h]
  rw [e]
  simp only [Un, h, if_true] at kd
  obtain ⟨-, v2, -, i2⟩ := dir_ok h
  generalize Vx p q = c at *
  generalize Vw p q = s at *
  obtain ⟨c1, c2, c3⟩ := c
  obtain ⟨s1, s2, s3⟩ := s
  obtain ⟨q1, q2, -, -⟩ := Fr.valid_out v2
  simp only at q1 q2
  have ko := fun w => iOpposite s1 s2 s3 q1 q2 w
  simp only [Fr.v] at kd
  simp only [m4v, M4.v, fneg]
  clear e h v2 i2
  have KD := Kw kd
  have KO := Kw ko
  clear kd ko
  have hS := Zw.refl w
  have hC := True.intro
  go_enter Tryz.func91, Tryz.ntmps91
  go_wp2_with (go_at_call 94; (with_reducible refine (KD.out _).mono ?_); rintro e w1 ⟨rfl, hx⟩; replace hS := Zw.after (W := w) hx; clear hx; replace hC := hS.reads; simp only [Zz, Zy, Kv] at hC)
  refine Zd (St := fun _ _ => True) 7 false (B := fun _ w' => Zw w w' [(w1.heap.size + 1, 30, #[.int .i64 s1, .int .i64 s2, .int .i64 s3]), (w1.heap.size, 30, #[.int .i64 c1, .int .i64 c2, .int .i64 c3]), (w.heap.size, 79, #[.int .i64 0, .int .i64 0, .int .i64 0, .int .i64 0, .int .i64 0, .int .i64 0, .int .i64 0, .int .i64 0, .int .i64 0, .int .i64 0, .int .i64 0, .int .i64 0])]) (by kernel_rfl) (by kernel_rfl) (Zw.drewW (Zw.cast (by simp only [Kv]))) (by exact fun _ _ _ _ _ h => h) ?_
  iterate 2 (apply Zx; (· rfl); (· intro b wb hB Q1 hQ1; have hS := hB; have hC := hS.reads; simp only [Zz, Zy] at hC; go_wp2_with fail; exact hQ1 _ trivial hB); (· exact ⟨_, rfl⟩))
  (apply Zx; (· rfl); (· intro b wb hB Q1 hQ1; go_wp2_with (go_at_call 168; (with_reducible refine (KO.out _).mono ?_); rintro e wn ⟨rfl, hx⟩); exact hQ1 _ trivial (hB.go hx)); (· exact ⟨_, rfl⟩))
  iterate 4 (apply Zx; (· rfl); (· intro b wb hB Q1 hQ1; have hS := hB; have hC := hS.reads; simp only [Zz, Zy] at hC; go_wp2_with fail; exact hQ1 _ trivial hB); (· exact ⟨_, rfl⟩))
  refine Zq ?_
  intro wz hz
  have hS := hz
  have hC := hS.reads
  simp only [Zz, Zy] at hC
  clear hz
  go_wp2_with fail
  refine Kr ?_ rfl ⟨rfl, ?_⟩
  ·simp [results, Tryz.results91, go_sem, hC]
  ·repeat' (with_reducible first | exact hS.ex | exact Ex.refl _ | assumption | apply Ex.alloc | apply Ex.drewN | apply Ex.drew | refine Ex.setCell ?_ (by simp <;> omega) _)
theorem Ma (p q : Int) (w : World) : Calls Tryz.prog 38 #[.int .i64 p, .int .i64 q] w (fun e w' => e = .returned (m4v (Yb p q)) ∧ Ex w w') := by
 have kd := fun w => Uv p q w
 rcases h : Xd p q with _ | _
 ·have e : Yb p q = (M4.none, false) := by simp [Yb, h]
  rw [e]
  simp only [Un, h, Bool.false_eq_true, if_false, Fr.none, Fr.v] at kd
  simp only [m4v, M4.v, M4.none, Fr.none]
  clear e h
  have HZ : Hid (Zu ⟨0, 0, 0⟩ ⟨0, 0, 0⟩ = (⟨0, 0, 0⟩, false)) := Kw (by decide)
  have KD := Kw kd
  clear kd
  have hS := Zw.refl w
  have hC := True.intro
  go_enter Tryz.func38, Tryz.ntmps38
  go_wp2_with (first | (go_at_call 94; (with_reducible refine (KD.out _).mono ?_); rintro e w1 ⟨rfl, hx⟩; replace hS := Zw.after (W := w) hx; clear hx; replace hC := hS.reads; simp only [Zz, Zy, Kv] at hC) | (go_at_call 46; (with_reducible refine (Up w (h := Zt.cast (by simp only [Kv]) rfl)).mono ?_); rintro e wn ⟨rfl, hS⟩; (try simp only [Kv] at hS); have hC := hS.reads; simp only [Zz, Zy] at hC))
  refine Zd (St := fun _ _ => True) 19 _ (B := fun b w' => Zt w w' _ b _) (by kernel_rfl) (by kernel_rfl) (hS.drewW) (by exact fun _ _ _ _ _ h => h) ?_
  iterate 4 (apply Zx; (· rfl); (· intro b wb hB Q1 hQ1; have hS := hB; have hC := hS.reads; simp only [Zz, Zy] at hC; go_wp2_with fail; exact hQ1 _ trivial hB); (· exact ⟨_, rfl⟩))
  (apply Zp; (· rfl); (· intro b wb hB Q1 hQ1; go_wp2_with (go_at_call 49; (with_reducible refine (Ye hB HZ.out).mono ?_); rintro e wn ⟨rfl, hN, hM⟩); exact hQ1 _ trivial hN); (· exact ⟨_, rfl⟩))
  iterate 3 (apply Zx; (· rfl); (· intro b wb hB Q1 hQ1; have hS := hB; have hC := hS.reads; simp only [Zz, Zy] at hC; go_wp2_with fail; exact hQ1 _ trivial hB); (· exact ⟨_, rfl⟩))
  (apply Zp; (· rfl); (· intro b wb hB Q1 hQ1; go_wp2_with (go_at_call 49; (with_reducible refine (Ye hB HZ.out).mono ?_); rintro e wn ⟨rfl, hN, hM⟩); exact hQ1 _ trivial hN); (· exact ⟨_, rfl⟩))
  iterate 3 (apply Zx; (· rfl); (· intro b wb hB Q1 hQ1; have hS := hB; have hC := hS.reads; simp only [Zz, Zy] at hC; go_wp2_with fail; exact hQ1 _ trivial hB); (· exact ⟨_, rfl⟩))
  (apply Zp; (· rfl); (· intro b wb hB Q1 hQ1; go_wp2_with (go_at_call 49; (with_reducible refine (Ye hB HZ.out).mono ?_); rintro e wn ⟨rfl, hN, hM⟩); exact hQ1 _ trivial hN); (· exact ⟨_, rfl⟩))
  iterate 3 (apply Zx; (· rfl); (· intro b wb hB Q1 hQ1; have hS := hB; have hC := hS.reads; simp only [Zz, Zy] at hC; go_wp2_with fail; exact hQ1 _ trivial hB); (· exact ⟨_, rfl⟩))
  (apply Zp; (· rfl); (· intro b wb hB Q1 hQ1; go_wp2_with (go_at_call 49; (with_reducible refine (Ye hB HZ.out).mono ?_); rintro e wn ⟨rfl, hN, hM⟩); exact hQ1 _ trivial hN); (· exact ⟨_, rfl⟩))
  iterate 2 (apply Zx; (· rfl); (· intro b wb hB Q1 hQ1; go_wp2_with fail; exact hQ1 _ trivial hB); (· exact ⟨_, rfl⟩))
  refine Zq ?_
  intro wz hz
  rw [or4_no] at hz
  go_wp2_with (go_at_call 95; (with_reducible refine (Vc _ _ _ _ _ _ _ _ _ _ _ _ _ _ hz.sum).mono ?_); rintro e wn ⟨rfl, hx⟩; have hS := Zt.ex hz hx; have hC := hS.reads; simp only [Zz, Zy] at hC; have hE := hS.rel (by omega))
  refine Kr ?_ rfl ⟨rfl, ?_⟩
  ·simp [results, Tryz.results38, go_sem, hC]
  ·repeat' (with_reducible first | exact hE | exact Ex.refl _ | assumption | apply Ex.alloc | apply Ex.drewN | apply Ex.drew | refine Ex.setCell ?_ (by simp <;> omega) _)
 ·have e : Yb p q = Po (Zu (Vx p q) (Vx p q)) (Zu (Vx p q) (Vw p q)) (Zu (Vx p q) (Vw p q)) (Zu (Vw p q) (Vw p q)) true := by simp [Yb, h]
  rw [e]
  unfold Po
  simp only [Un, h, if_true] at kd
  clear e h
  generalize Vx p q = c at *
  generalize Vw p q = d at *
  obtain ⟨c1, c2, c3⟩ := c
  obtain ⟨d1, d2, d3⟩ := d
  rcases hss : Zu ⟨c1, c2, c3⟩ ⟨c1, c2, c3⟩ with ⟨⟨s1, s2, s3⟩, sk⟩
  rcases htt : Zu ⟨c1, c2, c3⟩ ⟨d1, d2, d3⟩ with ⟨⟨t1, t2, t3⟩, tk⟩
  rcases huu : Zu ⟨d1, d2, d3⟩ ⟨d1, d2, d3⟩ with ⟨⟨u1, u2, u3⟩, uk⟩
  simp only [Fr.v] at kd
  rcases hK : (sk && tk && tk && uk) with _ | _
  ·have HK := Kw (or4_true hK)
   have e : (true && sk && tk && tk && uk) = false := by rw [Bool.true_and]; exact hK
   rw [e]
   simp only [m4v, M4.v, M4.none, Fr.none, Bool.false_eq_true, if_false]
   clear e hK
   have KD := Kw kd
   have HSS := Kw hss
   have HTT := Kw htt
   have HUU := Kw huu
   clear kd hss htt huu
   have hS := Zw.refl w
   have hC := True.intro
   go_enter Tryz.func38, Tryz.ntmps38
   go_wp2_with (first | (go_at_call 94; (with_reducible refine (KD.out _).mono ?_); rintro e w1 ⟨rfl, hx⟩; replace hS := Zw.after (W := w) hx; clear hx; replace hC := hS.reads; simp only [Zz, Zy, Kv] at hC) | (go_at_call 46; (with_reducible refine (Up w (h := Zt.cast (by simp only [Kv]) rfl)).mono ?_); rintro e wn ⟨rfl, hS⟩; (try simp only [Kv] at hS); have hC := hS.reads; simp only [Zz, Zy] at hC))
   refine Zd (St := fun _ _ => True) 19 _ (B := fun b w' => Zt w w' _ b _) (by kernel_rfl) (by kernel_rfl) (hS.drewW) (by exact fun _ _ _ _ _ h => h) ?_
   iterate 4 (apply Zx; (· rfl); (· intro b wb hB Q1 hQ1; have hS := hB; have hC := hS.reads; simp only [Zz, Zy] at hC; go_wp2_with fail; exact hQ1 _ trivial hB); (· exact ⟨_, rfl⟩))
   (apply Zp; (· rfl); (· intro b wb hB Q1 hQ1; go_wp2_with (go_at_call 49; (with_reducible refine (Ye hB HSS.out).mono ?_); rintro e wn ⟨rfl, hN, hM⟩); exact hQ1 _ trivial hN); (· exact ⟨_, rfl⟩))
   iterate 3 (apply Zx; (· rfl); (· intro b wb hB Q1 hQ1; have hS := hB; have hC := hS.reads; simp only [Zz, Zy] at hC; go_wp2_with fail; exact hQ1 _ trivial hB); (· exact ⟨_, rfl⟩))
   (apply Zp; (· rfl); (· intro b wb hB Q1 hQ1; go_wp2_with (go_at_call 49; (with_reducible refine (Ye hB HTT.out).mono ?_); rintro e wn ⟨rfl, hN, hM⟩); exact hQ1 _ trivial hN); (· exact ⟨_, rfl⟩))
   iterate 3 (apply Zx; (· rfl); (· intro b wb hB Q1 hQ1; have hS := hB; have hC := hS.reads; simp only [Zz, Zy] at hC; go_wp2_with fail; exact hQ1 _ trivial hB); (· exact ⟨_, rfl⟩))
   (apply Zp; (· rfl); (· intro b wb hB Q1 hQ1; go_wp2_with (go_at_call 49; (with_reducible refine (Ye hB HTT.out).mono ?_); rintro e wn ⟨rfl, hN, hM⟩); exact hQ1 _ trivial hN); (· exact ⟨_, rfl⟩))
   iterate 3 (apply Zx; (· rfl); (· intro b wb hB Q1 hQ1; have hS := hB; have hC := hS.reads; simp only [Zz, Zy] at hC; go_wp2_with fail; exact hQ1 _ trivial hB); (· exact ⟨_, rfl⟩))
   (apply Zp; (· rfl); (· intro b wb hB Q1 hQ1; go_wp2_with (go_at_call 49; (with_reducible refine (Ye hB HUU.out).mono ?_); rintro e wn ⟨rfl, hN, hM⟩); exact hQ1 _ trivial hN); (· exact ⟨_, rfl⟩))
   iterate 2 (apply Zx; (· rfl); (· intro b wb hB Q1 hQ1; go_wp2_with fail; exact hQ1 _ trivial hB); (· exact ⟨_, rfl⟩))
   refine Zq ?_
   intro wz hz
   rw [HK.out] at hz
   go_wp2_with (go_at_call 95; (with_reducible refine (Vc _ _ _ _ _ _ _ _ _ _ _ _ _ _ hz.sum).mono ?_); rintro e wn ⟨rfl, hx⟩; have hS := Zt.ex hz hx; have hC := hS.reads; simp only [Zz, Zy] at hC; have hE := hS.rel (by omega))
   refine Kr ?_ rfl ⟨rfl, ?_⟩
   ·simp [results, Tryz.results38, go_sem, hC]
   ·repeat' (with_reducible first | exact hE | exact Ex.refl _ | assumption | apply Ex.alloc | apply Ex.drewN | apply Ex.drew | refine Ex.setCell ?_ (by simp <;> omega) _)
  ·simp only [Bool.and_eq_true] at hK
   obtain ⟨⟨⟨rfl, rfl⟩, -⟩, rfl⟩ := hK
   simp only [m4v, M4.v, Bool.and_self, if_true]
   have KD := Kw kd
   have HSS := Kw hss
   have HTT := Kw htt
   have HUU := Kw huu
   clear kd hss htt huu
   have hS := Zw.refl w
   have hC := True.intro
   go_enter Tryz.func38, Tryz.ntmps38
   go_wp2_with (first | (go_at_call 94; (with_reducible refine (KD.out _).mono ?_); rintro e w1 ⟨rfl, hx⟩; replace hS := Zw.after (W := w) hx; clear hx; replace hC := hS.reads; simp only [Zz, Zy, Kv] at hC) | (go_at_call 46; (with_reducible refine (Up w (h := Zt.cast (by simp only [Kv]) rfl)).mono ?_); rintro e wn ⟨rfl, hS⟩; (try simp only [Kv] at hS); have hC := hS.reads; simp only [Zz, Zy] at hC))
   refine Zd (St := fun _ _ => True) 19 _ (B := fun b w' => Zt w w' _ b _) (by kernel_rfl) (by kernel_rfl) (hS.drewW) (by exact fun _ _ _ _ _ h => h) ?_
   iterate 4 (apply Zx; (· rfl); (· intro b wb hB Q1 hQ1; have hS := hB; have hC := hS.reads; simp only [Zz, Zy] at hC; go_wp2_with fail; exact hQ1 _ trivial hB); (· exact ⟨_, rfl⟩))
   (apply Zp; (· rfl); (· intro b wb hB Q1 hQ1; go_wp2_with (go_at_call 49; (with_reducible refine (Ye hB HSS.out).mono ?_); rintro e wn ⟨rfl, hN, hM⟩); exact hQ1 _ trivial hN); (· exact ⟨_, rfl⟩))
   iterate 3 (apply Zx; (· rfl); (· intro b wb hB Q1 hQ1; have hS := hB; have hC := hS.reads; simp only [Zz, Zy] at hC; go_wp2_with fail; exact hQ1 _ trivial hB); (· exact ⟨_, rfl⟩))
   (apply Zp; (· rfl); (· intro b wb hB Q1 hQ1; go_wp2_with (go_at_call 49; (with_reducible refine (Ye hB HTT.out).mono ?_); rintro e wn ⟨rfl, hN, hM⟩); exact hQ1 _ trivial hN); (· exact ⟨_, rfl⟩))
   iterate 3 (apply Zx; (· rfl); (· intro b wb hB Q1 hQ1; have hS := hB; have hC := hS.reads; simp only [Zz, Zy] at hC; go_wp2_with fail; exact hQ1 _ trivial hB); (· exact ⟨_, rfl⟩))
   (apply Zp; (· rfl); (· intro b wb hB Q1 hQ1; go_wp2_with (go_at_call 49; (with_reducible refine (Ye hB HTT.out).mono ?_); rintro e wn ⟨rfl, hN, hM⟩); exact hQ1 _ trivial hN); (· exact ⟨_, rfl⟩))
   iterate 3 (apply Zx; (· rfl); (· intro b wb hB Q1 hQ1; have hS := hB; have hC := hS.reads; simp only [Zz, Zy] at hC; go_wp2_with fail; exact hQ1 _ trivial hB); (· exact ⟨_, rfl⟩))
   (apply Zp; (· rfl); (· intro b wb hB Q1 hQ1; go_wp2_with (go_at_call 49; (with_reducible refine (Ye hB HUU.out).mono ?_); rintro e wn ⟨rfl, hN, hM⟩); exact hQ1 _ trivial hN); (· exact ⟨_, rfl⟩))
   iterate 2 (apply Zx; (· rfl); (· intro b wb hB Q1 hQ1; go_wp2_with fail; exact hQ1 _ trivial hB); (· exact ⟨_, rfl⟩))
   refine Zq ?_
   intro wz hz
   replace hz : Zt w wz _ false _ := hz
   go_wp2_with (go_at_call 95; (with_reducible refine (Sp _ _ _ _ _ _ _ _ _ _ _ _ _ _ hz.sum).mono ?_); rintro e wn ⟨rfl, hx⟩; have hS := Zt.ex hz hx; have hC := hS.reads; simp only [Zz, Zy] at hC; have hE := hS.rel (by omega))
   refine Kr ?_ rfl ⟨rfl, ?_⟩
   ·simp [results, Tryz.results38, go_sem, hC]
   ·repeat' (with_reducible first | exact hE | exact Ex.refl _ | assumption | apply Ex.alloc | apply Ex.drewN | apply Ex.drew | refine Ex.setCell ?_ (by simp <;> omega) _)
end
section
open Go.RowKit

attribute [local go_sem] Zi Zh
section
variable {W w : World} {bs : Nat} {b : Bool} {L : List (Nat × TypeId × Array Value)} {a1 a2 a3 b1 b2 b3 x y z s : Int} {k : Bool}
theorem Od {f : FuncId} {args : Array Value} {r : Fr × Bool} (hB : Zr W w bs (!b) L) (hc : Calls Tryz.prog f args w (Xk bs (!b) w r)) (hr : r = (⟨x, y, z⟩, k)) :
  Calls Tryz.prog f args w fun e w' => e = .returned (.agg #[.int .i64 x, .int .i64 y, .int .i64 z]) ∧ Zr W w' bs (!(b || !k)) L ∧ SmO bs w w' := by
 subst hr
 refine hc.mono ?_
 rintro e w' ⟨rfl, hs, hb⟩
 refine ⟨rfl, ?_, hs⟩
 rw [Bool.not_or, Bool.not_not]
 exact hB.call hs hb
theorem Ux (hB : Zr W w bs (!b) L) (hr : Zk ⟨a1, a2, a3⟩ ⟨b1, b2, b3⟩ = (⟨x, y, z⟩, k)) : Calls Tryz.prog 176 #[.pointer (some ⟨bs, 0, none⟩), .agg #[.int .i64 a1, .int .i64 a2, .int .i64 a3], .agg #[.int .i64 b1, .int .i64 b2, .int .i64 b3]] w fun e w' => e = .returned (.agg #[.int .i64 x, .int .i64 y, .int .i64 z]) ∧ Zr W w' bs (!(b || !k)) L ∧ SmO bs w w' := Od hB (l6tPair_any bs (!b) ⟨a1, a2, a3⟩ ⟨b1, b2, b3⟩ w hB.sum) hr
theorem Oc (hs : s = 1 ∨ s = -1) (hB : Zr W w bs (!b) L) (hr : Yu s ⟨a1, a2, a3⟩ ⟨b1, b2, b3⟩ = (⟨x, y, z⟩, k)) : Calls Tryz.prog 177 #[.pointer (some ⟨bs, 0, none⟩), .agg #[.int .i64 a1, .int .i64 a2, .int .i64 a3], .int .i64 s, .agg #[.int .i64 b1, .int .i64 b2, .int .i64 b3]] w fun e w' => e = .returned (.agg #[.int .i64 x, .int .i64 y, .int .i64 z]) ∧ Zr W w' bs (!(b || !k)) L ∧ SmO bs w w' := Od hB (l6tAdd_any bs (!b) ⟨a1, a2, a3⟩ s ⟨b1, b2, b3⟩ w hB.sum hs) hr
theorem partO2 (hbd : -2000000000 ≤ a1 ∧ a1 ≤ 2000000000 ∧ -2000000000 ≤ a2 ∧ a2 ≤ 2000000000 ∧ 0 ≤ a3 ∧ a3 ≤ 2000000000) (hB : Zr W w bs (!b) L) (hr : We ⟨a1, a2, a3⟩ 2 false = (⟨x, y, z⟩, k)) : Calls Tryz.prog 178 #[.pointer (some ⟨bs, 0, none⟩), .agg #[.int .i64 a1, .int .i64 a2, .int .i64 a3], .int .i64 2, .bool false] w fun e w' => e = .returned (.agg #[.int .i64 x, .int .i64 y, .int .i64 z]) ∧ Zr W w' bs (!(b || !k)) L ∧ SmO bs w w' := Od hB (l6tPart_re2 bs (!b) ⟨a1, a2, a3⟩ w hB.sum hbd) hr
end
def Ob (s1 s2 s3 : Int) (a b c d : Fr) : Fr × Bool :=
 ((We (Yu s3 (Yu s2 (Yu s1 (Zk a a).1 (Zk b b).1).1 (Zk c c).1).1 (Zk d d).1).1 2 false).1,
  (Zk a a).2 && (Zk b b).2 && (Yu s1 (Zk a a).1 (Zk b b).1).2 && (Zk c c).2 && (Yu s2 (Yu s1 (Zk a a).1 (Zk b b).1).1 (Zk c c).1).2 && (Zk d d).2 && (Yu s3 (Yu s2 (Yu s1 (Zk a a).1 (Zk b b).1).1 (Zk c c).1).1 (Zk d d).1).2 && (We (Yu s3 (Yu s2 (Yu s1 (Zk a a).1 (Zk b b).1).1 (Zk c c).1).1 (Zk d d).1).1 2 false).2)
theorem flow_bd {re im den : Int} (h : 1 ≤ den) : -2000000000 ≤ (flow re im den).1.re ∧ (flow re im den).1.re ≤ 2000000000 ∧ -2000000000 ≤ (flow re im den).1.im ∧ (flow re im den).1.im ≤ 2000000000 ∧ 0 ≤ (flow re im den).1.den ∧ (flow re im den).1.den ≤ 2000000000 := by
 rcases hk : (flow re im den).2 with _ | _
 ·rw [Mq hk]; decide
 ·have := Sw h hk
  obtain ⟨⟨p1, p2⟩, ⟨p3, p4⟩, ⟨p5, p6⟩, -⟩ := Fr.valid_out this
  exact ⟨p1, p2, p3, p4, by omega, p6⟩
theorem Tl (s : Int) (a b : Fr) : -2000000000 ≤ (Yu s a b).1.re ∧ (Yu s a b).1.re ≤ 2000000000 ∧ -2000000000 ≤ (Yu s a b).1.im ∧ (Yu s a b).1.im ≤ 2000000000 ∧ 0 ≤ (Yu s a b).1.den ∧ (Yu s a b).1.den ≤ 2000000000 := by
 unfold Yu
 split
 ·rename_i h
  rw [Bool.and_eq_true] at h
  obtain ⟨-, -, ⟨ad, -⟩, -⟩ := Fr.valid_out h.1
  obtain ⟨-, -, ⟨bd, -⟩, -⟩ := Fr.valid_out h.2
  exact flow_bd (by exact Uh ‹_› ‹_›)
 ·decide
theorem l6tPowers_any (bs : Nat) (e : Bool) (a b c d : Fr) (s1 s2 s3 : Int) (h1 : s1 = 1 ∨ s1 = -1) (h2 : s2 = 1 ∨ s2 = -1) (h3 : s3 = 1 ∨ s3 = -1) (w : World) (hb : Box w bs 155 #[.bool (!e)]) :
  Calls Tryz.prog 111 #[.pointer (some ⟨bs, 0, none⟩), .agg #[.int .i64 a.re, .int .i64 a.im, .int .i64 a.den, .int .i64 b.re, .int .i64 b.im, .int .i64 b.den, .int .i64 c.re, .int .i64 c.im, .int .i64 c.den, .int .i64 d.re, .int .i64 d.im, .int .i64 d.den], .int .i64 s1, .int .i64 s2, .int .i64 s3] w (Xk bs (!e) w (Ob s1 s2 s3 a b c d)) := by
 have hbd := Tl s3 (Yu s2 (Yu s1 (Zk a a).1 (Zk b b).1).1 (Zk c c).1).1 (Zk d d).1
 unfold Ob
 rcases hx : Zk a a with ⟨⟨x1, x2, x3⟩, kx⟩
 rcases hp : Zk b b with ⟨⟨p1, p2, p3⟩, kp⟩
 rcases hq : Zk c c with ⟨⟨q1, q2, q3⟩, kq⟩
 rcases hr : Zk d d with ⟨⟨r1, r2, r3⟩, kr⟩
 rw [hx, hp, hq, hr] at hbd
 simp only at hbd ⊢
 rcases ht : Yu s1 ⟨x1, x2, x3⟩ ⟨p1, p2, p3⟩ with ⟨⟨t1, t2, t3⟩, kt⟩
 rw [ht] at hbd
 simp only at hbd ⊢
 rcases hu : Yu s2 ⟨t1, t2, t3⟩ ⟨q1, q2, q3⟩ with ⟨⟨u1, u2, u3⟩, ku⟩
 rw [hu] at hbd
 simp only at hbd ⊢
 rcases hv : Yu s3 ⟨u1, u2, u3⟩ ⟨r1, r2, r3⟩ with ⟨⟨v1, v2, v3⟩, kv⟩
 rw [hv] at hbd
 simp only at hbd ⊢
 rcases hy : We ⟨v1, v2, v3⟩ 2 false with ⟨⟨y1, y2, y3⟩, ky⟩
 simp only
 obtain ⟨a1, a2, a3⟩ := a
 obtain ⟨b1, b2, b3⟩ := b
 obtain ⟨c1, c2, c3⟩ := c
 obtain ⟨d1, d2, d3⟩ := d
 have HX := Kw hx
 have HP := Kw hp
 have HQ := Kw hq
 have HR := Kw hr
 have HT := Kw ht
 have HU := Kw hu
 have HV := Kw hv
 have HY := Kw hy
 have HBD := Kw hbd
 clear hx hp hq hr ht hu hv hy hbd
 unfold Xk
 simp only [Fr.v]
 have hS := Zr.init hb
 have hC := hS.reads
 simp only [Zz, Zy] at hC
 have hbl := hb.lt
 have m2 : w.heap.size ≠ bs := Nat.ne_of_gt hb.lt
 go_enter Tryz.func111, Tryz.ntmps111
 go_wp2_with (go_at_call 176; (with_reducible refine (Ux (W := w) (b := e) (Zr.cast (W := w) rfl rfl) HX.out).mono ?_); rintro e1 wn ⟨rfl, hS, -⟩; (try simp only [Kv] at hS); replace hC := hS.reads; simp only [Zz, Zy] at hC)
 have hl1 := hS.boxes.1.lt
 have hl2 := hS.boxes.2.1.lt
 have hg0 : w.heap.size ≤ wn.heap.size := hS.sm.size
 have hne0 : ∀ x ∈ ([(w.heap.size + 1, 30, #[.int .i64 0, .int .i64 0, .int .i64 0]), (w.heap.size, 79, #[.int .i64 a1, .int .i64 a2, .int .i64 a3, .int .i64 b1, .int .i64 b2, .int .i64 b3, .int .i64 c1, .int .i64 c2, .int .i64 c3, .int .i64 d1, .int .i64 d2, .int .i64 d3])] : List (Nat × TypeId × Array Value)), x.1 ≠ wn.heap.size := by
  intro x hx
  simp only [List.mem_cons, List.not_mem_nil, or_false] at hx
  rcases hx with rfl | rfl
  ·exact Nat.ne_of_lt hl1
  ·exact Nat.ne_of_lt hl2
 replace hS := Zr.alloc (h := hS) (cs := #[.int .i64 x1, .int .i64 x2, .int .i64 x3]) (t := 30)
 clear hC hl1 hl2
 refine Zd (St := fun _ _ => True) 11 _ (B := fun b w2 => Zr w w2 bs (!b) [(wn.heap.size, 30, #[.int .i64 x1, .int .i64 x2, .int .i64 x3]), (w.heap.size + 1, 30, #[.int .i64 0, .int .i64 0, .int .i64 0]), (w.heap.size, 79, #[.int .i64 a1, .int .i64 a2, .int .i64 a3, .int .i64 b1, .int .i64 b2, .int .i64 b3, .int .i64 c1, .int .i64 c2, .int .i64 c3, .int .i64 d1, .int .i64 d2, .int .i64 d3])]) (by kernel_rfl) (by kernel_rfl) (Zr.drewW hS) (by exact fun _ _ _ _ _ h => h) ?_
 iterate 10 (apply Zx; (· rfl); (· intro b wb hB Q1 hQ1; have hS := hB; have hC := hS.reads; simp only [Zz, Zy] at hC; go_wp2_with fail; exact hQ1 _ trivial hB); (· exact ⟨_, rfl⟩))
 (apply Zp; (· rfl); (· intro b wb hB Q1 hQ1; go_wp2_with (go_at_call 176; (with_reducible refine (Ux hB HP.out).mono ?_); rintro e wn ⟨rfl, hN, hM⟩); exact hQ1 _ trivial hN); (· exact ⟨_, rfl⟩))
 refine Zq ?_
 intro wz hz
 have hC := hz.reads
 simp only [Zz, Zy] at hC
 go_wp2_with (go_at_call 177; (with_reducible refine (Oc h1 hz HT.out).mono ?_); rintro e1 wm ⟨rfl, hN, -⟩; have hC := hN.reads; simp only [Zz, Zy] at hC)
 replace hS := Zr.set3 hN hg0 hne0 (.int .i64 t1) (.int .i64 t2) (.int .i64 t3)
 refine Zd (St := fun _ _ => True) 11 _ (B := fun b w2 => Zr w w2 bs (!b) [(wn.heap.size, 30, #[.int .i64 t1, .int .i64 t2, .int .i64 t3]), (w.heap.size + 1, 30, #[.int .i64 0, .int .i64 0, .int .i64 0]), (w.heap.size, 79, #[.int .i64 a1, .int .i64 a2, .int .i64 a3, .int .i64 b1, .int .i64 b2, .int .i64 b3, .int .i64 c1, .int .i64 c2, .int .i64 c3, .int .i64 d1, .int .i64 d2, .int .i64 d3])]) (by kernel_rfl) (by kernel_rfl) (Zr.drewW hS) (by exact fun _ _ _ _ _ h => h) ?_
 iterate 10 (apply Zx; (· rfl); (· intro b wb hB Q1 hQ1; have hS := hB; have hC := hS.reads; simp only [Zz, Zy] at hC; go_wp2_with fail; exact hQ1 _ trivial hB); (· exact ⟨_, rfl⟩))
 (apply Zp; (· rfl); (· intro b wb hB Q1 hQ1; go_wp2_with (go_at_call 176; (with_reducible refine (Ux hB HQ.out).mono ?_); rintro e wn ⟨rfl, hN, hM⟩); exact hQ1 _ trivial hN); (· exact ⟨_, rfl⟩))
 refine Zq ?_
 intro wz hz
 have hC := hz.reads
 simp only [Zz, Zy] at hC
 go_wp2_with (go_at_call 177; (with_reducible refine (Oc h2 hz HU.out).mono ?_); rintro e1 wm ⟨rfl, hN, -⟩; have hC := hN.reads; simp only [Zz, Zy] at hC)
 replace hS := Zr.set3 hN hg0 hne0 (.int .i64 u1) (.int .i64 u2) (.int .i64 u3)
 refine Zd (St := fun _ _ => True) 11 _ (B := fun b w2 => Zr w w2 bs (!b) [(wn.heap.size, 30, #[.int .i64 u1, .int .i64 u2, .int .i64 u3]), (w.heap.size + 1, 30, #[.int .i64 0, .int .i64 0, .int .i64 0]), (w.heap.size, 79, #[.int .i64 a1, .int .i64 a2, .int .i64 a3, .int .i64 b1, .int .i64 b2, .int .i64 b3, .int .i64 c1, .int .i64 c2, .int .i64 c3, .int .i64 d1, .int .i64 d2, .int .i64 d3])]) (by kernel_rfl) (by kernel_rfl) (Zr.drewW hS) (by exact fun _ _ _ _ _ h => h) ?_
 iterate 10 (apply Zx; (· rfl); (· intro b wb hB Q1 hQ1; have hS := hB; have hC := hS.reads; simp only [Zz, Zy] at hC; go_wp2_with fail; exact hQ1 _ trivial hB); (· exact ⟨_, rfl⟩))
 (apply Zp; (· rfl); (· intro b wb hB Q1 hQ1; go_wp2_with (go_at_call 176; (with_reducible refine (Ux hB HR.out).mono ?_); rintro e wn ⟨rfl, hN, hM⟩); exact hQ1 _ trivial hN); (· exact ⟨_, rfl⟩))
 refine Zq ?_
 intro wz hz
 have hC := hz.reads
 simp only [Zz, Zy] at hC
 go_wp2_with (go_at_call 177; (with_reducible refine (Oc h3 hz HV.out).mono ?_); rintro e1 wm ⟨rfl, hN, -⟩; have hC := hN.reads; simp only [Zz, Zy] at hC)
 replace hS := Zr.set3 hN hg0 hne0 (.int .i64 v1) (.int .i64 v2) (.int .i64 v3)
 have hC := hS.reads
 simp only [Zz, Zy] at hC
 go_wp2_with (go_at_call 178; (with_reducible refine (partO2 HBD.out hS HY.out).mono ?_); rintro e1 wk ⟨rfl, hS5, -⟩; have hC := hS5.reads; simp only [Zz, Zy] at hC)
 have hm2 := hS5.sm
 have hs2 := hS5.sum
 have ef : (!e && (kx && kp && kt && kq && ku && kr && kv && ky)) = !(((((((((e || !kx) || !kp) || !kt) || !kq) || !ku) || !kr) || !kv)) || !ky) := by simp [Bool.and_assoc]
 rw [ef]
 refine Kr ?_ rfl ⟨rfl, ?_, ?_⟩
 ·simp [results, Tryz.results111, go_sem, hC]
 ·repeat' (with_reducible first
   | exact hm2
   | refine SmO.setNew ?_ (by simp <;> omega) _)
 ·repeat' (with_reducible first
   | exact hs2
   | refine Box.far ?_ (by simp <;> omega) _)
end
section
open Go.RowKit

attribute [local go_sem] Zi Zh
attribute [local go_sem ↓] Go.wp_at_zero Go.wp_at_succ
theorem sMatPlate (p q k : Int) (w : World) : Calls Tryz.prog 41 #[.int .i64 p, .int .i64 q, .int .i64 k] w (fun e w' => e = .returned (m4v (Yn p q k)) ∧ Ex w w') := by
 have kr := fun w => sMatRotator p q w
 have ki := fun w => Sx k 0 3 w
 have hrd := Ub p q
 rcases h1 : (Yt p q).2 with _ | _
 ·have e : Yn p q k = (M4.none, false) := by unfold Yn; rw [← hrd, h1]; rfl
  rw [e]
  generalize Yt p q = r at *
  obtain ⟨⟨⟨a1, a2, a3⟩, ⟨b1, b2, b3⟩, ⟨c1, c2, c3⟩, ⟨d1, d2, d3⟩⟩, rk⟩ := r
  simp only at h1
  subst h1
  simp only [m4v, M4.v, M4.none, Fr.none] at kr ⊢
  clear e hrd ki
  have KR := Kw kr
  clear kr
  have hS := Zw.refl w
  have hC := True.intro
  go_enter Tryz.func41, Tryz.ntmps41
  go_wp2_with (go_at_call 102; (with_reducible refine (KR.out _).mono ?_); rintro e w1 ⟨rfl, hx⟩; replace hS := Zw.after (W := w) hx; clear hx; replace hC := hS.reads; simp only [Zz, Zy, Kv] at hC)
  refine Kr ?_ rfl ⟨rfl, ?_⟩
  ·simp [results, Tryz.results41, go_sem, hC]
  ·repeat' (with_reducible first | exact hS.ex | exact Ex.refl _ | assumption | apply Ex.alloc | apply Ex.drewN | apply Ex.drew | refine Ex.setCell ?_ (by simp <;> omega) _)
 ·rcases h2 : Xu k 0 3 with _ | _
  ·have e : Yn p q k = (M4.none, false) := by unfold Yn; rw [h2, Bool.and_false]; rfl
   rw [e]
   generalize Yt p q = r at *
   obtain ⟨⟨⟨a1, a2, a3⟩, ⟨b1, b2, b3⟩, ⟨c1, c2, c3⟩, ⟨d1, d2, d3⟩⟩, rk⟩ := r
   simp only at h1
   subst h1
   rw [h2] at ki
   simp only [m4v, M4.v, M4.none, Fr.none] at kr ⊢
   clear e hrd h2
   have KR := Kw kr
   have KI := Kw ki
   clear kr ki
   have hS := Zw.refl w
   have hC := True.intro
   go_enter Tryz.func41, Tryz.ntmps41
   go_wp2_with (first | (go_at_call 102; (with_reducible refine (KR.out _).mono ?_); rintro e w1 ⟨rfl, hx⟩; replace hS := Zw.after (W := w) hx; clear hx; replace hC := hS.reads; simp only [Zz, Zy, Kv] at hC) | (go_at_call 103; (with_reducible refine (KI.out _).mono ?_); rintro e wn ⟨rfl, rfl⟩))
   refine Kr ?_ rfl ⟨rfl, ?_⟩
   ·simp [results, Tryz.results41, go_sem, hC]
   ·repeat' (with_reducible first | exact hS.ex | exact Ex.refl _ | assumption | apply Ex.alloc | apply Ex.drewN | apply Ex.drew | refine Ex.setCell ?_ (by simp <;> omega) _)
  ·have e : Yn p q k = (if (Yx (Yt p q).1 ⟨Fr.one, Fr.nul, Fr.nul, Xw k⟩).2 && (Yx (Yx (Yt p q).1 ⟨Fr.one, Fr.nul, Fr.nul, Xw k⟩).1 (Vl (Yt p q).1).1).2 then Yx (Yx (Yt p q).1 ⟨Fr.one, Fr.nul, Fr.nul, Xw k⟩).1 (Vl (Yt p q).1).1 else (M4.none, false)) := by unfold Yn; rw [← hrd, h1, h2]; rfl
   rw [e]
   clear e
   have hk := Xt h2
   rw [h2] at ki
   clear h2
   have kj := fun w => sMatAdjoint (Yt p q).1 w
   have kp := fun w => sl5Phase k hk.1 hk.2 w
   have ko := fun w => sl5One Fr.one (Xw k) w
   have kz := fun w => sl5Phase 0 (by omega) (by omega) w
   have e0 : (Xw 0).v = .agg #[.int .i64 1, .int .i64 0, .int .i64 1] := rfl
   rw [e0] at kz
   clear e0
   have ka := fun w => sMatTimes (Yt p q).1 ⟨Fr.one, Fr.nul, Fr.nul, Xw k⟩ w
   have kb := fun w => sMatTimes (Yx (Yt p q).1 ⟨Fr.one, Fr.nul, Fr.nul, Xw k⟩).1 (Vl (Yt p q).1).1 w
   generalize Yx (Yx (Yt p q).1 ⟨Fr.one, Fr.nul, Fr.nul, Xw k⟩).1 (Vl (Yt p q).1).1 = t at *
   generalize Yx (Yt p q).1 ⟨Fr.one, Fr.nul, Fr.nul, Xw k⟩ = g at *
   generalize Vl (Yt p q).1 = j at *
   generalize Yt p q = r at *
   generalize Xw k = f at *
   obtain ⟨f1, f2, f3⟩ := f
   obtain ⟨⟨⟨a1, a2, a3⟩, ⟨b1, b2, b3⟩, ⟨c1, c2, c3⟩, ⟨d1, d2, d3⟩⟩, rk⟩ := r
   obtain ⟨⟨⟨ta1, ta2, ta3⟩, ⟨tb1, tb2, tb3⟩, ⟨tc1, tc2, tc3⟩, ⟨td1, td2, td3⟩⟩, tk⟩ := t
   obtain ⟨⟨⟨ga1, ga2, ga3⟩, ⟨gb1, gb2, gb3⟩, ⟨gc1, gc2, gc3⟩, ⟨gd1, gd2, gd3⟩⟩, gk⟩ := g
   obtain ⟨⟨⟨ja1, ja2, ja3⟩, ⟨jb1, jb2, jb3⟩, ⟨jc1, jc2, jc3⟩, ⟨jd1, jd2, jd3⟩⟩, jk⟩ := j
   simp only at h1
   subst h1
   clear hrd
   simp only [m4v, M4.v, M4.none, Fr.none, Fr.v, Fr.one, Fr.nul] at kr ki kj ka kb kp ko kz ⊢
   have KR := Kw kr
   have KI := Kw ki
   have KJ := Kw kj
   have KA := Kw ka
   have KB := Kw kb
   have KP := Kw kp
   have KO := Kw ko
   have KZ := Kw kz
   clear kr ki kj ka kb kp ko kz
   have hS := Zw.refl w
   have hC := True.intro
   go_enter Tryz.func41, Tryz.ntmps41
   go_wp2_with (first | (go_at_call 102; (with_reducible refine (KR.out _).mono ?_); rintro e w1 ⟨rfl, hx⟩; replace hS := Zw.after (W := w) hx; clear hx; replace hC := hS.reads; simp only [Zz, Zy, Kv] at hC) | (go_at_call 103; (with_reducible refine (KI.out _).mono ?_); rintro e wn ⟨rfl, rfl⟩) | (go_at_call 104; (with_reducible refine (KJ.out _).mono ?_); rintro e w2 ⟨rfl, hx⟩; replace hS := Zw.after (W := w) hx; clear hx; replace hC := hS.reads; simp only [Zz, Zy, Kv] at hC))
   have hS0 := Zw.alloc (h := hS) (cs := #[.int .i64 ja1, .int .i64 ja2, .int .i64 ja3, .int .i64 jb1, .int .i64 jb2, .int .i64 jb3, .int .i64 jc1, .int .i64 jc2, .int .i64 jc3, .int .i64 jd1, .int .i64 jd2, .int .i64 jd3]) (t := 79)
   refine Zm (St := Ex) (B := fun _ w' => InE _ _ w') 9 1 1 _ 79 (fun _ => 12) (fun _ => 42) (fun _ => #[.int .i64 0, .int .i64 0, .int .i64 0, .int .i64 0, .int .i64 0, .int .i64 0, .int .i64 0, .int .i64 0, .int .i64 0, .int .i64 0, .int .i64 0, .int .i64 0]) (fun _ => #[.int .i64 ga1, .int .i64 ga2, .int .i64 ga3, .int .i64 gb1, .int .i64 gb2, .int .i64 gb3, .int .i64 gc1, .int .i64 gc2, .int .i64 gc3, .int .i64 gd1, .int .i64 gd2, .int .i64 gd3]) false (by kernel_rfl) (by kernel_rfl) (InE.drew (InE.start hS0)) (fun x y h1 h2 _ => by omega) (fun x y _ _ => by decide) (fun _ _ h g cs _ hb => hb.ex h) (fun _ _ cs h => h.alloc _) (fun _ _ h => h.size) ?_
   (apply Zx; (· rfl); (· intro b wb hB Q1 hQ1; have hC := hB.sees.reads; simp only [Zz, Zy] at hC; go_wp2_with fail; exact hQ1 _ (Ex.refl _) hB); (· exact ⟨_, rfl⟩))
   (apply Zx; (· rfl); (· intro b wb hB Q1 hQ1; go_wp2_with (go_at_call 32; (with_reducible refine (KZ.out _).mono ?_); rintro e wn ⟨rfl, hx⟩); exact hQ1 _ hx (hB.go hx)); (· exact ⟨_, rfl⟩))
   (apply Zx; (· rfl); (· intro b wb hB Q1 hQ1; go_wp2_with fail; exact hQ1 _ (Ex.refl _) hB); (· exact ⟨_, rfl⟩))
   (apply Zx; (· rfl); (· intro b wb hB Q1 hQ1; go_wp2_with (go_at_call 32; (with_reducible refine (KP.out _).mono ?_); rintro e wn ⟨rfl, hx⟩); exact hQ1 _ hx (hB.go hx)); (· exact ⟨_, rfl⟩))
   (apply Zx; (· rfl); (· intro b wb hB Q1 hQ1; go_wp2_with (go_at_call 106; (with_reducible refine (KO.out _).mono ?_); rintro e wn ⟨rfl, hx⟩); exact hQ1 _ hx (hB.go hx)); (· exact ⟨_, rfl⟩))
   (apply Zx; (· rfl); (· intro b wb hB Q1 hQ1; go_wp2_with (go_at_call 105; (with_reducible refine (KA.out _).mono ?_); rintro e wn ⟨rfl, hx⟩); exact hQ1 _ hx (hB.go hx)); (· exact ⟨_, rfl⟩))
   iterate 3 (apply Zx; (· rfl); (· intro b wb hB Q1 hQ1; go_wp2_with fail; exact hQ1 _ (Ex.refl _) hB); (· exact ⟨_, rfl⟩))
   refine Zq ?_
   refine ⟨fun i hi => ?_, fun i hi => ?_, fun i hi => ?_, fun gg wz hz hbx hne => ?_⟩
   ·obtain rfl : i = 0 := by omega
    all_goals exact ⟨_, rfl, Ti⟩
   ·obtain rfl : i = 0 := by omega
    all_goals exact ⟨_, rfl, Zf Ri rfl (by kernel_rfl) (fun _ _ _ hg h => h.setRow hg _)⟩
   ·obtain rfl : i = 0 := by omega
    ·exact (show (12 : Nat) < 58 by decide)
   obtain ⟨hg0, hb0⟩ := hbx 0 (by omega)
   replace hS := InE.join hS0 hz
   replace hS := Zw.put hS hb0
   simp only [frN, Act.put, Ku, Kt, Ks, Nat.reduceAdd, List.drop_succ_cons, List.drop_zero]
   generalize gg 0 = g0 at *
   clear hbx hz hS0 hne
   replace hC := hS.reads
   simp only [Zz, Zy] at hC
   have z0 := hS.ex.size
   rcases gk with _ | _
   all_goals rcases tk with _ | _
   all_goals
    go_wp2_with (first | (go_at_call 105; (with_reducible refine (KB.out _).mono ?_); rintro e w4 ⟨rfl, hx⟩; replace hS := Zw.after (W := w) hx; clear hx; replace hC := hS.reads; simp only [Zz, Zy, Kv] at hC))
    refine Kr ?_ rfl ⟨rfl, ?_⟩
    ·simp [results, Tryz.results41, go_sem, hC]
    ·repeat' (with_reducible first | exact hS.ex | exact Ex.refl _ | assumption | apply Ex.alloc | apply Ex.drewN | apply Ex.drew | refine Ex.setCell ?_ (by simp <;> omega) _)
end
section
open Go.RowKit

attribute [local go_sem] Zi Zh
attribute [local go_sem ↓] Go.wp_at_zero Go.wp_at_succ
theorem iMatPlate0 (p q : Int) (w : World) [hG : Yc w] (h1 : (Yt p q).2 = true) : Calls Tryz.prog 37 #[.int .i64 p, .int .i64 q, .int .i64 0] w (fun e w' => e = .returned (m4v (Yn p q 0)) ∧ Ex w w') := by
 have kr := fun w => Va p q w
 have ki := fun w => Yf 0 0 3 w
 have hrd := Ub p q
 have h2 : Xu 0 0 3 = true := by decide
 have e : Yn p q 0 = (if (Yx (Yt p q).1 ⟨Fr.one, Fr.nul, Fr.nul, Xw 0⟩).2 && (Yx (Yx (Yt p q).1 ⟨Fr.one, Fr.nul, Fr.nul, Xw 0⟩).1 (Vl (Yt p q).1).1).2 then Yx (Yx (Yt p q).1 ⟨Fr.one, Fr.nul, Fr.nul, Xw 0⟩).1 (Vl (Yt p q).1).1 else (M4.none, false)) := by unfold Yn; rw [← hrd, h1, h2]; rfl
 rw [e]
 clear e
 rw [h2] at ki
 clear h2
 have kj := fun w => Tm (Yt p q).1 w
 have ka := fun w => Vb (Yt p q).1 ⟨Fr.one, Fr.nul, Fr.nul, Xw 0⟩ w
 have kb := fun w => Vb (Yx (Yt p q).1 ⟨Fr.one, Fr.nul, Fr.nul, Xw 0⟩).1 (Vl (Yt p q).1).1 w
 generalize Yx (Yx (Yt p q).1 ⟨Fr.one, Fr.nul, Fr.nul, Xw 0⟩).1 (Vl (Yt p q).1).1 = t at *
 generalize Yx (Yt p q).1 ⟨Fr.one, Fr.nul, Fr.nul, Xw 0⟩ = g at *
 generalize Vl (Yt p q).1 = j at *
 generalize Yt p q = r at *
 obtain ⟨⟨⟨a1, a2, a3⟩, ⟨b1, b2, b3⟩, ⟨c1, c2, c3⟩, ⟨d1, d2, d3⟩⟩, rk⟩ := r
 obtain ⟨⟨⟨ta1, ta2, ta3⟩, ⟨tb1, tb2, tb3⟩, ⟨tc1, tc2, tc3⟩, ⟨td1, td2, td3⟩⟩, tk⟩ := t
 obtain ⟨⟨⟨ga1, ga2, ga3⟩, ⟨gb1, gb2, gb3⟩, ⟨gc1, gc2, gc3⟩, ⟨gd1, gd2, gd3⟩⟩, gk⟩ := g
 obtain ⟨⟨⟨ja1, ja2, ja3⟩, ⟨jb1, jb2, jb3⟩, ⟨jc1, jc2, jc3⟩, ⟨jd1, jd2, jd3⟩⟩, jk⟩ := j
 simp only at h1
 subst h1
 clear hrd
 simp only [Xw, if_true, m4v, M4.v, M4.none, Fr.none, Fr.v, Fr.one, Fr.nul] at kr ki kj ka kb ⊢
 have KR := Kw kr
 have KI := Kw ki
 have KJ := Kw kj
 have KA := Kw ka
 have KB := Kw kb
 clear kr ki kj ka kb
 have hS := Zw.refl w
 have hC := True.intro
 go_enter Tryz.func37, Tryz.ntmps37
 go_wp2_with (first | (go_at_call 91; (with_reducible refine (KR.out _).mono ?_); rintro e w1 ⟨rfl, hx⟩; replace hS := Zw.after (W := w) hx; clear hx; replace hC := hS.reads; simp only [Zz, Zy, Kv] at hC) | (go_at_call 71; (with_reducible refine (KI.out _).mono ?_); rintro e wn ⟨rfl, rfl⟩))
 have hG1 := hG.ex ((Zw.alloc (h := hS) (cs := #[.int .i64 a1, .int .i64 a2, .int .i64 a3, .int .i64 b1, .int .i64 b2, .int .i64 b3, .int .i64 c1, .int .i64 c2, .int .i64 c3, .int .i64 d1, .int .i64 d2, .int .i64 d3]) (t := 79)).ex)
 have hS0 := Zw.alloc (h := hS) (cs := #[.int .i64 a1, .int .i64 a2, .int .i64 a3, .int .i64 b1, .int .i64 b2, .int .i64 b3, .int .i64 c1, .int .i64 c2, .int .i64 c3, .int .i64 d1, .int .i64 d2, .int .i64 d3]) (t := 79)
 refine Zm (St := Ex) (B := fun _ w' => InE _ _ w') 13 1 1 _ 79 (fun _ => 10) (fun _ => 41) (fun _ => #[.int .i64 0, .int .i64 0, .int .i64 0, .int .i64 0, .int .i64 0, .int .i64 0, .int .i64 0, .int .i64 0, .int .i64 0, .int .i64 0, .int .i64 0, .int .i64 0]) (fun _ => #[.int .i64 ga1, .int .i64 ga2, .int .i64 ga3, .int .i64 gb1, .int .i64 gb2, .int .i64 gb3, .int .i64 gc1, .int .i64 gc2, .int .i64 gc3, .int .i64 gd1, .int .i64 gd2, .int .i64 gd3]) false (by kernel_rfl) (by kernel_rfl) (InE.drew (InE.start hS0)) (fun x y h1 h2 _ => by omega) (fun x y _ _ => by decide) (fun _ _ h g cs _ hb => hb.ex h) (fun _ _ cs h => h.alloc _) (fun _ _ h => h.size) ?_
 (apply Zx; (· rfl); (· intro b wb hB Q1 hQ1; have hC := hB.sees.reads; simp only [Zz, Zy] at hC; go_wp2_with fail; exact hQ1 _ (Ex.refl _) hB); (· exact ⟨_, rfl⟩))
 iterate 8 (apply Zx; (· rfl); (· intro b wb hB Q1 hQ1; have hg := (hG1.ex hB.sees.ex).reads; go_wp2_with fail; exact hQ1 _ (Ex.refl _) hB); (· exact ⟨_, rfl⟩))
 (apply Zx; (· rfl); (· intro b wb hB Q1 hQ1; go_wp2_with (go_at_call 92; (with_reducible refine (KA.out _).mono ?_); rintro e wn ⟨rfl, hx⟩); exact hQ1 _ hx (hB.go hx)); (· exact ⟨_, rfl⟩))
 iterate 3 (apply Zx; (· rfl); (· intro b wb hB Q1 hQ1; go_wp2_with fail; exact hQ1 _ (Ex.refl _) hB); (· exact ⟨_, rfl⟩))
 refine Zq ?_
 refine ⟨fun i hi => ?_, fun i hi => ?_, fun i hi => ?_, fun gg wz hz hbx hne => ?_⟩
 ·obtain rfl : i = 0 := by omega
  all_goals exact ⟨_, rfl, Ti⟩
 ·obtain rfl : i = 0 := by omega
  all_goals exact ⟨_, rfl, Zf Ri rfl (by kernel_rfl) (fun _ _ _ hg h => h.setRow hg _)⟩
 ·obtain rfl : i = 0 := by omega
  ·exact (show (10 : Nat) < 62 by decide)
 obtain ⟨hg0, hb0⟩ := hbx 0 (by omega)
 replace hS := InE.join hS0 hz
 replace hS := Zw.put hS hb0
 simp only [frN, Act.put, Ku, Kt, Ks, Nat.reduceAdd, List.drop_succ_cons, List.drop_zero]
 generalize gg 0 = g0 at *
 clear hbx hz hS0 hne
 replace hC := hS.reads
 simp only [Zz, Zy] at hC
 have z0 := hS.ex.size
 rcases gk with _ | _
 all_goals rcases tk with _ | _
 all_goals
  go_wp2_with (first | (go_at_call 92; (with_reducible refine (KB.out _).mono ?_); rintro e w4 ⟨rfl, hx⟩; replace hS := Zw.after (W := w) hx; clear hx; replace hC := hS.reads; simp only [Zz, Zy, Kv] at hC) | (go_at_call 93; (with_reducible refine (KJ.out _).mono ?_); rintro e w3 ⟨rfl, hx⟩; replace hS := Zw.after (W := w) hx; clear hx; replace hC := hS.reads; simp only [Zz, Zy, Kv] at hC))
  refine Kr ?_ rfl ⟨rfl, ?_⟩
  ·simp [results, Tryz.results37, go_sem, hC]
  ·repeat' (with_reducible first | exact hS.ex | exact Ex.refl _ | assumption | apply Ex.alloc | apply Ex.drewN | apply Ex.drew | refine Ex.setCell ?_ (by simp <;> omega) _)
theorem iMatPlate1 (p q : Int) (w : World) [hG : Yc w] (h1 : (Yt p q).2 = true) : Calls Tryz.prog 37 #[.int .i64 p, .int .i64 q, .int .i64 1] w (fun e w' => e = .returned (m4v (Yn p q 1)) ∧ Ex w w') := by
 have kr := fun w => Va p q w
 have ki := fun w => Yf 1 0 3 w
 have hrd := Ub p q
 have h2 : Xu 1 0 3 = true := by decide
 have e : Yn p q 1 = (if (Yx (Yt p q).1 ⟨Fr.one, Fr.nul, Fr.nul, Xw 1⟩).2 && (Yx (Yx (Yt p q).1 ⟨Fr.one, Fr.nul, Fr.nul, Xw 1⟩).1 (Vl (Yt p q).1).1).2 then Yx (Yx (Yt p q).1 ⟨Fr.one, Fr.nul, Fr.nul, Xw 1⟩).1 (Vl (Yt p q).1).1 else (M4.none, false)) := by unfold Yn; rw [← hrd, h1, h2]; rfl
 rw [e]
 clear e
 rw [h2] at ki
 clear h2
 have kj := fun w => Tm (Yt p q).1 w
 have ka := fun w => Vb (Yt p q).1 ⟨Fr.one, Fr.nul, Fr.nul, Xw 1⟩ w
 have kb := fun w => Vb (Yx (Yt p q).1 ⟨Fr.one, Fr.nul, Fr.nul, Xw 1⟩).1 (Vl (Yt p q).1).1 w
 generalize Yx (Yx (Yt p q).1 ⟨Fr.one, Fr.nul, Fr.nul, Xw 1⟩).1 (Vl (Yt p q).1).1 = t at *
 generalize Yx (Yt p q).1 ⟨Fr.one, Fr.nul, Fr.nul, Xw 1⟩ = g at *
 generalize Vl (Yt p q).1 = j at *
 generalize Yt p q = r at *
 obtain ⟨⟨⟨a1, a2, a3⟩, ⟨b1, b2, b3⟩, ⟨c1, c2, c3⟩, ⟨d1, d2, d3⟩⟩, rk⟩ := r
 obtain ⟨⟨⟨ta1, ta2, ta3⟩, ⟨tb1, tb2, tb3⟩, ⟨tc1, tc2, tc3⟩, ⟨td1, td2, td3⟩⟩, tk⟩ := t
 obtain ⟨⟨⟨ga1, ga2, ga3⟩, ⟨gb1, gb2, gb3⟩, ⟨gc1, gc2, gc3⟩, ⟨gd1, gd2, gd3⟩⟩, gk⟩ := g
 obtain ⟨⟨⟨ja1, ja2, ja3⟩, ⟨jb1, jb2, jb3⟩, ⟨jc1, jc2, jc3⟩, ⟨jd1, jd2, jd3⟩⟩, jk⟩ := j
 simp only at h1
 subst h1
 clear hrd
 simp only [Xw, Int.one_ne_zero, if_true, if_false, m4v, M4.v, M4.none, Fr.none, Fr.v, Fr.one, Fr.nul] at kr ki kj ka kb ⊢
 have KR := Kw kr
 have KI := Kw ki
 have KJ := Kw kj
 have KA := Kw ka
 have KB := Kw kb
 clear kr ki kj ka kb
 have hS := Zw.refl w
 have hC := True.intro
 go_enter Tryz.func37, Tryz.ntmps37
 go_wp2_with (first | (go_at_call 91; (with_reducible refine (KR.out _).mono ?_); rintro e w1 ⟨rfl, hx⟩; replace hS := Zw.after (W := w) hx; clear hx; replace hC := hS.reads; simp only [Zz, Zy, Kv] at hC) | (go_at_call 71; (with_reducible refine (KI.out _).mono ?_); rintro e wn ⟨rfl, rfl⟩))
 have hG1 := hG.ex ((Zw.alloc (h := hS) (cs := #[.int .i64 a1, .int .i64 a2, .int .i64 a3, .int .i64 b1, .int .i64 b2, .int .i64 b3, .int .i64 c1, .int .i64 c2, .int .i64 c3, .int .i64 d1, .int .i64 d2, .int .i64 d3]) (t := 79)).ex)
 have hS0 := Zw.alloc (h := hS) (cs := #[.int .i64 a1, .int .i64 a2, .int .i64 a3, .int .i64 b1, .int .i64 b2, .int .i64 b3, .int .i64 c1, .int .i64 c2, .int .i64 c3, .int .i64 d1, .int .i64 d2, .int .i64 d3]) (t := 79)
 refine Zm (St := Ex) (B := fun _ w' => InE _ _ w') 13 1 1 _ 79 (fun _ => 10) (fun _ => 41) (fun _ => #[.int .i64 0, .int .i64 0, .int .i64 0, .int .i64 0, .int .i64 0, .int .i64 0, .int .i64 0, .int .i64 0, .int .i64 0, .int .i64 0, .int .i64 0, .int .i64 0]) (fun _ => #[.int .i64 ga1, .int .i64 ga2, .int .i64 ga3, .int .i64 gb1, .int .i64 gb2, .int .i64 gb3, .int .i64 gc1, .int .i64 gc2, .int .i64 gc3, .int .i64 gd1, .int .i64 gd2, .int .i64 gd3]) false (by kernel_rfl) (by kernel_rfl) (InE.drew (InE.start hS0)) (fun x y h1 h2 _ => by omega) (fun x y _ _ => by decide) (fun _ _ h g cs _ hb => hb.ex h) (fun _ _ cs h => h.alloc _) (fun _ _ h => h.size) ?_
 (apply Zx; (· rfl); (· intro b wb hB Q1 hQ1; have hC := hB.sees.reads; simp only [Zz, Zy] at hC; go_wp2_with fail; exact hQ1 _ (Ex.refl _) hB); (· exact ⟨_, rfl⟩))
 iterate 8 (apply Zx; (· rfl); (· intro b wb hB Q1 hQ1; have hg := (hG1.ex hB.sees.ex).reads; go_wp2_with fail; exact hQ1 _ (Ex.refl _) hB); (· exact ⟨_, rfl⟩))
 (apply Zx; (· rfl); (· intro b wb hB Q1 hQ1; go_wp2_with (go_at_call 92; (with_reducible refine (KA.out _).mono ?_); rintro e wn ⟨rfl, hx⟩); exact hQ1 _ hx (hB.go hx)); (· exact ⟨_, rfl⟩))
 iterate 3 (apply Zx; (· rfl); (· intro b wb hB Q1 hQ1; go_wp2_with fail; exact hQ1 _ (Ex.refl _) hB); (· exact ⟨_, rfl⟩))
 refine Zq ?_
 refine ⟨fun i hi => ?_, fun i hi => ?_, fun i hi => ?_, fun gg wz hz hbx hne => ?_⟩
 ·obtain rfl : i = 0 := by omega
  all_goals exact ⟨_, rfl, Ti⟩
 ·obtain rfl : i = 0 := by omega
  all_goals exact ⟨_, rfl, Zf Ri rfl (by kernel_rfl) (fun _ _ _ hg h => h.setRow hg _)⟩
 ·obtain rfl : i = 0 := by omega
  ·exact (show (10 : Nat) < 62 by decide)
 obtain ⟨hg0, hb0⟩ := hbx 0 (by omega)
 replace hS := InE.join hS0 hz
 replace hS := Zw.put hS hb0
 simp only [frN, Act.put, Ku, Kt, Ks, Nat.reduceAdd, List.drop_succ_cons, List.drop_zero]
 generalize gg 0 = g0 at *
 clear hbx hz hS0 hne
 replace hC := hS.reads
 simp only [Zz, Zy] at hC
 have z0 := hS.ex.size
 rcases gk with _ | _
 all_goals rcases tk with _ | _
 all_goals
  go_wp2_with (first | (go_at_call 92; (with_reducible refine (KB.out _).mono ?_); rintro e w4 ⟨rfl, hx⟩; replace hS := Zw.after (W := w) hx; clear hx; replace hC := hS.reads; simp only [Zz, Zy, Kv] at hC) | (go_at_call 93; (with_reducible refine (KJ.out _).mono ?_); rintro e w3 ⟨rfl, hx⟩; replace hS := Zw.after (W := w) hx; clear hx; replace hC := hS.reads; simp only [Zz, Zy, Kv] at hC))
  refine Kr ?_ rfl ⟨rfl, ?_⟩
  ·simp [results, Tryz.results37, go_sem, hC]
  ·repeat' (with_reducible first | exact hS.ex | exact Ex.refl _ | assumption | apply Ex.alloc | apply Ex.drewN | apply Ex.drew | refine Ex.setCell ?_ (by simp <;> omega) _)
end
end Go.Proofs.YtiommfmaleeibaaGreatDoor
