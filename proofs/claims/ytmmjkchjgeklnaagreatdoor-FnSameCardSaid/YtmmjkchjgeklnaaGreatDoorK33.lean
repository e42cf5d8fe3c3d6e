/-
  Proved: what functions compute, part 33. No condition.
-/
import Derived.Test.YtmmjkchjgeklnaaGreatDoorK11
import Derived.Test.YtmmjkchjgeklnaaGreatDoorK07
set_option linter.unusedSimpArgs false
set_option linter.unusedVariables false
set_option maxRecDepth 20000
set_option maxHeartbeats 8000000
namespace Go.Proofs.YtmmjkchjgeklnaaGreatDoor
section
open Go.RowKit

attribute [local go_sem] Zk Zj
attribute [local go_sem ↓] Go.wp_at_zero Go.wp_at_succ
theorem sMatPlate (p q k : Int) (w : World) : Calls Tryz.prog 141 #[.int .i64 p, .int .i64 q, .int .i64 k] w (fun e w' => e = .returned (m4v (Yg p q k)) ∧ Ex w w') := by
 have kr := fun w => Jo p q w
 have ki := fun w => Vp k 0 3 w
 have hrd := Rz p q
 rcases h1 : (Yo p q).2 with _ | _
 ·have e : Yg p q k = (M4.none, false) := by unfold Yg; rw [← hrd, h1]; rfl
  rw [e]
  generalize Yo p q = r at *
  obtain ⟨⟨⟨a1, a2, a3⟩, ⟨b1, b2, b3⟩, ⟨c1, c2, c3⟩, ⟨d1, d2, d3⟩⟩, rk⟩ := r
  simp only at h1
  subst h1
  simp only [m4v, M4.v, M4.none, Fr.none] at kr ⊢
  clear e hrd ki
  have KR := Gv kr
  clear kr
  have hS := Zw.refl w
  have hC := True.intro
  go_enter Tryz.func141, Tryz.ntmps141
  go_wp2_with (go_at_call 140; (with_reducible refine (KR.out _).mono ?_); rintro e w1 ⟨rfl, hx⟩; replace hS := Zw.after (W := w) hx; clear hx; replace hC := hS.reads; simp only [Zz, Zy, Gu] at hC)
  refine Gq ?_ rfl ⟨rfl, ?_⟩
  ·simp [results, Tryz.results141, go_sem, hC]
  ·repeat' (with_reducible first | exact hS.ex | exact Ex.refl _ | assumption | apply Ex.alloc | apply Ex.drewN | apply Ex.drew | refine Ex.setCell ?_ (by simp <;> omega) _)
 ·rcases h2 : Xs k 0 3 with _ | _
  ·have e : Yg p q k = (M4.none, false) := by unfold Yg; rw [h2, Bool.and_false]; rfl
   rw [e]
   generalize Yo p q = r at *
   obtain ⟨⟨⟨a1, a2, a3⟩, ⟨b1, b2, b3⟩, ⟨c1, c2, c3⟩, ⟨d1, d2, d3⟩⟩, rk⟩ := r
   simp only at h1
   subst h1
   rw [h2] at ki
   simp only [m4v, M4.v, M4.none, Fr.none] at kr ⊢
   clear e hrd h2
   have KR := Gv kr
   have KI := Gv ki
   clear kr ki
   have hS := Zw.refl w
   have hC := True.intro
   go_enter Tryz.func141, Tryz.ntmps141
   go_wp2_with (first | (go_at_call 140; (with_reducible refine (KR.out _).mono ?_); rintro e w1 ⟨rfl, hx⟩; replace hS := Zw.after (W := w) hx; clear hx; replace hC := hS.reads; simp only [Zz, Zy, Gu] at hC) | (go_at_call 135; (with_reducible refine (KI.out _).mono ?_); rintro e wn ⟨rfl, rfl⟩))
   refine Gq ?_ rfl ⟨rfl, ?_⟩
   ·simp [results, Tryz.results141, go_sem, hC]
   ·repeat' (with_reducible first | exact hS.ex | exact Ex.refl _ | assumption | apply Ex.alloc | apply Ex.drewN | apply Ex.drew | refine Ex.setCell ?_ (by simp <;> omega) _)
  ·have e : Yg p q k = (if (Yr (Yo p q).1 ⟨Fr.one, Fr.nul, Fr.nul, Xp k⟩).2 && (Yr (Yr (Yo p q).1 ⟨Fr.one, Fr.nul, Fr.nul, Xp k⟩).1 (Us (Yo p q).1).1).2 then Yr (Yr (Yo p q).1 ⟨Fr.one, Fr.nul, Fr.nul, Xp k⟩).1 (Us (Yo p q).1).1 else (M4.none, false)) := by unfold Yg; rw [← hrd, h1, h2]; rfl
   rw [e]
   clear e
   have hk := Xz h2
   rw [h2] at ki
   clear h2
   have kj := fun w => sMatAdjoint (Yo p q).1 w
   have kp := fun w => sl5Phase k hk.1 hk.2 w
   have ko := fun w => sl5One Fr.one (Xp k) w
   have kz := fun w => sl5Phase 0 (by omega) (by omega) w
   have e0 : (Xp 0).v = .agg #[.int .i64 1, .int .i64 0, .int .i64 1] := rfl
   rw [e0] at kz
   clear e0
   have ka := fun w => sMatTimes (Yo p q).1 ⟨Fr.one, Fr.nul, Fr.nul, Xp k⟩ w
   have kb := fun w => sMatTimes (Yr (Yo p q).1 ⟨Fr.one, Fr.nul, Fr.nul, Xp k⟩).1 (Us (Yo p q).1).1 w
   generalize Yr (Yr (Yo p q).1 ⟨Fr.one, Fr.nul, Fr.nul, Xp k⟩).1 (Us (Yo p q).1).1 = t at *
   generalize Yr (Yo p q).1 ⟨Fr.one, Fr.nul, Fr.nul, Xp k⟩ = g at *
   generalize Us (Yo p q).1 = j at *
   generalize Yo p q = r at *
   generalize Xp k = f at *
   obtain ⟨f1, f2, f3⟩ := f
   obtain ⟨⟨⟨a1, a2, a3⟩, ⟨b1, b2, b3⟩, ⟨c1, c2, c3⟩, ⟨d1, d2, d3⟩⟩, rk⟩ := r
   obtain ⟨⟨⟨ta1, ta2, ta3⟩, ⟨tb1, tb2, tb3⟩, ⟨tc1, tc2, tc3⟩, ⟨td1, td2, td3⟩⟩, tk⟩ := t
   obtain ⟨⟨⟨ga1, ga2, ga3⟩, ⟨gb1, gb2, gb3⟩, ⟨gc1, gc2, gc3⟩, ⟨gd1, gd2, gd3⟩⟩, gk⟩ := g
   obtain ⟨⟨⟨ja1, ja2, ja3⟩, ⟨jb1, jb2, jb3⟩, ⟨jc1, jc2, jc3⟩, ⟨jd1, jd2, jd3⟩⟩, jk⟩ := j
   simp only at h1
   subst h1
   clear hrd
   simp only [m4v, M4.v, M4.none, Fr.none, Fr.v, Fr.one, Fr.nul] at kr ki kj ka kb kp ko kz ⊢
   have KR := Gv kr
   have KI := Gv ki
   have KJ := Gv kj
   have KA := Gv ka
   have KB := Gv kb
   have KP := Gv kp
   have KO := Gv ko
   have KZ := Gv kz
   clear kr ki kj ka kb kp ko kz
   have hS := Zw.refl w
   have hC := True.intro
   go_enter Tryz.func141, Tryz.ntmps141
   go_wp2_with (first | (go_at_call 140; (with_reducible refine (KR.out _).mono ?_); rintro e w1 ⟨rfl, hx⟩; replace hS := Zw.after (W := w) hx; clear hx; replace hC := hS.reads; simp only [Zz, Zy, Gu] at hC) | (go_at_call 135; (with_reducible refine (KI.out _).mono ?_); rintro e wn ⟨rfl, rfl⟩) | (go_at_call 165; (with_reducible refine (KJ.out _).mono ?_); rintro e w2 ⟨rfl, hx⟩; replace hS := Zw.after (W := w) hx; clear hx; replace hC := hS.reads; simp only [Zz, Zy, Gu] at hC))
   have hS0 := Zw.alloc (h := hS) (cs := #[.int .i64 ja1, .int .i64 ja2, .int .i64 ja3, .int .i64 jb1, .int .i64 jb2, .int .i64 jb3, .int .i64 jc1, .int .i64 jc2, .int .i64 jc3, .int .i64 jd1, .int .i64 jd2, .int .i64 jd3]) (t := 122)
   refine Zn (St := Ex) (B := fun _ w' => InE _ _ w') 9 1 1 _ 122 (fun _ => 12) (fun _ => 42) (fun _ => #[.int .i64 0, .int .i64 0, .int .i64 0, .int .i64 0, .int .i64 0, .int .i64 0, .int .i64 0, .int .i64 0, .int .i64 0, .int .i64 0, .int .i64 0, .int .i64 0]) (fun _ => #[.int .i64 ga1, .int .i64 ga2, .int .i64 ga3, .int .i64 gb1, .int .i64 gb2, .int .i64 gb3, .int .i64 gc1, .int .i64 gc2, .int .i64 gc3, .int .i64 gd1, .int .i64 gd2, .int .i64 gd3]) false (by kernel_rfl) (by kernel_rfl) (InE.drew (InE.start hS0)) (fun x y h1 h2 _ => by omega) (fun x y _ _ => by decide) (fun _ _ h g cs _ hb => hb.ex h) (fun _ _ cs h => h.alloc _) (fun _ _ h => h.size) ?_
   (apply Zx; (· rfl); (· intro b wb hB Q1 hQ1; have hC := hB.sees.reads; simp only [Zz, Zy] at hC; go_wp2_with fail; exact hQ1 _ (Ex.refl _) hB); (· exact ⟨_, rfl⟩))
   (apply Zx; (· rfl); (· intro b wb hB Q1 hQ1; go_wp2_with (go_at_call 167; (with_reducible refine (KZ.out _).mono ?_); rintro e wn ⟨rfl, hx⟩); exact hQ1 _ hx (hB.go hx)); (· exact ⟨_, rfl⟩))
   (apply Zx; (· rfl); (· intro b wb hB Q1 hQ1; go_wp2_with fail; exact hQ1 _ (Ex.refl _) hB); (· exact ⟨_, rfl⟩))
   (apply Zx; (· rfl); (· intro b wb hB Q1 hQ1; go_wp2_with (go_at_call 167; (with_reducible refine (KP.out _).mono ?_); rintro e wn ⟨rfl, hx⟩); exact hQ1 _ hx (hB.go hx)); (· exact ⟨_, rfl⟩))
   (apply Zx; (· rfl); (· intro b wb hB Q1 hQ1; go_wp2_with (go_at_call 143; (with_reducible refine (KO.out _).mono ?_); rintro e wn ⟨rfl, hx⟩); exact hQ1 _ hx (hB.go hx)); (· exact ⟨_, rfl⟩))
   (apply Zx; (· rfl); (· intro b wb hB Q1 hQ1; go_wp2_with (go_at_call 166; (with_reducible refine (KA.out _).mono ?_); rintro e wn ⟨rfl, hx⟩); exact hQ1 _ hx (hB.go hx)); (· exact ⟨_, rfl⟩))
   iterate 3 (apply Zx; (· rfl); (· intro b wb hB Q1 hQ1; go_wp2_with fail; exact hQ1 _ (Ex.refl _) hB); (· exact ⟨_, rfl⟩))
   refine Zv ?_
   refine ⟨fun i hi => ?_, fun i hi => ?_, fun i hi => ?_, fun gg wz hz hbx hne => ?_⟩
   ·obtain rfl : i = 0 := by omega
    all_goals exact ⟨_, rfl, Qi⟩
   ·obtain rfl : i = 0 := by omega
    all_goals exact ⟨_, rfl, Zi Og rfl (by kernel_rfl) (fun _ _ _ hg h => h.setRow hg _)⟩
   ·obtain rfl : i = 0 := by omega
    ·exact (show (12 : Nat) < 58 by decide)
   obtain ⟨hg0, hb0⟩ := hbx 0 (by omega)
   replace hS := InE.join hS0 hz
   replace hS := Zw.put hS hb0
   simp only [frN, Act.put, Gt, Gs, Gr, Nat.reduceAdd, List.drop_succ_cons, List.drop_zero]
   generalize gg 0 = g0 at *
   clear hbx hz hS0 hne
   replace hC := hS.reads
   simp only [Zz, Zy] at hC
   have z0 := hS.ex.size
   rcases gk with _ | _
   all_goals rcases tk with _ | _
   all_goals
    go_wp2_with (first | (go_at_call 166; (with_reducible refine (KB.out _).mono ?_); rintro e w4 ⟨rfl, hx⟩; replace hS := Zw.after (W := w) hx; clear hx; replace hC := hS.reads; simp only [Zz, Zy, Gu] at hC))
    refine Gq ?_ rfl ⟨rfl, ?_⟩
    ·simp [results, Tryz.results141, go_sem, hC]
    ·repeat' (with_reducible first | exact hS.ex | exact Ex.refl _ | assumption | apply Ex.alloc | apply Ex.drewN | apply Ex.drew | refine Ex.setCell ?_ (by simp <;> omega) _)
end
section
open Go.RowKit

attribute [local go_sem] Zk Zj
attribute [local go_sem ↓] Go.wp_at_zero Go.wp_at_succ
theorem iMatPlate0 (p q : Int) (w : World) [hG : Yf w] (h1 : (Yo p q).2 = true) : Calls Tryz.prog 110 #[.int .i64 p, .int .i64 q, .int .i64 0] w (fun e w' => e = .returned (m4v (Yg p q 0)) ∧ Ex w w') := by
 have kr := fun w => Tz p q w
 have ki := fun w => Xu 0 0 3 w
 have hrd := Rz p q
 have h2 : Xs 0 0 3 = true := by decide
 have e : Yg p q 0 = (if (Yr (Yo p q).1 ⟨Fr.one, Fr.nul, Fr.nul, Xp 0⟩).2 && (Yr (Yr (Yo p q).1 ⟨Fr.one, Fr.nul, Fr.nul, Xp 0⟩).1 (Us (Yo p q).1).1).2 then Yr (Yr (Yo p q).1 ⟨Fr.one, Fr.nul, Fr.nul, Xp 0⟩).1 (Us (Yo p q).1).1 else (M4.none, false)) := by unfold Yg; rw [← hrd, h1, h2]; rfl
 rw [e]
 clear e
 rw [h2] at ki
 clear h2
 have kj := fun w => Rb (Yo p q).1 w
 have ka := fun w => Ua (Yo p q).1 ⟨Fr.one, Fr.nul, Fr.nul, Xp 0⟩ w
 have kb := fun w => Ua (Yr (Yo p q).1 ⟨Fr.one, Fr.nul, Fr.nul, Xp 0⟩).1 (Us (Yo p q).1).1 w
 generalize Yr (Yr (Yo p q).1 ⟨Fr.one, Fr.nul, Fr.nul, Xp 0⟩).1 (Us (Yo p q).1).1 = t at *
 generalize Yr (Yo p q).1 ⟨Fr.one, Fr.nul, Fr.nul, Xp 0⟩ = g at *
 generalize Us (Yo p q).1 = j at *
 generalize Yo p q = r at *
 obtain ⟨⟨⟨a1, a2, a3⟩, ⟨b1, b2, b3⟩, ⟨c1, c2, c3⟩, ⟨d1, d2, d3⟩⟩, rk⟩ := r
 obtain ⟨⟨⟨ta1, ta2, ta3⟩, ⟨tb1, tb2, tb3⟩, ⟨tc1, tc2, tc3⟩, ⟨td1, td2, td3⟩⟩, tk⟩ := t
 obtain ⟨⟨⟨ga1, ga2, ga3⟩, ⟨gb1, gb2, gb3⟩, ⟨gc1, gc2, gc3⟩, ⟨gd1, gd2, gd3⟩⟩, gk⟩ := g
 obtain ⟨⟨⟨ja1, ja2, ja3⟩, ⟨jb1, jb2, jb3⟩, ⟨jc1, jc2, jc3⟩, ⟨jd1, jd2, jd3⟩⟩, jk⟩ := j
 simp only at h1
 subst h1
 clear hrd
 simp only [Xp, if_true, m4v, M4.v, M4.none, Fr.none, Fr.v, Fr.one, Fr.nul] at kr ki kj ka kb ⊢
 have KR := Gv kr
 have KI := Gv ki
 have KJ := Gv kj
 have KA := Gv ka
 have KB := Gv kb
 clear kr ki kj ka kb
 have hS := Zw.refl w
 have hC := True.intro
 go_enter Tryz.func110, Tryz.ntmps110
 go_wp2_with (first | (go_at_call 109; (with_reducible refine (KR.out _).mono ?_); rintro e w1 ⟨rfl, hx⟩; replace hS := Zw.after (W := w) hx; clear hx; replace hC := hS.reads; simp only [Zz, Zy, Gu] at hC) | (go_at_call 106; (with_reducible refine (KI.out _).mono ?_); rintro e wn ⟨rfl, rfl⟩))
 have hG1 := hG.ex ((Zw.alloc (h := hS) (cs := #[.int .i64 a1, .int .i64 a2, .int .i64 a3, .int .i64 b1, .int .i64 b2, .int .i64 b3, .int .i64 c1, .int .i64 c2, .int .i64 c3, .int .i64 d1, .int .i64 d2, .int .i64 d3]) (t := 122)).ex)
 have hS0 := Zw.alloc (h := hS) (cs := #[.int .i64 a1, .int .i64 a2, .int .i64 a3, .int .i64 b1, .int .i64 b2, .int .i64 b3, .int .i64 c1, .int .i64 c2, .int .i64 c3, .int .i64 d1, .int .i64 d2, .int .i64 d3]) (t := 122)
 refine Zn (St := Ex) (B := fun _ w' => InE _ _ w') 13 1 1 _ 122 (fun _ => 10) (fun _ => 41) (fun _ => #[.int .i64 0, .int .i64 0, .int .i64 0, .int .i64 0, .int .i64 0, .int .i64 0, .int .i64 0, .int .i64 0, .int .i64 0, .int .i64 0, .int .i64 0, .int .i64 0]) (fun _ => #[.int .i64 ga1, .int .i64 ga2, .int .i64 ga3, .int .i64 gb1, .int .i64 gb2, .int .i64 gb3, .int .i64 gc1, .int .i64 gc2, .int .i64 gc3, .int .i64 gd1, .int .i64 gd2, .int .i64 gd3]) false (by kernel_rfl) (by kernel_rfl) (InE.drew (InE.start hS0)) (fun x y h1 h2 _ => by omega) (fun x y _ _ => by decide) (fun _ _ h g cs _ hb => hb.ex h) (fun _ _ cs h => h.alloc _) (fun _ _ h => h.size) ?_
 (apply Zx; (· rfl); (· intro b wb hB Q1 hQ1; have hC := hB.sees.reads; simp only [Zz, Zy] at hC; go_wp2_with fail; exact hQ1 _ (Ex.refl _) hB); (· exact ⟨_, rfl⟩))
 iterate 8 (apply Zx; (· rfl); (· intro b wb hB Q1 hQ1; have hg := (hG1.ex hB.sees.ex).reads; go_wp2_with fail; exact hQ1 _ (Ex.refl _) hB); (· exact ⟨_, rfl⟩))
 (apply Zx; (· rfl); (· intro b wb hB Q1 hQ1; go_wp2_with (go_at_call 156; (with_reducible refine (KA.out _).mono ?_); rintro e wn ⟨rfl, hx⟩); exact hQ1 _ hx (hB.go hx)); (· exact ⟨_, rfl⟩))
 iterate 3 (apply Zx; (· rfl); (· intro b wb hB Q1 hQ1; go_wp2_with fail; exact hQ1 _ (Ex.refl _) hB); (· exact ⟨_, rfl⟩))
 refine Zv ?_
 refine ⟨fun i hi => ?_, fun i hi => ?_, fun i hi => ?_, fun gg wz hz hbx hne => ?_⟩
 ·obtain rfl : i = 0 := by omega
  all_goals exact ⟨_, rfl, Qi⟩
 ·obtain rfl : i = 0 := by omega
  all_goals exact ⟨_, rfl, Zi Og rfl (by kernel_rfl) (fun _ _ _ hg h => h.setRow hg _)⟩
 ·obtain rfl : i = 0 := by omega
  ·exact (show (10 : Nat) < 62 by decide)
 obtain ⟨hg0, hb0⟩ := hbx 0 (by omega)
 replace hS := InE.join hS0 hz
 replace hS := Zw.put hS hb0
 simp only [frN, Act.put, Gt, Gs, Gr, Nat.reduceAdd, List.drop_succ_cons, List.drop_zero]
 generalize gg 0 = g0 at *
 clear hbx hz hS0 hne
 replace hC := hS.reads
 simp only [Zz, Zy] at hC
 have z0 := hS.ex.size
 rcases gk with _ | _
 all_goals rcases tk with _ | _
 all_goals
  go_wp2_with (first | (go_at_call 156; (with_reducible refine (KB.out _).mono ?_); rintro e w4 ⟨rfl, hx⟩; replace hS := Zw.after (W := w) hx; clear hx; replace hC := hS.reads; simp only [Zz, Zy, Gu] at hC) | (go_at_call 157; (with_reducible refine (KJ.out _).mono ?_); rintro e w3 ⟨rfl, hx⟩; replace hS := Zw.after (W := w) hx; clear hx; replace hC := hS.reads; simp only [Zz, Zy, Gu] at hC))
  refine Gq ?_ rfl ⟨rfl, ?_⟩
  ·simp [results, Tryz.results110, go_sem, hC]
  ·repeat' (with_reducible first | exact hS.ex | exact Ex.refl _ | assumption | apply Ex.alloc | apply Ex.drewN | apply Ex.drew | refine Ex.setCell ?_ (by simp <;> omega) _)
theorem iMatPlate1 (p q : Int) (w : World) [hG : Yf w] (h1 : (Yo p q).2 = true) : Calls Tryz.prog 110 #[.int .i64 p, .int .i64 q, .int .i64 1] w (fun e w' => e = .returned (m4v (Yg p q 1)) ∧ Ex w w') := by
 have kr := fun w => Tz p q w
 have ki := fun w => Xu 1 0 3 w
 have hrd := Rz p q
 have h2 : Xs 1 0 3 = true := by decide
 have e : Yg p q 1 = (if (Yr (Yo p q).1 ⟨Fr.one, Fr.nul, Fr.nul, Xp 1⟩).2 && (Yr (Yr (Yo p q).1 ⟨Fr.one, Fr.nul, Fr.nul, Xp 1⟩).1 (Us (Yo p q).1).1).2 then Yr (Yr (Yo p q).1 ⟨Fr.one, Fr.nul, Fr.nul, Xp 1⟩).1 (Us (Yo p q).1).1 else (M4.none, false)) := by unfold Yg; rw [← hrd, h1, h2]; rfl
 rw [e]
 clear e
 rw [h2] at ki
 clear h2
 have kj := fun w => Rb (Yo p q).1 w
 have ka := fun w => Ua (Yo p q).1 ⟨Fr.one, Fr.nul, Fr.nul, Xp 1⟩ w
 have kb := fun w => Ua (Yr (Yo p q).1 ⟨Fr.one, Fr.nul, Fr.nul, Xp 1⟩).1 (Us (Yo p q).1).1 w
 generalize Yr (Yr (Yo p q).1 ⟨Fr.one, Fr.nul, Fr.nul, Xp 1⟩).1 (Us (Yo p q).1).1 = t at *
 generalize Yr (Yo p q).1 ⟨Fr.one, Fr.nul, Fr.nul, Xp 1⟩ = g at *
 generalize Us (Yo p q).1 = j at *
 generalize Yo p q = r at *
 obtain ⟨⟨⟨a1, a2, a3⟩, ⟨b1, b2, b3⟩, ⟨c1, c2, c3⟩, ⟨d1, d2, d3⟩⟩, rk⟩ := r
 obtain ⟨⟨⟨ta1, ta2, ta3⟩, ⟨tb1, tb2, tb3⟩, ⟨tc1, tc2, tc3⟩, ⟨td1, td2, td3⟩⟩, tk⟩ := t
 obtain ⟨⟨⟨ga1, ga2, ga3⟩, ⟨gb1, gb2, gb3⟩, ⟨gc1, gc2, gc3⟩, ⟨gd1, gd2, gd3⟩⟩, gk⟩ := g
 obtain ⟨⟨⟨ja1, ja2, ja3⟩, ⟨jb1, jb2, jb3⟩, ⟨jc1, jc2, jc3⟩, ⟨jd1, jd2, jd3⟩⟩, jk⟩ := j
 simp only at h1
 subst h1
 clear hrd
 simp only [Xp, Int.one_ne_zero, if_true, if_false, m4v, M4.v, M4.none, Fr.none, Fr.v, Fr.one, Fr.nul] at kr ki kj ka kb ⊢
 have KR := Gv kr
 have KI := Gv ki
 have KJ := Gv kj
 have KA := Gv ka
 have KB := Gv kb
 clear kr ki kj ka kb
 have hS := Zw.refl w
 have hC := True.intro
 go_enter Tryz.func110, Tryz.ntmps110
 go_wp2_with (first | (go_at_call 109; (with_reducible refine (KR.out _).mono ?_); rintro e w1 ⟨rfl, hx⟩; replace hS := Zw.after (W := w) hx; clear hx; replace hC := hS.reads; simp only [Zz, Zy, Gu] at hC) | (go_at_call 106; (with_reducible refine (KI.out _).mono ?_); rintro e wn ⟨rfl, rfl⟩))
 have hG1 := hG.ex ((Zw.alloc (h := hS) (cs := #[.int .i64 a1, .int .i64 a2, .int .i64 a3, .int .i64 b1, .int .i64 b2, .int .i64 b3, .int .i64 c1, .int .i64 c2, .int .i64 c3, .int .i64 d1, .int .i64 d2, .int .i64 d3]) (t := 122)).ex)
 have hS0 := Zw.alloc (h := hS) (cs := #[.int .i64 a1, .int .i64 a2, .int .i64 a3, .int .i64 b1, .int .i64 b2, .int .i64 b3, .int .i64 c1, .int .i64 c2, .int .i64 c3, .int .i64 d1, .int .i64 d2, .int .i64 d3]) (t := 122)
 refine Zn (St := Ex) (B := fun _ w' => InE _ _ w') 13 1 1 _ 122 (fun _ => 10) (fun _ => 41) (fun _ => #[.int .i64 0, .int .i64 0, .int .i64 0, .int .i64 0, .int .i64 0, .int .i64 0, .int .i64 0, .int .i64 0, .int .i64 0, .int .i64 0, .int .i64 0, .int .i64 0]) (fun _ => #[.int .i64 ga1, .int .i64 ga2, .int .i64 ga3, .int .i64 gb1, .int .i64 gb2, .int .i64 gb3, .int .i64 gc1, .int .i64 gc2, .int .i64 gc3, .int .i64 gd1, .int .i64 gd2, .int .i64 gd3]) false (by kernel_rfl) (by kernel_rfl) (InE.drew (InE.start hS0)) (fun x y h1 h2 _ => by omega) (fun x y _ _ => by decide) (fun _ _ h g cs _ hb => hb.ex h) (fun _ _ cs h => h.alloc _) (fun _ _ h => h.size) ?_
 (apply Zx; (· rfl); (· intro b wb hB Q1 hQ1; have hC := hB.sees.reads; simp only [Zz, Zy] at hC; go_wp2_with fail; exact hQ1 _ (Ex.refl _) hB); (· exact ⟨_, rfl⟩))
 iterate 8 (apply Zx; (· rfl); (· intro b wb hB Q1 hQ1; have hg := (hG1.ex hB.sees.ex).reads; go_wp2_with fail; exact hQ1 _ (Ex.refl _) hB); (· exact ⟨_, rfl⟩))
 (apply Zx; (· rfl); (· intro b wb hB Q1 hQ1; go_wp2_with (go_at_call 156; (with_reducible refine (KA.out _).mono ?_); rintro e wn ⟨rfl, hx⟩); exact hQ1 _ hx (hB.go hx)); (· exact ⟨_, rfl⟩))
 iterate 3 (apply Zx; (· rfl); (· intro b wb hB Q1 hQ1; go_wp2_with fail; exact hQ1 _ (Ex.refl _) hB); (· exact ⟨_, rfl⟩))
 refine Zv ?_
 refine ⟨fun i hi => ?_, fun i hi => ?_, fun i hi => ?_, fun gg wz hz hbx hne => ?_⟩
 ·obtain rfl : i = 0 := by omega
  all_goals exact ⟨_, rfl, Qi⟩
 ·obtain rfl : i = 0 := by omega
  all_goals exact ⟨_, rfl, Zi Og rfl (by kernel_rfl) (fun _ _ _ hg h => h.setRow hg _)⟩
 ·obtain rfl : i = 0 := by omega
  ·exact (show (10 : Nat) < 62 by decide)
 obtain ⟨hg0, hb0⟩ := hbx 0 (by omega)
 replace hS := InE.join hS0 hz
 replace hS := Zw.put hS hb0
 simp only [frN, Act.put, Gt, Gs, Gr, Nat.reduceAdd, List.drop_succ_cons, List.drop_zero]
 generalize gg 0 = g0 at *
 clear hbx hz hS0 hne
 replace hC := hS.reads
 simp only [Zz, Zy] at hC
 have z0 := hS.ex.size
 rcases gk with _ | _
 all_goals rcases tk with _ | _
 all_goals
  go_wp2_with (first | (go_at_call 156; (with_reducible refine (KB.out _).mono ?_); rintro e w4 ⟨rfl, hx⟩; replace hS := Zw.after (W := w) hx; clear hx; replace hC := hS.reads; simp only [Zz, Zy, Gu] at hC) | (go_at_call 157; (with_reducible refine (KJ.out _).mono ?_); rintro e w3 ⟨rfl, hx⟩; replace hS := Zw.after (W := w) hx; clear hx; replace hC := hS.reads; simp only [Zz, Zy, Gu] at hC))
  refine Gq ?_ rfl ⟨rfl, ?_⟩
  ·simp [results, Tryz.results110, go_sem, hC]
  ·repeat' (with_reducible first | exact hS.ex | exact Ex.refl _ | assumption | apply Ex.alloc | apply Ex.drewN | apply Ex.drew | refine Ex.setCell ?_ (by simp <;> omega) _)
end
section
open Go.RowKit

attribute [local go_sem] Zk Zj
attribute [local go_sem ↓] Go.wp_at_zero Go.wp_at_succ
theorem iMatPlate2 (p q : Int) (w : World) [hG : Yf w] (h1 : (Yo p q).2 = true) : Calls Tryz.prog 110 #[.int .i64 p, .int .i64 q, .int .i64 2] w (fun e w' => e = .returned (m4v (Yg p q 2)) ∧ Ex w w') := by
 have kr := fun w => Tz p q w
 have ki := fun w => Xu 2 0 3 w
 have hrd := Rz p q
 have h2 : Xs 2 0 3 = true := by decide
 have e : Yg p q 2 = (if (Yr (Yo p q).1 ⟨Fr.one, Fr.nul, Fr.nul, Xp 2⟩).2 && (Yr (Yr (Yo p q).1 ⟨Fr.one, Fr.nul, Fr.nul, Xp 2⟩).1 (Us (Yo p q).1).1).2 then Yr (Yr (Yo p q).1 ⟨Fr.one, Fr.nul, Fr.nul, Xp 2⟩).1 (Us (Yo p q).1).1 else (M4.none, false)) := by unfold Yg; rw [← hrd, h1, h2]; rfl
 rw [e]
 clear e
 rw [h2] at ki
 clear h2
 have kj := fun w => Rb (Yo p q).1 w
 have ka := fun w => Ua (Yo p q).1 ⟨Fr.one, Fr.nul, Fr.nul, Xp 2⟩ w
 have kb := fun w => Ua (Yr (Yo p q).1 ⟨Fr.one, Fr.nul, Fr.nul, Xp 2⟩).1 (Us (Yo p q).1).1 w
 generalize Yr (Yr (Yo p q).1 ⟨Fr.one, Fr.nul, Fr.nul, Xp 2⟩).1 (Us (Yo p q).1).1 = t at *
 generalize Yr (Yo p q).1 ⟨Fr.one, Fr.nul, Fr.nul, Xp 2⟩ = g at *
 generalize Us (Yo p q).1 = j at *
 generalize Yo p q = r at *
 obtain ⟨⟨⟨a1, a2, a3⟩, ⟨b1, b2, b3⟩, ⟨c1, c2, c3⟩, ⟨d1, d2, d3⟩⟩, rk⟩ := r
 obtain ⟨⟨⟨ta1, ta2, ta3⟩, ⟨tb1, tb2, tb3⟩, ⟨tc1, tc2, tc3⟩, ⟨td1, td2, td3⟩⟩, tk⟩ := t
 obtain ⟨⟨⟨ga1, ga2, ga3⟩, ⟨gb1, gb2, gb3⟩, ⟨gc1, gc2, gc3⟩, ⟨gd1, gd2, gd3⟩⟩, gk⟩ := g
 obtain ⟨⟨⟨ja1, ja2, ja3⟩, ⟨jb1, jb2, jb3⟩, ⟨jc1, jc2, jc3⟩, ⟨jd1, jd2, jd3⟩⟩, jk⟩ := j
 simp only at h1
 subst h1
 clear hrd
 simp only [Xp, if_true, if_false, show ¬ ((2 : Int) = 0) by decide, show ¬ ((2 : Int) = 1) by decide, m4v, M4.v, M4.none, Fr.none, Fr.v, Fr.one, Fr.nul] at kr ki kj ka kb ⊢
 have KR := Gv kr
 have KI := Gv ki
 have KJ := Gv kj
 have KA := Gv ka
 have KB := Gv kb
 clear kr ki kj ka kb
 have hS := Zw.refl w
 have hC := True.intro
 go_enter Tryz.func110, Tryz.ntmps110
 go_wp2_with (first | (go_at_call 109; (with_reducible refine (KR.out _).mono ?_); rintro e w1 ⟨rfl, hx⟩; replace hS := Zw.after (W := w) hx; clear hx; replace hC := hS.reads; simp only [Zz, Zy, Gu] at hC) | (go_at_call 106; (with_reducible refine (KI.out _).mono ?_); rintro e wn ⟨rfl, rfl⟩))
 have hG1 := hG.ex ((Zw.alloc (h := hS) (cs := #[.int .i64 a1, .int .i64 a2, .int .i64 a3, .int .i64 b1, .int .i64 b2, .int .i64 b3, .int .i64 c1, .int .i64 c2, .int .i64 c3, .int .i64 d1, .int .i64 d2, .int .i64 d3]) (t := 122)).ex)
 have hS0 := Zw.alloc (h := hS) (cs := #[.int .i64 a1, .int .i64 a2, .int .i64 a3, .int .i64 b1, .int .i64 b2, .int .i64 b3, .int .i64 c1, .int .i64 c2, .int .i64 c3, .int .i64 d1, .int .i64 d2, .int .i64 d3]) (t := 122)
 refine Zn (St := Ex) (B := fun _ w' => InE _ _ w') 13 1 1 _ 122 (fun _ => 10) (fun _ => 41) (fun _ => #[.int .i64 0, .int .i64 0, .int .i64 0, .int .i64 0, .int .i64 0, .int .i64 0, .int .i64 0, .int .i64 0, .int .i64 0, .int .i64 0, .int .i64 0, .int .i64 0]) (fun _ => #[.int .i64 ga1, .int .i64 ga2, .int .i64 ga3, .int .i64 gb1, .int .i64 gb2, .int .i64 gb3, .int .i64 gc1, .int .i64 gc2, .int .i64 gc3, .int .i64 gd1, .int .i64 gd2, .int .i64 gd3]) false (by kernel_rfl) (by kernel_rfl) (InE.drew (InE.start hS0)) (fun x y h1 h2 _ => by omega) (fun x y _ _ => by decide) (fun _ _ h g cs _ hb => hb.ex h) (fun _ _ cs h => h.alloc _) (fun _ _ h => h.size) ?_
 (apply Zx; (· rfl); (· intro b wb hB Q1 hQ1; have hC := hB.sees.reads; simp only [Zz, Zy] at hC; go_wp2_with fail; exact hQ1 _ (Ex.refl _) hB); (· exact ⟨_, rfl⟩))
 iterate 8 (apply Zx; (· rfl); (· intro b wb hB Q1 hQ1; have hg := (hG1.ex hB.sees.ex).reads; go_wp2_with fail; exact hQ1 _ (Ex.refl _) hB); (· exact ⟨_, rfl⟩))
 (apply Zx; (· rfl); (· intro b wb hB Q1 hQ1; go_wp2_with (go_at_call 156; (with_reducible refine (KA.out _).mono ?_); rintro e wn ⟨rfl, hx⟩); exact hQ1 _ hx (hB.go hx)); (· exact ⟨_, rfl⟩))
 iterate 3 (apply Zx; (· rfl); (· intro b wb hB Q1 hQ1; go_wp2_with fail; exact hQ1 _ (Ex.refl _) hB); (· exact ⟨_, rfl⟩))
 refine Zv ?_
 refine ⟨fun i hi => ?_, fun i hi => ?_, fun i hi => ?_, fun gg wz hz hbx hne => ?_⟩
 ·obtain rfl : i = 0 := by omega
  all_goals exact ⟨_, rfl, Qi⟩
 ·obtain rfl : i = 0 := by omega
  all_goals exact ⟨_, rfl, Zi Og rfl (by kernel_rfl) (fun _ _ _ hg h => h.setRow hg _)⟩
 ·obtain rfl : i = 0 := by omega
  ·exact (show (10 : Nat) < 62 by decide)
 obtain ⟨hg0, hb0⟩ := hbx 0 (by omega)
 replace hS := InE.join hS0 hz
 replace hS := Zw.put hS hb0
 simp only [frN, Act.put, Gt, Gs, Gr, Nat.reduceAdd, List.drop_succ_cons, List.drop_zero]
 generalize gg 0 = g0 at *
 clear hbx hz hS0 hne
 replace hC := hS.reads
 simp only [Zz, Zy] at hC
 have z0 := hS.ex.size
 rcases gk with _ | _
 all_goals rcases tk with _ | _
 all_goals
  go_wp2_with (first | (go_at_call 156; (with_reducible refine (KB.out _).mono ?_); rintro e w4 ⟨rfl, hx⟩; replace hS := Zw.after (W := w) hx; clear hx; replace hC := hS.reads; simp only [Zz, Zy, Gu] at hC) | (go_at_call 157; (with_reducible refine (KJ.out _).mono ?_); rintro e w3 ⟨rfl, hx⟩; replace hS := Zw.after (W := w) hx; clear hx; replace hC := hS.reads; simp only [Zz, Zy, Gu] at hC))
  refine Gq ?_ rfl ⟨rfl, ?_⟩
  ·simp [results, Tryz.results110, go_sem, hC]
  ·repeat' (with_reducible first | exact hS.ex | exact Ex.refl _ | assumption | apply Ex.alloc | apply Ex.drewN | apply Ex.drew | refine Ex.setCell ?_ (by simp <;> omega) _)
theorem iMatPlate3 (p q : Int) (w : World) [hG : Yf w] (h1 : (Yo p q).2 = true) : Calls Tryz.prog 110 #[.int .i64 p, .int .i64 q, .int .i64 3] w (fun e w' => e = .returned (m4v (Yg p q 3)) ∧ Ex w w') := by
 have kr := fun w => Tz p q w
 have ki := fun w => Xu 3 0 3 w
 have hrd := Rz p q
 have h2 : Xs 3 0 3 = true := by decide
 have e : Yg p q 3 = (if (Yr (Yo p q).1 ⟨Fr.one, Fr.nul, Fr.nul, Xp 3⟩).2 && (Yr (Yr (Yo p q).1 ⟨Fr.one, Fr.nul, Fr.nul, Xp 3⟩).1 (Us (Yo p q).1).1).2 then Yr (Yr (Yo p q).1 ⟨Fr.one, Fr.nul, Fr.nul, Xp 3⟩).1 (Us (Yo p q).1).1 else (M4.none, false)) := by unfold Yg; rw [← hrd, h1, h2]; rfl
 rw [e]
 clear e
 rw [h2] at ki
 clear h2
 have kj := fun w => Rb (Yo p q).1 w
 have ka := fun w => Ua (Yo p q).1 ⟨Fr.one, Fr.nul, Fr.nul, Xp 3⟩ w
 have kb := fun w => Ua (Yr (Yo p q).1 ⟨Fr.one, Fr.nul, Fr.nul, Xp 3⟩).1 (Us (Yo p q).1).1 w
 generalize Yr (Yr (Yo p q).1 ⟨Fr.one, Fr.nul, Fr.nul, Xp 3⟩).1 (Us (Yo p q).1).1 = t at *
 generalize Yr (Yo p q).1 ⟨Fr.one, Fr.nul, Fr.nul, Xp 3⟩ = g at *
 generalize Us (Yo p q).1 = j at *
 generalize Yo p q = r at *
 obtain ⟨⟨⟨a1, a2, a3⟩, ⟨b1, b2, b3⟩, ⟨c1, c2, c3⟩, ⟨d1, d2, d3⟩⟩, rk⟩ := r
 obtain ⟨⟨⟨ta1, ta2, ta3⟩, ⟨tb1, tb2, tb3⟩, ⟨tc1, tc2, tc3⟩, ⟨td1, td2, td3⟩⟩, tk⟩ := t
 obtain ⟨⟨⟨ga1, ga2, ga3⟩, ⟨gb1, gb2, gb3⟩, ⟨gc1, gc2, gc3⟩, ⟨gd1, gd2, gd3⟩⟩, gk⟩ := g
 obtain ⟨⟨⟨ja1, ja2, ja3⟩, ⟨jb1, jb2, jb3⟩, ⟨jc1, jc2, jc3⟩, ⟨jd1, jd2, jd3⟩⟩, jk⟩ := j
 simp only at h1
 subst h1
 clear hrd
 simp only [Xp, if_false, show ¬ ((3 : Int) = 0) by decide, show ¬ ((3 : Int) = 1) by decide, show ¬ ((3 : Int) = 2) by decide, m4v, M4.v, M4.none, Fr.none, Fr.v, Fr.one, Fr.nul] at kr ki kj ka kb ⊢
 have KR := Gv kr
 have KI := Gv ki
 have KJ := Gv kj
 have KA := Gv ka
 have KB := Gv kb
 clear kr ki kj ka kb
 have hS := Zw.refl w
 have hC := True.intro
 go_enter Tryz.func110, Tryz.ntmps110
 go_wp2_with (first | (go_at_call 109; (with_reducible refine (KR.out _).mono ?_); rintro e w1 ⟨rfl, hx⟩; replace hS := Zw.after (W := w) hx; clear hx; replace hC := hS.reads; simp only [Zz, Zy, Gu] at hC) | (go_at_call 106; (with_reducible refine (KI.out _).mono ?_); rintro e wn ⟨rfl, rfl⟩))
 have hG1 := hG.ex ((Zw.alloc (h := hS) (cs := #[.int .i64 a1, .int .i64 a2, .int .i64 a3, .int .i64 b1, .int .i64 b2, .int .i64 b3, .int .i64 c1, .int .i64 c2, .int .i64 c3, .int .i64 d1, .int .i64 d2, .int .i64 d3]) (t := 122)).ex)
 have hS0 := Zw.alloc (h := hS) (cs := #[.int .i64 a1, .int .i64 a2, .int .i64 a3, .int .i64 b1, .int .i64 b2, .int .i64 b3, .int .i64 c1, .int .i64 c2, .int .i64 c3, .int .i64 d1, .int .i64 d2, .int .i64 d3]) (t := 122)
 refine Zn (St := Ex) (B := fun _ w' => InE _ _ w') 13 1 1 _ 122 (fun _ => 10) (fun _ => 41) (fun _ => #[.int .i64 0, .int .i64 0, .int .i64 0, .int .i64 0, .int .i64 0, .int .i64 0, .int .i64 0, .int .i64 0, .int .i64 0, .int .i64 0, .int .i64 0, .int .i64 0]) (fun _ => #[.int .i64 ga1, .int .i64 ga2, .int .i64 ga3, .int .i64 gb1, .int .i64 gb2, .int .i64 gb3, .int .i64 gc1, .int .i64 gc2, .int .i64 gc3, .int .i64 gd1, .int .i64 gd2, .int .i64 gd3]) false (by kernel_rfl) (by kernel_rfl) (InE.drew (InE.start hS0)) (fun x y h1 h2 _ => by omega) (fun x y _ _ => by decide) (fun _ _ h g cs _ hb => hb.ex h) (fun _ _ cs h => h.alloc _) (fun _ _ h => h.size) ?_
 (apply Zx; (· rfl); (· intro b wb hB Q1 hQ1; have hC := hB.sees.reads; simp only [Zz, Zy] at hC; go_wp2_with fail; exact hQ1 _ (Ex.refl _) hB); (· exact ⟨_, rfl⟩))
 iterate 8 (apply Zx; (· rfl); (· intro b wb hB Q1 hQ1; have hg := (hG1.ex hB.sees.ex).reads; go_wp2_with fail; exact hQ1 _ (Ex.refl _) hB); (· exact ⟨_, rfl⟩))
 (apply Zx; (· rfl); (· intro b wb hB Q1 hQ1; go_wp2_with (go_at_call 156; (with_reducible refine (KA.out _).mono ?_); rintro e wn ⟨rfl, hx⟩); exact hQ1 _ hx (hB.go hx)); (· exact ⟨_, rfl⟩))
 iterate 3 (apply Zx; (· rfl); (· intro b wb hB Q1 hQ1; go_wp2_with fail; exact hQ1 _ (Ex.refl _) hB); (· exact ⟨_, rfl⟩))
 refine Zv ?_
 refine ⟨fun i hi => ?_, fun i hi => ?_, fun i hi => ?_, fun gg wz hz hbx hne => ?_⟩
 ·obtain rfl : i = 0 := by omega
  all_goals exact ⟨_, rfl, Qi⟩
 ·obtain rfl : i = 0 := by omega
  all_goals exact ⟨_, rfl, Zi Og rfl (by kernel_rfl) (fun _ _ _ hg h => h.setRow hg _)⟩
 ·obtain rfl : i = 0 := by omega
  ·exact (show (10 : Nat) < 62 by decide)
 obtain ⟨hg0, hb0⟩ := hbx 0 (by omega)
 replace hS := InE.join hS0 hz
 replace hS := Zw.put hS hb0
 simp only [frN, Act.put, Gt, Gs, Gr, Nat.reduceAdd, List.drop_succ_cons, List.drop_zero]
 generalize gg 0 = g0 at *
 clear hbx hz hS0 hne
 replace hC := hS.reads
 simp only [Zz, Zy] at hC
 have z0 := hS.ex.size
 rcases gk with _ | _
 all_goals rcases tk with _ | _
 all_goals
  go_wp2_with (first | (go_at_call 156; (with_reducible refine (KB.out _).mono ?_); rintro e w4 ⟨rfl, hx⟩; replace hS := Zw.after (W := w) hx; clear hx; replace hC := hS.reads; simp only [Zz, Zy, Gu] at hC) | (go_at_call 157; (with_reducible refine (KJ.out _).mono ?_); rintro e w3 ⟨rfl, hx⟩; replace hS := Zw.after (W := w) hx; clear hx; replace hC := hS.reads; simp only [Zz, Zy, Gu] at hC))
  refine Gq ?_ rfl ⟨rfl, ?_⟩
  ·simp [results, Tryz.results110, go_sem, hC]
  ·repeat' (with_reducible first | exact hS.ex | exact Ex.refl _ | assumption | apply Ex.alloc | apply Ex.drewN | apply Ex.drew | refine Ex.setCell ?_ (by simp <;> omega) _)
end
section
open Go.RowKit

theorem iMatPlate (p q k : Int) (w : World) [hG : Yf w] : Calls Tryz.prog 110 #[.int .i64 p, .int .i64 q, .int .i64 k] w (fun e w' => e = .returned (m4v (Yg p q k)) ∧ Ex w w') := by
 have kr := fun w => Tz p q w
 have ki := fun w => Xu k 0 3 w
 have hrd := Rz p q
 rcases h1 : (Yo p q).2 with _ | _
 ·have e : Yg p q k = (M4.none, false) := by unfold Yg; rw [← hrd, h1]; rfl
  rw [e]
  generalize Yo p q = r at *
  obtain ⟨⟨⟨a1, a2, a3⟩, ⟨b1, b2, b3⟩, ⟨c1, c2, c3⟩, ⟨d1, d2, d3⟩⟩, rk⟩ := r
  simp only at h1
  subst h1
  simp only [m4v, M4.v, M4.none, Fr.none] at kr ⊢
  clear e hrd ki
  have KR := Gv kr
  clear kr
  have hS := Zw.refl w
  have hC := True.intro
  go_enter Tryz.func110, Tryz.ntmps110
  go_wp2_with (go_at_call 109; (with_reducible refine (KR.out _).mono ?_); rintro e w1 ⟨rfl, hx⟩; replace hS := Zw.after (W := w) hx; clear hx; replace hC := hS.reads; simp only [Zz, Zy, Gu] at hC)
  refine Gq ?_ rfl ⟨rfl, ?_⟩
  ·simp [results, Tryz.results110, go_sem, hC]
  ·repeat' (with_reducible first | exact hS.ex | exact Ex.refl _ | assumption | apply Ex.alloc | apply Ex.drewN | apply Ex.drew | refine Ex.setCell ?_ (by simp <;> omega) _)
 ·rcases h2 : Xs k 0 3 with _ | _
  ·have e : Yg p q k = (M4.none, false) := by unfold Yg; rw [h2, Bool.and_false]; rfl
   rw [e]
   generalize Yo p q = r at *
   obtain ⟨⟨⟨a1, a2, a3⟩, ⟨b1, b2, b3⟩, ⟨c1, c2, c3⟩, ⟨d1, d2, d3⟩⟩, rk⟩ := r
   simp only at h1
   subst h1
   rw [h2] at ki
   simp only [m4v, M4.v, M4.none, Fr.none] at kr ⊢
   clear e hrd h2
   have KR := Gv kr
   have KI := Gv ki
   clear kr ki
   have hS := Zw.refl w
   have hC := True.intro
   go_enter Tryz.func110, Tryz.ntmps110
   go_wp2_with (first | (go_at_call 109; (with_reducible refine (KR.out _).mono ?_); rintro e w1 ⟨rfl, hx⟩; replace hS := Zw.after (W := w) hx; clear hx; replace hC := hS.reads; simp only [Zz, Zy, Gu] at hC) | (go_at_call 106; (with_reducible refine (KI.out _).mono ?_); rintro e wn ⟨rfl, rfl⟩))
   refine Gq ?_ rfl ⟨rfl, ?_⟩
   ·simp [results, Tryz.results110, go_sem, hC]
   ·repeat' (with_reducible first | exact hS.ex | exact Ex.refl _ | assumption | apply Ex.alloc | apply Ex.drewN | apply Ex.drew | refine Ex.setCell ?_ (by simp <;> omega) _)
  ·have hk := Xz h2
   clear kr ki hrd
   obtain rfl | rfl | rfl | rfl : k = 0 ∨ k = 1 ∨ k = 2 ∨ k = 3 := by omega
   ·exact iMatPlate0 p q w h1
   ·exact iMatPlate1 p q w h1
   ·exact iMatPlate2 p q w h1
   ·exact iMatPlate3 p q w h1
end
end Go.Proofs.YtmmjkchjgeklnaaGreatDoor
