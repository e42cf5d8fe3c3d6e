/-
  Proved: what functions compute, part 33. No condition.
-/
import Derived.Test.YtiommfmaleeibaaGreatDoorB18
import Derived.Test.YtiommfmaleeibaaGreatDoorB05
set_option linter.unusedSimpArgs false
set_option linter.unusedVariables false
set_option maxRecDepth 20000
set_option maxHeartbeats 8000000
namespace Go.Proofs.YtiommfmaleeibaaGreatDoor
section
open Go.RowKit

attribute [local go_sem] Zi Zh
attribute [local go_sem ↓] Go.wp_at_zero Go.wp_at_succ
theorem iMatPlate2 (p q : Int) (w : World) [hG : Yc w] (h1 : (Yt p q).2 = true) : Calls Tryz.prog 37 #[.int .i64 p, .int .i64 q, .int .i64 2] w (fun e w' => e = .returned (m4v (Yn p q 2)) ∧ Ex w w') := by
 have kr := fun w => Va p q w
 have ki := fun w => Yf 2 0 3 w
 have hrd := Ub p q
 have h2 : Xu 2 0 3 = true := by decide
 have e : Yn p q 2 = (if (Yx (Yt p q).1 ⟨Fr.one, Fr.nul, Fr.nul, Xw 2⟩).2 && (Yx (Yx (Yt p q).1 ⟨Fr.one, Fr.nul, Fr.nul, Xw 2⟩).1 (Vl (Yt p q).1).1).2 then Yx (Yx (Yt p q).1 ⟨Fr.one, Fr.nul, Fr.nul, Xw 2⟩).1 (Vl (Yt p q).1).1 else (M4.none, false)) := by unfold Yn; rw [← hrd, h1, h2]; rfl
 rw [e]
 clear e
 rw [h2] at ki
 clear h2
 have kj := fun w => Tm (Yt p q).1 w
 have ka := fun w => Vb (Yt p q).1 ⟨Fr.one, Fr.nul, Fr.nul, Xw 2⟩ w
 have kb := fun w => Vb (Yx (Yt p q).1 ⟨Fr.one, Fr.nul, Fr.nul, Xw 2⟩).1 (Vl (Yt p q).1).1 w
 generalize Yx (Yx (Yt p q).1 ⟨Fr.one, Fr.nul, Fr.nul, Xw 2⟩).1 (Vl (Yt p q).1).1 = t at *
 generalize Yx (Yt p q).1 ⟨Fr.one, Fr.nul, Fr.nul, Xw 2⟩ = g at *
 generalize Vl (Yt p q).1 = j at *
 generalize Yt p q = r at *
 obtain ⟨⟨⟨a1, a2, a3⟩, ⟨b1, b2, b3⟩, ⟨c1, c2, c3⟩, ⟨d1, d2, d3⟩⟩, rk⟩ := r
 obtain ⟨⟨⟨ta1, ta2, ta3⟩, ⟨tb1, tb2, tb3⟩, ⟨tc1, tc2, tc3⟩, ⟨td1, td2, td3⟩⟩, tk⟩ := t
 obtain ⟨⟨⟨ga1, ga2, ga3⟩, ⟨gb1, gb2, gb3⟩, ⟨gc1, gc2, gc3⟩, ⟨gd1, gd2, gd3⟩⟩, gk⟩ := g
 obtain ⟨⟨⟨ja1, ja2, ja3⟩, ⟨jb1, jb2, jb3⟩, ⟨jc1, jc2, jc3⟩, ⟨jd1, jd2, jd3⟩⟩, jk⟩ := j
 simp only at h1
 subst h1
 clear hrd
 simp only [Xw, if_true, if_false, show ¬ ((2 : Int) = 0) by decide, show ¬ ((2 : Int) = 1) by decide, m4v, M4.v, M4.none, Fr.none, Fr.v, Fr.one, Fr.nul] at kr ki kj ka kb ⊢
 have KR := Kw kr
 have KI := Kw ki
 have KJ := Kw kj
 have KA := Kw ka
 have KB := Kw kb
 clear kr ki kj ka kb
 have hS := Zw.refl w
 have hC := True.intro
 go_enter Tryz.func37, Tryz.ntmps37
 go_wp2_with (first | (go_at_call 91; (with_reducible refine (KR.out _).mono ?_); rintro e w1 ⟨rfl, hx⟩; replace hS := Zw.after (W := w) hx; clear hx; replace hC := hS.reads; simp only [Zz, Zy, Kv] at hC) | (go_at_call 71; (with_reducible refine (KI.out _).mono ?_); rintro e wn ⟨rfl, rfl⟩))
 have hG1 := hG.ex ((Zw.alloc (h := hS) (cs := #[.int .i64 a1, .int .i64 a2, .int .i64 a3, .int .i64 b1, .int .i64 b2, .int .i64 b3, .int .i64 c1, .int .i64 c2, .int .i64 c3, .int .i64 d1, .int .i64 d2, .int .i64 d3]) (t := 79)).ex)
 have hS0 := Zw.alloc (h := hS) (cs := #[.int .i64 a1, .int .i64 a2, .int .i64 a3, .int .i64 b1, .int .i64 b2, .int .i64 b3, .int .i64 c1, .int .i64 c2, .int .i64 c3, .int .i64 d1, .int .i64 d2, .int .i64 d3]) (t := 79)
 refine Zm (St := Ex) (B := fun _ w' => InE _ _ w') 13 1 1 _ 79 (fun _ => 10) (fun _ => 41) (fun _ => #[.int .i64 0, .int .i64 0, .int .i64 0, .int .i64 0, .int .i64 0, .int .i64 0, .int .i64 0, .int .i64 0, .int .i64 0, .int .i64 0, .int .i64 0, .int .i64 0]) (fun _ => #[.int .i64 ga1, .int .i64 ga2, .int .i64 ga3, .int .i64 gb1, .int .i64 gb2, .int .i64 gb3, .int .i64 gc1, .int .i64 gc2, .int .i64 gc3, .int .i64 gd1, .int .i64 gd2, .int .i64 gd3]) false (by kernel_rfl) (by kernel_rfl) (InE.drew (InE.start hS0)) (fun x y h1 h2 _ => by omega) (fun x y _ _ => by decide) (fun _ _ h g cs _ hb => hb.ex h) (fun _ _ cs h => h.alloc _) (fun _ _ h => h.size) ?_
 (apply Zx; (· rfl); (· intro b wb hB Q1 hQ1; have hC := hB.sees.reads; simp only [Zz, Zy] at hC; go_wp2_with fail; exact hQ1 _ (Ex.refl _) hB); (· exact ⟨_, rfl⟩))
 iterate 8 (apply Zx; (· rfl); (· intro b wb hB Q1 hQ1; have hg := (hG1.ex hB.sees.ex).reads; go_wp2_with fail; exact hQ1 _ (Ex.refl _) hB); (· exact ⟨_, rfl⟩))
 (apply Zx; (· rfl); (· intro b wb hB Q1 hQ1; go_wp2_with (go_at_call 92; (with_reducible refine (KA.out _).mono ?_); rintro e wn ⟨rfl, hx⟩); exact hQ1 _ hx (hB.go hx)); (· exact ⟨_, rfl⟩))
 iterate 3 (apply Zx; (· rfl); (· intro b wb hB Q1 hQ1; go_wp2_with fail; exact hQ1 _ (Ex.refl _) hB); (· exact ⟨_, rfl⟩))
 refine Zq ?_
 refine ⟨fun i hi => ?_, fun i hi => ?_, fun i hi => ?_, fun gg wz hz hbx hne => ?_⟩
 ·obtain rfl : i = 0 := by omega
  all_goals exact ⟨_, rfl, Ti⟩
 ·obtain rfl : i = 0 := by omega
  all_goals exact ⟨_, rfl, Zf Ri rfl (by kernel_rfl) (fun _ _ _ hg h => h.setRow hg _)⟩
 ·obtain rfl : i = 0 := by omega
  ·exact (show (10 : Nat) < 62 by decide)
 obtain ⟨hg0, hb0⟩ := hbx 0 (by omega)
 replace hS := InE.join hS0 hz
 replace hS := Zw.put hS hb0
 simp only [frN, Act.put, Ku, Kt, Ks, Nat.reduceAdd, List.drop_succ_cons, List.drop_zero]
 generalize gg 0 = g0 at *
 clear hbx hz hS0 hne
 replace hC := hS.reads
 simp only [Zz, Zy] at hC
 have z0 := hS.ex.size
 rcases gk with _ | _
 all_goals rcases tk with _ | _
 all_goals
  go_wp2_with (first | (go_at_call 92; (with_reducible refine (KB.out _).mono ?_); rintro e w4 ⟨rfl, hx⟩; replace hS := Zw.after (W := w) hx; clear hx; replace hC := hS.reads; simp only [Zz, Zy, Kv] at hC) | (go_at_call 93; (with_reducible refine (KJ.out _).mono ?_); rintro e w3 ⟨rfl, hx⟩; replace hS := Zw.after (W := w) hx; clear hx; replace hC := hS.reads; simp only [Zz, Zy, Kv] at hC))
  refine Kr ?_ rfl ⟨rfl, ?_⟩
  ·simp [results, Tryz.results37, go_sem, hC]
  ·repeat' (with_reducible first | exact hS.ex | exact Ex.refl _ | assumption | apply Ex.alloc | apply Ex.drewN | apply Ex.drew | refine Ex.setCell ?_ (by simp <;> omega) _)
theorem iMatPlate3 (p q : Int) (w : World) [hG : Yc w] (h1 : (Yt p q).2 = true) : Calls Tryz.prog 37 #[.int .i64 p, .int .i64 q, .int .i64 3] w (fun e w' => e = .returned (m4v (Yn p q 3)) ∧ Ex w w') := by
 have kr := fun w => Va p q w
 have ki := fun w => Yf 3 0 3 w
 have hrd := Ub p q
 have h2 : Xu 3 0 3 = true := by decide
 have e : Yn p q 3 = (if (Yx (Yt p q).1 ⟨Fr.one, Fr.nul, Fr.nul, Xw 3⟩).2 && (Yx (Yx (Yt p q).1 ⟨Fr.one, Fr.nul, Fr.nul, Xw 3⟩).1 (Vl (Yt p q).1).1).2 then Yx (Yx (Yt p q).1 ⟨Fr.one, Fr.nul, Fr.nul, Xw 3⟩).1 (Vl (Yt p q).1).1 else (M4.none, false)) := by unfold Yn; rw [← hrd, h1, h2]; rfl
 rw [e]
 clear e
 rw [h2] at ki
 clear h2
 have kj := fun w => Tm (Yt p q).1 w
 have ka := fun w => Vb (Yt p q).1 ⟨Fr.one, Fr.nul, Fr.nul, Xw 3⟩ w
 have kb := fun w => Vb (Yx (Yt p q).1 ⟨Fr.one, Fr.nul, Fr.nul, Xw 3⟩).1 (Vl (Yt p q).1).1 w
 generalize Yx (Yx (Yt p q).1 ⟨Fr.one, Fr.nul, Fr.nul, Xw 3⟩).1 (Vl (Yt p q).1).1 = t at *
 generalize Yx (Yt p q).1 ⟨Fr.one, Fr.nul, Fr.nul, Xw 3⟩ = g at *
 generalize Vl (Yt p q).1 = j at *
 generalize Yt p q = r at *
 obtain ⟨⟨⟨a1, a2, a3⟩, ⟨b1, b2, b3⟩, ⟨c1, c2, c3⟩, ⟨d1, d2, d3⟩⟩, rk⟩ := r
 obtain ⟨⟨⟨ta1, ta2, ta3⟩, ⟨tb1, tb2, tb3⟩, ⟨tc1, tc2, tc3⟩, ⟨td1, td2, td3⟩⟩, tk⟩ := t
 obtain ⟨⟨⟨ga1, ga2, ga3⟩, ⟨gb1, gb2, gb3⟩, ⟨gc1, gc2, gc3⟩, ⟨gd1, gd2, gd3⟩⟩, gk⟩ := g
 obtain ⟨⟨⟨ja1, ja2, ja3⟩, ⟨jb1, jb2, jb3⟩, ⟨jc1, jc2, jc3⟩, ⟨jd1, jd2, jd3⟩⟩, jk⟩ := j
 simp only at h1
 subst h1
 clear hrd
 simp only [Xw, if_false, show ¬ ((3 : Int) = 0) by decide, show ¬ ((3 : Int) = 1) by decide, show ¬ ((3 : Int) = 2) by decide, m4v, M4.v, M4.none, Fr.none, Fr.v, Fr.one, Fr.nul] at kr ki kj ka kb ⊢
 have KR := Kw kr
 have KI := Kw ki
 have KJ := Kw kj
 have KA := Kw ka
 have KB := Kw kb
 clear kr ki kj ka kb
 have hS := Zw.refl w
 have hC := True.intro
 go_enter Tryz.func37, Tryz.ntmps37
 go_wp2_with (first | (go_at_call 91; (with_reducible refine (KR.out _).mono ?_); rintro e w1 ⟨rfl, hx⟩; replace hS := Zw.after (W := w) hx; clear hx; replace hC := hS.reads; simp only [Zz, Zy, Kv] at hC) | (go_at_call 71; (with_reducible refine (KI.out _).mono ?_); rintro e wn ⟨rfl, rfl⟩))
 have hG1 := hG.ex ((Zw.alloc (h := hS) (cs := #[.int .i64 a1, .int .i64 a2, .int .i64 a3, .int .i64 b1, .int .i64 b2, .int .i64 b3, .int .i64 c1, .int .i64 c2, .int .i64 c3, .int .i64 d1, .int .i64 d2, .int .i64 d3]) (t := 79)).ex)
 have hS0 := Zw.alloc (h := hS) (cs := #[.int .i64 a1, .int .i64 a2, .int .i64 a3, .int .i64 b1, .int .i64 b2, .int .i64 b3, .int .i64 c1, .int .i64 c2, .int .i64 c3, .int .i64 d1, .int .i64 d2, .int .i64 d3]) (t := 79)
 refine Zm (St := Ex) (B := fun _ w' => InE _ _ w') 13 1 1 _ 79 (fun _ => 10) (fun _ => 41) (fun _ => #[.int .i64 0, .int .i64 0, .int .i64 0, .int .i64 0, .int .i64 0, .int .i64 0, .int .i64 0, .int .i64 0, .int .i64 0, .int .i64 0, .int .i64 0, .int .i64 0]) (fun _ => #[.int .i64 ga1, .int .i64 ga2, .int .i64 ga3, .int .i64 gb1, .int .i64 gb2, .int .i64 gb3, .int .i64 gc1, .int .i64 gc2, .int .i64 gc3, .int .i64 gd1, .int .i64 gd2, .int .i64 gd3]) false (by kernel_rfl) (by kernel_rfl) (InE.drew (InE.start hS0)) (fun x y h1 h2 _ => by omega) (fun x y _ _ => by decide) (fun _ _ h g cs _ hb => hb.ex h) (fun _ _ cs h => h.alloc _) (fun _ _ h => h.size) ?_
 (apply Zx; (· rfl); (· intro b wb hB Q1 hQ1; have hC := hB.sees.reads; simp only [Zz, Zy] at hC; go_wp2_with fail; exact hQ1 _ (Ex.refl _) hB); (· exact ⟨_, rfl⟩))
 iterate 8 (apply Zx; (· rfl); (· intro b wb hB Q1 hQ1; have hg := (hG1.ex hB.sees.ex).reads; go_wp2_with fail; exact hQ1 _ (Ex.refl _) hB); (· exact ⟨_, rfl⟩))
 (apply Zx; (· rfl); (· intro b wb hB Q1 hQ1; go_wp2_with (go_at_call 92; (with_reducible refine (KA.out _).mono ?_); rintro e wn ⟨rfl, hx⟩); exact hQ1 _ hx (hB.go hx)); (· exact ⟨_, rfl⟩))
 iterate 3 (apply Zx; (· rfl); (· intro b wb hB Q1 hQ1; go_wp2_with fail; exact hQ1 _ (Ex.refl _) hB); (· exact ⟨_, rfl⟩))
 refine Zq ?_
 refine ⟨fun i hi => ?_, fun i hi => ?_, fun i hi => ?_, fun gg wz hz hbx hne => ?_⟩
 ·obtain rfl : i = 0 := by omega
  all_goals exact ⟨_, rfl, Ti⟩
 ·obtain rfl : i = 0 := by omega
  all_goals exact ⟨_, rfl, Zf Ri rfl (by kernel_rfl) (fun _ _ _ hg h => h.setRow hg _)⟩
 ·obtain rfl : i = 0 := by omega
  ·exact (show (10 : Nat) < 62 by decide)
 obtain ⟨hg0, hb0⟩ := hbx 0 (by omega)
 replace hS := InE.join hS0 hz
 replace hS := Zw.put hS hb0
 simp only [frN, Act.put, Ku, Kt, Ks, Nat.reduceAdd, List.drop_succ_cons, List.drop_zero]
 generalize gg 0 = g0 at *
 clear hbx hz hS0 hne
 replace hC := hS.reads
 simp only [Zz, Zy] at hC
 have z0 := hS.ex.size
 rcases gk with _ | _
 all_goals rcases tk with _ | _
 all_goals
  go_wp2_with (first | (go_at_call 92; (with_reducible refine (KB.out _).mono ?_); rintro e w4 ⟨rfl, hx⟩; replace hS := Zw.after (W := w) hx; clear hx; replace hC := hS.reads; simp only [Zz, Zy, Kv] at hC) | (go_at_call 93; (with_reducible refine (KJ.out _).mono ?_); rintro e w3 ⟨rfl, hx⟩; replace hS := Zw.after (W := w) hx; clear hx; replace hC := hS.reads; simp only [Zz, Zy, Kv] at hC))
  refine Kr ?_ rfl ⟨rfl, ?_⟩
  ·simp [results, Tryz.results37, go_sem, hC]
  ·repeat' (with_reducible first | exact hS.ex | exact Ex.refl _ | assumption | apply Ex.alloc | apply Ex.drewN | apply Ex.drew | refine Ex.setCell ?_ (by simp <;> omega) _)
end
section
open Go.RowKit

theorem iMatPlate (p q k : Int) (w : World) [hG : Yc w] : Calls Tryz.prog 37 #[.int .i64 p, .int .i64 q, .int .i64 k] w (fun e w' => e = .returned (m4v (Yn p q k)) ∧ Ex w w') := by
 have kr := fun w => Va p q w
 have ki := fun w => Yf k 0 3 w
 have hrd := Ub p q
 rcases h1 : (Yt p q).2 with _ | _
 ·have e : Yn p q k = (M4.none, false) := by unfold Yn; rw [← hrd, h1]; rfl
  rw [e]
  generalize Yt p q = r at *
  obtain ⟨⟨⟨a1, a2, a3⟩, ⟨b1, b2, b3⟩, ⟨c1, c2, c3⟩, ⟨d1, d2, d3⟩⟩, rk⟩ := r
  simp only at h1
  subst h1
  simp only [m4v, M4.v, M4.none, Fr.none] at kr ⊢
  clear e hrd ki
  have KR := Kw kr
  clear kr
  have hS := Zw.refl w
  have hC := True.intro
  go_enter Tryz.func37, Tryz.ntmps37
  go_wp2_with (go_at_call 91; (with_reducible refine (KR.out _).mono ?_); rintro e w1 ⟨rfl, hx⟩; replace hS := Zw.after (W := w) hx; clear hx; replace hC := hS.reads; simp only [Zz, Zy, Kv] at hC)
  refine Kr ?_ rfl ⟨rfl, ?_⟩
  ·simp [results, Tryz.results37, go_sem, hC]
  ·repeat' (with_reducible first | exact hS.ex | exact Ex.refl _ | assumption | apply Ex.alloc | apply Ex.drewN | apply Ex.drew | refine Ex.setCell ?_ (by simp <;> omega) _)
 ·rcases h2 : Xu k 0 3 with _ | _
  ·have e : Yn p q k = (M4.none, false) := by unfold Yn; rw [h2, Bool.and_false]; rfl
   rw [e]
   generalize Yt p q = r at *
   obtain ⟨⟨⟨a1, a2, a3⟩, ⟨b1, b2, b3⟩, ⟨c1, c2, c3⟩, ⟨d1, d2, d3⟩⟩, rk⟩ := r
   simp only at h1
   subst h1
   rw [h2] at ki
   simp only [m4v, M4.v, M4.none, Fr.none] at kr ⊢
   clear e hrd h2
   have KR := Kw kr
   have KI := Kw ki
   clear kr ki
   have hS := Zw.refl w
   have hC := True.intro
   go_enter Tryz.func37, Tryz.ntmps37
   go_wp2_with (first | (go_at_call 91; (with_reducible refine (KR.out _).mono ?_); rintro e w1 ⟨rfl, hx⟩; replace hS := Zw.after (W := w) hx; clear hx; replace hC := hS.reads; simp only [Zz, Zy, Kv] at hC) | (go_at_call 71; (with_reducible refine (KI.out _).mono ?_); rintro e wn ⟨rfl, rfl⟩))
   refine Kr ?_ rfl ⟨rfl, ?_⟩
   ·simp [results, Tryz.results37, go_sem, hC]
   ·repeat' (with_reducible first | exact hS.ex | exact Ex.refl _ | assumption | apply Ex.alloc | apply Ex.drewN | apply Ex.drew | refine Ex.setCell ?_ (by simp <;> omega) _)
  ·have hk := Xt h2
   clear kr ki hrd
   obtain rfl | rfl | rfl | rfl : k = 0 ∨ k = 1 ∨ k = 2 ∨ k = 3 := by omega
   ·exact iMatPlate0 p q w h1
   ·exact iMatPlate1 p q w h1
   ·exact iMatPlate2 p q w h1
   ·exact iMatPlate3 p q w h1
end
end Go.Proofs.YtiommfmaleeibaaGreatDoor
