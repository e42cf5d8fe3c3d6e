/-
  Walks: plates: the program's.
-/
import Derived.Test.YtmmjkchjgeklnaaDoorMatJ
namespace Go.Proofs.YtmmjkchjgeklnaaDoor
open Go.RowKit

attribute [local go_sem] nat_eq_lt nat_eq_gt
attribute [local go_sem ↓] Go.wp_at_zero Go.wp_at_succ
set_option maxRecDepth 8000 in
set_option maxHeartbeats 2000000 in
theorem iMatPlate2 (p q : Int) (w : World) [hG : Glob w] (h1 : (mrot p q).2 = true) : Calls Tryd.prog 25 #[.int .i64 p, .int .i64 q, .int .i64 2] w (fun e w' => e = .returned (m4v (mplate p q 2)) ∧ Ex w w') := by
  have kr := fun w => iMatRotator p q w
  have ki := fun w => within_q 2 0 3 w
  have hrd := mrot_flag p q
  have h2 : inB2 2 0 3 = true := by decide
  have e : mplate p q 2 = (if (mtimes (mrot p q).1 ⟨Fr.one, Fr.nul, Fr.nul, phase 2⟩).2 && (mtimes (mtimes (mrot p q).1 ⟨Fr.one, Fr.nul, Fr.nul, phase 2⟩).1 (madj (mrot p q).1).1).2 then mtimes (mtimes (mrot p q).1 ⟨Fr.one, Fr.nul, Fr.nul, phase 2⟩).1 (madj (mrot p q).1).1 else (M4.none, false)) := by unfold mplate; rw [← hrd, h1, h2]; rfl
  rw [e]
  clear e
  rw [h2] at ki
  clear h2
  have kj := fun w => iMatAdjoint (mrot p q).1 w
  have ka := fun w => iMatTimes (mrot p q).1 ⟨Fr.one, Fr.nul, Fr.nul, phase 2⟩ w
  have kb := fun w => iMatTimes (mtimes (mrot p q).1 ⟨Fr.one, Fr.nul, Fr.nul, phase 2⟩).1 (madj (mrot p q).1).1 w
  generalize mtimes (mtimes (mrot p q).1 ⟨Fr.one, Fr.nul, Fr.nul, phase 2⟩).1 (madj (mrot p q).1).1 = t at *
  generalize mtimes (mrot p q).1 ⟨Fr.one, Fr.nul, Fr.nul, phase 2⟩ = g at *
  generalize madj (mrot p q).1 = j at *
  generalize mrot p q = r at *
  obtain ⟨⟨⟨a1, a2, a3⟩, ⟨b1, b2, b3⟩, ⟨c1, c2, c3⟩, ⟨d1, d2, d3⟩⟩, rk⟩ := r
  obtain ⟨⟨⟨ta1, ta2, ta3⟩, ⟨tb1, tb2, tb3⟩, ⟨tc1, tc2, tc3⟩, ⟨td1, td2, td3⟩⟩, tk⟩ := t
  obtain ⟨⟨⟨ga1, ga2, ga3⟩, ⟨gb1, gb2, gb3⟩, ⟨gc1, gc2, gc3⟩, ⟨gd1, gd2, gd3⟩⟩, gk⟩ := g
  obtain ⟨⟨⟨ja1, ja2, ja3⟩, ⟨jb1, jb2, jb3⟩, ⟨jc1, jc2, jc3⟩, ⟨jd1, jd2, jd3⟩⟩, jk⟩ := j
  simp only at h1
  subst h1
  clear hrd
  simp only [phase, if_true, if_false, show ¬ ((2 : Int) = 0) by decide, show ¬ ((2 : Int) = 1) by decide, m4v, M4.v, M4.none, Fr.none, Fr.v, Fr.one, Fr.nul] at kr ki kj ka kb ⊢
  have KR := Lib.hid kr
  have KI := Lib.hid ki
  have KJ := Lib.hid kj
  have KA := Lib.hid ka
  have KB := Lib.hid kb
  clear kr ki kj ka kb
  have hS := Sees.refl w
  have hC := True.intro
  go_enter Tryd.func25, Tryd.ntmps25
  go_wp2_with (first | (go_at_call 48; (with_reducible refine (KR.out _).mono ?_); rintro e w1 ⟨rfl, hx⟩; replace hS := Sees.after (W := w) hx; clear hx; replace hC := hS.reads; simp only [reads_cons, reads_nil, World.size_alloc] at hC) | (go_at_call 47; (with_reducible refine (KI.out _).mono ?_); rintro e wn ⟨rfl, rfl⟩))
  have hG1 := hG.ex ((Sees.alloc (h := hS) (cs := #[.int .i64 a1, .int .i64 a2, .int .i64 a3, .int .i64 b1, .int .i64 b2, .int .i64 b3, .int .i64 c1, .int .i64 c2, .int .i64 c3, .int .i64 d1, .int .i64 d2, .int .i64 d3]) (t := 54)).ex)
  have hS0 := Sees.alloc (h := hS) (cs := #[.int .i64 a1, .int .i64 a2, .int .i64 a3, .int .i64 b1, .int .i64 b2, .int .i64 b3, .int .i64 c1, .int .i64 c2, .int .i64 c3, .int .i64 d1, .int .i64 d2, .int .i64 d3]) (t := 54)
  refine wp_region_new (St := Ex) (B := fun _ w' => InE _ _ w') 13 1 1 _ 54 (fun _ => 10) (fun _ => 41) (fun _ => #[.int .i64 0, .int .i64 0, .int .i64 0, .int .i64 0, .int .i64 0, .int .i64 0, .int .i64 0, .int .i64 0, .int .i64 0, .int .i64 0, .int .i64 0, .int .i64 0]) (fun _ => #[.int .i64 ga1, .int .i64 ga2, .int .i64 ga3, .int .i64 gb1, .int .i64 gb2, .int .i64 gb3, .int .i64 gc1, .int .i64 gc2, .int .i64 gc3, .int .i64 gd1, .int .i64 gd2, .int .i64 gd3]) false (by kernel_rfl) (by kernel_rfl) (InE.drew (InE.start hS0)) (fun x y h1 h2 _ => by omega) (fun x y _ _ => by decide) (fun _ _ h g cs _ hb => hb.ex h) (fun _ _ cs h => h.alloc _) (fun _ _ h => h.size) ?_
  apply lexDet_pure
  · rfl
  · intro b wb hB Q1 hQ1
    have hC := hB.sees.reads
    simp only [reads_cons, reads_nil] at hC
    go_wp2_with fail
    exact hQ1 _ (Ex.refl _) hB
  · exact ⟨_, rfl⟩
  apply lexDet_pure
  · rfl
  · intro b wb hB Q1 hQ1
    have hg := (hG1.ex hB.sees.ex).reads
    go_wp2_with fail
    exact hQ1 _ (Ex.refl _) hB
  · exact ⟨_, rfl⟩
  apply lexDet_pure
  · rfl
  · intro b wb hB Q1 hQ1
    have hg := (hG1.ex hB.sees.ex).reads
    go_wp2_with fail
    exact hQ1 _ (Ex.refl _) hB
  · exact ⟨_, rfl⟩
  apply lexDet_pure
  · rfl
  · intro b wb hB Q1 hQ1
    have hg := (hG1.ex hB.sees.ex).reads
    go_wp2_with fail
    exact hQ1 _ (Ex.refl _) hB
  · exact ⟨_, rfl⟩
  apply lexDet_pure
  · rfl
  · intro b wb hB Q1 hQ1
    go_wp2_with fail
    exact hQ1 _ (Ex.refl _) hB
  · exact ⟨_, rfl⟩
  apply lexDet_pure
  · rfl
  · intro b wb hB Q1 hQ1
    go_wp2_with fail
    exact hQ1 _ (Ex.refl _) hB
  · exact ⟨_, rfl⟩
  apply lexDet_pure
  · rfl
  · intro b wb hB Q1 hQ1
    have hg := (hG1.ex hB.sees.ex).reads
    go_wp2_with fail
    exact hQ1 _ (Ex.refl _) hB
  · exact ⟨_, rfl⟩
  apply lexDet_pure
  · rfl
  · intro b wb hB Q1 hQ1
    go_wp2_with fail
    exact hQ1 _ (Ex.refl _) hB
  · exact ⟨_, rfl⟩
  apply lexDet_pure
  · rfl
  · intro b wb hB Q1 hQ1
    go_wp2_with fail
    exact hQ1 _ (Ex.refl _) hB
  · exact ⟨_, rfl⟩
  apply lexDet_pure
  · rfl
  · intro b wb hB Q1 hQ1
    go_wp2_with (go_at_call 49; (with_reducible refine (KA.out _).mono ?_); rintro e wn ⟨rfl, hx⟩)
    exact hQ1 _ hx (hB.go hx)
  · exact ⟨_, rfl⟩
  apply lexDet_pure
  · rfl
  · intro b wb hB Q1 hQ1
    go_wp2_with fail
    exact hQ1 _ (Ex.refl _) hB
  · exact ⟨_, rfl⟩
  apply lexDet_pure
  · rfl
  · intro b wb hB Q1 hQ1
    go_wp2_with fail
    exact hQ1 _ (Ex.refl _) hB
  · exact ⟨_, rfl⟩
  apply lexDet_pure
  · rfl
  · intro b wb hB Q1 hQ1
    go_wp2_with fail
    exact hQ1 _ (Ex.refl _) hB
  · exact ⟨_, rfl⟩
  refine lexDet_zero ?_
  refine ⟨fun i hi => ?_, fun i hi => ?_, fun i hi => ?_, fun gg wz hz hbx hne => ?_⟩
  · obtain rfl : i = 0 := by omega
    all_goals exact ⟨_, rfl, makes_Mat⟩
  · obtain rfl : i = 0 := by omega
    all_goals exact ⟨_, rfl, fillsB_row info_Mat rfl (by kernel_rfl) (fun _ _ _ hg h => h.setRow hg _)⟩
  · obtain rfl : i = 0 := by omega
    · exact (show (10 : Nat) < 62 by decide)
  obtain ⟨hg0, hb0⟩ := hbx 0 (by omega)
  replace hS := InE.join hS0 hz
  replace hS := Sees.put hS hb0
  simp only [frN, Act.put, List.setIfInBounds_toArray, List.set_cons_zero, List.set_cons_succ, Nat.reduceAdd, List.drop_succ_cons, List.drop_zero]
  generalize gg 0 = g0 at *
  clear hbx hz hS0 hne
  replace hC := hS.reads
  simp only [reads_cons, reads_nil] at hC
  have z0 := hS.ex.size
  rcases gk with _ | _
  all_goals rcases tk with _ | _
  all_goals
    go_wp2_with (first | (go_at_call 49; (with_reducible refine (KB.out _).mono ?_); rintro e w4 ⟨rfl, hx⟩; replace hS := Sees.after (W := w) hx; clear hx; replace hC := hS.reads; simp only [reads_cons, reads_nil, World.size_alloc] at hC) | (go_at_call 50; (with_reducible refine (KJ.out _).mono ?_); rintro e w3 ⟨rfl, hx⟩; replace hS := Sees.after (W := w) hx; clear hx; replace hC := hS.reads; simp only [reads_cons, reads_nil, World.size_alloc] at hC))
    refine bodyPost_ret ?_ rfl ⟨rfl, ?_⟩
    · simp [results, Tryd.results25, go_sem, hC]
    · repeat' (with_reducible first | exact hS.ex | exact Ex.refl _ | assumption | refine Ex.alloc ?_ _ | refine Ex.drewN ?_ _ | refine Ex.drew ?_ | refine Ex.setCell ?_ (by simp <;> omega) _)
set_option maxRecDepth 8000 in
set_option maxHeartbeats 2000000 in
theorem iMatPlate3 (p q : Int) (w : World) [hG : Glob w] (h1 : (mrot p q).2 = true) : Calls Tryd.prog 25 #[.int .i64 p, .int .i64 q, .int .i64 3] w (fun e w' => e = .returned (m4v (mplate p q 3)) ∧ Ex w w') := by
  have kr := fun w => iMatRotator p q w
  have ki := fun w => within_q 3 0 3 w
  have hrd := mrot_flag p q
  have h2 : inB2 3 0 3 = true := by decide
  have e : mplate p q 3 = (if (mtimes (mrot p q).1 ⟨Fr.one, Fr.nul, Fr.nul, phase 3⟩).2 && (mtimes (mtimes (mrot p q).1 ⟨Fr.one, Fr.nul, Fr.nul, phase 3⟩).1 (madj (mrot p q).1).1).2 then mtimes (mtimes (mrot p q).1 ⟨Fr.one, Fr.nul, Fr.nul, phase 3⟩).1 (madj (mrot p q).1).1 else (M4.none, false)) := by unfold mplate; rw [← hrd, h1, h2]; rfl
  rw [e]
  clear e
  rw [h2] at ki
  clear h2
  have kj := fun w => iMatAdjoint (mrot p q).1 w
  have ka := fun w => iMatTimes (mrot p q).1 ⟨Fr.one, Fr.nul, Fr.nul, phase 3⟩ w
  have kb := fun w => iMatTimes (mtimes (mrot p q).1 ⟨Fr.one, Fr.nul, Fr.nul, phase 3⟩).1 (madj (mrot p q).1).1 w
  generalize mtimes (mtimes (mrot p q).1 ⟨Fr.one, Fr.nul, Fr.nul, phase 3⟩).1 (madj (mrot p q).1).1 = t at *
  generalize mtimes (mrot p q).1 ⟨Fr.one, Fr.nul, Fr.nul, phase 3⟩ = g at *
  generalize madj (mrot p q).1 = j at *
  generalize mrot p q = r at *
  obtain ⟨⟨⟨a1, a2, a3⟩, ⟨b1, b2, b3⟩, ⟨c1, c2, c3⟩, ⟨d1, d2, d3⟩⟩, rk⟩ := r
  obtain ⟨⟨⟨ta1, ta2, ta3⟩, ⟨tb1, tb2, tb3⟩, ⟨tc1, tc2, tc3⟩, ⟨td1, td2, td3⟩⟩, tk⟩ := t
  obtain ⟨⟨⟨ga1, ga2, ga3⟩, ⟨gb1, gb2, gb3⟩, ⟨gc1, gc2, gc3⟩, ⟨gd1, gd2, gd3⟩⟩, gk⟩ := g
  obtain ⟨⟨⟨ja1, ja2, ja3⟩, ⟨jb1, jb2, jb3⟩, ⟨jc1, jc2, jc3⟩, ⟨jd1, jd2, jd3⟩⟩, jk⟩ := j
  simp only at h1
  subst h1
  clear hrd
  simp only [phase, if_false, show ¬ ((3 : Int) = 0) by decide, show ¬ ((3 : Int) = 1) by decide, show ¬ ((3 : Int) = 2) by decide, m4v, M4.v, M4.none, Fr.none, Fr.v, Fr.one, Fr.nul] at kr ki kj ka kb ⊢
  have KR := Lib.hid kr
  have KI := Lib.hid ki
  have KJ := Lib.hid kj
  have KA := Lib.hid ka
  have KB := Lib.hid kb
  clear kr ki kj ka kb
  have hS := Sees.refl w
  have hC := True.intro
  go_enter Tryd.func25, Tryd.ntmps25
  go_wp2_with (first | (go_at_call 48; (with_reducible refine (KR.out _).mono ?_); rintro e w1 ⟨rfl, hx⟩; replace hS := Sees.after (W := w) hx; clear hx; replace hC := hS.reads; simp only [reads_cons, reads_nil, World.size_alloc] at hC) | (go_at_call 47; (with_reducible refine (KI.out _).mono ?_); rintro e wn ⟨rfl, rfl⟩))
  have hG1 := hG.ex ((Sees.alloc (h := hS) (cs := #[.int .i64 a1, .int .i64 a2, .int .i64 a3, .int .i64 b1, .int .i64 b2, .int .i64 b3, .int .i64 c1, .int .i64 c2, .int .i64 c3, .int .i64 d1, .int .i64 d2, .int .i64 d3]) (t := 54)).ex)
  have hS0 := Sees.alloc (h := hS) (cs := #[.int .i64 a1, .int .i64 a2, .int .i64 a3, .int .i64 b1, .int .i64 b2, .int .i64 b3, .int .i64 c1, .int .i64 c2, .int .i64 c3, .int .i64 d1, .int .i64 d2, .int .i64 d3]) (t := 54)
  refine wp_region_new (St := Ex) (B := fun _ w' => InE _ _ w') 13 1 1 _ 54 (fun _ => 10) (fun _ => 41) (fun _ => #[.int .i64 0, .int .i64 0, .int .i64 0, .int .i64 0, .int .i64 0, .int .i64 0, .int .i64 0, .int .i64 0, .int .i64 0, .int .i64 0, .int .i64 0, .int .i64 0]) (fun _ => #[.int .i64 ga1, .int .i64 ga2, .int .i64 ga3, .int .i64 gb1, .int .i64 gb2, .int .i64 gb3, .int .i64 gc1, .int .i64 gc2, .int .i64 gc3, .int .i64 gd1, .int .i64 gd2, .int .i64 gd3]) false (by kernel_rfl) (by kernel_rfl) (InE.drew (InE.start hS0)) (fun x y h1 h2 _ => by omega) (fun x y _ _ => by decide) (fun _ _ h g cs _ hb => hb.ex h) (fun _ _ cs h => h.alloc _) (fun _ _ h => h.size) ?_
  apply lexDet_pure
  · rfl
  · intro b wb hB Q1 hQ1
    have hC := hB.sees.reads
    simp only [reads_cons, reads_nil] at hC
    go_wp2_with fail
    exact hQ1 _ (Ex.refl _) hB
  · exact ⟨_, rfl⟩
  apply lexDet_pure
  · rfl
  · intro b wb hB Q1 hQ1
    have hg := (hG1.ex hB.sees.ex).reads
    go_wp2_with fail
    exact hQ1 _ (Ex.refl _) hB
  · exact ⟨_, rfl⟩
  apply lexDet_pure
  · rfl
  · intro b wb hB Q1 hQ1
    have hg := (hG1.ex hB.sees.ex).reads
    go_wp2_with fail
    exact hQ1 _ (Ex.refl _) hB
  · exact ⟨_, rfl⟩
  apply lexDet_pure
  · rfl
  · intro b wb hB Q1 hQ1
    have hg := (hG1.ex hB.sees.ex).reads
    go_wp2_with fail
    exact hQ1 _ (Ex.refl _) hB
  · exact ⟨_, rfl⟩
  apply lexDet_pure
  · rfl
  · intro b wb hB Q1 hQ1
    go_wp2_with fail
    exact hQ1 _ (Ex.refl _) hB
  · exact ⟨_, rfl⟩
  apply lexDet_pure
  · rfl
  · intro b wb hB Q1 hQ1
    go_wp2_with fail
    exact hQ1 _ (Ex.refl _) hB
  · exact ⟨_, rfl⟩
  apply lexDet_pure
  · rfl
  · intro b wb hB Q1 hQ1
    have hg := (hG1.ex hB.sees.ex).reads
    go_wp2_with fail
    exact hQ1 _ (Ex.refl _) hB
  · exact ⟨_, rfl⟩
  apply lexDet_pure
  · rfl
  · intro b wb hB Q1 hQ1
    go_wp2_with fail
    exact hQ1 _ (Ex.refl _) hB
  · exact ⟨_, rfl⟩
  apply lexDet_pure
  · rfl
  · intro b wb hB Q1 hQ1
    go_wp2_with fail
    exact hQ1 _ (Ex.refl _) hB
  · exact ⟨_, rfl⟩
  apply lexDet_pure
  · rfl
  · intro b wb hB Q1 hQ1
    go_wp2_with (go_at_call 49; (with_reducible refine (KA.out _).mono ?_); rintro e wn ⟨rfl, hx⟩)
    exact hQ1 _ hx (hB.go hx)
  · exact ⟨_, rfl⟩
  apply lexDet_pure
  · rfl
  · intro b wb hB Q1 hQ1
    go_wp2_with fail
    exact hQ1 _ (Ex.refl _) hB
  · exact ⟨_, rfl⟩
  apply lexDet_pure
  · rfl
  · intro b wb hB Q1 hQ1
    go_wp2_with fail
    exact hQ1 _ (Ex.refl _) hB
  · exact ⟨_, rfl⟩
  apply lexDet_pure
  · rfl
  · intro b wb hB Q1 hQ1
    go_wp2_with fail
    exact hQ1 _ (Ex.refl _) hB
  · exact ⟨_, rfl⟩
  refine lexDet_zero ?_
  refine ⟨fun i hi => ?_, fun i hi => ?_, fun i hi => ?_, fun gg wz hz hbx hne => ?_⟩
  · obtain rfl : i = 0 := by omega
    all_goals exact ⟨_, rfl, makes_Mat⟩
  · obtain rfl : i = 0 := by omega
    all_goals exact ⟨_, rfl, fillsB_row info_Mat rfl (by kernel_rfl) (fun _ _ _ hg h => h.setRow hg _)⟩
  · obtain rfl : i = 0 := by omega
    · exact (show (10 : Nat) < 62 by decide)
  obtain ⟨hg0, hb0⟩ := hbx 0 (by omega)
  replace hS := InE.join hS0 hz
  replace hS := Sees.put hS hb0
  simp only [frN, Act.put, List.setIfInBounds_toArray, List.set_cons_zero, List.set_cons_succ, Nat.reduceAdd, List.drop_succ_cons, List.drop_zero]
  generalize gg 0 = g0 at *
  clear hbx hz hS0 hne
  replace hC := hS.reads
  simp only [reads_cons, reads_nil] at hC
  have z0 := hS.ex.size
  rcases gk with _ | _
  all_goals rcases tk with _ | _
  all_goals
    go_wp2_with (first | (go_at_call 49; (with_reducible refine (KB.out _).mono ?_); rintro e w4 ⟨rfl, hx⟩; replace hS := Sees.after (W := w) hx; clear hx; replace hC := hS.reads; simp only [reads_cons, reads_nil, World.size_alloc] at hC) | (go_at_call 50; (with_reducible refine (KJ.out _).mono ?_); rintro e w3 ⟨rfl, hx⟩; replace hS := Sees.after (W := w) hx; clear hx; replace hC := hS.reads; simp only [reads_cons, reads_nil, World.size_alloc] at hC))
    refine bodyPost_ret ?_ rfl ⟨rfl, ?_⟩
    · simp [results, Tryd.results25, go_sem, hC]
    · repeat' (with_reducible first | exact hS.ex | exact Ex.refl _ | assumption | refine Ex.alloc ?_ _ | refine Ex.drewN ?_ _ | refine Ex.drew ?_ | refine Ex.setCell ?_ (by simp <;> omega) _)
end Go.Proofs.YtmmjkchjgeklnaaDoor
