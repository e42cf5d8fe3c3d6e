/-
  Walks: ratios of vectors.
-/
import Derived.Test.YtgkekdiffgmllaaDoorJv
import Derived.Test.YtgkekdiffgmllaaDoorOvrS
import Derived.Test.YtgkekdiffgmllaaDoorNewS
import Derived.Laws.StructEq
import Derived.Deep.RegionHeld3
import Derived.Deep.DrawnRows
import Derived.Deep.DeepCutAuto
namespace Go.Proofs.YtgkekdiffgmllaaDoor
open Go.RowKit

attribute [local go_sem ↓] Go.wp_at_zero Go.wp_at_succ
attribute [local go_sem] nat_eq_lt nat_eq_gt
set_option maxHeartbeats 1000000 in
theorem iRatioOf (x y : Fr) (w : World) [hG : Glob w] : Calls Tryd.prog 5 #[jvv x y] w (fun e w' => e = .returned (frv (fover x y)) ∧ Ex w w') := by
  have k1 := fun w => iJonesValid x y w
  have k2 : ∀ w, Glob w → Calls Tryd.prog 13 #[x.v, y.v] w fun e w' => e = .returned (frv (fover x y)) ∧ Ex w w' := fun w h => FrGot.opn (iFracOver x y w)
  rcases h : (x.valid && y.valid) with _ | _
  · have e : fover x y = (Fr.none, false) := by
      rw [Bool.and_eq_false_iff] at h
      rcases h with h | h
      · exact fover_no1 h
      · exact fover_no2 h
    rw [e]
    obtain ⟨x1, x2, x3⟩ := x
    obtain ⟨y1, y2, y3⟩ := y
    rw [h] at k1
    simp only [jvv] at k1 ⊢
    simp only [frv, Fr.v, Fr.none]
    clear e h k2
    have K1 := Lib.hid k1
    clear k1
    have hS := Sees.refl w
    have hC := True.intro
    have hg := hG.reads
    go_enter Tryd.func5, Tryd.ntmps5
    go_wp2_with ((go_at_call 12; (with_reducible refine (K1.out _).mono ?_); rintro e wn ⟨rfl, hx⟩; replace hS := Sees.after (W := w) hx; replace hG := Glob.after hx; clear hx; replace hC := hS.reads; simp only [reads_cons, reads_nil, World.size_alloc] at hC; replace hg := hG.reads))
    refine bodyPost_ret ?_ rfl ⟨rfl, ?_⟩
    · simp [results, Tryd.results5, go_sem, hC]
    · repeat' (with_reducible first | exact hS.ex | exact Ex.refl _ | assumption | refine Ex.alloc ?_ _ | refine Ex.drewN ?_ _ | refine Ex.drew ?_ | refine Ex.setCell ?_ (by simp <;> omega) _)
  · rw [h] at k1
    generalize fover x y = r at k2 ⊢
    obtain ⟨x1, x2, x3⟩ := x
    obtain ⟨y1, y2, y3⟩ := y
    obtain ⟨⟨r1, r2, r3⟩, rk⟩ := r
    simp only [jvv] at k1 ⊢
    simp only [frv, Fr.v] at k2 ⊢
    clear h
    have K1 := Lib.hid k1
    have K2 := Lib.hid k2
    clear k1 k2
    have hS := Sees.refl w
    have hC := True.intro
    have hg := hG.reads
    go_enter Tryd.func5, Tryd.ntmps5
    go_wp2_with ((first | (go_at_call 12; (with_reducible refine (K1.out _).mono ?_); rintro e wn ⟨rfl, hx⟩; replace hS := Sees.after (W := w) hx; replace hG := Glob.after hx; clear hx; replace hC := hS.reads; simp only [reads_cons, reads_nil, World.size_alloc] at hC; replace hg := hG.reads) | (go_at_call 13; (with_reducible refine (K2.out _ (by infer_instance)).mono ?_); rintro e wn ⟨rfl, hx⟩; replace hS := Sees.after (W := w) hx; replace hG := Glob.after hx; clear hx; replace hC := hS.reads; simp only [reads_cons, reads_nil, World.size_alloc] at hC; replace hg := hG.reads)))
    refine bodyPost_ret ?_ rfl ⟨rfl, ?_⟩
    · simp [results, Tryd.results5, go_sem, hC]
    · repeat' (with_reducible first | exact hS.ex | exact Ex.refl _ | assumption | refine Ex.alloc ?_ _ | refine Ex.drewN ?_ _ | refine Ex.drew ?_ | refine Ex.setCell ?_ (by simp <;> omega) _)
set_option maxHeartbeats 1000000 in
theorem sRatioOf (x y : Fr) (w : World) : Calls Tryd.prog 6 #[jvv x y] w (fun e w' => e = .returned (frv (fover x y)) ∧ Ex w w') := by
  have k1 := fun w => sJonesValid x y w
  have k2 := fun w => FrGot.opn (sFracOver x y w)
  rcases h : (x.valid && y.valid) with _ | _
  · have e : fover x y = (Fr.none, false) := by
      rw [Bool.and_eq_false_iff] at h
      rcases h with h | h
      · exact fover_no1 h
      · exact fover_no2 h
    rw [e]
    obtain ⟨x1, x2, x3⟩ := x
    obtain ⟨y1, y2, y3⟩ := y
    rw [h] at k1
    simp only [jvv] at k1 ⊢
    simp only [frv, Fr.v, Fr.none]
    clear e h k2
    have K1 := Lib.hid k1
    clear k1
    have hS := Sees.refl w
    have hC := True.intro
    go_enter Tryd.func6, Tryd.ntmps6
    go_wp2_with ((go_at_call 14; (with_reducible refine (K1.out _).mono ?_); rintro e wn ⟨rfl, hx⟩; replace hS := Sees.after (W := w) hx; clear hx; replace hC := hS.reads; simp only [reads_cons, reads_nil, World.size_alloc] at hC))
    refine bodyPost_ret ?_ rfl ⟨rfl, ?_⟩
    · simp [results, Tryd.results6, go_sem, hC]
    · repeat' (with_reducible first | exact hS.ex | exact Ex.refl _ | assumption | refine Ex.alloc ?_ _ | refine Ex.drewN ?_ _ | refine Ex.drew ?_ | refine Ex.setCell ?_ (by simp <;> omega) _)
  · rw [h] at k1
    generalize fover x y = r at k2 ⊢
    obtain ⟨x1, x2, x3⟩ := x
    obtain ⟨y1, y2, y3⟩ := y
    obtain ⟨⟨r1, r2, r3⟩, rk⟩ := r
    simp only [jvv] at k1 ⊢
    simp only [frv, Fr.v] at k2 ⊢
    clear h
    have K1 := Lib.hid k1
    have K2 := Lib.hid k2
    clear k1 k2
    have hS := Sees.refl w
    have hC := True.intro
    go_enter Tryd.func6, Tryd.ntmps6
    go_wp2_with ((first | (go_at_call 14; (with_reducible refine (K1.out _).mono ?_); rintro e wn ⟨rfl, hx⟩; replace hS := Sees.after (W := w) hx; clear hx; replace hC := hS.reads; simp only [reads_cons, reads_nil, World.size_alloc] at hC) | (go_at_call 15; (with_reducible refine (K2.out _).mono ?_); rintro e wn ⟨rfl, hx⟩; replace hS := Sees.after (W := w) hx; clear hx; replace hC := hS.reads; simp only [reads_cons, reads_nil, World.size_alloc] at hC)))
    refine bodyPost_ret ?_ rfl ⟨rfl, ?_⟩
    · simp [results, Tryd.results6, go_sem, hC]
    · repeat' (with_reducible first | exact hS.ex | exact Ex.refl _ | assumption | refine Ex.alloc ?_ _ | refine Ex.drewN ?_ _ | refine Ex.drew ?_ | refine Ex.setCell ?_ (by simp <;> omega) _)
set_option maxHeartbeats 400000 in
theorem iRatioVector (a : Fr) (w : World) [hG : Glob w] (hv : a.valid = true) : Calls Tryd.prog 7 #[a.v] w (fun e w' => e = .returned (v2v ((a, ⟨1, 0, 1⟩), true)) ∧ Ex w w') := by
  have k1 := fun w => iFracValid a.re a.im a.den w
  unfold Fr.valid at hv
  rw [hv] at k1
  obtain ⟨a1, a2, a3⟩ := a
  simp only [v2v, jvv, Fr.v] at k1 ⊢
  clear hv
  have K1 := Lib.hid k1
  clear k1
  have hS := Sees.refl w
  have hC := True.intro
  have hg := hG.reads
  go_enter Tryd.func7, Tryd.ntmps7
  go_wp2_with ((go_at_call 16; (with_reducible refine (K1.out _).mono ?_); rintro e wn ⟨rfl, hx⟩; replace hS := Sees.after (W := w) hx; replace hG := Glob.after hx; clear hx; replace hC := hS.reads; simp only [reads_cons, reads_nil, World.size_alloc] at hC; replace hg := hG.reads))
  refine bodyPost_ret ?_ rfl ⟨rfl, ?_⟩
  · simp [results, Tryd.results7, go_sem, hC]
  · repeat' (with_reducible first | exact hS.ex | exact Ex.refl _ | assumption | refine Ex.alloc ?_ _ | refine Ex.drewN ?_ _ | refine Ex.drew ?_ | refine Ex.setCell ?_ (by simp <;> omega) _)
set_option maxHeartbeats 1000000 in
theorem dark_no (x1 x2 x3 y1 y2 y3 : Int) (h : (y1 == 0) = false ∨ (y2 == 0) = false) (w : World) [hG : Glob w] : Calls Tryd.prog 20 #[.agg #[.int .i64 x1, .int .i64 x2, .int .i64 x3, .int .i64 y1, .int .i64 y2, .int .i64 y3]] w (fun e w' => e = .returned (.bool false) ∧ Ex w w') := by
  by_cases h1 : x1 = 0
  · subst h1
    by_cases h2 : x2 = 0
    · subst h2
      by_cases h3 : x3 = 1
      · subst h3
        by_cases hy : y1 = 0
        · subst hy
          have e : (y2 == 0) = false := by
            rcases h with h | h
            · cases h
            · exact h
          clear h
          have hS := Sees.refl w
          have hC := True.intro
          have hg := hG.reads
          go_enter Tryd.func20, Tryd.ntmps20
          go_wp2
          go_ret
          refine ⟨rfl, ?_⟩
          repeat' (with_reducible first | exact hS.ex | exact Ex.refl _ | assumption | refine Ex.alloc ?_ _ | refine Ex.drewN ?_ _ | refine Ex.drew ?_ | refine Ex.setCell ?_ (by simp <;> omega) _)
        · have e : (y1 == 0) = false := by simpa using hy
          clear h hy
          have hS := Sees.refl w
          have hC := True.intro
          have hg := hG.reads
          go_enter Tryd.func20, Tryd.ntmps20
          go_wp2
          go_ret
          refine ⟨rfl, ?_⟩
          repeat' (with_reducible first | exact hS.ex | exact Ex.refl _ | assumption | refine Ex.alloc ?_ _ | refine Ex.drewN ?_ _ | refine Ex.drew ?_ | refine Ex.setCell ?_ (by simp <;> omega) _)
      · have e : (x3 == 1) = false := by simpa using h3
        clear h h3
        have hS := Sees.refl w
        have hC := True.intro
        have hg := hG.reads
        go_enter Tryd.func20, Tryd.ntmps20
        go_wp2
        go_ret
        refine ⟨rfl, ?_⟩
        repeat' (with_reducible first | exact hS.ex | exact Ex.refl _ | assumption | refine Ex.alloc ?_ _ | refine Ex.drewN ?_ _ | refine Ex.drew ?_ | refine Ex.setCell ?_ (by simp <;> omega) _)
    · have e : (x2 == 0) = false := by simpa using h2
      clear h h2
      have hS := Sees.refl w
      have hC := True.intro
      have hg := hG.reads
      go_enter Tryd.func20, Tryd.ntmps20
      go_wp2
      go_ret
      refine ⟨rfl, ?_⟩
      repeat' (with_reducible first | exact hS.ex | exact Ex.refl _ | assumption | refine Ex.alloc ?_ _ | refine Ex.drewN ?_ _ | refine Ex.drew ?_ | refine Ex.setCell ?_ (by simp <;> omega) _)
  · have e : (x1 == 0) = false := by simpa using h1
    clear h h1
    have hS := Sees.refl w
    have hC := True.intro
    have hg := hG.reads
    go_enter Tryd.func20, Tryd.ntmps20
    go_wp2
    go_ret
    refine ⟨rfl, ?_⟩
    repeat' (with_reducible first | exact hS.ex | exact Ex.refl _ | assumption | refine Ex.alloc ?_ _ | refine Ex.drewN ?_ _ | refine Ex.drew ?_ | refine Ex.setCell ?_ (by simp <;> omega) _)
set_option maxRecDepth 8000 in
set_option maxHeartbeats 4000000 in
theorem alike_yes (o x y : Fr) (w : World) [hG : Glob w] (ho : o.valid = true) (hx : x.valid = true) (hy : y.valid = true) (hn : fnul y = false) (h1 : ftimes o y = (x, true)) (h2 : ftimes ⟨1, 0, 1⟩ x = (x, true)) : Calls Tryd.prog 9 #[jvv o ⟨1, 0, 1⟩, jvv x y] w (fun e w' => e = .returned (.bool true) ∧ Ex w w') := by
  have hG0 := hG
  have k1 := fun w => iJonesValid o ⟨1, 0, 1⟩ w
  have k2 := fun w => iJonesValid x y w
  rw [ho, show (⟨1, 0, 1⟩ : Fr).valid = true by decide] at k1
  rw [hx, hy] at k2
  obtain ⟨o1, o2, o3⟩ := o
  obtain ⟨x1, x2, x3⟩ := x
  obtain ⟨y1, y2, y3⟩ := y
  simp only [jvv, Bool.and_self] at k1 k2 ⊢
  have hd : (y1 == 0) = false ∨ (y2 == 0) = false := by
    unfold fnul at hn
    rw [Bool.and_eq_false_iff] at hn
    rcases hn with h | h
    · exact .inl (by simpa using h)
    · exact .inr (by simpa using h)
  have H1 := Lib.hid h1
  have H2 := Lib.hid h2
  clear h1 h2 ho hx hy hn
  have K1 := Lib.hid k1
  have K2 := Lib.hid k2
  clear k1 k2
  have HD := Lib.hid hd
  clear hd
  have hS := Sees.refl w
  have hC := True.intro
  have hg := hG.reads
  go_enter Tryd.func9, Tryd.ntmps9
  go_wp2_with (first | (go_at_call 12; (first | (with_reducible refine (K1.out _).mono ?_) | (with_reducible refine (K2.out _).mono ?_)); rintro e wn ⟨rfl, hx⟩; replace hS := SeesS.after (W := w) hx; replace hG := Glob.after hx; clear hx; (try simp only [World.size_alloc] at hS); replace hC := hS.reads; simp only [reads_cons, reads_nil] at hC; replace hg := hG.reads) | (go_at_call 18; (with_reducible refine (need_see w (h := SeesS.cast (by simp only [World.size_alloc]) rfl)).mono ?_); rintro e wn ⟨rfl, hS⟩; (try simp only [World.size_alloc] at hS); have hC := hS.reads; simp only [reads_cons, reads_nil] at hC))
  have hS0 := hS
  have hbs0 := hS0.sum.lt
  refine wp_region_new (St := Sm _) (B := fun b w' => InS _ _ _ b w') 12 2 0 _ 24 (fun i => match i with | 0 => 6 | _ => 7) (fun i => match i with | 0 => 22 | _ => 28) (fun i => match i with | 0 => #[.int .i64 0, .int .i64 0, .int .i64 0] | _ => #[.int .i64 0, .int .i64 0, .int .i64 0]) (fun i => match i with | 0 => #[.int .i64 x1, .int .i64 x2, .int .i64 x3] | _ => #[.int .i64 x1, .int .i64 x2, .int .i64 x3]) _ (by kernel_rfl) (by kernel_rfl) (InS.drew (InS.start hS0)) (by intro x y h1 h2 h3; revert h3; match x, y, h1, h2 with | 0, 0, _, _ => decide | 0, 1, _, _ => decide | 1, 0, _, _ => decide | 1, 1, _, _ => decide) (by intro x y h1 h2; match x, y, h1, h2 with | 0, 0, _, _ => decide | 0, 1, _, _ => decide | 1, 0, _, _ => decide | 1, 1, _, _ => decide) (fun _ _ h g cs hg hb => h.box _ _ _ (Nat.ne_of_gt (Nat.lt_of_lt_of_le hbs0 hg)) hb) (fun _ _ cs h => h.alloc _) (fun _ _ h => h.size) ?_
  apply lexDet_pure
  · rfl
  · intro b wb hB Q1 hQ1
    go_wp2_with fail
    exact hQ1 _ (Sm.refl _ _) hB
  · exact ⟨_, rfl⟩
  apply lexDet_pure
  · rfl
  · intro b wb hB Q1 hQ1
    go_wp2_with fail
    exact hQ1 _ (Sm.refl _ _) hB
  · exact ⟨_, rfl⟩
  apply lexDet_pure
  · rfl
  · intro b wb hB Q1 hQ1
    have hS := hB.sees
    have hC := hS.reads
    simp only [reads_cons, reads_nil] at hC
    go_wp2_with fail
    exact hQ1 _ (Sm.refl _ _) hB
  · exact ⟨_, rfl⟩
  apply lexDet_pure
  · rfl
  · intro b wb hB Q1 hQ1
    go_wp2_with fail
    exact hQ1 _ (Sm.refl _ _) hB
  · exact ⟨_, rfl⟩
  apply lexDet_pure
  · rfl
  · intro b wb hB Q1 hQ1
    have hS := hB.sees
    have hC := hS.reads
    simp only [reads_cons, reads_nil] at hC
    go_wp2_with fail
    exact hQ1 _ (Sm.refl _ _) hB
  · exact ⟨_, rfl⟩
  apply lexDet_step
  · rfl
  · intro b wb hB Q1 hQ1
    go_wp2_with (go_at_call 19; (with_reducible refine (times_det hB.sees H1.out).mono ?_); rintro e wn ⟨rfl, hN, hM⟩)
    exact hQ1 _ hM (hB.call hN)
  · exact ⟨_, rfl⟩
  apply lexDet_pure
  · rfl
  · intro b wb hB Q1 hQ1
    go_wp2_with fail
    exact hQ1 _ (Sm.refl _ _) hB
  · exact ⟨_, rfl⟩
  apply lexDet_pure
  · rfl
  · intro b wb hB Q1 hQ1
    go_wp2_with fail
    exact hQ1 _ (Sm.refl _ _) hB
  · exact ⟨_, rfl⟩
  apply lexDet_pure
  · rfl
  · intro b wb hB Q1 hQ1
    have hS := hB.sees
    have hC := hS.reads
    simp only [reads_cons, reads_nil] at hC
    go_wp2_with fail
    exact hQ1 _ (Sm.refl _ _) hB
  · exact ⟨_, rfl⟩
  apply lexDet_pure
  · rfl
  · intro b wb hB Q1 hQ1
    go_wp2_with fail
    exact hQ1 _ (Sm.refl _ _) hB
  · exact ⟨_, rfl⟩
  apply lexDet_pure
  · rfl
  · intro b wb hB Q1 hQ1
    have hS := hB.sees
    have hC := hS.reads
    simp only [reads_cons, reads_nil] at hC
    go_wp2_with fail
    exact hQ1 _ (Sm.refl _ _) hB
  · exact ⟨_, rfl⟩
  apply lexDet_step
  · rfl
  · intro b wb hB Q1 hQ1
    go_wp2_with (go_at_call 19; (with_reducible refine (times_det hB.sees H2.out).mono ?_); rintro e wn ⟨rfl, hN, hM⟩)
    exact hQ1 _ hM (hB.call hN)
  · exact ⟨_, rfl⟩
  refine lexDet_zero ?_
  refine ⟨fun i hi => ?_, fun i hi => ?_, fun i hi => ?_, fun gg wz hz hbx hne => ?_⟩
  · obtain rfl | rfl : i = 0 ∨ i = 1 := by omega
    all_goals exact ⟨_, rfl, makes_Frac⟩
  · obtain rfl | rfl : i = 0 ∨ i = 1 := by omega
    all_goals exact ⟨_, rfl, fillsB_row info_Frac rfl (by kernel_rfl) (fun _ _ _ hg h => h.setRow hg _)⟩
  · obtain rfl | rfl : i = 0 ∨ i = 1 := by omega
    · exact (show (6 : Nat) < 46 by decide)
    · exact (show (7 : Nat) < 46 by decide)
  obtain ⟨hg0, hb0⟩ := hbx 0 (by omega)
  obtain ⟨hg1, hb1⟩ := hbx 1 (by omega)
  replace hS := InS.join hS0 hz
  replace hS := SeesS.put hS hb0 (by omega)
  replace hS := SeesS.put hS hb1 (by omega)
  simp only [frN, Act.put, List.setIfInBounds_toArray, List.set_cons_zero, List.set_cons_succ, Nat.reduceAdd, List.drop_succ_cons, List.drop_zero]
  generalize gg 0 = g0 at *
  generalize gg 1 = g1 at *
  clear hbx hz hS0 hne
  simp only at hS
  have hG1 := hG0.ex (hS.rel (by omega))
  go_wp2_with fail
  refine wp_region_all (St := fun _ _ => True) false (B := fun _ w' => SeesS w w' _ false _) (by kernel_rfl) (by kernel_rfl) (hS.drewW) ?_
  apply lexDet_pure
  · rfl
  · intro b wb hB Q1 hQ1
    go_wp2_with fail
    exact hQ1 _ trivial hB
  · exact ⟨_, rfl⟩
  apply lexDet_pure
  · rfl
  · intro b wb hB Q1 hQ1
    go_wp2_with fail
    exact hQ1 _ trivial hB
  · exact ⟨_, rfl⟩
  apply lexDet_pure
  · rfl
  · intro b wb hB Q1 hQ1
    go_wp2_with fail
    exact hQ1 _ trivial hB
  · exact ⟨_, rfl⟩
  apply lexDet_pure
  · rfl
  · intro b wb hB Q1 hQ1
    have hS := hB
    have hC := hS.reads
    simp only [reads_cons, reads_nil] at hC
    go_wp2_with fail
    exact hQ1 _ trivial hB
  · exact ⟨_, rfl⟩
  apply lexDet_pure
  · rfl
  · intro b wb hB Q1 hQ1
    go_wp2_with fail
    exact hQ1 _ trivial hB
  · exact ⟨_, rfl⟩
  apply lexDet_pure
  · rfl
  · intro b wb hB Q1 hQ1
    go_wp2_with fail
    exact hQ1 _ trivial hB
  · exact ⟨_, rfl⟩
  apply lexDet_pure
  · rfl
  · intro b wb hB Q1 hQ1
    have hS := hB
    have hC := hS.reads
    simp only [reads_cons, reads_nil] at hC
    go_wp2_with fail
    exact hQ1 _ trivial hB
  · exact ⟨_, rfl⟩
  apply lexDet_pure
  · rfl
  · intro b wb hB Q1 hQ1
    have hS := hB
    have hC := hS.reads
    simp only [reads_cons, reads_nil] at hC
    go_wp2_with fail
    exact hQ1 _ trivial hB
  · exact ⟨_, rfl⟩
  apply lexDet_pure
  · rfl
  · intro b wb hB Q1 hQ1
    go_wp2_with fail
    exact hQ1 _ trivial hB
  · exact ⟨_, rfl⟩
  apply lexDet_pure
  · rfl
  · intro b wb hB Q1 hQ1
    go_wp2_with fail
    exact hQ1 _ trivial hB
  · exact ⟨_, rfl⟩
  apply lexDet_pure
  · rfl
  · intro b wb hB Q1 hQ1
    go_wp2_with fail
    exact hQ1 _ trivial hB
  · exact ⟨_, rfl⟩
  apply lexDet_pure
  · rfl
  · intro b wb hB Q1 hQ1
    have hS := hB
    have hC := hS.reads
    simp only [reads_cons, reads_nil] at hC
    go_wp2_with fail
    exact hQ1 _ trivial hB
  · exact ⟨_, rfl⟩
  apply lexDet_pure
  · rfl
  · intro b wb hB Q1 hQ1
    go_wp2_with (go_at_call 20; (with_reducible refine (dark_no o1 o2 o3 1 0 1 (.inl rfl) _ (hG := hG0.ex (hB.rel (by omega)))).mono ?_); rintro e wn ⟨rfl, hx⟩)
    exact hQ1 _ trivial (hB.ex hx)
  · exact ⟨_, rfl⟩
  apply lexDet_pure
  · rfl
  · intro b wb hB Q1 hQ1
    have hS := hB
    have hC := hS.reads
    simp only [reads_cons, reads_nil] at hC
    go_wp2_with fail
    exact hQ1 _ trivial hB
  · exact ⟨_, rfl⟩
  apply lexDet_pure
  · rfl
  · intro b wb hB Q1 hQ1
    go_wp2_with (go_at_call 20; (with_reducible refine (dark_no x1 x2 x3 y1 y2 y3 HD.out _ (hG := hG0.ex (hB.rel (by omega)))).mono ?_); rintro e wn ⟨rfl, hx⟩)
    exact hQ1 _ trivial (hB.ex hx)
  · exact ⟨_, rfl⟩
  apply lexDet_pure
  · rfl
  · intro b wb hB Q1 hQ1
    go_wp2_with fail
    exact hQ1 _ trivial hB
  · exact ⟨_, rfl⟩
  apply lexDet_pure
  · rfl
  · intro b wb hB Q1 hQ1
    go_wp2_with fail
    exact hQ1 _ trivial hB
  · exact ⟨_, rfl⟩
  apply lexDet_pure
  · rfl
  · intro b wb hB Q1 hQ1
    go_wp2_with fail
    exact hQ1 _ trivial hB
  · exact ⟨_, rfl⟩
  refine lexDet_zero ?_
  intro wz hz
  have hS := hz
  have hC := hS.reads
  simp only [reads_cons, reads_nil] at hC
  have hE := hS.rel (by omega)
  clear hz
  go_wp2_with fail
  refine bodyPost_ret ?_ rfl ⟨rfl, ?_⟩
  · simp [results, Tryd.results9, go_sem, hC]
  · repeat' (with_reducible first | exact hE | exact Ex.refl _ | assumption | refine Ex.alloc ?_ _ | refine Ex.drewN ?_ _ | refine Ex.drew ?_ | refine Ex.setCell ?_ (by simp <;> omega) _)
end Go.Proofs.YtgkekdiffgmllaaDoor
