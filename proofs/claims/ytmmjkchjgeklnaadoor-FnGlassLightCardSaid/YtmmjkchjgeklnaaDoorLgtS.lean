/-
  Walks: light of glass, the reference's.
-/
import Derived.Test.YtmmjkchjgeklnaaDoorLgt
namespace Go.Proofs.YtmmjkchjgeklnaaDoor
open Go.RowKit

attribute [local go_sem] nat_eq_lt nat_eq_gt
set_option maxRecDepth 8000 in
set_option maxHeartbeats 2000000 in
theorem sl13Power (p q k : Int) (h0 : 0 ≤ k) (h3 : k ≤ 3) (w : World) : Calls Tryd.prog 20 #[.int .i64 p, .int .i64 q, .int .i64 k] w (fun e w' => e = .returned (frv (fcell p q k)) ∧ Ex w w') := by
  have e3 : ((mplate p q k).2 && (mapply (mplate p q k).1 Fr.one Fr.nul).2 && (mapply flt11 (mapply (mplate p q k).1 Fr.one Fr.nul).1.1 (mapply (mplate p q k).1 Fr.one Fr.nul).1.2).2) = false → fcell p q k = (Fr.none, false) := by
    intro h
    rw [← fcell_eq, h]
    rfl
  have kp := fun w => sMatPlate p q k w
  have kq := fun w => sMatFilter 1 1 w
  rw [mfilter11] at kq
  have kz := fun w => sl5Phase 0 (by omega) (by omega) w
  have e0 : (phase 0).v = .agg #[.int .i64 1, .int .i64 0, .int .i64 1] := rfl
  rw [e0] at kz
  clear e0
  have kv := fun w => sMatApply (mplate p q k).1 Fr.one Fr.nul w
  have ku := fun w => sMatApply flt11 (mapply (mplate p q k).1 Fr.one Fr.nul).1.1 (mapply (mplate p q k).1 Fr.one Fr.nul).1.2 w
  have kf := fun w => sJonesPower (mapply flt11 (mapply (mplate p q k).1 Fr.one Fr.nul).1.1 (mapply (mplate p q k).1 Fr.one Fr.nul).1.2).1.1 (mapply flt11 (mapply (mplate p q k).1 Fr.one Fr.nul).1.1 (mapply (mplate p q k).1 Fr.one Fr.nul).1.2).1.2 w
  rw [show jpower (mapply flt11 (mapply (mplate p q k).1 Fr.one Fr.nul).1.1 (mapply (mplate p q k).1 Fr.one Fr.nul).1.2).1.1 (mapply flt11 (mapply (mplate p q k).1 Fr.one Fr.nul).1.1 (mapply (mplate p q k).1 Fr.one Fr.nul).1.2).1.2 = fcell p q k from rfl] at kf
  generalize fcell p q k = ff at *
  generalize mapply flt11 (mapply (mplate p q k).1 Fr.one Fr.nul).1.1 (mapply (mplate p q k).1 Fr.one Fr.nul).1.2 = uu at *
  generalize mapply (mplate p q k).1 Fr.one Fr.nul = vv at *
  generalize mplate p q k = pp at *
  obtain ⟨⟨f1, f2, f3⟩, fk⟩ := ff
  obtain ⟨⟨⟨u1, u2, u3⟩, ⟨u4, u5, u6⟩⟩, uk⟩ := uu
  obtain ⟨⟨⟨v1, v2, v3⟩, ⟨v4, v5, v6⟩⟩, vk⟩ := vv
  obtain ⟨⟨⟨pa1, pa2, pa3⟩, ⟨pb1, pb2, pb3⟩, ⟨pc1, pc2, pc3⟩, ⟨pd1, pd2, pd3⟩⟩, pk⟩ := pp
  simp only [m4v, M4.v, v2v, jvv, frv, Fr.v, flt11, Fr.nul, Fr.one] at kp kq kv ku kf ⊢
  simp only at e3
  rcases pk with _ | _
  · have e := e3 (by simp)
    simp only [Prod.mk.injEq, Fr.mk.injEq, Fr.none] at e
    obtain ⟨⟨rfl, rfl, rfl⟩, rfl⟩ := e
    clear e3
    have KP := Lib.hid kp
    have KQ := Lib.hid kq
    have KZ := Lib.hid kz
    have KV := Lib.hid kv
    have KU := Lib.hid ku
    have KF := Lib.hid kf
    clear kp kq kz kv ku kf
    have hS := Sees.refl w
    have hC := True.intro
    go_enter Tryd.func20, Tryd.ntmps20
    go_wp2_with (first | (go_at_call 38; (with_reducible refine (KP.out _).mono ?_); rintro e w1 ⟨rfl, hx⟩; replace hS := Sees.after (W := w) hx; clear hx; replace hC := hS.reads; simp only [reads_cons, reads_nil, World.size_alloc] at hC) | (go_at_call 39; (with_reducible refine (KQ.out _).mono ?_); rintro e w2 ⟨rfl, hx⟩; replace hS := Sees.after (W := w) hx; clear hx; replace hC := hS.reads; simp only [reads_cons, reads_nil, World.size_alloc] at hC))
    refine bodyPost_ret ?_ rfl ⟨rfl, ?_⟩
    · simp [results, Tryd.results20, go_sem, hC]
    · repeat' (with_reducible first | exact hS.ex | exact Ex.refl _ | assumption | refine Ex.alloc ?_ _ | refine Ex.drewN ?_ _ | refine Ex.drew ?_ | refine Ex.setCell ?_ (by simp <;> omega) _)
  · rcases vk with _ | _
    · have e := e3 (by simp)
      simp only [Prod.mk.injEq, Fr.mk.injEq, Fr.none] at e
      obtain ⟨⟨rfl, rfl, rfl⟩, rfl⟩ := e
      clear e3
      have KP := Lib.hid kp
      have KQ := Lib.hid kq
      have KZ := Lib.hid kz
      have KV := Lib.hid kv
      have KU := Lib.hid ku
      have KF := Lib.hid kf
      clear kp kq kz kv ku kf
      have hS := Sees.refl w
      have hC := True.intro
      go_enter Tryd.func20, Tryd.ntmps20
      go_wp2_with (first | (go_at_call 38; (with_reducible refine (KP.out _).mono ?_); rintro e w1 ⟨rfl, hx⟩; replace hS := Sees.after (W := w) hx; clear hx; replace hC := hS.reads; simp only [reads_cons, reads_nil, World.size_alloc] at hC) | (go_at_call 39; (with_reducible refine (KQ.out _).mono ?_); rintro e w2 ⟨rfl, hx⟩; replace hS := Sees.after (W := w) hx; clear hx; replace hC := hS.reads; simp only [reads_cons, reads_nil, World.size_alloc] at hC))
      have hS0 := Sees.alloc (h := hS) (cs := #[.int .i64 0, .int .i64 0, .int .i64 1, .int .i64 0, .int .i64 0, .int .i64 1, .int .i64 0, .int .i64 0, .int .i64 1, .int .i64 1, .int .i64 0, .int .i64 1]) (t := 54)
      refine wp_region_new (St := Ex) (B := fun _ w' => InE _ _ w') 8 1 1 _ 59 (fun _ => 12) (fun _ => 40) (fun _ => #[.int .i64 0, .int .i64 0, .int .i64 0, .int .i64 0, .int .i64 0, .int .i64 0]) (fun _ => #[.int .i64 v1, .int .i64 v2, .int .i64 v3, .int .i64 v4, .int .i64 v5, .int .i64 v6]) false (by kernel_rfl) (by kernel_rfl) (InE.drew (InE.start hS0)) (fun x y h1 h2 _ => by omega) (fun x y _ _ => by decide) (fun _ _ h g cs _ hb => hb.ex h) (fun _ _ cs h => h.alloc _) (fun _ _ h => h.size) ?_
      apply lexDet_pure
      · rfl
      · intro b wb hB Q1 hQ1
        have hC := hB.sees.reads
        simp only [reads_cons, reads_nil] at hC
        go_wp2_with fail
        exact hQ1 _ (Ex.refl _) hB
      · exact ⟨_, rfl⟩
      apply lexDet_pure
      · rfl
      · intro b wb hB Q1 hQ1
        go_wp2_with (go_at_call 41; (with_reducible refine (KZ.out _).mono ?_); rintro e wn ⟨rfl, hx⟩)
        exact hQ1 _ hx (hB.go hx)
      · exact ⟨_, rfl⟩
      apply lexDet_pure
      · rfl
      · intro b wb hB Q1 hQ1
        go_wp2_with fail
        exact hQ1 _ (Ex.refl _) hB
      · exact ⟨_, rfl⟩
      apply lexDet_pure
      · rfl
      · intro b wb hB Q1 hQ1
        go_wp2_with fail
        exact hQ1 _ (Ex.refl _) hB
      · exact ⟨_, rfl⟩
      apply lexDet_pure
      · rfl
      · intro b wb hB Q1 hQ1
        go_wp2_with (go_at_call 40; (with_reducible refine (KV.out _).mono ?_); rintro e wn ⟨rfl, hx⟩)
        exact hQ1 _ hx (hB.go hx)
      · exact ⟨_, rfl⟩
      apply lexDet_pure
      · rfl
      · intro b wb hB Q1 hQ1
        go_wp2_with fail
        exact hQ1 _ (Ex.refl _) hB
      · exact ⟨_, rfl⟩
      apply lexDet_pure
      · rfl
      · intro b wb hB Q1 hQ1
        go_wp2_with fail
        exact hQ1 _ (Ex.refl _) hB
      · exact ⟨_, rfl⟩
      apply lexDet_pure
      · rfl
      · intro b wb hB Q1 hQ1
        go_wp2_with fail
        exact hQ1 _ (Ex.refl _) hB
      · exact ⟨_, rfl⟩
      refine lexDet_zero ?_
      refine ⟨fun i hi => ?_, fun i hi => ?_, fun i hi => ?_, fun gg wz hz hbx hne => ?_⟩
      · obtain rfl : i = 0 := by omega
        all_goals exact ⟨_, rfl, makes_Jones⟩
      · obtain rfl : i = 0 := by omega
        all_goals exact ⟨_, rfl, fillsB_row info_Jones rfl (by kernel_rfl) (fun _ _ _ hg h => h.setRow hg _)⟩
      · obtain rfl : i = 0 := by omega
        · exact (show (12 : Nat) < 59 by decide)
      obtain ⟨hg0, hb0⟩ := hbx 0 (by omega)
      replace hS := InE.join hS0 hz
      replace hS := Sees.put hS hb0
      simp only [frN, Act.put, List.setIfInBounds_toArray, List.set_cons_zero, List.set_cons_succ, Nat.reduceAdd, List.drop_succ_cons, List.drop_zero]
      generalize gg 0 = g0 at *
      clear hbx hz hS0 hne
      replace hC := hS.reads
      simp only [reads_cons, reads_nil] at hC
      have z0 := hS.ex.size
      go_wp2_with (first | (go_at_call 40; (with_reducible refine (KU.out _).mono ?_); rintro e w4 ⟨rfl, hx⟩; replace hS := Sees.after (W := w) hx; clear hx; replace hC := hS.reads; simp only [reads_cons, reads_nil, World.size_alloc] at hC) | (go_at_call 42; (with_reducible refine (KF.out _).mono ?_); rintro e w5 ⟨rfl, hx⟩; replace hS := Sees.after (W := w) hx; clear hx; replace hC := hS.reads; simp only [reads_cons, reads_nil, World.size_alloc] at hC))
      refine bodyPost_ret ?_ rfl ⟨rfl, ?_⟩
      · simp [results, Tryd.results20, go_sem, hC]
      · repeat' (with_reducible first | exact hS.ex | exact Ex.refl _ | assumption | refine Ex.alloc ?_ _ | refine Ex.drewN ?_ _ | refine Ex.drew ?_ | refine Ex.setCell ?_ (by simp <;> omega) _)
    · rcases uk with _ | _
      · have e := e3 (by simp)
        simp only [Prod.mk.injEq, Fr.mk.injEq, Fr.none] at e
        obtain ⟨⟨rfl, rfl, rfl⟩, rfl⟩ := e
        clear e3
        have KP := Lib.hid kp
        have KQ := Lib.hid kq
        have KZ := Lib.hid kz
        have KV := Lib.hid kv
        have KU := Lib.hid ku
        have KF := Lib.hid kf
        clear kp kq kz kv ku kf
        have hS := Sees.refl w
        have hC := True.intro
        go_enter Tryd.func20, Tryd.ntmps20
        go_wp2_with (first | (go_at_call 38; (with_reducible refine (KP.out _).mono ?_); rintro e w1 ⟨rfl, hx⟩; replace hS := Sees.after (W := w) hx; clear hx; replace hC := hS.reads; simp only [reads_cons, reads_nil, World.size_alloc] at hC) | (go_at_call 39; (with_reducible refine (KQ.out _).mono ?_); rintro e w2 ⟨rfl, hx⟩; replace hS := Sees.after (W := w) hx; clear hx; replace hC := hS.reads; simp only [reads_cons, reads_nil, World.size_alloc] at hC))
        have hS0 := Sees.alloc (h := hS) (cs := #[.int .i64 0, .int .i64 0, .int .i64 1, .int .i64 0, .int .i64 0, .int .i64 1, .int .i64 0, .int .i64 0, .int .i64 1, .int .i64 1, .int .i64 0, .int .i64 1]) (t := 54)
        refine wp_region_new (St := Ex) (B := fun _ w' => InE _ _ w') 8 1 1 _ 59 (fun _ => 12) (fun _ => 40) (fun _ => #[.int .i64 0, .int .i64 0, .int .i64 0, .int .i64 0, .int .i64 0, .int .i64 0]) (fun _ => #[.int .i64 v1, .int .i64 v2, .int .i64 v3, .int .i64 v4, .int .i64 v5, .int .i64 v6]) false (by kernel_rfl) (by kernel_rfl) (InE.drew (InE.start hS0)) (fun x y h1 h2 _ => by omega) (fun x y _ _ => by decide) (fun _ _ h g cs _ hb => hb.ex h) (fun _ _ cs h => h.alloc _) (fun _ _ h => h.size) ?_
        apply lexDet_pure
        · rfl
        · intro b wb hB Q1 hQ1
          have hC := hB.sees.reads
          simp only [reads_cons, reads_nil] at hC
          go_wp2_with fail
          exact hQ1 _ (Ex.refl _) hB
        · exact ⟨_, rfl⟩
        apply lexDet_pure
        · rfl
        · intro b wb hB Q1 hQ1
          go_wp2_with (go_at_call 41; (with_reducible refine (KZ.out _).mono ?_); rintro e wn ⟨rfl, hx⟩)
          exact hQ1 _ hx (hB.go hx)
        · exact ⟨_, rfl⟩
        apply lexDet_pure
        · rfl
        · intro b wb hB Q1 hQ1
          go_wp2_with fail
          exact hQ1 _ (Ex.refl _) hB
        · exact ⟨_, rfl⟩
        apply lexDet_pure
        · rfl
        · intro b wb hB Q1 hQ1
          go_wp2_with fail
          exact hQ1 _ (Ex.refl _) hB
        · exact ⟨_, rfl⟩
        apply lexDet_pure
        · rfl
        · intro b wb hB Q1 hQ1
          go_wp2_with (go_at_call 40; (with_reducible refine (KV.out _).mono ?_); rintro e wn ⟨rfl, hx⟩)
          exact hQ1 _ hx (hB.go hx)
        · exact ⟨_, rfl⟩
        apply lexDet_pure
        · rfl
        · intro b wb hB Q1 hQ1
          go_wp2_with fail
          exact hQ1 _ (Ex.refl _) hB
        · exact ⟨_, rfl⟩
        apply lexDet_pure
        · rfl
        · intro b wb hB Q1 hQ1
          go_wp2_with fail
          exact hQ1 _ (Ex.refl _) hB
        · exact ⟨_, rfl⟩
        apply lexDet_pure
        · rfl
        · intro b wb hB Q1 hQ1
          go_wp2_with fail
          exact hQ1 _ (Ex.refl _) hB
        · exact ⟨_, rfl⟩
        refine lexDet_zero ?_
        refine ⟨fun i hi => ?_, fun i hi => ?_, fun i hi => ?_, fun gg wz hz hbx hne => ?_⟩
        · obtain rfl : i = 0 := by omega
          all_goals exact ⟨_, rfl, makes_Jones⟩
        · obtain rfl : i = 0 := by omega
          all_goals exact ⟨_, rfl, fillsB_row info_Jones rfl (by kernel_rfl) (fun _ _ _ hg h => h.setRow hg _)⟩
        · obtain rfl : i = 0 := by omega
          · exact (show (12 : Nat) < 59 by decide)
        obtain ⟨hg0, hb0⟩ := hbx 0 (by omega)
        replace hS := InE.join hS0 hz
        replace hS := Sees.put hS hb0
        simp only [frN, Act.put, List.setIfInBounds_toArray, List.set_cons_zero, List.set_cons_succ, Nat.reduceAdd, List.drop_succ_cons, List.drop_zero]
        generalize gg 0 = g0 at *
        clear hbx hz hS0 hne
        replace hC := hS.reads
        simp only [reads_cons, reads_nil] at hC
        have z0 := hS.ex.size
        go_wp2_with (first | (go_at_call 40; (with_reducible refine (KU.out _).mono ?_); rintro e w4 ⟨rfl, hx⟩; replace hS := Sees.after (W := w) hx; clear hx; replace hC := hS.reads; simp only [reads_cons, reads_nil, World.size_alloc] at hC) | (go_at_call 42; (with_reducible refine (KF.out _).mono ?_); rintro e w5 ⟨rfl, hx⟩; replace hS := Sees.after (W := w) hx; clear hx; replace hC := hS.reads; simp only [reads_cons, reads_nil, World.size_alloc] at hC))
        refine bodyPost_ret ?_ rfl ⟨rfl, ?_⟩
        · simp [results, Tryd.results20, go_sem, hC]
        · repeat' (with_reducible first | exact hS.ex | exact Ex.refl _ | assumption | refine Ex.alloc ?_ _ | refine Ex.drewN ?_ _ | refine Ex.drew ?_ | refine Ex.setCell ?_ (by simp <;> omega) _)
      · clear e3
        have KP := Lib.hid kp
        have KQ := Lib.hid kq
        have KZ := Lib.hid kz
        have KV := Lib.hid kv
        have KU := Lib.hid ku
        have KF := Lib.hid kf
        clear kp kq kz kv ku kf
        have hS := Sees.refl w
        have hC := True.intro
        go_enter Tryd.func20, Tryd.ntmps20
        go_wp2_with (first | (go_at_call 38; (with_reducible refine (KP.out _).mono ?_); rintro e w1 ⟨rfl, hx⟩; replace hS := Sees.after (W := w) hx; clear hx; replace hC := hS.reads; simp only [reads_cons, reads_nil, World.size_alloc] at hC) | (go_at_call 39; (with_reducible refine (KQ.out _).mono ?_); rintro e w2 ⟨rfl, hx⟩; replace hS := Sees.after (W := w) hx; clear hx; replace hC := hS.reads; simp only [reads_cons, reads_nil, World.size_alloc] at hC))
        have hS0 := Sees.alloc (h := hS) (cs := #[.int .i64 0, .int .i64 0, .int .i64 1, .int .i64 0, .int .i64 0, .int .i64 1, .int .i64 0, .int .i64 0, .int .i64 1, .int .i64 1, .int .i64 0, .int .i64 1]) (t := 54)
        refine wp_region_new (St := Ex) (B := fun _ w' => InE _ _ w') 8 1 1 _ 59 (fun _ => 12) (fun _ => 40) (fun _ => #[.int .i64 0, .int .i64 0, .int .i64 0, .int .i64 0, .int .i64 0, .int .i64 0]) (fun _ => #[.int .i64 v1, .int .i64 v2, .int .i64 v3, .int .i64 v4, .int .i64 v5, .int .i64 v6]) false (by kernel_rfl) (by kernel_rfl) (InE.drew (InE.start hS0)) (fun x y h1 h2 _ => by omega) (fun x y _ _ => by decide) (fun _ _ h g cs _ hb => hb.ex h) (fun _ _ cs h => h.alloc _) (fun _ _ h => h.size) ?_
        apply lexDet_pure
        · rfl
        · intro b wb hB Q1 hQ1
          have hC := hB.sees.reads
          simp only [reads_cons, reads_nil] at hC
          go_wp2_with fail
          exact hQ1 _ (Ex.refl _) hB
        · exact ⟨_, rfl⟩
        apply lexDet_pure
        · rfl
        · intro b wb hB Q1 hQ1
          go_wp2_with (go_at_call 41; (with_reducible refine (KZ.out _).mono ?_); rintro e wn ⟨rfl, hx⟩)
          exact hQ1 _ hx (hB.go hx)
        · exact ⟨_, rfl⟩
        apply lexDet_pure
        · rfl
        · intro b wb hB Q1 hQ1
          go_wp2_with fail
          exact hQ1 _ (Ex.refl _) hB
        · exact ⟨_, rfl⟩
        apply lexDet_pure
        · rfl
        · intro b wb hB Q1 hQ1
          go_wp2_with fail
          exact hQ1 _ (Ex.refl _) hB
        · exact ⟨_, rfl⟩
        apply lexDet_pure
        · rfl
        · intro b wb hB Q1 hQ1
          go_wp2_with (go_at_call 40; (with_reducible refine (KV.out _).mono ?_); rintro e wn ⟨rfl, hx⟩)
          exact hQ1 _ hx (hB.go hx)
        · exact ⟨_, rfl⟩
        apply lexDet_pure
        · rfl
        · intro b wb hB Q1 hQ1
          go_wp2_with fail
          exact hQ1 _ (Ex.refl _) hB
        · exact ⟨_, rfl⟩
        apply lexDet_pure
        · rfl
        · intro b wb hB Q1 hQ1
          go_wp2_with fail
          exact hQ1 _ (Ex.refl _) hB
        · exact ⟨_, rfl⟩
        apply lexDet_pure
        · rfl
        · intro b wb hB Q1 hQ1
          go_wp2_with fail
          exact hQ1 _ (Ex.refl _) hB
        · exact ⟨_, rfl⟩
        refine lexDet_zero ?_
        refine ⟨fun i hi => ?_, fun i hi => ?_, fun i hi => ?_, fun gg wz hz hbx hne => ?_⟩
        · obtain rfl : i = 0 := by omega
          all_goals exact ⟨_, rfl, makes_Jones⟩
        · obtain rfl : i = 0 := by omega
          all_goals exact ⟨_, rfl, fillsB_row info_Jones rfl (by kernel_rfl) (fun _ _ _ hg h => h.setRow hg _)⟩
        · obtain rfl : i = 0 := by omega
          · exact (show (12 : Nat) < 59 by decide)
        obtain ⟨hg0, hb0⟩ := hbx 0 (by omega)
        replace hS := InE.join hS0 hz
        replace hS := Sees.put hS hb0
        simp only [frN, Act.put, List.setIfInBounds_toArray, List.set_cons_zero, List.set_cons_succ, Nat.reduceAdd, List.drop_succ_cons, List.drop_zero]
        generalize gg 0 = g0 at *
        clear hbx hz hS0 hne
        replace hC := hS.reads
        simp only [reads_cons, reads_nil] at hC
        have z0 := hS.ex.size
        go_wp2_with (first | (go_at_call 40; (with_reducible refine (KU.out _).mono ?_); rintro e w4 ⟨rfl, hx⟩; replace hS := Sees.after (W := w) hx; clear hx; replace hC := hS.reads; simp only [reads_cons, reads_nil, World.size_alloc] at hC) | (go_at_call 42; (with_reducible refine (KF.out _).mono ?_); rintro e w5 ⟨rfl, hx⟩; replace hS := Sees.after (W := w) hx; clear hx; replace hC := hS.reads; simp only [reads_cons, reads_nil, World.size_alloc] at hC))
        refine bodyPost_ret ?_ rfl ⟨rfl, ?_⟩
        · simp [results, Tryd.results20, go_sem, hC]
        · repeat' (with_reducible first | exact hS.ex | exact Ex.refl _ | assumption | refine Ex.alloc ?_ _ | refine Ex.drewN ?_ _ | refine Ex.drew ?_ | refine Ex.setCell ?_ (by simp <;> omega) _)
set_option maxRecDepth 8000 in
set_option maxHeartbeats 4000000 in
theorem sGlassLight (r c p q : Int) (A : Option Addr) (xs : List Int) (cap : Nat) (w : World) (hI : Ints w A xs) (hl : xs.length ≤ 1048576) : Calls Tryd.prog 6 #[.agg #[.int .i64 r, .int .i64 c, .slice A xs.length cap], .int .i64 p, .int .i64 q] w (GotFs w (glight (gvalid r c xs) p q xs)) := by
  rcases hd : dirOk p q with _ | _
  · rcases hv : gvalid r c xs with _ | _
    · rw [glight_no]
      have k0 := fun w => sl5Direction p q w
      simp only [dirv, hd, Bool.false_eq_true, if_false, Fr.none, Fr.v] at k0
      have K0 := Lib.hid k0
      clear k0
      have kg := fun w hI => sGlassValid r c A xs cap w hI hl
      rw [hv] at kg
      have KG := Lib.hid kg
      clear kg
      go_enter Tryd.func6, Tryd.ntmps6
      go_wp2_with fail
      refine (K0.out _).mono ?_
      rintro e w1 ⟨rfl, hx⟩
      clear K0
      have b3 : Box w1 w.heap.size 29 #[.int .i64 r, .int .i64 c, .slice A xs.length cap] := ((Box.new w _ _).alloc _).ex hx
      have hO := (ownF_nil (w.alloc (.cells #[.int .i64 r, .int .i64 c, .slice A xs.length cap] 29)) w.heap.size (by simp)).ex hx
      simp only [World.size_alloc] at hO
      have hE := (((Ex.refl w).alloc _).alloc _).trans hx
      clear hx
      have c3 := b3.cell
      have z3 := b3.lt
      go_wp2_with fail
      refine (KG.out _ (((hI.ex hE).alloc _).alloc _)).mono ?_
      rintro e w2 ⟨rfl, hx⟩
      clear KG
      replace b3 := ((b3.alloc _).alloc _).ex hx
      replace hE := ((hE.alloc _).alloc _).trans hx
      replace hO := (hO.ex (((Ex.refl w1).alloc _).alloc _)).ex hx
      clear hx
      replace c3 := b3.cell
      replace z3 := b3.lt
      go_wp2_with fail
      refine bodyPost_ret (v := .tuple #[.slice (some ⟨w.heap.size + 1, 0, none⟩) 0 0, .bool false]) ?_ rfl ?_
      · simp [results, Tryd.results6, go_sem]
      · exact ⟨_, _, rfl, hO, hE⟩
    · rw [glight_dir hd (gvalid_len hv).1]
      have k0 := fun w => sl5Direction p q w
      simp only [dirv, hd, Bool.false_eq_true, if_false, Fr.none, Fr.v] at k0
      have K0 := Lib.hid k0
      clear k0
      have kg := fun w hI => sGlassValid r c A xs cap w hI hl
      rw [hv] at kg
      have KG := Lib.hid kg
      clear kg
      go_enter Tryd.func6, Tryd.ntmps6
      go_wp2_with fail
      refine (K0.out _).mono ?_
      rintro e w1 ⟨rfl, hx⟩
      clear K0
      have b3 : Box w1 w.heap.size 29 #[.int .i64 r, .int .i64 c, .slice A xs.length cap] := ((Box.new w _ _).alloc _).ex hx
      have hO := (ownF_nil (w.alloc (.cells #[.int .i64 r, .int .i64 c, .slice A xs.length cap] 29)) w.heap.size (by simp)).ex hx
      simp only [World.size_alloc] at hO
      have hE := (((Ex.refl w).alloc _).alloc _).trans hx
      clear hx
      have c3 := b3.cell
      have z3 := b3.lt
      go_wp2_with fail
      refine (KG.out _ (((hI.ex hE).alloc _).alloc _)).mono ?_
      rintro e w2 ⟨rfl, hx⟩
      clear KG
      replace b3 := ((b3.alloc _).alloc _).ex hx
      replace hE := ((hE.alloc _).alloc _).trans hx
      replace hO := (hO.ex (((Ex.refl w1).alloc _).alloc _)).ex hx
      clear hx
      replace c3 := b3.cell
      replace z3 := b3.lt
      go_wp2_with fail
      refine bodyPost_ret (v := .tuple #[.slice (some ⟨w.heap.size + 1, 0, none⟩) 0 0, .bool false]) ?_ rfl ?_
      · simp [results, Tryd.results6, go_sem]
      · exact ⟨_, _, rfl, hO, hE⟩
  · rcases hv : gvalid r c xs with _ | _
    · rw [glight_no]
      have k0 := fun w => sl5Direction p q w
      simp only [dirv, hd, if_true] at k0
      generalize dirC p q = c0 at *
      generalize dirS p q = s0 at *
      obtain ⟨c01, c02, c03⟩ := c0
      obtain ⟨s01, s02, s03⟩ := s0
      simp only [Fr.v] at k0
      have K0 := Lib.hid k0
      clear k0
      have kg := fun w hI => sGlassValid r c A xs cap w hI hl
      rw [hv] at kg
      have KG := Lib.hid kg
      clear kg
      go_enter Tryd.func6, Tryd.ntmps6
      go_wp2_with fail
      refine (K0.out _).mono ?_
      rintro e w1 ⟨rfl, hx⟩
      clear K0
      have b3 : Box w1 w.heap.size 29 #[.int .i64 r, .int .i64 c, .slice A xs.length cap] := ((Box.new w _ _).alloc _).ex hx
      have hO := (ownF_nil (w.alloc (.cells #[.int .i64 r, .int .i64 c, .slice A xs.length cap] 29)) w.heap.size (by simp)).ex hx
      simp only [World.size_alloc] at hO
      have hE := (((Ex.refl w).alloc _).alloc _).trans hx
      clear hx
      have c3 := b3.cell
      have z3 := b3.lt
      go_wp2_with fail
      refine (KG.out _ (((hI.ex hE).alloc _).alloc _)).mono ?_
      rintro e w2 ⟨rfl, hx⟩
      clear KG
      replace b3 := ((b3.alloc _).alloc _).ex hx
      replace hE := ((hE.alloc _).alloc _).trans hx
      replace hO := (hO.ex (((Ex.refl w1).alloc _).alloc _)).ex hx
      clear hx
      replace c3 := b3.cell
      replace z3 := b3.lt
      go_wp2_with fail
      refine bodyPost_ret (v := .tuple #[.slice (some ⟨w.heap.size + 1, 0, none⟩) 0 0, .bool false]) ?_ rfl ?_
      · simp [results, Tryd.results6, go_sem]
      · exact ⟨_, _, rfl, hO, hE⟩
    · have k0 := fun w => sl5Direction p q w
      simp only [dirv, hd, if_true] at k0
      generalize dirC p q = c0 at *
      generalize dirS p q = s0 at *
      obtain ⟨c01, c02, c03⟩ := c0
      obtain ⟨s01, s02, s03⟩ := s0
      simp only [Fr.v] at k0
      have K0 := Lib.hid k0
      clear k0
      have kg := fun w hI => sGlassValid r c A xs cap w hI hl
      rw [hv] at kg
      have KG := Lib.hid kg
      clear kg
      go_enter Tryd.func6, Tryd.ntmps6
      go_wp2_with fail
      refine (K0.out _).mono ?_
      rintro e w1 ⟨rfl, hx⟩
      clear K0
      have b3 : Box w1 w.heap.size 29 #[.int .i64 r, .int .i64 c, .slice A xs.length cap] := ((Box.new w _ _).alloc _).ex hx
      have hO := (ownF_nil (w.alloc (.cells #[.int .i64 r, .int .i64 c, .slice A xs.length cap] 29)) w.heap.size (by simp)).ex hx
      simp only [World.size_alloc] at hO
      have hE := (((Ex.refl w).alloc _).alloc _).trans hx
      clear hx
      have c3 := b3.cell
      have z3 := b3.lt
      go_wp2_with fail
      refine (KG.out _ (((hI.ex hE).alloc _).alloc _)).mono ?_
      rintro e w2 ⟨rfl, hx⟩
      clear KG
      replace b3 := ((b3.alloc _).alloc _).ex hx
      replace hE := ((hE.alloc _).alloc _).trans hx
      replace hO := (hO.ex (((Ex.refl w1).alloc _).alloc _)).ex hx
      clear hx
      replace c3 := b3.cell
      replace z3 := b3.lt
      have HO0 := Lib.hid hO
      clear hO
      obtain ⟨k1, k2⟩ := gvalid_len hv
      clear hv hl hd
      go_wp2_with fail
      go_loopw [12, 8] (fun i v wr => ∃ (k : Nat) (B : Option Addr) (cb : Nat) (ys : List Fr), k ≤ xs.length ∧ i = .int .i64 k ∧ v = .slice B ys.length cb ∧ Hid (ys = (xs.take k).map (fun n => (fcell p q (n % 4)).1)) ∧ Hid ((xs.take k).all (fun n => (fcell p q (n % 4)).2) = true) ∧ Hid (OwnF wr w.heap.size B cb ys) ∧ Ex w wr ∧ Box wr w.heap.size 29 #[.int .i64 r, .int .i64 c, .slice A xs.length cap]) (fun i _ _ => xs.length - (intOf i).toNat)
      case atStart => exact ⟨0, _, 0, [], by omega, rfl, rfl, Lib.hid (by simp), Lib.hid (by simp), HO0, hE, b3⟩
      case round =>
        clear c3 z3 HO0 b3 hE
        obtain ⟨k, B, cb, ys, hk, rfl, rfl, HY, HA, HO, hE2, b3⟩ := hrel
        have hsz := hE2.size
        have c3 := b3.cell
        have z3 := b3.lt
        have hyl : ys.length ≤ 1048576 := by rw [HY.out, List.length_map, List.length_take]; omega
        by_cases hlt : k < xs.length
        · obtain ⟨b, off, rfl, hc⟩ := (hI.ex hE2).at (by omega)
          have c1 := hc k hlt
          clear hc
          have hst := fun h => glight_stop (p := p) (q := q) k hlt h
          have hyn : ys ++ [(fcell p q (xs.getD k 0 % 4)).1] = (xs.take (k + 1)).map (fun n => (fcell p q (n % 4)).1) := by rw [map_take_fc hlt, HY.out]
          have han := fun h => all_take_fc (p := p) (q := q) hlt HA.out h
          generalize xs.getD k 0 = n at *
          have kf := fun w => sl13Power p q (n % 4) (by omega) (by omega) w
          generalize fcell p q (n % 4) = ff at *
          obtain ⟨⟨f1, f2, f3⟩, fk⟩ := ff
          simp only [frv, Fr.v] at kf
          simp only at hst hyn han
          have KF := Lib.hid kf
          have HYn := Lib.hid hyn
          clear kf hyn
          rcases fk with _ | _
          · have HST := Lib.hid (hst rfl)
            clear hst han
            go_wp2_with fail
            refine (mod_any n _).mono ?_
            rintro e w3 ⟨rfl, rfl⟩
            go_wp2_with fail
            refine (KF.out _).mono ?_
            rintro e w7 ⟨rfl, hx⟩; replace hE2 := hE2.trans hx; replace b3 := b3.ex hx; replace HO := Lib.hid (OwnF.ex HO.out hx); clear hx; have c3 := b3.cell; have z3 := b3.lt
            go_wp2_with fail
            rw [HST.out]
            refine bodyPost_ret (v := .tuple #[.slice (some ⟨w7.heap.size + 1, 0, none⟩) 0 0, .bool false]) ?_ rfl ?_
            · simp [results, Tryd.results6, go_sem]
            · have hq := ownF_nil (w7.alloc (.cells #[.int .i64 f1, .int .i64 f2, .int .i64 f3] 42)) w.heap.size (by have := hE2.size; simp; omega)
              simp only [World.size_alloc] at hq
              exact ⟨_, _, rfl, hq, (hE2.alloc _).alloc _⟩
          · have HAn := Lib.hid (han rfl)
            clear hst han
            go_wp2_with fail
            refine (mod_any n _).mono ?_
            rintro e w3 ⟨rfl, rfl⟩
            go_wp2_with fail
            refine (KF.out _).mono ?_
            rintro e w7 ⟨rfl, hx⟩; replace hE2 := hE2.trans hx; replace b3 := b3.ex hx; replace HO := Lib.hid (OwnF.ex HO.out hx); clear hx; have c3 := b3.cell; have z3 := b3.lt
            replace hE2 := hE2.alloc (.cells #[.int .i64 f1, .int .i64 f2, .int .i64 f3] 42); replace b3 := b3.alloc (.cells #[.int .i64 f1, .int .i64 f2, .int .i64 f3] 42); replace HO := Lib.hid (OwnF.alloc HO.out (.cells #[.int .i64 f1, .int .i64 f2, .int .i64 f3] 42))
            have hs2 := hE2.size
            go_wp2_with (at_builtin; refine wpList_appB slF3 rfl _ _ (w7.alloc (.cells #[.int .i64 f1, .int .i64 f2, .int .i64 f3] 42)) _ rfl w.heap.size B cb ys.length (frCells ys) [.int .i64 f1, .int .i64 f2, .int .i64 f3] rfl (by simp [Value.oneCell']) rfl HO.out (w7.heap.size + 1) rfl ((Ex.refl _).alloc _) (boxNew1 _ _ _ _) hyl hs2 ?_)
            intro A' cap' w' hown' hk'
            have hE3 := hk'.ex w hE2 (Nat.le_refl _)
            have HO3 := Lib.hid (OwnF.snoc3 (x := ⟨f1, f2, f3⟩) hown')
            have b3n := hk'.box _ _ _ b3 (by decide)
            clear hown' hk'
            go_wp2_with fail
            go_roundw
            case rel => exact ⟨k + 1, A', cap', ys ++ [⟨f1, f2, f3⟩], by omega, by go_num, by simp, HYn, HAn, HO3, hE3, b3n⟩
            case measure => simp [intOf]; omega
        · have e1 : glight true p q xs = (ys, true) := by
            have hkk : k = xs.length := by omega
            subst hkk
            rw [glight_all HA.out, HY.out, List.take_length]
          go_wp2_with fail
          rw [e1]
          refine bodyPost_ret (v := .tuple #[.slice B ys.length cb, .bool true]) ?_ rfl ?_
          · simp [results, Tryd.results6, go_sem]
          · exact ⟨_, _, rfl, HO.out, hE2⟩
end Go.Proofs.YtmmjkchjgeklnaaDoor
