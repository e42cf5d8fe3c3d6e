/-
  Walks: filters, rotators: the program's.
-/
import Derived.Test.YtmmjkchjgeklnaaDoorMatH
import Derived.Test.YtmmjkchjgeklnaaDoorNewS
namespace Go.Proofs.YtmmjkchjgeklnaaDoor
open Go.RowKit

attribute [local go_sem] nat_eq_lt nat_eq_gt
set_option maxHeartbeats 400000 in
theorem iOpposite (f1 f2 f3 : Int) (h1 : -2000000000 ≤ f1 ∧ f1 ≤ 2000000000) (h2 : -2000000000 ≤ f2 ∧ f2 ≤ 2000000000) (w : World) : Calls Tryd.prog 74 #[.agg #[.int .i64 f1, .int .i64 f2, .int .i64 f3]] w (fun e w' => e = .returned (.agg #[.int .i64 (-f1), .int .i64 (-f2), .int .i64 f3]) ∧ Ex w w') := by
  have w1 := IntWalk.i64_in (-f1) (by omega)
  have w2 := IntWalk.i64_in (-f2) (by omega)
  have hS := Sees.refl w
  have hC := True.intro
  go_enter Tryd.func74, Tryd.ntmps74
  go_wp2
  refine bodyPost_ret ?_ rfl ⟨rfl, ?_⟩
  · simp [results, Tryd.results74, go_sem, hC]
  · repeat' (with_reducible first | exact hS.ex | exact Ex.refl _ | assumption | refine Ex.alloc ?_ _ | refine Ex.drewN ?_ _ | refine Ex.drew ?_ | refine Ex.setCell ?_ (by simp <;> omega) _)
set_option maxRecDepth 4000 in
set_option maxHeartbeats 1000000 in
theorem iMatRotator (p q : Int) (w : World) : Calls Tryd.prog 48 #[.int .i64 p, .int .i64 q] w (fun e w' => e = .returned (m4v (mrot p q)) ∧ Ex w w') := by
  have kd := fun w => iDirection p q w
  rcases h : dirOk p q with _ | _
  · have e : mrot p q = (M4.none, false) := by simp [mrot, h]
    rw [e]
    simp only [dirv, h, Bool.false_eq_true, if_false, Fr.none, Fr.v] at kd
    simp only [m4v, M4.v, M4.none, Fr.none]
    clear e h
    have KD := Lib.hid kd
    clear kd
    have hS := Sees.refl w
    have hC := True.intro
    go_enter Tryd.func48, Tryd.ntmps48
    go_wp2_with (go_at_call 43; (with_reducible refine (KD.out _).mono ?_); rintro e w1 ⟨rfl, hx⟩; replace hS := Sees.after (W := w) hx; clear hx; replace hC := hS.reads; simp only [reads_cons, reads_nil, World.size_alloc] at hC)
    refine bodyPost_ret ?_ rfl ⟨rfl, ?_⟩
    · simp [results, Tryd.results48, go_sem, hC]
    · repeat' (with_reducible first | exact hS.ex | exact Ex.refl _ | assumption | refine Ex.alloc ?_ _ | refine Ex.drewN ?_ _ | refine Ex.drew ?_ | refine Ex.setCell ?_ (by simp <;> omega) _)
  · have e : mrot p q = (⟨dirC p q, fneg (dirS p q), dirS p q, dirC p q⟩, true) := by simp [mrot, h]
    rw [e]
    simp only [dirv, h, if_true] at kd
    obtain ⟨-, v2, -, i2⟩ := dir_ok h
    generalize dirC p q = c at *
    generalize dirS p q = s at *
    obtain ⟨c1, c2, c3⟩ := c
    obtain ⟨s1, s2, s3⟩ := s
    obtain ⟨q1, q2, -, -⟩ := Fr.valid_out v2
    simp only at q1 q2
    have ko := fun w => iOpposite s1 s2 s3 q1 q2 w
    simp only [Fr.v] at kd
    simp only [m4v, M4.v, fneg]
    clear e h v2 i2
    have KD := Lib.hid kd
    have KO := Lib.hid ko
    clear kd ko
    have hS := Sees.refl w
    have hC := True.intro
    go_enter Tryd.func48, Tryd.ntmps48
    go_wp2_with (go_at_call 43; (with_reducible refine (KD.out _).mono ?_); rintro e w1 ⟨rfl, hx⟩; replace hS := Sees.after (W := w) hx; clear hx; replace hC := hS.reads; simp only [reads_cons, reads_nil, World.size_alloc] at hC)
    refine wp_region_got (St := fun _ _ => True) 7 false (B := fun _ w' => Sees w w' [(w1.heap.size + 1, 42, #[.int .i64 s1, .int .i64 s2, .int .i64 s3]), (w1.heap.size, 42, #[.int .i64 c1, .int .i64 c2, .int .i64 c3]), (w.heap.size, 54, #[.int .i64 0, .int .i64 0, .int .i64 0, .int .i64 0, .int .i64 0, .int .i64 0, .int .i64 0, .int .i64 0, .int .i64 0, .int .i64 0, .int .i64 0, .int .i64 0])]) (by kernel_rfl) (by kernel_rfl) (Sees.drewW (Sees.cast (by simp only [World.size_alloc]))) (by exact fun _ _ _ _ _ h => h) ?_
    apply lexDet_pure
    · rfl
    · intro b wb hB Q1 hQ1
      have hS := hB
      have hC := hS.reads
      simp only [reads_cons, reads_nil] at hC
      go_wp2_with fail
      exact hQ1 _ trivial hB
    · exact ⟨_, rfl⟩
    apply lexDet_pure
    · rfl
    · intro b wb hB Q1 hQ1
      have hS := hB
      have hC := hS.reads
      simp only [reads_cons, reads_nil] at hC
      go_wp2_with fail
      exact hQ1 _ trivial hB
    · exact ⟨_, rfl⟩
    apply lexDet_pure
    · rfl
    · intro b wb hB Q1 hQ1
      go_wp2_with (go_at_call 74; (with_reducible refine (KO.out _).mono ?_); rintro e wn ⟨rfl, hx⟩)
      exact hQ1 _ trivial (hB.go hx)
    · exact ⟨_, rfl⟩
    apply lexDet_pure
    · rfl
    · intro b wb hB Q1 hQ1
      have hS := hB
      have hC := hS.reads
      simp only [reads_cons, reads_nil] at hC
      go_wp2_with fail
      exact hQ1 _ trivial hB
    · exact ⟨_, rfl⟩
    apply lexDet_pure
    · rfl
    · intro b wb hB Q1 hQ1
      have hS := hB
      have hC := hS.reads
      simp only [reads_cons, reads_nil] at hC
      go_wp2_with fail
      exact hQ1 _ trivial hB
    · exact ⟨_, rfl⟩
    apply lexDet_pure
    · rfl
    · intro b wb hB Q1 hQ1
      go_wp2_with fail
      exact hQ1 _ trivial hB
    · exact ⟨_, rfl⟩
    apply lexDet_pure
    · rfl
    · intro b wb hB Q1 hQ1
      go_wp2_with fail
      exact hQ1 _ trivial hB
    · exact ⟨_, rfl⟩
    refine lexDet_zero ?_
    intro wz hz
    have hS := hz
    have hC := hS.reads
    simp only [reads_cons, reads_nil] at hC
    clear hz
    go_wp2_with fail
    refine bodyPost_ret ?_ rfl ⟨rfl, ?_⟩
    · simp [results, Tryd.results48, go_sem, hC]
    · repeat' (with_reducible first | exact hS.ex | exact Ex.refl _ | assumption | refine Ex.alloc ?_ _ | refine Ex.drewN ?_ _ | refine Ex.drew ?_ | refine Ex.setCell ?_ (by simp <;> omega) _)
set_option maxRecDepth 8000 in
set_option maxHeartbeats 2000000 in
theorem iMatFilter (p q : Int) (w : World) : Calls Tryd.prog 23 #[.int .i64 p, .int .i64 q] w (fun e w' => e = .returned (m4v (mfilter p q)) ∧ Ex w w') := by
  have kd := fun w => iDirection p q w
  rcases h : dirOk p q with _ | _
  · have e : mfilter p q = (M4.none, false) := by simp [mfilter, h]
    rw [e]
    simp only [dirv, h, Bool.false_eq_true, if_false, Fr.none, Fr.v] at kd
    simp only [m4v, M4.v, M4.none, Fr.none]
    clear e h
    have HZ : Hid (ftimes ⟨0, 0, 0⟩ ⟨0, 0, 0⟩ = (⟨0, 0, 0⟩, false)) := Lib.hid (by decide)
    have KD := Lib.hid kd
    clear kd
    have hS := Sees.refl w
    have hC := True.intro
    go_enter Tryd.func23, Tryd.ntmps23
    go_wp2_with (first | (go_at_call 43; (with_reducible refine (KD.out _).mono ?_); rintro e w1 ⟨rfl, hx⟩; replace hS := Sees.after (W := w) hx; clear hx; replace hC := hS.reads; simp only [reads_cons, reads_nil, World.size_alloc] at hC) | (go_at_call 44; (with_reducible refine (need_see w (h := SeesS.cast (by simp only [World.size_alloc]) rfl)).mono ?_); rintro e wn ⟨rfl, hS⟩; (try simp only [World.size_alloc] at hS); have hC := hS.reads; simp only [reads_cons, reads_nil] at hC))
    refine wp_region_got (St := fun _ _ => True) 19 _ (B := fun b w' => SeesS w w' _ b _) (by kernel_rfl) (by kernel_rfl) (hS.drewW) (by exact fun _ _ _ _ _ h => h) ?_
    apply lexDet_pure
    · rfl
    · intro b wb hB Q1 hQ1
      go_wp2_with fail
      exact hQ1 _ trivial hB
    · exact ⟨_, rfl⟩
    apply lexDet_pure
    · rfl
    · intro b wb hB Q1 hQ1
      go_wp2_with fail
      exact hQ1 _ trivial hB
    · exact ⟨_, rfl⟩
    apply lexDet_pure
    · rfl
    · intro b wb hB Q1 hQ1
      have hS := hB
      have hC := hS.reads
      simp only [reads_cons, reads_nil] at hC
      go_wp2_with fail
      exact hQ1 _ trivial hB
    · exact ⟨_, rfl⟩
    apply lexDet_pure
    · rfl
    · intro b wb hB Q1 hQ1
      have hS := hB
      have hC := hS.reads
      simp only [reads_cons, reads_nil] at hC
      go_wp2_with fail
      exact hQ1 _ trivial hB
    · exact ⟨_, rfl⟩
    apply lexDet_step
    · rfl
    · intro b wb hB Q1 hQ1
      go_wp2_with (go_at_call 46; (with_reducible refine (times_det hB HZ.out).mono ?_); rintro e wn ⟨rfl, hN, hM⟩)
      exact hQ1 _ trivial hN
    · exact ⟨_, rfl⟩
    apply lexDet_pure
    · rfl
    · intro b wb hB Q1 hQ1
      go_wp2_with fail
      exact hQ1 _ trivial hB
    · exact ⟨_, rfl⟩
    apply lexDet_pure
    · rfl
    · intro b wb hB Q1 hQ1
      have hS := hB
      have hC := hS.reads
      simp only [reads_cons, reads_nil] at hC
      go_wp2_with fail
      exact hQ1 _ trivial hB
    · exact ⟨_, rfl⟩
    apply lexDet_pure
    · rfl
    · intro b wb hB Q1 hQ1
      have hS := hB
      have hC := hS.reads
      simp only [reads_cons, reads_nil] at hC
      go_wp2_with fail
      exact hQ1 _ trivial hB
    · exact ⟨_, rfl⟩
    apply lexDet_step
    · rfl
    · intro b wb hB Q1 hQ1
      go_wp2_with (go_at_call 46; (with_reducible refine (times_det hB HZ.out).mono ?_); rintro e wn ⟨rfl, hN, hM⟩)
      exact hQ1 _ trivial hN
    · exact ⟨_, rfl⟩
    apply lexDet_pure
    · rfl
    · intro b wb hB Q1 hQ1
      go_wp2_with fail
      exact hQ1 _ trivial hB
    · exact ⟨_, rfl⟩
    apply lexDet_pure
    · rfl
    · intro b wb hB Q1 hQ1
      have hS := hB
      have hC := hS.reads
      simp only [reads_cons, reads_nil] at hC
      go_wp2_with fail
      exact hQ1 _ trivial hB
    · exact ⟨_, rfl⟩
    apply lexDet_pure
    · rfl
    · intro b wb hB Q1 hQ1
      have hS := hB
      have hC := hS.reads
      simp only [reads_cons, reads_nil] at hC
      go_wp2_with fail
      exact hQ1 _ trivial hB
    · exact ⟨_, rfl⟩
    apply lexDet_step
    · rfl
    · intro b wb hB Q1 hQ1
      go_wp2_with (go_at_call 46; (with_reducible refine (times_det hB HZ.out).mono ?_); rintro e wn ⟨rfl, hN, hM⟩)
      exact hQ1 _ trivial hN
    · exact ⟨_, rfl⟩
    apply lexDet_pure
    · rfl
    · intro b wb hB Q1 hQ1
      go_wp2_with fail
      exact hQ1 _ trivial hB
    · exact ⟨_, rfl⟩
    apply lexDet_pure
    · rfl
    · intro b wb hB Q1 hQ1
      have hS := hB
      have hC := hS.reads
      simp only [reads_cons, reads_nil] at hC
      go_wp2_with fail
      exact hQ1 _ trivial hB
    · exact ⟨_, rfl⟩
    apply lexDet_pure
    · rfl
    · intro b wb hB Q1 hQ1
      have hS := hB
      have hC := hS.reads
      simp only [reads_cons, reads_nil] at hC
      go_wp2_with fail
      exact hQ1 _ trivial hB
    · exact ⟨_, rfl⟩
    apply lexDet_step
    · rfl
    · intro b wb hB Q1 hQ1
      go_wp2_with (go_at_call 46; (with_reducible refine (times_det hB HZ.out).mono ?_); rintro e wn ⟨rfl, hN, hM⟩)
      exact hQ1 _ trivial hN
    · exact ⟨_, rfl⟩
    apply lexDet_pure
    · rfl
    · intro b wb hB Q1 hQ1
      go_wp2_with fail
      exact hQ1 _ trivial hB
    · exact ⟨_, rfl⟩
    apply lexDet_pure
    · rfl
    · intro b wb hB Q1 hQ1
      go_wp2_with fail
      exact hQ1 _ trivial hB
    · exact ⟨_, rfl⟩
    refine lexDet_zero ?_
    intro wz hz
    rw [or4_no] at hz
    go_wp2_with (go_at_call 45; (with_reducible refine (gotMat_true _ _ _ _ _ _ _ _ _ _ _ _ _ _ hz.sum).mono ?_); rintro e wn ⟨rfl, hx⟩; have hS := SeesS.ex hz hx; have hC := hS.reads; simp only [reads_cons, reads_nil] at hC; have hE := hS.rel (by omega))
    refine bodyPost_ret ?_ rfl ⟨rfl, ?_⟩
    · simp [results, Tryd.results23, go_sem, hC]
    · repeat' (with_reducible first | exact hE | exact Ex.refl _ | assumption | refine Ex.alloc ?_ _ | refine Ex.drewN ?_ _ | refine Ex.drew ?_ | refine Ex.setCell ?_ (by simp <;> omega) _)
  · have e : mfilter p q = four (ftimes (dirC p q) (dirC p q)) (ftimes (dirC p q) (dirS p q)) (ftimes (dirC p q) (dirS p q)) (ftimes (dirS p q) (dirS p q)) true := by simp [mfilter, h]
    rw [e]
    unfold four
    simp only [dirv, h, if_true] at kd
    clear e h
    generalize dirC p q = c at *
    generalize dirS p q = d at *
    obtain ⟨c1, c2, c3⟩ := c
    obtain ⟨d1, d2, d3⟩ := d
    rcases hss : ftimes ⟨c1, c2, c3⟩ ⟨c1, c2, c3⟩ with ⟨⟨s1, s2, s3⟩, sk⟩
    rcases htt : ftimes ⟨c1, c2, c3⟩ ⟨d1, d2, d3⟩ with ⟨⟨t1, t2, t3⟩, tk⟩
    rcases huu : ftimes ⟨d1, d2, d3⟩ ⟨d1, d2, d3⟩ with ⟨⟨u1, u2, u3⟩, uk⟩
    simp only [Fr.v] at kd
    rcases hK : (sk && tk && tk && uk) with _ | _
    · have HK := Lib.hid (or4_true hK)
      have e : (true && sk && tk && tk && uk) = false := by rw [Bool.true_and]; exact hK
      rw [e]
      simp only [m4v, M4.v, M4.none, Fr.none, Bool.false_eq_true, if_false]
      clear e hK
      have KD := Lib.hid kd
      have HSS := Lib.hid hss
      have HTT := Lib.hid htt
      have HUU := Lib.hid huu
      clear kd hss htt huu
      have hS := Sees.refl w
      have hC := True.intro
      go_enter Tryd.func23, Tryd.ntmps23
      go_wp2_with (first | (go_at_call 43; (with_reducible refine (KD.out _).mono ?_); rintro e w1 ⟨rfl, hx⟩; replace hS := Sees.after (W := w) hx; clear hx; replace hC := hS.reads; simp only [reads_cons, reads_nil, World.size_alloc] at hC) | (go_at_call 44; (with_reducible refine (need_see w (h := SeesS.cast (by simp only [World.size_alloc]) rfl)).mono ?_); rintro e wn ⟨rfl, hS⟩; (try simp only [World.size_alloc] at hS); have hC := hS.reads; simp only [reads_cons, reads_nil] at hC))
      refine wp_region_got (St := fun _ _ => True) 19 _ (B := fun b w' => SeesS w w' _ b _) (by kernel_rfl) (by kernel_rfl) (hS.drewW) (by exact fun _ _ _ _ _ h => h) ?_
      apply lexDet_pure
      · rfl
      · intro b wb hB Q1 hQ1
        go_wp2_with fail
        exact hQ1 _ trivial hB
      · exact ⟨_, rfl⟩
      apply lexDet_pure
      · rfl
      · intro b wb hB Q1 hQ1
        go_wp2_with fail
        exact hQ1 _ trivial hB
      · exact ⟨_, rfl⟩
      apply lexDet_pure
      · rfl
      · intro b wb hB Q1 hQ1
        have hS := hB
        have hC := hS.reads
        simp only [reads_cons, reads_nil] at hC
        go_wp2_with fail
        exact hQ1 _ trivial hB
      · exact ⟨_, rfl⟩
      apply lexDet_pure
      · rfl
      · intro b wb hB Q1 hQ1
        have hS := hB
        have hC := hS.reads
        simp only [reads_cons, reads_nil] at hC
        go_wp2_with fail
        exact hQ1 _ trivial hB
      · exact ⟨_, rfl⟩
      apply lexDet_step
      · rfl
      · intro b wb hB Q1 hQ1
        go_wp2_with (go_at_call 46; (with_reducible refine (times_det hB HSS.out).mono ?_); rintro e wn ⟨rfl, hN, hM⟩)
        exact hQ1 _ trivial hN
      · exact ⟨_, rfl⟩
      apply lexDet_pure
      · rfl
      · intro b wb hB Q1 hQ1
        go_wp2_with fail
        exact hQ1 _ trivial hB
      · exact ⟨_, rfl⟩
      apply lexDet_pure
      · rfl
      · intro b wb hB Q1 hQ1
        have hS := hB
        have hC := hS.reads
        simp only [reads_cons, reads_nil] at hC
        go_wp2_with fail
        exact hQ1 _ trivial hB
      · exact ⟨_, rfl⟩
      apply lexDet_pure
      · rfl
      · intro b wb hB Q1 hQ1
        have hS := hB
        have hC := hS.reads
        simp only [reads_cons, reads_nil] at hC
        go_wp2_with fail
        exact hQ1 _ trivial hB
      · exact ⟨_, rfl⟩
      apply lexDet_step
      · rfl
      · intro b wb hB Q1 hQ1
        go_wp2_with (go_at_call 46; (with_reducible refine (times_det hB HTT.out).mono ?_); rintro e wn ⟨rfl, hN, hM⟩)
        exact hQ1 _ trivial hN
      · exact ⟨_, rfl⟩
      apply lexDet_pure
      · rfl
      · intro b wb hB Q1 hQ1
        go_wp2_with fail
        exact hQ1 _ trivial hB
      · exact ⟨_, rfl⟩
      apply lexDet_pure
      · rfl
      · intro b wb hB Q1 hQ1
        have hS := hB
        have hC := hS.reads
        simp only [reads_cons, reads_nil] at hC
        go_wp2_with fail
        exact hQ1 _ trivial hB
      · exact ⟨_, rfl⟩
      apply lexDet_pure
      · rfl
      · intro b wb hB Q1 hQ1
        have hS := hB
        have hC := hS.reads
        simp only [reads_cons, reads_nil] at hC
        go_wp2_with fail
        exact hQ1 _ trivial hB
      · exact ⟨_, rfl⟩
      apply lexDet_step
      · rfl
      · intro b wb hB Q1 hQ1
        go_wp2_with (go_at_call 46; (with_reducible refine (times_det hB HTT.out).mono ?_); rintro e wn ⟨rfl, hN, hM⟩)
        exact hQ1 _ trivial hN
      · exact ⟨_, rfl⟩
      apply lexDet_pure
      · rfl
      · intro b wb hB Q1 hQ1
        go_wp2_with fail
        exact hQ1 _ trivial hB
      · exact ⟨_, rfl⟩
      apply lexDet_pure
      · rfl
      · intro b wb hB Q1 hQ1
        have hS := hB
        have hC := hS.reads
        simp only [reads_cons, reads_nil] at hC
        go_wp2_with fail
        exact hQ1 _ trivial hB
      · exact ⟨_, rfl⟩
      apply lexDet_pure
      · rfl
      · intro b wb hB Q1 hQ1
        have hS := hB
        have hC := hS.reads
        simp only [reads_cons, reads_nil] at hC
        go_wp2_with fail
        exact hQ1 _ trivial hB
      · exact ⟨_, rfl⟩
      apply lexDet_step
      · rfl
      · intro b wb hB Q1 hQ1
        go_wp2_with (go_at_call 46; (with_reducible refine (times_det hB HUU.out).mono ?_); rintro e wn ⟨rfl, hN, hM⟩)
        exact hQ1 _ trivial hN
      · exact ⟨_, rfl⟩
      apply lexDet_pure
      · rfl
      · intro b wb hB Q1 hQ1
        go_wp2_with fail
        exact hQ1 _ trivial hB
      · exact ⟨_, rfl⟩
      apply lexDet_pure
      · rfl
      · intro b wb hB Q1 hQ1
        go_wp2_with fail
        exact hQ1 _ trivial hB
      · exact ⟨_, rfl⟩
      refine lexDet_zero ?_
      intro wz hz
      rw [HK.out] at hz
      go_wp2_with (go_at_call 45; (with_reducible refine (gotMat_true _ _ _ _ _ _ _ _ _ _ _ _ _ _ hz.sum).mono ?_); rintro e wn ⟨rfl, hx⟩; have hS := SeesS.ex hz hx; have hC := hS.reads; simp only [reads_cons, reads_nil] at hC; have hE := hS.rel (by omega))
      refine bodyPost_ret ?_ rfl ⟨rfl, ?_⟩
      · simp [results, Tryd.results23, go_sem, hC]
      · repeat' (with_reducible first | exact hE | exact Ex.refl _ | assumption | refine Ex.alloc ?_ _ | refine Ex.drewN ?_ _ | refine Ex.drew ?_ | refine Ex.setCell ?_ (by simp <;> omega) _)
    · simp only [Bool.and_eq_true] at hK
      obtain ⟨⟨⟨rfl, rfl⟩, -⟩, rfl⟩ := hK
      simp only [m4v, M4.v, Bool.and_self, if_true]
      have KD := Lib.hid kd
      have HSS := Lib.hid hss
      have HTT := Lib.hid htt
      have HUU := Lib.hid huu
      clear kd hss htt huu
      have hS := Sees.refl w
      have hC := True.intro
      go_enter Tryd.func23, Tryd.ntmps23
      go_wp2_with (first | (go_at_call 43; (with_reducible refine (KD.out _).mono ?_); rintro e w1 ⟨rfl, hx⟩; replace hS := Sees.after (W := w) hx; clear hx; replace hC := hS.reads; simp only [reads_cons, reads_nil, World.size_alloc] at hC) | (go_at_call 44; (with_reducible refine (need_see w (h := SeesS.cast (by simp only [World.size_alloc]) rfl)).mono ?_); rintro e wn ⟨rfl, hS⟩; (try simp only [World.size_alloc] at hS); have hC := hS.reads; simp only [reads_cons, reads_nil] at hC))
      refine wp_region_got (St := fun _ _ => True) 19 _ (B := fun b w' => SeesS w w' _ b _) (by kernel_rfl) (by kernel_rfl) (hS.drewW) (by exact fun _ _ _ _ _ h => h) ?_
      apply lexDet_pure
      · rfl
      · intro b wb hB Q1 hQ1
        go_wp2_with fail
        exact hQ1 _ trivial hB
      · exact ⟨_, rfl⟩
      apply lexDet_pure
      · rfl
      · intro b wb hB Q1 hQ1
        go_wp2_with fail
        exact hQ1 _ trivial hB
      · exact ⟨_, rfl⟩
      apply lexDet_pure
      · rfl
      · intro b wb hB Q1 hQ1
        have hS := hB
        have hC := hS.reads
        simp only [reads_cons, reads_nil] at hC
        go_wp2_with fail
        exact hQ1 _ trivial hB
      · exact ⟨_, rfl⟩
      apply lexDet_pure
      · rfl
      · intro b wb hB Q1 hQ1
        have hS := hB
        have hC := hS.reads
        simp only [reads_cons, reads_nil] at hC
        go_wp2_with fail
        exact hQ1 _ trivial hB
      · exact ⟨_, rfl⟩
      apply lexDet_step
      · rfl
      · intro b wb hB Q1 hQ1
        go_wp2_with (go_at_call 46; (with_reducible refine (times_det hB HSS.out).mono ?_); rintro e wn ⟨rfl, hN, hM⟩)
        exact hQ1 _ trivial hN
      · exact ⟨_, rfl⟩
      apply lexDet_pure
      · rfl
      · intro b wb hB Q1 hQ1
        go_wp2_with fail
        exact hQ1 _ trivial hB
      · exact ⟨_, rfl⟩
      apply lexDet_pure
      · rfl
      · intro b wb hB Q1 hQ1
        have hS := hB
        have hC := hS.reads
        simp only [reads_cons, reads_nil] at hC
        go_wp2_with fail
        exact hQ1 _ trivial hB
      · exact ⟨_, rfl⟩
      apply lexDet_pure
      · rfl
      · intro b wb hB Q1 hQ1
        have hS := hB
        have hC := hS.reads
        simp only [reads_cons, reads_nil] at hC
        go_wp2_with fail
        exact hQ1 _ trivial hB
      · exact ⟨_, rfl⟩
      apply lexDet_step
      · rfl
      · intro b wb hB Q1 hQ1
        go_wp2_with (go_at_call 46; (with_reducible refine (times_det hB HTT.out).mono ?_); rintro e wn ⟨rfl, hN, hM⟩)
        exact hQ1 _ trivial hN
      · exact ⟨_, rfl⟩
      apply lexDet_pure
      · rfl
      · intro b wb hB Q1 hQ1
        go_wp2_with fail
        exact hQ1 _ trivial hB
      · exact ⟨_, rfl⟩
      apply lexDet_pure
      · rfl
      · intro b wb hB Q1 hQ1
        have hS := hB
        have hC := hS.reads
        simp only [reads_cons, reads_nil] at hC
        go_wp2_with fail
        exact hQ1 _ trivial hB
      · exact ⟨_, rfl⟩
      apply lexDet_pure
      · rfl
      · intro b wb hB Q1 hQ1
        have hS := hB
        have hC := hS.reads
        simp only [reads_cons, reads_nil] at hC
        go_wp2_with fail
        exact hQ1 _ trivial hB
      · exact ⟨_, rfl⟩
      apply lexDet_step
      · rfl
      · intro b wb hB Q1 hQ1
        go_wp2_with (go_at_call 46; (with_reducible refine (times_det hB HTT.out).mono ?_); rintro e wn ⟨rfl, hN, hM⟩)
        exact hQ1 _ trivial hN
      · exact ⟨_, rfl⟩
      apply lexDet_pure
      · rfl
      · intro b wb hB Q1 hQ1
        go_wp2_with fail
        exact hQ1 _ trivial hB
      · exact ⟨_, rfl⟩
      apply lexDet_pure
      · rfl
      · intro b wb hB Q1 hQ1
        have hS := hB
        have hC := hS.reads
        simp only [reads_cons, reads_nil] at hC
        go_wp2_with fail
        exact hQ1 _ trivial hB
      · exact ⟨_, rfl⟩
      apply lexDet_pure
      · rfl
      · intro b wb hB Q1 hQ1
        have hS := hB
        have hC := hS.reads
        simp only [reads_cons, reads_nil] at hC
        go_wp2_with fail
        exact hQ1 _ trivial hB
      · exact ⟨_, rfl⟩
      apply lexDet_step
      · rfl
      · intro b wb hB Q1 hQ1
        go_wp2_with (go_at_call 46; (with_reducible refine (times_det hB HUU.out).mono ?_); rintro e wn ⟨rfl, hN, hM⟩)
        exact hQ1 _ trivial hN
      · exact ⟨_, rfl⟩
      apply lexDet_pure
      · rfl
      · intro b wb hB Q1 hQ1
        go_wp2_with fail
        exact hQ1 _ trivial hB
      · exact ⟨_, rfl⟩
      apply lexDet_pure
      · rfl
      · intro b wb hB Q1 hQ1
        go_wp2_with fail
        exact hQ1 _ trivial hB
      · exact ⟨_, rfl⟩
      refine lexDet_zero ?_
      intro wz hz
      replace hz : SeesS w wz _ false _ := hz
      go_wp2_with (go_at_call 45; (with_reducible refine (gotMat_false _ _ _ _ _ _ _ _ _ _ _ _ _ _ hz.sum).mono ?_); rintro e wn ⟨rfl, hx⟩; have hS := SeesS.ex hz hx; have hC := hS.reads; simp only [reads_cons, reads_nil] at hC; have hE := hS.rel (by omega))
      refine bodyPost_ret ?_ rfl ⟨rfl, ?_⟩
      · simp [results, Tryd.results23, go_sem, hC]
      · repeat' (with_reducible first | exact hE | exact Ex.refl _ | assumption | refine Ex.alloc ?_ _ | refine Ex.drewN ?_ _ | refine Ex.drew ?_ | refine Ex.setCell ?_ (by simp <;> omega) _)
end Go.Proofs.YtmmjkchjgeklnaaDoor
