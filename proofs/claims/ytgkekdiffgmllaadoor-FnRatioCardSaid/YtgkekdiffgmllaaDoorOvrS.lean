/-
  Walks: quotients of fractions, the reference's.
-/
import Derived.Test.YtgkekdiffgmllaaDoorOvr
import Derived.Test.YtgkekdiffgmllaaDoorDet
namespace Go.Proofs.YtgkekdiffgmllaaDoor
open Go.RowKit

theorem quot_ok {x d : Int} (h1 : 1 ≤ x) (h2 : x ≤ 2000000000) (h3 : d ≤ 2000000000) : d ≤ 4000000000000000000 / x := by
  refine Int.le_trans h3 ?_
  rw [Int.le_ediv_iff_mul_le (by omega)]
  have := Int.mul_le_mul_of_nonneg_left h2 (show (0 : Int) ≤ 2000000000 by omega)
  omega
set_option maxHeartbeats 1000000 in
theorem sl2Turned (b : Fr) (w : World) (h2 : b.valid = true) (h3 : fnul b = false) : Calls Tryd.prog 24 #[b.v] w (FrGot w (fturn b)) := by
  obtain ⟨⟨p1, p2⟩, ⟨p3, p4⟩, ⟨p5, p6⟩, -⟩ := Fr.valid_out h2
  have hn := sq_pos h3
  have m3 := mul_bd (a := b.re) (b := b.re) (by omega) (by omega)
  have m4 := mul_bd (a := b.im) (b := b.im) (by omega) (by omega)
  have kg := fun w => l2Gcd_any (b.re * b.re + b.im * b.im) b.den w (by omega) (by omega)
  obtain ⟨g, hg⟩ : ∃ g : Nat, g = Nat.gcd (b.re * b.re + b.im * b.im).natAbs b.den.natAbs := ⟨_, rfl⟩
  rw [← hg] at kg
  have g0 : 1 ≤ g := by have : 0 < Nat.gcd (b.re * b.re + b.im * b.im).natAbs b.den.natAbs := Nat.gcd_pos_of_pos_right _ (by omega); omega
  obtain ⟨n, en⟩ : (g : Int) ∣ b.re * b.re + b.im * b.im := by rw [hg]; exact Int.ofNat_dvd_left.2 (Nat.gcd_dvd_left _ _)
  obtain ⟨d, ed⟩ : (g : Int) ∣ b.den := by rw [hg]; exact Int.ofNat_dvd_left.2 (Nat.gcd_dvd_right _ _)
  have hf := fturn_by b g d n (by omega) ed en
  have n1 : 1 ≤ n := by
    by_cases h : n ≤ 0
    · have := Int.mul_nonneg (a := (g : Int)) (b := -n) (by omega) (by omega)
      rw [Int.mul_neg] at this; omega
    · omega
  have n2 : n ≤ g * n := by have := Int.mul_le_mul_of_nonneg_right (show (1 : Int) ≤ g by omega) (show 0 ≤ n by omega); omega
  have d1 : 1 ≤ d := by
    by_cases h : d ≤ 0
    · have := Int.mul_nonneg (a := (g : Int)) (b := -d) (by omega) (by omega)
      rw [Int.mul_neg] at this; omega
    · omega
  have d2 : d ≤ g * d := by have := Int.mul_le_mul_of_nonneg_right (show (1 : Int) ≤ g by omega) (show 0 ≤ d by omega); omega
  have q1 : (b.den).tdiv g = d := by rw [ed, Int.mul_tdiv_cancel_left _ (by omega)]
  have q2 : (b.re * b.re + b.im * b.im).tdiv g = n := by rw [en, Int.mul_tdiv_cancel_left _ (by omega)]
  have q3 : b.den / (g : Int) = d := by rw [← Int.tdiv_eq_ediv_of_nonneg (by omega)]; exact q1
  have q4 : (b.re * b.re + b.im * b.im) / (g : Int) = n := by rw [← Int.tdiv_eq_ediv_of_nonneg (by omega)]; exact q2
  rw [ed] at p6
  have nb : n ≤ 8000000000000000000 := by omega
  have db : d ≤ 2000000000 := by omega
  have m5 := mul_bd (a := b.re) (b := d) (by omega) (by omega)
  have m6 := mul_bd (a := b.im) (b := d) (by omega) (by omega)
  have kl := fun w => l2Low_any (b.re * d) (0 - b.im * d) n w (by omega) (by omega) (by omega)
  rw [← hf] at kl
  generalize fturn b = t at kl ⊢
  obtain ⟨⟨t1, t2, t3⟩, tk⟩ := t
  replace kl := fun w => FrGot.spell (kl w)
  clear hf hg en ed h2 n2 d2
  unfold fnul at h3
  obtain ⟨b1, b2, b3⟩ := b
  simp only at *
  show Calls _ _ #[.agg #[.int .i64 b1, .int .i64 b2, .int .i64 b3]] _ _
  by_cases c1 : b1 = 0
  · subst c1
    have c2 : ¬ b2 = 0 := by simpa using h3
    clear h3
    simp only [Int.mul_zero, Int.zero_mul, Int.zero_add, Int.add_zero, Int.sub_zero, Int.zero_sub, Int.neg_zero] at *
    have hb2 : (b2 != 0) = true := by simpa using c2
    obtain ⟨M2, eM2, l2, u2⟩ : ∃ M, (if b2 < -b2 then -b2 else b2) = M ∧ 1 ≤ M ∧ M ≤ 2000000000 := ⟨_, rfl, by split <;> omega, by split <;> omega⟩
    have eN2 : max b2 (-b2) = M2 := by rw [← eM2]; split <;> omega
    obtain ⟨Q2, eQ2, vq2⟩ : ∃ Q, 4000000000000000000 / M2 = Q ∧ d ≤ Q := ⟨_, rfl, quot_ok (by omega) (by omega) db⟩
    have vt2 : (4000000000000000000 : Int).tdiv M2 = Q2 := by rw [Int.tdiv_eq_ediv_of_nonneg (by omega)]; exact eQ2
    have vw2 : Q2 ≤ 4000000000000000000 := by rw [← eQ2]; exact Int.ediv_le_self _ (by omega)
    have c22 : (M2 == 0) = false := by simp; omega
    clear c2
    generalize ex4 : b2 * b2 = x4 at *
    generalize ex6 : b2 * d = x6 at *
    have w2 := IntWalk.i64_in (-b2) (by omega)
    have KG := Lib.hid kg
    have KL := Lib.hid kl
    clear kg kl
    have hS := Sees.refl w
    have hC := True.intro
    go_enter Tryd.func24, Tryd.ntmps24
    go_wp2_with ((go_at_call 33; (with_reducible refine (KG.out _).mono ?_); rintro e wn ⟨rfl, dn, rfl⟩))
    refine wp_region_got (St := fun _ _ => True) 12 false (B := fun _ w' => Sees w w' [(w.heap.size + 1, 24, #[.int .i64 0, .int .i64 0, .int .i64 0]), (w.heap.size, 24, #[.int .i64 0, .int .i64 b2, .int .i64 b3])]) (by kernel_rfl) (by kernel_rfl) (Sees.drewW (Sees.cast (by simp only [World.size_alloc]))) (by exact fun _ _ _ _ _ h => h) ?_
    apply lexDet_pure
    · rfl
    · intro b wb hB Q1 hQ1
      go_wp2_with fail
      exact hQ1 _ trivial hB
    · exact ⟨_, rfl⟩
    apply lexDet_pure
    · rfl
    · intro b wb hB Q1 hQ1
      have hS := hB
      have hC := hS.reads
      simp only [reads_cons, reads_nil] at hC
      go_wp2_with fail
      exact hQ1 _ trivial hB
    · exact ⟨_, rfl⟩
    apply lexDet_pure
    · rfl
    · intro b wb hB Q1 hQ1
      go_wp2_with fail
      exact hQ1 _ trivial hB
    · exact ⟨_, rfl⟩
    apply lexDet_pure
    · rfl
    · intro b wb hB Q1 hQ1
      go_wp2_with fail
      exact hQ1 _ trivial hB
    · exact ⟨_, rfl⟩
    apply lexDet_pure
    · rfl
    · intro b wb hB Q1 hQ1
      go_wp2_with fail
      exact hQ1 _ trivial hB
    · exact ⟨_, rfl⟩
    apply lexDet_pure
    · rfl
    · intro b wb hB Q1 hQ1
      have hS := hB
      have hC := hS.reads
      simp only [reads_cons, reads_nil] at hC
      go_wp2_with fail
      exact hQ1 _ trivial hB
    · exact ⟨_, rfl⟩
    apply lexDet_pure
    · rfl
    · intro b wb hB Q1 hQ1
      go_wp2_with fail
      exact hQ1 _ trivial hB
    · exact ⟨_, rfl⟩
    apply lexDet_pure
    · rfl
    · intro b wb hB Q1 hQ1
      go_wp2_with fail
      exact hQ1 _ trivial hB
    · exact ⟨_, rfl⟩
    apply lexDet_pure
    · rfl
    · intro b wb hB Q1 hQ1
      go_wp2_with fail
      exact hQ1 _ trivial hB
    · exact ⟨_, rfl⟩
    apply lexDet_pure
    · rfl
    · intro b wb hB Q1 hQ1
      go_wp2_with fail
      exact hQ1 _ trivial hB
    · exact ⟨_, rfl⟩
    apply lexDet_pure
    · rfl
    · intro b wb hB Q1 hQ1
      go_wp2_with fail
      exact hQ1 _ trivial hB
    · exact ⟨_, rfl⟩
    apply lexDet_pure
    · rfl
    · intro b wb hB Q1 hQ1
      go_wp2_with fail
      exact hQ1 _ trivial hB
    · exact ⟨_, rfl⟩
    refine lexDet_zero ?_
    intro wz hz
    have hS := hz
    have hC := hS.reads
    simp only [reads_cons, reads_nil] at hC
    clear hz
    go_wp2_with ((go_at_call 30; (with_reducible refine (KL.out _).mono ?_); rintro e wn ⟨rfl, hx⟩; replace hS := Sees.after (W := w) hx; clear hx; replace hC := hS.reads; simp only [reads_cons, reads_nil, World.size_alloc] at hC))
    refine bodyPost_ret (v := frv (⟨t1, t2, t3⟩, tk)) ?_ rfl ⟨rfl, ?_⟩
    · simp [results, Tryd.results24, go_sem, hC, frv, Fr.v, Fr.none]
    · repeat' (with_reducible first | exact hS.ex | exact Ex.refl _ | assumption | refine Ex.alloc ?_ _ | refine Ex.drewN ?_ _ | refine Ex.drew ?_ | refine Ex.setCell ?_ (by simp <;> omega) _)
  · by_cases c2 : b2 = 0
    · subst c2
      clear h3
      simp only [Int.mul_zero, Int.zero_mul, Int.zero_add, Int.add_zero, Int.sub_zero, Int.zero_sub, Int.neg_zero] at *
      have hb1 : (b1 != 0) = true := by simpa using c1
      obtain ⟨M1, eM1, l1, u1⟩ : ∃ M, (if b1 < -b1 then -b1 else b1) = M ∧ 1 ≤ M ∧ M ≤ 2000000000 := ⟨_, rfl, by split <;> omega, by split <;> omega⟩
      have eN1 : max b1 (-b1) = M1 := by rw [← eM1]; split <;> omega
      obtain ⟨Q1, eQ1, vq1⟩ : ∃ Q, 4000000000000000000 / M1 = Q ∧ d ≤ Q := ⟨_, rfl, quot_ok (by omega) (by omega) db⟩
      have vt1 : (4000000000000000000 : Int).tdiv M1 = Q1 := by rw [Int.tdiv_eq_ediv_of_nonneg (by omega)]; exact eQ1
      have vw1 : Q1 ≤ 4000000000000000000 := by rw [← eQ1]; exact Int.ediv_le_self _ (by omega)
      have c12 : (M1 == 0) = false := by simp; omega
      clear c1
      generalize ex3 : b1 * b1 = x3 at *
      generalize ex5 : b1 * d = x5 at *
      have w1 := IntWalk.i64_in (-b1) (by omega)
      have KG := Lib.hid kg
      have KL := Lib.hid kl
      clear kg kl
      have hS := Sees.refl w
      have hC := True.intro
      go_enter Tryd.func24, Tryd.ntmps24
      go_wp2_with ((go_at_call 33; (with_reducible refine (KG.out _).mono ?_); rintro e wn ⟨rfl, dn, rfl⟩))
      refine wp_region_got (St := fun _ _ => True) 12 false (B := fun _ w' => Sees w w' [(w.heap.size + 1, 24, #[.int .i64 0, .int .i64 0, .int .i64 0]), (w.heap.size, 24, #[.int .i64 b1, .int .i64 0, .int .i64 b3])]) (by kernel_rfl) (by kernel_rfl) (Sees.drewW (Sees.cast (by simp only [World.size_alloc]))) (by exact fun _ _ _ _ _ h => h) ?_
      apply lexDet_pure
      · rfl
      · intro b wb hB Q1 hQ1
        go_wp2_with fail
        exact hQ1 _ trivial hB
      · exact ⟨_, rfl⟩
      apply lexDet_pure
      · rfl
      · intro b wb hB Q1 hQ1
        have hS := hB
        have hC := hS.reads
        simp only [reads_cons, reads_nil] at hC
        go_wp2_with fail
        exact hQ1 _ trivial hB
      · exact ⟨_, rfl⟩
      apply lexDet_pure
      · rfl
      · intro b wb hB Q1 hQ1
        go_wp2_with fail
        exact hQ1 _ trivial hB
      · exact ⟨_, rfl⟩
      apply lexDet_pure
      · rfl
      · intro b wb hB Q1 hQ1
        go_wp2_with fail
        exact hQ1 _ trivial hB
      · exact ⟨_, rfl⟩
      apply lexDet_pure
      · rfl
      · intro b wb hB Q1 hQ1
        go_wp2_with fail
        exact hQ1 _ trivial hB
      · exact ⟨_, rfl⟩
      apply lexDet_pure
      · rfl
      · intro b wb hB Q1 hQ1
        have hS := hB
        have hC := hS.reads
        simp only [reads_cons, reads_nil] at hC
        go_wp2_with fail
        exact hQ1 _ trivial hB
      · exact ⟨_, rfl⟩
      apply lexDet_pure
      · rfl
      · intro b wb hB Q1 hQ1
        go_wp2_with fail
        exact hQ1 _ trivial hB
      · exact ⟨_, rfl⟩
      apply lexDet_pure
      · rfl
      · intro b wb hB Q1 hQ1
        go_wp2_with fail
        exact hQ1 _ trivial hB
      · exact ⟨_, rfl⟩
      apply lexDet_pure
      · rfl
      · intro b wb hB Q1 hQ1
        go_wp2_with fail
        exact hQ1 _ trivial hB
      · exact ⟨_, rfl⟩
      apply lexDet_pure
      · rfl
      · intro b wb hB Q1 hQ1
        go_wp2_with fail
        exact hQ1 _ trivial hB
      · exact ⟨_, rfl⟩
      apply lexDet_pure
      · rfl
      · intro b wb hB Q1 hQ1
        go_wp2_with fail
        exact hQ1 _ trivial hB
      · exact ⟨_, rfl⟩
      apply lexDet_pure
      · rfl
      · intro b wb hB Q1 hQ1
        go_wp2_with fail
        exact hQ1 _ trivial hB
      · exact ⟨_, rfl⟩
      refine lexDet_zero ?_
      intro wz hz
      have hS := hz
      have hC := hS.reads
      simp only [reads_cons, reads_nil] at hC
      clear hz
      go_wp2_with ((go_at_call 30; (with_reducible refine (KL.out _).mono ?_); rintro e wn ⟨rfl, hx⟩; replace hS := Sees.after (W := w) hx; clear hx; replace hC := hS.reads; simp only [reads_cons, reads_nil, World.size_alloc] at hC))
      refine bodyPost_ret (v := frv (⟨t1, t2, t3⟩, tk)) ?_ rfl ⟨rfl, ?_⟩
      · simp [results, Tryd.results24, go_sem, hC, frv, Fr.v, Fr.none]
      · repeat' (with_reducible first | exact hS.ex | exact Ex.refl _ | assumption | refine Ex.alloc ?_ _ | refine Ex.drewN ?_ _ | refine Ex.drew ?_ | refine Ex.setCell ?_ (by simp <;> omega) _)
    · clear h3
      have hb1 : (b1 != 0) = true := by simpa using c1
      obtain ⟨M1, eM1, l1, u1⟩ : ∃ M, (if b1 < -b1 then -b1 else b1) = M ∧ 1 ≤ M ∧ M ≤ 2000000000 := ⟨_, rfl, by split <;> omega, by split <;> omega⟩
      have eN1 : max b1 (-b1) = M1 := by rw [← eM1]; split <;> omega
      obtain ⟨Q1, eQ1, vq1⟩ : ∃ Q, 4000000000000000000 / M1 = Q ∧ d ≤ Q := ⟨_, rfl, quot_ok (by omega) (by omega) db⟩
      have vt1 : (4000000000000000000 : Int).tdiv M1 = Q1 := by rw [Int.tdiv_eq_ediv_of_nonneg (by omega)]; exact eQ1
      have vw1 : Q1 ≤ 4000000000000000000 := by rw [← eQ1]; exact Int.ediv_le_self _ (by omega)
      have c12 : (M1 == 0) = false := by simp; omega
      clear c1
      have hb2 : (b2 != 0) = true := by simpa using c2
      obtain ⟨M2, eM2, l2, u2⟩ : ∃ M, (if b2 < -b2 then -b2 else b2) = M ∧ 1 ≤ M ∧ M ≤ 2000000000 := ⟨_, rfl, by split <;> omega, by split <;> omega⟩
      have eN2 : max b2 (-b2) = M2 := by rw [← eM2]; split <;> omega
      obtain ⟨Q2, eQ2, vq2⟩ : ∃ Q, 4000000000000000000 / M2 = Q ∧ d ≤ Q := ⟨_, rfl, quot_ok (by omega) (by omega) db⟩
      have vt2 : (4000000000000000000 : Int).tdiv M2 = Q2 := by rw [Int.tdiv_eq_ediv_of_nonneg (by omega)]; exact eQ2
      have vw2 : Q2 ≤ 4000000000000000000 := by rw [← eQ2]; exact Int.ediv_le_self _ (by omega)
      have c22 : (M2 == 0) = false := by simp; omega
      clear c2
      generalize ex3 : b1 * b1 = x3 at *
      generalize ex5 : b1 * d = x5 at *
      have w1 := IntWalk.i64_in (-b1) (by omega)
      generalize ex4 : b2 * b2 = x4 at *
      generalize ex6 : b2 * d = x6 at *
      have w2 := IntWalk.i64_in (-b2) (by omega)
      simp only [Int.zero_sub] at kl
      have KG := Lib.hid kg
      have KL := Lib.hid kl
      clear kg kl
      have hS := Sees.refl w
      have hC := True.intro
      go_enter Tryd.func24, Tryd.ntmps24
      go_wp2_with ((go_at_call 33; (with_reducible refine (KG.out _).mono ?_); rintro e wn ⟨rfl, dn, rfl⟩))
      refine wp_region_got (St := fun _ _ => True) 12 false (B := fun _ w' => Sees w w' [(w.heap.size + 1, 24, #[.int .i64 0, .int .i64 0, .int .i64 0]), (w.heap.size, 24, #[.int .i64 b1, .int .i64 b2, .int .i64 b3])]) (by kernel_rfl) (by kernel_rfl) (Sees.drewW (Sees.cast (by simp only [World.size_alloc]))) (by exact fun _ _ _ _ _ h => h) ?_
      apply lexDet_pure
      · rfl
      · intro b wb hB Q1 hQ1
        go_wp2_with fail
        exact hQ1 _ trivial hB
      · exact ⟨_, rfl⟩
      apply lexDet_pure
      · rfl
      · intro b wb hB Q1 hQ1
        have hS := hB
        have hC := hS.reads
        simp only [reads_cons, reads_nil] at hC
        go_wp2_with fail
        exact hQ1 _ trivial hB
      · exact ⟨_, rfl⟩
      apply lexDet_pure
      · rfl
      · intro b wb hB Q1 hQ1
        go_wp2_with fail
        exact hQ1 _ trivial hB
      · exact ⟨_, rfl⟩
      apply lexDet_pure
      · rfl
      · intro b wb hB Q1 hQ1
        go_wp2_with fail
        exact hQ1 _ trivial hB
      · exact ⟨_, rfl⟩
      apply lexDet_pure
      · rfl
      · intro b wb hB Q1 hQ1
        go_wp2_with fail
        exact hQ1 _ trivial hB
      · exact ⟨_, rfl⟩
      apply lexDet_pure
      · rfl
      · intro b wb hB Q1 hQ1
        have hS := hB
        have hC := hS.reads
        simp only [reads_cons, reads_nil] at hC
        go_wp2_with fail
        exact hQ1 _ trivial hB
      · exact ⟨_, rfl⟩
      apply lexDet_pure
      · rfl
      · intro b wb hB Q1 hQ1
        go_wp2_with fail
        exact hQ1 _ trivial hB
      · exact ⟨_, rfl⟩
      apply lexDet_pure
      · rfl
      · intro b wb hB Q1 hQ1
        go_wp2_with fail
        exact hQ1 _ trivial hB
      · exact ⟨_, rfl⟩
      apply lexDet_pure
      · rfl
      · intro b wb hB Q1 hQ1
        go_wp2_with fail
        exact hQ1 _ trivial hB
      · exact ⟨_, rfl⟩
      apply lexDet_pure
      · rfl
      · intro b wb hB Q1 hQ1
        go_wp2_with fail
        exact hQ1 _ trivial hB
      · exact ⟨_, rfl⟩
      apply lexDet_pure
      · rfl
      · intro b wb hB Q1 hQ1
        go_wp2_with fail
        exact hQ1 _ trivial hB
      · exact ⟨_, rfl⟩
      apply lexDet_pure
      · rfl
      · intro b wb hB Q1 hQ1
        go_wp2_with fail
        exact hQ1 _ trivial hB
      · exact ⟨_, rfl⟩
      refine lexDet_zero ?_
      intro wz hz
      have hS := hz
      have hC := hS.reads
      simp only [reads_cons, reads_nil] at hC
      clear hz
      go_wp2_with ((go_at_call 30; (with_reducible refine (KL.out _).mono ?_); rintro e wn ⟨rfl, hx⟩; replace hS := Sees.after (W := w) hx; clear hx; replace hC := hS.reads; simp only [reads_cons, reads_nil, World.size_alloc] at hC))
      refine bodyPost_ret (v := frv (⟨t1, t2, t3⟩, tk)) ?_ rfl ⟨rfl, ?_⟩
      · simp [results, Tryd.results24, go_sem, hC, frv, Fr.v, Fr.none]
      · repeat' (with_reducible first | exact hS.ex | exact Ex.refl _ | assumption | refine Ex.alloc ?_ _ | refine Ex.drewN ?_ _ | refine Ex.drew ?_ | refine Ex.setCell ?_ (by simp <;> omega) _)
set_option maxHeartbeats 1000000 in
theorem sFracOver (a b : Fr) (w : World) : Calls Tryd.prog 15 #[a.v, b.v] w (FrGot w (fover a b)) := by
  have k1 := fun w => sFracValid a.re a.im a.den w
  have k2 := fun w => sFracValid b.re b.im b.den w
  rcases h1 : a.valid with _ | _
  · rw [fover_no1 h1]
    unfold Fr.valid at h1
    simp only [h1] at k1
    clear h1 k2
    have K1 := Lib.hid k1
    clear k1
    obtain ⟨a1, a2, a3⟩ := a
    obtain ⟨b1, b2, b3⟩ := b
    show Calls _ _ #[.agg #[.int .i64 a1, .int .i64 a2, .int .i64 a3], .agg #[.int .i64 b1, .int .i64 b2, .int .i64 b3]] _ _
    have hS := Sees.refl w
    have hC := True.intro
    go_enter Tryd.func15, Tryd.ntmps15
    go_wp2_with ((go_at_call 23; (with_reducible refine (K1.out _).mono ?_); rintro e wn ⟨rfl, hx⟩; replace hS := Sees.after (W := w) hx; clear hx; replace hC := hS.reads; simp only [reads_cons, reads_nil, World.size_alloc] at hC))
    refine bodyPost_ret (v := frv (Fr.none, false)) ?_ rfl ⟨rfl, ?_⟩
    · simp [results, Tryd.results15, go_sem, hC, frv, Fr.v, Fr.none]
    · repeat' (with_reducible first | exact hS.ex | exact Ex.refl _ | assumption | refine Ex.alloc ?_ _ | refine Ex.drewN ?_ _ | refine Ex.drew ?_ | refine Ex.setCell ?_ (by simp <;> omega) _)
  · rcases h2 : b.valid with _ | _
    · rw [fover_no2 h2]
      unfold Fr.valid at h1 h2
      simp only [h1] at k1
      simp only [h2] at k2
      clear h1 h2
      have K1 := Lib.hid k1
      have K2 := Lib.hid k2
      clear k1 k2
      obtain ⟨a1, a2, a3⟩ := a
      obtain ⟨b1, b2, b3⟩ := b
      show Calls _ _ #[.agg #[.int .i64 a1, .int .i64 a2, .int .i64 a3], .agg #[.int .i64 b1, .int .i64 b2, .int .i64 b3]] _ _
      have hS := Sees.refl w
      have hC := True.intro
      go_enter Tryd.func15, Tryd.ntmps15
      go_wp2_with ((go_at_call 23; (first | (with_reducible refine (K1.out _).mono ?_) | (with_reducible refine (K2.out _).mono ?_)); rintro e wn ⟨rfl, hx⟩; replace hS := Sees.after (W := w) hx; clear hx; replace hC := hS.reads; simp only [reads_cons, reads_nil, World.size_alloc] at hC))
      refine bodyPost_ret (v := frv (Fr.none, false)) ?_ rfl ⟨rfl, ?_⟩
      · simp [results, Tryd.results15, go_sem, hC, frv, Fr.v, Fr.none]
      · repeat' (with_reducible first | exact hS.ex | exact Ex.refl _ | assumption | refine Ex.alloc ?_ _ | refine Ex.drewN ?_ _ | refine Ex.drew ?_ | refine Ex.setCell ?_ (by simp <;> omega) _)
    · rcases h3 : fnul b with _ | _
      · rcases h4 : (fturn b).2 with _ | _
        · rw [fover_no4 h4]
          have kl := fun w => sl2Turned b w h2 h3
          generalize fturn b = t at kl h4
          obtain ⟨⟨t1, t2, t3⟩, tk⟩ := t
          simp only at h4
          subst h4
          replace kl := fun w => FrGot.spell (kl w)
          unfold Fr.valid at h1 h2
          simp only [h1] at k1
          simp only [h2] at k2
          unfold fnul at h3
          clear h1 h2
          obtain ⟨a1, a2, a3⟩ := a
          obtain ⟨b1, b2, b3⟩ := b
          simp only at *
          show Calls _ _ #[.agg #[.int .i64 a1, .int .i64 a2, .int .i64 a3], .agg #[.int .i64 b1, .int .i64 b2, .int .i64 b3]] _ _
          have KL : Hid (∀ w, Calls Tryd.prog 24 #[.agg #[.int .i64 b1, .int .i64 b2, .int .i64 b3]] w fun e w' => e = .returned (.tuple #[.agg #[.int .i64 t1, .int .i64 t2, .int .i64 t3], .bool false]) ∧ Ex w w') := kl
          clear kl
          by_cases hb : b1 = 0
          · subst hb
            have hb2 : (b2 == 0) = false := by simpa using h3
            clear h3
            have K1 := Lib.hid k1
            have K2 := Lib.hid k2
            clear k1 k2
            have hS := Sees.refl w
            have hC := True.intro
            go_enter Tryd.func15, Tryd.ntmps15
            go_wp2_with ((first | (go_at_call 23; (first | (with_reducible refine (K1.out _).mono ?_) | (with_reducible refine (K2.out _).mono ?_)); rintro e wn ⟨rfl, hx⟩; replace hS := Sees.after (W := w) hx; clear hx; replace hC := hS.reads; simp only [reads_cons, reads_nil, World.size_alloc] at hC) | (go_at_call 24; (with_reducible refine (KL.out _).mono ?_); rintro e wn ⟨rfl, hx⟩; replace hS := Sees.after (W := w) hx; clear hx; replace hC := hS.reads; simp only [reads_cons, reads_nil, World.size_alloc] at hC)))
            refine bodyPost_ret (v := frv (Fr.none, false)) ?_ rfl ⟨rfl, ?_⟩
            · simp [results, Tryd.results15, go_sem, hC, frv, Fr.v, Fr.none]
            · repeat' (with_reducible first | exact hS.ex | exact Ex.refl _ | assumption | refine Ex.alloc ?_ _ | refine Ex.drewN ?_ _ | refine Ex.drew ?_ | refine Ex.setCell ?_ (by simp <;> omega) _)
          · have hb2 : (b1 == 0) = false := by simpa using hb
            clear h3 hb
            have K1 := Lib.hid k1
            have K2 := Lib.hid k2
            clear k1 k2
            have hS := Sees.refl w
            have hC := True.intro
            go_enter Tryd.func15, Tryd.ntmps15
            go_wp2_with ((first | (go_at_call 23; (first | (with_reducible refine (K1.out _).mono ?_) | (with_reducible refine (K2.out _).mono ?_)); rintro e wn ⟨rfl, hx⟩; replace hS := Sees.after (W := w) hx; clear hx; replace hC := hS.reads; simp only [reads_cons, reads_nil, World.size_alloc] at hC) | (go_at_call 24; (with_reducible refine (KL.out _).mono ?_); rintro e wn ⟨rfl, hx⟩; replace hS := Sees.after (W := w) hx; clear hx; replace hC := hS.reads; simp only [reads_cons, reads_nil, World.size_alloc] at hC)))
            refine bodyPost_ret (v := frv (Fr.none, false)) ?_ rfl ⟨rfl, ?_⟩
            · simp [results, Tryd.results15, go_sem, hC, frv, Fr.v, Fr.none]
            · repeat' (with_reducible first | exact hS.ex | exact Ex.refl _ | assumption | refine Ex.alloc ?_ _ | refine Ex.drewN ?_ _ | refine Ex.drew ?_ | refine Ex.setCell ?_ (by simp <;> omega) _)
        · rw [fover_ok h1 h2 h3 h4]
          have kl := fun w => sl2Turned b w h2 h3
          have kt := fun w => sFracTimes a (fturn b).1 w
          generalize ftimes a (fturn b).1 = u at kt ⊢
          generalize fturn b = t at kl h4 kt
          obtain ⟨⟨t1, t2, t3⟩, tk⟩ := t
          simp only at h4
          subst h4
          replace kl := fun w => FrGot.spell (kl w)
          obtain ⟨⟨u1, u2, u3⟩, uk⟩ := u
          replace kt := fun w => FrGot.spell (kt w)
          unfold Fr.valid at h1 h2
          simp only [h1] at k1
          simp only [h2] at k2
          unfold fnul at h3
          clear h1 h2
          obtain ⟨a1, a2, a3⟩ := a
          obtain ⟨b1, b2, b3⟩ := b
          simp only at *
          show Calls _ _ #[.agg #[.int .i64 a1, .int .i64 a2, .int .i64 a3], .agg #[.int .i64 b1, .int .i64 b2, .int .i64 b3]] _ _
          have KL : Hid (∀ w, Calls Tryd.prog 24 #[.agg #[.int .i64 b1, .int .i64 b2, .int .i64 b3]] w fun e w' => e = .returned (.tuple #[.agg #[.int .i64 t1, .int .i64 t2, .int .i64 t3], .bool true]) ∧ Ex w w') := kl
          clear kl
          have KT : Hid (∀ w, Calls Tryd.prog 25 #[.agg #[.int .i64 a1, .int .i64 a2, .int .i64 a3], .agg #[.int .i64 t1, .int .i64 t2, .int .i64 t3]] w fun e w' => e = .returned (.tuple #[.agg #[.int .i64 u1, .int .i64 u2, .int .i64 u3], .bool uk]) ∧ Ex w w') := kt
          clear kt
          by_cases hb : b1 = 0
          · subst hb
            have hb2 : (b2 == 0) = false := by simpa using h3
            clear h3
            have K1 := Lib.hid k1
            have K2 := Lib.hid k2
            clear k1 k2
            have hS := Sees.refl w
            have hC := True.intro
            go_enter Tryd.func15, Tryd.ntmps15
            go_wp2_with ((first | (go_at_call 23; (first | (with_reducible refine (K1.out _).mono ?_) | (with_reducible refine (K2.out _).mono ?_)); rintro e wn ⟨rfl, hx⟩; replace hS := Sees.after (W := w) hx; clear hx; replace hC := hS.reads; simp only [reads_cons, reads_nil, World.size_alloc] at hC) | (go_at_call 24; (with_reducible refine (KL.out _).mono ?_); rintro e wn ⟨rfl, hx⟩; replace hS := Sees.after (W := w) hx; clear hx; replace hC := hS.reads; simp only [reads_cons, reads_nil, World.size_alloc] at hC) | (go_at_call 25; (with_reducible refine (KT.out _).mono ?_); rintro e wn ⟨rfl, hx⟩; replace hS := Sees.after (W := w) hx; clear hx; replace hC := hS.reads; simp only [reads_cons, reads_nil, World.size_alloc] at hC)))
            refine bodyPost_ret (v := frv (⟨u1, u2, u3⟩, uk)) ?_ rfl ⟨rfl, ?_⟩
            · simp [results, Tryd.results15, go_sem, hC, frv, Fr.v, Fr.none]
            · repeat' (with_reducible first | exact hS.ex | exact Ex.refl _ | assumption | refine Ex.alloc ?_ _ | refine Ex.drewN ?_ _ | refine Ex.drew ?_ | refine Ex.setCell ?_ (by simp <;> omega) _)
          · have hb2 : (b1 == 0) = false := by simpa using hb
            clear h3 hb
            have K1 := Lib.hid k1
            have K2 := Lib.hid k2
            clear k1 k2
            have hS := Sees.refl w
            have hC := True.intro
            go_enter Tryd.func15, Tryd.ntmps15
            go_wp2_with ((first | (go_at_call 23; (first | (with_reducible refine (K1.out _).mono ?_) | (with_reducible refine (K2.out _).mono ?_)); rintro e wn ⟨rfl, hx⟩; replace hS := Sees.after (W := w) hx; clear hx; replace hC := hS.reads; simp only [reads_cons, reads_nil, World.size_alloc] at hC) | (go_at_call 24; (with_reducible refine (KL.out _).mono ?_); rintro e wn ⟨rfl, hx⟩; replace hS := Sees.after (W := w) hx; clear hx; replace hC := hS.reads; simp only [reads_cons, reads_nil, World.size_alloc] at hC) | (go_at_call 25; (with_reducible refine (KT.out _).mono ?_); rintro e wn ⟨rfl, hx⟩; replace hS := Sees.after (W := w) hx; clear hx; replace hC := hS.reads; simp only [reads_cons, reads_nil, World.size_alloc] at hC)))
            refine bodyPost_ret (v := frv (⟨u1, u2, u3⟩, uk)) ?_ rfl ⟨rfl, ?_⟩
            · simp [results, Tryd.results15, go_sem, hC, frv, Fr.v, Fr.none]
            · repeat' (with_reducible first | exact hS.ex | exact Ex.refl _ | assumption | refine Ex.alloc ?_ _ | refine Ex.drewN ?_ _ | refine Ex.drew ?_ | refine Ex.setCell ?_ (by simp <;> omega) _)
      · rw [fover_no3 h3]
        obtain rfl := nul_one h2 h3
        unfold Fr.valid at h1
        have e2 : fvalid 0 0 1 = true := h2
        simp only [h1] at k1
        simp only [e2] at k2
        clear h1 h2 h3 e2
        have K1 := Lib.hid k1
        have K2 := Lib.hid k2
        clear k1 k2
        obtain ⟨a1, a2, a3⟩ := a
        show Calls _ _ #[.agg #[.int .i64 a1, .int .i64 a2, .int .i64 a3], .agg #[.int .i64 0, .int .i64 0, .int .i64 1]] _ _
        have hS := Sees.refl w
        have hC := True.intro
        go_enter Tryd.func15, Tryd.ntmps15
        go_wp2_with ((go_at_call 23; (first | (with_reducible refine (K1.out _).mono ?_) | (with_reducible refine (K2.out _).mono ?_)); rintro e wn ⟨rfl, hx⟩; replace hS := Sees.after (W := w) hx; clear hx; replace hC := hS.reads; simp only [reads_cons, reads_nil, World.size_alloc] at hC))
        refine bodyPost_ret (v := frv (Fr.none, false)) ?_ rfl ⟨rfl, ?_⟩
        · simp [results, Tryd.results15, go_sem, hC, frv, Fr.v, Fr.none]
        · repeat' (with_reducible first | exact hS.ex | exact Ex.refl _ | assumption | refine Ex.alloc ?_ _ | refine Ex.drewN ?_ _ | refine Ex.drew ?_ | refine Ex.setCell ?_ (by simp <;> omega) _)
end Go.Proofs.YtgkekdiffgmllaaDoor
