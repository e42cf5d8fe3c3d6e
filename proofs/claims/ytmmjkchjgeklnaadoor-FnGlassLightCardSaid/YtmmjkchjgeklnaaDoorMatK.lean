/-
  Walks: plates, matrices on vectors, powers: the reference's; plates: the program's.
-/
import Derived.Test.YtmmjkchjgeklnaaDoorMatJ
import Derived.Test.YtmmjkchjgeklnaaDoorMatV
namespace Go.Proofs.YtmmjkchjgeklnaaDoor
open Go.RowKit

attribute [local go_sem] nat_eq_lt nat_eq_gt
attribute [local go_sem ↓] Go.wp_at_zero Go.wp_at_succ
theorem jpower_eq (x y : Fr) : (if (fpower x).2 && (fpower y).2 then fadd2 (fpower x).1 (fpower y).1 else (Fr.none, false)) = jpower x y := by
  unfold jpower
  rcases h1 : (fpower x).2 with _ | _
  · rw [fpower_none h1, fadd2_no1 none_valid]; rfl
  rcases h2 : (fpower y).2 with _ | _
  · rw [fpower_none h2, fadd2_no2 none_valid]; rfl
  rfl
set_option maxRecDepth 4000 in
set_option maxHeartbeats 1000000 in
theorem sJonesPower (x y : Fr) (w : World) : Calls Tryd.prog 42 #[jvv x y] w (fun e w' => e = .returned (frv (jpower x y)) ∧ Ex w w') := by
  rw [← jpower_eq]
  have k1 := fun w => FrGot.opn (sFracPower x w)
  have k2 := fun w => FrGot.opn (sFracPower y w)
  have k3 := fun w => FrGot.opn (sFracAdd (fpower x).1 (fpower y).1 w)
  generalize fadd2 (fpower x).1 (fpower y).1 = s at *
  generalize fpower x = t at *
  generalize fpower y = u at *
  obtain ⟨x1, x2, x3⟩ := x
  obtain ⟨y1, y2, y3⟩ := y
  obtain ⟨⟨s1, s2, s3⟩, sk⟩ := s
  obtain ⟨⟨t1, t2, t3⟩, tk⟩ := t
  obtain ⟨⟨u1, u2, u3⟩, uk⟩ := u
  simp only [frv, Fr.v, jvv, Fr.none] at k1 k2 k3 ⊢
  rcases tk with _ | _
  · try simp only [Bool.false_and, Bool.and_false, Bool.false_eq_true, if_false, Bool.true_and, Bool.and_true]
    have K1 := Lib.hid k1
    have K2 := Lib.hid k2
    have K3 := Lib.hid k3
    clear k1 k2 k3
    have hS := Sees.refl w
    have hC := True.intro
    go_enter Tryd.func42, Tryd.ntmps42
    go_wp2_with ((first | (go_at_call 69; (first | (with_reducible refine (K1.out _).mono ?_) | (with_reducible refine (K2.out _).mono ?_)); rintro e wn ⟨rfl, hx⟩; replace hS := Sees.after (W := w) hx; clear hx; replace hC := hS.reads; simp only [reads_cons, reads_nil, World.size_alloc] at hC) | (go_at_call 70; (with_reducible refine (K3.out _).mono ?_); rintro e wn ⟨rfl, hx⟩; replace hS := Sees.after (W := w) hx; clear hx; replace hC := hS.reads; simp only [reads_cons, reads_nil, World.size_alloc] at hC)))
    refine bodyPost_ret ?_ rfl ⟨rfl, ?_⟩
    · simp [results, Tryd.results42, go_sem, hC]
    · repeat' (with_reducible first | exact hS.ex | exact Ex.refl _ | assumption | refine Ex.alloc ?_ _ | refine Ex.drewN ?_ _ | refine Ex.drew ?_ | refine Ex.setCell ?_ (by simp <;> omega) _)
  · rcases uk with _ | _
    · try simp only [Bool.false_and, Bool.and_false, Bool.false_eq_true, if_false, Bool.true_and, Bool.and_true]
      have K1 := Lib.hid k1
      have K2 := Lib.hid k2
      have K3 := Lib.hid k3
      clear k1 k2 k3
      have hS := Sees.refl w
      have hC := True.intro
      go_enter Tryd.func42, Tryd.ntmps42
      go_wp2_with ((first | (go_at_call 69; (first | (with_reducible refine (K1.out _).mono ?_) | (with_reducible refine (K2.out _).mono ?_)); rintro e wn ⟨rfl, hx⟩; replace hS := Sees.after (W := w) hx; clear hx; replace hC := hS.reads; simp only [reads_cons, reads_nil, World.size_alloc] at hC) | (go_at_call 70; (with_reducible refine (K3.out _).mono ?_); rintro e wn ⟨rfl, hx⟩; replace hS := Sees.after (W := w) hx; clear hx; replace hC := hS.reads; simp only [reads_cons, reads_nil, World.size_alloc] at hC)))
      refine bodyPost_ret ?_ rfl ⟨rfl, ?_⟩
      · simp [results, Tryd.results42, go_sem, hC]
      · repeat' (with_reducible first | exact hS.ex | exact Ex.refl _ | assumption | refine Ex.alloc ?_ _ | refine Ex.drewN ?_ _ | refine Ex.drew ?_ | refine Ex.setCell ?_ (by simp <;> omega) _)
    · try simp only [Bool.and_self, if_true]
      have K1 := Lib.hid k1
      have K2 := Lib.hid k2
      have K3 := Lib.hid k3
      clear k1 k2 k3
      have hS := Sees.refl w
      have hC := True.intro
      go_enter Tryd.func42, Tryd.ntmps42
      go_wp2_with ((first | (go_at_call 69; (first | (with_reducible refine (K1.out _).mono ?_) | (with_reducible refine (K2.out _).mono ?_)); rintro e wn ⟨rfl, hx⟩; replace hS := Sees.after (W := w) hx; clear hx; replace hC := hS.reads; simp only [reads_cons, reads_nil, World.size_alloc] at hC) | (go_at_call 70; (with_reducible refine (K3.out _).mono ?_); rintro e wn ⟨rfl, hx⟩; replace hS := Sees.after (W := w) hx; clear hx; replace hC := hS.reads; simp only [reads_cons, reads_nil, World.size_alloc] at hC)))
      refine bodyPost_ret ?_ rfl ⟨rfl, ?_⟩
      · simp [results, Tryd.results42, go_sem, hC]
      · repeat' (with_reducible first | exact hS.ex | exact Ex.refl _ | assumption | refine Ex.alloc ?_ _ | refine Ex.drewN ?_ _ | refine Ex.drew ?_ | refine Ex.setCell ?_ (by simp <;> omega) _)
set_option maxRecDepth 4000 in
set_option maxHeartbeats 1000000 in
theorem sMatApply (m : M4) (x y : Fr) (w : World) : Calls Tryd.prog 40 #[m.v, jvv x y] w (fun e w' => e = .returned (v2v (mapply m x y)) ∧ Ex w w') := by
  unfold mapply two
  have kx := fun w => sMatValid m w
  have ky := fun w => sJonesValid x y w
  have k1 := fun w => sl3Inner m.a x m.b y w
  have k2 := fun w => sl3Inner m.c x m.d y w
  generalize finner m.a x m.b y = s at *
  generalize finner m.c x m.d y = t at *
  generalize m.valid = vx at *
  generalize (x.valid && y.valid) = vy at *
  obtain ⟨⟨a1, a2, a3⟩, ⟨b1, b2, b3⟩, ⟨c1, c2, c3⟩, ⟨d1, d2, d3⟩⟩ := m
  obtain ⟨x1, x2, x3⟩ := x
  obtain ⟨y1, y2, y3⟩ := y
  obtain ⟨⟨s1, s2, s3⟩, sk⟩ := s
  obtain ⟨⟨t1, t2, t3⟩, tk⟩ := t
  simp only [v2v, M4.v, frv, Fr.v, jvv, Fr.none] at kx ky k1 k2 ⊢
  rcases vx with _ | _
  · try simp only [Bool.false_and, Bool.and_false, Bool.false_eq_true, if_false, Bool.true_and, Bool.and_true]
    have KX := Lib.hid kx
    have KY := Lib.hid ky
    have K1 := Lib.hid k1
    have K2 := Lib.hid k2
    clear kx ky k1 k2
    have hS := Sees.refl w
    have hC := True.intro
    go_enter Tryd.func40, Tryd.ntmps40
    go_wp2_with ((first | (go_at_call 66; (with_reducible refine (KX.out _).mono ?_); rintro e wn ⟨rfl, hx⟩; replace hS := Sees.after (W := w) hx; clear hx; replace hC := hS.reads; simp only [reads_cons, reads_nil, World.size_alloc] at hC) | (go_at_call 67; (with_reducible refine (KY.out _).mono ?_); rintro e wn ⟨rfl, hx⟩; replace hS := Sees.after (W := w) hx; clear hx; replace hC := hS.reads; simp only [reads_cons, reads_nil, World.size_alloc] at hC) | (go_at_call 68; (first | (with_reducible refine (K1.out _).mono ?_) | (with_reducible refine (K2.out _).mono ?_)); rintro e wn ⟨rfl, hx⟩; replace hS := Sees.after (W := w) hx; clear hx; replace hC := hS.reads; simp only [reads_cons, reads_nil, World.size_alloc] at hC)))
    refine bodyPost_ret ?_ rfl ⟨rfl, ?_⟩
    · simp [results, Tryd.results40, go_sem, hC]
    · repeat' (with_reducible first | exact hS.ex | exact Ex.refl _ | assumption | refine Ex.alloc ?_ _ | refine Ex.drewN ?_ _ | refine Ex.drew ?_ | refine Ex.setCell ?_ (by simp <;> omega) _)
  · rcases vy with _ | _
    · try simp only [Bool.false_and, Bool.and_false, Bool.false_eq_true, if_false, Bool.true_and, Bool.and_true]
      have KX := Lib.hid kx
      have KY := Lib.hid ky
      have K1 := Lib.hid k1
      have K2 := Lib.hid k2
      clear kx ky k1 k2
      have hS := Sees.refl w
      have hC := True.intro
      go_enter Tryd.func40, Tryd.ntmps40
      go_wp2_with ((first | (go_at_call 66; (with_reducible refine (KX.out _).mono ?_); rintro e wn ⟨rfl, hx⟩; replace hS := Sees.after (W := w) hx; clear hx; replace hC := hS.reads; simp only [reads_cons, reads_nil, World.size_alloc] at hC) | (go_at_call 67; (with_reducible refine (KY.out _).mono ?_); rintro e wn ⟨rfl, hx⟩; replace hS := Sees.after (W := w) hx; clear hx; replace hC := hS.reads; simp only [reads_cons, reads_nil, World.size_alloc] at hC) | (go_at_call 68; (first | (with_reducible refine (K1.out _).mono ?_) | (with_reducible refine (K2.out _).mono ?_)); rintro e wn ⟨rfl, hx⟩; replace hS := Sees.after (W := w) hx; clear hx; replace hC := hS.reads; simp only [reads_cons, reads_nil, World.size_alloc] at hC)))
      refine bodyPost_ret ?_ rfl ⟨rfl, ?_⟩
      · simp [results, Tryd.results40, go_sem, hC]
      · repeat' (with_reducible first | exact hS.ex | exact Ex.refl _ | assumption | refine Ex.alloc ?_ _ | refine Ex.drewN ?_ _ | refine Ex.drew ?_ | refine Ex.setCell ?_ (by simp <;> omega) _)
    · rcases sk with _ | _
      · try simp only [Bool.false_and, Bool.and_false, Bool.false_eq_true, if_false, Bool.true_and, Bool.and_true]
        have KX := Lib.hid kx
        have KY := Lib.hid ky
        have K1 := Lib.hid k1
        have K2 := Lib.hid k2
        clear kx ky k1 k2
        have hS := Sees.refl w
        have hC := True.intro
        go_enter Tryd.func40, Tryd.ntmps40
        go_wp2_with ((first | (go_at_call 66; (with_reducible refine (KX.out _).mono ?_); rintro e wn ⟨rfl, hx⟩; replace hS := Sees.after (W := w) hx; clear hx; replace hC := hS.reads; simp only [reads_cons, reads_nil, World.size_alloc] at hC) | (go_at_call 67; (with_reducible refine (KY.out _).mono ?_); rintro e wn ⟨rfl, hx⟩; replace hS := Sees.after (W := w) hx; clear hx; replace hC := hS.reads; simp only [reads_cons, reads_nil, World.size_alloc] at hC) | (go_at_call 68; (first | (with_reducible refine (K1.out _).mono ?_) | (with_reducible refine (K2.out _).mono ?_)); rintro e wn ⟨rfl, hx⟩; replace hS := Sees.after (W := w) hx; clear hx; replace hC := hS.reads; simp only [reads_cons, reads_nil, World.size_alloc] at hC)))
        refine bodyPost_ret ?_ rfl ⟨rfl, ?_⟩
        · simp [results, Tryd.results40, go_sem, hC]
        · repeat' (with_reducible first | exact hS.ex | exact Ex.refl _ | assumption | refine Ex.alloc ?_ _ | refine Ex.drewN ?_ _ | refine Ex.drew ?_ | refine Ex.setCell ?_ (by simp <;> omega) _)
      · rcases tk with _ | _
        · try simp only [Bool.false_and, Bool.and_false, Bool.false_eq_true, if_false, Bool.true_and, Bool.and_true]
          have KX := Lib.hid kx
          have KY := Lib.hid ky
          have K1 := Lib.hid k1
          have K2 := Lib.hid k2
          clear kx ky k1 k2
          have hS := Sees.refl w
          have hC := True.intro
          go_enter Tryd.func40, Tryd.ntmps40
          go_wp2_with ((first | (go_at_call 66; (with_reducible refine (KX.out _).mono ?_); rintro e wn ⟨rfl, hx⟩; replace hS := Sees.after (W := w) hx; clear hx; replace hC := hS.reads; simp only [reads_cons, reads_nil, World.size_alloc] at hC) | (go_at_call 67; (with_reducible refine (KY.out _).mono ?_); rintro e wn ⟨rfl, hx⟩; replace hS := Sees.after (W := w) hx; clear hx; replace hC := hS.reads; simp only [reads_cons, reads_nil, World.size_alloc] at hC) | (go_at_call 68; (first | (with_reducible refine (K1.out _).mono ?_) | (with_reducible refine (K2.out _).mono ?_)); rintro e wn ⟨rfl, hx⟩; replace hS := Sees.after (W := w) hx; clear hx; replace hC := hS.reads; simp only [reads_cons, reads_nil, World.size_alloc] at hC)))
          refine bodyPost_ret ?_ rfl ⟨rfl, ?_⟩
          · simp [results, Tryd.results40, go_sem, hC]
          · repeat' (with_reducible first | exact hS.ex | exact Ex.refl _ | assumption | refine Ex.alloc ?_ _ | refine Ex.drewN ?_ _ | refine Ex.drew ?_ | refine Ex.setCell ?_ (by simp <;> omega) _)
        · try simp only [Bool.and_self, if_true]
          have KX := Lib.hid kx
          have KY := Lib.hid ky
          have K1 := Lib.hid k1
          have K2 := Lib.hid k2
          clear kx ky k1 k2
          have hS := Sees.refl w
          have hC := True.intro
          go_enter Tryd.func40, Tryd.ntmps40
          go_wp2_with ((first | (go_at_call 66; (with_reducible refine (KX.out _).mono ?_); rintro e wn ⟨rfl, hx⟩; replace hS := Sees.after (W := w) hx; clear hx; replace hC := hS.reads; simp only [reads_cons, reads_nil, World.size_alloc] at hC) | (go_at_call 67; (with_reducible refine (KY.out _).mono ?_); rintro e wn ⟨rfl, hx⟩; replace hS := Sees.after (W := w) hx; clear hx; replace hC := hS.reads; simp only [reads_cons, reads_nil, World.size_alloc] at hC) | (go_at_call 68; (first | (with_reducible refine (K1.out _).mono ?_) | (with_reducible refine (K2.out _).mono ?_)); rintro e wn ⟨rfl, hx⟩; replace hS := Sees.after (W := w) hx; clear hx; replace hC := hS.reads; simp only [reads_cons, reads_nil, World.size_alloc] at hC)))
          refine bodyPost_ret ?_ rfl ⟨rfl, ?_⟩
          · simp [results, Tryd.results40, go_sem, hC]
          · repeat' (with_reducible first | exact hS.ex | exact Ex.refl _ | assumption | refine Ex.alloc ?_ _ | refine Ex.drewN ?_ _ | refine Ex.drew ?_ | refine Ex.setCell ?_ (by simp <;> omega) _)
set_option maxRecDepth 8000 in
set_option maxHeartbeats 2000000 in
theorem sMatPlate (p q k : Int) (w : World) : Calls Tryd.prog 38 #[.int .i64 p, .int .i64 q, .int .i64 k] w (fun e w' => e = .returned (m4v (mplate p q k)) ∧ Ex w w') := by
  have kr := fun w => sMatRotator p q w
  have ki := fun w => l6In_q k 0 3 w
  have hrd := mrot_flag p q
  rcases h1 : (mrot p q).2 with _ | _
  · have e : mplate p q k = (M4.none, false) := by unfold mplate; rw [← hrd, h1]; rfl
    rw [e]
    generalize mrot p q = r at *
    obtain ⟨⟨⟨a1, a2, a3⟩, ⟨b1, b2, b3⟩, ⟨c1, c2, c3⟩, ⟨d1, d2, d3⟩⟩, rk⟩ := r
    simp only at h1
    subst h1
    simp only [m4v, M4.v, M4.none, Fr.none] at kr ⊢
    clear e hrd ki
    have KR := Lib.hid kr
    clear kr
    have hS := Sees.refl w
    have hC := True.intro
    go_enter Tryd.func38, Tryd.ntmps38
    go_wp2_with (go_at_call 60; (with_reducible refine (KR.out _).mono ?_); rintro e w1 ⟨rfl, hx⟩; replace hS := Sees.after (W := w) hx; clear hx; replace hC := hS.reads; simp only [reads_cons, reads_nil, World.size_alloc] at hC)
    refine bodyPost_ret ?_ rfl ⟨rfl, ?_⟩
    · simp [results, Tryd.results38, go_sem, hC]
    · repeat' (with_reducible first | exact hS.ex | exact Ex.refl _ | assumption | refine Ex.alloc ?_ _ | refine Ex.drewN ?_ _ | refine Ex.drew ?_ | refine Ex.setCell ?_ (by simp <;> omega) _)
  · rcases h2 : inB2 k 0 3 with _ | _
    · have e : mplate p q k = (M4.none, false) := by unfold mplate; rw [h2, Bool.and_false]; rfl
      rw [e]
      generalize mrot p q = r at *
      obtain ⟨⟨⟨a1, a2, a3⟩, ⟨b1, b2, b3⟩, ⟨c1, c2, c3⟩, ⟨d1, d2, d3⟩⟩, rk⟩ := r
      simp only at h1
      subst h1
      rw [h2] at ki
      simp only [m4v, M4.v, M4.none, Fr.none] at kr ⊢
      clear e hrd h2
      have KR := Lib.hid kr
      have KI := Lib.hid ki
      clear kr ki
      have hS := Sees.refl w
      have hC := True.intro
      go_enter Tryd.func38, Tryd.ntmps38
      go_wp2_with (first | (go_at_call 60; (with_reducible refine (KR.out _).mono ?_); rintro e w1 ⟨rfl, hx⟩; replace hS := Sees.after (W := w) hx; clear hx; replace hC := hS.reads; simp only [reads_cons, reads_nil, World.size_alloc] at hC) | (go_at_call 36; (with_reducible refine (KI.out _).mono ?_); rintro e wn ⟨rfl, rfl⟩))
      refine bodyPost_ret ?_ rfl ⟨rfl, ?_⟩
      · simp [results, Tryd.results38, go_sem, hC]
      · repeat' (with_reducible first | exact hS.ex | exact Ex.refl _ | assumption | refine Ex.alloc ?_ _ | refine Ex.drewN ?_ _ | refine Ex.drew ?_ | refine Ex.setCell ?_ (by simp <;> omega) _)
    · have e : mplate p q k = (if (mtimes (mrot p q).1 ⟨Fr.one, Fr.nul, Fr.nul, phase k⟩).2 && (mtimes (mtimes (mrot p q).1 ⟨Fr.one, Fr.nul, Fr.nul, phase k⟩).1 (madj (mrot p q).1).1).2 then mtimes (mtimes (mrot p q).1 ⟨Fr.one, Fr.nul, Fr.nul, phase k⟩).1 (madj (mrot p q).1).1 else (M4.none, false)) := by unfold mplate; rw [← hrd, h1, h2]; rfl
      rw [e]
      clear e
      have hk := inB2_out h2
      rw [h2] at ki
      clear h2
      have kj := fun w => sMatAdjoint (mrot p q).1 w
      have kp := fun w => sl5Phase k hk.1 hk.2 w
      have ko := fun w => sl5One Fr.one (phase k) w
      have kz := fun w => sl5Phase 0 (by omega) (by omega) w
      have e0 : (phase 0).v = .agg #[.int .i64 1, .int .i64 0, .int .i64 1] := rfl
      rw [e0] at kz
      clear e0
      have ka := fun w => sMatTimes (mrot p q).1 ⟨Fr.one, Fr.nul, Fr.nul, phase k⟩ w
      have kb := fun w => sMatTimes (mtimes (mrot p q).1 ⟨Fr.one, Fr.nul, Fr.nul, phase k⟩).1 (madj (mrot p q).1).1 w
      generalize mtimes (mtimes (mrot p q).1 ⟨Fr.one, Fr.nul, Fr.nul, phase k⟩).1 (madj (mrot p q).1).1 = t at *
      generalize mtimes (mrot p q).1 ⟨Fr.one, Fr.nul, Fr.nul, phase k⟩ = g at *
      generalize madj (mrot p q).1 = j at *
      generalize mrot p q = r at *
      generalize phase k = f at *
      obtain ⟨f1, f2, f3⟩ := f
      obtain ⟨⟨⟨a1, a2, a3⟩, ⟨b1, b2, b3⟩, ⟨c1, c2, c3⟩, ⟨d1, d2, d3⟩⟩, rk⟩ := r
      obtain ⟨⟨⟨ta1, ta2, ta3⟩, ⟨tb1, tb2, tb3⟩, ⟨tc1, tc2, tc3⟩, ⟨td1, td2, td3⟩⟩, tk⟩ := t
      obtain ⟨⟨⟨ga1, ga2, ga3⟩, ⟨gb1, gb2, gb3⟩, ⟨gc1, gc2, gc3⟩, ⟨gd1, gd2, gd3⟩⟩, gk⟩ := g
      obtain ⟨⟨⟨ja1, ja2, ja3⟩, ⟨jb1, jb2, jb3⟩, ⟨jc1, jc2, jc3⟩, ⟨jd1, jd2, jd3⟩⟩, jk⟩ := j
      simp only at h1
      subst h1
      clear hrd
      simp only [m4v, M4.v, M4.none, Fr.none, Fr.v, Fr.one, Fr.nul] at kr ki kj ka kb kp ko kz ⊢
      have KR := Lib.hid kr
      have KI := Lib.hid ki
      have KJ := Lib.hid kj
      have KA := Lib.hid ka
      have KB := Lib.hid kb
      have KP := Lib.hid kp
      have KO := Lib.hid ko
      have KZ := Lib.hid kz
      clear kr ki kj ka kb kp ko kz
      have hS := Sees.refl w
      have hC := True.intro
      go_enter Tryd.func38, Tryd.ntmps38
      go_wp2_with (first | (go_at_call 60; (with_reducible refine (KR.out _).mono ?_); rintro e w1 ⟨rfl, hx⟩; replace hS := Sees.after (W := w) hx; clear hx; replace hC := hS.reads; simp only [reads_cons, reads_nil, World.size_alloc] at hC) | (go_at_call 36; (with_reducible refine (KI.out _).mono ?_); rintro e wn ⟨rfl, rfl⟩) | (go_at_call 61; (with_reducible refine (KJ.out _).mono ?_); rintro e w2 ⟨rfl, hx⟩; replace hS := Sees.after (W := w) hx; clear hx; replace hC := hS.reads; simp only [reads_cons, reads_nil, World.size_alloc] at hC))
      have hS0 := Sees.alloc (h := hS) (cs := #[.int .i64 ja1, .int .i64 ja2, .int .i64 ja3, .int .i64 jb1, .int .i64 jb2, .int .i64 jb3, .int .i64 jc1, .int .i64 jc2, .int .i64 jc3, .int .i64 jd1, .int .i64 jd2, .int .i64 jd3]) (t := 54)
      refine wp_region_new (St := Ex) (B := fun _ w' => InE _ _ w') 9 1 1 _ 54 (fun _ => 12) (fun _ => 42) (fun _ => #[.int .i64 0, .int .i64 0, .int .i64 0, .int .i64 0, .int .i64 0, .int .i64 0, .int .i64 0, .int .i64 0, .int .i64 0, .int .i64 0, .int .i64 0, .int .i64 0]) (fun _ => #[.int .i64 ga1, .int .i64 ga2, .int .i64 ga3, .int .i64 gb1, .int .i64 gb2, .int .i64 gb3, .int .i64 gc1, .int .i64 gc2, .int .i64 gc3, .int .i64 gd1, .int .i64 gd2, .int .i64 gd3]) false (by kernel_rfl) (by kernel_rfl) (InE.drew (InE.start hS0)) (fun x y h1 h2 _ => by omega) (fun x y _ _ => by decide) (fun _ _ h g cs _ hb => hb.ex h) (fun _ _ cs h => h.alloc _) (fun _ _ h => h.size) ?_
      apply lexDet_pure
      · rfl
      · intro b wb hB Q1 hQ1
        have hC := hB.sees.reads
        simp only [reads_cons, reads_nil] at hC
        go_wp2_with fail
        exact hQ1 _ (Ex.refl _) hB
      · exact ⟨_, rfl⟩
      apply lexDet_pure
      · rfl
      · intro b wb hB Q1 hQ1
        go_wp2_with (go_at_call 41; (with_reducible refine (KZ.out _).mono ?_); rintro e wn ⟨rfl, hx⟩)
        exact hQ1 _ hx (hB.go hx)
      · exact ⟨_, rfl⟩
      apply lexDet_pure
      · rfl
      · intro b wb hB Q1 hQ1
        go_wp2_with fail
        exact hQ1 _ (Ex.refl _) hB
      · exact ⟨_, rfl⟩
      apply lexDet_pure
      · rfl
      · intro b wb hB Q1 hQ1
        go_wp2_with (go_at_call 41; (with_reducible refine (KP.out _).mono ?_); rintro e wn ⟨rfl, hx⟩)
        exact hQ1 _ hx (hB.go hx)
      · exact ⟨_, rfl⟩
      apply lexDet_pure
      · rfl
      · intro b wb hB Q1 hQ1
        go_wp2_with (go_at_call 63; (with_reducible refine (KO.out _).mono ?_); rintro e wn ⟨rfl, hx⟩)
        exact hQ1 _ hx (hB.go hx)
      · exact ⟨_, rfl⟩
      apply lexDet_pure
      · rfl
      · intro b wb hB Q1 hQ1
        go_wp2_with (go_at_call 62; (with_reducible refine (KA.out _).mono ?_); rintro e wn ⟨rfl, hx⟩)
        exact hQ1 _ hx (hB.go hx)
      · exact ⟨_, rfl⟩
      apply lexDet_pure
      · rfl
      · intro b wb hB Q1 hQ1
        go_wp2_with fail
        exact hQ1 _ (Ex.refl _) hB
      · exact ⟨_, rfl⟩
      apply lexDet_pure
      · rfl
      · intro b wb hB Q1 hQ1
        go_wp2_with fail
        exact hQ1 _ (Ex.refl _) hB
      · exact ⟨_, rfl⟩
      apply lexDet_pure
      · rfl
      · intro b wb hB Q1 hQ1
        go_wp2_with fail
        exact hQ1 _ (Ex.refl _) hB
      · exact ⟨_, rfl⟩
      refine lexDet_zero ?_
      refine ⟨fun i hi => ?_, fun i hi => ?_, fun i hi => ?_, fun gg wz hz hbx hne => ?_⟩
      · obtain rfl : i = 0 := by omega
        all_goals exact ⟨_, rfl, makes_Mat⟩
      · obtain rfl : i = 0 := by omega
        all_goals exact ⟨_, rfl, fillsB_row info_Mat rfl (by kernel_rfl) (fun _ _ _ hg h => h.setRow hg _)⟩
      · obtain rfl : i = 0 := by omega
        · exact (show (12 : Nat) < 58 by decide)
      obtain ⟨hg0, hb0⟩ := hbx 0 (by omega)
      replace hS := InE.join hS0 hz
      replace hS := Sees.put hS hb0
      simp only [frN, Act.put, List.setIfInBounds_toArray, List.set_cons_zero, List.set_cons_succ, Nat.reduceAdd, List.drop_succ_cons, List.drop_zero]
      generalize gg 0 = g0 at *
      clear hbx hz hS0 hne
      replace hC := hS.reads
      simp only [reads_cons, reads_nil] at hC
      have z0 := hS.ex.size
      rcases gk with _ | _
      all_goals rcases tk with _ | _
      all_goals
        go_wp2_with (first | (go_at_call 62; (with_reducible refine (KB.out _).mono ?_); rintro e w4 ⟨rfl, hx⟩; replace hS := Sees.after (W := w) hx; clear hx; replace hC := hS.reads; simp only [reads_cons, reads_nil, World.size_alloc] at hC))
        refine bodyPost_ret ?_ rfl ⟨rfl, ?_⟩
        · simp [results, Tryd.results38, go_sem, hC]
        · repeat' (with_reducible first | exact hS.ex | exact Ex.refl _ | assumption | refine Ex.alloc ?_ _ | refine Ex.drewN ?_ _ | refine Ex.drew ?_ | refine Ex.setCell ?_ (by simp <;> omega) _)
end Go.Proofs.YtmmjkchjgeklnaaDoor
