/-
  Walks: rotators, filters, phases, the reference's.
-/
import Derived.Test.YtmmjkchjgeklnaaDoorMatD
import Derived.Deep.RegionHeld3
namespace Go.Proofs.YtmmjkchjgeklnaaDoor
open Go.RowKit

theorem dir_ok {p q : Int} (h : dirOk p q = true) : (dirC p q).valid = true ∧ (dirS p q).valid = true ∧ (dirC p q).im = 0 ∧ (dirS p q).im = 0 := by
  unfold dirOk at h
  simp only [Bool.and_eq_true] at h
  obtain ⟨b1, b2, b3⟩ := dir_bd h.1.1 h.1.2
  have hn := dir_pos (p := p) (q := q) (by
    have h2 := h.2
    rcases hh : (decide (p = 0) && decide (q = 0)) with _ | _
    · rfl
    · rw [hh] at h2; cases h2)
  have e4 : 2 * p * q = 2 * (p * q) := Int.mul_assoc _ _ _
  refine ⟨flow_ok hn (flow_small (by omega) (by omega) (by omega)), flow_ok hn (flow_small (by rw [e4]; omega) (by omega) (by omega)), flow_im0, flow_im0⟩
theorem mrot_flag (p q : Int) : (mrot p q).2 = dirOk p q := by
  unfold mrot
  split
  · rename_i h; exact h.symm
  · rename_i h; simp only [Bool.not_eq_true] at h; exact h.symm

set_option maxHeartbeats 400000 in
theorem sJonesValid (x y : Fr) (w : World) : Calls Tryd.prog 67 #[jvv x y] w (fun e w' => e = .returned (.bool (x.valid && y.valid)) ∧ Ex w w') := by
  obtain ⟨x1, x2, x3⟩ := x
  obtain ⟨y1, y2, y3⟩ := y
  show Calls _ _ #[.agg #[.int .i64 x1, .int .i64 x2, .int .i64 x3, .int .i64 y1, .int .i64 y2, .int .i64 y3]] _ fun e w' => e = .returned (.bool (fvalid x1 x2 x3 && fvalid y1 y2 y3)) ∧ Ex w w'
  have k1 := fun w => sFracValid x1 x2 x3 w
  have k2 := fun w => sFracValid y1 y2 y3 w
  generalize fvalid x1 x2 x3 = vx at *
  generalize fvalid y1 y2 y3 = vy at *
  rcases vx with _ | _
  · have K1 := Lib.hid k1
    have K2 := Lib.hid k2
    clear k1 k2
    have hS := Sees.refl w
    have hC := True.intro
    go_enter Tryd.func67, Tryd.ntmps67
    go_wp2_with ((go_at_call 81; (first | (with_reducible refine (K1.out _).mono ?_) | (with_reducible refine (K2.out _).mono ?_)); rintro e wn ⟨rfl, hx⟩; replace hS := Sees.after (W := w) hx; clear hx; replace hC := hS.reads; simp only [reads_cons, reads_nil, World.size_alloc] at hC))
    go_ret
    refine ⟨ret_bool (by simp), ?_⟩
    repeat' (with_reducible first | exact hS.ex | exact Ex.refl _ | assumption | refine Ex.alloc ?_ _ | refine Ex.drewN ?_ _ | refine Ex.drew ?_ | refine Ex.setCell ?_ (by simp <;> omega) _)
  · have K1 := Lib.hid k1
    have K2 := Lib.hid k2
    clear k1 k2
    have hS := Sees.refl w
    have hC := True.intro
    go_enter Tryd.func67, Tryd.ntmps67
    go_wp2_with ((go_at_call 81; (first | (with_reducible refine (K1.out _).mono ?_) | (with_reducible refine (K2.out _).mono ?_)); rintro e wn ⟨rfl, hx⟩; replace hS := Sees.after (W := w) hx; clear hx; replace hC := hS.reads; simp only [reads_cons, reads_nil, World.size_alloc] at hC))
    go_ret
    refine ⟨ret_bool (by simp), ?_⟩
    repeat' (with_reducible first | exact hS.ex | exact Ex.refl _ | assumption | refine Ex.alloc ?_ _ | refine Ex.drewN ?_ _ | refine Ex.drew ?_ | refine Ex.setCell ?_ (by simp <;> omega) _)
set_option maxHeartbeats 400000 in
theorem iJonesValid (x y : Fr) (w : World) : Calls Tryd.prog 52 #[jvv x y] w (fun e w' => e = .returned (.bool (x.valid && y.valid)) ∧ Ex w w') := by
  obtain ⟨x1, x2, x3⟩ := x
  obtain ⟨y1, y2, y3⟩ := y
  show Calls _ _ #[.agg #[.int .i64 x1, .int .i64 x2, .int .i64 x3, .int .i64 y1, .int .i64 y2, .int .i64 y3]] _ fun e w' => e = .returned (.bool (fvalid x1 x2 x3 && fvalid y1 y2 y3)) ∧ Ex w w'
  have k1 := fun w => iFracValid x1 x2 x3 w
  have k2 := fun w => iFracValid y1 y2 y3 w
  generalize fvalid x1 x2 x3 = vx at *
  generalize fvalid y1 y2 y3 = vy at *
  rcases vx with _ | _
  · have K1 := Lib.hid k1
    have K2 := Lib.hid k2
    clear k1 k2
    have hS := Sees.refl w
    have hC := True.intro
    go_enter Tryd.func52, Tryd.ntmps52
    go_wp2_with ((go_at_call 77; (first | (with_reducible refine (K1.out _).mono ?_) | (with_reducible refine (K2.out _).mono ?_)); rintro e wn ⟨rfl, hx⟩; replace hS := Sees.after (W := w) hx; clear hx; replace hC := hS.reads; simp only [reads_cons, reads_nil, World.size_alloc] at hC))
    go_ret
    refine ⟨ret_bool (by simp), ?_⟩
    repeat' (with_reducible first | exact hS.ex | exact Ex.refl _ | assumption | refine Ex.alloc ?_ _ | refine Ex.drewN ?_ _ | refine Ex.drew ?_ | refine Ex.setCell ?_ (by simp <;> omega) _)
  · have K1 := Lib.hid k1
    have K2 := Lib.hid k2
    clear k1 k2
    have hS := Sees.refl w
    have hC := True.intro
    go_enter Tryd.func52, Tryd.ntmps52
    go_wp2_with ((go_at_call 77; (first | (with_reducible refine (K1.out _).mono ?_) | (with_reducible refine (K2.out _).mono ?_)); rintro e wn ⟨rfl, hx⟩; replace hS := Sees.after (W := w) hx; clear hx; replace hC := hS.reads; simp only [reads_cons, reads_nil, World.size_alloc] at hC))
    go_ret
    refine ⟨ret_bool (by simp), ?_⟩
    repeat' (with_reducible first | exact hS.ex | exact Ex.refl _ | assumption | refine Ex.alloc ?_ _ | refine Ex.drewN ?_ _ | refine Ex.drew ?_ | refine Ex.setCell ?_ (by simp <;> omega) _)
set_option maxRecDepth 4000 in
set_option maxHeartbeats 1000000 in
theorem sl5One (a b : Fr) (w : World) : Calls Tryd.prog 63 #[a.v, b.v] w (fun e w' => e = .returned (M4.v ⟨a, Fr.nul, Fr.nul, b⟩) ∧ Ex w w') := by
  obtain ⟨a1, a2, a3⟩ := a
  obtain ⟨b1, b2, b3⟩ := b
  simp only [Fr.v, M4.v, Fr.nul]
  have hS := Sees.refl w
  have hC := True.intro
  go_enter Tryd.func63, Tryd.ntmps63
  go_wp2
  refine bodyPost_ret ?_ rfl ⟨rfl, ?_⟩
  · simp [results, Tryd.results63, go_sem, hC]
  · repeat' (with_reducible first | exact hS.ex | exact Ex.refl _ | assumption | refine Ex.alloc ?_ _ | refine Ex.drewN ?_ _ | refine Ex.drew ?_ | refine Ex.setCell ?_ (by simp <;> omega) _)
set_option maxHeartbeats 400000 in
theorem sl5Phase (k : Int) (h0 : 0 ≤ k) (h3 : k ≤ 3) (w : World) : Calls Tryd.prog 41 #[.int .i64 k] w (fun e w' => e = .returned ((phase k).v) ∧ Ex w w') := by
  obtain rfl | rfl | rfl | rfl : k = 0 ∨ k = 1 ∨ k = 2 ∨ k = 3 := by omega
  all_goals
    simp only [phase, Fr.v]
    try simp only [if_true, Int.one_ne_zero, if_false, show ¬ ((2 : Int) = 0) by decide, show ¬ ((2 : Int) = 1) by decide, show ¬ ((3 : Int) = 0) by decide, show ¬ ((3 : Int) = 1) by decide, show ¬ ((3 : Int) = 2) by decide]
    have hS := Sees.refl w
    have hC := True.intro
    go_enter Tryd.func41, Tryd.ntmps41
    go_wp2
    refine bodyPost_ret ?_ rfl ⟨rfl, ?_⟩
    · simp [results, Tryd.results41, go_sem, hC]
    · repeat' (with_reducible first | exact hS.ex | exact Ex.refl _ | assumption | refine Ex.alloc ?_ _ | refine Ex.drewN ?_ _ | refine Ex.drew ?_ | refine Ex.setCell ?_ (by simp <;> omega) _)
set_option maxRecDepth 4000 in
set_option maxHeartbeats 1000000 in
theorem sMatRotator (p q : Int) (w : World) : Calls Tryd.prog 60 #[.int .i64 p, .int .i64 q] w (fun e w' => e = .returned (m4v (mrot p q)) ∧ Ex w w') := by
  have kd := fun w => sl5Direction p q w
  rcases h : dirOk p q with _ | _
  · have e : mrot p q = (M4.none, false) := by simp [mrot, h]
    rw [e]
    simp only [dirv, h, Bool.false_eq_true, if_false, Fr.none, Fr.v] at kd
    simp only [m4v, M4.v, M4.none, Fr.none]
    clear e h
    have KD := Lib.hid kd
    clear kd
    have hS := Sees.refl w
    have hC := True.intro
    go_enter Tryd.func60, Tryd.ntmps60
    go_wp2_with ((first | (go_at_call 18; (with_reducible refine (KD.out _).mono ?_); rintro e wn ⟨rfl, hx⟩; replace hS := Sees.after (W := w) hx; clear hx; replace hC := hS.reads; simp only [reads_cons, reads_nil, World.size_alloc] at hC) | (go_at_call 65; (first | (with_reducible refine (sl5Four_true _ _ _ _ _ _ _ _ _ _ _ _ _).mono ?_) | (with_reducible refine (sl5Four_false _ _ _ _ _ _ _ _ _ _ _ _ _).mono ?_)); rintro e wn ⟨rfl, hx⟩; replace hS := Sees.after (W := w) hx; clear hx; replace hC := hS.reads; simp only [reads_cons, reads_nil, World.size_alloc] at hC)))
    refine bodyPost_ret ?_ rfl ⟨rfl, ?_⟩
    · simp [results, Tryd.results60, go_sem, hC]
    · repeat' (with_reducible first | exact hS.ex | exact Ex.refl _ | assumption | refine Ex.alloc ?_ _ | refine Ex.drewN ?_ _ | refine Ex.drew ?_ | refine Ex.setCell ?_ (by simp <;> omega) _)
  · have e : mrot p q = (⟨dirC p q, fneg (dirS p q), dirS p q, dirC p q⟩, true) := by simp [mrot, h]
    rw [e]
    simp only [dirv, h, if_true] at kd
    obtain ⟨-, v2, -, i2⟩ := dir_ok h
    generalize dirC p q = c at *
    generalize dirS p q = s at *
    obtain ⟨c1, c2, c3⟩ := c
    obtain ⟨s1, s2, s3⟩ := s
    simp only at i2
    subst i2
    obtain ⟨q1, -, -, -⟩ := Fr.valid_out v2
    simp only at q1
    have w1 := IntWalk.i64_in (-s1) (by omega)
    simp only [Fr.v] at kd
    simp only [m4v, M4.v, fneg, Int.neg_zero]
    clear e h v2
    have KD := Lib.hid kd
    clear kd
    have hS := Sees.refl w
    have hC := True.intro
    go_enter Tryd.func60, Tryd.ntmps60
    go_wp2_with ((first | (go_at_call 18; (with_reducible refine (KD.out _).mono ?_); rintro e wn ⟨rfl, hx⟩; replace hS := Sees.after (W := w) hx; clear hx; replace hC := hS.reads; simp only [reads_cons, reads_nil, World.size_alloc] at hC) | (go_at_call 65; (first | (with_reducible refine (sl5Four_true _ _ _ _ _ _ _ _ _ _ _ _ _).mono ?_) | (with_reducible refine (sl5Four_false _ _ _ _ _ _ _ _ _ _ _ _ _).mono ?_)); rintro e wn ⟨rfl, hx⟩; replace hS := Sees.after (W := w) hx; clear hx; replace hC := hS.reads; simp only [reads_cons, reads_nil, World.size_alloc] at hC)))
    refine bodyPost_ret ?_ rfl ⟨rfl, ?_⟩
    · simp [results, Tryd.results60, go_sem, hC]
    · repeat' (with_reducible first | exact hS.ex | exact Ex.refl _ | assumption | refine Ex.alloc ?_ _ | refine Ex.drewN ?_ _ | refine Ex.drew ?_ | refine Ex.setCell ?_ (by simp <;> omega) _)
set_option maxRecDepth 4000 in
set_option maxHeartbeats 1000000 in
theorem sMatFilter (p q : Int) (w : World) : Calls Tryd.prog 39 #[.int .i64 p, .int .i64 q] w (fun e w' => e = .returned (m4v (mfilter p q)) ∧ Ex w w') := by
  have kd := fun w => sl5Direction p q w
  rcases h : dirOk p q with _ | _
  · have e : mfilter p q = (M4.none, false) := by simp [mfilter, h]
    rw [e]
    simp only [dirv, h, Bool.false_eq_true, if_false, Fr.none, Fr.v] at kd
    simp only [m4v, M4.v, M4.none, Fr.none]
    clear e h
    have KD := Lib.hid kd
    clear kd
    have hS := Sees.refl w
    have hC := True.intro
    go_enter Tryd.func39, Tryd.ntmps39
    go_wp2_with ((go_at_call 18; (with_reducible refine (KD.out _).mono ?_); rintro e wn ⟨rfl, hx⟩; replace hS := Sees.after (W := w) hx; clear hx; replace hC := hS.reads; simp only [reads_cons, reads_nil, World.size_alloc] at hC))
    refine bodyPost_ret ?_ rfl ⟨rfl, ?_⟩
    · simp [results, Tryd.results39, go_sem, hC]
    · repeat' (with_reducible first | exact hS.ex | exact Ex.refl _ | assumption | refine Ex.alloc ?_ _ | refine Ex.drewN ?_ _ | refine Ex.drew ?_ | refine Ex.setCell ?_ (by simp <;> omega) _)
  · have e : mfilter p q = four (ftimes (dirC p q) (dirC p q)) (ftimes (dirC p q) (dirS p q)) (ftimes (dirC p q) (dirS p q)) (ftimes (dirS p q) (dirS p q)) true := by simp [mfilter, h]
    rw [e]
    unfold four
    simp only [dirv, h, if_true] at kd
    clear e h
    have k1 := fun w => FrGot.opn (sFracTimes (dirC p q) (dirC p q) w)
    have k2 := fun w => FrGot.opn (sFracTimes (dirC p q) (dirS p q) w)
    have k3 := fun w => FrGot.opn (sFracTimes (dirS p q) (dirS p q) w)
    generalize ftimes (dirC p q) (dirC p q) = a at *
    generalize ftimes (dirC p q) (dirS p q) = b at *
    generalize ftimes (dirS p q) (dirS p q) = d at *
    generalize dirC p q = c at *
    generalize dirS p q = s at *
    obtain ⟨c1, c2, c3⟩ := c
    obtain ⟨s1, s2, s3⟩ := s
    obtain ⟨⟨a1, a2, a3⟩, ak⟩ := a
    obtain ⟨⟨b1, b2, b3⟩, bk⟩ := b
    obtain ⟨⟨d1, d2, d3⟩, dk⟩ := d
    simp only [frv, Fr.v] at kd k1 k2 k3
    simp only [m4v, M4.v, M4.none, Fr.none]
    rcases dk with _ | _
    · try simp only [Bool.and_false, Bool.and_true, Bool.true_and, Bool.false_eq_true, if_false]
      have KD := Lib.hid kd
      have K1 := Lib.hid k1
      have K2 := Lib.hid k2
      have K3 := Lib.hid k3
      clear kd k1 k2 k3
      have hS := Sees.refl w
      have hC := True.intro
      go_enter Tryd.func39, Tryd.ntmps39
      go_wp2_with ((first | (go_at_call 18; (with_reducible refine (KD.out _).mono ?_); rintro e wn ⟨rfl, hx⟩; replace hS := Sees.after (W := w) hx; clear hx; replace hC := hS.reads; simp only [reads_cons, reads_nil, World.size_alloc] at hC) | (go_at_call 64; (first | (with_reducible refine (K1.out _).mono ?_) | (with_reducible refine (K2.out _).mono ?_) | (with_reducible refine (K3.out _).mono ?_)); rintro e wn ⟨rfl, hx⟩; replace hS := Sees.after (W := w) hx; clear hx; replace hC := hS.reads; simp only [reads_cons, reads_nil, World.size_alloc] at hC) | (go_at_call 65; (first | (with_reducible refine (sl5Four_true _ _ _ _ _ _ _ _ _ _ _ _ _).mono ?_) | (with_reducible refine (sl5Four_false _ _ _ _ _ _ _ _ _ _ _ _ _).mono ?_)); rintro e wn ⟨rfl, hx⟩; replace hS := Sees.after (W := w) hx; clear hx; replace hC := hS.reads; simp only [reads_cons, reads_nil, World.size_alloc] at hC)))
      all_goals
        refine bodyPost_ret ?_ rfl ⟨rfl, ?_⟩
        · simp [results, Tryd.results39, go_sem, hC, *]
        · repeat' (with_reducible first | exact hS.ex | exact Ex.refl _ | assumption | refine Ex.alloc ?_ _ | refine Ex.drewN ?_ _ | refine Ex.drew ?_ | refine Ex.setCell ?_ (by simp <;> omega) _)
    · try simp only [Bool.and_false, Bool.and_true, Bool.true_and, Bool.false_eq_true, if_false]
      have KD := Lib.hid kd
      have K1 := Lib.hid k1
      have K2 := Lib.hid k2
      have K3 := Lib.hid k3
      clear kd k1 k2 k3
      have hS := Sees.refl w
      have hC := True.intro
      go_enter Tryd.func39, Tryd.ntmps39
      go_wp2_with ((first | (go_at_call 18; (with_reducible refine (KD.out _).mono ?_); rintro e wn ⟨rfl, hx⟩; replace hS := Sees.after (W := w) hx; clear hx; replace hC := hS.reads; simp only [reads_cons, reads_nil, World.size_alloc] at hC) | (go_at_call 64; (first | (with_reducible refine (K1.out _).mono ?_) | (with_reducible refine (K2.out _).mono ?_) | (with_reducible refine (K3.out _).mono ?_)); rintro e wn ⟨rfl, hx⟩; replace hS := Sees.after (W := w) hx; clear hx; replace hC := hS.reads; simp only [reads_cons, reads_nil, World.size_alloc] at hC) | (go_at_call 65; (first | (with_reducible refine (sl5Four_true _ _ _ _ _ _ _ _ _ _ _ _ _).mono ?_) | (with_reducible refine (sl5Four_false _ _ _ _ _ _ _ _ _ _ _ _ _).mono ?_)); rintro e wn ⟨rfl, hx⟩; replace hS := Sees.after (W := w) hx; clear hx; replace hC := hS.reads; simp only [reads_cons, reads_nil, World.size_alloc] at hC)))
      all_goals
        refine bodyPost_ret ?_ rfl ⟨rfl, ?_⟩
        · simp [results, Tryd.results39, go_sem, hC, *]
        · repeat' (with_reducible first | exact hS.ex | exact Ex.refl _ | assumption | refine Ex.alloc ?_ _ | refine Ex.drewN ?_ _ | refine Ex.drew ?_ | refine Ex.setCell ?_ (by simp <;> omega) _)
end Go.Proofs.YtmmjkchjgeklnaaDoor
