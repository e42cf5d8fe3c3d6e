/-
  Walks: quotients of fractions, the program's.
-/
import Derived.Test.YtgkekdiffgmllaaDoorFrcL
import Derived.Test.YtgkekdiffgmllaaDoorFrcO
import Derived.Test.YtgkekdiffgmllaaDoorFrcY
import Derived.Test.YtgkekdiffgmllaaDoorGlob
import Derived.Laws.StructEq
namespace Go.Proofs.YtgkekdiffgmllaaDoor
open Go.RowKit

theorem fover_no1 {a b : Fr} (h : a.valid = false) : fover a b = (Fr.none, false) := by simp [fover, h]
theorem fover_no2 {a b : Fr} (h : b.valid = false) : fover a b = (Fr.none, false) := by simp [fover, h]
theorem fover_no3 {a b : Fr} (h : fnul b = true) : fover a b = (Fr.none, false) := by simp [fover, h]
theorem fover_no4 {a b : Fr} (h : (fturn b).2 = false) : fover a b = (Fr.none, false) := by
  unfold fover
  split
  · rw [h]; rfl
  · rfl
theorem fover_ok {a b : Fr} (h1 : a.valid = true) (h2 : b.valid = true) (h3 : fnul b = false) (h4 : (fturn b).2 = true) : fover a b = ftimes a (fturn b).1 := by simp [fover, h1, h2, h3, h4]
/-- A zero in lowest terms has bottom 1. -/
theorem nul_one {b : Fr} (h : b.valid = true) (h3 : fnul b = true) : b = ⟨0, 0, 1⟩ := by
  obtain ⟨-, -, h4, h5⟩ := Fr.valid_out h
  obtain ⟨b1, b2, b3⟩ := b
  simp only [fnul, Bool.and_eq_true, decide_eq_true_eq] at h3
  obtain ⟨rfl, rfl⟩ := h3
  simp only at h4 h5
  unfold gcd3 at h5
  simp at h5
  have : b3 = 1 := by omega
  rw [this]
def JvGot (w : World) (r : (Fr × Fr) × Bool) : Ending → World → Prop := fun e w' => e = .returned (.tuple #[.agg #[.int .i64 r.1.1.re, .int .i64 r.1.1.im, .int .i64 r.1.1.den, .int .i64 r.1.2.re, .int .i64 r.1.2.im, .int .i64 r.1.2.den], .bool r.2]) ∧ Ex w w'
set_option maxHeartbeats 1000000 in
theorem iFracOver (a b : Fr) (w : World) [hG : Glob w] : Calls Tryd.prog 13 #[a.v, b.v] w (FrGot w (fover a b)) := by
  have k1 := fun w => iFracValid a.re a.im a.den w
  have k2 := fun w => iFracValid b.re b.im b.den w
  rcases h1 : a.valid with _ | _
  · rw [fover_no1 h1]
    unfold Fr.valid at h1
    simp only [h1] at k1
    clear h1 k2
    have K1 := Lib.hid k1
    clear k1
    obtain ⟨a1, a2, a3⟩ := a
    obtain ⟨b1, b2, b3⟩ := b
    show Calls _ _ #[.agg #[.int .i64 a1, .int .i64 a2, .int .i64 a3], .agg #[.int .i64 b1, .int .i64 b2, .int .i64 b3]] _ _
    have hS := Sees.refl w
    have hC := True.intro
    have hg := hG.reads
    go_enter Tryd.func13, Tryd.ntmps13
    go_wp2_with ((go_at_call 16; (with_reducible refine (K1.out _).mono ?_); rintro e wn ⟨rfl, hx⟩; replace hS := Sees.after (W := w) hx; replace hG := Glob.after hx; clear hx; replace hC := hS.reads; simp only [reads_cons, reads_nil, World.size_alloc] at hC; replace hg := hG.reads))
    refine bodyPost_ret (v := frv (Fr.none, false)) ?_ rfl ⟨rfl, ?_⟩
    · simp [results, Tryd.results13, go_sem, hC, frv, Fr.v, Fr.none]
    · repeat' (with_reducible first | exact hS.ex | exact Ex.refl _ | assumption | refine Ex.alloc ?_ _ | refine Ex.drewN ?_ _ | refine Ex.drew ?_ | refine Ex.setCell ?_ (by simp <;> omega) _)
  · rcases h2 : b.valid with _ | _
    · rw [fover_no2 h2]
      unfold Fr.valid at h1 h2
      simp only [h1] at k1
      simp only [h2] at k2
      clear h1 h2
      have K1 := Lib.hid k1
      have K2 := Lib.hid k2
      clear k1 k2
      obtain ⟨a1, a2, a3⟩ := a
      obtain ⟨b1, b2, b3⟩ := b
      show Calls _ _ #[.agg #[.int .i64 a1, .int .i64 a2, .int .i64 a3], .agg #[.int .i64 b1, .int .i64 b2, .int .i64 b3]] _ _
      have hS := Sees.refl w
      have hC := True.intro
      have hg := hG.reads
      go_enter Tryd.func13, Tryd.ntmps13
      go_wp2_with ((go_at_call 16; (first | (with_reducible refine (K1.out _).mono ?_) | (with_reducible refine (K2.out _).mono ?_)); rintro e wn ⟨rfl, hx⟩; replace hS := Sees.after (W := w) hx; replace hG := Glob.after hx; clear hx; replace hC := hS.reads; simp only [reads_cons, reads_nil, World.size_alloc] at hC; replace hg := hG.reads))
      refine bodyPost_ret (v := frv (Fr.none, false)) ?_ rfl ⟨rfl, ?_⟩
      · simp [results, Tryd.results13, go_sem, hC, frv, Fr.v, Fr.none]
      · repeat' (with_reducible first | exact hS.ex | exact Ex.refl _ | assumption | refine Ex.alloc ?_ _ | refine Ex.drewN ?_ _ | refine Ex.drew ?_ | refine Ex.setCell ?_ (by simp <;> omega) _)
    · rcases h3 : fnul b with _ | _
      · rcases h4 : (fturn b).2 with _ | _
        · rw [fover_no4 h4]
          have hn := sq_pos h3
          obtain ⟨⟨p1, p2⟩, ⟨p3, p4⟩, ⟨p5, p6⟩, -⟩ := Fr.valid_out h2
          have m1 := mul_bd (a := b.den) (b := b.re) (by omega) (by omega)
          have m2 := mul_bd (a := -b.den) (b := b.im) (by omega) (by omega)
          have m3 := mul_bd (a := b.re) (b := b.re) (by omega) (by omega)
          have m4 := mul_bd (a := b.im) (b := b.im) (by omega) (by omega)
          have kl := fun w => lowest_any (b.den * b.re) (-b.den * b.im) (b.re * b.re + b.im * b.im) w (by omega) (by omega) (by omega)
          change ∀ w, Calls _ _ _ w (FrGot w (fturn b)) at kl
          have w1 := IntWalk.i64_in (-b.den) (by omega)
          have hne : (b.re == 0 && b.im == 0) = false := by unfold fnul at h3; simpa using h3
          generalize fturn b = t at kl h4
          obtain ⟨⟨t1, t2, t3⟩, tk⟩ := t
          simp only at h4
          subst h4
          replace kl := fun w => FrGot.spell (kl w)
          unfold Fr.valid at h1 h2
          simp only [h1] at k1
          simp only [h2] at k2
          unfold fnul at h3
          clear h1 h2 hn hne
          obtain ⟨a1, a2, a3⟩ := a
          obtain ⟨b1, b2, b3⟩ := b
          simp only at *
          show Calls _ _ #[.agg #[.int .i64 a1, .int .i64 a2, .int .i64 a3], .agg #[.int .i64 b1, .int .i64 b2, .int .i64 b3]] _ _
          by_cases hb : b1 = 0
          · subst hb
            have hb2 : (b2 == 0) = false := by simpa using h3
            clear h3 m3
            simp only [Int.mul_zero, Int.zero_add] at kl m1
            generalize ex2 : -b3 * b2 = x2 at *
            generalize ex4 : b2 * b2 = x4 at *
            have K1 := Lib.hid k1
            have K2 := Lib.hid k2
            have KL := Lib.hid kl
            clear k1 k2 kl
            have hS := Sees.refl w
            have hC := True.intro
            have hg := hG.reads
            go_enter Tryd.func13, Tryd.ntmps13
            go_wp2_with ((first | (go_at_call 16; (first | (with_reducible refine (K1.out _).mono ?_) | (with_reducible refine (K2.out _).mono ?_)); rintro e wn ⟨rfl, hx⟩; replace hS := Sees.after (W := w) hx; replace hG := Glob.after hx; clear hx; replace hC := hS.reads; simp only [reads_cons, reads_nil, World.size_alloc] at hC; replace hg := hG.reads) | (go_at_call 17; (with_reducible refine (KL.out _).mono ?_); rintro e wn ⟨rfl, hx⟩; replace hS := Sees.after (W := w) hx; replace hG := Glob.after hx; clear hx; replace hC := hS.reads; simp only [reads_cons, reads_nil, World.size_alloc] at hC; replace hg := hG.reads)))
            refine bodyPost_ret (v := frv (Fr.none, false)) ?_ rfl ⟨rfl, ?_⟩
            · simp [results, Tryd.results13, go_sem, hC, frv, Fr.v, Fr.none]
            · repeat' (with_reducible first | exact hS.ex | exact Ex.refl _ | assumption | refine Ex.alloc ?_ _ | refine Ex.drewN ?_ _ | refine Ex.drew ?_ | refine Ex.setCell ?_ (by simp <;> omega) _)
          · have hb2 : (b1 == 0) = false := by simpa using hb
            clear h3 hb
            generalize ex1 : b3 * b1 = x1 at *
            generalize ex2 : -b3 * b2 = x2 at *
            generalize ex3 : b1 * b1 = x3 at *
            generalize ex4 : b2 * b2 = x4 at *
            have K1 := Lib.hid k1
            have K2 := Lib.hid k2
            have KL := Lib.hid kl
            clear k1 k2 kl
            have hS := Sees.refl w
            have hC := True.intro
            have hg := hG.reads
            go_enter Tryd.func13, Tryd.ntmps13
            go_wp2_with ((first | (go_at_call 16; (first | (with_reducible refine (K1.out _).mono ?_) | (with_reducible refine (K2.out _).mono ?_)); rintro e wn ⟨rfl, hx⟩; replace hS := Sees.after (W := w) hx; replace hG := Glob.after hx; clear hx; replace hC := hS.reads; simp only [reads_cons, reads_nil, World.size_alloc] at hC; replace hg := hG.reads) | (go_at_call 17; (with_reducible refine (KL.out _).mono ?_); rintro e wn ⟨rfl, hx⟩; replace hS := Sees.after (W := w) hx; replace hG := Glob.after hx; clear hx; replace hC := hS.reads; simp only [reads_cons, reads_nil, World.size_alloc] at hC; replace hg := hG.reads)))
            refine bodyPost_ret (v := frv (Fr.none, false)) ?_ rfl ⟨rfl, ?_⟩
            · simp [results, Tryd.results13, go_sem, hC, frv, Fr.v, Fr.none]
            · repeat' (with_reducible first | exact hS.ex | exact Ex.refl _ | assumption | refine Ex.alloc ?_ _ | refine Ex.drewN ?_ _ | refine Ex.drew ?_ | refine Ex.setCell ?_ (by simp <;> omega) _)
        · rw [fover_ok h1 h2 h3 h4]
          have hn := sq_pos h3
          obtain ⟨⟨p1, p2⟩, ⟨p3, p4⟩, ⟨p5, p6⟩, -⟩ := Fr.valid_out h2
          have m1 := mul_bd (a := b.den) (b := b.re) (by omega) (by omega)
          have m2 := mul_bd (a := -b.den) (b := b.im) (by omega) (by omega)
          have m3 := mul_bd (a := b.re) (b := b.re) (by omega) (by omega)
          have m4 := mul_bd (a := b.im) (b := b.im) (by omega) (by omega)
          have kl := fun w => lowest_any (b.den * b.re) (-b.den * b.im) (b.re * b.re + b.im * b.im) w (by omega) (by omega) (by omega)
          change ∀ w, Calls _ _ _ w (FrGot w (fturn b)) at kl
          have w1 := IntWalk.i64_in (-b.den) (by omega)
          have hne : (b.re == 0 && b.im == 0) = false := by unfold fnul at h3; simpa using h3
          have kt := fun w => iFracTimes a (fturn b).1 w
          generalize ftimes a (fturn b).1 = u at kt ⊢
          generalize fturn b = t at kl h4 kt
          obtain ⟨⟨t1, t2, t3⟩, tk⟩ := t
          simp only at h4
          subst h4
          replace kl := fun w => FrGot.spell (kl w)
          obtain ⟨⟨u1, u2, u3⟩, uk⟩ := u
          replace kt := fun w => FrGot.spell (kt w)
          unfold Fr.valid at h1 h2
          simp only [h1] at k1
          simp only [h2] at k2
          unfold fnul at h3
          clear h1 h2 hn hne
          obtain ⟨a1, a2, a3⟩ := a
          obtain ⟨b1, b2, b3⟩ := b
          simp only at *
          show Calls _ _ #[.agg #[.int .i64 a1, .int .i64 a2, .int .i64 a3], .agg #[.int .i64 b1, .int .i64 b2, .int .i64 b3]] _ _
          have KT : Hid (∀ w, Calls Tryd.prog 8 #[.agg #[.int .i64 a1, .int .i64 a2, .int .i64 a3], .agg #[.int .i64 t1, .int .i64 t2, .int .i64 t3]] w fun e w' => e = .returned (.tuple #[.agg #[.int .i64 u1, .int .i64 u2, .int .i64 u3], .bool uk]) ∧ Ex w w') := kt
          clear kt
          by_cases hb : b1 = 0
          · subst hb
            have hb2 : (b2 == 0) = false := by simpa using h3
            clear h3 m3
            simp only [Int.mul_zero, Int.zero_add] at kl m1
            generalize ex2 : -b3 * b2 = x2 at *
            generalize ex4 : b2 * b2 = x4 at *
            have K1 := Lib.hid k1
            have K2 := Lib.hid k2
            have KL := Lib.hid kl
            clear k1 k2 kl
            have hS := Sees.refl w
            have hC := True.intro
            have hg := hG.reads
            go_enter Tryd.func13, Tryd.ntmps13
            go_wp2_with ((first | (go_at_call 16; (first | (with_reducible refine (K1.out _).mono ?_) | (with_reducible refine (K2.out _).mono ?_)); rintro e wn ⟨rfl, hx⟩; replace hS := Sees.after (W := w) hx; replace hG := Glob.after hx; clear hx; replace hC := hS.reads; simp only [reads_cons, reads_nil, World.size_alloc] at hC; replace hg := hG.reads) | (go_at_call 17; (with_reducible refine (KL.out _).mono ?_); rintro e wn ⟨rfl, hx⟩; replace hS := Sees.after (W := w) hx; replace hG := Glob.after hx; clear hx; replace hC := hS.reads; simp only [reads_cons, reads_nil, World.size_alloc] at hC; replace hg := hG.reads) | (go_at_call 8; (with_reducible refine (KT.out _).mono ?_); rintro e wn ⟨rfl, hx⟩; replace hS := Sees.after (W := w) hx; replace hG := Glob.after hx; clear hx; replace hC := hS.reads; simp only [reads_cons, reads_nil, World.size_alloc] at hC; replace hg := hG.reads)))
            refine bodyPost_ret (v := frv (⟨u1, u2, u3⟩, uk)) ?_ rfl ⟨rfl, ?_⟩
            · simp [results, Tryd.results13, go_sem, hC, frv, Fr.v, Fr.none]
            · repeat' (with_reducible first | exact hS.ex | exact Ex.refl _ | assumption | refine Ex.alloc ?_ _ | refine Ex.drewN ?_ _ | refine Ex.drew ?_ | refine Ex.setCell ?_ (by simp <;> omega) _)
          · have hb2 : (b1 == 0) = false := by simpa using hb
            clear h3 hb
            generalize ex1 : b3 * b1 = x1 at *
            generalize ex2 : -b3 * b2 = x2 at *
            generalize ex3 : b1 * b1 = x3 at *
            generalize ex4 : b2 * b2 = x4 at *
            have K1 := Lib.hid k1
            have K2 := Lib.hid k2
            have KL := Lib.hid kl
            clear k1 k2 kl
            have hS := Sees.refl w
            have hC := True.intro
            have hg := hG.reads
            go_enter Tryd.func13, Tryd.ntmps13
            go_wp2_with ((first | (go_at_call 16; (first | (with_reducible refine (K1.out _).mono ?_) | (with_reducible refine (K2.out _).mono ?_)); rintro e wn ⟨rfl, hx⟩; replace hS := Sees.after (W := w) hx; replace hG := Glob.after hx; clear hx; replace hC := hS.reads; simp only [reads_cons, reads_nil, World.size_alloc] at hC; replace hg := hG.reads) | (go_at_call 17; (with_reducible refine (KL.out _).mono ?_); rintro e wn ⟨rfl, hx⟩; replace hS := Sees.after (W := w) hx; replace hG := Glob.after hx; clear hx; replace hC := hS.reads; simp only [reads_cons, reads_nil, World.size_alloc] at hC; replace hg := hG.reads) | (go_at_call 8; (with_reducible refine (KT.out _).mono ?_); rintro e wn ⟨rfl, hx⟩; replace hS := Sees.after (W := w) hx; replace hG := Glob.after hx; clear hx; replace hC := hS.reads; simp only [reads_cons, reads_nil, World.size_alloc] at hC; replace hg := hG.reads)))
            refine bodyPost_ret (v := frv (⟨u1, u2, u3⟩, uk)) ?_ rfl ⟨rfl, ?_⟩
            · simp [results, Tryd.results13, go_sem, hC, frv, Fr.v, Fr.none]
            · repeat' (with_reducible first | exact hS.ex | exact Ex.refl _ | assumption | refine Ex.alloc ?_ _ | refine Ex.drewN ?_ _ | refine Ex.drew ?_ | refine Ex.setCell ?_ (by simp <;> omega) _)
      · rw [fover_no3 h3]
        obtain rfl := nul_one h2 h3
        unfold Fr.valid at h1
        have e2 : fvalid 0 0 1 = true := h2
        simp only [h1] at k1
        simp only [e2] at k2
        clear h1 h2 h3 e2
        have K1 := Lib.hid k1
        have K2 := Lib.hid k2
        clear k1 k2
        obtain ⟨a1, a2, a3⟩ := a
        show Calls _ _ #[.agg #[.int .i64 a1, .int .i64 a2, .int .i64 a3], .agg #[.int .i64 0, .int .i64 0, .int .i64 1]] _ _
        have hS := Sees.refl w
        have hC := True.intro
        have hg := hG.reads
        go_enter Tryd.func13, Tryd.ntmps13
        go_wp2_with ((go_at_call 16; (first | (with_reducible refine (K1.out _).mono ?_) | (with_reducible refine (K2.out _).mono ?_)); rintro e wn ⟨rfl, hx⟩; replace hS := Sees.after (W := w) hx; replace hG := Glob.after hx; clear hx; replace hC := hS.reads; simp only [reads_cons, reads_nil, World.size_alloc] at hC; replace hg := hG.reads))
        refine bodyPost_ret (v := frv (Fr.none, false)) ?_ rfl ⟨rfl, ?_⟩
        · simp [results, Tryd.results13, go_sem, hC, frv, Fr.v, Fr.none]
        · repeat' (with_reducible first | exact hS.ex | exact Ex.refl _ | assumption | refine Ex.alloc ?_ _ | refine Ex.drewN ?_ _ | refine Ex.drew ?_ | refine Ex.setCell ?_ (by simp <;> omega) _)
end Go.Proofs.YtgkekdiffgmllaaDoor
