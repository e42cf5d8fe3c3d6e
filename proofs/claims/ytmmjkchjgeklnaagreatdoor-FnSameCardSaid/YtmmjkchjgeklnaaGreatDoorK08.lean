/-
  Proved: what functions compute, part 8. No condition.
-/
import Derived.Test.YtmmjkchjgeklnaaGreatDoorK04
import Derived.Test.YtmmjkchjgeklnaaGreatDoorK06
import Derived.Test.YtmmjkchjgeklnaaGreatDoorK01
import Derived.Laws.StructEq
import Derived.Test.YtmmjkchjgeklnaaGreatDoorK07
import Derived.LoopN
set_option linter.unusedSimpArgs false
set_option linter.unusedVariables false
set_option maxRecDepth 20000
set_option maxHeartbeats 8000000
namespace Go.Proofs.YtmmjkchjgeklnaaGreatDoor
section
open Go.RowKit

theorem Kl {a b : Fr} (h : a.valid = false) : Ud a b = (Fr.none, false) := by simp [Ud, h]
theorem fover_no2 {a b : Fr} (h : b.valid = false) : Ud a b = (Fr.none, false) := by simp [Ud, h]
theorem fover_no3 {a b : Fr} (h : Kq b = true) : Ud a b = (Fr.none, false) := by simp [Ud, h]
theorem fover_no4 {a b : Fr} (h : (Qj b).2 = false) : Ud a b = (Fr.none, false) := by
 unfold Ud
 split
 ·rw [h]; rfl
 ·rfl
theorem fover_ok {a b : Fr} (h1 : a.valid = true) (h2 : b.valid = true) (h3 : Kq b = false) (h4 : (Qj b).2 = true) : Ud a b = Zs a (Qj b).1 := by simp [Ud, h1, h2, h3, h4]
theorem nul_one {b : Fr} (h : b.valid = true) (h3 : Kq b = true) : b = ⟨0, 0, 1⟩ := by
 obtain ⟨-, -, h4, h5⟩ := Fr.valid_out h
 obtain ⟨b1, b2, b3⟩ := b
 simp only [Kq, Bool.and_eq_true, decide_eq_true_eq] at h3
 obtain ⟨rfl, rfl⟩ := h3
 simp only at h4 h5
 unfold Ww at h5
 simp at h5
 have : b3 = 1 := by omega
 rw [this]
def JvGot (w : World) (r : (Fr × Fr) × Bool) : Ending → World → Prop := fun e w' => e = .returned (.tuple #[.agg #[.int .i64 r.1.1.re, .int .i64 r.1.1.im, .int .i64 r.1.1.den, .int .i64 r.1.2.re, .int .i64 r.1.2.im, .int .i64 r.1.2.den], .bool r.2]) ∧ Ex w w'
theorem iFracOver (a b : Fr) (w : World) [hG : Yf w] : Calls Tryz.prog 161 #[a.v, b.v] w (Yu w (Ud a b)) := by
 have k1 := fun w => Xx a.re a.im a.den w
 have k2 := fun w => Xx b.re b.im b.den w
 rcases h1 : a.valid with _ | _
 ·rw [Kl h1]
  unfold Fr.valid at h1
  simp only [h1] at k1
  clear h1 k2
  have K1 := Gv k1
  clear k1
  obtain ⟨a1, a2, a3⟩ := a
  obtain ⟨b1, b2, b3⟩ := b
  show Calls _ _ #[.agg #[.int .i64 a1, .int .i64 a2, .int .i64 a3], .agg #[.int .i64 b1, .int .i64 b2, .int .i64 b3]] _ _
  have hS := Zw.refl w
  have hC := True.intro
  have hg := hG.reads
  go_enter Tryz.func161, Tryz.ntmps161
  go_wp2_with ((go_at_call 83; (with_reducible refine (K1.out _).mono ?_); rintro e wn ⟨rfl, hx⟩; replace hS := Zw.after (W := w) hx; replace hG := Yf.after hx; clear hx; replace hC := hS.reads; simp only [Zz, Zy, Gu] at hC; replace hg := hG.reads))
  refine Gq (v := frv (Fr.none, false)) ?_ rfl ⟨rfl, ?_⟩
  ·simp [results, Tryz.results161, go_sem, hC, frv, Fr.v, Fr.none]
  ·repeat' (with_reducible first | exact hS.ex | exact Ex.refl _ | assumption | apply Ex.alloc | apply Ex.drewN | apply Ex.drew | refine Ex.setCell ?_ (by simp <;> omega) _)
 ·rcases h2 : b.valid with _ | _
  ·rw [fover_no2 h2]
   unfold Fr.valid at h1 h2
   simp only [h1] at k1
   simp only [h2] at k2
   clear h1 h2
   have K1 := Gv k1
   have K2 := Gv k2
   clear k1 k2
   obtain ⟨a1, a2, a3⟩ := a
   obtain ⟨b1, b2, b3⟩ := b
   show Calls _ _ #[.agg #[.int .i64 a1, .int .i64 a2, .int .i64 a3], .agg #[.int .i64 b1, .int .i64 b2, .int .i64 b3]] _ _
   have hS := Zw.refl w
   have hC := True.intro
   have hg := hG.reads
   go_enter Tryz.func161, Tryz.ntmps161
   go_wp2_with ((go_at_call 83; (first | (with_reducible refine (K1.out _).mono ?_) | (with_reducible refine (K2.out _).mono ?_)); rintro e wn ⟨rfl, hx⟩; replace hS := Zw.after (W := w) hx; replace hG := Yf.after hx; clear hx; replace hC := hS.reads; simp only [Zz, Zy, Gu] at hC; replace hg := hG.reads))
   refine Gq (v := frv (Fr.none, false)) ?_ rfl ⟨rfl, ?_⟩
   ·simp [results, Tryz.results161, go_sem, hC, frv, Fr.v, Fr.none]
   ·repeat' (with_reducible first | exact hS.ex | exact Ex.refl _ | assumption | apply Ex.alloc | apply Ex.drewN | apply Ex.drew | refine Ex.setCell ?_ (by simp <;> omega) _)
  ·rcases h3 : Kq b with _ | _
   ·rcases h4 : (Qj b).2 with _ | _
    ·rw [fover_no4 h4]
     have hn := sq_pos h3
     obtain ⟨⟨p1, p2⟩, ⟨p3, p4⟩, ⟨p5, p6⟩, -⟩ := Fr.valid_out h2
     have m1 := Xl (a := b.den) (b := b.re) (by omega) (by omega)
     have m2 := Xl (a := -b.den) (b := b.im) (by omega) (by omega)
     have m3 := Xl (a := b.re) (b := b.re) (by omega) (by omega)
     have m4 := Xl (a := b.im) (b := b.im) (by omega) (by omega)
     have kl := fun w => Wh (b.den * b.re) (-b.den * b.im) (b.re * b.re + b.im * b.im) w (by omega) (by omega) (by omega)
     change ∀ w, Calls _ _ _ w (Yu w (Qj b)) at kl
     have w1 := Gp (-b.den) (by omega)
     have hne : (b.re == 0 && b.im == 0) = false := by unfold Kq at h3; simpa using h3
     generalize Qj b = t at kl h4
     obtain ⟨⟨t1, t2, t3⟩, tk⟩ := t
     simp only at h4
     subst h4
     replace kl := fun w => Yu.spell (kl w)
     unfold Fr.valid at h1 h2
     simp only [h1] at k1
     simp only [h2] at k2
     unfold Kq at h3
     clear h1 h2 hn hne
     obtain ⟨a1, a2, a3⟩ := a
     obtain ⟨b1, b2, b3⟩ := b
     simp only at *
     show Calls _ _ #[.agg #[.int .i64 a1, .int .i64 a2, .int .i64 a3], .agg #[.int .i64 b1, .int .i64 b2, .int .i64 b3]] _ _
     by_cases hb : b1 = 0
     ·subst hb
      have hb2 : (b2 == 0) = false := by simpa using h3
      clear h3 m3
      simp only [Int.mul_zero, Int.zero_add] at kl m1
      generalize ex2 : -b3 * b2 = x2 at *
      generalize ex4 : b2 * b2 = x4 at *
      have K1 := Gv k1
      have K2 := Gv k2
      have KL := Gv kl
      clear k1 k2 kl
      have hS := Zw.refl w
      have hC := True.intro
      have hg := hG.reads
      go_enter Tryz.func161, Tryz.ntmps161
      go_wp2_with ((first | (go_at_call 83; (first | (with_reducible refine (K1.out _).mono ?_) | (with_reducible refine (K2.out _).mono ?_)); rintro e wn ⟨rfl, hx⟩; replace hS := Zw.after (W := w) hx; replace hG := Yf.after hx; clear hx; replace hC := hS.reads; simp only [Zz, Zy, Gu] at hC; replace hg := hG.reads) | (go_at_call 108; (with_reducible refine (KL.out _).mono ?_); rintro e wn ⟨rfl, hx⟩; replace hS := Zw.after (W := w) hx; replace hG := Yf.after hx; clear hx; replace hC := hS.reads; simp only [Zz, Zy, Gu] at hC; replace hg := hG.reads)))
      refine Gq (v := frv (Fr.none, false)) ?_ rfl ⟨rfl, ?_⟩
      ·simp [results, Tryz.results161, go_sem, hC, frv, Fr.v, Fr.none]
      ·repeat' (with_reducible first | exact hS.ex | exact Ex.refl _ | assumption | apply Ex.alloc | apply Ex.drewN | apply Ex.drew | refine Ex.setCell ?_ (by simp <;> omega) _)
     ·have hb2 : (b1 == 0) = false := by simpa using hb
      clear h3 hb
      generalize ex1 : b3 * b1 = x1 at *
      generalize ex2 : -b3 * b2 = x2 at *
      generalize ex3 : b1 * b1 = x3 at *
      generalize ex4 : b2 * b2 = x4 at *
      have K1 := Gv k1
      have K2 := Gv k2
      have KL := Gv kl
      clear k1 k2 kl
      have hS := Zw.refl w
      have hC := True.intro
      have hg := hG.reads
      go_enter Tryz.func161, Tryz.ntmps161
      go_wp2_with ((first | (go_at_call 83; (first | (with_reducible refine (K1.out _).mono ?_) | (with_reducible refine (K2.out _).mono ?_)); rintro e wn ⟨rfl, hx⟩; replace hS := Zw.after (W := w) hx; replace hG := Yf.after hx; clear hx; replace hC := hS.reads; simp only [Zz, Zy, Gu] at hC; replace hg := hG.reads) | (go_at_call 108; (with_reducible refine (KL.out _).mono ?_); rintro e wn ⟨rfl, hx⟩; replace hS := Zw.after (W := w) hx; replace hG := Yf.after hx; clear hx; replace hC := hS.reads; simp only [Zz, Zy, Gu] at hC; replace hg := hG.reads)))
      refine Gq (v := frv (Fr.none, false)) ?_ rfl ⟨rfl, ?_⟩
      ·simp [results, Tryz.results161, go_sem, hC, frv, Fr.v, Fr.none]
      ·repeat' (with_reducible first | exact hS.ex | exact Ex.refl _ | assumption | apply Ex.alloc | apply Ex.drewN | apply Ex.drew | refine Ex.setCell ?_ (by simp <;> omega) _)
    ·rw [fover_ok h1 h2 h3 h4]
     have hn := sq_pos h3
     obtain ⟨⟨p1, p2⟩, ⟨p3, p4⟩, ⟨p5, p6⟩, -⟩ := Fr.valid_out h2
     have m1 := Xl (a := b.den) (b := b.re) (by omega) (by omega)
     have m2 := Xl (a := -b.den) (b := b.im) (by omega) (by omega)
     have m3 := Xl (a := b.re) (b := b.re) (by omega) (by omega)
     have m4 := Xl (a := b.im) (b := b.im) (by omega) (by omega)
     have kl := fun w => Wh (b.den * b.re) (-b.den * b.im) (b.re * b.re + b.im * b.im) w (by omega) (by omega) (by omega)
     change ∀ w, Calls _ _ _ w (Yu w (Qj b)) at kl
     have w1 := Gp (-b.den) (by omega)
     have hne : (b.re == 0 && b.im == 0) = false := by unfold Kq at h3; simpa using h3
     have kt := fun w => Mm a (Qj b).1 w
     generalize Zs a (Qj b).1 = u at kt ⊢
     generalize Qj b = t at kl h4 kt
     obtain ⟨⟨t1, t2, t3⟩, tk⟩ := t
     simp only at h4
     subst h4
     replace kl := fun w => Yu.spell (kl w)
     obtain ⟨⟨u1, u2, u3⟩, uk⟩ := u
     replace kt := fun w => Yu.spell (kt w)
     unfold Fr.valid at h1 h2
     simp only [h1] at k1
     simp only [h2] at k2
     unfold Kq at h3
     clear h1 h2 hn hne
     obtain ⟨a1, a2, a3⟩ := a
     obtain ⟨b1, b2, b3⟩ := b
     simp only at *
     show Calls _ _ #[.agg #[.int .i64 a1, .int .i64 a2, .int .i64 a3], .agg #[.int .i64 b1, .int .i64 b2, .int .i64 b3]] _ _
     have KT : Hid (∀ w, Calls Tryz.prog 81 #[.agg #[.int .i64 a1, .int .i64 a2, .int .i64 a3], .agg #[.int .i64 t1, .int .i64 t2, .int .i64 t3]] w fun e w' => e = .returned (.tuple #[.agg #[.int .i64 u1, .int .i64 u2, .int .i64 u3], .bool uk]) ∧ Ex w w') := kt
     clear kt
     by_cases hb : b1 = 0
     ·subst hb
      have hb2 : (b2 == 0) = false := by simpa using h3
      clear h3 m3
      simp only [Int.mul_zero, Int.zero_add] at kl m1
      generalize ex2 : -b3 * b2 = x2 at *
      generalize ex4 : b2 * b2 = x4 at *
      have K1 := Gv k1
      have K2 := Gv k2
      have KL := Gv kl
      clear k1 k2 kl
      have hS := Zw.refl w
      have hC := True.intro
      have hg := hG.reads
      go_enter Tryz.func161, Tryz.ntmps161
      go_wp2_with ((first | (go_at_call 83; (first | (with_reducible refine (K1.out _).mono ?_) | (with_reducible refine (K2.out _).mono ?_)); rintro e wn ⟨rfl, hx⟩; replace hS := Zw.after (W := w) hx; replace hG := Yf.after hx; clear hx; replace hC := hS.reads; simp only [Zz, Zy, Gu] at hC; replace hg := hG.reads) | (go_at_call 108; (with_reducible refine (KL.out _).mono ?_); rintro e wn ⟨rfl, hx⟩; replace hS := Zw.after (W := w) hx; replace hG := Yf.after hx; clear hx; replace hC := hS.reads; simp only [Zz, Zy, Gu] at hC; replace hg := hG.reads) | (go_at_call 81; (with_reducible refine (KT.out _).mono ?_); rintro e wn ⟨rfl, hx⟩; replace hS := Zw.after (W := w) hx; replace hG := Yf.after hx; clear hx; replace hC := hS.reads; simp only [Zz, Zy, Gu] at hC; replace hg := hG.reads)))
      refine Gq (v := frv (⟨u1, u2, u3⟩, uk)) ?_ rfl ⟨rfl, ?_⟩
      ·simp [results, Tryz.results161, go_sem, hC, frv, Fr.v, Fr.none]
      ·repeat' (with_reducible first | exact hS.ex | exact Ex.refl _ | assumption | apply Ex.alloc | apply Ex.drewN | apply Ex.drew | refine Ex.setCell ?_ (by simp <;> omega) _)
     ·have hb2 : (b1 == 0) = false := by simpa using hb
      clear h3 hb
      generalize ex1 : b3 * b1 = x1 at *
      generalize ex2 : -b3 * b2 = x2 at *
      generalize ex3 : b1 * b1 = x3 at *
      generalize ex4 : b2 * b2 = x4 at *
      have K1 := Gv k1
      have K2 := Gv k2
      have KL := Gv kl
      clear k1 k2 kl
      have hS := Zw.refl w
      have hC := True.intro
      have hg := hG.reads
      go_enter Tryz.func161, Tryz.ntmps161
      go_wp2_with ((first | (go_at_call 83; (first | (with_reducible refine (K1.out _).mono ?_) | (with_reducible refine (K2.out _).mono ?_)); rintro e wn ⟨rfl, hx⟩; replace hS := Zw.after (W := w) hx; replace hG := Yf.after hx; clear hx; replace hC := hS.reads; simp only [Zz, Zy, Gu] at hC; replace hg := hG.reads) | (go_at_call 108; (with_reducible refine (KL.out _).mono ?_); rintro e wn ⟨rfl, hx⟩; replace hS := Zw.after (W := w) hx; replace hG := Yf.after hx; clear hx; replace hC := hS.reads; simp only [Zz, Zy, Gu] at hC; replace hg := hG.reads) | (go_at_call 81; (with_reducible refine (KT.out _).mono ?_); rintro e wn ⟨rfl, hx⟩; replace hS := Zw.after (W := w) hx; replace hG := Yf.after hx; clear hx; replace hC := hS.reads; simp only [Zz, Zy, Gu] at hC; replace hg := hG.reads)))
      refine Gq (v := frv (⟨u1, u2, u3⟩, uk)) ?_ rfl ⟨rfl, ?_⟩
      ·simp [results, Tryz.results161, go_sem, hC, frv, Fr.v, Fr.none]
      ·repeat' (with_reducible first | exact hS.ex | exact Ex.refl _ | assumption | apply Ex.alloc | apply Ex.drewN | apply Ex.drew | refine Ex.setCell ?_ (by simp <;> omega) _)
   ·rw [fover_no3 h3]
    obtain rfl := nul_one h2 h3
    unfold Fr.valid at h1
    have e2 : Zh 0 0 1 = true := h2
    simp only [h1] at k1
    simp only [e2] at k2
    clear h1 h2 h3 e2
    have K1 := Gv k1
    have K2 := Gv k2
    clear k1 k2
    obtain ⟨a1, a2, a3⟩ := a
    show Calls _ _ #[.agg #[.int .i64 a1, .int .i64 a2, .int .i64 a3], .agg #[.int .i64 0, .int .i64 0, .int .i64 1]] _ _
    have hS := Zw.refl w
    have hC := True.intro
    have hg := hG.reads
    go_enter Tryz.func161, Tryz.ntmps161
    go_wp2_with ((go_at_call 83; (first | (with_reducible refine (K1.out _).mono ?_) | (with_reducible refine (K2.out _).mono ?_)); rintro e wn ⟨rfl, hx⟩; replace hS := Zw.after (W := w) hx; replace hG := Yf.after hx; clear hx; replace hC := hS.reads; simp only [Zz, Zy, Gu] at hC; replace hg := hG.reads))
    refine Gq (v := frv (Fr.none, false)) ?_ rfl ⟨rfl, ?_⟩
    ·simp [results, Tryz.results161, go_sem, hC, frv, Fr.v, Fr.none]
    ·repeat' (with_reducible first | exact hS.ex | exact Ex.refl _ | assumption | apply Ex.alloc | apply Ex.drewN | apply Ex.drew | refine Ex.setCell ?_ (by simp <;> omega) _)
end
section
open Go.RowKit

def Vo (a : Fr) : Fr × Bool := if a.valid then flow a.re 0 a.den else (Fr.none, false)
def Vn (a : Fr) : Fr × Bool := if a.valid then flow a.im 0 a.den else (Fr.none, false)
def Sz (a : Fr) : Fr × Bool := Ud a ⟨2, 0, 1⟩
def Zg (a b : Fr) : Fr × Bool := Zs a (Ys b).1
theorem fpair_or (a b : Fr) (x : Bool) : ((x || !(Ys b).2) || !(Zg a b).2) = (x || !(Zg a b).2) := by
 unfold Zg
 rcases h : (Ys b).2 with _ | _
 ·rw [Px h, Ie Xc]
  simp
 ·simp
theorem over_any (bs : Nat) (bad : Bool) (a b : Fr) (w : World) (hG : Yf w) (hb : Box w bs 128 #[.bool bad]) :
  Calls Tryz.prog 117 #[.pointer (some ⟨bs, 0, none⟩), a.v, b.v] w (Wk bs bad w (Ud a b)) := by
 have l1 := fun w (hG : Yf w) => iFracOver a b w
 have l2 := fun w hb => Tb bs bad (Ud a b) w hb fover_none
 generalize Ud a b = r at l1 l2 ⊢
 obtain ⟨a1, a2, a3⟩ := a
 obtain ⟨b1, b2, b3⟩ := b
 obtain ⟨⟨r1, r2, r3⟩, ok⟩ := r
 show Calls _ _ #[_, .agg #[.int .i64 a1, .int .i64 a2, .int .i64 a3], .agg #[.int .i64 b1, .int .i64 b2, .int .i64 b3]] _ _
 have k1 : ∀ w, Yf w → Calls Tryz.prog 161 #[.agg #[.int .i64 a1, .int .i64 a2, .int .i64 a3], .agg #[.int .i64 b1, .int .i64 b2, .int .i64 b3]] w _ := fun w hG => Yu.spell (l1 w hG)
 have k2 : ∀ w, Box w bs 128 #[.bool bad] → Calls Tryz.prog 123 #[.pointer (some ⟨bs, 0, none⟩), .agg #[.int .i64 r1, .int .i64 r2, .int .i64 r3], .bool ok] w fun e w' => e = .returned (.agg #[.int .i64 r1, .int .i64 r2, .int .i64 r3]) ∧ Sm bs w w' ∧ Box w' bs 128 #[.bool (bad || !ok)] := l2
 clear l1 l2
 have hbs := hb.lt
 go_enter Tryz.func117, Tryz.ntmps117
 go_wp2_with fail
 refine (k1 _ (hG.ex (((Ex.refl w).alloc _).alloc _ |>.alloc _))).mono ?_
 rintro e w1 ⟨rfl, hx⟩
 have bR := (Box.new _ _ _).ex hx
 simp only [Gu] at bR
 replace hx := (((Ex.refl w).alloc _).alloc _ |>.alloc _).trans hx
 have zR := bR.lt
 go_wp2_with fail
 refine (k2 _ (hb.ex hx)).mono ?_
 rintro e w2 ⟨rfl, hsm, hb2⟩
 have bR2 := hsm.box _ _ _ (by omega) bR
 have cR := bR2.cell
 have fR := bR2.frozen
 clear bR hb
 go_wp2
 refine Gq (v := .agg #[.int .i64 r1, .int .i64 r2, .int .i64 r3]) ?_ rfl ⟨rfl, ?_, ?_⟩
 ·simp [results, Tryz.results117, go_sem, cR]
 ·repeat' (first
   | exact (Sm.of_ex hx).trans hsm
   | refine Sm.setNew ?_ (by simp <;> omega) _)
 ·repeat' (first
   | exact hb2
   | refine Box.far ?_ (by simp <;> omega) _)
theorem freal_none {a : Fr} (h : (Vo a).2 = false) : (Vo a).1 = Fr.none := by
 unfold Vo at h ⊢
 split
 ·rename_i hv
  rw [if_pos hv] at h
  exact Sb h
 ·rfl
theorem Qh (bs : Nat) (bad : Bool) (a : Fr) (w : World) (hb : Box w bs 128 #[.bool bad]) :
  Calls Tryz.prog 120 #[.pointer (some ⟨bs, 0, none⟩), a.v] w (Wk bs bad w (Vo a)) := by
 have kv := fun w => Xx a.re a.im a.den w
 have l2 := fun w hb => Tb bs bad (Vo a) w hb freal_none
 have hbs := hb.lt
 have ne1 := Nat.ne_of_gt hb.lt
 have hfr := hb.frozen
 have hc := hb.cell
 rcases hv : a.valid with _ | _
 ·have e : Vo a = (Fr.none, false) := by simp [Vo, hv]
  rw [e]
  obtain ⟨a1, a2, a3⟩ := a
  have hv' : Zh a1 a2 a3 = false := hv
  simp only [hv'] at kv
  unfold Wk
  simp only [Fr.v, Fr.none]
  clear e hv l2 hv'
  have KV := Gv kv
  clear kv
  have hS := Zq.init hb
  have hC := hS.reads
  simp only [Zz, Zy] at hC
  go_enter Tryz.func120, Tryz.ntmps120
  go_wp2_with (go_at_call 83; (with_reducible refine (KV.out _).mono ?_); rintro e wn ⟨rfl, hx⟩; replace hS := Zq.after (W := w) hx; (try simp only [Gu] at hS); replace hC := hS.reads; simp only [Zz, Zy] at hC)
  have hm := hS.sm
  have hs := hS.sum
  have : (bad || !false) = true := by simp
  rw [this]
  refine Gq ?_ rfl ⟨rfl, ?_, ?_⟩
  ·simp [results, Tryz.results120, go_sem, hC]
  ·repeat' (first
    | exact hm.trans (Sm.set hs 0 _)
    | refine Sm.setNew ?_ (by simp <;> omega) _)
  ·repeat' (first
    | exact hs.set_ 0 (.bool true)
    | refine Box.far ?_ (by simp <;> omega) _)
 ·have e : Vo a = flow a.re 0 a.den := by simp [Vo, hv]
  rw [e] at l2 ⊢
  obtain ⟨a1, a2, a3⟩ := a
  have hv' : Zh a1 a2 a3 = true := hv
  obtain ⟨⟨p1, p2⟩, ⟨p3, p4⟩, ⟨p5, p6⟩, -⟩ := Fr.valid_out hv
  simp only [hv'] at kv
  simp only at p1 p2 p3 p4 p5 p6
  have kl := fun w => Wh a1 0 a3 w (by omega) (by omega) (by omega)
  simp only at l2 ⊢
  generalize flow a1 0 a3 = r at l2 kl ⊢
  obtain ⟨⟨r1, r2, r3⟩, ok⟩ := r
  have k1 := fun w => Yu.spell (kl w)
  unfold Wk at l2 ⊢
  simp only [Fr.v] at l2 k1 ⊢
  clear e hv hv' p1 p2 p3 p4 p5 p6 kl
  have KV := Gv kv
  have KL := Gv k1
  have KK := Gv l2
  clear kv k1 l2
  have hS := Zq.init hb
  have hC := hS.reads
  simp only [Zz, Zy] at hC
  go_enter Tryz.func120, Tryz.ntmps120
  go_wp2_with (first | (go_at_call 83; (with_reducible refine (KV.out _).mono ?_); rintro e wn ⟨rfl, hx⟩; replace hS := Zq.after (W := w) hx; clear hx; (try simp only [Gu] at hS); replace hC := hS.reads; simp only [Zz, Zy] at hC) | (go_at_call 108; (with_reducible refine (KL.out _).mono ?_); rintro e wn ⟨rfl, hx⟩; replace hS := Zq.after (W := w) hx; clear hx; replace hC := hS.reads; simp only [Zz, Zy] at hC) | (go_at_call 123; (with_reducible refine (KK.out _ hS.sum).mono ?_); rintro e wn ⟨rfl, hs2, hb2⟩; replace hS := Zq.call hS hs2 hb2; replace hC := hS.reads; simp only [Zz, Zy] at hC))
  have hm := hS.sm
  have hs := hS.sum
  refine Gq ?_ rfl ⟨rfl, ?_, ?_⟩
  ·simp [results, Tryz.results120, go_sem, hC]
  ·repeat' (first
    | exact hm
    | refine Sm.setNew ?_ (by simp <;> omega) _)
  ·repeat' (first
    | exact hs
    | refine Box.far ?_ (by simp <;> omega) _)
theorem fimag_none {a : Fr} (h : (Vn a).2 = false) : (Vn a).1 = Fr.none := by
 unfold Vn at h ⊢
 split
 ·rename_i hv
  rw [if_pos hv] at h
  exact Sb h
 ·rfl
theorem Qg (bs : Nat) (bad : Bool) (a : Fr) (w : World) (hb : Box w bs 128 #[.bool bad]) :
  Calls Tryz.prog 121 #[.pointer (some ⟨bs, 0, none⟩), a.v] w (Wk bs bad w (Vn a)) := by
 have kv := fun w => Xx a.re a.im a.den w
 have l2 := fun w hb => Tb bs bad (Vn a) w hb fimag_none
 have hbs := hb.lt
 have ne1 := Nat.ne_of_gt hb.lt
 have hfr := hb.frozen
 have hc := hb.cell
 rcases hv : a.valid with _ | _
 ·have e : Vn a = (Fr.none, false) := by simp [Vn, hv]
  rw [e]
  obtain ⟨a1, a2, a3⟩ := a
  have hv' : Zh a1 a2 a3 = false := hv
  simp only [hv'] at kv
  unfold Wk
  simp only [Fr.v, Fr.none]
  clear e hv l2 hv'
  have KV := Gv kv
  clear kv
  have hS := Zq.init hb
  have hC := hS.reads
  simp only [Zz, Zy] at hC
  go_enter Tryz.func121, Tryz.ntmps121
  go_wp2_with (go_at_call 83; (with_reducible refine (KV.out _).mono ?_); rintro e wn ⟨rfl, hx⟩; replace hS := Zq.after (W := w) hx; (try simp only [Gu] at hS); replace hC := hS.reads; simp only [Zz, Zy] at hC)
  have hm := hS.sm
  have hs := hS.sum
  have : (bad || !false) = true := by simp
  rw [this]
  refine Gq ?_ rfl ⟨rfl, ?_, ?_⟩
  ·simp [results, Tryz.results121, go_sem, hC]
  ·repeat' (first
    | exact hm.trans (Sm.set hs 0 _)
    | refine Sm.setNew ?_ (by simp <;> omega) _)
  ·repeat' (first
    | exact hs.set_ 0 (.bool true)
    | refine Box.far ?_ (by simp <;> omega) _)
 ·have e : Vn a = flow a.im 0 a.den := by simp [Vn, hv]
  rw [e] at l2 ⊢
  obtain ⟨a1, a2, a3⟩ := a
  have hv' : Zh a1 a2 a3 = true := hv
  obtain ⟨⟨p1, p2⟩, ⟨p3, p4⟩, ⟨p5, p6⟩, -⟩ := Fr.valid_out hv
  simp only [hv'] at kv
  simp only at p1 p2 p3 p4 p5 p6
  have kl := fun w => Wh a2 0 a3 w (by omega) (by omega) (by omega)
  simp only at l2 ⊢
  generalize flow a2 0 a3 = r at l2 kl ⊢
  obtain ⟨⟨r1, r2, r3⟩, ok⟩ := r
  have k1 := fun w => Yu.spell (kl w)
  unfold Wk at l2 ⊢
  simp only [Fr.v] at l2 k1 ⊢
  clear e hv hv' p1 p2 p3 p4 p5 p6 kl
  have KV := Gv kv
  have KL := Gv k1
  have KK := Gv l2
  clear kv k1 l2
  have hS := Zq.init hb
  have hC := hS.reads
  simp only [Zz, Zy] at hC
  go_enter Tryz.func121, Tryz.ntmps121
  go_wp2_with (first | (go_at_call 83; (with_reducible refine (KV.out _).mono ?_); rintro e wn ⟨rfl, hx⟩; replace hS := Zq.after (W := w) hx; clear hx; (try simp only [Gu] at hS); replace hC := hS.reads; simp only [Zz, Zy] at hC) | (go_at_call 108; (with_reducible refine (KL.out _).mono ?_); rintro e wn ⟨rfl, hx⟩; replace hS := Zq.after (W := w) hx; clear hx; replace hC := hS.reads; simp only [Zz, Zy] at hC) | (go_at_call 123; (with_reducible refine (KK.out _ hS.sum).mono ?_); rintro e wn ⟨rfl, hs2, hb2⟩; replace hS := Zq.call hS hs2 hb2; replace hC := hS.reads; simp only [Zz, Zy] at hC))
  have hm := hS.sm
  have hs := hS.sum
  refine Gq ?_ rfl ⟨rfl, ?_, ?_⟩
  ·simp [results, Tryz.results121, go_sem, hC]
  ·repeat' (first
    | exact hm
    | refine Sm.setNew ?_ (by simp <;> omega) _)
  ·repeat' (first
    | exact hs
    | refine Box.far ?_ (by simp <;> omega) _)
end
section
open Go.RowKit

structure SmO (bs : Nat) (w w' : World) : Prop where
  ex : ∀ W, Ex W w → W.heap.size ≤ bs → Ex W w'
  box : ∀ b t cs, b ≠ bs → Box w b t cs → Box w' b t cs
  own : ∀ lo T k v n cs, T ≠ 144 → Own w lo T k v n cs → Own w' lo T k v n cs
  size : w.heap.size ≤ w'.heap.size
theorem SmO.of_ex {bs : Nat} {w w' : World} (h : Ex w w') : SmO bs w w' := ⟨fun _ hW _ => hW.trans h, fun _ _ _ _ hb => hb.ex h, fun _ _ _ _ _ _ _ ho => Own.ex ho h, h.size⟩
theorem SmO.refl (bs : Nat) (w : World) : SmO bs w w := SmO.of_ex (Ex.refl w)
theorem SmO.trans {bs : Nat} {w w1 w2 : World} (h : SmO bs w w1) (k : SmO bs w1 w2) : SmO bs w w2 :=
  ⟨fun W hW hl => k.ex W (h.ex W hW hl) hl, fun b t cs hne hb => k.box b t cs hne (h.box b t cs hne hb), fun _ _ _ _ _ _ hT ho => k.own _ _ _ _ _ _ hT (h.own _ _ _ _ _ _ hT ho), Nat.le_trans h.size k.size⟩
theorem SmO.set {bs : Nat} {w : World} {cs : Array Value} (hb : Box w bs 144 cs) (i : Nat) (u : Value) : SmO bs w (w.setCell ⟨bs, i, none⟩ u) :=
  ⟨fun W hW hl => hW.setCell (p := ⟨bs, i, none⟩) hl u, fun b t cs hne hb' => hb'.far (p := ⟨bs, i, none⟩) hne u,
   fun lo T k v n cs hT ho => Own.setCell (p := ⟨bs, i, none⟩) ho (fun g hg e => by subst e; exact Own.ne ho hb hT hg.symm) u, by simp⟩
theorem SmO.setNew {bs : Nat} {w w' : World} (h : SmO bs w w') {p : Addr} (hp : w.heap.size ≤ p.block) (u : Value) : SmO bs w (w'.setCell p u) :=
  ⟨fun W hW hl => (h.ex W hW hl).setCell (Nat.le_trans hW.size hp) u, fun b t cs hne hb => (h.box b t cs hne hb).far (by have := hb.lt; omega) u,
   fun lo T k v n cs hT ho => Own.setCell (h.own lo T k v n cs hT ho) (fun g hg e => by have := (Own.lt ho g hg).2; omega) u, by have := h.size; simpa using this⟩
theorem SmO.alloc {bs : Nat} {w w' : World} (h : SmO bs w w') (o : Obj) : SmO bs w (w'.alloc o) := h.trans (SmO.of_ex ((Ex.refl _).alloc o))

class Zr (W w : World) (bs : outParam Nat) (bad : outParam Bool) (L : outParam (List (Nat × TypeId × Array Value))) : Prop where
  sm : SmO bs W w
  sum : Box w bs 144 #[.bool bad]
  boxes : Ym w L
  far : ∀ x ∈ L, x.1 ≠ bs
theorem Ym.smO {bs : Nat} {w w1 : World} (hs : SmO bs w w1) : ∀ {L : List (Nat × TypeId × Array Value)}, (∀ x ∈ L, x.1 ≠ bs) → Ym w L → Ym w1 L
  | [], _, _ => trivial
  | _ :: _, hf, h => ⟨hs.box _ _ _ (hf _ (.head _)) h.1, Ym.smO hs (fun x hx => hf x (.tail _ hx)) h.2⟩
section
variable {W w w1 : World} {bs n : Nat} {bad : Bool} {L : List (Nat × TypeId × Array Value)} {cs : Array Value} {t : TypeId}
instance Zr.start {b : Bool} [h : Zw W w L] : Zr W (w.alloc (.cells #[.bool b] 144)) w.heap.size b L :=
  ⟨SmO.of_ex (h.ex.alloc _), Box.new w _ _, Ym.ex ((Ex.refl w).alloc _) h.boxes, fun x hx => Nat.ne_of_lt (Ym.old h.boxes x hx)⟩
instance Zr.alloc [h : Zr W w bs bad L] : Zr W (w.alloc (.cells cs t)) bs bad ((w.heap.size, t, cs) :: L) :=
  ⟨h.sm.alloc _, h.sum.alloc _, ⟨Box.new w cs t, Ym.ex ((Ex.refl w).alloc _) h.boxes⟩, fun x hx => by
    rcases List.mem_cons.1 hx with rfl | hx
    · exact (Nat.ne_of_lt h.sum.lt).symm
    · exact h.far x hx⟩
instance Zr.drew [h : Zr W w bs bad L] : Zr W w.drew bs bad L := ⟨h.sm.trans (SmO.of_ex (Ex.refl w).drew), h.sum.drew, Ym.ex (Ex.refl w).drew h.boxes, h.far⟩
instance Zr.drewN [h : Zr W w bs bad L] : Zr W (w.drewN n) bs bad L := ⟨h.sm.trans (SmO.of_ex ((Ex.refl w).drewN n)), h.sum.ex ((Ex.refl w).drewN n), Ym.ex ((Ex.refl w).drewN n) h.boxes, h.far⟩
theorem Zr.rel (h : Zr W w bs bad L) (hl : W.heap.size ≤ bs) : Ex W w := h.sm.ex W (Ex.refl W) hl
theorem Zr.init (hb : Box w bs 144 #[.bool bad]) : Zr w w bs bad [] := ⟨SmO.refl _ _, hb, trivial, fun x hx => by cases hx⟩
theorem Zr.put {b : Nat} (h : Zr W w bs bad L) (hb : Box w b t cs) (hne : b ≠ bs) : Zr W w bs bad ((b, t, cs) :: L) := ⟨h.sm, h.sum, ⟨hb, h.boxes⟩, fun x hx => by
  rcases List.mem_cons.1 hx with rfl | hx
  · exact hne
  · exact h.far x hx⟩
theorem Zr.after [h : Zr W w bs bad L] (hx : Ex w w1) : Zr W w1 bs bad L :=
  ⟨h.sm.trans (SmO.of_ex hx), h.sum.ex hx, Ym.ex hx h.boxes, h.far⟩
theorem Zr.call {bad' : Bool} (h : Zr W w bs bad L) (hs : SmO bs w w1) (hb : Box w1 bs 144 #[.bool bad']) : Zr W w1 bs bad' L :=
  ⟨h.sm.trans hs, hb, Ym.smO hs h.far h.boxes, h.far⟩
theorem Zr.reads (h : Zr W w bs bad L) : Jp w ((bs, 144, #[.bool bad]) :: L) := ⟨h.sum.cell, h.sum.frozen, h.sum.lt, h.boxes.reads⟩
end

theorem SmO.setRow {bs : Nat} {w w' : World} (h : SmO bs w w') {g : Nat} (hg : w.heap.size ≤ g) (x : Array Value) : SmO bs w (w'.setRow g x) :=
  ⟨fun W hW hl => (h.ex W hW hl).setRow (Nat.le_trans hW.size hg) x, fun b t cs hne hb => (h.box b t cs hne hb).setRow_far (by have := hb.lt; omega) x,
   fun lo T k v n cs hT ho => by
    have ho' := h.own lo T k v n cs hT ho
    refine ⟨ho'.1, ?_⟩
    rcases ho'.2 with h0 | ⟨g', cap, cur, rfl, hg', hh, hr⟩
    · exact .inl h0
    · refine .inr ⟨g', cap, cur, rfl, hg', ?_, hr⟩
      have : g' ≠ g := by have := (Own.lt ho g' rfl).2; omega
      exact (setRow_other w' g g' x this).trans hh, by have := h.size; simpa using this⟩
theorem Zr.drewW {W w : World} {bs : Nat} {b : Bool} {L : List (Nat × TypeId × Array Value)} (h : Zr W w bs b L) : Zr W { w with drawn := w.drawn + 1 } bs b L := Zr.drew (h := h)
theorem Zr.ex {W w w1 : World} {bs : Nat} {b : Bool} {L : List (Nat × TypeId × Array Value)} (h : Zr W w bs b L) (hx : Ex w w1) : Zr W w1 bs b L := Zr.after (h := h) hx
theorem Zr.cast {W w : World} {bs bs' : Nat} {b : Bool} {L L' : List (Nat × TypeId × Array Value)} [h : Zr W w bs b L] (e1 : bs = bs') (e2 : L = L') : Zr W w bs' b L' := by
  subst e1 e2
  exact h
section
variable {W w w2 : World} {bs : Nat} {b b2 : Bool} {L : List (Nat × TypeId × Array Value)} {g : Nat}
structure InO (W : World) (bs : Nat) (L : List (Nat × TypeId × Array Value)) (b : Bool) (w : World) : Prop where
  sees : Zr W w bs b L
  old : ∀ x ∈ L, x.1 < W.heap.size
  olds : bs < W.heap.size
theorem InO.start (h : Zr W w bs b L) : InO w bs L b w := ⟨⟨SmO.refl _ _, h.sum, h.boxes, h.far⟩, Ym.old h.boxes, h.sum.lt⟩
theorem InO.drew (h : InO W bs L b w) : InO W bs L b { w with drawn := w.drawn + 1 } := ⟨h.sees.drewW, h.old, h.olds⟩
theorem InO.alloc (h : InO W bs L b w) (o : Obj) : InO W bs L b (w.alloc o) := ⟨h.sees.ex ((Ex.refl w).alloc o), h.old, h.olds⟩
theorem InO.size (h : InO W bs L b w) : W.heap.size ≤ w.heap.size := h.sees.sm.size
theorem InO.setRow (h : InO W bs L b w) (hg : W.heap.size ≤ g) (x : Array Value) : InO W bs L b (w.setRow g x) :=
  ⟨⟨h.sees.sm.setRow hg x, h.sees.sum.setRow_far (by have := h.olds; omega) x, Ym.setRow_far (fun y hy => Nat.lt_of_lt_of_le (h.old y hy) hg) h.sees.boxes x, h.sees.far⟩, h.old, h.olds⟩
theorem InO.call (h : InO W bs L b w) (hN : Zr W w2 bs b2 L) : InO W bs L b2 w2 := ⟨hN, h.old, h.olds⟩
theorem InO.join (h0 : Zr W w bs b L) (h : InO w bs L b2 w2) : Zr W w2 bs b2 L := ⟨h0.sm.trans h.sees.sm, h.sees.sum, h.sees.boxes, h.sees.far⟩
end
theorem Zr.set3 {W w : World} {bs g : Nat} {b : Bool} {t : TypeId} {p q r : Value} {L : List (Nat × TypeId × Array Value)} (h : Zr W w bs b ((g, t, #[p, q, r]) :: L)) (hg : W.heap.size ≤ g) (hne : ∀ x ∈ L, x.1 ≠ g) (x y z : Value) :
    Zr W (((w.setCell ⟨g, 0, none⟩ x).setCell ⟨g, 1, none⟩ y).setCell ⟨g, 2, none⟩ z) bs b ((g, t, #[x, y, z]) :: L) := by
  have hb : g ≠ bs := h.far _ (.head _)
  refine ⟨((h.sm.setNew (p := ⟨g, 0, none⟩) hg x).setNew (p := ⟨g, 1, none⟩) hg y).setNew (p := ⟨g, 2, none⟩) hg z, ((h.sum.far (p := ⟨g, 0, none⟩) (Ne.symm hb) x).far (p := ⟨g, 1, none⟩) (Ne.symm hb) y).far (p := ⟨g, 2, none⟩) (Ne.symm hb) z, ⟨?_, ?_⟩, fun v hv => ?_⟩
  · have h2 := ((h.boxes.1.set_ 0 x).set_ 1 y).set_ 2 z
    simpa using h2
  · have : ∀ {M : List (Nat × TypeId × Array Value)}, (∀ v ∈ M, v.1 ≠ g) → Ym w M → Ym (((w.setCell ⟨g, 0, none⟩ x).setCell ⟨g, 1, none⟩ y).setCell ⟨g, 2, none⟩ z) M := by
      intro M
      induction M with
      | nil => exact fun _ _ => trivial
      | cons v M ih => exact fun hv hB => ⟨((hB.1.far (p := ⟨g, 0, none⟩) (hv _ (.head _)) x).far (p := ⟨g, 1, none⟩) (hv _ (.head _)) y).far (p := ⟨g, 2, none⟩) (hv _ (.head _)) z, ih (fun u hu => hv u (.tail _ hu)) hB.2⟩
    exact this hne h.boxes.2
  · rcases List.mem_cons.1 hv with rfl | hv
    · exact hb
    · exact h.far v (.tail _ hv)
def Wy (bs : Nat) (ok : Bool) (w : World) (r : Fr × Bool) : Ending → World → Prop := fun e w' => e = .returned r.1.v ∧ SmO bs w w' ∧ Box w' bs 144 #[.bool (ok && r.2)]
end
section
open Go.RowKit

theorem Yu.opn {P : Program} {f : Nat} {args : Array Value} {w : World} {r : Fr × Bool} (h : Calls P f args w (Yu w r)) : Calls P f args w fun e w' => e = .returned (frv r) ∧ Ex w w' := h
def m4v (r : M4 × Bool) : Value := .tuple #[r.1.v, .bool r.2]
def jvv (x y : Fr) : Value := .agg #[.int .i64 x.re, .int .i64 x.im, .int .i64 x.den, .int .i64 y.re, .int .i64 y.im, .int .i64 y.den]
def v2v (r : (Fr × Fr) × Bool) : Value := .tuple #[jvv r.1.1 r.1.2, .bool r.2]
theorem Ly (a b c d : Fr) (w : World) : Calls Tryz.prog 178 #[a.v, b.v, c.v, d.v] w (fun e w' => e = .returned (frv (Xr a b c d)) ∧ Ex w w') := by
 rw [← finner_eq]
 have k1 := fun w => Yu.opn (Xd a b w)
 have k2 := fun w => Yu.opn (Xd c d w)
 have k3 := fun w => Yu.opn (Qk (Zs a b).1 (Zs c d).1 w)
 generalize Yt (Zs a b).1 (Zs c d).1 = s at *
 generalize Zs a b = t at *
 generalize Zs c d = u at *
 obtain ⟨a1, a2, a3⟩ := a
 obtain ⟨b1, b2, b3⟩ := b
 obtain ⟨c1, c2, c3⟩ := c
 obtain ⟨d1, d2, d3⟩ := d
 obtain ⟨⟨s1, s2, s3⟩, sk⟩ := s
 obtain ⟨⟨t1, t2, t3⟩, tk⟩ := t
 obtain ⟨⟨u1, u2, u3⟩, uk⟩ := u
 simp only [m4v, v2v, frv, Fr.v, M4.v, jvv, Fr.none, M4.none] at k1 k2 k3 ⊢
 rcases tk with _ | _
 ·try simp only [Bool.false_and, Bool.and_false, Bool.false_eq_true, if_false, Bool.true_and, Bool.and_true]
  have K1 := Gv k1
  have K2 := Gv k2
  have K3 := Gv k3
  clear k1 k2 k3
  have hS := Zw.refl w
  have hC := True.intro
  go_enter Tryz.func178, Tryz.ntmps178
  go_wp2_with ((first | (go_at_call 60; (first | (with_reducible refine (K1.out _).mono ?_) | (with_reducible refine (K2.out _).mono ?_)); rintro e wn ⟨rfl, hx⟩; replace hS := Zw.after (W := w) hx; clear hx; replace hC := hS.reads; simp only [Zz, Zy, Gu] at hC) | (go_at_call 100; (with_reducible refine (K3.out _).mono ?_); rintro e wn ⟨rfl, hx⟩; replace hS := Zw.after (W := w) hx; clear hx; replace hC := hS.reads; simp only [Zz, Zy, Gu] at hC)))
  refine Gq ?_ rfl ⟨rfl, ?_⟩
  ·simp [results, Tryz.results178, go_sem, hC]
  ·repeat' (with_reducible first | exact hS.ex | exact Ex.refl _ | assumption | apply Ex.alloc | apply Ex.drewN | apply Ex.drew | refine Ex.setCell ?_ (by simp <;> omega) _)
 ·rcases uk with _ | _
  ·try simp only [Bool.false_and, Bool.and_false, Bool.false_eq_true, if_false, Bool.true_and, Bool.and_true]
   have K1 := Gv k1
   have K2 := Gv k2
   have K3 := Gv k3
   clear k1 k2 k3
   have hS := Zw.refl w
   have hC := True.intro
   go_enter Tryz.func178, Tryz.ntmps178
   go_wp2_with ((first | (go_at_call 60; (first | (with_reducible refine (K1.out _).mono ?_) | (with_reducible refine (K2.out _).mono ?_)); rintro e wn ⟨rfl, hx⟩; replace hS := Zw.after (W := w) hx; clear hx; replace hC := hS.reads; simp only [Zz, Zy, Gu] at hC) | (go_at_call 100; (with_reducible refine (K3.out _).mono ?_); rintro e wn ⟨rfl, hx⟩; replace hS := Zw.after (W := w) hx; clear hx; replace hC := hS.reads; simp only [Zz, Zy, Gu] at hC)))
   refine Gq ?_ rfl ⟨rfl, ?_⟩
   ·simp [results, Tryz.results178, go_sem, hC]
   ·repeat' (with_reducible first | exact hS.ex | exact Ex.refl _ | assumption | apply Ex.alloc | apply Ex.drewN | apply Ex.drew | refine Ex.setCell ?_ (by simp <;> omega) _)
  ·try simp only [Bool.and_self, if_true]
   have K1 := Gv k1
   have K2 := Gv k2
   have K3 := Gv k3
   clear k1 k2 k3
   have hS := Zw.refl w
   have hC := True.intro
   go_enter Tryz.func178, Tryz.ntmps178
   go_wp2_with ((first | (go_at_call 60; (first | (with_reducible refine (K1.out _).mono ?_) | (with_reducible refine (K2.out _).mono ?_)); rintro e wn ⟨rfl, hx⟩; replace hS := Zw.after (W := w) hx; clear hx; replace hC := hS.reads; simp only [Zz, Zy, Gu] at hC) | (go_at_call 100; (with_reducible refine (K3.out _).mono ?_); rintro e wn ⟨rfl, hx⟩; replace hS := Zw.after (W := w) hx; clear hx; replace hC := hS.reads; simp only [Zz, Zy, Gu] at hC)))
   refine Gq ?_ rfl ⟨rfl, ?_⟩
   ·simp [results, Tryz.results178, go_sem, hC]
   ·repeat' (with_reducible first | exact hS.ex | exact Ex.refl _ | assumption | apply Ex.alloc | apply Ex.drewN | apply Ex.drew | refine Ex.setCell ?_ (by simp <;> omega) _)
theorem Wu (a1 a2 a3 b1 b2 b3 c1 c2 c3 d1 d2 d3 : Int) (w : World) : Calls Tryz.prog 164 #[.agg #[.int .i64 a1, .int .i64 a2, .int .i64 a3], .agg #[.int .i64 b1, .int .i64 b2, .int .i64 b3], .agg #[.int .i64 c1, .int .i64 c2, .int .i64 c3], .agg #[.int .i64 d1, .int .i64 d2, .int .i64 d3], .bool true] w (fun e w' => e = .returned (.tuple #[.agg #[.int .i64 a1, .int .i64 a2, .int .i64 a3, .int .i64 b1, .int .i64 b2, .int .i64 b3, .int .i64 c1, .int .i64 c2, .int .i64 c3, .int .i64 d1, .int .i64 d2, .int .i64 d3], .bool true]) ∧ Ex w w') := by
 have hS := Zw.refl w
 have hC := True.intro
 go_enter Tryz.func164, Tryz.ntmps164
 go_wp2
 refine Gq ?_ rfl ⟨rfl, ?_⟩
 ·simp [results, Tryz.results164, go_sem]
 ·repeat' (with_reducible first | exact hS.ex | exact Ex.refl _ | assumption | apply Ex.alloc | apply Ex.drewN | apply Ex.drew | refine Ex.setCell ?_ (by simp <;> omega) _)
theorem Wz (a1 a2 a3 b1 b2 b3 c1 c2 c3 d1 d2 d3 : Int) (w : World) : Calls Tryz.prog 164 #[.agg #[.int .i64 a1, .int .i64 a2, .int .i64 a3], .agg #[.int .i64 b1, .int .i64 b2, .int .i64 b3], .agg #[.int .i64 c1, .int .i64 c2, .int .i64 c3], .agg #[.int .i64 d1, .int .i64 d2, .int .i64 d3], .bool false] w (fun e w' => e = .returned (.tuple #[.agg #[.int .i64 0, .int .i64 0, .int .i64 0, .int .i64 0, .int .i64 0, .int .i64 0, .int .i64 0, .int .i64 0, .int .i64 0, .int .i64 0, .int .i64 0, .int .i64 0], .bool false]) ∧ Ex w w') := by
 have hS := Zw.refl w
 have hC := True.intro
 go_enter Tryz.func164, Tryz.ntmps164
 go_wp2
 refine Gq ?_ rfl ⟨rfl, ?_⟩
 ·simp [results, Tryz.results164, go_sem]
 ·repeat' (with_reducible first | exact hS.ex | exact Ex.refl _ | assumption | apply Ex.alloc | apply Ex.drewN | apply Ex.drew | refine Ex.setCell ?_ (by simp <;> omega) _)
theorem sMatTimes (x y : M4) (w : World) : Calls Tryz.prog 166 #[x.v, y.v] w (fun e w' => e = .returned (m4v (Yr x y)) ∧ Ex w w') := by
 unfold Yr Pt
 have kx := fun w => Kj x w
 have ky := fun w => Kj y w
 have k1 := fun w => Ly x.a y.a x.b y.c w
 have k2 := fun w => Ly x.a y.b x.b y.d w
 have k3 := fun w => Ly x.c y.a x.d y.c w
 have k4 := fun w => Ly x.c y.b x.d y.d w
 generalize Xr x.a y.a x.b y.c = s at *
 generalize Xr x.a y.b x.b y.d = t at *
 generalize Xr x.c y.a x.d y.c = u at *
 generalize Xr x.c y.b x.d y.d = v at *
 generalize x.valid = vx at *
 generalize y.valid = vy at *
 obtain ⟨⟨a1, a2, a3⟩, ⟨b1, b2, b3⟩, ⟨c1, c2, c3⟩, ⟨d1, d2, d3⟩⟩ := x
 obtain ⟨⟨e1, e2, e3⟩, ⟨f1, f2, f3⟩, ⟨g1, g2, g3⟩, ⟨h1, h2, h3⟩⟩ := y
 obtain ⟨⟨s1, s2, s3⟩, sk⟩ := s
 obtain ⟨⟨t1, t2, t3⟩, tk⟩ := t
 obtain ⟨⟨u1, u2, u3⟩, uk⟩ := u
 obtain ⟨⟨v1, v2, v3⟩, vk⟩ := v
 simp only [m4v, v2v, frv, Fr.v, M4.v, jvv, Fr.none, M4.none] at kx ky k1 k2 k3 k4 ⊢
 rcases vx with _ | _
 ·try simp only [Bool.false_and, Bool.and_false, Bool.false_eq_true, if_false, Bool.true_and, Bool.and_true]
  have KX := Gv kx
  have KY := Gv ky
  have K1 := Gv k1
  have K2 := Gv k2
  have K3 := Gv k3
  have K4 := Gv k4
  clear kx ky k1 k2 k3 k4
  have hS := Zw.refl w
  have hC := True.intro
  go_enter Tryz.func166, Tryz.ntmps166
  go_wp2_with ((first | (go_at_call 144; (first | (with_reducible refine (KX.out _).mono ?_) | (with_reducible refine (KY.out _).mono ?_)); rintro e wn ⟨rfl, hx⟩; replace hS := Zw.after (W := w) hx; clear hx; replace hC := hS.reads; simp only [Zz, Zy, Gu] at hC) | (go_at_call 178; (first | (with_reducible refine (K1.out _).mono ?_) | (with_reducible refine (K2.out _).mono ?_) | (with_reducible refine (K3.out _).mono ?_) | (with_reducible refine (K4.out _).mono ?_)); rintro e wn ⟨rfl, hx⟩; replace hS := Zw.after (W := w) hx; clear hx; replace hC := hS.reads; simp only [Zz, Zy, Gu] at hC) | (go_at_call 164; (first | (with_reducible refine (Wu _ _ _ _ _ _ _ _ _ _ _ _ _).mono ?_) | (with_reducible refine (Wz _ _ _ _ _ _ _ _ _ _ _ _ _).mono ?_)); rintro e wn ⟨rfl, hx⟩; replace hS := Zw.after (W := w) hx; clear hx; replace hC := hS.reads; simp only [Zz, Zy, Gu] at hC)))
  all_goals
   refine Gq ?_ rfl ⟨rfl, ?_⟩
   ·simp [results, Tryz.results166, go_sem, hC, *]
   ·repeat' (with_reducible first | exact hS.ex | exact Ex.refl _ | assumption | apply Ex.alloc | apply Ex.drewN | apply Ex.drew | refine Ex.setCell ?_ (by simp <;> omega) _)
 ·rcases vy with _ | _
  ·try simp only [Bool.false_and, Bool.and_false, Bool.false_eq_true, if_false, Bool.true_and, Bool.and_true]
   have KX := Gv kx
   have KY := Gv ky
   have K1 := Gv k1
   have K2 := Gv k2
   have K3 := Gv k3
   have K4 := Gv k4
   clear kx ky k1 k2 k3 k4
   have hS := Zw.refl w
   have hC := True.intro
   go_enter Tryz.func166, Tryz.ntmps166
   go_wp2_with ((first | (go_at_call 144; (first | (with_reducible refine (KX.out _).mono ?_) | (with_reducible refine (KY.out _).mono ?_)); rintro e wn ⟨rfl, hx⟩; replace hS := Zw.after (W := w) hx; clear hx; replace hC := hS.reads; simp only [Zz, Zy, Gu] at hC) | (go_at_call 178; (first | (with_reducible refine (K1.out _).mono ?_) | (with_reducible refine (K2.out _).mono ?_) | (with_reducible refine (K3.out _).mono ?_) | (with_reducible refine (K4.out _).mono ?_)); rintro e wn ⟨rfl, hx⟩; replace hS := Zw.after (W := w) hx; clear hx; replace hC := hS.reads; simp only [Zz, Zy, Gu] at hC) | (go_at_call 164; (first | (with_reducible refine (Wu _ _ _ _ _ _ _ _ _ _ _ _ _).mono ?_) | (with_reducible refine (Wz _ _ _ _ _ _ _ _ _ _ _ _ _).mono ?_)); rintro e wn ⟨rfl, hx⟩; replace hS := Zw.after (W := w) hx; clear hx; replace hC := hS.reads; simp only [Zz, Zy, Gu] at hC)))
   all_goals
    refine Gq ?_ rfl ⟨rfl, ?_⟩
    ·simp [results, Tryz.results166, go_sem, hC, *]
    ·repeat' (with_reducible first | exact hS.ex | exact Ex.refl _ | assumption | apply Ex.alloc | apply Ex.drewN | apply Ex.drew | refine Ex.setCell ?_ (by simp <;> omega) _)
  ·rcases vk with _ | _
   ·try simp only [Bool.false_and, Bool.and_false, Bool.false_eq_true, if_false, Bool.true_and, Bool.and_true]
    have KX := Gv kx
    have KY := Gv ky
    have K1 := Gv k1
    have K2 := Gv k2
    have K3 := Gv k3
    have K4 := Gv k4
    clear kx ky k1 k2 k3 k4
    have hS := Zw.refl w
    have hC := True.intro
    go_enter Tryz.func166, Tryz.ntmps166
    go_wp2_with ((first | (go_at_call 144; (first | (with_reducible refine (KX.out _).mono ?_) | (with_reducible refine (KY.out _).mono ?_)); rintro e wn ⟨rfl, hx⟩; replace hS := Zw.after (W := w) hx; clear hx; replace hC := hS.reads; simp only [Zz, Zy, Gu] at hC) | (go_at_call 178; (first | (with_reducible refine (K1.out _).mono ?_) | (with_reducible refine (K2.out _).mono ?_) | (with_reducible refine (K3.out _).mono ?_) | (with_reducible refine (K4.out _).mono ?_)); rintro e wn ⟨rfl, hx⟩; replace hS := Zw.after (W := w) hx; clear hx; replace hC := hS.reads; simp only [Zz, Zy, Gu] at hC) | (go_at_call 164; (first | (with_reducible refine (Wu _ _ _ _ _ _ _ _ _ _ _ _ _).mono ?_) | (with_reducible refine (Wz _ _ _ _ _ _ _ _ _ _ _ _ _).mono ?_)); rintro e wn ⟨rfl, hx⟩; replace hS := Zw.after (W := w) hx; clear hx; replace hC := hS.reads; simp only [Zz, Zy, Gu] at hC)))
    all_goals
     refine Gq ?_ rfl ⟨rfl, ?_⟩
     ·simp [results, Tryz.results166, go_sem, hC, *]
     ·repeat' (with_reducible first | exact hS.ex | exact Ex.refl _ | assumption | apply Ex.alloc | apply Ex.drewN | apply Ex.drew | refine Ex.setCell ?_ (by simp <;> omega) _)
   ·try simp only [Bool.and_self, if_true]
    have KX := Gv kx
    have KY := Gv ky
    have K1 := Gv k1
    have K2 := Gv k2
    have K3 := Gv k3
    have K4 := Gv k4
    clear kx ky k1 k2 k3 k4
    have hS := Zw.refl w
    have hC := True.intro
    go_enter Tryz.func166, Tryz.ntmps166
    go_wp2_with ((first | (go_at_call 144; (first | (with_reducible refine (KX.out _).mono ?_) | (with_reducible refine (KY.out _).mono ?_)); rintro e wn ⟨rfl, hx⟩; replace hS := Zw.after (W := w) hx; clear hx; replace hC := hS.reads; simp only [Zz, Zy, Gu] at hC) | (go_at_call 178; (first | (with_reducible refine (K1.out _).mono ?_) | (with_reducible refine (K2.out _).mono ?_) | (with_reducible refine (K3.out _).mono ?_) | (with_reducible refine (K4.out _).mono ?_)); rintro e wn ⟨rfl, hx⟩; replace hS := Zw.after (W := w) hx; clear hx; replace hC := hS.reads; simp only [Zz, Zy, Gu] at hC) | (go_at_call 164; (first | (with_reducible refine (Wu _ _ _ _ _ _ _ _ _ _ _ _ _).mono ?_) | (with_reducible refine (Wz _ _ _ _ _ _ _ _ _ _ _ _ _).mono ?_)); rintro e wn ⟨rfl, hx⟩; replace hS := Zw.after (W := w) hx; clear hx; replace hC := hS.reads; simp only [Zz, Zy, Gu] at hC)))
    all_goals
     refine Gq ?_ rfl ⟨rfl, ?_⟩
     ·simp [results, Tryz.results166, go_sem, hC, *]
     ·repeat' (with_reducible first | exact hS.ex | exact Ex.refl _ | assumption | apply Ex.alloc | apply Ex.drewN | apply Ex.drew | refine Ex.setCell ?_ (by simp <;> omega) _)
theorem sMatAdjoint (x : M4) (w : World) : Calls Tryz.prog 165 #[x.v] w (fun e w' => e = .returned (m4v (Us x)) ∧ Ex w w') := by
 unfold Us Pt
 have k1 := fun w => Yu.opn (Uu x.a w)
 have k2 := fun w => Yu.opn (Uu x.c w)
 have k3 := fun w => Yu.opn (Uu x.b w)
 have k4 := fun w => Yu.opn (Uu x.d w)
 generalize Ys x.a = s at *
 generalize Ys x.c = t at *
 generalize Ys x.b = u at *
 generalize Ys x.d = v at *
 obtain ⟨⟨a1, a2, a3⟩, ⟨b1, b2, b3⟩, ⟨c1, c2, c3⟩, ⟨d1, d2, d3⟩⟩ := x
 obtain ⟨⟨s1, s2, s3⟩, sk⟩ := s
 obtain ⟨⟨t1, t2, t3⟩, tk⟩ := t
 obtain ⟨⟨u1, u2, u3⟩, uk⟩ := u
 obtain ⟨⟨v1, v2, v3⟩, vk⟩ := v
 simp only [m4v, v2v, frv, Fr.v, M4.v, jvv, Fr.none, M4.none] at k1 k2 k3 k4 ⊢
 rcases vk with _ | _
 ·try simp only [Bool.false_and, Bool.and_false, Bool.false_eq_true, if_false, Bool.true_and, Bool.and_true]
  have K1 := Gv k1
  have K2 := Gv k2
  have K3 := Gv k3
  have K4 := Gv k4
  clear k1 k2 k3 k4
  have hS := Zw.refl w
  have hC := True.intro
  go_enter Tryz.func165, Tryz.ntmps165
  go_wp2_with ((first | (go_at_call 99; (first | (with_reducible refine (K1.out _).mono ?_) | (with_reducible refine (K2.out _).mono ?_) | (with_reducible refine (K3.out _).mono ?_) | (with_reducible refine (K4.out _).mono ?_)); rintro e wn ⟨rfl, hx⟩; replace hS := Zw.after (W := w) hx; clear hx; replace hC := hS.reads; simp only [Zz, Zy, Gu] at hC) | (go_at_call 164; (first | (with_reducible refine (Wu _ _ _ _ _ _ _ _ _ _ _ _ _).mono ?_) | (with_reducible refine (Wz _ _ _ _ _ _ _ _ _ _ _ _ _).mono ?_)); rintro e wn ⟨rfl, hx⟩; replace hS := Zw.after (W := w) hx; clear hx; replace hC := hS.reads; simp only [Zz, Zy, Gu] at hC)))
  all_goals
   refine Gq ?_ rfl ⟨rfl, ?_⟩
   ·simp [results, Tryz.results165, go_sem, hC, *]
   ·repeat' (with_reducible first | exact hS.ex | exact Ex.refl _ | assumption | apply Ex.alloc | apply Ex.drewN | apply Ex.drew | refine Ex.setCell ?_ (by simp <;> omega) _)
 ·try simp only [Bool.and_self, if_true]
  have K1 := Gv k1
  have K2 := Gv k2
  have K3 := Gv k3
  have K4 := Gv k4
  clear k1 k2 k3 k4
  have hS := Zw.refl w
  have hC := True.intro
  go_enter Tryz.func165, Tryz.ntmps165
  go_wp2_with ((first | (go_at_call 99; (first | (with_reducible refine (K1.out _).mono ?_) | (with_reducible refine (K2.out _).mono ?_) | (with_reducible refine (K3.out _).mono ?_) | (with_reducible refine (K4.out _).mono ?_)); rintro e wn ⟨rfl, hx⟩; replace hS := Zw.after (W := w) hx; clear hx; replace hC := hS.reads; simp only [Zz, Zy, Gu] at hC) | (go_at_call 164; (first | (with_reducible refine (Wu _ _ _ _ _ _ _ _ _ _ _ _ _).mono ?_) | (with_reducible refine (Wz _ _ _ _ _ _ _ _ _ _ _ _ _).mono ?_)); rintro e wn ⟨rfl, hx⟩; replace hS := Zw.after (W := w) hx; clear hx; replace hC := hS.reads; simp only [Zz, Zy, Gu] at hC)))
  all_goals
   refine Gq ?_ rfl ⟨rfl, ?_⟩
   ·simp [results, Tryz.results165, go_sem, hC, *]
   ·repeat' (with_reducible first | exact hS.ex | exact Ex.refl _ | assumption | apply Ex.alloc | apply Ex.drewN | apply Ex.drew | refine Ex.setCell ?_ (by simp <;> omega) _)
end
end Go.Proofs.YtmmjkchjgeklnaaGreatDoor
