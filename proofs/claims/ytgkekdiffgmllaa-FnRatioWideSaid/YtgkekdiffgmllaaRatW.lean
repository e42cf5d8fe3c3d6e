/-
  Walks: wide vectors and their ratios.
-/
import Derived.Test.YtgkekdiffgmllaaFltW
import Derived.Test.YtgkekdiffgmllaaRatR
namespace Go.Proofs.Ytgkekdiffgmllaa
open Go.RowKit

open Ieee
def jv (x y : Fr) : Value := .agg #[.int .i64 x.re, .int .i64 x.im, .int .i64 x.den, .int .i64 y.re, .int .i64 y.im, .int .i64 y.den]
theorem fwide_no {a : Fr} (h : a.valid = false) : fwide a = (0, 0, false) := by simp [fwide, h]
theorem fwide_ok {a : Fr} (h : a.valid = true) : fwide a = (wpart a.re a.den, wpart a.im a.den, true) := by simp [fwide, h]
theorem iJonesValid (x y : Fr) (w : World) : Calls Try.prog 57 #[jv x y] w fun e w' => e = .returned (.bool (x.valid && y.valid)) ∧ Ex w w' := by
  obtain ⟨x1, x2, x3⟩ := x
  obtain ⟨y1, y2, y3⟩ := y
  show Calls _ _ #[.agg #[.int .i64 x1, .int .i64 x2, .int .i64 x3, .int .i64 y1, .int .i64 y2, .int .i64 y3]] _ fun e w' => e = .returned (.bool (fvalid x1 x2 x3 && fvalid y1 y2 y3)) ∧ Ex w w'
  have k1 := fun w => iFracValid x1 x2 x3 w
  have k2 := fun w => iFracValid y1 y2 y3 w
  generalize fvalid x1 x2 x3 = p at k1 ⊢
  generalize fvalid y1 y2 y3 = q at k2 ⊢
  rcases p with _ | _
  · go_enter Try.func57, Try.ntmps57
    go_wp2_with fail
    refine (k1 _).mono ?_
    rintro e w1 ⟨rfl, hx⟩
    have bV := (Box.new _ _ _).ex hx
    replace hx := ((Ex.refl w).alloc _).trans hx
    have hE := hx
    have cbV := bV.cell
    have fbV := bV.frozen
    have zbV := bV.lt
    clear hx
    go_wp2
    go_ret
    refine ⟨ret_bool (by simp), ?_⟩
    repeat' (with_reducible first | exact Ex.refl _ | assumption | refine Ex.alloc ?_ _ | refine Ex.drewN ?_ _ | refine Ex.drew ?_ | refine Ex.setCell ?_ (by simp <;> omega) _)
  · go_enter Try.func57, Try.ntmps57
    go_wp2_with fail
    refine (k1 _).mono ?_
    rintro e w1 ⟨rfl, hx⟩
    have bV := (Box.new _ _ _).ex hx
    replace hx := ((Ex.refl w).alloc _).trans hx
    have hE := hx
    have cbV := bV.cell
    have fbV := bV.frozen
    have zbV := bV.lt
    clear hx
    go_wp2_with fail
    refine (k2 _).mono ?_
    rintro e w2 ⟨rfl, hx⟩
    replace hE := hE.trans hx
    replace bV := bV.ex hx
    replace cbV := bV.cell
    replace fbV := bV.frozen
    replace zbV := bV.lt
    clear hx
    go_wp2
    go_ret
    refine ⟨ret_bool (by simp), ?_⟩
    repeat' (with_reducible first | exact Ex.refl _ | assumption | refine Ex.alloc ?_ _ | refine Ex.drewN ?_ _ | refine Ex.drew ?_ | refine Ex.setCell ?_ (by simp <;> omega) _)
/-- Both parts wide, and whether the vector is one. -/
def jwide (x y : Fr) : (Nat × Nat × Nat × Nat) × Bool := if x.valid && y.valid then ((wpart x.re x.den, wpart x.im x.den, wpart y.re y.den, wpart y.im y.den), true) else ((0, 0, 0, 0), false)
def WideGot (w : World) (r : (Nat × Nat × Nat × Nat) × Bool) : Ending → World → Prop := fun e w' => e = .returned (.tuple #[.complex .f64 r.1.1 r.1.2.1, .complex .f64 r.1.2.2.1 r.1.2.2.2, .bool r.2]) ∧ Ex w w'
set_option maxHeartbeats 400000 in
theorem iJonesWide (x y : Fr) (w : World) : Calls Try.prog 18 #[jv x y] w (WideGot w (jwide x y)) := by
  have k0 := fun w => iJonesValid x y w
  have k1 := fun w => iFracWide x w
  have k2 := fun w => iFracWide y w
  rcases hx : x.valid with _ | _
  · have hr : jwide x y = ((0, 0, 0, 0), false) := by simp [jwide, hx]
    rw [hr]
    simp only [hx, Bool.false_and] at k0
    simp only [fwide_no hx] at k1
    generalize fwide y = r at k2
    obtain ⟨r1, r2, r3⟩ := r
    clear hr
    clear hx
    obtain ⟨x1, x2, x3⟩ := x
    obtain ⟨y1, y2, y3⟩ := y
    show Calls _ _ #[.agg #[.int .i64 x1, .int .i64 x2, .int .i64 x3, .int .i64 y1, .int .i64 y2, .int .i64 y3]] _ _
    have K0 := Lib.hid k0
    have K1 := Lib.hid k1
    have K2 := Lib.hid k2
    clear k0 k1 k2
    go_enter Try.func18, Try.ntmps18
    go_wp2_with fail
    refine (K0.out _).mono ?_
    rintro e w1 ⟨rfl, hx⟩
    have bV := (Box.new _ _ _).ex hx
    replace hx := ((Ex.refl w).alloc _).trans hx
    have hE := hx
    have cbV := bV.cell
    have fbV := bV.frozen
    have zbV := bV.lt
    clear hx
    go_wp2
    refine bodyPost_ret (v := .tuple #[.complex .f64 0 0, .complex .f64 0 0, .bool false]) ?_ rfl ⟨rfl, ?_⟩
    · simp [results, Try.results18, go_sem]
    · repeat' (with_reducible first | exact Ex.refl _ | assumption | refine Ex.alloc ?_ _ | refine Ex.drewN ?_ _ | refine Ex.drew ?_ | refine Ex.setCell ?_ (by simp <;> omega) _)
  rcases hy : y.valid with _ | _
  · have hr : jwide x y = ((0, 0, 0, 0), false) := by simp [jwide, hy]
    rw [hr]
    simp only [hx, hy, Bool.and_false] at k0
    simp only [fwide_no hy] at k2
    simp only [fwide_ok hx] at k1
    clear hr
    generalize wpart x.re x.den = p1 at k1
    generalize wpart x.im x.den = p2 at k1
    clear hx hy
    obtain ⟨x1, x2, x3⟩ := x
    obtain ⟨y1, y2, y3⟩ := y
    show Calls _ _ #[.agg #[.int .i64 x1, .int .i64 x2, .int .i64 x3, .int .i64 y1, .int .i64 y2, .int .i64 y3]] _ _
    have K0 := Lib.hid k0
    have K1 := Lib.hid k1
    have K2 := Lib.hid k2
    clear k0 k1 k2
    go_enter Try.func18, Try.ntmps18
    go_wp2_with fail
    refine (K0.out _).mono ?_
    rintro e w1 ⟨rfl, hx⟩
    have bV := (Box.new _ _ _).ex hx
    replace hx := ((Ex.refl w).alloc _).trans hx
    have hE := hx
    have cbV := bV.cell
    have fbV := bV.frozen
    have zbV := bV.lt
    clear hx
    go_wp2
    refine bodyPost_ret (v := .tuple #[.complex .f64 0 0, .complex .f64 0 0, .bool false]) ?_ rfl ⟨rfl, ?_⟩
    · simp [results, Try.results18, go_sem]
    · repeat' (with_reducible first | exact Ex.refl _ | assumption | refine Ex.alloc ?_ _ | refine Ex.drewN ?_ _ | refine Ex.drew ?_ | refine Ex.setCell ?_ (by simp <;> omega) _)
  have hr : jwide x y = ((wpart x.re x.den, wpart x.im x.den, wpart y.re y.den, wpart y.im y.den), true) := by simp [jwide, hx, hy]
  rw [hr]
  simp only [hx, hy, Bool.and_self] at k0
  simp only [fwide_ok hx] at k1
  simp only [fwide_ok hy] at k2
  clear hr
  generalize wpart x.re x.den = p1 at k1 ⊢
  generalize wpart x.im x.den = p2 at k1 ⊢
  generalize wpart y.re y.den = q1 at k2 ⊢
  generalize wpart y.im y.den = q2 at k2 ⊢
  clear hx hy
  obtain ⟨x1, x2, x3⟩ := x
  obtain ⟨y1, y2, y3⟩ := y
  show Calls _ _ #[.agg #[.int .i64 x1, .int .i64 x2, .int .i64 x3, .int .i64 y1, .int .i64 y2, .int .i64 y3]] _ _
  have K0 := Lib.hid k0
  have K1 := Lib.hid k1
  have K2 := Lib.hid k2
  clear k0 k1 k2
  go_enter Try.func18, Try.ntmps18
  go_wp2_with fail
  refine (K0.out _).mono ?_
  rintro e w1 ⟨rfl, hx⟩
  have bV := (Box.new _ _ _).ex hx
  replace hx := ((Ex.refl w).alloc _).trans hx
  have hE := hx
  have cbV := bV.cell
  have fbV := bV.frozen
  have zbV := bV.lt
  clear hx
  go_wp2_with fail
  refine (K1.out _).mono ?_
  rintro e w2 ⟨rfl, hx⟩
  replace hE := hE.trans hx
  replace bV := bV.ex hx
  replace cbV := bV.cell
  replace fbV := bV.frozen
  replace zbV := bV.lt
  clear hx
  go_wp2_with fail
  refine (K2.out _).mono ?_
  rintro e w3 ⟨rfl, hx⟩
  replace hE := hE.trans hx
  replace bV := bV.ex hx
  replace cbV := bV.cell
  replace fbV := bV.frozen
  replace zbV := bV.lt
  clear hx
  go_wp2
  refine bodyPost_ret (v := .tuple #[.complex .f64 p1 p2, .complex .f64 q1 q2, .bool true]) ?_ rfl ⟨rfl, ?_⟩
  · simp [results, Try.results18, go_sem]
  · repeat' (with_reducible first | exact Ex.refl _ | assumption | refine Ex.alloc ?_ _ | refine Ex.drewN ?_ _ | refine Ex.drew ?_ | refine Ex.setCell ?_ (by simp <;> omega) _)
set_option maxHeartbeats 400000 in
theorem sJonesWide (x y : Fr) (w : World) : Calls Try.prog 54 #[jv x y] w (WideGot w (jwide x y)) := by
  have k1 := fun w => sFracWide x w
  have k2 := fun w => sFracWide y w
  rcases hx : x.valid with _ | _
  · have hr : jwide x y = ((0, 0, 0, 0), false) := by simp [jwide, hx]
    rw [hr]
    simp only [fwide_no hx] at k1
    generalize fwide y = r at k2
    obtain ⟨r1, r2, r3⟩ := r
    clear hr
    clear hx
    obtain ⟨x1, x2, x3⟩ := x
    obtain ⟨y1, y2, y3⟩ := y
    show Calls _ _ #[.agg #[.int .i64 x1, .int .i64 x2, .int .i64 x3, .int .i64 y1, .int .i64 y2, .int .i64 y3]] _ _
    have K1 := Lib.hid k1
    have K2 := Lib.hid k2
    clear k1 k2
    go_enter Try.func54, Try.ntmps54
    go_wp2_with fail
    refine (K1.out _).mono ?_
    rintro e w1 ⟨rfl, hx⟩
    have bV := (Box.new _ _ _).ex hx
    replace hx := ((Ex.refl w).alloc _).trans hx
    have hE := hx
    have cbV := bV.cell
    have fbV := bV.frozen
    have zbV := bV.lt
    clear hx
    go_wp2_with fail
    refine (K2.out _).mono ?_
    rintro e w2 ⟨rfl, hx⟩
    replace hE := hE.trans hx
    replace bV := bV.ex hx
    replace cbV := bV.cell
    replace fbV := bV.frozen
    replace zbV := bV.lt
    clear hx
    go_wp2
    refine bodyPost_ret (v := .tuple #[.complex .f64 0 0, .complex .f64 0 0, .bool false]) ?_ rfl ⟨rfl, ?_⟩
    · simp [results, Try.results54, go_sem]
    · repeat' (with_reducible first | exact Ex.refl _ | assumption | refine Ex.alloc ?_ _ | refine Ex.drewN ?_ _ | refine Ex.drew ?_ | refine Ex.setCell ?_ (by simp <;> omega) _)
  rcases hy : y.valid with _ | _
  · have hr : jwide x y = ((0, 0, 0, 0), false) := by simp [jwide, hy]
    rw [hr]
    simp only [fwide_no hy] at k2
    simp only [fwide_ok hx] at k1
    clear hr
    generalize wpart x.re x.den = p1 at k1
    generalize wpart x.im x.den = p2 at k1
    clear hx hy
    obtain ⟨x1, x2, x3⟩ := x
    obtain ⟨y1, y2, y3⟩ := y
    show Calls _ _ #[.agg #[.int .i64 x1, .int .i64 x2, .int .i64 x3, .int .i64 y1, .int .i64 y2, .int .i64 y3]] _ _
    have K1 := Lib.hid k1
    have K2 := Lib.hid k2
    clear k1 k2
    go_enter Try.func54, Try.ntmps54
    go_wp2_with fail
    refine (K1.out _).mono ?_
    rintro e w1 ⟨rfl, hx⟩
    have bV := (Box.new _ _ _).ex hx
    replace hx := ((Ex.refl w).alloc _).trans hx
    have hE := hx
    have cbV := bV.cell
    have fbV := bV.frozen
    have zbV := bV.lt
    clear hx
    go_wp2_with fail
    refine (K2.out _).mono ?_
    rintro e w2 ⟨rfl, hx⟩
    replace hE := hE.trans hx
    replace bV := bV.ex hx
    replace cbV := bV.cell
    replace fbV := bV.frozen
    replace zbV := bV.lt
    clear hx
    go_wp2
    refine bodyPost_ret (v := .tuple #[.complex .f64 0 0, .complex .f64 0 0, .bool false]) ?_ rfl ⟨rfl, ?_⟩
    · simp [results, Try.results54, go_sem]
    · repeat' (with_reducible first | exact Ex.refl _ | assumption | refine Ex.alloc ?_ _ | refine Ex.drewN ?_ _ | refine Ex.drew ?_ | refine Ex.setCell ?_ (by simp <;> omega) _)
  have hr : jwide x y = ((wpart x.re x.den, wpart x.im x.den, wpart y.re y.den, wpart y.im y.den), true) := by simp [jwide, hx, hy]
  rw [hr]
  simp only [fwide_ok hx] at k1
  simp only [fwide_ok hy] at k2
  clear hr
  generalize wpart x.re x.den = p1 at k1 ⊢
  generalize wpart x.im x.den = p2 at k1 ⊢
  generalize wpart y.re y.den = q1 at k2 ⊢
  generalize wpart y.im y.den = q2 at k2 ⊢
  clear hx hy
  obtain ⟨x1, x2, x3⟩ := x
  obtain ⟨y1, y2, y3⟩ := y
  show Calls _ _ #[.agg #[.int .i64 x1, .int .i64 x2, .int .i64 x3, .int .i64 y1, .int .i64 y2, .int .i64 y3]] _ _
  have K1 := Lib.hid k1
  have K2 := Lib.hid k2
  clear k1 k2
  go_enter Try.func54, Try.ntmps54
  go_wp2_with fail
  refine (K1.out _).mono ?_
  rintro e w1 ⟨rfl, hx⟩
  have bV := (Box.new _ _ _).ex hx
  replace hx := ((Ex.refl w).alloc _).trans hx
  have hE := hx
  have cbV := bV.cell
  have fbV := bV.frozen
  have zbV := bV.lt
  clear hx
  go_wp2_with fail
  refine (K2.out _).mono ?_
  rintro e w2 ⟨rfl, hx⟩
  replace hE := hE.trans hx
  replace bV := bV.ex hx
  replace cbV := bV.cell
  replace fbV := bV.frozen
  replace zbV := bV.lt
  clear hx
  go_wp2
  refine bodyPost_ret (v := .tuple #[.complex .f64 p1 p2, .complex .f64 q1 q2, .bool true]) ?_ rfl ⟨rfl, ?_⟩
  · simp [results, Try.results54, go_sem]
  · repeat' (with_reducible first | exact Ex.refl _ | assumption | refine Ex.alloc ?_ _ | refine Ex.drewN ?_ _ | refine Ex.drew ?_ | refine Ex.setCell ?_ (by simp <;> omega) _)
/-- A quotient: parts that are those up to the bits of a NaN. -/
def QuoR (w : World) (o o' : Option Nat) : Ending → World → Prop := fun e w' => ∃ p q, e = .returned (.complex .f64 p q) ∧ Ex w w' ∧ Rel p o ∧ Rel q o'
theorem quo_choice {a b c d : Nat} (ha : Fin64 a) (hb : Fin64 b) (hc : Fin64 c) (hd : Fin64 d) : ∃ (E F : World → Nat) (W : World → World),
    (∀ t w, (binOp .quo t (.complex .f64 a b) (.complex .f64 c d)).run Try.prog w = .ok (.complex .f64 (E w) (F w)) (W w)) ∧ ∀ w, Ex w (W w) ∧ Rel (E w) (qopt a b c d).1 ∧ Rel (F w) (qopt a b c d).2 := by
  have h := fun w => quotient_rel (P := Try.prog) ha hb hc hd w
  have h2 : ∃ (E F : World → Nat) (W : World → World), ∀ w, (Op.Complex.quotient a b c d).run Try.prog w = .ok (E w, F w) (W w) ∧ Ex w (W w) ∧ Rel (E w) (qopt a b c d).1 ∧ Rel (F w) (qopt a b c d).2 :=
    ⟨fun w => (h w).choose, fun w => (h w).choose_spec.choose, fun w => (h w).choose_spec.choose_spec.choose, fun w => (h w).choose_spec.choose_spec.choose_spec⟩
  clear h
  obtain ⟨E, F, W, h3⟩ := h2
  refine ⟨E, F, W, fun t w => ?_, fun w => (h3 w).2⟩
  have hq := (h3 w).1
  simp [binOp, Op.complexOp, Op.Complex.conv, hq]
theorem iWideOver {a b c d : Nat} (ha : Fin64 a) (hb : Fin64 b) (hc : Fin64 c) (hd : Fin64 d) (w : World) : Calls Try.prog 19 #[.complex .f64 a b, .complex .f64 c d] w (QuoR w (qopt a b c d).1 (qopt a b c d).2) := by
  obtain ⟨E, F, W, hr, hE⟩ := quo_choice ha hb hc hd
  generalize qopt a b c d = o at hE ⊢
  clear ha hb hc hd
  go_enter Try.func19, Try.ntmps19
  go_wp2_with (simp only [hr])
  go_ret
  obtain ⟨h1, h2, h3⟩ := hE w
  exact ⟨_, _, rfl, h1, h2, h3⟩
theorem sWideOver {a b c d : Nat} (ha : Fin64 a) (hb : Fin64 b) (hc : Fin64 c) (hd : Fin64 d) (w : World) : Calls Try.prog 55 #[.complex .f64 a b, .complex .f64 c d] w (QuoR w (qopt a b c d).1 (qopt a b c d).2) := by
  obtain ⟨E, F, W, hr, hE⟩ := quo_choice ha hb hc hd
  generalize qopt a b c d = o at hE ⊢
  clear ha hb hc hd
  go_enter Try.func55, Try.ntmps55
  go_wp2_with (simp only [hr])
  go_ret
  obtain ⟨h1, h2, h3⟩ := hE w
  exact ⟨_, _, rfl, h1, h2, h3⟩
/-- What a wide ratio is. -/
def RatG (w : World) (x y : Fr) : Ending → World → Prop := fun e w' => ∃ p q, e = .returned (.tuple #[.complex .f64 p q, .bool (x.valid && y.valid)]) ∧ Ex w w' ∧
  ((x.valid && y.valid) = false → p = 0 ∧ q = 0) ∧ ((x.valid && y.valid) = true → Rel p (qopt (wpart x.re x.den) (wpart x.im x.den) (wpart y.re y.den) (wpart y.im y.den)).1 ∧ Rel q (qopt (wpart x.re x.den) (wpart x.im x.den) (wpart y.re y.den) (wpart y.im y.den)).2)
theorem fin_parts {x : Fr} (h : x.valid = true) : Fin64 (wpart x.re x.den) ∧ Fin64 (wpart x.im x.den) := by
  obtain ⟨p1, p2, p3, -⟩ := Fr.valid_out h
  exact ⟨wpart_fin _ _ p1.1 p1.2 p3.1 p3.2, wpart_fin _ _ p2.1 p2.2 p3.1 p3.2⟩
set_option maxHeartbeats 400000 in
theorem iRatioWide (x y : Fr) (w : World) : Calls Try.prog 15 #[jv x y] w (RatG w x y) := by
  unfold RatG
  have k1 := fun w => iJonesWide x y w
  rcases hv : (x.valid && y.valid) with _ | _
  · have hr : jwide x y = ((0, 0, 0, 0), false) := by simp [jwide, hv]
    rw [hr] at k1
    clear hr hv
    obtain ⟨x1, x2, x3⟩ := x
    obtain ⟨y1, y2, y3⟩ := y
    show Calls _ _ #[.agg #[.int .i64 x1, .int .i64 x2, .int .i64 x3, .int .i64 y1, .int .i64 y2, .int .i64 y3]] _ _
    have K1 := Lib.hid k1
    clear k1
    go_enter Try.func15, Try.ntmps15
    go_wp2_with fail
    refine (K1.out _).mono ?_
    rintro e w1 ⟨rfl, hx⟩
    have bV := (Box.new _ _ _).ex hx
    replace hx := ((Ex.refl w).alloc _).trans hx
    have hE := hx
    have cbV := bV.cell
    have fbV := bV.frozen
    have zbV := bV.lt
    clear hx
    go_wp2
    refine bodyPost_ret (v := .tuple #[.complex .f64 0 0, .bool false]) ?_ rfl ⟨0, 0, rfl, ?_, (fun _ => ⟨rfl, rfl⟩), (fun h => by cases h)⟩
    · simp [results, Try.results15, go_sem]
    · repeat' (with_reducible first | exact Ex.refl _ | assumption | refine Ex.alloc ?_ _ | refine Ex.drewN ?_ _ | refine Ex.drew ?_ | refine Ex.setCell ?_ (by simp <;> omega) _)
  · have hr : jwide x y = ((wpart x.re x.den, wpart x.im x.den, wpart y.re y.den, wpart y.im y.den), true) := by simp [jwide, hv]
    rw [hr] at k1
    rw [Bool.and_eq_true] at hv
    obtain ⟨f1, f2⟩ := fin_parts hv.1
    obtain ⟨f3, f4⟩ := fin_parts hv.2
    clear hr hv
    generalize wpart x.re x.den = p1 at *
    generalize wpart x.im x.den = p2 at *
    generalize wpart y.re y.den = q1 at *
    generalize wpart y.im y.den = q2 at *
    have k2 := fun w => iWideOver f1 f2 f3 f4 w
    generalize qopt p1 p2 q1 q2 = o at k2 ⊢
    clear f1 f2 f3 f4
    obtain ⟨x1, x2, x3⟩ := x
    obtain ⟨y1, y2, y3⟩ := y
    show Calls _ _ #[.agg #[.int .i64 x1, .int .i64 x2, .int .i64 x3, .int .i64 y1, .int .i64 y2, .int .i64 y3]] _ _
    have K1 := Lib.hid k1
    have K2 := Lib.hid k2
    clear k1 k2
    go_enter Try.func15, Try.ntmps15
    go_wp2_with fail
    refine (K1.out _).mono ?_
    rintro e w1 ⟨rfl, hx⟩
    have bV := (Box.new _ _ _).ex hx
    replace hx := ((Ex.refl w).alloc _).trans hx
    have hE := hx
    have cbV := bV.cell
    have fbV := bV.frozen
    have zbV := bV.lt
    clear hx
    go_wp2_with fail
    refine (K2.out _).mono ?_
    rintro e w2 ⟨p, q, rfl, hx, hp, hq⟩
    replace hE := hE.trans hx
    replace bV := bV.ex hx
    replace cbV := bV.cell
    replace fbV := bV.frozen
    replace zbV := bV.lt
    clear hx
    go_wp2
    refine bodyPost_ret (v := .tuple #[.complex .f64 p q, .bool true]) ?_ rfl ⟨p, q, rfl, ?_, (fun h => by cases h), (fun _ => ⟨hp, hq⟩)⟩
    · simp [results, Try.results15, go_sem]
    · repeat' (with_reducible first | exact Ex.refl _ | assumption | refine Ex.alloc ?_ _ | refine Ex.drewN ?_ _ | refine Ex.drew ?_ | refine Ex.setCell ?_ (by simp <;> omega) _)
set_option maxHeartbeats 400000 in
theorem sRatioWide (x y : Fr) (w : World) : Calls Try.prog 16 #[jv x y] w (RatG w x y) := by
  unfold RatG
  have k1 := fun w => sJonesWide x y w
  rcases hv : (x.valid && y.valid) with _ | _
  · have hr : jwide x y = ((0, 0, 0, 0), false) := by simp [jwide, hv]
    rw [hr] at k1
    clear hr hv
    obtain ⟨x1, x2, x3⟩ := x
    obtain ⟨y1, y2, y3⟩ := y
    show Calls _ _ #[.agg #[.int .i64 x1, .int .i64 x2, .int .i64 x3, .int .i64 y1, .int .i64 y2, .int .i64 y3]] _ _
    have K1 := Lib.hid k1
    clear k1
    go_enter Try.func16, Try.ntmps16
    go_wp2_with fail
    refine (K1.out _).mono ?_
    rintro e w1 ⟨rfl, hx⟩
    have bV := (Box.new _ _ _).ex hx
    replace hx := ((Ex.refl w).alloc _).trans hx
    have hE := hx
    have cbV := bV.cell
    have fbV := bV.frozen
    have zbV := bV.lt
    clear hx
    go_wp2
    refine bodyPost_ret (v := .tuple #[.complex .f64 0 0, .bool false]) ?_ rfl ⟨0, 0, rfl, ?_, (fun _ => ⟨rfl, rfl⟩), (fun h => by cases h)⟩
    · simp [results, Try.results16, go_sem]
    · repeat' (with_reducible first | exact Ex.refl _ | assumption | refine Ex.alloc ?_ _ | refine Ex.drewN ?_ _ | refine Ex.drew ?_ | refine Ex.setCell ?_ (by simp <;> omega) _)
  · have hr : jwide x y = ((wpart x.re x.den, wpart x.im x.den, wpart y.re y.den, wpart y.im y.den), true) := by simp [jwide, hv]
    rw [hr] at k1
    rw [Bool.and_eq_true] at hv
    obtain ⟨f1, f2⟩ := fin_parts hv.1
    obtain ⟨f3, f4⟩ := fin_parts hv.2
    clear hr hv
    generalize wpart x.re x.den = p1 at *
    generalize wpart x.im x.den = p2 at *
    generalize wpart y.re y.den = q1 at *
    generalize wpart y.im y.den = q2 at *
    have k2 := fun w => sWideOver f1 f2 f3 f4 w
    generalize qopt p1 p2 q1 q2 = o at k2 ⊢
    clear f1 f2 f3 f4
    obtain ⟨x1, x2, x3⟩ := x
    obtain ⟨y1, y2, y3⟩ := y
    show Calls _ _ #[.agg #[.int .i64 x1, .int .i64 x2, .int .i64 x3, .int .i64 y1, .int .i64 y2, .int .i64 y3]] _ _
    have K1 := Lib.hid k1
    have K2 := Lib.hid k2
    clear k1 k2
    go_enter Try.func16, Try.ntmps16
    go_wp2_with fail
    refine (K1.out _).mono ?_
    rintro e w1 ⟨rfl, hx⟩
    have bV := (Box.new _ _ _).ex hx
    replace hx := ((Ex.refl w).alloc _).trans hx
    have hE := hx
    have cbV := bV.cell
    have fbV := bV.frozen
    have zbV := bV.lt
    clear hx
    go_wp2_with fail
    refine (K2.out _).mono ?_
    rintro e w2 ⟨p, q, rfl, hx, hp, hq⟩
    replace hE := hE.trans hx
    replace bV := bV.ex hx
    replace cbV := bV.cell
    replace fbV := bV.frozen
    replace zbV := bV.lt
    clear hx
    go_wp2
    refine bodyPost_ret (v := .tuple #[.complex .f64 p q, .bool true]) ?_ rfl ⟨p, q, rfl, ?_, (fun h => by cases h), (fun _ => ⟨hp, hq⟩)⟩
    · simp [results, Try.results16, go_sem]
    · repeat' (with_reducible first | exact Ex.refl _ | assumption | refine Ex.alloc ?_ _ | refine Ex.drewN ?_ _ | refine Ex.drew ?_ | refine Ex.setCell ?_ (by simp <;> omega) _)
theorem zeroAlike_rel {a b : Nat} {o : Option Nat} (ha : Rel a o) (hb : Rel b o) (w : World) : Calls Try.prog 56 #[.float .f64 a, .float .f64 b] w fun e w' => e = .returned (.bool true) ∧ w' = w := by
  rcases h : Op.Complex.isNaN a with _ | _
  · have hab : a = b := by
      cases o with
      | none => rw [show Op.Complex.isNaN a = true from ha] at h; cases h
      | some v => exact Eq.trans ha (Eq.symm hb)
    subst hab
    have hs : FloatKind.f64.format.order a a = some .eq := order_not h
    obtain ⟨r, hr, hr2⟩ := one_over_not h
    have hr3 : FloatKind.f64.format.order r r = some .eq := hr2
    have ho : ∀ t w, (binOp .quo t (.float .f64 4607182418800017408) (.float .f64 a)).run Try.prog w = .ok (.float .f64 r) w := fun t w => run_float_arith w .quo t .f64 _ _ _ hr
    clear ha hb hr h hr2
    go_enter Try.func56, Try.ntmps56
    go_wp2_with (simp only [ho])
    all_goals
      go_ret
      exact ⟨ret_bool (by simp [hr3]), rfl⟩
  · have hb2 : Op.Complex.isNaN b = true := by rw [hb.nan, ← ha.nan, h]
    have h1 : FloatKind.f64.format.order a a = none := order_nan h
    have h2 : FloatKind.f64.format.order b b = none := order_nan hb2
    clear ha hb h hb2
    go_enter Try.func56, Try.ntmps56
    go_wp2
    go_ret
    exact ⟨ret_bool (by simp [h2]), rfl⟩
theorem wideAlike_rel {a b c d : Nat} {o o' : Option Nat} (ha : Rel a o) (hc : Rel c o) (hb : Rel b o') (hd : Rel d o') (w : World) : Calls Try.prog 17 #[.complex .f64 a b, .complex .f64 c d] w fun e w' => e = .returned (.bool true) ∧ w' = w := by
  have k1 := fun w => zeroAlike_rel ha hc w
  have k2 := fun w => zeroAlike_rel hb hd w
  have K1 := Lib.hid k1
  have K2 := Lib.hid k2
  clear k1 k2 ha hb hc hd
  go_enter Try.func17, Try.ntmps17
  go_wp2_with fail
  refine (K1.out _).mono ?_
  rintro e w1 ⟨rfl, rfl⟩
  go_wp2_with fail
  refine (K2.out _).mono ?_
  rintro e w1 ⟨rfl, rfl⟩
  go_wp2
  go_ret
  exact ⟨rfl, rfl⟩
end Go.Proofs.Ytgkekdiffgmllaa
