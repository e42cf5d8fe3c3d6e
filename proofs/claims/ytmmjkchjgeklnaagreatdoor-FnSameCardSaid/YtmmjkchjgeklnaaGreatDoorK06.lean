/-
  Proved: what functions compute, part 6. No condition.
-/
import Derived.Test.YtmmjkchjgeklnaaGreatDoorK04
set_option linter.unusedSimpArgs false
set_option linter.unusedVariables false
set_option maxRecDepth 20000
set_option maxHeartbeats 8000000
namespace Go.Proofs.YtmmjkchjgeklnaaGreatDoor
section
open Go.RowKit

theorem iFracLess (a b : Fr) (w : World) : Calls Tryz.prog 162 #[a.v, b.v] w (Yu w (Xj a b)) := by
 obtain ⟨a1, a2, a3⟩ := a
 obtain ⟨b1, b2, b3⟩ := b
 show Calls _ _ #[.agg #[.int .i64 a1, .int .i64 a2, .int .i64 a3], .agg #[.int .i64 b1, .int .i64 b2, .int .i64 b3]] _ _
 have k1 := fun w => Xx a1 a2 a3 w
 have k2 := fun w => Xx b1 b2 b3 w
 rcases h1 : Zh a1 a2 a3 with _ | _
 ·have hr : Xj ⟨a1, a2, a3⟩ ⟨b1, b2, b3⟩ = (Fr.none, false) := by simp [Xj, Fr.valid, h1]
  simp only [h1] at k1
  rw [hr]
  have K1 := Gv k1
  clear hr k1 k2 h1
  go_enter Tryz.func162, Tryz.ntmps162
  go_wp2_with fail
  refine (K1.out _).mono ?_
  rintro e w1 ⟨rfl, hx⟩
  have bA := (((Box.new _ _ _).alloc _).alloc _).ex hx
  have bB := ((Box.new _ _ _).alloc _).ex hx
  simp only [Gu] at bB
  have bR := (Box.new _ _ _).ex hx
  simp only [Gu] at bR
  replace hx := ((((Ex.refl w).alloc _).alloc _).alloc _).trans hx
  have hE := hx
  have cbA := bA.cell
  have fbA := bA.frozen
  have zbA := bA.lt
  have cbB := bB.cell
  have fbB := bB.frozen
  have zbB := bB.lt
  have cbR := bR.cell
  have fbR := bR.frozen
  have zbR := bR.lt
  clear hx
  go_wp2
  refine Gq (v := frv (Fr.none, false)) ?_ rfl ⟨rfl, ?_⟩
  ·simp [results, Tryz.results162, go_sem, frv, Fr.v, Fr.none, cbA, zbA, cbB, zbB, cbR, zbR]
  ·repeat' (with_reducible first | exact Ex.refl _ | assumption | apply Ex.alloc | apply Ex.drewN | apply Ex.drew | refine Ex.setCell ?_ (by simp <;> omega) _)
 rcases h2 : Zh b1 b2 b3 with _ | _
 ·have hr : Xj ⟨a1, a2, a3⟩ ⟨b1, b2, b3⟩ = (Fr.none, false) := by simp [Xj, Fr.valid, h1, h2]
  simp only [h1] at k1
  simp only [h2] at k2
  rw [hr]
  have K1 := Gv k1
  have K2 := Gv k2
  clear hr k1 k2 h1 h2
  go_enter Tryz.func162, Tryz.ntmps162
  go_wp2_with fail
  refine (K1.out _).mono ?_
  rintro e w1 ⟨rfl, hx⟩
  have bA := (((Box.new _ _ _).alloc _).alloc _).ex hx
  have bB := ((Box.new _ _ _).alloc _).ex hx
  simp only [Gu] at bB
  have bR := (Box.new _ _ _).ex hx
  simp only [Gu] at bR
  replace hx := ((((Ex.refl w).alloc _).alloc _).alloc _).trans hx
  have hE := hx
  have cbA := bA.cell
  have fbA := bA.frozen
  have zbA := bA.lt
  have cbB := bB.cell
  have fbB := bB.frozen
  have zbB := bB.lt
  have cbR := bR.cell
  have fbR := bR.frozen
  have zbR := bR.lt
  clear hx
  go_wp2_with fail
  refine (K2.out _).mono ?_
  rintro e w2 ⟨rfl, hx⟩
  replace hE := hE.trans hx
  replace bA := bA.ex hx
  replace cbA := bA.cell
  replace fbA := bA.frozen
  replace zbA := bA.lt
  replace bB := bB.ex hx
  replace cbB := bB.cell
  replace fbB := bB.frozen
  replace zbB := bB.lt
  replace bR := bR.ex hx
  replace cbR := bR.cell
  replace fbR := bR.frozen
  replace zbR := bR.lt
  clear hx
  go_wp2
  refine Gq (v := frv (Fr.none, false)) ?_ rfl ⟨rfl, ?_⟩
  ·simp [results, Tryz.results162, go_sem, frv, Fr.v, Fr.none, cbA, zbA, cbB, zbB, cbR, zbR]
  ·repeat' (with_reducible first | exact Ex.refl _ | assumption | apply Ex.alloc | apply Ex.drewN | apply Ex.drew | refine Ex.setCell ?_ (by simp <;> omega) _)
 obtain ⟨ap1, ap2, ap3, -⟩ := Yd h1
 obtain ⟨bp1, bp2, bp3, -⟩ := Yd h2
 have hr : Xj ⟨a1, a2, a3⟩ ⟨b1, b2, b3⟩ = _ := fless_ok h1 h2
 have mx1 := Xl (a := a1) (b := b3) (by omega) (by omega)
 obtain ⟨x1, ex1⟩ : ∃ x, a1 * b3 = x := ⟨_, rfl⟩
 rw [ex1] at mx1 hr
 have mx2 := Xl (a := b1) (b := a3) (by omega) (by omega)
 obtain ⟨x2, ex2⟩ : ∃ x, b1 * a3 = x := ⟨_, rfl⟩
 rw [ex2] at mx2 hr
 have mx3 := Xl (a := a2) (b := b3) (by omega) (by omega)
 obtain ⟨x3, ex3⟩ : ∃ x, a2 * b3 = x := ⟨_, rfl⟩
 rw [ex3] at mx3 hr
 have mx4 := Xl (a := b2) (b := a3) (by omega) (by omega)
 obtain ⟨x4, ex4⟩ : ∃ x, b2 * a3 = x := ⟨_, rfl⟩
 rw [ex4] at mx4 hr
 have mx5 := Py (a := a3) (b := b3) (by omega) (by omega)
 obtain ⟨x5, ex5⟩ : ∃ x, a3 * b3 = x := ⟨_, rfl⟩
 rw [ex5] at mx5 hr
 have l1 := fun w => Wh (x1 - x2) (x3 - x4) (x5) w (by omega) (by omega) (by omega)
 rw [hr]
 clear hr
 generalize flow (x1 - x2) (x3 - x4) (x5) = r at l1 ⊢
 obtain ⟨⟨r1, r2, r3⟩, ok⟩ := r
 replace l1 := fun w => Yu.spell (l1 w)
 simp only [h1] at k1
 simp only [h2] at k2
 have K1 := Gv k1
 have K2 := Gv k2
 have L1 := Gv l1
 clear l1 k1 k2 h1 h2
 go_enter Tryz.func162, Tryz.ntmps162
 go_wp2_with fail
 refine (K1.out _).mono ?_
 rintro e w1 ⟨rfl, hx⟩
 have bA := (((Box.new _ _ _).alloc _).alloc _).ex hx
 have bB := ((Box.new _ _ _).alloc _).ex hx
 simp only [Gu] at bB
 have bR := (Box.new _ _ _).ex hx
 simp only [Gu] at bR
 replace hx := ((((Ex.refl w).alloc _).alloc _).alloc _).trans hx
 have hE := hx
 have cbA := bA.cell
 have fbA := bA.frozen
 have zbA := bA.lt
 have cbB := bB.cell
 have fbB := bB.frozen
 have zbB := bB.lt
 have cbR := bR.cell
 have fbR := bR.frozen
 have zbR := bR.lt
 clear hx
 go_wp2_with fail
 refine (K2.out _).mono ?_
 rintro e w2 ⟨rfl, hx⟩
 replace hE := hE.trans hx
 replace bA := bA.ex hx
 replace cbA := bA.cell
 replace fbA := bA.frozen
 replace zbA := bA.lt
 replace bB := bB.ex hx
 replace cbB := bB.cell
 replace fbB := bB.frozen
 replace zbB := bB.lt
 replace bR := bR.ex hx
 replace cbR := bR.cell
 replace fbR := bR.frozen
 replace zbR := bR.lt
 clear hx
 go_wp2_with fail
 refine (L1.out _).mono ?_
 rintro e w3 ⟨rfl, hx⟩
 replace hE := hE.trans hx
 replace bA := bA.ex hx
 replace cbA := bA.cell
 replace fbA := bA.frozen
 replace zbA := bA.lt
 replace bB := bB.ex hx
 replace cbB := bB.cell
 replace fbB := bB.frozen
 replace zbB := bB.lt
 replace bR := bR.ex hx
 replace cbR := bR.cell
 replace fbR := bR.frozen
 replace zbR := bR.lt
 clear hx
 go_wp2
 refine Gq (v := frv (⟨r1, r2, r3⟩, ok)) ?_ rfl ⟨rfl, ?_⟩
 ·simp [results, Tryz.results162, go_sem, frv, Fr.v, Fr.none, cbA, zbA, cbB, zbB, cbR, zbR]
 ·repeat' (with_reducible first | exact Ex.refl _ | assumption | apply Ex.alloc | apply Ex.drewN | apply Ex.drew | refine Ex.setCell ?_ (by simp <;> omega) _)
theorem iFracPower (a : Fr) (w : World) : Calls Tryz.prog 159 #[a.v] w (Yu w (Ze a)) := by
 obtain ⟨a1, a2, a3⟩ := a
 show Calls _ _ #[.agg #[.int .i64 a1, .int .i64 a2, .int .i64 a3]] _ _
 have k1 := fun w => Xx a1 a2 a3 w
 rcases h1 : Zh a1 a2 a3 with _ | _
 ·have hr : Ze ⟨a1, a2, a3⟩ = (Fr.none, false) := by simp [Ze, Fr.valid, h1]
  simp only [h1] at k1
  rw [hr]
  have K1 := Gv k1
  clear hr k1 h1
  go_enter Tryz.func159, Tryz.ntmps159
  go_wp2_with fail
  refine (K1.out _).mono ?_
  rintro e w1 ⟨rfl, hx⟩
  have bA := ((Box.new _ _ _).alloc _).ex hx
  have bR := (Box.new _ _ _).ex hx
  simp only [Gu] at bR
  replace hx := (((Ex.refl w).alloc _).alloc _).trans hx
  have hE := hx
  have cbA := bA.cell
  have fbA := bA.frozen
  have zbA := bA.lt
  have cbR := bR.cell
  have fbR := bR.frozen
  have zbR := bR.lt
  clear hx
  go_wp2
  refine Gq (v := frv (Fr.none, false)) ?_ rfl ⟨rfl, ?_⟩
  ·simp [results, Tryz.results159, go_sem, frv, Fr.v, Fr.none, cbA, zbA, cbR, zbR]
  ·repeat' (with_reducible first | exact Ex.refl _ | assumption | apply Ex.alloc | apply Ex.drewN | apply Ex.drew | refine Ex.setCell ?_ (by simp <;> omega) _)
 obtain ⟨ap1, ap2, ap3, -⟩ := Yd h1
 have hr : Ze ⟨a1, a2, a3⟩ = _ := fpower_ok h1
 have mx1 := Xl (a := a1) (b := a1) (by omega) (by omega)
 obtain ⟨x1, ex1⟩ : ∃ x, a1 * a1 = x := ⟨_, rfl⟩
 rw [ex1] at mx1 hr
 have mx2 := Xl (a := a2) (b := a2) (by omega) (by omega)
 obtain ⟨x2, ex2⟩ : ∃ x, a2 * a2 = x := ⟨_, rfl⟩
 rw [ex2] at mx2 hr
 have mx5 := Py (a := a3) (b := a3) (by omega) (by omega)
 obtain ⟨x5, ex5⟩ : ∃ x, a3 * a3 = x := ⟨_, rfl⟩
 rw [ex5] at mx5 hr
 have l1 := fun w => Wh (x1 + x2) (0) (x5) w (by omega) (by omega) (by omega)
 rw [hr]
 clear hr
 generalize flow (x1 + x2) (0) (x5) = r at l1 ⊢
 obtain ⟨⟨r1, r2, r3⟩, ok⟩ := r
 replace l1 := fun w => Yu.spell (l1 w)
 simp only [h1] at k1
 have K1 := Gv k1
 have L1 := Gv l1
 clear l1 k1 h1
 go_enter Tryz.func159, Tryz.ntmps159
 go_wp2_with fail
 refine (K1.out _).mono ?_
 rintro e w1 ⟨rfl, hx⟩
 have bA := ((Box.new _ _ _).alloc _).ex hx
 have bR := (Box.new _ _ _).ex hx
 simp only [Gu] at bR
 replace hx := (((Ex.refl w).alloc _).alloc _).trans hx
 have hE := hx
 have cbA := bA.cell
 have fbA := bA.frozen
 have zbA := bA.lt
 have cbR := bR.cell
 have fbR := bR.frozen
 have zbR := bR.lt
 clear hx
 go_wp2_with fail
 refine (L1.out _).mono ?_
 rintro e w2 ⟨rfl, hx⟩
 replace hE := hE.trans hx
 replace bA := bA.ex hx
 replace cbA := bA.cell
 replace fbA := bA.frozen
 replace zbA := bA.lt
 replace bR := bR.ex hx
 replace cbR := bR.cell
 replace fbR := bR.frozen
 replace zbR := bR.lt
 clear hx
 go_wp2
 refine Gq (v := frv (⟨r1, r2, r3⟩, ok)) ?_ rfl ⟨rfl, ?_⟩
 ·simp [results, Tryz.results159, go_sem, frv, Fr.v, Fr.none, cbA, zbA, cbR, zbR]
 ·repeat' (with_reducible first | exact Ex.refl _ | assumption | apply Ex.alloc | apply Ex.drewN | apply Ex.drew | refine Ex.setCell ?_ (by simp <;> omega) _)
theorem Xd (a b : Fr) (w : World) : Calls Tryz.prog 60 #[a.v, b.v] w (Yu w (Zs a b)) := by
 obtain ⟨a1, a2, a3⟩ := a
 obtain ⟨b1, b2, b3⟩ := b
 show Calls _ _ #[.agg #[.int .i64 a1, .int .i64 a2, .int .i64 a3], .agg #[.int .i64 b1, .int .i64 b2, .int .i64 b3]] _ _
 have k1 := fun w => Xw a1 a2 a3 w
 have k2 := fun w => Xw b1 b2 b3 w
 rcases h1 : Zh a1 a2 a3 with _ | _
 ·have hr : Zs ⟨a1, a2, a3⟩ ⟨b1, b2, b3⟩ = (Fr.none, false) := by simp [Zs, Fr.valid, h1]
  simp only [h1] at k1
  rw [hr]
  have K1 := Gv k1
  clear hr k1 k2 h1
  go_enter Tryz.func60, Tryz.ntmps60
  go_wp2_with fail
  refine (K1.out _).mono ?_
  rintro e w1 ⟨rfl, hx⟩
  have bA := (((Box.new _ _ _).alloc _).alloc _).ex hx
  have bB := ((Box.new _ _ _).alloc _).ex hx
  simp only [Gu] at bB
  have bR := (Box.new _ _ _).ex hx
  simp only [Gu] at bR
  replace hx := ((((Ex.refl w).alloc _).alloc _).alloc _).trans hx
  have hE := hx
  have cbA := bA.cell
  have fbA := bA.frozen
  have zbA := bA.lt
  have cbB := bB.cell
  have fbB := bB.frozen
  have zbB := bB.lt
  have cbR := bR.cell
  have fbR := bR.frozen
  have zbR := bR.lt
  clear hx
  go_wp2
  refine Gq (v := frv (Fr.none, false)) ?_ rfl ⟨rfl, ?_⟩
  ·simp [results, Tryz.results60, go_sem, frv, Fr.v, Fr.none, cbA, zbA, cbB, zbB, cbR, zbR]
  ·repeat' (with_reducible first | exact Ex.refl _ | assumption | apply Ex.alloc | apply Ex.drewN | apply Ex.drew | refine Ex.setCell ?_ (by simp <;> omega) _)
 rcases h2 : Zh b1 b2 b3 with _ | _
 ·have hr : Zs ⟨a1, a2, a3⟩ ⟨b1, b2, b3⟩ = (Fr.none, false) := by simp [Zs, Fr.valid, h1, h2]
  simp only [h1] at k1
  simp only [h2] at k2
  rw [hr]
  have K1 := Gv k1
  have K2 := Gv k2
  clear hr k1 k2 h1 h2
  go_enter Tryz.func60, Tryz.ntmps60
  go_wp2_with fail
  refine (K1.out _).mono ?_
  rintro e w1 ⟨rfl, hx⟩
  have bA := (((Box.new _ _ _).alloc _).alloc _).ex hx
  have bB := ((Box.new _ _ _).alloc _).ex hx
  simp only [Gu] at bB
  have bR := (Box.new _ _ _).ex hx
  simp only [Gu] at bR
  replace hx := ((((Ex.refl w).alloc _).alloc _).alloc _).trans hx
  have hE := hx
  have cbA := bA.cell
  have fbA := bA.frozen
  have zbA := bA.lt
  have cbB := bB.cell
  have fbB := bB.frozen
  have zbB := bB.lt
  have cbR := bR.cell
  have fbR := bR.frozen
  have zbR := bR.lt
  clear hx
  go_wp2_with fail
  refine (K2.out _).mono ?_
  rintro e w2 ⟨rfl, hx⟩
  replace hE := hE.trans hx
  replace bA := bA.ex hx
  replace cbA := bA.cell
  replace fbA := bA.frozen
  replace zbA := bA.lt
  replace bB := bB.ex hx
  replace cbB := bB.cell
  replace fbB := bB.frozen
  replace zbB := bB.lt
  replace bR := bR.ex hx
  replace cbR := bR.cell
  replace fbR := bR.frozen
  replace zbR := bR.lt
  clear hx
  go_wp2
  refine Gq (v := frv (Fr.none, false)) ?_ rfl ⟨rfl, ?_⟩
  ·simp [results, Tryz.results60, go_sem, frv, Fr.v, Fr.none, cbA, zbA, cbB, zbB, cbR, zbR]
  ·repeat' (with_reducible first | exact Ex.refl _ | assumption | apply Ex.alloc | apply Ex.drewN | apply Ex.drew | refine Ex.setCell ?_ (by simp <;> omega) _)
 obtain ⟨ap1, ap2, ap3, -⟩ := Yd h1
 obtain ⟨bp1, bp2, bp3, -⟩ := Yd h2
 have hr : Zs ⟨a1, a2, a3⟩ ⟨b1, b2, b3⟩ = _ := Kr h1 h2
 have mx1 := Xl (a := a1) (b := b1) (by omega) (by omega)
 obtain ⟨x1, ex1⟩ : ∃ x, a1 * b1 = x := ⟨_, rfl⟩
 rw [ex1] at mx1 hr
 have mx2 := Xl (a := a2) (b := b2) (by omega) (by omega)
 obtain ⟨x2, ex2⟩ : ∃ x, a2 * b2 = x := ⟨_, rfl⟩
 rw [ex2] at mx2 hr
 have mx3 := Xl (a := a1) (b := b2) (by omega) (by omega)
 obtain ⟨x3, ex3⟩ : ∃ x, a1 * b2 = x := ⟨_, rfl⟩
 rw [ex3] at mx3 hr
 have mx4 := Xl (a := a2) (b := b1) (by omega) (by omega)
 obtain ⟨x4, ex4⟩ : ∃ x, a2 * b1 = x := ⟨_, rfl⟩
 rw [ex4] at mx4 hr
 have mx5 := Py (a := a3) (b := b3) (by omega) (by omega)
 obtain ⟨x5, ex5⟩ : ∃ x, a3 * b3 = x := ⟨_, rfl⟩
 rw [ex5] at mx5 hr
 have l1 := fun w => Sc (x1 - x2) (x3 + x4) (x5) w (by omega) (by omega) (by omega)
 rw [hr]
 clear hr
 generalize flow (x1 - x2) (x3 + x4) (x5) = r at l1 ⊢
 obtain ⟨⟨r1, r2, r3⟩, ok⟩ := r
 replace l1 := fun w => Yu.spell (l1 w)
 simp only [h1] at k1
 simp only [h2] at k2
 have K1 := Gv k1
 have K2 := Gv k2
 have L1 := Gv l1
 clear l1 k1 k2 h1 h2
 go_enter Tryz.func60, Tryz.ntmps60
 go_wp2_with fail
 refine (K1.out _).mono ?_
 rintro e w1 ⟨rfl, hx⟩
 have bA := (((Box.new _ _ _).alloc _).alloc _).ex hx
 have bB := ((Box.new _ _ _).alloc _).ex hx
 simp only [Gu] at bB
 have bR := (Box.new _ _ _).ex hx
 simp only [Gu] at bR
 replace hx := ((((Ex.refl w).alloc _).alloc _).alloc _).trans hx
 have hE := hx
 have cbA := bA.cell
 have fbA := bA.frozen
 have zbA := bA.lt
 have cbB := bB.cell
 have fbB := bB.frozen
 have zbB := bB.lt
 have cbR := bR.cell
 have fbR := bR.frozen
 have zbR := bR.lt
 clear hx
 go_wp2_with fail
 refine (K2.out _).mono ?_
 rintro e w2 ⟨rfl, hx⟩
 replace hE := hE.trans hx
 replace bA := bA.ex hx
 replace cbA := bA.cell
 replace fbA := bA.frozen
 replace zbA := bA.lt
 replace bB := bB.ex hx
 replace cbB := bB.cell
 replace fbB := bB.frozen
 replace zbB := bB.lt
 replace bR := bR.ex hx
 replace cbR := bR.cell
 replace fbR := bR.frozen
 replace zbR := bR.lt
 clear hx
 go_wp2_with fail
 refine (L1.out _).mono ?_
 rintro e w3 ⟨rfl, hx⟩
 replace hE := hE.trans hx
 replace bA := bA.ex hx
 replace cbA := bA.cell
 replace fbA := bA.frozen
 replace zbA := bA.lt
 replace bB := bB.ex hx
 replace cbB := bB.cell
 replace fbB := bB.frozen
 replace zbB := bB.lt
 replace bR := bR.ex hx
 replace cbR := bR.cell
 replace fbR := bR.frozen
 replace zbR := bR.lt
 clear hx
 go_wp2
 refine Gq (v := frv (⟨r1, r2, r3⟩, ok)) ?_ rfl ⟨rfl, ?_⟩
 ·simp [results, Tryz.results60, go_sem, frv, Fr.v, Fr.none, cbA, zbA, cbB, zbB, cbR, zbR]
 ·repeat' (with_reducible first | exact Ex.refl _ | assumption | apply Ex.alloc | apply Ex.drewN | apply Ex.drew | refine Ex.setCell ?_ (by simp <;> omega) _)
theorem sl2Sum (a b : Fr) (s : Int) (hs : s = 1 ∨ s = -1) (w : World) : Calls Tryz.prog 149 #[a.v, .int .i64 s, b.v] w (Yu w (Yk s a b)) := by
 obtain ⟨a1, a2, a3⟩ := a
 obtain ⟨b1, b2, b3⟩ := b
 show Calls _ _ #[.agg #[.int .i64 a1, .int .i64 a2, .int .i64 a3], .int .i64 s, .agg #[.int .i64 b1, .int .i64 b2, .int .i64 b3]] _ _
 have k1 := fun w => Xw a1 a2 a3 w
 have k2 := fun w => Xw b1 b2 b3 w
 rcases h1 : Zh a1 a2 a3 with _ | _
 ·have hr : Yk s ⟨a1, a2, a3⟩ ⟨b1, b2, b3⟩ = (Fr.none, false) := by simp [Yk, Fr.valid, h1]
  simp only [h1] at k1
  rw [hr]
  have K1 := Gv k1
  clear hr k1 k2 h1
  go_enter Tryz.func149, Tryz.ntmps149
  go_wp2_with fail
  refine (K1.out _).mono ?_
  rintro e w1 ⟨rfl, hx⟩
  have bA := (((Box.new _ _ _).alloc _).alloc _).ex hx
  have bB := ((Box.new _ _ _).alloc _).ex hx
  simp only [Gu] at bB
  have bR := (Box.new _ _ _).ex hx
  simp only [Gu] at bR
  replace hx := ((((Ex.refl w).alloc _).alloc _).alloc _).trans hx
  have hE := hx
  have cbA := bA.cell
  have fbA := bA.frozen
  have zbA := bA.lt
  have cbB := bB.cell
  have fbB := bB.frozen
  have zbB := bB.lt
  have cbR := bR.cell
  have fbR := bR.frozen
  have zbR := bR.lt
  clear hx
  go_wp2
  refine Gq (v := frv (Fr.none, false)) ?_ rfl ⟨rfl, ?_⟩
  ·simp [results, Tryz.results149, go_sem, frv, Fr.v, Fr.none, cbA, zbA, cbB, zbB, cbR, zbR]
  ·repeat' (with_reducible first | exact Ex.refl _ | assumption | apply Ex.alloc | apply Ex.drewN | apply Ex.drew | refine Ex.setCell ?_ (by simp <;> omega) _)
 rcases h2 : Zh b1 b2 b3 with _ | _
 ·have hr : Yk s ⟨a1, a2, a3⟩ ⟨b1, b2, b3⟩ = (Fr.none, false) := by simp [Yk, Fr.valid, h1, h2]
  simp only [h1] at k1
  simp only [h2] at k2
  rw [hr]
  have K1 := Gv k1
  have K2 := Gv k2
  clear hr k1 k2 h1 h2
  go_enter Tryz.func149, Tryz.ntmps149
  go_wp2_with fail
  refine (K1.out _).mono ?_
  rintro e w1 ⟨rfl, hx⟩
  have bA := (((Box.new _ _ _).alloc _).alloc _).ex hx
  have bB := ((Box.new _ _ _).alloc _).ex hx
  simp only [Gu] at bB
  have bR := (Box.new _ _ _).ex hx
  simp only [Gu] at bR
  replace hx := ((((Ex.refl w).alloc _).alloc _).alloc _).trans hx
  have hE := hx
  have cbA := bA.cell
  have fbA := bA.frozen
  have zbA := bA.lt
  have cbB := bB.cell
  have fbB := bB.frozen
  have zbB := bB.lt
  have cbR := bR.cell
  have fbR := bR.frozen
  have zbR := bR.lt
  clear hx
  go_wp2_with fail
  refine (K2.out _).mono ?_
  rintro e w2 ⟨rfl, hx⟩
  replace hE := hE.trans hx
  replace bA := bA.ex hx
  replace cbA := bA.cell
  replace fbA := bA.frozen
  replace zbA := bA.lt
  replace bB := bB.ex hx
  replace cbB := bB.cell
  replace fbB := bB.frozen
  replace zbB := bB.lt
  replace bR := bR.ex hx
  replace cbR := bR.cell
  replace fbR := bR.frozen
  replace zbR := bR.lt
  clear hx
  go_wp2
  refine Gq (v := frv (Fr.none, false)) ?_ rfl ⟨rfl, ?_⟩
  ·simp [results, Tryz.results149, go_sem, frv, Fr.v, Fr.none, cbA, zbA, cbB, zbB, cbR, zbR]
  ·repeat' (with_reducible first | exact Ex.refl _ | assumption | apply Ex.alloc | apply Ex.drewN | apply Ex.drew | refine Ex.setCell ?_ (by simp <;> omega) _)
 obtain ⟨ap1, ap2, ap3, -⟩ := Yd h1
 obtain ⟨bp1, bp2, bp3, -⟩ := Yd h2
 have hr : Yk s ⟨a1, a2, a3⟩ ⟨b1, b2, b3⟩ = _ := fsum_ok h1 h2
 have mu := sgn_bd hs bp1
 obtain ⟨u, eu⟩ : ∃ x, s * b1 = x := ⟨_, rfl⟩
 rw [eu] at mu hr
 have mv := sgn_bd hs bp2
 obtain ⟨v, ev⟩ : ∃ x, s * b2 = x := ⟨_, rfl⟩
 rw [ev] at mv hr
 have mx1 := Xl (a := a1) (b := b3) (by omega) (by omega)
 obtain ⟨x1, ex1⟩ : ∃ x, a1 * b3 = x := ⟨_, rfl⟩
 rw [ex1] at mx1 hr
 have mx2 := Xl (a := u) (b := a3) (by omega) (by omega)
 obtain ⟨x2, ex2⟩ : ∃ x, u * a3 = x := ⟨_, rfl⟩
 rw [ex2] at mx2 hr
 have mx3 := Xl (a := a2) (b := b3) (by omega) (by omega)
 obtain ⟨x3, ex3⟩ : ∃ x, a2 * b3 = x := ⟨_, rfl⟩
 rw [ex3] at mx3 hr
 have mx4 := Xl (a := v) (b := a3) (by omega) (by omega)
 obtain ⟨x4, ex4⟩ : ∃ x, v * a3 = x := ⟨_, rfl⟩
 rw [ex4] at mx4 hr
 have mx5 := Py (a := a3) (b := b3) (by omega) (by omega)
 obtain ⟨x5, ex5⟩ : ∃ x, a3 * b3 = x := ⟨_, rfl⟩
 rw [ex5] at mx5 hr
 have l1 := fun w => Sc (x1 + x2) (x3 + x4) (x5) w (by omega) (by omega) (by omega)
 rw [hr]
 clear hr
 generalize flow (x1 + x2) (x3 + x4) (x5) = r at l1 ⊢
 obtain ⟨⟨r1, r2, r3⟩, ok⟩ := r
 replace l1 := fun w => Yu.spell (l1 w)
 simp only [h1] at k1
 simp only [h2] at k2
 have K1 := Gv k1
 have K2 := Gv k2
 have L1 := Gv l1
 clear l1 k1 k2 h1 h2
 go_enter Tryz.func149, Tryz.ntmps149
 go_wp2_with fail
 refine (K1.out _).mono ?_
 rintro e w1 ⟨rfl, hx⟩
 have bA := (((Box.new _ _ _).alloc _).alloc _).ex hx
 have bB := ((Box.new _ _ _).alloc _).ex hx
 simp only [Gu] at bB
 have bR := (Box.new _ _ _).ex hx
 simp only [Gu] at bR
 replace hx := ((((Ex.refl w).alloc _).alloc _).alloc _).trans hx
 have hE := hx
 have cbA := bA.cell
 have fbA := bA.frozen
 have zbA := bA.lt
 have cbB := bB.cell
 have fbB := bB.frozen
 have zbB := bB.lt
 have cbR := bR.cell
 have fbR := bR.frozen
 have zbR := bR.lt
 clear hx
 go_wp2_with fail
 refine (K2.out _).mono ?_
 rintro e w2 ⟨rfl, hx⟩
 replace hE := hE.trans hx
 replace bA := bA.ex hx
 replace cbA := bA.cell
 replace fbA := bA.frozen
 replace zbA := bA.lt
 replace bB := bB.ex hx
 replace cbB := bB.cell
 replace fbB := bB.frozen
 replace zbB := bB.lt
 replace bR := bR.ex hx
 replace cbR := bR.cell
 replace fbR := bR.frozen
 replace zbR := bR.lt
 clear hx
 go_wp2_with fail
 refine (L1.out _).mono ?_
 rintro e w3 ⟨rfl, hx⟩
 replace hE := hE.trans hx
 replace bA := bA.ex hx
 replace cbA := bA.cell
 replace fbA := bA.frozen
 replace zbA := bA.lt
 replace bB := bB.ex hx
 replace cbB := bB.cell
 replace fbB := bB.frozen
 replace zbB := bB.lt
 replace bR := bR.ex hx
 replace cbR := bR.cell
 replace fbR := bR.frozen
 replace zbR := bR.lt
 clear hx
 go_wp2
 refine Gq (v := frv (⟨r1, r2, r3⟩, ok)) ?_ rfl ⟨rfl, ?_⟩
 ·simp [results, Tryz.results149, go_sem, frv, Fr.v, Fr.none, cbA, zbA, cbB, zbB, cbR, zbR]
 ·repeat' (with_reducible first | exact Ex.refl _ | assumption | apply Ex.alloc | apply Ex.drewN | apply Ex.drew | refine Ex.setCell ?_ (by simp <;> omega) _)
theorem sFracLess (a b : Fr) (w : World) : Calls Tryz.prog 101 #[a.v, b.v] w (Yu w (Xj a b)) := by
 have l1 := fun w => sl2Sum a b (-1) (.inr rfl) w
 simp only [fsum_less] at l1
 generalize Xj a b = r at l1 ⊢
 obtain ⟨a1, a2, a3⟩ := a
 obtain ⟨b1, b2, b3⟩ := b
 obtain ⟨⟨r1, r2, r3⟩, ok⟩ := r
 replace l1 := fun w => Yu.spell (l1 w)
 show Calls _ _ #[.agg #[.int .i64 a1, .int .i64 a2, .int .i64 a3], .agg #[.int .i64 b1, .int .i64 b2, .int .i64 b3]] _ _
 go_enter Tryz.func101, Tryz.ntmps101
 go_wp2_with fail
 refine (l1 _).mono ?_
 rintro e w1 ⟨rfl, hx⟩
 have bA := (((Box.new _ _ _).alloc _).alloc _).ex hx
 have bB := ((Box.new _ _ _).alloc _).ex hx
 simp only [Gu] at bB
 have bR := (Box.new _ _ _).ex hx
 simp only [Gu] at bR
 replace hx := ((((Ex.refl w).alloc _).alloc _).alloc _).trans hx
 have hE := hx
 have cbA := bA.cell
 have fbA := bA.frozen
 have zbA := bA.lt
 have cbB := bB.cell
 have fbB := bB.frozen
 have zbB := bB.lt
 have cbR := bR.cell
 have fbR := bR.frozen
 have zbR := bR.lt
 clear hx
 go_wp2
 refine Gq (v := frv (⟨r1, r2, r3⟩, ok)) ?_ rfl ⟨rfl, ?_⟩
 ·simp [results, Tryz.results101, go_sem, frv, Fr.v, Fr.none, cbA, zbA, cbB, zbB, cbR, zbR]
 ·repeat' (with_reducible first | exact Ex.refl _ | assumption | apply Ex.alloc | apply Ex.drewN | apply Ex.drew | refine Ex.setCell ?_ (by simp <;> omega) _)
theorem Uu (a : Fr) (w : World) : Calls Tryz.prog 99 #[a.v] w (Yu w (Ys a)) := by
 obtain ⟨a1, a2, a3⟩ := a
 show Calls _ _ #[.agg #[.int .i64 a1, .int .i64 a2, .int .i64 a3]] _ _
 have k1 := fun w => Xw a1 a2 a3 w
 rcases h1 : Zh a1 a2 a3 with _ | _
 ·have hr : Ys ⟨a1, a2, a3⟩ = (Fr.none, false) := by simp [Ys, Fr.valid, h1]
  simp only [h1] at k1
  rw [hr]
  have K1 := Gv k1
  clear k1 hr h1
  go_enter Tryz.func99, Tryz.ntmps99
  go_wp2_with fail
  refine (K1.out _).mono ?_
  rintro e w1 ⟨rfl, hx⟩
  have bA := ((Box.new _ _ _).alloc _).ex hx
  have bR := (Box.new _ _ _).ex hx
  simp only [Gu] at bR
  replace hx := (((Ex.refl w).alloc _).alloc _).trans hx
  have hE := hx
  have cbA := bA.cell
  have fbA := bA.frozen
  have zbA := bA.lt
  have cbR := bR.cell
  have fbR := bR.frozen
  have zbR := bR.lt
  clear hx
  go_wp2
  refine Gq (v := frv (Fr.none, false)) ?_ rfl ⟨rfl, ?_⟩
  ·simp [results, Tryz.results99, go_sem, frv, Fr.v, Fr.none, cbA, zbA, cbR, zbR]
  ·repeat' (with_reducible first | exact Ex.refl _ | assumption | apply Ex.alloc | apply Ex.drewN | apply Ex.drew | refine Ex.setCell ?_ (by simp <;> omega) _)
 ·have hr : Ys ⟨a1, a2, a3⟩ = (⟨a1, -a2, a3⟩, true) := by simp [Ys, Fr.valid, h1]
  obtain ⟨-, p2, -, -⟩ := Yd h1
  have hw := Gp (0 - a2) (by omega)
  simp only [h1] at k1
  rw [hr]
  have K1 := Gv k1
  clear k1 hr h1
  go_enter Tryz.func99, Tryz.ntmps99
  go_wp2_with fail
  refine (K1.out _).mono ?_
  rintro e w1 ⟨rfl, hx⟩
  have bA := ((Box.new _ _ _).alloc _).ex hx
  have bR := (Box.new _ _ _).ex hx
  simp only [Gu] at bR
  replace hx := (((Ex.refl w).alloc _).alloc _).trans hx
  have hE := hx
  have cbA := bA.cell
  have fbA := bA.frozen
  have zbA := bA.lt
  have cbR := bR.cell
  have fbR := bR.frozen
  have zbR := bR.lt
  clear hx
  go_wp2
  refine Gq (v := frv (⟨a1, -a2, a3⟩, true)) ?_ rfl ⟨rfl, ?_⟩
  ·simp [results, Tryz.results99, go_sem, frv, Fr.v, Fr.none, cbA, zbA, cbR, zbR]
  ·repeat' (with_reducible first | exact Ex.refl _ | assumption | apply Ex.alloc | apply Ex.drewN | apply Ex.drew | refine Ex.setCell ?_ (by simp <;> omega) _)
theorem sFracPower (a : Fr) (w : World) : Calls Tryz.prog 98 #[a.v] w (Yu w (Ze a)) := by
 rw [Ma]
 have l1 := fun w => Uu a w
 have l2 := fun w => Xd a (Ys a).1 w
 generalize Zs a (Ys a).1 = t at l2 ⊢
 generalize Ys a = m at l1 l2 ⊢
 obtain ⟨a1, a2, a3⟩ := a
 obtain ⟨⟨m1, m2, m3⟩, ok⟩ := m
 obtain ⟨⟨t1, t2, t3⟩, tk⟩ := t
 show Calls _ _ #[.agg #[.int .i64 a1, .int .i64 a2, .int .i64 a3]] _ _
 replace l1 := fun w => Yu.spell (l1 w)
 have l3 : ∀ w, Calls Tryz.prog 60 #[.agg #[.int .i64 a1, .int .i64 a2, .int .i64 a3], .agg #[.int .i64 m1, .int .i64 m2, .int .i64 m3]] w _ := fun w => Yu.spell (l2 w)
 clear l2
 rcases ok with _ | _
 ·go_enter Tryz.func98, Tryz.ntmps98
  go_wp2_with fail
  refine (l1 _).mono ?_
  rintro e w1 ⟨rfl, hx⟩
  have bA := ((Box.new _ _ _).alloc _).ex hx
  have bR := (Box.new _ _ _).ex hx
  simp only [Gu] at bR
  replace hx := (((Ex.refl w).alloc _).alloc _).trans hx
  have hE := hx
  have cbA := bA.cell
  have fbA := bA.frozen
  have zbA := bA.lt
  have cbR := bR.cell
  have fbR := bR.frozen
  have zbR := bR.lt
  clear hx
  go_wp2
  refine Gq (v := frv (Fr.none, false)) ?_ rfl ⟨rfl, ?_⟩
  ·simp [results, Tryz.results98, go_sem, frv, Fr.v, Fr.none, cbA, zbA, cbR, zbR]
  ·repeat' (with_reducible first | exact Ex.refl _ | assumption | apply Ex.alloc | apply Ex.drewN | apply Ex.drew | refine Ex.setCell ?_ (by simp <;> omega) _)
 ·go_enter Tryz.func98, Tryz.ntmps98
  go_wp2_with fail
  refine (l1 _).mono ?_
  rintro e w1 ⟨rfl, hx⟩
  have bA := ((Box.new _ _ _).alloc _).ex hx
  have bR := (Box.new _ _ _).ex hx
  simp only [Gu] at bR
  replace hx := (((Ex.refl w).alloc _).alloc _).trans hx
  have hE := hx
  have cbA := bA.cell
  have fbA := bA.frozen
  have zbA := bA.lt
  have cbR := bR.cell
  have fbR := bR.frozen
  have zbR := bR.lt
  clear hx
  go_wp2_with fail
  refine (l3 _).mono ?_
  rintro e w2 ⟨rfl, hx⟩
  have bM := (Box.new _ _ _).ex hx
  replace hx := ((Ex.refl w1).alloc _).trans hx
  replace hE := hE.trans hx
  replace bA := bA.ex hx
  replace cbA := bA.cell
  replace fbA := bA.frozen
  replace zbA := bA.lt
  replace bR := bR.ex hx
  replace cbR := bR.cell
  replace fbR := bR.frozen
  replace zbR := bR.lt
  have cbM := bM.cell
  have fbM := bM.frozen
  have zbM := bM.lt
  clear hx
  go_wp2
  refine Gq (v := frv (⟨t1, t2, t3⟩, tk)) ?_ rfl ⟨rfl, ?_⟩
  ·simp [results, Tryz.results98, go_sem, frv, Fr.v, Fr.none, cbA, zbA, cbR, zbR, cbM, zbM]
  ·repeat' (with_reducible first | exact Ex.refl _ | assumption | apply Ex.alloc | apply Ex.drewN | apply Ex.drew | refine Ex.setCell ?_ (by simp <;> omega) _)
end
section
open Go.RowKit

theorem Mm (a b : Fr) (w : World) : Calls Tryz.prog 81 #[a.v, b.v] w (Yu w (Zs a b)) := by
 obtain ⟨a1, a2, a3⟩ := a
 obtain ⟨b1, b2, b3⟩ := b
 show Calls _ _ #[.agg #[.int .i64 a1, .int .i64 a2, .int .i64 a3], .agg #[.int .i64 b1, .int .i64 b2, .int .i64 b3]] _ _
 have k1 := fun w => Xx a1 a2 a3 w
 have k2 := fun w => Xx b1 b2 b3 w
 rcases h1 : Zh a1 a2 a3 with _ | _
 ·have hr : Zs ⟨a1, a2, a3⟩ ⟨b1, b2, b3⟩ = (Fr.none, false) := by simp [Zs, Fr.valid, h1]
  simp only [h1] at k1
  rw [hr]
  have K1 := Gv k1
  clear hr k1 k2 h1
  go_enter Tryz.func81, Tryz.ntmps81
  go_wp2_with fail
  refine (K1.out _).mono ?_
  rintro e w1 ⟨rfl, hx⟩
  have bA := (((Box.new _ _ _).alloc _).alloc _).ex hx
  have bB := ((Box.new _ _ _).alloc _).ex hx
  simp only [Gu] at bB
  have bR := (Box.new _ _ _).ex hx
  simp only [Gu] at bR
  replace hx := ((((Ex.refl w).alloc _).alloc _).alloc _).trans hx
  have hE := hx
  have cbA := bA.cell
  have fbA := bA.frozen
  have zbA := bA.lt
  have cbB := bB.cell
  have fbB := bB.frozen
  have zbB := bB.lt
  have cbR := bR.cell
  have fbR := bR.frozen
  have zbR := bR.lt
  clear hx
  go_wp2
  refine Gq (v := frv (Fr.none, false)) ?_ rfl ⟨rfl, ?_⟩
  ·simp [results, Tryz.results81, go_sem, frv, Fr.v, Fr.none, cbA, zbA, cbB, zbB, cbR, zbR]
  ·repeat' (with_reducible first | exact Ex.refl _ | assumption | apply Ex.alloc | apply Ex.drewN | apply Ex.drew | refine Ex.setCell ?_ (by simp <;> omega) _)
 rcases h2 : Zh b1 b2 b3 with _ | _
 ·have hr : Zs ⟨a1, a2, a3⟩ ⟨b1, b2, b3⟩ = (Fr.none, false) := by simp [Zs, Fr.valid, h1, h2]
  simp only [h1] at k1
  simp only [h2] at k2
  rw [hr]
  have K1 := Gv k1
  have K2 := Gv k2
  clear hr k1 k2 h1 h2
  go_enter Tryz.func81, Tryz.ntmps81
  go_wp2_with fail
  refine (K1.out _).mono ?_
  rintro e w1 ⟨rfl, hx⟩
  have bA := (((Box.new _ _ _).alloc _).alloc _).ex hx
  have bB := ((Box.new _ _ _).alloc _).ex hx
  simp only [Gu] at bB
  have bR := (Box.new _ _ _).ex hx
  simp only [Gu] at bR
  replace hx := ((((Ex.refl w).alloc _).alloc _).alloc _).trans hx
  have hE := hx
  have cbA := bA.cell
  have fbA := bA.frozen
  have zbA := bA.lt
  have cbB := bB.cell
  have fbB := bB.frozen
  have zbB := bB.lt
  have cbR := bR.cell
  have fbR := bR.frozen
  have zbR := bR.lt
  clear hx
  go_wp2_with fail
  refine (K2.out _).mono ?_
  rintro e w2 ⟨rfl, hx⟩
  replace hE := hE.trans hx
  replace bA := bA.ex hx
  replace cbA := bA.cell
  replace fbA := bA.frozen
  replace zbA := bA.lt
  replace bB := bB.ex hx
  replace cbB := bB.cell
  replace fbB := bB.frozen
  replace zbB := bB.lt
  replace bR := bR.ex hx
  replace cbR := bR.cell
  replace fbR := bR.frozen
  replace zbR := bR.lt
  clear hx
  go_wp2
  refine Gq (v := frv (Fr.none, false)) ?_ rfl ⟨rfl, ?_⟩
  ·simp [results, Tryz.results81, go_sem, frv, Fr.v, Fr.none, cbA, zbA, cbB, zbB, cbR, zbR]
  ·repeat' (with_reducible first | exact Ex.refl _ | assumption | apply Ex.alloc | apply Ex.drewN | apply Ex.drew | refine Ex.setCell ?_ (by simp <;> omega) _)
 obtain ⟨ap1, ap2, ap3, -⟩ := Yd h1
 obtain ⟨bp1, bp2, bp3, -⟩ := Yd h2
 have hr : Zs ⟨a1, a2, a3⟩ ⟨b1, b2, b3⟩ = _ := Kr h1 h2
 have mx1 := Xl (a := a1) (b := b1) (by omega) (by omega)
 obtain ⟨x1, ex1⟩ : ∃ x, a1 * b1 = x := ⟨_, rfl⟩
 rw [ex1] at mx1 hr
 have mx2 := Xl (a := a2) (b := b2) (by omega) (by omega)
 obtain ⟨x2, ex2⟩ : ∃ x, a2 * b2 = x := ⟨_, rfl⟩
 rw [ex2] at mx2 hr
 have mx3 := Xl (a := a1) (b := b2) (by omega) (by omega)
 obtain ⟨x3, ex3⟩ : ∃ x, a1 * b2 = x := ⟨_, rfl⟩
 rw [ex3] at mx3 hr
 have mx4 := Xl (a := a2) (b := b1) (by omega) (by omega)
 obtain ⟨x4, ex4⟩ : ∃ x, a2 * b1 = x := ⟨_, rfl⟩
 rw [ex4] at mx4 hr
 have mx5 := Py (a := a3) (b := b3) (by omega) (by omega)
 obtain ⟨x5, ex5⟩ : ∃ x, a3 * b3 = x := ⟨_, rfl⟩
 rw [ex5] at mx5 hr
 have l1 := fun w => Wh (x1 - x2) (x3 + x4) (x5) w (by omega) (by omega) (by omega)
 rw [hr]
 clear hr
 generalize flow (x1 - x2) (x3 + x4) (x5) = r at l1 ⊢
 obtain ⟨⟨r1, r2, r3⟩, ok⟩ := r
 replace l1 := fun w => Yu.spell (l1 w)
 simp only [h1] at k1
 simp only [h2] at k2
 have K1 := Gv k1
 have K2 := Gv k2
 have L1 := Gv l1
 clear l1 k1 k2 h1 h2
 go_enter Tryz.func81, Tryz.ntmps81
 go_wp2_with fail
 refine (K1.out _).mono ?_
 rintro e w1 ⟨rfl, hx⟩
 have bA := (((Box.new _ _ _).alloc _).alloc _).ex hx
 have bB := ((Box.new _ _ _).alloc _).ex hx
 simp only [Gu] at bB
 have bR := (Box.new _ _ _).ex hx
 simp only [Gu] at bR
 replace hx := ((((Ex.refl w).alloc _).alloc _).alloc _).trans hx
 have hE := hx
 have cbA := bA.cell
 have fbA := bA.frozen
 have zbA := bA.lt
 have cbB := bB.cell
 have fbB := bB.frozen
 have zbB := bB.lt
 have cbR := bR.cell
 have fbR := bR.frozen
 have zbR := bR.lt
 clear hx
 go_wp2_with fail
 refine (K2.out _).mono ?_
 rintro e w2 ⟨rfl, hx⟩
 replace hE := hE.trans hx
 replace bA := bA.ex hx
 replace cbA := bA.cell
 replace fbA := bA.frozen
 replace zbA := bA.lt
 replace bB := bB.ex hx
 replace cbB := bB.cell
 replace fbB := bB.frozen
 replace zbB := bB.lt
 replace bR := bR.ex hx
 replace cbR := bR.cell
 replace fbR := bR.frozen
 replace zbR := bR.lt
 clear hx
 go_wp2_with fail
 refine (L1.out _).mono ?_
 rintro e w3 ⟨rfl, hx⟩
 replace hE := hE.trans hx
 replace bA := bA.ex hx
 replace cbA := bA.cell
 replace fbA := bA.frozen
 replace zbA := bA.lt
 replace bB := bB.ex hx
 replace cbB := bB.cell
 replace fbB := bB.frozen
 replace zbB := bB.lt
 replace bR := bR.ex hx
 replace cbR := bR.cell
 replace fbR := bR.frozen
 replace zbR := bR.lt
 clear hx
 go_wp2
 refine Gq (v := frv (⟨r1, r2, r3⟩, ok)) ?_ rfl ⟨rfl, ?_⟩
 ·simp [results, Tryz.results81, go_sem, frv, Fr.v, Fr.none, cbA, zbA, cbB, zbB, cbR, zbR]
 ·repeat' (with_reducible first | exact Ex.refl _ | assumption | apply Ex.alloc | apply Ex.drewN | apply Ex.drew | refine Ex.setCell ?_ (by simp <;> omega) _)
theorem iFracAdd (a b : Fr) (w : World) : Calls Tryz.prog 124 #[a.v, b.v] w (Yu w (Yt a b)) := by
 obtain ⟨a1, a2, a3⟩ := a
 obtain ⟨b1, b2, b3⟩ := b
 show Calls _ _ #[.agg #[.int .i64 a1, .int .i64 a2, .int .i64 a3], .agg #[.int .i64 b1, .int .i64 b2, .int .i64 b3]] _ _
 have k1 := fun w => Xx a1 a2 a3 w
 have k2 := fun w => Xx b1 b2 b3 w
 rcases h1 : Zh a1 a2 a3 with _ | _
 ·have hr : Yt ⟨a1, a2, a3⟩ ⟨b1, b2, b3⟩ = (Fr.none, false) := by simp [Yt, Fr.valid, h1]
  simp only [h1] at k1
  rw [hr]
  have K1 := Gv k1
  clear hr k1 k2 h1
  go_enter Tryz.func124, Tryz.ntmps124
  go_wp2_with fail
  refine (K1.out _).mono ?_
  rintro e w1 ⟨rfl, hx⟩
  have bA := (((Box.new _ _ _).alloc _).alloc _).ex hx
  have bB := ((Box.new _ _ _).alloc _).ex hx
  simp only [Gu] at bB
  have bR := (Box.new _ _ _).ex hx
  simp only [Gu] at bR
  replace hx := ((((Ex.refl w).alloc _).alloc _).alloc _).trans hx
  have hE := hx
  have cbA := bA.cell
  have fbA := bA.frozen
  have zbA := bA.lt
  have cbB := bB.cell
  have fbB := bB.frozen
  have zbB := bB.lt
  have cbR := bR.cell
  have fbR := bR.frozen
  have zbR := bR.lt
  clear hx
  go_wp2
  refine Gq (v := frv (Fr.none, false)) ?_ rfl ⟨rfl, ?_⟩
  ·simp [results, Tryz.results124, go_sem, frv, Fr.v, Fr.none, cbA, zbA, cbB, zbB, cbR, zbR]
  ·repeat' (with_reducible first | exact Ex.refl _ | assumption | apply Ex.alloc | apply Ex.drewN | apply Ex.drew | refine Ex.setCell ?_ (by simp <;> omega) _)
 rcases h2 : Zh b1 b2 b3 with _ | _
 ·have hr : Yt ⟨a1, a2, a3⟩ ⟨b1, b2, b3⟩ = (Fr.none, false) := by simp [Yt, Fr.valid, h1, h2]
  simp only [h1] at k1
  simp only [h2] at k2
  rw [hr]
  have K1 := Gv k1
  have K2 := Gv k2
  clear hr k1 k2 h1 h2
  go_enter Tryz.func124, Tryz.ntmps124
  go_wp2_with fail
  refine (K1.out _).mono ?_
  rintro e w1 ⟨rfl, hx⟩
  have bA := (((Box.new _ _ _).alloc _).alloc _).ex hx
  have bB := ((Box.new _ _ _).alloc _).ex hx
  simp only [Gu] at bB
  have bR := (Box.new _ _ _).ex hx
  simp only [Gu] at bR
  replace hx := ((((Ex.refl w).alloc _).alloc _).alloc _).trans hx
  have hE := hx
  have cbA := bA.cell
  have fbA := bA.frozen
  have zbA := bA.lt
  have cbB := bB.cell
  have fbB := bB.frozen
  have zbB := bB.lt
  have cbR := bR.cell
  have fbR := bR.frozen
  have zbR := bR.lt
  clear hx
  go_wp2_with fail
  refine (K2.out _).mono ?_
  rintro e w2 ⟨rfl, hx⟩
  replace hE := hE.trans hx
  replace bA := bA.ex hx
  replace cbA := bA.cell
  replace fbA := bA.frozen
  replace zbA := bA.lt
  replace bB := bB.ex hx
  replace cbB := bB.cell
  replace fbB := bB.frozen
  replace zbB := bB.lt
  replace bR := bR.ex hx
  replace cbR := bR.cell
  replace fbR := bR.frozen
  replace zbR := bR.lt
  clear hx
  go_wp2
  refine Gq (v := frv (Fr.none, false)) ?_ rfl ⟨rfl, ?_⟩
  ·simp [results, Tryz.results124, go_sem, frv, Fr.v, Fr.none, cbA, zbA, cbB, zbB, cbR, zbR]
  ·repeat' (with_reducible first | exact Ex.refl _ | assumption | apply Ex.alloc | apply Ex.drewN | apply Ex.drew | refine Ex.setCell ?_ (by simp <;> omega) _)
 obtain ⟨ap1, ap2, ap3, -⟩ := Yd h1
 obtain ⟨bp1, bp2, bp3, -⟩ := Yd h2
 have hr : Yt ⟨a1, a2, a3⟩ ⟨b1, b2, b3⟩ = _ := fadd2_ok h1 h2
 have mx1 := Xl (a := a1) (b := b3) (by omega) (by omega)
 obtain ⟨x1, ex1⟩ : ∃ x, a1 * b3 = x := ⟨_, rfl⟩
 rw [ex1] at mx1 hr
 have mx2 := Xl (a := b1) (b := a3) (by omega) (by omega)
 obtain ⟨x2, ex2⟩ : ∃ x, b1 * a3 = x := ⟨_, rfl⟩
 rw [ex2] at mx2 hr
 have mx3 := Xl (a := a2) (b := b3) (by omega) (by omega)
 obtain ⟨x3, ex3⟩ : ∃ x, a2 * b3 = x := ⟨_, rfl⟩
 rw [ex3] at mx3 hr
 have mx4 := Xl (a := b2) (b := a3) (by omega) (by omega)
 obtain ⟨x4, ex4⟩ : ∃ x, b2 * a3 = x := ⟨_, rfl⟩
 rw [ex4] at mx4 hr
 have mx5 := Py (a := a3) (b := b3) (by omega) (by omega)
 obtain ⟨x5, ex5⟩ : ∃ x, a3 * b3 = x := ⟨_, rfl⟩
 rw [ex5] at mx5 hr
 have l1 := fun w => Wh (x1 + x2) (x3 + x4) (x5) w (by omega) (by omega) (by omega)
 rw [hr]
 clear hr
 generalize flow (x1 + x2) (x3 + x4) (x5) = r at l1 ⊢
 obtain ⟨⟨r1, r2, r3⟩, ok⟩ := r
 replace l1 := fun w => Yu.spell (l1 w)
 simp only [h1] at k1
 simp only [h2] at k2
 have K1 := Gv k1
 have K2 := Gv k2
 have L1 := Gv l1
 clear l1 k1 k2 h1 h2
 go_enter Tryz.func124, Tryz.ntmps124
 go_wp2_with fail
 refine (K1.out _).mono ?_
 rintro e w1 ⟨rfl, hx⟩
 have bA := (((Box.new _ _ _).alloc _).alloc _).ex hx
 have bB := ((Box.new _ _ _).alloc _).ex hx
 simp only [Gu] at bB
 have bR := (Box.new _ _ _).ex hx
 simp only [Gu] at bR
 replace hx := ((((Ex.refl w).alloc _).alloc _).alloc _).trans hx
 have hE := hx
 have cbA := bA.cell
 have fbA := bA.frozen
 have zbA := bA.lt
 have cbB := bB.cell
 have fbB := bB.frozen
 have zbB := bB.lt
 have cbR := bR.cell
 have fbR := bR.frozen
 have zbR := bR.lt
 clear hx
 go_wp2_with fail
 refine (K2.out _).mono ?_
 rintro e w2 ⟨rfl, hx⟩
 replace hE := hE.trans hx
 replace bA := bA.ex hx
 replace cbA := bA.cell
 replace fbA := bA.frozen
 replace zbA := bA.lt
 replace bB := bB.ex hx
 replace cbB := bB.cell
 replace fbB := bB.frozen
 replace zbB := bB.lt
 replace bR := bR.ex hx
 replace cbR := bR.cell
 replace fbR := bR.frozen
 replace zbR := bR.lt
 clear hx
 go_wp2_with fail
 refine (L1.out _).mono ?_
 rintro e w3 ⟨rfl, hx⟩
 replace hE := hE.trans hx
 replace bA := bA.ex hx
 replace cbA := bA.cell
 replace fbA := bA.frozen
 replace zbA := bA.lt
 replace bB := bB.ex hx
 replace cbB := bB.cell
 replace fbB := bB.frozen
 replace zbB := bB.lt
 replace bR := bR.ex hx
 replace cbR := bR.cell
 replace fbR := bR.frozen
 replace zbR := bR.lt
 clear hx
 go_wp2
 refine Gq (v := frv (⟨r1, r2, r3⟩, ok)) ?_ rfl ⟨rfl, ?_⟩
 ·simp [results, Tryz.results124, go_sem, frv, Fr.v, Fr.none, cbA, zbA, cbB, zbB, cbR, zbR]
 ·repeat' (with_reducible first | exact Ex.refl _ | assumption | apply Ex.alloc | apply Ex.drewN | apply Ex.drew | refine Ex.setCell ?_ (by simp <;> omega) _)
theorem Qk (a b : Fr) (w : World) : Calls Tryz.prog 100 #[a.v, b.v] w (Yu w (Yt a b)) := by
 have l1 := fun w => sl2Sum a b 1 (.inl rfl) w
 simp only [Mb] at l1
 generalize Yt a b = r at l1 ⊢
 obtain ⟨a1, a2, a3⟩ := a
 obtain ⟨b1, b2, b3⟩ := b
 obtain ⟨⟨r1, r2, r3⟩, ok⟩ := r
 replace l1 := fun w => Yu.spell (l1 w)
 show Calls _ _ #[.agg #[.int .i64 a1, .int .i64 a2, .int .i64 a3], .agg #[.int .i64 b1, .int .i64 b2, .int .i64 b3]] _ _
 go_enter Tryz.func100, Tryz.ntmps100
 go_wp2_with fail
 refine (l1 _).mono ?_
 rintro e w1 ⟨rfl, hx⟩
 have bA := (((Box.new _ _ _).alloc _).alloc _).ex hx
 have bB := ((Box.new _ _ _).alloc _).ex hx
 simp only [Gu] at bB
 have bR := (Box.new _ _ _).ex hx
 simp only [Gu] at bR
 replace hx := ((((Ex.refl w).alloc _).alloc _).alloc _).trans hx
 have hE := hx
 have cbA := bA.cell
 have fbA := bA.frozen
 have zbA := bA.lt
 have cbB := bB.cell
 have fbB := bB.frozen
 have zbB := bB.lt
 have cbR := bR.cell
 have fbR := bR.frozen
 have zbR := bR.lt
 clear hx
 go_wp2
 refine Gq (v := frv (⟨r1, r2, r3⟩, ok)) ?_ rfl ⟨rfl, ?_⟩
 ·simp [results, Tryz.results100, go_sem, frv, Fr.v, Fr.none, cbA, zbA, cbB, zbB, cbR, zbR]
 ·repeat' (with_reducible first | exact Ex.refl _ | assumption | apply Ex.alloc | apply Ex.drewN | apply Ex.drew | refine Ex.setCell ?_ (by simp <;> omega) _)
theorem iFracMirror (a : Fr) (w : World) : Calls Tryz.prog 160 #[a.v] w (Yu w (Ys a)) := by
 obtain ⟨a1, a2, a3⟩ := a
 show Calls _ _ #[.agg #[.int .i64 a1, .int .i64 a2, .int .i64 a3]] _ _
 have k1 := fun w => Xx a1 a2 a3 w
 rcases h1 : Zh a1 a2 a3 with _ | _
 ·have hr : Ys ⟨a1, a2, a3⟩ = (Fr.none, false) := by simp [Ys, Fr.valid, h1]
  simp only [h1] at k1
  rw [hr]
  have K1 := Gv k1
  clear k1 hr h1
  go_enter Tryz.func160, Tryz.ntmps160
  go_wp2_with fail
  refine (K1.out _).mono ?_
  rintro e w1 ⟨rfl, hx⟩
  have bA := ((Box.new _ _ _).alloc _).ex hx
  have bR := (Box.new _ _ _).ex hx
  simp only [Gu] at bR
  replace hx := (((Ex.refl w).alloc _).alloc _).trans hx
  have hE := hx
  have cbA := bA.cell
  have fbA := bA.frozen
  have zbA := bA.lt
  have cbR := bR.cell
  have fbR := bR.frozen
  have zbR := bR.lt
  clear hx
  go_wp2
  refine Gq (v := frv (Fr.none, false)) ?_ rfl ⟨rfl, ?_⟩
  ·simp [results, Tryz.results160, go_sem, frv, Fr.v, Fr.none, cbA, zbA, cbR, zbR]
  ·repeat' (with_reducible first | exact Ex.refl _ | assumption | apply Ex.alloc | apply Ex.drewN | apply Ex.drew | refine Ex.setCell ?_ (by simp <;> omega) _)
 ·have hr : Ys ⟨a1, a2, a3⟩ = (⟨a1, -a2, a3⟩, true) := by simp [Ys, Fr.valid, h1]
  obtain ⟨-, p2, -, -⟩ := Yd h1
  have hw := Gp (-a2) (by omega)
  simp only [h1] at k1
  rw [hr]
  have K1 := Gv k1
  clear k1 hr h1
  go_enter Tryz.func160, Tryz.ntmps160
  go_wp2_with fail
  refine (K1.out _).mono ?_
  rintro e w1 ⟨rfl, hx⟩
  have bA := ((Box.new _ _ _).alloc _).ex hx
  have bR := (Box.new _ _ _).ex hx
  simp only [Gu] at bR
  replace hx := (((Ex.refl w).alloc _).alloc _).trans hx
  have hE := hx
  have cbA := bA.cell
  have fbA := bA.frozen
  have zbA := bA.lt
  have cbR := bR.cell
  have fbR := bR.frozen
  have zbR := bR.lt
  clear hx
  go_wp2
  refine Gq (v := frv (⟨a1, -a2, a3⟩, true)) ?_ rfl ⟨rfl, ?_⟩
  ·simp [results, Tryz.results160, go_sem, frv, Fr.v, Fr.none, cbA, zbA, cbR, zbR]
  ·repeat' (with_reducible first | exact Ex.refl _ | assumption | apply Ex.alloc | apply Ex.drewN | apply Ex.drew | refine Ex.setCell ?_ (by simp <;> omega) _)
end
section
open Go.RowKit

structure Sm (bs : Nat) (w w' : World) : Prop where
  ex : ∀ W, Ex W w → W.heap.size ≤ bs → Ex W w'
  box : ∀ b t cs, b ≠ bs → Box w b t cs → Box w' b t cs
  own : ∀ lo T k v n cs, T ≠ 128 → Own w lo T k v n cs → Own w' lo T k v n cs
  size : w.heap.size ≤ w'.heap.size
theorem Sm.of_ex {bs : Nat} {w w' : World} (h : Ex w w') : Sm bs w w' := ⟨fun _ hW _ => hW.trans h, fun _ _ _ _ hb => hb.ex h, fun _ _ _ _ _ _ _ ho => Own.ex ho h, h.size⟩
theorem Sm.refl (bs : Nat) (w : World) : Sm bs w w := Sm.of_ex (Ex.refl w)
theorem Sm.trans {bs : Nat} {w w1 w2 : World} (h : Sm bs w w1) (k : Sm bs w1 w2) : Sm bs w w2 :=
  ⟨fun W hW hl => k.ex W (h.ex W hW hl) hl, fun b t cs hne hb => k.box b t cs hne (h.box b t cs hne hb), fun _ _ _ _ _ _ hT ho => k.own _ _ _ _ _ _ hT (h.own _ _ _ _ _ _ hT ho), Nat.le_trans h.size k.size⟩
theorem Sm.set {bs : Nat} {w : World} {cs : Array Value} (hb : Box w bs 128 cs) (i : Nat) (u : Value) : Sm bs w (w.setCell ⟨bs, i, none⟩ u) :=
  ⟨fun W hW hl => hW.setCell (p := ⟨bs, i, none⟩) hl u, fun b t cs hne hb' => hb'.far (p := ⟨bs, i, none⟩) hne u,
   fun lo T k v n cs hT ho => Own.setCell (p := ⟨bs, i, none⟩) ho (fun g hg e => by subst e; exact Own.ne ho hb hT hg.symm) u, by simp⟩
theorem Sm.setNew {bs : Nat} {w w' : World} (h : Sm bs w w') {p : Addr} (hp : w.heap.size ≤ p.block) (u : Value) : Sm bs w (w'.setCell p u) :=
  ⟨fun W hW hl => (h.ex W hW hl).setCell (Nat.le_trans hW.size hp) u, fun b t cs hne hb => (h.box b t cs hne hb).far (by have := hb.lt; omega) u,
   fun lo T k v n cs hT ho => Own.setCell (h.own lo T k v n cs hT ho) (fun g hg e => by have := (Own.lt ho g hg).2; omega) u, by have := h.size; simpa using this⟩
theorem Sm.alloc {bs : Nat} {w w' : World} (h : Sm bs w w') (o : Obj) : Sm bs w (w'.alloc o) := h.trans (Sm.of_ex ((Ex.refl _).alloc o))

theorem Sb {x y z : Int} (h : (flow x y z).2 = false) : (flow x y z).1 = Fr.none := by
  unfold flow at h ⊢
  split
  · rename_i h2; rw [if_pos h2] at h; cases h
  · rfl
def Wk (bs : Nat) (bad : Bool) (w : World) (r : Fr × Bool) : Ending → World → Prop := fun e w' => e = .returned r.1.v ∧ Sm bs w w' ∧ Box w' bs 128 #[.bool (bad || !r.2)]
theorem Tb (bs : Nat) (bad : Bool) (r : Fr × Bool) (w : World) (hb : Box w bs 128 #[.bool bad]) (hn : r.2 = false → r.1 = Fr.none) :
    Calls Tryz.prog 123 #[.pointer (some ⟨bs, 0, none⟩), r.1.v, .bool r.2] w (Wk bs bad w r) := by
  obtain ⟨⟨r1, r2, r3⟩, ok⟩ := r
  show Calls _ _ #[_, .agg #[.int .i64 r1, .int .i64 r2, .int .i64 r3], .bool ok] _ _
  have c := hb.cell
  have f := hb.frozen
  have z := hb.lt
  rcases ok with _ | _
  · have hn' := hn rfl
    simp only [Fr.none, Fr.mk.injEq] at hn'
    obtain ⟨rfl, rfl, rfl⟩ := hn'
    clear hn
    go_enter Tryz.func123, Tryz.ntmps123
    go_wp2
    refine Gq (v := .agg #[.int .i64 0, .int .i64 0, .int .i64 0]) ?_ rfl ⟨rfl, ?_, ?_⟩
    · simp [results, Tryz.results123, go_sem]
    · exact ((Sm.set hb 0 _).alloc _).alloc _
    · have hs : Box _ bs 128 #[.bool true] := hb.set_ 0 (.bool true)
      have : (bad || !false) = true := by simp
      rw [this]
      exact (hs.alloc _).alloc _
  · clear hn
    go_enter Tryz.func123, Tryz.ntmps123
    go_wp2
    refine Gq (v := .agg #[.int .i64 r1, .int .i64 r2, .int .i64 r3]) ?_ rfl ⟨rfl, ?_, ?_⟩
    · simp [results, Tryz.results123, go_sem]
    · exact Sm.of_ex (by repeat' (with_reducible first | exact Ex.refl _ | assumption | apply Ex.alloc | apply Ex.drewN | apply Ex.drew | refine Ex.setCell ?_ (by simp <;> omega) _))
    · have : (bad || !true) = bad := by simp
      rw [this]
      exact hb.ex (by repeat' (with_reducible first | exact Ex.refl _ | assumption | apply Ex.alloc | apply Ex.drewN | apply Ex.drew | refine Ex.setCell ?_ (by simp <;> omega) _))
theorem Wg {a b : Fr} (h : (Yt a b).2 = false) : (Yt a b).1 = Fr.none := by
  unfold Yt at h ⊢
  split
  · rename_i hv
    rw [if_pos hv] at h
    exact Sb h
  · rfl
theorem Uv (bs : Nat) (bad : Bool) (a b : Fr) (w : World) (hb : Box w bs 128 #[.bool bad]) :
    Calls Tryz.prog 75 #[.pointer (some ⟨bs, 0, none⟩), a.v, b.v] w (Wk bs bad w (Yt a b)) := by
  have l1 := fun w => iFracAdd a b w
  have l2 := fun w hb => Tb bs bad (Yt a b) w hb Wg
  generalize Yt a b = r at l1 l2 ⊢
  obtain ⟨a1, a2, a3⟩ := a
  obtain ⟨b1, b2, b3⟩ := b
  obtain ⟨⟨r1, r2, r3⟩, ok⟩ := r
  show Calls _ _ #[_, .agg #[.int .i64 a1, .int .i64 a2, .int .i64 a3], .agg #[.int .i64 b1, .int .i64 b2, .int .i64 b3]] _ _
  have k1 : ∀ w, Calls Tryz.prog 124 #[.agg #[.int .i64 a1, .int .i64 a2, .int .i64 a3], .agg #[.int .i64 b1, .int .i64 b2, .int .i64 b3]] w _ := fun w => Yu.spell (l1 w)
  have k2 : ∀ w, Box w bs 128 #[.bool bad] → Calls Tryz.prog 123 #[.pointer (some ⟨bs, 0, none⟩), .agg #[.int .i64 r1, .int .i64 r2, .int .i64 r3], .bool ok] w fun e w' => e = .returned (.agg #[.int .i64 r1, .int .i64 r2, .int .i64 r3]) ∧ Sm bs w w' ∧ Box w' bs 128 #[.bool (bad || !ok)] := l2
  clear l1 l2
  have hbs := hb.lt
  go_enter Tryz.func75, Tryz.ntmps75
  go_wp2_with fail
  refine (k1 _).mono ?_
  rintro e w1 ⟨rfl, hx⟩
  have bR := (Box.new _ _ _).ex hx
  simp only [Gu] at bR
  replace hx := (((Ex.refl w).alloc _).alloc _ |>.alloc _).trans hx
  have zR := bR.lt
  go_wp2_with fail
  refine (k2 _ (hb.ex hx)).mono ?_
  rintro e w2 ⟨rfl, hsm, hb2⟩
  have bR2 := hsm.box _ _ _ (by omega) bR
  have cR := bR2.cell
  have fR := bR2.frozen
  clear bR hb
  go_wp2
  refine Gq (v := .agg #[.int .i64 r1, .int .i64 r2, .int .i64 r3]) ?_ rfl ⟨rfl, ?_, ?_⟩
  · simp [results, Tryz.results75, go_sem, cR]
  · repeat' (first
      | exact (Sm.of_ex hx).trans hsm
      | refine Sm.setNew ?_ (by simp <;> omega) _)
  · repeat' (first
      | exact hb2
      | refine Box.far ?_ (by simp <;> omega) _)
theorem Wf {a b : Fr} (h : (Xj a b).2 = false) : (Xj a b).1 = Fr.none := by
  unfold Xj at h ⊢
  split
  · rename_i hv
    rw [if_pos hv] at h
    exact Sb h
  · rfl
theorem Vb (bs : Nat) (bad : Bool) (a b : Fr) (w : World) (hb : Box w bs 128 #[.bool bad]) :
    Calls Tryz.prog 119 #[.pointer (some ⟨bs, 0, none⟩), a.v, b.v] w (Wk bs bad w (Xj a b)) := by
  have l1 := fun w => iFracLess a b w
  have l2 := fun w hb => Tb bs bad (Xj a b) w hb Wf
  generalize Xj a b = r at l1 l2 ⊢
  obtain ⟨a1, a2, a3⟩ := a
  obtain ⟨b1, b2, b3⟩ := b
  obtain ⟨⟨r1, r2, r3⟩, ok⟩ := r
  show Calls _ _ #[_, .agg #[.int .i64 a1, .int .i64 a2, .int .i64 a3], .agg #[.int .i64 b1, .int .i64 b2, .int .i64 b3]] _ _
  have k1 : ∀ w, Calls Tryz.prog 162 #[.agg #[.int .i64 a1, .int .i64 a2, .int .i64 a3], .agg #[.int .i64 b1, .int .i64 b2, .int .i64 b3]] w _ := fun w => Yu.spell (l1 w)
  have k2 : ∀ w, Box w bs 128 #[.bool bad] → Calls Tryz.prog 123 #[.pointer (some ⟨bs, 0, none⟩), .agg #[.int .i64 r1, .int .i64 r2, .int .i64 r3], .bool ok] w fun e w' => e = .returned (.agg #[.int .i64 r1, .int .i64 r2, .int .i64 r3]) ∧ Sm bs w w' ∧ Box w' bs 128 #[.bool (bad || !ok)] := l2
  clear l1 l2
  have hbs := hb.lt
  go_enter Tryz.func119, Tryz.ntmps119
  go_wp2_with fail
  refine (k1 _).mono ?_
  rintro e w1 ⟨rfl, hx⟩
  have bR := (Box.new _ _ _).ex hx
  simp only [Gu] at bR
  replace hx := (((Ex.refl w).alloc _).alloc _ |>.alloc _).trans hx
  have zR := bR.lt
  go_wp2_with fail
  refine (k2 _ (hb.ex hx)).mono ?_
  rintro e w2 ⟨rfl, hsm, hb2⟩
  have bR2 := hsm.box _ _ _ (by omega) bR
  have cR := bR2.cell
  have fR := bR2.frozen
  clear bR hb
  go_wp2
  refine Gq (v := .agg #[.int .i64 r1, .int .i64 r2, .int .i64 r3]) ?_ rfl ⟨rfl, ?_, ?_⟩
  · simp [results, Tryz.results119, go_sem, cR]
  · repeat' (first
      | exact (Sm.of_ex hx).trans hsm
      | refine Sm.setNew ?_ (by simp <;> omega) _)
  · repeat' (first
      | exact hb2
      | refine Box.far ?_ (by simp <;> omega) _)
theorem Jq {a b : Fr} (h : (Zs a b).2 = false) : (Zs a b).1 = Fr.none := by
  unfold Zs at h ⊢
  split
  · rename_i hv
    rw [if_pos hv] at h
    exact Sb h
  · rfl
theorem times_any (bs : Nat) (bad : Bool) (a b : Fr) (w : World) (hb : Box w bs 128 #[.bool bad]) :
    Calls Tryz.prog 74 #[.pointer (some ⟨bs, 0, none⟩), a.v, b.v] w (Wk bs bad w (Zs a b)) := by
  have l1 := fun w => Mm a b w
  have l2 := fun w hb => Tb bs bad (Zs a b) w hb Jq
  generalize Zs a b = r at l1 l2 ⊢
  obtain ⟨a1, a2, a3⟩ := a
  obtain ⟨b1, b2, b3⟩ := b
  obtain ⟨⟨r1, r2, r3⟩, ok⟩ := r
  show Calls _ _ #[_, .agg #[.int .i64 a1, .int .i64 a2, .int .i64 a3], .agg #[.int .i64 b1, .int .i64 b2, .int .i64 b3]] _ _
  have k1 : ∀ w, Calls Tryz.prog 81 #[.agg #[.int .i64 a1, .int .i64 a2, .int .i64 a3], .agg #[.int .i64 b1, .int .i64 b2, .int .i64 b3]] w _ := fun w => Yu.spell (l1 w)
  have k2 : ∀ w, Box w bs 128 #[.bool bad] → Calls Tryz.prog 123 #[.pointer (some ⟨bs, 0, none⟩), .agg #[.int .i64 r1, .int .i64 r2, .int .i64 r3], .bool ok] w fun e w' => e = .returned (.agg #[.int .i64 r1, .int .i64 r2, .int .i64 r3]) ∧ Sm bs w w' ∧ Box w' bs 128 #[.bool (bad || !ok)] := l2
  clear l1 l2
  have hbs := hb.lt
  go_enter Tryz.func74, Tryz.ntmps74
  go_wp2_with fail
  refine (k1 _).mono ?_
  rintro e w1 ⟨rfl, hx⟩
  have bR := (Box.new _ _ _).ex hx
  simp only [Gu] at bR
  replace hx := (((Ex.refl w).alloc _).alloc _ |>.alloc _).trans hx
  have zR := bR.lt
  go_wp2_with fail
  refine (k2 _ (hb.ex hx)).mono ?_
  rintro e w2 ⟨rfl, hsm, hb2⟩
  have bR2 := hsm.box _ _ _ (by omega) bR
  have cR := bR2.cell
  have fR := bR2.frozen
  clear bR hb
  go_wp2
  refine Gq (v := .agg #[.int .i64 r1, .int .i64 r2, .int .i64 r3]) ?_ rfl ⟨rfl, ?_, ?_⟩
  · simp [results, Tryz.results74, go_sem, cR]
  · repeat' (first
      | exact (Sm.of_ex hx).trans hsm
      | refine Sm.setNew ?_ (by simp <;> omega) _)
  · repeat' (first
      | exact hb2
      | refine Box.far ?_ (by simp <;> omega) _)
theorem Px {a : Fr} (h : (Ys a).2 = false) : (Ys a).1 = Fr.none := by
  unfold Ys at h ⊢
  split
  · rename_i hv
    rw [if_pos hv] at h
    cases h
  · rfl
theorem mirror_any (bs : Nat) (bad : Bool) (a : Fr) (w : World) (hb : Box w bs 128 #[.bool bad]) :
    Calls Tryz.prog 115 #[.pointer (some ⟨bs, 0, none⟩), a.v] w (Wk bs bad w (Ys a)) := by
  have l1 := fun w => iFracMirror a w
  have l2 := fun w hb => Tb bs bad (Ys a) w hb Px
  generalize Ys a = r at l1 l2 ⊢
  obtain ⟨a1, a2, a3⟩ := a
  obtain ⟨⟨r1, r2, r3⟩, ok⟩ := r
  show Calls _ _ #[_, .agg #[.int .i64 a1, .int .i64 a2, .int .i64 a3]] _ _
  have k1 : ∀ w, Calls Tryz.prog 160 #[.agg #[.int .i64 a1, .int .i64 a2, .int .i64 a3]] w _ := fun w => Yu.spell (l1 w)
  have k2 : ∀ w, Box w bs 128 #[.bool bad] → Calls Tryz.prog 123 #[.pointer (some ⟨bs, 0, none⟩), .agg #[.int .i64 r1, .int .i64 r2, .int .i64 r3], .bool ok] w fun e w' => e = .returned (.agg #[.int .i64 r1, .int .i64 r2, .int .i64 r3]) ∧ Sm bs w w' ∧ Box w' bs 128 #[.bool (bad || !ok)] := l2
  clear l1 l2
  have hbs := hb.lt
  go_enter Tryz.func115, Tryz.ntmps115
  go_wp2_with fail
  refine (k1 _).mono ?_
  rintro e w1 ⟨rfl, hx⟩
  have bR := (Box.new _ _ _).ex hx
  simp only [Gu] at bR
  replace hx := (((Ex.refl w).alloc _).alloc _).trans hx
  have zR := bR.lt
  go_wp2_with fail
  refine (k2 _ (hb.ex hx)).mono ?_
  rintro e w2 ⟨rfl, hsm, hb2⟩
  have bR2 := hsm.box _ _ _ (by omega) bR
  have cR := bR2.cell
  have fR := bR2.frozen
  clear bR hb
  go_wp2
  refine Gq (v := .agg #[.int .i64 r1, .int .i64 r2, .int .i64 r3]) ?_ rfl ⟨rfl, ?_, ?_⟩
  · simp [results, Tryz.results115, go_sem, cR]
  · repeat' (first
      | exact (Sm.of_ex hx).trans hsm
      | refine Sm.setNew ?_ (by simp <;> omega) _)
  · repeat' (first
      | exact hb2
      | refine Box.far ?_ (by simp <;> omega) _)
theorem Ut {a : Fr} (h : (Ze a).2 = false) : (Ze a).1 = Fr.none := by
  unfold Ze at h ⊢
  split
  · rename_i hv
    rw [if_pos hv] at h
    exact Sb h
  · rfl
theorem power_any (bs : Nat) (bad : Bool) (a : Fr) (w : World) (hb : Box w bs 128 #[.bool bad]) :
    Calls Tryz.prog 113 #[.pointer (some ⟨bs, 0, none⟩), a.v] w (Wk bs bad w (Ze a)) := by
  have l1 := fun w => iFracPower a w
  have l2 := fun w hb => Tb bs bad (Ze a) w hb Ut
  generalize Ze a = r at l1 l2 ⊢
  obtain ⟨a1, a2, a3⟩ := a
  obtain ⟨⟨r1, r2, r3⟩, ok⟩ := r
  show Calls _ _ #[_, .agg #[.int .i64 a1, .int .i64 a2, .int .i64 a3]] _ _
  have k1 : ∀ w, Calls Tryz.prog 159 #[.agg #[.int .i64 a1, .int .i64 a2, .int .i64 a3]] w _ := fun w => Yu.spell (l1 w)
  have k2 : ∀ w, Box w bs 128 #[.bool bad] → Calls Tryz.prog 123 #[.pointer (some ⟨bs, 0, none⟩), .agg #[.int .i64 r1, .int .i64 r2, .int .i64 r3], .bool ok] w fun e w' => e = .returned (.agg #[.int .i64 r1, .int .i64 r2, .int .i64 r3]) ∧ Sm bs w w' ∧ Box w' bs 128 #[.bool (bad || !ok)] := l2
  clear l1 l2
  have hbs := hb.lt
  go_enter Tryz.func113, Tryz.ntmps113
  go_wp2_with fail
  refine (k1 _).mono ?_
  rintro e w1 ⟨rfl, hx⟩
  have bR := (Box.new _ _ _).ex hx
  simp only [Gu] at bR
  replace hx := (((Ex.refl w).alloc _).alloc _).trans hx
  have zR := bR.lt
  go_wp2_with fail
  refine (k2 _ (hb.ex hx)).mono ?_
  rintro e w2 ⟨rfl, hsm, hb2⟩
  have bR2 := hsm.box _ _ _ (by omega) bR
  have cR := bR2.cell
  have fR := bR2.frozen
  clear bR hb
  go_wp2
  refine Gq (v := .agg #[.int .i64 r1, .int .i64 r2, .int .i64 r3]) ?_ rfl ⟨rfl, ?_, ?_⟩
  · simp [results, Tryz.results113, go_sem, cR]
  · repeat' (first
      | exact (Sm.of_ex hx).trans hsm
      | refine Sm.setNew ?_ (by simp <;> omega) _)
  · repeat' (first
      | exact hb2
      | refine Box.far ?_ (by simp <;> omega) _)
end
end Go.Proofs.YtmmjkchjgeklnaaGreatDoor
