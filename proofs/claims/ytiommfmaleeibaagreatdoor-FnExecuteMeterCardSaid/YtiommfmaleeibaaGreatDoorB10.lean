/-
  Proved: what functions compute, part 10. No condition.
-/
import Derived.Test.YtiommfmaleeibaaGreatDoorB05
import Derived.Test.YtiommfmaleeibaaGreatDoorB01
import Derived.Laws.BitsAllLaws
set_option linter.unusedSimpArgs false
set_option linter.unusedVariables false
set_option maxRecDepth 20000
set_option maxHeartbeats 8000000
namespace Go.Proofs.YtiommfmaleeibaaGreatDoor
section
open Go.RowKit

theorem iFracLess (a b : Fr) (w : World) : Calls Tryz.prog 120 #[a.v, b.v] w (Yh w (Xy a b)) := by
 obtain ⟨a1, a2, a3⟩ := a
 obtain ⟨b1, b2, b3⟩ := b
 show Calls _ _ #[.agg #[.int .i64 a1, .int .i64 a2, .int .i64 a3], .agg #[.int .i64 b1, .int .i64 b2, .int .i64 b3]] _ _
 have k1 := fun w => Yk a1 a2 a3 w
 have k2 := fun w => Yk b1 b2 b3 w
 rcases h1 : Zg a1 a2 a3 with _ | _
 ·have hr : Xy ⟨a1, a2, a3⟩ ⟨b1, b2, b3⟩ = (Fr.none, false) := by simp [Xy, Fr.valid, h1]
  simp only [h1] at k1
  rw [hr]
  have K1 := Kw k1
  clear hr k1 k2 h1
  go_enter Tryz.func120, Tryz.ntmps120
  go_wp2_with fail
  refine (K1.out _).mono ?_
  rintro e w1 ⟨rfl, hx⟩
  have bA := (((Box.new _ _ _).alloc _).alloc _).ex hx
  have bB := ((Box.new _ _ _).alloc _).ex hx
  simp only [Kv] at bB
  have bR := (Box.new _ _ _).ex hx
  simp only [Kv] at bR
  replace hx := ((((Ex.refl w).alloc _).alloc _).alloc _).trans hx
  have hE := hx
  have cbA := bA.cell
  have fbA := bA.frozen
  have zbA := bA.lt
  have cbB := bB.cell
  have fbB := bB.frozen
  have zbB := bB.lt
  have cbR := bR.cell
  have fbR := bR.frozen
  have zbR := bR.lt
  clear hx
  go_wp2
  refine Kr (v := frv (Fr.none, false)) ?_ rfl ⟨rfl, ?_⟩
  ·simp [results, Tryz.results120, go_sem, frv, Fr.v, Fr.none, cbA, zbA, cbB, zbB, cbR, zbR]
  ·repeat' (with_reducible first | exact Ex.refl _ | assumption | apply Ex.alloc | apply Ex.drewN | apply Ex.drew | refine Ex.setCell ?_ (by simp <;> omega) _)
 rcases h2 : Zg b1 b2 b3 with _ | _
 ·have hr : Xy ⟨a1, a2, a3⟩ ⟨b1, b2, b3⟩ = (Fr.none, false) := by simp [Xy, Fr.valid, h1, h2]
  simp only [h1] at k1
  simp only [h2] at k2
  rw [hr]
  have K1 := Kw k1
  have K2 := Kw k2
  clear hr k1 k2 h1 h2
  go_enter Tryz.func120, Tryz.ntmps120
  go_wp2_with fail
  refine (K1.out _).mono ?_
  rintro e w1 ⟨rfl, hx⟩
  have bA := (((Box.new _ _ _).alloc _).alloc _).ex hx
  have bB := ((Box.new _ _ _).alloc _).ex hx
  simp only [Kv] at bB
  have bR := (Box.new _ _ _).ex hx
  simp only [Kv] at bR
  replace hx := ((((Ex.refl w).alloc _).alloc _).alloc _).trans hx
  have hE := hx
  have cbA := bA.cell
  have fbA := bA.frozen
  have zbA := bA.lt
  have cbB := bB.cell
  have fbB := bB.frozen
  have zbB := bB.lt
  have cbR := bR.cell
  have fbR := bR.frozen
  have zbR := bR.lt
  clear hx
  go_wp2_with fail
  refine (K2.out _).mono ?_
  rintro e w2 ⟨rfl, hx⟩
  replace hE := hE.trans hx
  replace bA := bA.ex hx
  replace cbA := bA.cell
  replace fbA := bA.frozen
  replace zbA := bA.lt
  replace bB := bB.ex hx
  replace cbB := bB.cell
  replace fbB := bB.frozen
  replace zbB := bB.lt
  replace bR := bR.ex hx
  replace cbR := bR.cell
  replace fbR := bR.frozen
  replace zbR := bR.lt
  clear hx
  go_wp2
  refine Kr (v := frv (Fr.none, false)) ?_ rfl ⟨rfl, ?_⟩
  ·simp [results, Tryz.results120, go_sem, frv, Fr.v, Fr.none, cbA, zbA, cbB, zbB, cbR, zbR]
  ·repeat' (with_reducible first | exact Ex.refl _ | assumption | apply Ex.alloc | apply Ex.drewN | apply Ex.drew | refine Ex.setCell ?_ (by simp <;> omega) _)
 obtain ⟨ap1, ap2, ap3, -⟩ := Xm h1
 obtain ⟨bp1, bp2, bp3, -⟩ := Xm h2
 have hr : Xy ⟨a1, a2, a3⟩ ⟨b1, b2, b3⟩ = _ := fless_ok h1 h2
 have mx1 := Xq (a := a1) (b := b3) (by omega) (by omega)
 obtain ⟨x1, ex1⟩ : ∃ x, a1 * b3 = x := ⟨_, rfl⟩
 rw [ex1] at mx1 hr
 have mx2 := Xq (a := b1) (b := a3) (by omega) (by omega)
 obtain ⟨x2, ex2⟩ : ∃ x, b1 * a3 = x := ⟨_, rfl⟩
 rw [ex2] at mx2 hr
 have mx3 := Xq (a := a2) (b := b3) (by omega) (by omega)
 obtain ⟨x3, ex3⟩ : ∃ x, a2 * b3 = x := ⟨_, rfl⟩
 rw [ex3] at mx3 hr
 have mx4 := Xq (a := b2) (b := a3) (by omega) (by omega)
 obtain ⟨x4, ex4⟩ : ∃ x, b2 * a3 = x := ⟨_, rfl⟩
 rw [ex4] at mx4 hr
 have mx5 := Tn (a := a3) (b := b3) (by omega) (by omega)
 obtain ⟨x5, ex5⟩ : ∃ x, a3 * b3 = x := ⟨_, rfl⟩
 rw [ex5] at mx5 hr
 have l1 := fun w => Wp (x1 - x2) (x3 - x4) (x5) w (by omega) (by omega) (by omega)
 rw [hr]
 clear hr
 generalize flow (x1 - x2) (x3 - x4) (x5) = r at l1 ⊢
 obtain ⟨⟨r1, r2, r3⟩, ok⟩ := r
 replace l1 := fun w => Yh.spell (l1 w)
 simp only [h1] at k1
 simp only [h2] at k2
 have K1 := Kw k1
 have K2 := Kw k2
 have L1 := Kw l1
 clear l1 k1 k2 h1 h2
 go_enter Tryz.func120, Tryz.ntmps120
 go_wp2_with fail
 refine (K1.out _).mono ?_
 rintro e w1 ⟨rfl, hx⟩
 have bA := (((Box.new _ _ _).alloc _).alloc _).ex hx
 have bB := ((Box.new _ _ _).alloc _).ex hx
 simp only [Kv] at bB
 have bR := (Box.new _ _ _).ex hx
 simp only [Kv] at bR
 replace hx := ((((Ex.refl w).alloc _).alloc _).alloc _).trans hx
 have hE := hx
 have cbA := bA.cell
 have fbA := bA.frozen
 have zbA := bA.lt
 have cbB := bB.cell
 have fbB := bB.frozen
 have zbB := bB.lt
 have cbR := bR.cell
 have fbR := bR.frozen
 have zbR := bR.lt
 clear hx
 go_wp2_with fail
 refine (K2.out _).mono ?_
 rintro e w2 ⟨rfl, hx⟩
 replace hE := hE.trans hx
 replace bA := bA.ex hx
 replace cbA := bA.cell
 replace fbA := bA.frozen
 replace zbA := bA.lt
 replace bB := bB.ex hx
 replace cbB := bB.cell
 replace fbB := bB.frozen
 replace zbB := bB.lt
 replace bR := bR.ex hx
 replace cbR := bR.cell
 replace fbR := bR.frozen
 replace zbR := bR.lt
 clear hx
 go_wp2_with fail
 refine (L1.out _).mono ?_
 rintro e w3 ⟨rfl, hx⟩
 replace hE := hE.trans hx
 replace bA := bA.ex hx
 replace cbA := bA.cell
 replace fbA := bA.frozen
 replace zbA := bA.lt
 replace bB := bB.ex hx
 replace cbB := bB.cell
 replace fbB := bB.frozen
 replace zbB := bB.lt
 replace bR := bR.ex hx
 replace cbR := bR.cell
 replace fbR := bR.frozen
 replace zbR := bR.lt
 clear hx
 go_wp2
 refine Kr (v := frv (⟨r1, r2, r3⟩, ok)) ?_ rfl ⟨rfl, ?_⟩
 ·simp [results, Tryz.results120, go_sem, frv, Fr.v, Fr.none, cbA, zbA, cbB, zbB, cbR, zbR]
 ·repeat' (with_reducible first | exact Ex.refl _ | assumption | apply Ex.alloc | apply Ex.drewN | apply Ex.drew | refine Ex.setCell ?_ (by simp <;> omega) _)
theorem iFracPower (a : Fr) (w : World) : Calls Tryz.prog 116 #[a.v] w (Yh w (Zj a)) := by
 obtain ⟨a1, a2, a3⟩ := a
 show Calls _ _ #[.agg #[.int .i64 a1, .int .i64 a2, .int .i64 a3]] _ _
 have k1 := fun w => Yk a1 a2 a3 w
 rcases h1 : Zg a1 a2 a3 with _ | _
 ·have hr : Zj ⟨a1, a2, a3⟩ = (Fr.none, false) := by simp [Zj, Fr.valid, h1]
  simp only [h1] at k1
  rw [hr]
  have K1 := Kw k1
  clear hr k1 h1
  go_enter Tryz.func116, Tryz.ntmps116
  go_wp2_with fail
  refine (K1.out _).mono ?_
  rintro e w1 ⟨rfl, hx⟩
  have bA := ((Box.new _ _ _).alloc _).ex hx
  have bR := (Box.new _ _ _).ex hx
  simp only [Kv] at bR
  replace hx := (((Ex.refl w).alloc _).alloc _).trans hx
  have hE := hx
  have cbA := bA.cell
  have fbA := bA.frozen
  have zbA := bA.lt
  have cbR := bR.cell
  have fbR := bR.frozen
  have zbR := bR.lt
  clear hx
  go_wp2
  refine Kr (v := frv (Fr.none, false)) ?_ rfl ⟨rfl, ?_⟩
  ·simp [results, Tryz.results116, go_sem, frv, Fr.v, Fr.none, cbA, zbA, cbR, zbR]
  ·repeat' (with_reducible first | exact Ex.refl _ | assumption | apply Ex.alloc | apply Ex.drewN | apply Ex.drew | refine Ex.setCell ?_ (by simp <;> omega) _)
 obtain ⟨ap1, ap2, ap3, -⟩ := Xm h1
 have hr : Zj ⟨a1, a2, a3⟩ = _ := fpower_ok h1
 have mx1 := Xq (a := a1) (b := a1) (by omega) (by omega)
 obtain ⟨x1, ex1⟩ : ∃ x, a1 * a1 = x := ⟨_, rfl⟩
 rw [ex1] at mx1 hr
 have mx2 := Xq (a := a2) (b := a2) (by omega) (by omega)
 obtain ⟨x2, ex2⟩ : ∃ x, a2 * a2 = x := ⟨_, rfl⟩
 rw [ex2] at mx2 hr
 have mx5 := Tn (a := a3) (b := a3) (by omega) (by omega)
 obtain ⟨x5, ex5⟩ : ∃ x, a3 * a3 = x := ⟨_, rfl⟩
 rw [ex5] at mx5 hr
 have l1 := fun w => Wp (x1 + x2) (0) (x5) w (by omega) (by omega) (by omega)
 rw [hr]
 clear hr
 generalize flow (x1 + x2) (0) (x5) = r at l1 ⊢
 obtain ⟨⟨r1, r2, r3⟩, ok⟩ := r
 replace l1 := fun w => Yh.spell (l1 w)
 simp only [h1] at k1
 have K1 := Kw k1
 have L1 := Kw l1
 clear l1 k1 h1
 go_enter Tryz.func116, Tryz.ntmps116
 go_wp2_with fail
 refine (K1.out _).mono ?_
 rintro e w1 ⟨rfl, hx⟩
 have bA := ((Box.new _ _ _).alloc _).ex hx
 have bR := (Box.new _ _ _).ex hx
 simp only [Kv] at bR
 replace hx := (((Ex.refl w).alloc _).alloc _).trans hx
 have hE := hx
 have cbA := bA.cell
 have fbA := bA.frozen
 have zbA := bA.lt
 have cbR := bR.cell
 have fbR := bR.frozen
 have zbR := bR.lt
 clear hx
 go_wp2_with fail
 refine (L1.out _).mono ?_
 rintro e w2 ⟨rfl, hx⟩
 replace hE := hE.trans hx
 replace bA := bA.ex hx
 replace cbA := bA.cell
 replace fbA := bA.frozen
 replace zbA := bA.lt
 replace bR := bR.ex hx
 replace cbR := bR.cell
 replace fbR := bR.frozen
 replace zbR := bR.lt
 clear hx
 go_wp2
 refine Kr (v := frv (⟨r1, r2, r3⟩, ok)) ?_ rfl ⟨rfl, ?_⟩
 ·simp [results, Tryz.results116, go_sem, frv, Fr.v, Fr.none, cbA, zbA, cbR, zbR]
 ·repeat' (with_reducible first | exact Ex.refl _ | assumption | apply Ex.alloc | apply Ex.drewN | apply Ex.drew | refine Ex.setCell ?_ (by simp <;> omega) _)
theorem Vh (a b : Fr) (w : World) : Calls Tryz.prog 108 #[a.v, b.v] w (Yh w (Zu a b)) := by
 obtain ⟨a1, a2, a3⟩ := a
 obtain ⟨b1, b2, b3⟩ := b
 show Calls _ _ #[.agg #[.int .i64 a1, .int .i64 a2, .int .i64 a3], .agg #[.int .i64 b1, .int .i64 b2, .int .i64 b3]] _ _
 have k1 := fun w => Wq a1 a2 a3 w
 have k2 := fun w => Wq b1 b2 b3 w
 rcases h1 : Zg a1 a2 a3 with _ | _
 ·have hr : Zu ⟨a1, a2, a3⟩ ⟨b1, b2, b3⟩ = (Fr.none, false) := by simp [Zu, Fr.valid, h1]
  simp only [h1] at k1
  rw [hr]
  have K1 := Kw k1
  clear hr k1 k2 h1
  go_enter Tryz.func108, Tryz.ntmps108
  go_wp2_with fail
  refine (K1.out _).mono ?_
  rintro e w1 ⟨rfl, hx⟩
  have bA := (((Box.new _ _ _).alloc _).alloc _).ex hx
  have bB := ((Box.new _ _ _).alloc _).ex hx
  simp only [Kv] at bB
  have bR := (Box.new _ _ _).ex hx
  simp only [Kv] at bR
  replace hx := ((((Ex.refl w).alloc _).alloc _).alloc _).trans hx
  have hE := hx
  have cbA := bA.cell
  have fbA := bA.frozen
  have zbA := bA.lt
  have cbB := bB.cell
  have fbB := bB.frozen
  have zbB := bB.lt
  have cbR := bR.cell
  have fbR := bR.frozen
  have zbR := bR.lt
  clear hx
  go_wp2
  refine Kr (v := frv (Fr.none, false)) ?_ rfl ⟨rfl, ?_⟩
  ·simp [results, Tryz.results108, go_sem, frv, Fr.v, Fr.none, cbA, zbA, cbB, zbB, cbR, zbR]
  ·repeat' (with_reducible first | exact Ex.refl _ | assumption | apply Ex.alloc | apply Ex.drewN | apply Ex.drew | refine Ex.setCell ?_ (by simp <;> omega) _)
 rcases h2 : Zg b1 b2 b3 with _ | _
 ·have hr : Zu ⟨a1, a2, a3⟩ ⟨b1, b2, b3⟩ = (Fr.none, false) := by simp [Zu, Fr.valid, h1, h2]
  simp only [h1] at k1
  simp only [h2] at k2
  rw [hr]
  have K1 := Kw k1
  have K2 := Kw k2
  clear hr k1 k2 h1 h2
  go_enter Tryz.func108, Tryz.ntmps108
  go_wp2_with fail
  refine (K1.out _).mono ?_
  rintro e w1 ⟨rfl, hx⟩
  have bA := (((Box.new _ _ _).alloc _).alloc _).ex hx
  have bB := ((Box.new _ _ _).alloc _).ex hx
  simp only [Kv] at bB
  have bR := (Box.new _ _ _).ex hx
  simp only [Kv] at bR
  replace hx := ((((Ex.refl w).alloc _).alloc _).alloc _).trans hx
  have hE := hx
  have cbA := bA.cell
  have fbA := bA.frozen
  have zbA := bA.lt
  have cbB := bB.cell
  have fbB := bB.frozen
  have zbB := bB.lt
  have cbR := bR.cell
  have fbR := bR.frozen
  have zbR := bR.lt
  clear hx
  go_wp2_with fail
  refine (K2.out _).mono ?_
  rintro e w2 ⟨rfl, hx⟩
  replace hE := hE.trans hx
  replace bA := bA.ex hx
  replace cbA := bA.cell
  replace fbA := bA.frozen
  replace zbA := bA.lt
  replace bB := bB.ex hx
  replace cbB := bB.cell
  replace fbB := bB.frozen
  replace zbB := bB.lt
  replace bR := bR.ex hx
  replace cbR := bR.cell
  replace fbR := bR.frozen
  replace zbR := bR.lt
  clear hx
  go_wp2
  refine Kr (v := frv (Fr.none, false)) ?_ rfl ⟨rfl, ?_⟩
  ·simp [results, Tryz.results108, go_sem, frv, Fr.v, Fr.none, cbA, zbA, cbB, zbB, cbR, zbR]
  ·repeat' (with_reducible first | exact Ex.refl _ | assumption | apply Ex.alloc | apply Ex.drewN | apply Ex.drew | refine Ex.setCell ?_ (by simp <;> omega) _)
 obtain ⟨ap1, ap2, ap3, -⟩ := Xm h1
 obtain ⟨bp1, bp2, bp3, -⟩ := Xm h2
 have hr : Zu ⟨a1, a2, a3⟩ ⟨b1, b2, b3⟩ = _ := On h1 h2
 have mx1 := Xq (a := a1) (b := b1) (by omega) (by omega)
 obtain ⟨x1, ex1⟩ : ∃ x, a1 * b1 = x := ⟨_, rfl⟩
 rw [ex1] at mx1 hr
 have mx2 := Xq (a := a2) (b := b2) (by omega) (by omega)
 obtain ⟨x2, ex2⟩ : ∃ x, a2 * b2 = x := ⟨_, rfl⟩
 rw [ex2] at mx2 hr
 have mx3 := Xq (a := a1) (b := b2) (by omega) (by omega)
 obtain ⟨x3, ex3⟩ : ∃ x, a1 * b2 = x := ⟨_, rfl⟩
 rw [ex3] at mx3 hr
 have mx4 := Xq (a := a2) (b := b1) (by omega) (by omega)
 obtain ⟨x4, ex4⟩ : ∃ x, a2 * b1 = x := ⟨_, rfl⟩
 rw [ex4] at mx4 hr
 have mx5 := Tn (a := a3) (b := b3) (by omega) (by omega)
 obtain ⟨x5, ex5⟩ : ∃ x, a3 * b3 = x := ⟨_, rfl⟩
 rw [ex5] at mx5 hr
 have l1 := fun w => Oo (x1 - x2) (x3 + x4) (x5) w (by omega) (by omega) (by omega)
 rw [hr]
 clear hr
 generalize flow (x1 - x2) (x3 + x4) (x5) = r at l1 ⊢
 obtain ⟨⟨r1, r2, r3⟩, ok⟩ := r
 replace l1 := fun w => Yh.spell (l1 w)
 simp only [h1] at k1
 simp only [h2] at k2
 have K1 := Kw k1
 have K2 := Kw k2
 have L1 := Kw l1
 clear l1 k1 k2 h1 h2
 go_enter Tryz.func108, Tryz.ntmps108
 go_wp2_with fail
 refine (K1.out _).mono ?_
 rintro e w1 ⟨rfl, hx⟩
 have bA := (((Box.new _ _ _).alloc _).alloc _).ex hx
 have bB := ((Box.new _ _ _).alloc _).ex hx
 simp only [Kv] at bB
 have bR := (Box.new _ _ _).ex hx
 simp only [Kv] at bR
 replace hx := ((((Ex.refl w).alloc _).alloc _).alloc _).trans hx
 have hE := hx
 have cbA := bA.cell
 have fbA := bA.frozen
 have zbA := bA.lt
 have cbB := bB.cell
 have fbB := bB.frozen
 have zbB := bB.lt
 have cbR := bR.cell
 have fbR := bR.frozen
 have zbR := bR.lt
 clear hx
 go_wp2_with fail
 refine (K2.out _).mono ?_
 rintro e w2 ⟨rfl, hx⟩
 replace hE := hE.trans hx
 replace bA := bA.ex hx
 replace cbA := bA.cell
 replace fbA := bA.frozen
 replace zbA := bA.lt
 replace bB := bB.ex hx
 replace cbB := bB.cell
 replace fbB := bB.frozen
 replace zbB := bB.lt
 replace bR := bR.ex hx
 replace cbR := bR.cell
 replace fbR := bR.frozen
 replace zbR := bR.lt
 clear hx
 go_wp2_with fail
 refine (L1.out _).mono ?_
 rintro e w3 ⟨rfl, hx⟩
 replace hE := hE.trans hx
 replace bA := bA.ex hx
 replace cbA := bA.cell
 replace fbA := bA.frozen
 replace zbA := bA.lt
 replace bB := bB.ex hx
 replace cbB := bB.cell
 replace fbB := bB.frozen
 replace zbB := bB.lt
 replace bR := bR.ex hx
 replace cbR := bR.cell
 replace fbR := bR.frozen
 replace zbR := bR.lt
 clear hx
 go_wp2
 refine Kr (v := frv (⟨r1, r2, r3⟩, ok)) ?_ rfl ⟨rfl, ?_⟩
 ·simp [results, Tryz.results108, go_sem, frv, Fr.v, Fr.none, cbA, zbA, cbB, zbB, cbR, zbR]
 ·repeat' (with_reducible first | exact Ex.refl _ | assumption | apply Ex.alloc | apply Ex.drewN | apply Ex.drew | refine Ex.setCell ?_ (by simp <;> omega) _)
theorem sl2Sum (a b : Fr) (s : Int) (hs : s = 1 ∨ s = -1) (w : World) : Calls Tryz.prog 229 #[a.v, .int .i64 s, b.v] w (Yh w (Yu s a b)) := by
 obtain ⟨a1, a2, a3⟩ := a
 obtain ⟨b1, b2, b3⟩ := b
 show Calls _ _ #[.agg #[.int .i64 a1, .int .i64 a2, .int .i64 a3], .int .i64 s, .agg #[.int .i64 b1, .int .i64 b2, .int .i64 b3]] _ _
 have k1 := fun w => Wq a1 a2 a3 w
 have k2 := fun w => Wq b1 b2 b3 w
 rcases h1 : Zg a1 a2 a3 with _ | _
 ·have hr : Yu s ⟨a1, a2, a3⟩ ⟨b1, b2, b3⟩ = (Fr.none, false) := by simp [Yu, Fr.valid, h1]
  simp only [h1] at k1
  rw [hr]
  have K1 := Kw k1
  clear hr k1 k2 h1
  go_enter Tryz.func229, Tryz.ntmps229
  go_wp2_with fail
  refine (K1.out _).mono ?_
  rintro e w1 ⟨rfl, hx⟩
  have bA := (((Box.new _ _ _).alloc _).alloc _).ex hx
  have bB := ((Box.new _ _ _).alloc _).ex hx
  simp only [Kv] at bB
  have bR := (Box.new _ _ _).ex hx
  simp only [Kv] at bR
  replace hx := ((((Ex.refl w).alloc _).alloc _).alloc _).trans hx
  have hE := hx
  have cbA := bA.cell
  have fbA := bA.frozen
  have zbA := bA.lt
  have cbB := bB.cell
  have fbB := bB.frozen
  have zbB := bB.lt
  have cbR := bR.cell
  have fbR := bR.frozen
  have zbR := bR.lt
  clear hx
  go_wp2
  refine Kr (v := frv (Fr.none, false)) ?_ rfl ⟨rfl, ?_⟩
  ·simp [results, Tryz.results229, go_sem, frv, Fr.v, Fr.none, cbA, zbA, cbB, zbB, cbR, zbR]
  ·repeat' (with_reducible first | exact Ex.refl _ | assumption | apply Ex.alloc | apply Ex.drewN | apply Ex.drew | refine Ex.setCell ?_ (by simp <;> omega) _)
 rcases h2 : Zg b1 b2 b3 with _ | _
 ·have hr : Yu s ⟨a1, a2, a3⟩ ⟨b1, b2, b3⟩ = (Fr.none, false) := by simp [Yu, Fr.valid, h1, h2]
  simp only [h1] at k1
  simp only [h2] at k2
  rw [hr]
  have K1 := Kw k1
  have K2 := Kw k2
  clear hr k1 k2 h1 h2
  go_enter Tryz.func229, Tryz.ntmps229
  go_wp2_with fail
  refine (K1.out _).mono ?_
  rintro e w1 ⟨rfl, hx⟩
  have bA := (((Box.new _ _ _).alloc _).alloc _).ex hx
  have bB := ((Box.new _ _ _).alloc _).ex hx
  simp only [Kv] at bB
  have bR := (Box.new _ _ _).ex hx
  simp only [Kv] at bR
  replace hx := ((((Ex.refl w).alloc _).alloc _).alloc _).trans hx
  have hE := hx
  have cbA := bA.cell
  have fbA := bA.frozen
  have zbA := bA.lt
  have cbB := bB.cell
  have fbB := bB.frozen
  have zbB := bB.lt
  have cbR := bR.cell
  have fbR := bR.frozen
  have zbR := bR.lt
  clear hx
  go_wp2_with fail
  refine (K2.out _).mono ?_
  rintro e w2 ⟨rfl, hx⟩
  replace hE := hE.trans hx
  replace bA := bA.ex hx
  replace cbA := bA.cell
  replace fbA := bA.frozen
  replace zbA := bA.lt
  replace bB := bB.ex hx
  replace cbB := bB.cell
  replace fbB := bB.frozen
  replace zbB := bB.lt
  replace bR := bR.ex hx
  replace cbR := bR.cell
  replace fbR := bR.frozen
  replace zbR := bR.lt
  clear hx
  go_wp2
  refine Kr (v := frv (Fr.none, false)) ?_ rfl ⟨rfl, ?_⟩
  ·simp [results, Tryz.results229, go_sem, frv, Fr.v, Fr.none, cbA, zbA, cbB, zbB, cbR, zbR]
  ·repeat' (with_reducible first | exact Ex.refl _ | assumption | apply Ex.alloc | apply Ex.drewN | apply Ex.drew | refine Ex.setCell ?_ (by simp <;> omega) _)
 obtain ⟨ap1, ap2, ap3, -⟩ := Xm h1
 obtain ⟨bp1, bp2, bp3, -⟩ := Xm h2
 have hr : Yu s ⟨a1, a2, a3⟩ ⟨b1, b2, b3⟩ = _ := fsum_ok h1 h2
 have mu := sgn_bd hs bp1
 obtain ⟨u, eu⟩ : ∃ x, s * b1 = x := ⟨_, rfl⟩
 rw [eu] at mu hr
 have mv := sgn_bd hs bp2
 obtain ⟨v, ev⟩ : ∃ x, s * b2 = x := ⟨_, rfl⟩
 rw [ev] at mv hr
 have mx1 := Xq (a := a1) (b := b3) (by omega) (by omega)
 obtain ⟨x1, ex1⟩ : ∃ x, a1 * b3 = x := ⟨_, rfl⟩
 rw [ex1] at mx1 hr
 have mx2 := Xq (a := u) (b := a3) (by omega) (by omega)
 obtain ⟨x2, ex2⟩ : ∃ x, u * a3 = x := ⟨_, rfl⟩
 rw [ex2] at mx2 hr
 have mx3 := Xq (a := a2) (b := b3) (by omega) (by omega)
 obtain ⟨x3, ex3⟩ : ∃ x, a2 * b3 = x := ⟨_, rfl⟩
 rw [ex3] at mx3 hr
 have mx4 := Xq (a := v) (b := a3) (by omega) (by omega)
 obtain ⟨x4, ex4⟩ : ∃ x, v * a3 = x := ⟨_, rfl⟩
 rw [ex4] at mx4 hr
 have mx5 := Tn (a := a3) (b := b3) (by omega) (by omega)
 obtain ⟨x5, ex5⟩ : ∃ x, a3 * b3 = x := ⟨_, rfl⟩
 rw [ex5] at mx5 hr
 have l1 := fun w => Oo (x1 + x2) (x3 + x4) (x5) w (by omega) (by omega) (by omega)
 rw [hr]
 clear hr
 generalize flow (x1 + x2) (x3 + x4) (x5) = r at l1 ⊢
 obtain ⟨⟨r1, r2, r3⟩, ok⟩ := r
 replace l1 := fun w => Yh.spell (l1 w)
 simp only [h1] at k1
 simp only [h2] at k2
 have K1 := Kw k1
 have K2 := Kw k2
 have L1 := Kw l1
 clear l1 k1 k2 h1 h2
 go_enter Tryz.func229, Tryz.ntmps229
 go_wp2_with fail
 refine (K1.out _).mono ?_
 rintro e w1 ⟨rfl, hx⟩
 have bA := (((Box.new _ _ _).alloc _).alloc _).ex hx
 have bB := ((Box.new _ _ _).alloc _).ex hx
 simp only [Kv] at bB
 have bR := (Box.new _ _ _).ex hx
 simp only [Kv] at bR
 replace hx := ((((Ex.refl w).alloc _).alloc _).alloc _).trans hx
 have hE := hx
 have cbA := bA.cell
 have fbA := bA.frozen
 have zbA := bA.lt
 have cbB := bB.cell
 have fbB := bB.frozen
 have zbB := bB.lt
 have cbR := bR.cell
 have fbR := bR.frozen
 have zbR := bR.lt
 clear hx
 go_wp2_with fail
 refine (K2.out _).mono ?_
 rintro e w2 ⟨rfl, hx⟩
 replace hE := hE.trans hx
 replace bA := bA.ex hx
 replace cbA := bA.cell
 replace fbA := bA.frozen
 replace zbA := bA.lt
 replace bB := bB.ex hx
 replace cbB := bB.cell
 replace fbB := bB.frozen
 replace zbB := bB.lt
 replace bR := bR.ex hx
 replace cbR := bR.cell
 replace fbR := bR.frozen
 replace zbR := bR.lt
 clear hx
 go_wp2_with fail
 refine (L1.out _).mono ?_
 rintro e w3 ⟨rfl, hx⟩
 replace hE := hE.trans hx
 replace bA := bA.ex hx
 replace cbA := bA.cell
 replace fbA := bA.frozen
 replace zbA := bA.lt
 replace bB := bB.ex hx
 replace cbB := bB.cell
 replace fbB := bB.frozen
 replace zbB := bB.lt
 replace bR := bR.ex hx
 replace cbR := bR.cell
 replace fbR := bR.frozen
 replace zbR := bR.lt
 clear hx
 go_wp2
 refine Kr (v := frv (⟨r1, r2, r3⟩, ok)) ?_ rfl ⟨rfl, ?_⟩
 ·simp [results, Tryz.results229, go_sem, frv, Fr.v, Fr.none, cbA, zbA, cbB, zbB, cbR, zbR]
 ·repeat' (with_reducible first | exact Ex.refl _ | assumption | apply Ex.alloc | apply Ex.drewN | apply Ex.drew | refine Ex.setCell ?_ (by simp <;> omega) _)
theorem Us (a : Fr) (w : World) : Calls Tryz.prog 171 #[a.v] w (Yh w (Ze a)) := by
 obtain ⟨a1, a2, a3⟩ := a
 show Calls _ _ #[.agg #[.int .i64 a1, .int .i64 a2, .int .i64 a3]] _ _
 have k1 := fun w => Wq a1 a2 a3 w
 rcases h1 : Zg a1 a2 a3 with _ | _
 ·have hr : Ze ⟨a1, a2, a3⟩ = (Fr.none, false) := by simp [Ze, Fr.valid, h1]
  simp only [h1] at k1
  rw [hr]
  have K1 := Kw k1
  clear k1 hr h1
  go_enter Tryz.func171, Tryz.ntmps171
  go_wp2_with fail
  refine (K1.out _).mono ?_
  rintro e w1 ⟨rfl, hx⟩
  have bA := ((Box.new _ _ _).alloc _).ex hx
  have bR := (Box.new _ _ _).ex hx
  simp only [Kv] at bR
  replace hx := (((Ex.refl w).alloc _).alloc _).trans hx
  have hE := hx
  have cbA := bA.cell
  have fbA := bA.frozen
  have zbA := bA.lt
  have cbR := bR.cell
  have fbR := bR.frozen
  have zbR := bR.lt
  clear hx
  go_wp2
  refine Kr (v := frv (Fr.none, false)) ?_ rfl ⟨rfl, ?_⟩
  ·simp [results, Tryz.results171, go_sem, frv, Fr.v, Fr.none, cbA, zbA, cbR, zbR]
  ·repeat' (with_reducible first | exact Ex.refl _ | assumption | apply Ex.alloc | apply Ex.drewN | apply Ex.drew | refine Ex.setCell ?_ (by simp <;> omega) _)
 ·have hr : Ze ⟨a1, a2, a3⟩ = (⟨a1, -a2, a3⟩, true) := by simp [Ze, Fr.valid, h1]
  obtain ⟨-, p2, -, -⟩ := Xm h1
  have hw := Kq (0 - a2) (by omega)
  simp only [h1] at k1
  rw [hr]
  have K1 := Kw k1
  clear k1 hr h1
  go_enter Tryz.func171, Tryz.ntmps171
  go_wp2_with fail
  refine (K1.out _).mono ?_
  rintro e w1 ⟨rfl, hx⟩
  have bA := ((Box.new _ _ _).alloc _).ex hx
  have bR := (Box.new _ _ _).ex hx
  simp only [Kv] at bR
  replace hx := (((Ex.refl w).alloc _).alloc _).trans hx
  have hE := hx
  have cbA := bA.cell
  have fbA := bA.frozen
  have zbA := bA.lt
  have cbR := bR.cell
  have fbR := bR.frozen
  have zbR := bR.lt
  clear hx
  go_wp2
  refine Kr (v := frv (⟨a1, -a2, a3⟩, true)) ?_ rfl ⟨rfl, ?_⟩
  ·simp [results, Tryz.results171, go_sem, frv, Fr.v, Fr.none, cbA, zbA, cbR, zbR]
  ·repeat' (with_reducible first | exact Ex.refl _ | assumption | apply Ex.alloc | apply Ex.drewN | apply Ex.drew | refine Ex.setCell ?_ (by simp <;> omega) _)
end
section
open Go.RowKit

theorem Mg (a b : Fr) (w : World) : Calls Tryz.prog 117 #[a.v, b.v] w (Yh w (Zu a b)) := by
 obtain ⟨a1, a2, a3⟩ := a
 obtain ⟨b1, b2, b3⟩ := b
 show Calls _ _ #[.agg #[.int .i64 a1, .int .i64 a2, .int .i64 a3], .agg #[.int .i64 b1, .int .i64 b2, .int .i64 b3]] _ _
 have k1 := fun w => Yk a1 a2 a3 w
 have k2 := fun w => Yk b1 b2 b3 w
 rcases h1 : Zg a1 a2 a3 with _ | _
 ·have hr : Zu ⟨a1, a2, a3⟩ ⟨b1, b2, b3⟩ = (Fr.none, false) := by simp [Zu, Fr.valid, h1]
  simp only [h1] at k1
  rw [hr]
  have K1 := Kw k1
  clear hr k1 k2 h1
  go_enter Tryz.func117, Tryz.ntmps117
  go_wp2_with fail
  refine (K1.out _).mono ?_
  rintro e w1 ⟨rfl, hx⟩
  have bA := (((Box.new _ _ _).alloc _).alloc _).ex hx
  have bB := ((Box.new _ _ _).alloc _).ex hx
  simp only [Kv] at bB
  have bR := (Box.new _ _ _).ex hx
  simp only [Kv] at bR
  replace hx := ((((Ex.refl w).alloc _).alloc _).alloc _).trans hx
  have hE := hx
  have cbA := bA.cell
  have fbA := bA.frozen
  have zbA := bA.lt
  have cbB := bB.cell
  have fbB := bB.frozen
  have zbB := bB.lt
  have cbR := bR.cell
  have fbR := bR.frozen
  have zbR := bR.lt
  clear hx
  go_wp2
  refine Kr (v := frv (Fr.none, false)) ?_ rfl ⟨rfl, ?_⟩
  ·simp [results, Tryz.results117, go_sem, frv, Fr.v, Fr.none, cbA, zbA, cbB, zbB, cbR, zbR]
  ·repeat' (with_reducible first | exact Ex.refl _ | assumption | apply Ex.alloc | apply Ex.drewN | apply Ex.drew | refine Ex.setCell ?_ (by simp <;> omega) _)
 rcases h2 : Zg b1 b2 b3 with _ | _
 ·have hr : Zu ⟨a1, a2, a3⟩ ⟨b1, b2, b3⟩ = (Fr.none, false) := by simp [Zu, Fr.valid, h1, h2]
  simp only [h1] at k1
  simp only [h2] at k2
  rw [hr]
  have K1 := Kw k1
  have K2 := Kw k2
  clear hr k1 k2 h1 h2
  go_enter Tryz.func117, Tryz.ntmps117
  go_wp2_with fail
  refine (K1.out _).mono ?_
  rintro e w1 ⟨rfl, hx⟩
  have bA := (((Box.new _ _ _).alloc _).alloc _).ex hx
  have bB := ((Box.new _ _ _).alloc _).ex hx
  simp only [Kv] at bB
  have bR := (Box.new _ _ _).ex hx
  simp only [Kv] at bR
  replace hx := ((((Ex.refl w).alloc _).alloc _).alloc _).trans hx
  have hE := hx
  have cbA := bA.cell
  have fbA := bA.frozen
  have zbA := bA.lt
  have cbB := bB.cell
  have fbB := bB.frozen
  have zbB := bB.lt
  have cbR := bR.cell
  have fbR := bR.frozen
  have zbR := bR.lt
  clear hx
  go_wp2_with fail
  refine (K2.out _).mono ?_
  rintro e w2 ⟨rfl, hx⟩
  replace hE := hE.trans hx
  replace bA := bA.ex hx
  replace cbA := bA.cell
  replace fbA := bA.frozen
  replace zbA := bA.lt
  replace bB := bB.ex hx
  replace cbB := bB.cell
  replace fbB := bB.frozen
  replace zbB := bB.lt
  replace bR := bR.ex hx
  replace cbR := bR.cell
  replace fbR := bR.frozen
  replace zbR := bR.lt
  clear hx
  go_wp2
  refine Kr (v := frv (Fr.none, false)) ?_ rfl ⟨rfl, ?_⟩
  ·simp [results, Tryz.results117, go_sem, frv, Fr.v, Fr.none, cbA, zbA, cbB, zbB, cbR, zbR]
  ·repeat' (with_reducible first | exact Ex.refl _ | assumption | apply Ex.alloc | apply Ex.drewN | apply Ex.drew | refine Ex.setCell ?_ (by simp <;> omega) _)
 obtain ⟨ap1, ap2, ap3, -⟩ := Xm h1
 obtain ⟨bp1, bp2, bp3, -⟩ := Xm h2
 have hr : Zu ⟨a1, a2, a3⟩ ⟨b1, b2, b3⟩ = _ := On h1 h2
 have mx1 := Xq (a := a1) (b := b1) (by omega) (by omega)
 obtain ⟨x1, ex1⟩ : ∃ x, a1 * b1 = x := ⟨_, rfl⟩
 rw [ex1] at mx1 hr
 have mx2 := Xq (a := a2) (b := b2) (by omega) (by omega)
 obtain ⟨x2, ex2⟩ : ∃ x, a2 * b2 = x := ⟨_, rfl⟩
 rw [ex2] at mx2 hr
 have mx3 := Xq (a := a1) (b := b2) (by omega) (by omega)
 obtain ⟨x3, ex3⟩ : ∃ x, a1 * b2 = x := ⟨_, rfl⟩
 rw [ex3] at mx3 hr
 have mx4 := Xq (a := a2) (b := b1) (by omega) (by omega)
 obtain ⟨x4, ex4⟩ : ∃ x, a2 * b1 = x := ⟨_, rfl⟩
 rw [ex4] at mx4 hr
 have mx5 := Tn (a := a3) (b := b3) (by omega) (by omega)
 obtain ⟨x5, ex5⟩ : ∃ x, a3 * b3 = x := ⟨_, rfl⟩
 rw [ex5] at mx5 hr
 have l1 := fun w => Wp (x1 - x2) (x3 + x4) (x5) w (by omega) (by omega) (by omega)
 rw [hr]
 clear hr
 generalize flow (x1 - x2) (x3 + x4) (x5) = r at l1 ⊢
 obtain ⟨⟨r1, r2, r3⟩, ok⟩ := r
 replace l1 := fun w => Yh.spell (l1 w)
 simp only [h1] at k1
 simp only [h2] at k2
 have K1 := Kw k1
 have K2 := Kw k2
 have L1 := Kw l1
 clear l1 k1 k2 h1 h2
 go_enter Tryz.func117, Tryz.ntmps117
 go_wp2_with fail
 refine (K1.out _).mono ?_
 rintro e w1 ⟨rfl, hx⟩
 have bA := (((Box.new _ _ _).alloc _).alloc _).ex hx
 have bB := ((Box.new _ _ _).alloc _).ex hx
 simp only [Kv] at bB
 have bR := (Box.new _ _ _).ex hx
 simp only [Kv] at bR
 replace hx := ((((Ex.refl w).alloc _).alloc _).alloc _).trans hx
 have hE := hx
 have cbA := bA.cell
 have fbA := bA.frozen
 have zbA := bA.lt
 have cbB := bB.cell
 have fbB := bB.frozen
 have zbB := bB.lt
 have cbR := bR.cell
 have fbR := bR.frozen
 have zbR := bR.lt
 clear hx
 go_wp2_with fail
 refine (K2.out _).mono ?_
 rintro e w2 ⟨rfl, hx⟩
 replace hE := hE.trans hx
 replace bA := bA.ex hx
 replace cbA := bA.cell
 replace fbA := bA.frozen
 replace zbA := bA.lt
 replace bB := bB.ex hx
 replace cbB := bB.cell
 replace fbB := bB.frozen
 replace zbB := bB.lt
 replace bR := bR.ex hx
 replace cbR := bR.cell
 replace fbR := bR.frozen
 replace zbR := bR.lt
 clear hx
 go_wp2_with fail
 refine (L1.out _).mono ?_
 rintro e w3 ⟨rfl, hx⟩
 replace hE := hE.trans hx
 replace bA := bA.ex hx
 replace cbA := bA.cell
 replace fbA := bA.frozen
 replace zbA := bA.lt
 replace bB := bB.ex hx
 replace cbB := bB.cell
 replace fbB := bB.frozen
 replace zbB := bB.lt
 replace bR := bR.ex hx
 replace cbR := bR.cell
 replace fbR := bR.frozen
 replace zbR := bR.lt
 clear hx
 go_wp2
 refine Kr (v := frv (⟨r1, r2, r3⟩, ok)) ?_ rfl ⟨rfl, ?_⟩
 ·simp [results, Tryz.results117, go_sem, frv, Fr.v, Fr.none, cbA, zbA, cbB, zbB, cbR, zbR]
 ·repeat' (with_reducible first | exact Ex.refl _ | assumption | apply Ex.alloc | apply Ex.drewN | apply Ex.drew | refine Ex.setCell ?_ (by simp <;> omega) _)
theorem iFracAdd (a b : Fr) (w : World) : Calls Tryz.prog 119 #[a.v, b.v] w (Yh w (Za a b)) := by
 obtain ⟨a1, a2, a3⟩ := a
 obtain ⟨b1, b2, b3⟩ := b
 show Calls _ _ #[.agg #[.int .i64 a1, .int .i64 a2, .int .i64 a3], .agg #[.int .i64 b1, .int .i64 b2, .int .i64 b3]] _ _
 have k1 := fun w => Yk a1 a2 a3 w
 have k2 := fun w => Yk b1 b2 b3 w
 rcases h1 : Zg a1 a2 a3 with _ | _
 ·have hr : Za ⟨a1, a2, a3⟩ ⟨b1, b2, b3⟩ = (Fr.none, false) := by simp [Za, Fr.valid, h1]
  simp only [h1] at k1
  rw [hr]
  have K1 := Kw k1
  clear hr k1 k2 h1
  go_enter Tryz.func119, Tryz.ntmps119
  go_wp2_with fail
  refine (K1.out _).mono ?_
  rintro e w1 ⟨rfl, hx⟩
  have bA := (((Box.new _ _ _).alloc _).alloc _).ex hx
  have bB := ((Box.new _ _ _).alloc _).ex hx
  simp only [Kv] at bB
  have bR := (Box.new _ _ _).ex hx
  simp only [Kv] at bR
  replace hx := ((((Ex.refl w).alloc _).alloc _).alloc _).trans hx
  have hE := hx
  have cbA := bA.cell
  have fbA := bA.frozen
  have zbA := bA.lt
  have cbB := bB.cell
  have fbB := bB.frozen
  have zbB := bB.lt
  have cbR := bR.cell
  have fbR := bR.frozen
  have zbR := bR.lt
  clear hx
  go_wp2
  refine Kr (v := frv (Fr.none, false)) ?_ rfl ⟨rfl, ?_⟩
  ·simp [results, Tryz.results119, go_sem, frv, Fr.v, Fr.none, cbA, zbA, cbB, zbB, cbR, zbR]
  ·repeat' (with_reducible first | exact Ex.refl _ | assumption | apply Ex.alloc | apply Ex.drewN | apply Ex.drew | refine Ex.setCell ?_ (by simp <;> omega) _)
 rcases h2 : Zg b1 b2 b3 with _ | _
 ·have hr : Za ⟨a1, a2, a3⟩ ⟨b1, b2, b3⟩ = (Fr.none, false) := by simp [Za, Fr.valid, h1, h2]
  simp only [h1] at k1
  simp only [h2] at k2
  rw [hr]
  have K1 := Kw k1
  have K2 := Kw k2
  clear hr k1 k2 h1 h2
  go_enter Tryz.func119, Tryz.ntmps119
  go_wp2_with fail
  refine (K1.out _).mono ?_
  rintro e w1 ⟨rfl, hx⟩
  have bA := (((Box.new _ _ _).alloc _).alloc _).ex hx
  have bB := ((Box.new _ _ _).alloc _).ex hx
  simp only [Kv] at bB
  have bR := (Box.new _ _ _).ex hx
  simp only [Kv] at bR
  replace hx := ((((Ex.refl w).alloc _).alloc _).alloc _).trans hx
  have hE := hx
  have cbA := bA.cell
  have fbA := bA.frozen
  have zbA := bA.lt
  have cbB := bB.cell
  have fbB := bB.frozen
  have zbB := bB.lt
  have cbR := bR.cell
  have fbR := bR.frozen
  have zbR := bR.lt
  clear hx
  go_wp2_with fail
  refine (K2.out _).mono ?_
  rintro e w2 ⟨rfl, hx⟩
  replace hE := hE.trans hx
  replace bA := bA.ex hx
  replace cbA := bA.cell
  replace fbA := bA.frozen
  replace zbA := bA.lt
  replace bB := bB.ex hx
  replace cbB := bB.cell
  replace fbB := bB.frozen
  replace zbB := bB.lt
  replace bR := bR.ex hx
  replace cbR := bR.cell
  replace fbR := bR.frozen
  replace zbR := bR.lt
  clear hx
  go_wp2
  refine Kr (v := frv (Fr.none, false)) ?_ rfl ⟨rfl, ?_⟩
  ·simp [results, Tryz.results119, go_sem, frv, Fr.v, Fr.none, cbA, zbA, cbB, zbB, cbR, zbR]
  ·repeat' (with_reducible first | exact Ex.refl _ | assumption | apply Ex.alloc | apply Ex.drewN | apply Ex.drew | refine Ex.setCell ?_ (by simp <;> omega) _)
 obtain ⟨ap1, ap2, ap3, -⟩ := Xm h1
 obtain ⟨bp1, bp2, bp3, -⟩ := Xm h2
 have hr : Za ⟨a1, a2, a3⟩ ⟨b1, b2, b3⟩ = _ := fadd2_ok h1 h2
 have mx1 := Xq (a := a1) (b := b3) (by omega) (by omega)
 obtain ⟨x1, ex1⟩ : ∃ x, a1 * b3 = x := ⟨_, rfl⟩
 rw [ex1] at mx1 hr
 have mx2 := Xq (a := b1) (b := a3) (by omega) (by omega)
 obtain ⟨x2, ex2⟩ : ∃ x, b1 * a3 = x := ⟨_, rfl⟩
 rw [ex2] at mx2 hr
 have mx3 := Xq (a := a2) (b := b3) (by omega) (by omega)
 obtain ⟨x3, ex3⟩ : ∃ x, a2 * b3 = x := ⟨_, rfl⟩
 rw [ex3] at mx3 hr
 have mx4 := Xq (a := b2) (b := a3) (by omega) (by omega)
 obtain ⟨x4, ex4⟩ : ∃ x, b2 * a3 = x := ⟨_, rfl⟩
 rw [ex4] at mx4 hr
 have mx5 := Tn (a := a3) (b := b3) (by omega) (by omega)
 obtain ⟨x5, ex5⟩ : ∃ x, a3 * b3 = x := ⟨_, rfl⟩
 rw [ex5] at mx5 hr
 have l1 := fun w => Wp (x1 + x2) (x3 + x4) (x5) w (by omega) (by omega) (by omega)
 rw [hr]
 clear hr
 generalize flow (x1 + x2) (x3 + x4) (x5) = r at l1 ⊢
 obtain ⟨⟨r1, r2, r3⟩, ok⟩ := r
 replace l1 := fun w => Yh.spell (l1 w)
 simp only [h1] at k1
 simp only [h2] at k2
 have K1 := Kw k1
 have K2 := Kw k2
 have L1 := Kw l1
 clear l1 k1 k2 h1 h2
 go_enter Tryz.func119, Tryz.ntmps119
 go_wp2_with fail
 refine (K1.out _).mono ?_
 rintro e w1 ⟨rfl, hx⟩
 have bA := (((Box.new _ _ _).alloc _).alloc _).ex hx
 have bB := ((Box.new _ _ _).alloc _).ex hx
 simp only [Kv] at bB
 have bR := (Box.new _ _ _).ex hx
 simp only [Kv] at bR
 replace hx := ((((Ex.refl w).alloc _).alloc _).alloc _).trans hx
 have hE := hx
 have cbA := bA.cell
 have fbA := bA.frozen
 have zbA := bA.lt
 have cbB := bB.cell
 have fbB := bB.frozen
 have zbB := bB.lt
 have cbR := bR.cell
 have fbR := bR.frozen
 have zbR := bR.lt
 clear hx
 go_wp2_with fail
 refine (K2.out _).mono ?_
 rintro e w2 ⟨rfl, hx⟩
 replace hE := hE.trans hx
 replace bA := bA.ex hx
 replace cbA := bA.cell
 replace fbA := bA.frozen
 replace zbA := bA.lt
 replace bB := bB.ex hx
 replace cbB := bB.cell
 replace fbB := bB.frozen
 replace zbB := bB.lt
 replace bR := bR.ex hx
 replace cbR := bR.cell
 replace fbR := bR.frozen
 replace zbR := bR.lt
 clear hx
 go_wp2_with fail
 refine (L1.out _).mono ?_
 rintro e w3 ⟨rfl, hx⟩
 replace hE := hE.trans hx
 replace bA := bA.ex hx
 replace cbA := bA.cell
 replace fbA := bA.frozen
 replace zbA := bA.lt
 replace bB := bB.ex hx
 replace cbB := bB.cell
 replace fbB := bB.frozen
 replace zbB := bB.lt
 replace bR := bR.ex hx
 replace cbR := bR.cell
 replace fbR := bR.frozen
 replace zbR := bR.lt
 clear hx
 go_wp2
 refine Kr (v := frv (⟨r1, r2, r3⟩, ok)) ?_ rfl ⟨rfl, ?_⟩
 ·simp [results, Tryz.results119, go_sem, frv, Fr.v, Fr.none, cbA, zbA, cbB, zbB, cbR, zbR]
 ·repeat' (with_reducible first | exact Ex.refl _ | assumption | apply Ex.alloc | apply Ex.drewN | apply Ex.drew | refine Ex.setCell ?_ (by simp <;> omega) _)
theorem sFracAdd (a b : Fr) (w : World) : Calls Tryz.prog 217 #[a.v, b.v] w (Yh w (Za a b)) := by
 have l1 := fun w => sl2Sum a b 1 (.inl rfl) w
 simp only [Mh] at l1
 generalize Za a b = r at l1 ⊢
 obtain ⟨a1, a2, a3⟩ := a
 obtain ⟨b1, b2, b3⟩ := b
 obtain ⟨⟨r1, r2, r3⟩, ok⟩ := r
 replace l1 := fun w => Yh.spell (l1 w)
 show Calls _ _ #[.agg #[.int .i64 a1, .int .i64 a2, .int .i64 a3], .agg #[.int .i64 b1, .int .i64 b2, .int .i64 b3]] _ _
 go_enter Tryz.func217, Tryz.ntmps217
 go_wp2_with fail
 refine (l1 _).mono ?_
 rintro e w1 ⟨rfl, hx⟩
 have bA := (((Box.new _ _ _).alloc _).alloc _).ex hx
 have bB := ((Box.new _ _ _).alloc _).ex hx
 simp only [Kv] at bB
 have bR := (Box.new _ _ _).ex hx
 simp only [Kv] at bR
 replace hx := ((((Ex.refl w).alloc _).alloc _).alloc _).trans hx
 have hE := hx
 have cbA := bA.cell
 have fbA := bA.frozen
 have zbA := bA.lt
 have cbB := bB.cell
 have fbB := bB.frozen
 have zbB := bB.lt
 have cbR := bR.cell
 have fbR := bR.frozen
 have zbR := bR.lt
 clear hx
 go_wp2
 refine Kr (v := frv (⟨r1, r2, r3⟩, ok)) ?_ rfl ⟨rfl, ?_⟩
 ·simp [results, Tryz.results217, go_sem, frv, Fr.v, Fr.none, cbA, zbA, cbB, zbB, cbR, zbR]
 ·repeat' (with_reducible first | exact Ex.refl _ | assumption | apply Ex.alloc | apply Ex.drewN | apply Ex.drew | refine Ex.setCell ?_ (by simp <;> omega) _)
theorem iFracMirror (a : Fr) (w : World) : Calls Tryz.prog 118 #[a.v] w (Yh w (Ze a)) := by
 obtain ⟨a1, a2, a3⟩ := a
 show Calls _ _ #[.agg #[.int .i64 a1, .int .i64 a2, .int .i64 a3]] _ _
 have k1 := fun w => Yk a1 a2 a3 w
 rcases h1 : Zg a1 a2 a3 with _ | _
 ·have hr : Ze ⟨a1, a2, a3⟩ = (Fr.none, false) := by simp [Ze, Fr.valid, h1]
  simp only [h1] at k1
  rw [hr]
  have K1 := Kw k1
  clear k1 hr h1
  go_enter Tryz.func118, Tryz.ntmps118
  go_wp2_with fail
  refine (K1.out _).mono ?_
  rintro e w1 ⟨rfl, hx⟩
  have bA := ((Box.new _ _ _).alloc _).ex hx
  have bR := (Box.new _ _ _).ex hx
  simp only [Kv] at bR
  replace hx := (((Ex.refl w).alloc _).alloc _).trans hx
  have hE := hx
  have cbA := bA.cell
  have fbA := bA.frozen
  have zbA := bA.lt
  have cbR := bR.cell
  have fbR := bR.frozen
  have zbR := bR.lt
  clear hx
  go_wp2
  refine Kr (v := frv (Fr.none, false)) ?_ rfl ⟨rfl, ?_⟩
  ·simp [results, Tryz.results118, go_sem, frv, Fr.v, Fr.none, cbA, zbA, cbR, zbR]
  ·repeat' (with_reducible first | exact Ex.refl _ | assumption | apply Ex.alloc | apply Ex.drewN | apply Ex.drew | refine Ex.setCell ?_ (by simp <;> omega) _)
 ·have hr : Ze ⟨a1, a2, a3⟩ = (⟨a1, -a2, a3⟩, true) := by simp [Ze, Fr.valid, h1]
  obtain ⟨-, p2, -, -⟩ := Xm h1
  have hw := Kq (-a2) (by omega)
  simp only [h1] at k1
  rw [hr]
  have K1 := Kw k1
  clear k1 hr h1
  go_enter Tryz.func118, Tryz.ntmps118
  go_wp2_with fail
  refine (K1.out _).mono ?_
  rintro e w1 ⟨rfl, hx⟩
  have bA := ((Box.new _ _ _).alloc _).ex hx
  have bR := (Box.new _ _ _).ex hx
  simp only [Kv] at bR
  replace hx := (((Ex.refl w).alloc _).alloc _).trans hx
  have hE := hx
  have cbA := bA.cell
  have fbA := bA.frozen
  have zbA := bA.lt
  have cbR := bR.cell
  have fbR := bR.frozen
  have zbR := bR.lt
  clear hx
  go_wp2
  refine Kr (v := frv (⟨a1, -a2, a3⟩, true)) ?_ rfl ⟨rfl, ?_⟩
  ·simp [results, Tryz.results118, go_sem, frv, Fr.v, Fr.none, cbA, zbA, cbR, zbR]
  ·repeat' (with_reducible first | exact Ex.refl _ | assumption | apply Ex.alloc | apply Ex.drewN | apply Ex.drew | refine Ex.setCell ?_ (by simp <;> omega) _)
end
section
open Go.RowKit

def fcre (a : Fr) : Bool := a.valid && decide (a.im = 0)
def CmpGot (w : World) (r : Int × Bool) : Ending → World → Prop := fun e w' => e = .returned (.tuple #[.int .i64 r.1, .bool r.2]) ∧ Ex w w'
theorem realOkC (a1 a2 a3 : Int) (w : World) : Calls Tryz.prog 122 #[.agg #[.int .i64 a1, .int .i64 a2, .int .i64 a3]] w fun e w' => e = .returned (.bool (fcre ⟨a1, a2, a3⟩)) ∧ Ex w w' := by
 have k1 := fun w => Yk a1 a2 a3 w
 rcases h1 : Zg a1 a2 a3 with _ | _
 ·have hr : fcre ⟨a1, a2, a3⟩ = false := by simp [fcre, Fr.valid, h1]
  simp only [h1] at k1
  rw [hr]
  clear hr h1
  go_enter Tryz.func122, Tryz.ntmps122
  go_wp2_with fail
  refine (k1 _).mono ?_
  rintro e w1 ⟨rfl, hx⟩
  go_wp2
  go_ret
  exact ⟨rfl, ((Ex.refl _).alloc _).trans hx⟩
 ·have hr : fcre ⟨a1, a2, a3⟩ = decide (a2 = 0) := by simp [fcre, Fr.valid, h1]
  simp only [h1] at k1
  rw [hr]
  clear hr h1
  go_enter Tryz.func122, Tryz.ntmps122
  go_wp2_with fail
  refine (k1 _).mono ?_
  rintro e w1 ⟨rfl, hx⟩
  have b := (Box.new _ _ _).ex hx
  have c := b.cell
  go_wp2
  go_ret
  exact ⟨Ya (by rfl), ((Ex.refl _).alloc _).trans hx⟩
end
section
open Go.RowKit

theorem xor63 (a b : Nat) (ha : a < 9223372036854775808) (hb : b < 9223372036854775808) : bits .xor .i64 (a : Int) (b : Int) = ((a ^^^ b : Nat) : Int) := by
 have hx : a ^^^ b < 2 ^ 63 := Nat.xor_lt_two_pow (by omega) (by omega)
 show IntKind.i64.wrap ((BitVec.ofInt 64 (a : Int) ^^^ BitVec.ofInt 64 (b : Int)).toNat : Int) = _
 rw [BitVec.toNat_xor, ofInt_u64 a (by omega), ofInt_u64 b (by omega)]
 simp [IntKind.wrap, IntKind.bits, IntKind.signed]
 omega
theorem xor63_bd {x : Int} (h0 : 0 ≤ x) (h1 : x < 9223372036854775808) : ∃ m : Nat, bits .xor .i64 x (x / 64) = (m : Int) ∧ m < 9223372036854775808 := by
 obtain ⟨n, rfl⟩ := Int.eq_ofNat_of_zero_le h0
 have hd : (n : Int) / 64 = ((n / 64 : Nat) : Int) := by omega
 rw [hd, xor63 n (n / 64) (by omega) (by omega)]
 exact ⟨_, rfl, Nat.xor_lt_two_pow (n := 63) (by omega) (by omega)⟩
theorem tmod_nat (a b : Nat) : (a : Int).tmod b = ((a % b : Nat) : Int) := rfl
theorem tdiv_nat (a b : Nat) : (a : Int).tdiv b = ((a / b : Nat) : Int) := rfl
def Sz (w : World) (A : Option Addr) (bs : List Int) : Prop := Slc w A (bs.map (Value.int .u8)) ∧ ∀ n ∈ bs, 0 ≤ n ∧ n ≤ 255
section
variable {w w1 : World} {A : Option Addr} {bs : List Int}
theorem Sz.ex (h : Sz w A bs) (he : Ex w w1) : Sz w1 A bs := ⟨h.1.ex he, h.2⟩
theorem Sz.alloc (h : Sz w A bs) (o : Obj) : Sz (w.alloc o) A bs := ⟨h.1.alloc o, h.2⟩
theorem Sz.at (h : Sz w A bs) (hp : 0 < bs.length) : ∃ b off, A = some ⟨b, off, none⟩ ∧ ∀ k, k < bs.length → w.cell? ⟨b, off + k, none⟩ = some (.int .u8 (bs.getD k 0)) ∧ 0 ≤ bs.getD k 0 ∧ bs.getD k 0 ≤ 255 := by
 obtain ⟨b, off, rfl, hc⟩ := h.1 (by simpa using hp)
 refine ⟨b, off, rfl, fun k hk => ⟨by rw [hc k (by simpa using hk)]; simp [hk], ?_⟩⟩
 have := h.2 bs[k] (List.getElem_mem hk)
 simpa [hk] using this
theorem Sz.take (h : Sz w A bs) (n : Nat) : Sz w A (bs.take n) := by
 refine ⟨fun hp => ?_, fun m hm => h.2 m (List.mem_of_mem_take hm)⟩
 have hp' : 0 < n ∧ 0 < bs.length := by simp at hp; omega
 obtain ⟨b, off, rfl, hc⟩ := h.1 (by simpa using hp'.2)
 refine ⟨b, off, rfl, fun k hk => ?_⟩
 have hk' : k < n ∧ k < bs.length := by simp at hk; omega
 rw [hc k (by simpa using hk'.2)]
 simp [hk'.1, hk'.2]
end

def Picked (m : Int) (w : World) (bo : Nat) (a : Nat) (e : Ending) (w' : World) : Prop :=
 ∃ (v : Int) (d : Nat), e = .returned (.int .i64 v) ∧ 0 ≤ v ∧ v < m ∧ w' = (w.setCell ⟨bo, 1, none⟩ (.int .i64 (a + 1))).drewN d

theorem pick_any (bo : Nat) (A : Option Addr) (bs : List Int) (cap : Nat) (a : Nat) (m : Int) (w : World) (hB : Sz w A bs) (hl : bs.length ≤ 2000) (hb : Box w bo 102 #[.slice A bs.length cap, .int .i64 a])
  (hne : ∀ b off, A = some ⟨b, off, none⟩ → 0 < bs.length → b ≠ bo) (ha : a ≤ 1099511627776) (hm : 1 ≤ m) (hm2 : m ≤ 1099511627776) :
  Calls Tryz.prog 21 #[.pointer (some ⟨bo, 0, none⟩), .int .i64 m] w (Picked m w bo a) := by
 have c := hb.cell
 have f := hb.frozen
 have hw := Kq ((a : Int) + 1) (by omega)
 rcases h0 : ((bs.length : Int) == 0) with _ | _
 case true =>
  go_enter Tryz.func21, Tryz.ntmps21
  go_wp2
  go_ret
  exact ⟨0, 0, rfl, by omega, by omega, rfl⟩
 have h0' : bs.length ≠ 0 := by simpa using h0
 obtain ⟨b, off, rfl, hc⟩ := hB.at (by omega)
 have hbne := hne b off rfl (by omega)
 clear hne hB
 by_cases h1 : a < bs.length
 ·obtain ⟨hc1, hv1, hv2⟩ := hc a h1
  obtain ⟨x, hx⟩ : ∃ x, x = bs.getD a 0 := ⟨_, rfl⟩
  rw [← hx] at hc1 hv1 hv2
  have hwx := IntWalk.wrap64_in x (by omega)
  clear hc hx
  go_enter Tryz.func21, Tryz.ntmps21
  go_wp2
  go_ret
  exact ⟨x % m, 0, rfl, Int.emod_nonneg _ (by omega), Int.emod_lt_of_pos _ (by omega), rfl⟩
 ·obtain ⟨j1, hj1, hj1b⟩ : ∃ j : Nat, (a : Int).tmod bs.length = j ∧ j < bs.length := ⟨a % bs.length, tmod_nat _ _, Nat.mod_lt _ (by omega)⟩
  obtain ⟨j2, hj2, hj2b⟩ : ∃ j : Nat, ((a : Int) * 7 + 3).tmod bs.length = j ∧ j < bs.length :=
   ⟨(a * 7 + 3) % bs.length, by rw [← tmod_nat]; simp, Nat.mod_lt _ (by omega)⟩
  obtain ⟨d, hd, hdb⟩ : ∃ d : Nat, (a : Int).tdiv bs.length = d ∧ d ≤ a := ⟨a / bs.length, tdiv_nat _ _, Nat.div_le_self _ _⟩
  obtain ⟨hc1, hv1, hv2⟩ := hc j1 hj1b
  obtain ⟨hc2, hv3, hv4⟩ := hc j2 hj2b
  obtain ⟨x, hx⟩ : ∃ x, x = bs.getD j1 0 := ⟨_, rfl⟩
  obtain ⟨y, hy⟩ : ∃ y, y = bs.getD j2 0 := ⟨_, rfl⟩
  rw [← hx] at hc1 hv1 hv2
  rw [← hy] at hc2 hv3 hv4
  have hwx := IntWalk.wrap64_in x (by omega)
  have hwy := IntWalk.wrap64_in y (by omega)
  have g1 := Kq (x * 131) (by omega)
  have g2 := Kq ((a : Int) * 7) (by omega)
  have g3 := Kq ((a : Int) * 7 + 3) (by omega)
  have g4 := Kq (y * 1117) (by omega)
  have g5 := Kq (x * 131 + y * 1117) (by omega)
  have g6 := Kq ((a : Int) * 29) (by omega)
  have g7 := Kq (x * 131 + y * 1117 + (a : Int) * 29) (by omega)
  have g8 := Kq ((d : Int) * 53) (by omega)
  have g9 := Kq (x * 131 + y * 1117 + (a : Int) * 29 + (d : Int) * 53) (by omega)
  clear hc hx hy
  go_enter Tryz.func21, Tryz.ntmps21
  go_wp2
  go_quiet (fail)
  clear g1 g2 g3 g4 g5 g6 g7 g8 g9
  obtain ⟨z, hz, hzb⟩ := xor63_bd (x := x * 131 + y * 1117 + (a : Int) * 29 + (d : Int) * 53) (by omega) (by omega)
  go_wp2
  go_ret
  exact ⟨(z : Int) % m, _, rfl, Int.emod_nonneg _ (by omega), Int.emod_lt_of_pos _ (by omega), rfl⟩

structure Pk (bo : Nat) (w w' : World) : Prop where
 ex : ∀ W, Ex W w → W.heap.size ≤ bo → Ex W w'
 box : ∀ b t cs, b ≠ bo → 3 ≠ t → Box w b t cs → Box w' b t cs
 size : w.heap.size ≤ w'.heap.size
theorem Pk.trans {bo : Nat} {w w1 w2 : World} (h : Pk bo w w1) (k : Pk bo w1 w2) : Pk bo w w2 :=
 ⟨fun W hW hl => k.ex W (h.ex W hW hl) hl, fun b t cs h1 h2 h3 => k.box b t cs h1 h2 (h.box b t cs h1 h2 h3), Nat.le_trans h.size k.size⟩
theorem Pk.of_ex {bo : Nat} {w w1 : World} (h : Ex w w1) : Pk bo w w1 := ⟨fun _ hW _ => hW.trans h, fun _ _ _ _ _ hb => hb.ex h, h.size⟩
def PickedR (m : Int) (bo : Nat) (A : Option Addr) (n cap a : Nat) (w : World) (e : Ending) (w' : World) : Prop :=
 ∃ v : Int, e = .returned (.int .i64 v) ∧ 0 ≤ v ∧ v < m ∧ Pk bo w w' ∧ Box w' bo 102 #[.slice A n cap, .int .i64 ((a + 1 : Nat) : Int)] ∧
  (∀ lo B cb ys, Vt w lo B cb ys → Vt w' lo B cb ys) ∧ w'.heap.size = w.heap.size
def OpenR (A : Option Addr) (xs : List Int) (w : World) (e : Ending) (w' : World) : Prop :=
 ∃ (bs : List Int) (cap' : Nat), e = .returned (.pointer (some ⟨w.heap.size, 0, none⟩)) ∧ Sz w A bs ∧ bs.length ≤ 2000 ∧
  Box w' w.heap.size 102 #[.slice A bs.length cap', .int .i64 ((0 : Nat) : Int)] ∧ Ex w w' ∧ ∀ W, Sz W A xs → Sz W A bs
theorem l6Open_any (A : Option Addr) (xs : List Int) (cap : Nat) (w : World) (hB : Sz w A xs) (hl : xs.length ≤ 9223372036854775807) (hcap : xs.length ≤ cap) (hcap2 : cap ≤ 9223372036854775807) :
  Calls Tryz.prog 20 #[.slice A xs.length cap] w (OpenR A xs w) := by
 by_cases h : (2000 : Int) < xs.length
 ·go_enter Tryz.func20, Tryz.ntmps20
  go_wp2
  go_ret
  have hx : (xs.take 2000).length = 2000 := by simp; omega
  refine ⟨xs.take 2000, cap, rfl, hB.take 2000, by omega, ?_, (Ex.refl _).alloc _, fun W h => h.take 2000⟩
  rw [hx]
  exact Box.new _ _ _
 ·go_enter Tryz.func20, Tryz.ntmps20
  go_wp2
  go_ret
  exact ⟨xs, cap, rfl, hB, by omega, Box.new _ _ _, (Ex.refl _).alloc _, fun _ h => h⟩
end
end Go.Proofs.YtiommfmaleeibaaGreatDoor
