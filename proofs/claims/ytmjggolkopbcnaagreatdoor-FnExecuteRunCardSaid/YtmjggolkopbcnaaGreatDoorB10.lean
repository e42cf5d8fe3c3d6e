/-
  Proved: what functions compute, part 10. No condition.
-/
import Derived.Test.YtmjggolkopbcnaaGreatDoorB05
import Derived.Test.YtmjggolkopbcnaaGreatDoorB01
import Derived.Laws.StructEq
set_option linter.unusedSimpArgs false
set_option linter.unusedVariables false
set_option maxRecDepth 20000
set_option maxHeartbeats 8000000
namespace Go.Proofs.YtmjggolkopbcnaaGreatDoor
section
open Go.RowKit

theorem iFracTimes (a b : Fr) (w : World) : Calls Tryz.prog 115 #[a.v, b.v] w (Yc w (Zu a b)) := by
 obtain ⟨a1, a2, a3⟩ := a
 obtain ⟨b1, b2, b3⟩ := b
 show Calls _ _ #[.agg #[.int .i64 a1, .int .i64 a2, .int .i64 a3], .agg #[.int .i64 b1, .int .i64 b2, .int .i64 b3]] _ _
 have k1 := fun w => Ya a1 a2 a3 w
 have k2 := fun w => Ya b1 b2 b3 w
 rcases h1 : Zk a1 a2 a3 with _ | _
 ·have hr : Zu ⟨a1, a2, a3⟩ ⟨b1, b2, b3⟩ = (Fr.none, false) := by simp [Zu, Fr.valid, h1]
  simp only [h1] at k1
  rw [hr]
  have K1 := Oi k1
  clear hr k1 k2 h1
  go_enter Tryz.func115, Tryz.ntmps115
  go_wp2_with fail
  refine (K1.out _).mono ?_
  rintro e w1 ⟨rfl, hx⟩
  have bA := (((Box.new _ _ _).alloc _).alloc _).ex hx
  have bB := ((Box.new _ _ _).alloc _).ex hx
  simp only [Oh] at bB
  have bR := (Box.new _ _ _).ex hx
  simp only [Oh] at bR
  replace hx := ((((Ex.refl w).alloc _).alloc _).alloc _).trans hx
  have hE := hx
  have cbA := bA.cell
  have fbA := bA.frozen
  have zbA := bA.lt
  have cbB := bB.cell
  have fbB := bB.frozen
  have zbB := bB.lt
  have cbR := bR.cell
  have fbR := bR.frozen
  have zbR := bR.lt
  clear hx
  go_wp2
  refine Od (v := frv (Fr.none, false)) ?_ rfl ⟨rfl, ?_⟩
  ·simp [results, Tryz.results115, go_sem, frv, Fr.v, Fr.none, cbA, zbA, cbB, zbB, cbR, zbR]
  ·repeat' (with_reducible first | exact Ex.refl _ | assumption | apply Ex.alloc | apply Ex.drewN | apply Ex.drew | refine Ex.setCell ?_ (by simp <;> omega) _)
 rcases h2 : Zk b1 b2 b3 with _ | _
 ·have hr : Zu ⟨a1, a2, a3⟩ ⟨b1, b2, b3⟩ = (Fr.none, false) := by simp [Zu, Fr.valid, h1, h2]
  simp only [h1] at k1
  simp only [h2] at k2
  rw [hr]
  have K1 := Oi k1
  have K2 := Oi k2
  clear hr k1 k2 h1 h2
  go_enter Tryz.func115, Tryz.ntmps115
  go_wp2_with fail
  refine (K1.out _).mono ?_
  rintro e w1 ⟨rfl, hx⟩
  have bA := (((Box.new _ _ _).alloc _).alloc _).ex hx
  have bB := ((Box.new _ _ _).alloc _).ex hx
  simp only [Oh] at bB
  have bR := (Box.new _ _ _).ex hx
  simp only [Oh] at bR
  replace hx := ((((Ex.refl w).alloc _).alloc _).alloc _).trans hx
  have hE := hx
  have cbA := bA.cell
  have fbA := bA.frozen
  have zbA := bA.lt
  have cbB := bB.cell
  have fbB := bB.frozen
  have zbB := bB.lt
  have cbR := bR.cell
  have fbR := bR.frozen
  have zbR := bR.lt
  clear hx
  go_wp2_with fail
  refine (K2.out _).mono ?_
  rintro e w2 ⟨rfl, hx⟩
  replace hE := hE.trans hx
  replace bA := bA.ex hx
  replace cbA := bA.cell
  replace fbA := bA.frozen
  replace zbA := bA.lt
  replace bB := bB.ex hx
  replace cbB := bB.cell
  replace fbB := bB.frozen
  replace zbB := bB.lt
  replace bR := bR.ex hx
  replace cbR := bR.cell
  replace fbR := bR.frozen
  replace zbR := bR.lt
  clear hx
  go_wp2
  refine Od (v := frv (Fr.none, false)) ?_ rfl ⟨rfl, ?_⟩
  ·simp [results, Tryz.results115, go_sem, frv, Fr.v, Fr.none, cbA, zbA, cbB, zbB, cbR, zbR]
  ·repeat' (with_reducible first | exact Ex.refl _ | assumption | apply Ex.alloc | apply Ex.drewN | apply Ex.drew | refine Ex.setCell ?_ (by simp <;> omega) _)
 obtain ⟨ap1, ap2, ap3, -⟩ := Xx h1
 obtain ⟨bp1, bp2, bp3, -⟩ := Xx h2
 have hr : Zu ⟨a1, a2, a3⟩ ⟨b1, b2, b3⟩ = _ := ftimes_ok h1 h2
 have mx1 := Xf (a := a1) (b := b1) (by omega) (by omega)
 obtain ⟨x1, ex1⟩ : ∃ x, a1 * b1 = x := ⟨_, rfl⟩
 rw [ex1] at mx1 hr
 have mx2 := Xf (a := a2) (b := b2) (by omega) (by omega)
 obtain ⟨x2, ex2⟩ : ∃ x, a2 * b2 = x := ⟨_, rfl⟩
 rw [ex2] at mx2 hr
 have mx3 := Xf (a := a1) (b := b2) (by omega) (by omega)
 obtain ⟨x3, ex3⟩ : ∃ x, a1 * b2 = x := ⟨_, rfl⟩
 rw [ex3] at mx3 hr
 have mx4 := Xf (a := a2) (b := b1) (by omega) (by omega)
 obtain ⟨x4, ex4⟩ : ∃ x, a2 * b1 = x := ⟨_, rfl⟩
 rw [ex4] at mx4 hr
 have mx5 := Pz (a := a3) (b := b3) (by omega) (by omega)
 obtain ⟨x5, ex5⟩ : ∃ x, a3 * b3 = x := ⟨_, rfl⟩
 rw [ex5] at mx5 hr
 have l1 := fun w => Vi (x1 - x2) (x3 + x4) (x5) w (by omega) (by omega) (by omega)
 rw [hr]
 clear hr
 generalize flow (x1 - x2) (x3 + x4) (x5) = r at l1 ⊢
 obtain ⟨⟨r1, r2, r3⟩, ok⟩ := r
 replace l1 := fun w => Yc.spell (l1 w)
 simp only [h1] at k1
 simp only [h2] at k2
 have K1 := Oi k1
 have K2 := Oi k2
 have L1 := Oi l1
 clear l1 k1 k2 h1 h2
 go_enter Tryz.func115, Tryz.ntmps115
 go_wp2_with fail
 refine (K1.out _).mono ?_
 rintro e w1 ⟨rfl, hx⟩
 have bA := (((Box.new _ _ _).alloc _).alloc _).ex hx
 have bB := ((Box.new _ _ _).alloc _).ex hx
 simp only [Oh] at bB
 have bR := (Box.new _ _ _).ex hx
 simp only [Oh] at bR
 replace hx := ((((Ex.refl w).alloc _).alloc _).alloc _).trans hx
 have hE := hx
 have cbA := bA.cell
 have fbA := bA.frozen
 have zbA := bA.lt
 have cbB := bB.cell
 have fbB := bB.frozen
 have zbB := bB.lt
 have cbR := bR.cell
 have fbR := bR.frozen
 have zbR := bR.lt
 clear hx
 go_wp2_with fail
 refine (K2.out _).mono ?_
 rintro e w2 ⟨rfl, hx⟩
 replace hE := hE.trans hx
 replace bA := bA.ex hx
 replace cbA := bA.cell
 replace fbA := bA.frozen
 replace zbA := bA.lt
 replace bB := bB.ex hx
 replace cbB := bB.cell
 replace fbB := bB.frozen
 replace zbB := bB.lt
 replace bR := bR.ex hx
 replace cbR := bR.cell
 replace fbR := bR.frozen
 replace zbR := bR.lt
 clear hx
 go_wp2_with fail
 refine (L1.out _).mono ?_
 rintro e w3 ⟨rfl, hx⟩
 replace hE := hE.trans hx
 replace bA := bA.ex hx
 replace cbA := bA.cell
 replace fbA := bA.frozen
 replace zbA := bA.lt
 replace bB := bB.ex hx
 replace cbB := bB.cell
 replace fbB := bB.frozen
 replace zbB := bB.lt
 replace bR := bR.ex hx
 replace cbR := bR.cell
 replace fbR := bR.frozen
 replace zbR := bR.lt
 clear hx
 go_wp2
 refine Od (v := frv (⟨r1, r2, r3⟩, ok)) ?_ rfl ⟨rfl, ?_⟩
 ·simp [results, Tryz.results115, go_sem, frv, Fr.v, Fr.none, cbA, zbA, cbB, zbB, cbR, zbR]
 ·repeat' (with_reducible first | exact Ex.refl _ | assumption | apply Ex.alloc | apply Ex.drewN | apply Ex.drew | refine Ex.setCell ?_ (by simp <;> omega) _)
theorem iFracAdd (a b : Fr) (w : World) : Calls Tryz.prog 117 #[a.v, b.v] w (Yc w (Ze a b)) := by
 obtain ⟨a1, a2, a3⟩ := a
 obtain ⟨b1, b2, b3⟩ := b
 show Calls _ _ #[.agg #[.int .i64 a1, .int .i64 a2, .int .i64 a3], .agg #[.int .i64 b1, .int .i64 b2, .int .i64 b3]] _ _
 have k1 := fun w => Ya a1 a2 a3 w
 have k2 := fun w => Ya b1 b2 b3 w
 rcases h1 : Zk a1 a2 a3 with _ | _
 ·have hr : Ze ⟨a1, a2, a3⟩ ⟨b1, b2, b3⟩ = (Fr.none, false) := by simp [Ze, Fr.valid, h1]
  simp only [h1] at k1
  rw [hr]
  have K1 := Oi k1
  clear hr k1 k2 h1
  go_enter Tryz.func117, Tryz.ntmps117
  go_wp2_with fail
  refine (K1.out _).mono ?_
  rintro e w1 ⟨rfl, hx⟩
  have bA := (((Box.new _ _ _).alloc _).alloc _).ex hx
  have bB := ((Box.new _ _ _).alloc _).ex hx
  simp only [Oh] at bB
  have bR := (Box.new _ _ _).ex hx
  simp only [Oh] at bR
  replace hx := ((((Ex.refl w).alloc _).alloc _).alloc _).trans hx
  have hE := hx
  have cbA := bA.cell
  have fbA := bA.frozen
  have zbA := bA.lt
  have cbB := bB.cell
  have fbB := bB.frozen
  have zbB := bB.lt
  have cbR := bR.cell
  have fbR := bR.frozen
  have zbR := bR.lt
  clear hx
  go_wp2
  refine Od (v := frv (Fr.none, false)) ?_ rfl ⟨rfl, ?_⟩
  ·simp [results, Tryz.results117, go_sem, frv, Fr.v, Fr.none, cbA, zbA, cbB, zbB, cbR, zbR]
  ·repeat' (with_reducible first | exact Ex.refl _ | assumption | apply Ex.alloc | apply Ex.drewN | apply Ex.drew | refine Ex.setCell ?_ (by simp <;> omega) _)
 rcases h2 : Zk b1 b2 b3 with _ | _
 ·have hr : Ze ⟨a1, a2, a3⟩ ⟨b1, b2, b3⟩ = (Fr.none, false) := by simp [Ze, Fr.valid, h1, h2]
  simp only [h1] at k1
  simp only [h2] at k2
  rw [hr]
  have K1 := Oi k1
  have K2 := Oi k2
  clear hr k1 k2 h1 h2
  go_enter Tryz.func117, Tryz.ntmps117
  go_wp2_with fail
  refine (K1.out _).mono ?_
  rintro e w1 ⟨rfl, hx⟩
  have bA := (((Box.new _ _ _).alloc _).alloc _).ex hx
  have bB := ((Box.new _ _ _).alloc _).ex hx
  simp only [Oh] at bB
  have bR := (Box.new _ _ _).ex hx
  simp only [Oh] at bR
  replace hx := ((((Ex.refl w).alloc _).alloc _).alloc _).trans hx
  have hE := hx
  have cbA := bA.cell
  have fbA := bA.frozen
  have zbA := bA.lt
  have cbB := bB.cell
  have fbB := bB.frozen
  have zbB := bB.lt
  have cbR := bR.cell
  have fbR := bR.frozen
  have zbR := bR.lt
  clear hx
  go_wp2_with fail
  refine (K2.out _).mono ?_
  rintro e w2 ⟨rfl, hx⟩
  replace hE := hE.trans hx
  replace bA := bA.ex hx
  replace cbA := bA.cell
  replace fbA := bA.frozen
  replace zbA := bA.lt
  replace bB := bB.ex hx
  replace cbB := bB.cell
  replace fbB := bB.frozen
  replace zbB := bB.lt
  replace bR := bR.ex hx
  replace cbR := bR.cell
  replace fbR := bR.frozen
  replace zbR := bR.lt
  clear hx
  go_wp2
  refine Od (v := frv (Fr.none, false)) ?_ rfl ⟨rfl, ?_⟩
  ·simp [results, Tryz.results117, go_sem, frv, Fr.v, Fr.none, cbA, zbA, cbB, zbB, cbR, zbR]
  ·repeat' (with_reducible first | exact Ex.refl _ | assumption | apply Ex.alloc | apply Ex.drewN | apply Ex.drew | refine Ex.setCell ?_ (by simp <;> omega) _)
 obtain ⟨ap1, ap2, ap3, -⟩ := Xx h1
 obtain ⟨bp1, bp2, bp3, -⟩ := Xx h2
 have hr : Ze ⟨a1, a2, a3⟩ ⟨b1, b2, b3⟩ = _ := fadd2_ok h1 h2
 have mx1 := Xf (a := a1) (b := b3) (by omega) (by omega)
 obtain ⟨x1, ex1⟩ : ∃ x, a1 * b3 = x := ⟨_, rfl⟩
 rw [ex1] at mx1 hr
 have mx2 := Xf (a := b1) (b := a3) (by omega) (by omega)
 obtain ⟨x2, ex2⟩ : ∃ x, b1 * a3 = x := ⟨_, rfl⟩
 rw [ex2] at mx2 hr
 have mx3 := Xf (a := a2) (b := b3) (by omega) (by omega)
 obtain ⟨x3, ex3⟩ : ∃ x, a2 * b3 = x := ⟨_, rfl⟩
 rw [ex3] at mx3 hr
 have mx4 := Xf (a := b2) (b := a3) (by omega) (by omega)
 obtain ⟨x4, ex4⟩ : ∃ x, b2 * a3 = x := ⟨_, rfl⟩
 rw [ex4] at mx4 hr
 have mx5 := Pz (a := a3) (b := b3) (by omega) (by omega)
 obtain ⟨x5, ex5⟩ : ∃ x, a3 * b3 = x := ⟨_, rfl⟩
 rw [ex5] at mx5 hr
 have l1 := fun w => Vi (x1 + x2) (x3 + x4) (x5) w (by omega) (by omega) (by omega)
 rw [hr]
 clear hr
 generalize flow (x1 + x2) (x3 + x4) (x5) = r at l1 ⊢
 obtain ⟨⟨r1, r2, r3⟩, ok⟩ := r
 replace l1 := fun w => Yc.spell (l1 w)
 simp only [h1] at k1
 simp only [h2] at k2
 have K1 := Oi k1
 have K2 := Oi k2
 have L1 := Oi l1
 clear l1 k1 k2 h1 h2
 go_enter Tryz.func117, Tryz.ntmps117
 go_wp2_with fail
 refine (K1.out _).mono ?_
 rintro e w1 ⟨rfl, hx⟩
 have bA := (((Box.new _ _ _).alloc _).alloc _).ex hx
 have bB := ((Box.new _ _ _).alloc _).ex hx
 simp only [Oh] at bB
 have bR := (Box.new _ _ _).ex hx
 simp only [Oh] at bR
 replace hx := ((((Ex.refl w).alloc _).alloc _).alloc _).trans hx
 have hE := hx
 have cbA := bA.cell
 have fbA := bA.frozen
 have zbA := bA.lt
 have cbB := bB.cell
 have fbB := bB.frozen
 have zbB := bB.lt
 have cbR := bR.cell
 have fbR := bR.frozen
 have zbR := bR.lt
 clear hx
 go_wp2_with fail
 refine (K2.out _).mono ?_
 rintro e w2 ⟨rfl, hx⟩
 replace hE := hE.trans hx
 replace bA := bA.ex hx
 replace cbA := bA.cell
 replace fbA := bA.frozen
 replace zbA := bA.lt
 replace bB := bB.ex hx
 replace cbB := bB.cell
 replace fbB := bB.frozen
 replace zbB := bB.lt
 replace bR := bR.ex hx
 replace cbR := bR.cell
 replace fbR := bR.frozen
 replace zbR := bR.lt
 clear hx
 go_wp2_with fail
 refine (L1.out _).mono ?_
 rintro e w3 ⟨rfl, hx⟩
 replace hE := hE.trans hx
 replace bA := bA.ex hx
 replace cbA := bA.cell
 replace fbA := bA.frozen
 replace zbA := bA.lt
 replace bB := bB.ex hx
 replace cbB := bB.cell
 replace fbB := bB.frozen
 replace zbB := bB.lt
 replace bR := bR.ex hx
 replace cbR := bR.cell
 replace fbR := bR.frozen
 replace zbR := bR.lt
 clear hx
 go_wp2
 refine Od (v := frv (⟨r1, r2, r3⟩, ok)) ?_ rfl ⟨rfl, ?_⟩
 ·simp [results, Tryz.results117, go_sem, frv, Fr.v, Fr.none, cbA, zbA, cbB, zbB, cbR, zbR]
 ·repeat' (with_reducible first | exact Ex.refl _ | assumption | apply Ex.alloc | apply Ex.drewN | apply Ex.drew | refine Ex.setCell ?_ (by simp <;> omega) _)
theorem sFracAdd (a b : Fr) (w : World) : Calls Tryz.prog 160 #[a.v, b.v] w (Yc w (Ze a b)) := by
 have l1 := fun w => sl2Sum a b 1 (.inl rfl) w
 simp only [fsum_add] at l1
 generalize Ze a b = r at l1 ⊢
 obtain ⟨a1, a2, a3⟩ := a
 obtain ⟨b1, b2, b3⟩ := b
 obtain ⟨⟨r1, r2, r3⟩, ok⟩ := r
 replace l1 := fun w => Yc.spell (l1 w)
 show Calls _ _ #[.agg #[.int .i64 a1, .int .i64 a2, .int .i64 a3], .agg #[.int .i64 b1, .int .i64 b2, .int .i64 b3]] _ _
 go_enter Tryz.func160, Tryz.ntmps160
 go_wp2_with fail
 refine (l1 _).mono ?_
 rintro e w1 ⟨rfl, hx⟩
 have bA := (((Box.new _ _ _).alloc _).alloc _).ex hx
 have bB := ((Box.new _ _ _).alloc _).ex hx
 simp only [Oh] at bB
 have bR := (Box.new _ _ _).ex hx
 simp only [Oh] at bR
 replace hx := ((((Ex.refl w).alloc _).alloc _).alloc _).trans hx
 have hE := hx
 have cbA := bA.cell
 have fbA := bA.frozen
 have zbA := bA.lt
 have cbB := bB.cell
 have fbB := bB.frozen
 have zbB := bB.lt
 have cbR := bR.cell
 have fbR := bR.frozen
 have zbR := bR.lt
 clear hx
 go_wp2
 refine Od (v := frv (⟨r1, r2, r3⟩, ok)) ?_ rfl ⟨rfl, ?_⟩
 ·simp [results, Tryz.results160, go_sem, frv, Fr.v, Fr.none, cbA, zbA, cbB, zbB, cbR, zbR]
 ·repeat' (with_reducible first | exact Ex.refl _ | assumption | apply Ex.alloc | apply Ex.drewN | apply Ex.drew | refine Ex.setCell ?_ (by simp <;> omega) _)
theorem iFracMirror (a : Fr) (w : World) : Calls Tryz.prog 116 #[a.v] w (Yc w (Yx a)) := by
 obtain ⟨a1, a2, a3⟩ := a
 show Calls _ _ #[.agg #[.int .i64 a1, .int .i64 a2, .int .i64 a3]] _ _
 have k1 := fun w => Ya a1 a2 a3 w
 rcases h1 : Zk a1 a2 a3 with _ | _
 ·have hr : Yx ⟨a1, a2, a3⟩ = (Fr.none, false) := by simp [Yx, Fr.valid, h1]
  simp only [h1] at k1
  rw [hr]
  have K1 := Oi k1
  clear k1 hr h1
  go_enter Tryz.func116, Tryz.ntmps116
  go_wp2_with fail
  refine (K1.out _).mono ?_
  rintro e w1 ⟨rfl, hx⟩
  have bA := ((Box.new _ _ _).alloc _).ex hx
  have bR := (Box.new _ _ _).ex hx
  simp only [Oh] at bR
  replace hx := (((Ex.refl w).alloc _).alloc _).trans hx
  have hE := hx
  have cbA := bA.cell
  have fbA := bA.frozen
  have zbA := bA.lt
  have cbR := bR.cell
  have fbR := bR.frozen
  have zbR := bR.lt
  clear hx
  go_wp2
  refine Od (v := frv (Fr.none, false)) ?_ rfl ⟨rfl, ?_⟩
  ·simp [results, Tryz.results116, go_sem, frv, Fr.v, Fr.none, cbA, zbA, cbR, zbR]
  ·repeat' (with_reducible first | exact Ex.refl _ | assumption | apply Ex.alloc | apply Ex.drewN | apply Ex.drew | refine Ex.setCell ?_ (by simp <;> omega) _)
 ·have hr : Yx ⟨a1, a2, a3⟩ = (⟨a1, -a2, a3⟩, true) := by simp [Yx, Fr.valid, h1]
  obtain ⟨-, p2, -, -⟩ := Xx h1
  have hw := Oc (-a2) (by omega)
  simp only [h1] at k1
  rw [hr]
  have K1 := Oi k1
  clear k1 hr h1
  go_enter Tryz.func116, Tryz.ntmps116
  go_wp2_with fail
  refine (K1.out _).mono ?_
  rintro e w1 ⟨rfl, hx⟩
  have bA := ((Box.new _ _ _).alloc _).ex hx
  have bR := (Box.new _ _ _).ex hx
  simp only [Oh] at bR
  replace hx := (((Ex.refl w).alloc _).alloc _).trans hx
  have hE := hx
  have cbA := bA.cell
  have fbA := bA.frozen
  have zbA := bA.lt
  have cbR := bR.cell
  have fbR := bR.frozen
  have zbR := bR.lt
  clear hx
  go_wp2
  refine Od (v := frv (⟨a1, -a2, a3⟩, true)) ?_ rfl ⟨rfl, ?_⟩
  ·simp [results, Tryz.results116, go_sem, frv, Fr.v, Fr.none, cbA, zbA, cbR, zbR]
  ·repeat' (with_reducible first | exact Ex.refl _ | assumption | apply Ex.alloc | apply Ex.drewN | apply Ex.drew | refine Ex.setCell ?_ (by simp <;> omega) _)
end
section
open Go.RowKit

structure Sm (bs : Nat) (w w' : World) : Prop where
  ex : ∀ W, Ex W w → W.heap.size ≤ bs → Ex W w'
  box : ∀ b t cs, b ≠ bs → Box w b t cs → Box w' b t cs
  own : ∀ lo T k v n cs, T ≠ 101 → Own w lo T k v n cs → Own w' lo T k v n cs
  size : w.heap.size ≤ w'.heap.size
theorem Sm.of_ex {bs : Nat} {w w' : World} (h : Ex w w') : Sm bs w w' := ⟨fun _ hW _ => hW.trans h, fun _ _ _ _ hb => hb.ex h, fun _ _ _ _ _ _ _ ho => Own.ex ho h, h.size⟩
theorem Sm.refl (bs : Nat) (w : World) : Sm bs w w := Sm.of_ex (Ex.refl w)
theorem Sm.trans {bs : Nat} {w w1 w2 : World} (h : Sm bs w w1) (k : Sm bs w1 w2) : Sm bs w w2 :=
  ⟨fun W hW hl => k.ex W (h.ex W hW hl) hl, fun b t cs hne hb => k.box b t cs hne (h.box b t cs hne hb), fun _ _ _ _ _ _ hT ho => k.own _ _ _ _ _ _ hT (h.own _ _ _ _ _ _ hT ho), Nat.le_trans h.size k.size⟩
theorem Sm.set {bs : Nat} {w : World} {cs : Array Value} (hb : Box w bs 101 cs) (i : Nat) (u : Value) : Sm bs w (w.setCell ⟨bs, i, none⟩ u) :=
  ⟨fun W hW hl => hW.setCell (p := ⟨bs, i, none⟩) hl u, fun b t cs hne hb' => hb'.far (p := ⟨bs, i, none⟩) hne u,
   fun lo T k v n cs hT ho => Own.setCell (p := ⟨bs, i, none⟩) ho (fun g hg e => by subst e; exact Own.ne ho hb hT hg.symm) u, by simp⟩
theorem Sm.setNew {bs : Nat} {w w' : World} (h : Sm bs w w') {p : Addr} (hp : w.heap.size ≤ p.block) (u : Value) : Sm bs w (w'.setCell p u) :=
  ⟨fun W hW hl => (h.ex W hW hl).setCell (Nat.le_trans hW.size hp) u, fun b t cs hne hb => (h.box b t cs hne hb).far (by have := hb.lt; omega) u,
   fun lo T k v n cs hT ho => Own.setCell (h.own lo T k v n cs hT ho) (fun g hg e => by have := (Own.lt ho g hg).2; omega) u, by have := h.size; simpa using this⟩
theorem Sm.alloc {bs : Nat} {w w' : World} (h : Sm bs w w') (o : Obj) : Sm bs w (w'.alloc o) := h.trans (Sm.of_ex ((Ex.refl _).alloc o))

theorem flow_none {x y z : Int} (h : (flow x y z).2 = false) : (flow x y z).1 = Fr.none := by
  unfold flow at h ⊢
  split
  · rename_i h2; rw [if_pos h2] at h; cases h
  · rfl
def Uu (bs : Nat) (bad : Bool) (w : World) (r : Fr × Bool) : Ending → World → Prop := fun e w' => e = .returned r.1.v ∧ Sm bs w w' ∧ Box w' bs 101 #[.bool (bad || !r.2)]
theorem Pj (bs : Nat) (bad : Bool) (r : Fr × Bool) (w : World) (hb : Box w bs 101 #[.bool bad]) (hn : r.2 = false → r.1 = Fr.none) :
    Calls Tryz.prog 113 #[.pointer (some ⟨bs, 0, none⟩), r.1.v, .bool r.2] w (Uu bs bad w r) := by
  obtain ⟨⟨r1, r2, r3⟩, ok⟩ := r
  show Calls _ _ #[_, .agg #[.int .i64 r1, .int .i64 r2, .int .i64 r3], .bool ok] _ _
  have c := hb.cell
  have f := hb.frozen
  have z := hb.lt
  rcases ok with _ | _
  · have hn' := hn rfl
    simp only [Fr.none, Fr.mk.injEq] at hn'
    obtain ⟨rfl, rfl, rfl⟩ := hn'
    clear hn
    go_enter Tryz.func113, Tryz.ntmps113
    go_wp2
    refine Od (v := .agg #[.int .i64 0, .int .i64 0, .int .i64 0]) ?_ rfl ⟨rfl, ?_, ?_⟩
    · simp [results, Tryz.results113, go_sem]
    · exact ((Sm.set hb 0 _).alloc _).alloc _
    · have hs : Box _ bs 101 #[.bool true] := hb.set_ 0 (.bool true)
      have : (bad || !false) = true := by simp
      rw [this]
      exact (hs.alloc _).alloc _
  · clear hn
    go_enter Tryz.func113, Tryz.ntmps113
    go_wp2
    refine Od (v := .agg #[.int .i64 r1, .int .i64 r2, .int .i64 r3]) ?_ rfl ⟨rfl, ?_, ?_⟩
    · simp [results, Tryz.results113, go_sem]
    · exact Sm.of_ex (by repeat' (with_reducible first | exact Ex.refl _ | assumption | apply Ex.alloc | apply Ex.drewN | apply Ex.drew | refine Ex.setCell ?_ (by simp <;> omega) _))
    · have : (bad || !true) = bad := by simp
      rw [this]
      exact hb.ex (by repeat' (with_reducible first | exact Ex.refl _ | assumption | apply Ex.alloc | apply Ex.drewN | apply Ex.drew | refine Ex.setCell ?_ (by simp <;> omega) _))
theorem fadd2_none {a b : Fr} (h : (Ze a b).2 = false) : (Ze a b).1 = Fr.none := by
  unfold Ze at h ⊢
  split
  · rename_i hv
    rw [if_pos hv] at h
    exact flow_none h
  · rfl
theorem add_any (bs : Nat) (bad : Bool) (a b : Fr) (w : World) (hb : Box w bs 101 #[.bool bad]) :
    Calls Tryz.prog 54 #[.pointer (some ⟨bs, 0, none⟩), a.v, b.v] w (Uu bs bad w (Ze a b)) := by
  have l1 := fun w => iFracAdd a b w
  have l2 := fun w hb => Pj bs bad (Ze a b) w hb fadd2_none
  generalize Ze a b = r at l1 l2 ⊢
  obtain ⟨a1, a2, a3⟩ := a
  obtain ⟨b1, b2, b3⟩ := b
  obtain ⟨⟨r1, r2, r3⟩, ok⟩ := r
  show Calls _ _ #[_, .agg #[.int .i64 a1, .int .i64 a2, .int .i64 a3], .agg #[.int .i64 b1, .int .i64 b2, .int .i64 b3]] _ _
  have k1 : ∀ w, Calls Tryz.prog 117 #[.agg #[.int .i64 a1, .int .i64 a2, .int .i64 a3], .agg #[.int .i64 b1, .int .i64 b2, .int .i64 b3]] w _ := fun w => Yc.spell (l1 w)
  have k2 : ∀ w, Box w bs 101 #[.bool bad] → Calls Tryz.prog 113 #[.pointer (some ⟨bs, 0, none⟩), .agg #[.int .i64 r1, .int .i64 r2, .int .i64 r3], .bool ok] w fun e w' => e = .returned (.agg #[.int .i64 r1, .int .i64 r2, .int .i64 r3]) ∧ Sm bs w w' ∧ Box w' bs 101 #[.bool (bad || !ok)] := l2
  clear l1 l2
  have hbs := hb.lt
  go_enter Tryz.func54, Tryz.ntmps54
  go_wp2_with fail
  refine (k1 _).mono ?_
  rintro e w1 ⟨rfl, hx⟩
  have bR := (Box.new _ _ _).ex hx
  simp only [Oh] at bR
  replace hx := (((Ex.refl w).alloc _).alloc _ |>.alloc _).trans hx
  have zR := bR.lt
  go_wp2_with fail
  refine (k2 _ (hb.ex hx)).mono ?_
  rintro e w2 ⟨rfl, hsm, hb2⟩
  have bR2 := hsm.box _ _ _ (by omega) bR
  have cR := bR2.cell
  have fR := bR2.frozen
  clear bR hb
  go_wp2
  refine Od (v := .agg #[.int .i64 r1, .int .i64 r2, .int .i64 r3]) ?_ rfl ⟨rfl, ?_, ?_⟩
  · simp [results, Tryz.results54, go_sem, cR]
  · repeat' (first
      | exact (Sm.of_ex hx).trans hsm
      | refine Sm.setNew ?_ (by simp <;> omega) _)
  · repeat' (first
      | exact hb2
      | refine Box.far ?_ (by simp <;> omega) _)
theorem ftimes_none {a b : Fr} (h : (Zu a b).2 = false) : (Zu a b).1 = Fr.none := by
  unfold Zu at h ⊢
  split
  · rename_i hv
    rw [if_pos hv] at h
    exact flow_none h
  · rfl
theorem times_any (bs : Nat) (bad : Bool) (a b : Fr) (w : World) (hb : Box w bs 101 #[.bool bad]) :
    Calls Tryz.prog 50 #[.pointer (some ⟨bs, 0, none⟩), a.v, b.v] w (Uu bs bad w (Zu a b)) := by
  have l1 := fun w => iFracTimes a b w
  have l2 := fun w hb => Pj bs bad (Zu a b) w hb ftimes_none
  generalize Zu a b = r at l1 l2 ⊢
  obtain ⟨a1, a2, a3⟩ := a
  obtain ⟨b1, b2, b3⟩ := b
  obtain ⟨⟨r1, r2, r3⟩, ok⟩ := r
  show Calls _ _ #[_, .agg #[.int .i64 a1, .int .i64 a2, .int .i64 a3], .agg #[.int .i64 b1, .int .i64 b2, .int .i64 b3]] _ _
  have k1 : ∀ w, Calls Tryz.prog 115 #[.agg #[.int .i64 a1, .int .i64 a2, .int .i64 a3], .agg #[.int .i64 b1, .int .i64 b2, .int .i64 b3]] w _ := fun w => Yc.spell (l1 w)
  have k2 : ∀ w, Box w bs 101 #[.bool bad] → Calls Tryz.prog 113 #[.pointer (some ⟨bs, 0, none⟩), .agg #[.int .i64 r1, .int .i64 r2, .int .i64 r3], .bool ok] w fun e w' => e = .returned (.agg #[.int .i64 r1, .int .i64 r2, .int .i64 r3]) ∧ Sm bs w w' ∧ Box w' bs 101 #[.bool (bad || !ok)] := l2
  clear l1 l2
  have hbs := hb.lt
  go_enter Tryz.func50, Tryz.ntmps50
  go_wp2_with fail
  refine (k1 _).mono ?_
  rintro e w1 ⟨rfl, hx⟩
  have bR := (Box.new _ _ _).ex hx
  simp only [Oh] at bR
  replace hx := (((Ex.refl w).alloc _).alloc _ |>.alloc _).trans hx
  have zR := bR.lt
  go_wp2_with fail
  refine (k2 _ (hb.ex hx)).mono ?_
  rintro e w2 ⟨rfl, hsm, hb2⟩
  have bR2 := hsm.box _ _ _ (by omega) bR
  have cR := bR2.cell
  have fR := bR2.frozen
  clear bR hb
  go_wp2
  refine Od (v := .agg #[.int .i64 r1, .int .i64 r2, .int .i64 r3]) ?_ rfl ⟨rfl, ?_, ?_⟩
  · simp [results, Tryz.results50, go_sem, cR]
  · repeat' (first
      | exact (Sm.of_ex hx).trans hsm
      | refine Sm.setNew ?_ (by simp <;> omega) _)
  · repeat' (first
      | exact hb2
      | refine Box.far ?_ (by simp <;> omega) _)
theorem fmirror_none {a : Fr} (h : (Yx a).2 = false) : (Yx a).1 = Fr.none := by
  unfold Yx at h ⊢
  split
  · rename_i hv
    rw [if_pos hv] at h
    cases h
  · rfl
theorem mirror_any (bs : Nat) (bad : Bool) (a : Fr) (w : World) (hb : Box w bs 101 #[.bool bad]) :
    Calls Tryz.prog 51 #[.pointer (some ⟨bs, 0, none⟩), a.v] w (Uu bs bad w (Yx a)) := by
  have l1 := fun w => iFracMirror a w
  have l2 := fun w hb => Pj bs bad (Yx a) w hb fmirror_none
  generalize Yx a = r at l1 l2 ⊢
  obtain ⟨a1, a2, a3⟩ := a
  obtain ⟨⟨r1, r2, r3⟩, ok⟩ := r
  show Calls _ _ #[_, .agg #[.int .i64 a1, .int .i64 a2, .int .i64 a3]] _ _
  have k1 : ∀ w, Calls Tryz.prog 116 #[.agg #[.int .i64 a1, .int .i64 a2, .int .i64 a3]] w _ := fun w => Yc.spell (l1 w)
  have k2 : ∀ w, Box w bs 101 #[.bool bad] → Calls Tryz.prog 113 #[.pointer (some ⟨bs, 0, none⟩), .agg #[.int .i64 r1, .int .i64 r2, .int .i64 r3], .bool ok] w fun e w' => e = .returned (.agg #[.int .i64 r1, .int .i64 r2, .int .i64 r3]) ∧ Sm bs w w' ∧ Box w' bs 101 #[.bool (bad || !ok)] := l2
  clear l1 l2
  have hbs := hb.lt
  go_enter Tryz.func51, Tryz.ntmps51
  go_wp2_with fail
  refine (k1 _).mono ?_
  rintro e w1 ⟨rfl, hx⟩
  have bR := (Box.new _ _ _).ex hx
  simp only [Oh] at bR
  replace hx := (((Ex.refl w).alloc _).alloc _).trans hx
  have zR := bR.lt
  go_wp2_with fail
  refine (k2 _ (hb.ex hx)).mono ?_
  rintro e w2 ⟨rfl, hsm, hb2⟩
  have bR2 := hsm.box _ _ _ (by omega) bR
  have cR := bR2.cell
  have fR := bR2.frozen
  clear bR hb
  go_wp2
  refine Od (v := .agg #[.int .i64 r1, .int .i64 r2, .int .i64 r3]) ?_ rfl ⟨rfl, ?_, ?_⟩
  · simp [results, Tryz.results51, go_sem, cR]
  · repeat' (first
      | exact (Sm.of_ex hx).trans hsm
      | refine Sm.setNew ?_ (by simp <;> omega) _)
  · repeat' (first
      | exact hb2
      | refine Box.far ?_ (by simp <;> omega) _)
end
section
open Go.RowKit

class Zt (W w : World) (bs : outParam Nat) (bad : outParam Bool) (L : outParam (List (Nat × TypeId × Array Value))) : Prop where
 sm : Sm bs W w
 sum : Box w bs 101 #[.bool bad]
 boxes : Zb w L
 far : ∀ x ∈ L, x.1 ≠ bs
theorem Zb.sm {bs : Nat} {w w1 : World} (hs : Sm bs w w1) : ∀ {L : List (Nat × TypeId × Array Value)}, (∀ x ∈ L, x.1 ≠ bs) → Zb w L → Zb w1 L
 | [], _, _ => trivial
 | _ :: _, hf, h => ⟨hs.box _ _ _ (hf _ (.head _)) h.1, Zb.sm hs (fun x hx => hf x (.tail _ hx)) h.2⟩
theorem Zb.old {w : World} : ∀ {L : List (Nat × TypeId × Array Value)}, Zb w L → ∀ x ∈ L, x.1 < w.heap.size
 | [], _, _, hx => by cases hx
 | _ :: _, h, x, hx => by
  rcases List.mem_cons.1 hx with rfl | hx
  ·exact h.1.lt
  ·exact Zb.old h.2 x hx
section
variable {W w w1 : World} {bs n : Nat} {bad : Bool} {L : List (Nat × TypeId × Array Value)} {cs : Array Value} {t : TypeId}
instance Zt.start {b : Bool} [h : Zw W w L] : Zt W (w.alloc (.cells #[.bool b] 101)) w.heap.size b L :=
 ⟨Sm.of_ex (h.ex.alloc _), Box.new w _ _, Zb.ex ((Ex.refl w).alloc _) h.boxes, fun x hx => Nat.ne_of_lt (Zb.old h.boxes x hx)⟩
instance Zt.alloc [h : Zt W w bs bad L] : Zt W (w.alloc (.cells cs t)) bs bad ((w.heap.size, t, cs) :: L) :=
 ⟨h.sm.alloc _, h.sum.alloc _, ⟨Box.new w cs t, Zb.ex ((Ex.refl w).alloc _) h.boxes⟩, fun x hx => by
  rcases List.mem_cons.1 hx with rfl | hx
  ·exact (Nat.ne_of_lt h.sum.lt).symm
  ·exact h.far x hx⟩
instance Zt.drew [h : Zt W w bs bad L] : Zt W w.drew bs bad L := ⟨h.sm.trans (Sm.of_ex (Ex.refl w).drew), h.sum.drew, Zb.ex (Ex.refl w).drew h.boxes, h.far⟩
instance Zt.drewN [h : Zt W w bs bad L] : Zt W (w.drewN n) bs bad L := ⟨h.sm.trans (Sm.of_ex ((Ex.refl w).drewN n)), h.sum.ex ((Ex.refl w).drewN n), Zb.ex ((Ex.refl w).drewN n) h.boxes, h.far⟩
theorem Zt.rel (h : Zt W w bs bad L) (hl : W.heap.size ≤ bs) : Ex W w := h.sm.ex W (Ex.refl W) hl
theorem Zt.init (hb : Box w bs 101 #[.bool bad]) : Zt w w bs bad [] := ⟨Sm.refl _ _, hb, trivial, fun x hx => by cases hx⟩
theorem Zt.put {b : Nat} (h : Zt W w bs bad L) (hb : Box w b t cs) (hne : b ≠ bs) : Zt W w bs bad ((b, t, cs) :: L) := ⟨h.sm, h.sum, ⟨hb, h.boxes⟩, fun x hx => by
 rcases List.mem_cons.1 hx with rfl | hx
 ·exact hne
 ·exact h.far x hx⟩
theorem Zt.after [h : Zt W w bs bad L] (hx : Ex w w1) : Zt W w1 bs bad L :=
 ⟨h.sm.trans (Sm.of_ex hx), h.sum.ex hx, Zb.ex hx h.boxes, h.far⟩
theorem Zt.call {bad' : Bool} (h : Zt W w bs bad L) (hs : Sm bs w w1) (hb : Box w1 bs 101 #[.bool bad']) : Zt W w1 bs bad' L :=
 ⟨h.sm.trans hs, hb, Zb.sm hs h.far h.boxes, h.far⟩
theorem Zt.reads (h : Zt W w bs bad L) : Qr w ((bs, 101, #[.bool bad]) :: L) := ⟨h.sum.cell, h.sum.frozen, h.sum.lt, h.boxes.reads⟩
end

def SumR (W : World) (bs : Nat) (bad : Bool) (L : List (Nat × TypeId × Array Value)) (r : Fr × Bool) : Ending → World → Prop := fun e w' =>
 ∃ (x y z : Int) (ok : Bool), Hid ((⟨x, y, z⟩, ok) = r) ∧ e = .returned (.agg #[.int .i64 x, .int .i64 y, .int .i64 z]) ∧ Zt W w' bs (bad || !ok) L
theorem SumR.of {W w : World} {bs : Nat} {bad : Bool} {L : List (Nat × TypeId × Array Value)} (h : Zt W w bs bad L) {r : Fr × Bool} {f : FuncId} {args : Array Value} (hc : Calls Tryz.prog f args w (Uu bs bad w r)) : Calls Tryz.prog f args w (SumR W bs bad L r) := by
 obtain ⟨⟨x, y, z⟩, ok⟩ := r
 refine hc.mono ?_
 rintro e w' ⟨rfl, hs, hb⟩
 exact ⟨x, y, z, ok, rfl, rfl, h.call hs hb⟩
section
variable (W : World) {w : World} {bs : Nat} {bad : Bool} {L : List (Nat × TypeId × Array Value)} [h : Zt W w bs bad L] {a1 a2 a3 b1 b2 b3 : Int}
theorem Px : Calls Tryz.prog 54 #[.pointer (some ⟨bs, 0, none⟩), .agg #[.int .i64 a1, .int .i64 a2, .int .i64 a3], .agg #[.int .i64 b1, .int .i64 b2, .int .i64 b3]] w (SumR W bs bad L (Ze ⟨a1, a2, a3⟩ ⟨b1, b2, b3⟩)) := SumR.of h (add_any bs bad ⟨a1, a2, a3⟩ ⟨b1, b2, b3⟩ w h.sum)
theorem Ws : Calls Tryz.prog 50 #[.pointer (some ⟨bs, 0, none⟩), .agg #[.int .i64 a1, .int .i64 a2, .int .i64 a3], .agg #[.int .i64 b1, .int .i64 b2, .int .i64 b3]] w (SumR W bs bad L (Zu ⟨a1, a2, a3⟩ ⟨b1, b2, b3⟩)) := SumR.of h (times_any bs bad ⟨a1, a2, a3⟩ ⟨b1, b2, b3⟩ w h.sum)
end
theorem need_any (bs : Nat) (bad ok : Bool) (w : World) (hb : Box w bs 101 #[.bool bad]) :
  Calls Tryz.prog 47 #[.pointer (some ⟨bs, 0, none⟩), .bool ok] w fun e w' => e = .returned (.pointer (some ⟨bs, 0, none⟩)) ∧ Sm bs w w' ∧ Box w' bs 101 #[.bool (bad || !ok)] := by
 have c := hb.cell
 have f := hb.frozen
 have z := hb.lt
 rcases ok with _ | _
 ·go_enter Tryz.func47, Tryz.ntmps47
  go_wp2
  go_ret
  refine ⟨rfl, Sm.set hb 0 _, ?_⟩
  have hs : Box _ bs 101 #[.bool true] := hb.set_ 0 (.bool true)
  have : (bad || !false) = true := by simp
  rw [this]
  exact hs
 ·go_enter Tryz.func47, Tryz.ntmps47
  go_wp2
  go_ret
  refine ⟨rfl, Sm.refl _ _, ?_⟩
  have : (bad || !true) = bad := by simp
  rw [this]
  exact hb
def NeedR (W : World) (bs : Nat) (bad ok : Bool) (L : List (Nat × TypeId × Array Value)) : Ending → World → Prop := fun e w' => e = .returned (.pointer (some ⟨bs, 0, none⟩)) ∧ Zt W w' bs (bad || !ok) L
theorem Xd (W : World) {w : World} {bs : Nat} {bad ok : Bool} {L : List (Nat × TypeId × Array Value)} [h : Zt W w bs bad L] :
  Calls Tryz.prog 47 #[.pointer (some ⟨bs, 0, none⟩), .bool ok] w (NeedR W bs bad ok L) := by
 refine (need_any bs bad ok w h.sum).mono ?_
 rintro e w' ⟨rfl, hs, hb⟩
 exact ⟨rfl, h.call hs hb⟩
theorem SumR.known {W w' : World} {bs : Nat} {bad : Bool} {L : List (Nat × TypeId × Array Value)} {r : Fr × Bool} {x y z : Int} {e : Ending} (h : SumR W bs bad L r e w') (hr : r = (⟨x, y, z⟩, true)) :
  e = .returned (.agg #[.int .i64 x, .int .i64 y, .int .i64 z]) ∧ Zt W w' bs bad L := by
 obtain ⟨a, b, c, ok, H, rfl, hs⟩ := h
 have e1 := H.out
 rw [hr] at e1
 simp only [Prod.mk.injEq, Fr.mk.injEq] at e1
 obtain ⟨⟨rfl, rfl, rfl⟩, rfl⟩ := e1
 refine ⟨rfl, ?_⟩
 have : (bad || !true) = bad := by simp
 rw [this] at hs
 exact hs
end
section
open Go.RowKit

section
variable {W w : World} {bs : Nat} {b : Bool} {L : List (Nat × TypeId × Array Value)} {a1 a2 a3 b1 b2 b3 x y z : Int} {k : Bool}
theorem Sp {r : Fr × Bool} {f : FuncId} {args : Array Value} (hB : Zt W w bs b L) (hc : Calls Tryz.prog f args w (Uu bs b w r)) (hr : r = (⟨x, y, z⟩, k)) :
  Calls Tryz.prog f args w fun e w' => e = .returned (.agg #[.int .i64 x, .int .i64 y, .int .i64 z]) ∧ Zt W w' bs (b || !k) L ∧ Sm bs w w' := by
 subst hr
 refine hc.mono ?_
 rintro e w' ⟨rfl, hs, hb⟩
 exact ⟨rfl, hB.call hs hb, hs⟩
theorem add_det (hB : Zt W w bs b L) (hr : Ze ⟨a1, a2, a3⟩ ⟨b1, b2, b3⟩ = (⟨x, y, z⟩, k)) : Calls Tryz.prog 54 #[.pointer (some ⟨bs, 0, none⟩), .agg #[.int .i64 a1, .int .i64 a2, .int .i64 a3], .agg #[.int .i64 b1, .int .i64 b2, .int .i64 b3]] w fun e w' => e = .returned (.agg #[.int .i64 x, .int .i64 y, .int .i64 z]) ∧ Zt W w' bs (b || !k) L ∧ Sm bs w w' := Sp hB (add_any bs b ⟨a1, a2, a3⟩ ⟨b1, b2, b3⟩ w hB.sum) hr
theorem Yj (hB : Zt W w bs b L) (hr : Zu ⟨a1, a2, a3⟩ ⟨b1, b2, b3⟩ = (⟨x, y, z⟩, k)) : Calls Tryz.prog 50 #[.pointer (some ⟨bs, 0, none⟩), .agg #[.int .i64 a1, .int .i64 a2, .int .i64 a3], .agg #[.int .i64 b1, .int .i64 b2, .int .i64 b3]] w fun e w' => e = .returned (.agg #[.int .i64 x, .int .i64 y, .int .i64 z]) ∧ Zt W w' bs (b || !k) L ∧ Sm bs w w' := Sp hB (times_any bs b ⟨a1, a2, a3⟩ ⟨b1, b2, b3⟩ w hB.sum) hr
theorem Xc (hB : Zt W w bs b L) (hr : Yx ⟨a1, a2, a3⟩ = (⟨x, y, z⟩, k)) : Calls Tryz.prog 51 #[.pointer (some ⟨bs, 0, none⟩), .agg #[.int .i64 a1, .int .i64 a2, .int .i64 a3]] w fun e w' => e = .returned (.agg #[.int .i64 x, .int .i64 y, .int .i64 z]) ∧ Zt W w' bs (b || !k) L ∧ Sm bs w w' := Sp hB (mirror_any bs b ⟨a1, a2, a3⟩ w hB.sum) hr
end
theorem Zt.cast {W w : World} {bs bs' : Nat} {b : Bool} {L L' : List (Nat × TypeId × Array Value)} [h : Zt W w bs b L] (e1 : bs = bs') (e2 : L = L') : Zt W w bs' b L' := by
 subst e1 e2
 exact h
theorem Zw.cast {W w : World} {L L' : List (Nat × TypeId × Array Value)} [h : Zw W w L] (e2 : L = L') : Zw W w L' := by
 subst e2
 exact h
theorem Zw.drewW {W w : World} {L : List (Nat × TypeId × Array Value)} (h : Zw W w L) : Zw W { w with drawn := w.drawn + 1 } L := Zw.drew (h := h)
theorem Zw.go {W w w1 : World} {L : List (Nat × TypeId × Array Value)} (h : Zw W w L) (hx : Ex w w1) : Zw W w1 L := Zw.after (h := h) hx
theorem Zt.drewW {W w : World} {bs : Nat} {b : Bool} {L : List (Nat × TypeId × Array Value)} (h : Zt W w bs b L) : Zt W { w with drawn := w.drawn + 1 } bs b L := Zt.drew (h := h)
theorem Zt.ex {W w w1 : World} {bs : Nat} {b : Bool} {L : List (Nat × TypeId × Array Value)} (h : Zt W w bs b L) (hx : Ex w w1) : Zt W w1 bs b L := Zt.after (h := h) hx
theorem Wr (bs : Nat) (v0 v1 v2 v3 v4 v5 v6 v7 v8 v9 v10 v11 : Int) (w : World) (hb : Box w bs 101 #[.bool true]) : Calls Tryz.prog 94 #[.pointer (some ⟨bs, 0, none⟩), .agg #[.int .i64 v0, .int .i64 v1, .int .i64 v2, .int .i64 v3, .int .i64 v4, .int .i64 v5, .int .i64 v6, .int .i64 v7, .int .i64 v8, .int .i64 v9, .int .i64 v10, .int .i64 v11]] w fun e w' => e = .returned (.tuple #[.agg #[.int .i64 0, .int .i64 0, .int .i64 0, .int .i64 0, .int .i64 0, .int .i64 0, .int .i64 0, .int .i64 0, .int .i64 0, .int .i64 0, .int .i64 0, .int .i64 0], .bool false]) ∧ Ex w w' := by
 have c := hb.cell
 have z := hb.lt
 have ne1 : w.heap.size ≠ bs := Nat.ne_of_gt z
 have hS := Zw.refl w
 have hC := True.intro
 go_enter Tryz.func94, Tryz.ntmps94
 go_wp2
 refine Od ?_ rfl ⟨rfl, ?_⟩
 ·simp [results, Tryz.results94, go_sem, hC]
 ·repeat' (with_reducible first | exact hS.ex | exact Ex.refl _ | assumption | apply Ex.alloc | apply Ex.drewN | apply Ex.drew | refine Ex.setCell ?_ (by simp <;> omega) _)
theorem Ui (bs : Nat) (v0 v1 v2 v3 v4 v5 v6 v7 v8 v9 v10 v11 : Int) (w : World) (hb : Box w bs 101 #[.bool false]) : Calls Tryz.prog 94 #[.pointer (some ⟨bs, 0, none⟩), .agg #[.int .i64 v0, .int .i64 v1, .int .i64 v2, .int .i64 v3, .int .i64 v4, .int .i64 v5, .int .i64 v6, .int .i64 v7, .int .i64 v8, .int .i64 v9, .int .i64 v10, .int .i64 v11]] w fun e w' => e = .returned (.tuple #[.agg #[.int .i64 v0, .int .i64 v1, .int .i64 v2, .int .i64 v3, .int .i64 v4, .int .i64 v5, .int .i64 v6, .int .i64 v7, .int .i64 v8, .int .i64 v9, .int .i64 v10, .int .i64 v11], .bool true]) ∧ Ex w w' := by
 have c := hb.cell
 have z := hb.lt
 have ne1 : w.heap.size ≠ bs := Nat.ne_of_gt z
 have hS := Zw.refl w
 have hC := True.intro
 go_enter Tryz.func94, Tryz.ntmps94
 go_wp2
 refine Od ?_ rfl ⟨rfl, ?_⟩
 ·simp [results, Tryz.results94, go_sem, hC]
 ·repeat' (with_reducible first | exact hS.ex | exact Ex.refl _ | assumption | apply Ex.alloc | apply Ex.drewN | apply Ex.drew | refine Ex.setCell ?_ (by simp <;> omega) _)
theorem Ut (bs : Nat) (v0 v1 v2 v3 v4 v5 : Int) (w : World) (hb : Box w bs 101 #[.bool true]) : Calls Tryz.prog 126 #[.pointer (some ⟨bs, 0, none⟩), .agg #[.int .i64 v0, .int .i64 v1, .int .i64 v2, .int .i64 v3, .int .i64 v4, .int .i64 v5]] w fun e w' => e = .returned (.tuple #[.agg #[.int .i64 0, .int .i64 0, .int .i64 0, .int .i64 0, .int .i64 0, .int .i64 0], .bool false]) ∧ Ex w w' := by
 have c := hb.cell
 have z := hb.lt
 have ne1 : w.heap.size ≠ bs := Nat.ne_of_gt z
 have hS := Zw.refl w
 have hC := True.intro
 go_enter Tryz.func126, Tryz.ntmps126
 go_wp2
 refine Od ?_ rfl ⟨rfl, ?_⟩
 ·simp [results, Tryz.results126, go_sem, hC]
 ·repeat' (with_reducible first | exact hS.ex | exact Ex.refl _ | assumption | apply Ex.alloc | apply Ex.drewN | apply Ex.drew | refine Ex.setCell ?_ (by simp <;> omega) _)
theorem Pi (bs : Nat) (v0 v1 v2 v3 v4 v5 : Int) (w : World) (hb : Box w bs 101 #[.bool false]) : Calls Tryz.prog 126 #[.pointer (some ⟨bs, 0, none⟩), .agg #[.int .i64 v0, .int .i64 v1, .int .i64 v2, .int .i64 v3, .int .i64 v4, .int .i64 v5]] w fun e w' => e = .returned (.tuple #[.agg #[.int .i64 v0, .int .i64 v1, .int .i64 v2, .int .i64 v3, .int .i64 v4, .int .i64 v5], .bool true]) ∧ Ex w w' := by
 have c := hb.cell
 have z := hb.lt
 have ne1 : w.heap.size ≠ bs := Nat.ne_of_gt z
 have hS := Zw.refl w
 have hC := True.intro
 go_enter Tryz.func126, Tryz.ntmps126
 go_wp2
 refine Od ?_ rfl ⟨rfl, ?_⟩
 ·simp [results, Tryz.results126, go_sem, hC]
 ·repeat' (with_reducible first | exact hS.ex | exact Ex.refl _ | assumption | apply Ex.alloc | apply Ex.drewN | apply Ex.drew | refine Ex.setCell ?_ (by simp <;> omega) _)
end
section
open Go.RowKit

def JvGot (w : World) (r : (Fr × Fr) × Bool) : Ending → World → Prop := fun e w' => e = .returned (.tuple #[.agg #[.int .i64 r.1.1.re, .int .i64 r.1.1.im, .int .i64 r.1.1.den, .int .i64 r.1.2.re, .int .i64 r.1.2.im, .int .i64 r.1.2.den], .bool r.2]) ∧ Ex w w'
end
section
theorem flow_no {x y z : Int} (h : (flow x y z).2 = false) : (flow x y z).1 = Fr.none := by
 unfold flow at h ⊢
 split
 ·rename_i h2; rw [if_pos h2] at h; cases h
 ·rfl
theorem Pd : Fr.none.valid = false := by decide
theorem fadd2_no1 {a b : Fr} (h : a.valid = false) : Ze a b = (Fr.none, false) := by simp [Ze, h]
theorem fadd2_no2 {a b : Fr} (h : b.valid = false) : Ze a b = (Fr.none, false) := by simp [Ze, h]
theorem ftimes_no {a b : Fr} (h : (Zu a b).2 = false) : (Zu a b).1 = Fr.none := by
 unfold Zu at h ⊢
 split
 ·rename_i h2; rw [if_pos h2] at h; exact flow_no h
 ·rfl
def Zc (a b c d : Fr) : Fr × Bool := Ze (Zu a b).1 (Zu c d).1
theorem finner_eq (a b c d : Fr) : (if (Zu a b).2 && (Zu c d).2 then Ze (Zu a b).1 (Zu c d).1 else (Fr.none, false)) = Zc a b c d := by
 unfold Zc
 rcases h1 : (Zu a b).2 with _ | _
 ·rw [ftimes_no h1, fadd2_no1 Pd]; rfl
 rcases h2 : (Zu c d).2 with _ | _
 ·rw [ftimes_no h2, fadd2_no2 Pd]; rfl
 rfl
theorem Vr (a b c d : Fr) (x : Bool) : (((x || !(Zu a b).2) || !(Zu c d).2) || !(Zc a b c d).2) = (x || !(Zc a b c d).2) := by
 have := finner_eq a b c d
 rcases h1 : (Zu a b).2 with _ | _
 ·rw [h1] at this; simp only [Bool.false_and, Bool.false_eq_true, if_false] at this; rw [← this]; simp
 rcases h2 : (Zu c d).2 with _ | _
 ·rw [h1, h2] at this; simp only [Bool.and_false, Bool.false_eq_true, if_false] at this; rw [← this]; simp
 simp

structure M4 where
 a : Fr
 b : Fr
 c : Fr
 d : Fr
 deriving DecidableEq
def M4.none : M4 := ⟨Fr.none, Fr.none, Fr.none, Fr.none⟩
def M4.valid (m : M4) : Bool := m.a.valid && m.b.valid && m.c.valid && m.d.valid
def M4.v (m : M4) : Value := .agg #[.int .i64 m.a.re, .int .i64 m.a.im, .int .i64 m.a.den, .int .i64 m.b.re, .int .i64 m.b.im, .int .i64 m.b.den, .int .i64 m.c.re, .int .i64 m.c.im, .int .i64 m.c.den, .int .i64 m.d.re, .int .i64 m.d.im, .int .i64 m.d.den]
def Qe (a b c d : Fr × Bool) (ok : Bool) : M4 × Bool := if ok && a.2 && b.2 && c.2 && d.2 then (⟨a.1, b.1, c.1, d.1⟩, true) else (M4.none, false)
def Zl (x y : M4) : M4 × Bool := Qe (Zc x.a y.a x.b y.c) (Zc x.a y.b x.b y.d) (Zc x.c y.a x.d y.c) (Zc x.c y.b x.d y.d) (x.valid && y.valid)
def Wz (x : M4) : M4 × Bool := Qe (Yx x.a) (Yx x.c) (Yx x.b) (Yx x.d) true
def Fr.one : Fr := ⟨1, 0, 1⟩
def Fr.nul : Fr := ⟨0, 0, 1⟩
def two (a b : Fr × Bool) (ok : Bool) : (Fr × Fr) × Bool := if ok && a.2 && b.2 then ((a.1, b.1), true) else ((Fr.none, Fr.none), false)
def Wi (m : M4) (x y : Fr) : (Fr × Fr) × Bool := two (Zc m.a x m.b y) (Zc m.c x m.d y) (m.valid && (x.valid && y.valid))
def jpower (x y : Fr) : Fr × Bool := Ze (Wb x).1 (Wb y).1
def Yi (p q : Int) : Bool := Yo p (-100) 100 && Yo q (-100) 100 && !(decide (p = 0) && decide (q = 0))
def Xl (p q : Int) : Fr := (flow (p * p - q * q) 0 (p * p + q * q)).1
def Xk (p q : Int) : Fr := (flow (2 * p * q) 0 (p * p + q * q)).1
def fneg (a : Fr) : Fr := ⟨-a.re, -a.im, a.den⟩
def Zg (p q : Int) : M4 × Bool := if Yi p q then (⟨Xl p q, fneg (Xk p q), Xk p q, Xl p q⟩, true) else (M4.none, false)
def Ys (k : Int) : Fr := if k = 0 then ⟨1, 0, 1⟩ else if k = 1 then ⟨0, 1, 1⟩ else if k = 2 then ⟨-1, 0, 1⟩ else ⟨0, -1, 1⟩
def Yp (p q k : Int) : M4 × Bool :=
 if Yi p q && Yo k 0 3 then
  (if (Zl (Zg p q).1 ⟨Fr.one, Fr.nul, Fr.nul, Ys k⟩).2 && (Zl (Zl (Zg p q).1 ⟨Fr.one, Fr.nul, Fr.nul, Ys k⟩).1 (Wz (Zg p q).1).1).2 then
   Zl (Zl (Zg p q).1 ⟨Fr.one, Fr.nul, Fr.nul, Ys k⟩).1 (Wz (Zg p q).1).1 else (M4.none, false))
 else (M4.none, false)
def Xq (p q : Int) : M4 × Bool :=
 if Yi p q then Qe (Zu (Xl p q) (Xl p q)) (Zu (Xl p q) (Xk p q)) (Zu (Xl p q) (Xk p q)) (Zu (Xk p q) (Xk p q)) true else (M4.none, false)
theorem Pb {re im den : Int} (h1 : -2000000000 ≤ re ∧ re ≤ 2000000000) (h2 : -2000000000 ≤ im ∧ im ≤ 2000000000) (h3 : 1 ≤ den ∧ den ≤ 2000000000) : (flow re im den).2 = true := by
 have b1 := Vy re (Yf re im den) 2000000000 h1.1 h1.2
 have b2 := Vy im (Yf re im den) 2000000000 h2.1 h2.2
 have b3 := Vy den (Yf re im den) 2000000000 (by omega) h3.2
 unfold flow Yo
 rw [if_pos]
 simp only [Bool.and_eq_true, decide_eq_true_eq]
 exact ⟨⟨⟨b1.1, b1.2⟩, ⟨b2.1, b2.2⟩⟩, b3.2⟩
end
section
open Go.RowKit

def freal (a : Fr) : Fr × Bool := if a.valid then flow a.re 0 a.den else (Fr.none, false)
def fimag (a : Fr) : Fr × Bool := if a.valid then flow a.im 0 a.den else (Fr.none, false)
def fhalf (a : Fr) : Fr × Bool := fover a ⟨2, 0, 1⟩
def Za (a b : Fr) : Fr × Bool := Zu a (Yx b).1
end
section
structure Rp (f : Fr) (X Y D : Int) : Prop where
 re : f.re * D = X * f.den
 im : f.im * D = Y * f.den
 pos : 1 ≤ D
 den : 1 ≤ f.den
theorem Rp.own {f : Fr} (h : f.valid = true) : Rp f f.re f.im f.den := by
 obtain ⟨-, -, ⟨hd, -⟩, -⟩ := Fr.valid_out h
 exact ⟨rfl, rfl, hd, hd⟩
theorem Rp.cast {f : Fr} {X Y D X' Y' D' : Int} (h : Rp f X Y D) (h1 : X = X') (h2 : Y = Y') (h3 : D = D') : Rp f X' Y' D' := by
 subst h1 h2 h3
 exact h
theorem Rp.flow {X Y D : Int} {f : Fr} (hD : 1 ≤ D) (h : flow X Y D = (f, true)) : Rp f X Y D := by
 have := flow_val (re := X) (im := Y) hD (by rw [h])
 rw [h] at this
 exact ⟨this.1, this.2.1, hD, this.2.2⟩
theorem Rp.times {f g h : Fr} {X Y D X' Y' D' : Int} (hf : Rp f X Y D) (hg : Rp g X' Y' D') (ht : Zu f g = (h, true)) : Rp h (X * X' - Y * Y') (X * Y' + Y * X') (D * D') := by
 unfold Zu at ht
 split at ht
 ·have hp := Tc hf.den hg.den
  obtain ⟨k1, k2, -, k4⟩ := Rp.flow hp ht
  obtain ⟨f1, f2, f3, -⟩ := hf
  obtain ⟨g1, g2, g3, -⟩ := hg
  have hne : f.den * g.den ≠ 0 := by omega
  refine ⟨Int.eq_of_mul_eq_mul_right hne ?_, Int.eq_of_mul_eq_mul_right hne ?_, Tc f3 g3, k4⟩
  ·have e : h.re * (D * D') * (f.den * g.den) = ((f.re * D) * (g.re * D') - (f.im * D) * (g.im * D')) * h.den := by grind
   rw [e, f1, f2, g1, g2]; grind
  ·have e : h.im * (D * D') * (f.den * g.den) = ((f.re * D) * (g.im * D') + (f.im * D) * (g.re * D')) * h.den := by grind
   rw [e, f1, f2, g1, g2]; grind
 ·cases ht
theorem Rp.add {f g h : Fr} {X Y D X' Y' D' : Int} (hf : Rp f X Y D) (hg : Rp g X' Y' D') (ht : Ze f g = (h, true)) : Rp h (X * D' + X' * D) (Y * D' + Y' * D) (D * D') := by
 unfold Ze at ht
 split at ht
 ·have hp := Tc hf.den hg.den
  obtain ⟨k1, k2, -, k4⟩ := Rp.flow hp ht
  obtain ⟨f1, f2, f3, -⟩ := hf
  obtain ⟨g1, g2, g3, -⟩ := hg
  have hne : f.den * g.den ≠ 0 := by omega
  refine ⟨Int.eq_of_mul_eq_mul_right hne ?_, Int.eq_of_mul_eq_mul_right hne ?_, Tc f3 g3, k4⟩
  ·have e : h.re * (D * D') * (f.den * g.den) = ((f.re * D) * (g.den * D') + (g.re * D') * (f.den * D)) * h.den := by grind
   rw [e, f1, g1]; grind
  ·have e : h.im * (D * D') * (f.den * g.den) = ((f.im * D) * (g.den * D') + (g.im * D') * (f.den * D)) * h.den := by grind
   rw [e, f2, g2]; grind
 ·cases ht
theorem Rp.power {f h : Fr} {X Y D : Int} (hf : Rp f X Y D) (ht : Wb f = (h, true)) : Rp h (X * X + Y * Y) 0 (D * D) := by
 unfold Wb at ht
 split at ht
 ·have hp := Tc hf.den hf.den
  obtain ⟨k1, k2, -, k4⟩ := Rp.flow hp ht
  obtain ⟨f1, f2, f3, -⟩ := hf
  have hne : f.den * f.den ≠ 0 := by omega
  refine ⟨Int.eq_of_mul_eq_mul_right hne ?_, Int.eq_of_mul_eq_mul_right hne ?_, Tc f3 f3, k4⟩
  ·have e : h.re * (D * D) * (f.den * f.den) = ((f.re * D) * (f.re * D) + (f.im * D) * (f.im * D)) * h.den := by grind
   rw [e, f1, f2]; grind
  ·have e : h.im * (D * D) * (f.den * f.den) = (h.im * (f.den * f.den)) * (D * D) := by grind
   rw [e, k2]; grind
 ·cases ht
theorem M4.valid_out {m : M4} (h : m.valid = true) : m.a.valid = true ∧ m.b.valid = true ∧ m.c.valid = true ∧ m.d.valid = true := by
 unfold M4.valid at h
 simp only [Bool.and_eq_true] at h
 exact ⟨h.1.1.1, h.1.1.2, h.1.2, h.2⟩

def flt11 : M4 := ⟨Fr.nul, Fr.nul, Fr.nul, Fr.one⟩
def fcell (p q k : Int) : Fr × Bool :=
 jpower (Wi flt11 (Wi (Yp p q k).1 Fr.one Fr.nul).1.1 (Wi (Yp p q k).1 Fr.one Fr.nul).1.2).1.1 (Wi flt11 (Wi (Yp p q k).1 Fr.one Fr.nul).1.1 (Wi (Yp p q k).1 Fr.one Fr.nul).1.2).1.2
end
end Go.Proofs.YtmjggolkopbcnaaGreatDoor
