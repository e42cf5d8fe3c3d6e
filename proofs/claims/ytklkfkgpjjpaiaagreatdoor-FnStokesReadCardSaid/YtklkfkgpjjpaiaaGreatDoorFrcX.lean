/-
  Walks: differences and powers of fractions.
-/
import Derived.Test.YtklkfkgpjjpaiaaGreatDoorFrcL
import Derived.Test.YtklkfkgpjjpaiaaGreatDoorFrcM
set_option linter.unusedSimpArgs false
set_option linter.unusedVariables false
namespace Go.Proofs.YtklkfkgpjjpaiaaGreatDoor
open Go.RowKit

set_option maxHeartbeats 1000000 in
theorem sFracTimes (a b : Fr) (w : World) : Calls Tryz.prog 44 #[a.v, b.v] w (FrGot w (ftimes a b)) := by
  obtain ⟨a1, a2, a3⟩ := a
  obtain ⟨b1, b2, b3⟩ := b
  show Calls _ _ #[.agg #[.int .i64 a1, .int .i64 a2, .int .i64 a3], .agg #[.int .i64 b1, .int .i64 b2, .int .i64 b3]] _ _
  have k1 := fun w => sFracValid a1 a2 a3 w
  have k2 := fun w => sFracValid b1 b2 b3 w
  rcases h1 : fvalid a1 a2 a3 with _ | _
  · have hr : ftimes ⟨a1, a2, a3⟩ ⟨b1, b2, b3⟩ = (Fr.none, false) := by simp [ftimes, Fr.valid, h1]
    simp only [h1] at k1
    rw [hr]
    have K1 := Lib.hid k1
    clear hr k1 k2 h1
    go_enter Tryz.func44, Tryz.ntmps44
    go_wp2_with fail
    refine (K1.out _).mono ?_
    rintro e w1 ⟨rfl, hx⟩
    have bA := (((Box.new _ _ _).alloc _).alloc _).ex hx
    have bB := ((Box.new _ _ _).alloc _).ex hx
    simp only [World.size_alloc] at bB
    have bR := (Box.new _ _ _).ex hx
    simp only [World.size_alloc] at bR
    replace hx := ((((Ex.refl w).alloc _).alloc _).alloc _).trans hx
    have hE := hx
    have cbA := bA.cell
    have fbA := bA.frozen
    have zbA := bA.lt
    have cbB := bB.cell
    have fbB := bB.frozen
    have zbB := bB.lt
    have cbR := bR.cell
    have fbR := bR.frozen
    have zbR := bR.lt
    clear hx
    go_wp2
    refine bodyPost_ret (v := frv (Fr.none, false)) ?_ rfl ⟨rfl, ?_⟩
    · simp [results, Tryz.results44, go_sem, frv, Fr.v, Fr.none, cbA, zbA, cbB, zbB, cbR, zbR]
    · repeat' (with_reducible first | exact Ex.refl _ | assumption | refine Ex.alloc ?_ _ | refine Ex.drewN ?_ _ | refine Ex.drew ?_ | refine Ex.setCell ?_ (by simp <;> omega) _)
  rcases h2 : fvalid b1 b2 b3 with _ | _
  · have hr : ftimes ⟨a1, a2, a3⟩ ⟨b1, b2, b3⟩ = (Fr.none, false) := by simp [ftimes, Fr.valid, h1, h2]
    simp only [h1] at k1
    simp only [h2] at k2
    rw [hr]
    have K1 := Lib.hid k1
    have K2 := Lib.hid k2
    clear hr k1 k2 h1 h2
    go_enter Tryz.func44, Tryz.ntmps44
    go_wp2_with fail
    refine (K1.out _).mono ?_
    rintro e w1 ⟨rfl, hx⟩
    have bA := (((Box.new _ _ _).alloc _).alloc _).ex hx
    have bB := ((Box.new _ _ _).alloc _).ex hx
    simp only [World.size_alloc] at bB
    have bR := (Box.new _ _ _).ex hx
    simp only [World.size_alloc] at bR
    replace hx := ((((Ex.refl w).alloc _).alloc _).alloc _).trans hx
    have hE := hx
    have cbA := bA.cell
    have fbA := bA.frozen
    have zbA := bA.lt
    have cbB := bB.cell
    have fbB := bB.frozen
    have zbB := bB.lt
    have cbR := bR.cell
    have fbR := bR.frozen
    have zbR := bR.lt
    clear hx
    go_wp2_with fail
    refine (K2.out _).mono ?_
    rintro e w2 ⟨rfl, hx⟩
    replace hE := hE.trans hx
    replace bA := bA.ex hx
    replace cbA := bA.cell
    replace fbA := bA.frozen
    replace zbA := bA.lt
    replace bB := bB.ex hx
    replace cbB := bB.cell
    replace fbB := bB.frozen
    replace zbB := bB.lt
    replace bR := bR.ex hx
    replace cbR := bR.cell
    replace fbR := bR.frozen
    replace zbR := bR.lt
    clear hx
    go_wp2
    refine bodyPost_ret (v := frv (Fr.none, false)) ?_ rfl ⟨rfl, ?_⟩
    · simp [results, Tryz.results44, go_sem, frv, Fr.v, Fr.none, cbA, zbA, cbB, zbB, cbR, zbR]
    · repeat' (with_reducible first | exact Ex.refl _ | assumption | refine Ex.alloc ?_ _ | refine Ex.drewN ?_ _ | refine Ex.drew ?_ | refine Ex.setCell ?_ (by simp <;> omega) _)
  obtain ⟨ap1, ap2, ap3, -⟩ := fvalid_out h1
  obtain ⟨bp1, bp2, bp3, -⟩ := fvalid_out h2
  have hr : ftimes ⟨a1, a2, a3⟩ ⟨b1, b2, b3⟩ = _ := ftimes_ok h1 h2
  have mx1 := mul_bd (a := a1) (b := b1) (by omega) (by omega)
  obtain ⟨x1, ex1⟩ : ∃ x, a1 * b1 = x := ⟨_, rfl⟩
  rw [ex1] at mx1 hr
  have mx2 := mul_bd (a := a2) (b := b2) (by omega) (by omega)
  obtain ⟨x2, ex2⟩ : ∃ x, a2 * b2 = x := ⟨_, rfl⟩
  rw [ex2] at mx2 hr
  have mx3 := mul_bd (a := a1) (b := b2) (by omega) (by omega)
  obtain ⟨x3, ex3⟩ : ∃ x, a1 * b2 = x := ⟨_, rfl⟩
  rw [ex3] at mx3 hr
  have mx4 := mul_bd (a := a2) (b := b1) (by omega) (by omega)
  obtain ⟨x4, ex4⟩ : ∃ x, a2 * b1 = x := ⟨_, rfl⟩
  rw [ex4] at mx4 hr
  have mx5 := mul_bd1 (a := a3) (b := b3) (by omega) (by omega)
  obtain ⟨x5, ex5⟩ : ∃ x, a3 * b3 = x := ⟨_, rfl⟩
  rw [ex5] at mx5 hr
  have l1 := fun w => l2Low_any (x1 - x2) (x3 + x4) (x5) w (by omega) (by omega) (by omega)
  rw [hr]
  clear hr
  generalize flow (x1 - x2) (x3 + x4) (x5) = r at l1 ⊢
  obtain ⟨⟨r1, r2, r3⟩, ok⟩ := r
  replace l1 := fun w => FrGot.spell (l1 w)
  simp only [h1] at k1
  simp only [h2] at k2
  have K1 := Lib.hid k1
  have K2 := Lib.hid k2
  have L1 := Lib.hid l1
  clear l1 k1 k2 h1 h2
  go_enter Tryz.func44, Tryz.ntmps44
  go_wp2_with fail
  refine (K1.out _).mono ?_
  rintro e w1 ⟨rfl, hx⟩
  have bA := (((Box.new _ _ _).alloc _).alloc _).ex hx
  have bB := ((Box.new _ _ _).alloc _).ex hx
  simp only [World.size_alloc] at bB
  have bR := (Box.new _ _ _).ex hx
  simp only [World.size_alloc] at bR
  replace hx := ((((Ex.refl w).alloc _).alloc _).alloc _).trans hx
  have hE := hx
  have cbA := bA.cell
  have fbA := bA.frozen
  have zbA := bA.lt
  have cbB := bB.cell
  have fbB := bB.frozen
  have zbB := bB.lt
  have cbR := bR.cell
  have fbR := bR.frozen
  have zbR := bR.lt
  clear hx
  go_wp2_with fail
  refine (K2.out _).mono ?_
  rintro e w2 ⟨rfl, hx⟩
  replace hE := hE.trans hx
  replace bA := bA.ex hx
  replace cbA := bA.cell
  replace fbA := bA.frozen
  replace zbA := bA.lt
  replace bB := bB.ex hx
  replace cbB := bB.cell
  replace fbB := bB.frozen
  replace zbB := bB.lt
  replace bR := bR.ex hx
  replace cbR := bR.cell
  replace fbR := bR.frozen
  replace zbR := bR.lt
  clear hx
  go_wp2_with fail
  refine (L1.out _).mono ?_
  rintro e w3 ⟨rfl, hx⟩
  replace hE := hE.trans hx
  replace bA := bA.ex hx
  replace cbA := bA.cell
  replace fbA := bA.frozen
  replace zbA := bA.lt
  replace bB := bB.ex hx
  replace cbB := bB.cell
  replace fbB := bB.frozen
  replace zbB := bB.lt
  replace bR := bR.ex hx
  replace cbR := bR.cell
  replace fbR := bR.frozen
  replace zbR := bR.lt
  clear hx
  go_wp2
  refine bodyPost_ret (v := frv (⟨r1, r2, r3⟩, ok)) ?_ rfl ⟨rfl, ?_⟩
  · simp [results, Tryz.results44, go_sem, frv, Fr.v, Fr.none, cbA, zbA, cbB, zbB, cbR, zbR]
  · repeat' (with_reducible first | exact Ex.refl _ | assumption | refine Ex.alloc ?_ _ | refine Ex.drewN ?_ _ | refine Ex.drew ?_ | refine Ex.setCell ?_ (by simp <;> omega) _)
set_option maxHeartbeats 1000000 in
theorem sl2Sum (a b : Fr) (s : Int) (hs : s = 1 ∨ s = -1) (w : World) : Calls Tryz.prog 73 #[a.v, .int .i64 s, b.v] w (FrGot w (fsum s a b)) := by
  obtain ⟨a1, a2, a3⟩ := a
  obtain ⟨b1, b2, b3⟩ := b
  show Calls _ _ #[.agg #[.int .i64 a1, .int .i64 a2, .int .i64 a3], .int .i64 s, .agg #[.int .i64 b1, .int .i64 b2, .int .i64 b3]] _ _
  have k1 := fun w => sFracValid a1 a2 a3 w
  have k2 := fun w => sFracValid b1 b2 b3 w
  rcases h1 : fvalid a1 a2 a3 with _ | _
  · have hr : fsum s ⟨a1, a2, a3⟩ ⟨b1, b2, b3⟩ = (Fr.none, false) := by simp [fsum, Fr.valid, h1]
    simp only [h1] at k1
    rw [hr]
    have K1 := Lib.hid k1
    clear hr k1 k2 h1
    go_enter Tryz.func73, Tryz.ntmps73
    go_wp2_with fail
    refine (K1.out _).mono ?_
    rintro e w1 ⟨rfl, hx⟩
    have bA := (((Box.new _ _ _).alloc _).alloc _).ex hx
    have bB := ((Box.new _ _ _).alloc _).ex hx
    simp only [World.size_alloc] at bB
    have bR := (Box.new _ _ _).ex hx
    simp only [World.size_alloc] at bR
    replace hx := ((((Ex.refl w).alloc _).alloc _).alloc _).trans hx
    have hE := hx
    have cbA := bA.cell
    have fbA := bA.frozen
    have zbA := bA.lt
    have cbB := bB.cell
    have fbB := bB.frozen
    have zbB := bB.lt
    have cbR := bR.cell
    have fbR := bR.frozen
    have zbR := bR.lt
    clear hx
    go_wp2
    refine bodyPost_ret (v := frv (Fr.none, false)) ?_ rfl ⟨rfl, ?_⟩
    · simp [results, Tryz.results73, go_sem, frv, Fr.v, Fr.none, cbA, zbA, cbB, zbB, cbR, zbR]
    · repeat' (with_reducible first | exact Ex.refl _ | assumption | refine Ex.alloc ?_ _ | refine Ex.drewN ?_ _ | refine Ex.drew ?_ | refine Ex.setCell ?_ (by simp <;> omega) _)
  rcases h2 : fvalid b1 b2 b3 with _ | _
  · have hr : fsum s ⟨a1, a2, a3⟩ ⟨b1, b2, b3⟩ = (Fr.none, false) := by simp [fsum, Fr.valid, h1, h2]
    simp only [h1] at k1
    simp only [h2] at k2
    rw [hr]
    have K1 := Lib.hid k1
    have K2 := Lib.hid k2
    clear hr k1 k2 h1 h2
    go_enter Tryz.func73, Tryz.ntmps73
    go_wp2_with fail
    refine (K1.out _).mono ?_
    rintro e w1 ⟨rfl, hx⟩
    have bA := (((Box.new _ _ _).alloc _).alloc _).ex hx
    have bB := ((Box.new _ _ _).alloc _).ex hx
    simp only [World.size_alloc] at bB
    have bR := (Box.new _ _ _).ex hx
    simp only [World.size_alloc] at bR
    replace hx := ((((Ex.refl w).alloc _).alloc _).alloc _).trans hx
    have hE := hx
    have cbA := bA.cell
    have fbA := bA.frozen
    have zbA := bA.lt
    have cbB := bB.cell
    have fbB := bB.frozen
    have zbB := bB.lt
    have cbR := bR.cell
    have fbR := bR.frozen
    have zbR := bR.lt
    clear hx
    go_wp2_with fail
    refine (K2.out _).mono ?_
    rintro e w2 ⟨rfl, hx⟩
    replace hE := hE.trans hx
    replace bA := bA.ex hx
    replace cbA := bA.cell
    replace fbA := bA.frozen
    replace zbA := bA.lt
    replace bB := bB.ex hx
    replace cbB := bB.cell
    replace fbB := bB.frozen
    replace zbB := bB.lt
    replace bR := bR.ex hx
    replace cbR := bR.cell
    replace fbR := bR.frozen
    replace zbR := bR.lt
    clear hx
    go_wp2
    refine bodyPost_ret (v := frv (Fr.none, false)) ?_ rfl ⟨rfl, ?_⟩
    · simp [results, Tryz.results73, go_sem, frv, Fr.v, Fr.none, cbA, zbA, cbB, zbB, cbR, zbR]
    · repeat' (with_reducible first | exact Ex.refl _ | assumption | refine Ex.alloc ?_ _ | refine Ex.drewN ?_ _ | refine Ex.drew ?_ | refine Ex.setCell ?_ (by simp <;> omega) _)
  obtain ⟨ap1, ap2, ap3, -⟩ := fvalid_out h1
  obtain ⟨bp1, bp2, bp3, -⟩ := fvalid_out h2
  have hr : fsum s ⟨a1, a2, a3⟩ ⟨b1, b2, b3⟩ = _ := fsum_ok h1 h2
  have mu := sgn_bd hs bp1
  obtain ⟨u, eu⟩ : ∃ x, s * b1 = x := ⟨_, rfl⟩
  rw [eu] at mu hr
  have mv := sgn_bd hs bp2
  obtain ⟨v, ev⟩ : ∃ x, s * b2 = x := ⟨_, rfl⟩
  rw [ev] at mv hr
  have mx1 := mul_bd (a := a1) (b := b3) (by omega) (by omega)
  obtain ⟨x1, ex1⟩ : ∃ x, a1 * b3 = x := ⟨_, rfl⟩
  rw [ex1] at mx1 hr
  have mx2 := mul_bd (a := u) (b := a3) (by omega) (by omega)
  obtain ⟨x2, ex2⟩ : ∃ x, u * a3 = x := ⟨_, rfl⟩
  rw [ex2] at mx2 hr
  have mx3 := mul_bd (a := a2) (b := b3) (by omega) (by omega)
  obtain ⟨x3, ex3⟩ : ∃ x, a2 * b3 = x := ⟨_, rfl⟩
  rw [ex3] at mx3 hr
  have mx4 := mul_bd (a := v) (b := a3) (by omega) (by omega)
  obtain ⟨x4, ex4⟩ : ∃ x, v * a3 = x := ⟨_, rfl⟩
  rw [ex4] at mx4 hr
  have mx5 := mul_bd1 (a := a3) (b := b3) (by omega) (by omega)
  obtain ⟨x5, ex5⟩ : ∃ x, a3 * b3 = x := ⟨_, rfl⟩
  rw [ex5] at mx5 hr
  have l1 := fun w => l2Low_any (x1 + x2) (x3 + x4) (x5) w (by omega) (by omega) (by omega)
  rw [hr]
  clear hr
  generalize flow (x1 + x2) (x3 + x4) (x5) = r at l1 ⊢
  obtain ⟨⟨r1, r2, r3⟩, ok⟩ := r
  replace l1 := fun w => FrGot.spell (l1 w)
  simp only [h1] at k1
  simp only [h2] at k2
  have K1 := Lib.hid k1
  have K2 := Lib.hid k2
  have L1 := Lib.hid l1
  clear l1 k1 k2 h1 h2
  go_enter Tryz.func73, Tryz.ntmps73
  go_wp2_with fail
  refine (K1.out _).mono ?_
  rintro e w1 ⟨rfl, hx⟩
  have bA := (((Box.new _ _ _).alloc _).alloc _).ex hx
  have bB := ((Box.new _ _ _).alloc _).ex hx
  simp only [World.size_alloc] at bB
  have bR := (Box.new _ _ _).ex hx
  simp only [World.size_alloc] at bR
  replace hx := ((((Ex.refl w).alloc _).alloc _).alloc _).trans hx
  have hE := hx
  have cbA := bA.cell
  have fbA := bA.frozen
  have zbA := bA.lt
  have cbB := bB.cell
  have fbB := bB.frozen
  have zbB := bB.lt
  have cbR := bR.cell
  have fbR := bR.frozen
  have zbR := bR.lt
  clear hx
  go_wp2_with fail
  refine (K2.out _).mono ?_
  rintro e w2 ⟨rfl, hx⟩
  replace hE := hE.trans hx
  replace bA := bA.ex hx
  replace cbA := bA.cell
  replace fbA := bA.frozen
  replace zbA := bA.lt
  replace bB := bB.ex hx
  replace cbB := bB.cell
  replace fbB := bB.frozen
  replace zbB := bB.lt
  replace bR := bR.ex hx
  replace cbR := bR.cell
  replace fbR := bR.frozen
  replace zbR := bR.lt
  clear hx
  go_wp2_with fail
  refine (L1.out _).mono ?_
  rintro e w3 ⟨rfl, hx⟩
  replace hE := hE.trans hx
  replace bA := bA.ex hx
  replace cbA := bA.cell
  replace fbA := bA.frozen
  replace zbA := bA.lt
  replace bB := bB.ex hx
  replace cbB := bB.cell
  replace fbB := bB.frozen
  replace zbB := bB.lt
  replace bR := bR.ex hx
  replace cbR := bR.cell
  replace fbR := bR.frozen
  replace zbR := bR.lt
  clear hx
  go_wp2
  refine bodyPost_ret (v := frv (⟨r1, r2, r3⟩, ok)) ?_ rfl ⟨rfl, ?_⟩
  · simp [results, Tryz.results73, go_sem, frv, Fr.v, Fr.none, cbA, zbA, cbB, zbB, cbR, zbR]
  · repeat' (with_reducible first | exact Ex.refl _ | assumption | refine Ex.alloc ?_ _ | refine Ex.drewN ?_ _ | refine Ex.drew ?_ | refine Ex.setCell ?_ (by simp <;> omega) _)
theorem sFracLess (a b : Fr) (w : World) : Calls Tryz.prog 46 #[a.v, b.v] w (FrGot w (fless a b)) := by
  have l1 := fun w => sl2Sum a b (-1) (.inr rfl) w
  simp only [fsum_less] at l1
  generalize fless a b = r at l1 ⊢
  obtain ⟨a1, a2, a3⟩ := a
  obtain ⟨b1, b2, b3⟩ := b
  obtain ⟨⟨r1, r2, r3⟩, ok⟩ := r
  replace l1 := fun w => FrGot.spell (l1 w)
  show Calls _ _ #[.agg #[.int .i64 a1, .int .i64 a2, .int .i64 a3], .agg #[.int .i64 b1, .int .i64 b2, .int .i64 b3]] _ _
  go_enter Tryz.func46, Tryz.ntmps46
  go_wp2_with fail
  refine (l1 _).mono ?_
  rintro e w1 ⟨rfl, hx⟩
  have bA := (((Box.new _ _ _).alloc _).alloc _).ex hx
  have bB := ((Box.new _ _ _).alloc _).ex hx
  simp only [World.size_alloc] at bB
  have bR := (Box.new _ _ _).ex hx
  simp only [World.size_alloc] at bR
  replace hx := ((((Ex.refl w).alloc _).alloc _).alloc _).trans hx
  have hE := hx
  have cbA := bA.cell
  have fbA := bA.frozen
  have zbA := bA.lt
  have cbB := bB.cell
  have fbB := bB.frozen
  have zbB := bB.lt
  have cbR := bR.cell
  have fbR := bR.frozen
  have zbR := bR.lt
  clear hx
  go_wp2
  refine bodyPost_ret (v := frv (⟨r1, r2, r3⟩, ok)) ?_ rfl ⟨rfl, ?_⟩
  · simp [results, Tryz.results46, go_sem, frv, Fr.v, Fr.none, cbA, zbA, cbB, zbB, cbR, zbR]
  · repeat' (with_reducible first | exact Ex.refl _ | assumption | refine Ex.alloc ?_ _ | refine Ex.drewN ?_ _ | refine Ex.drew ?_ | refine Ex.setCell ?_ (by simp <;> omega) _)
set_option maxHeartbeats 400000 in
theorem sFracMirror (a : Fr) (w : World) : Calls Tryz.prog 43 #[a.v] w (FrGot w (fmirror a)) := by
  obtain ⟨a1, a2, a3⟩ := a
  show Calls _ _ #[.agg #[.int .i64 a1, .int .i64 a2, .int .i64 a3]] _ _
  have k1 := fun w => sFracValid a1 a2 a3 w
  rcases h1 : fvalid a1 a2 a3 with _ | _
  · have hr : fmirror ⟨a1, a2, a3⟩ = (Fr.none, false) := by simp [fmirror, Fr.valid, h1]
    simp only [h1] at k1
    rw [hr]
    have K1 := Lib.hid k1
    clear k1 hr h1
    go_enter Tryz.func43, Tryz.ntmps43
    go_wp2_with fail
    refine (K1.out _).mono ?_
    rintro e w1 ⟨rfl, hx⟩
    have bA := ((Box.new _ _ _).alloc _).ex hx
    have bR := (Box.new _ _ _).ex hx
    simp only [World.size_alloc] at bR
    replace hx := (((Ex.refl w).alloc _).alloc _).trans hx
    have hE := hx
    have cbA := bA.cell
    have fbA := bA.frozen
    have zbA := bA.lt
    have cbR := bR.cell
    have fbR := bR.frozen
    have zbR := bR.lt
    clear hx
    go_wp2
    refine bodyPost_ret (v := frv (Fr.none, false)) ?_ rfl ⟨rfl, ?_⟩
    · simp [results, Tryz.results43, go_sem, frv, Fr.v, Fr.none, cbA, zbA, cbR, zbR]
    · repeat' (with_reducible first | exact Ex.refl _ | assumption | refine Ex.alloc ?_ _ | refine Ex.drewN ?_ _ | refine Ex.drew ?_ | refine Ex.setCell ?_ (by simp <;> omega) _)
  · have hr : fmirror ⟨a1, a2, a3⟩ = (⟨a1, -a2, a3⟩, true) := by simp [fmirror, Fr.valid, h1]
    obtain ⟨-, p2, -, -⟩ := fvalid_out h1
    have hw := IntWalk.i64_in (0 - a2) (by omega)
    simp only [h1] at k1
    rw [hr]
    have K1 := Lib.hid k1
    clear k1 hr h1
    go_enter Tryz.func43, Tryz.ntmps43
    go_wp2_with fail
    refine (K1.out _).mono ?_
    rintro e w1 ⟨rfl, hx⟩
    have bA := ((Box.new _ _ _).alloc _).ex hx
    have bR := (Box.new _ _ _).ex hx
    simp only [World.size_alloc] at bR
    replace hx := (((Ex.refl w).alloc _).alloc _).trans hx
    have hE := hx
    have cbA := bA.cell
    have fbA := bA.frozen
    have zbA := bA.lt
    have cbR := bR.cell
    have fbR := bR.frozen
    have zbR := bR.lt
    clear hx
    go_wp2
    refine bodyPost_ret (v := frv (⟨a1, -a2, a3⟩, true)) ?_ rfl ⟨rfl, ?_⟩
    · simp [results, Tryz.results43, go_sem, frv, Fr.v, Fr.none, cbA, zbA, cbR, zbR]
    · repeat' (with_reducible first | exact Ex.refl _ | assumption | refine Ex.alloc ?_ _ | refine Ex.drewN ?_ _ | refine Ex.drew ?_ | refine Ex.setCell ?_ (by simp <;> omega) _)
set_option maxHeartbeats 400000 in
theorem sFracPower (a : Fr) (w : World) : Calls Tryz.prog 42 #[a.v] w (FrGot w (fpower a)) := by
  rw [fpower_times]
  have l1 := fun w => sFracMirror a w
  have l2 := fun w => sFracTimes a (fmirror a).1 w
  generalize ftimes a (fmirror a).1 = t at l2 ⊢
  generalize fmirror a = m at l1 l2 ⊢
  obtain ⟨a1, a2, a3⟩ := a
  obtain ⟨⟨m1, m2, m3⟩, ok⟩ := m
  obtain ⟨⟨t1, t2, t3⟩, tk⟩ := t
  show Calls _ _ #[.agg #[.int .i64 a1, .int .i64 a2, .int .i64 a3]] _ _
  replace l1 := fun w => FrGot.spell (l1 w)
  have l3 : ∀ w, Calls Tryz.prog 44 #[.agg #[.int .i64 a1, .int .i64 a2, .int .i64 a3], .agg #[.int .i64 m1, .int .i64 m2, .int .i64 m3]] w _ := fun w => FrGot.spell (l2 w)
  clear l2
  rcases ok with _ | _
  · go_enter Tryz.func42, Tryz.ntmps42
    go_wp2_with fail
    refine (l1 _).mono ?_
    rintro e w1 ⟨rfl, hx⟩
    have bA := ((Box.new _ _ _).alloc _).ex hx
    have bR := (Box.new _ _ _).ex hx
    simp only [World.size_alloc] at bR
    replace hx := (((Ex.refl w).alloc _).alloc _).trans hx
    have hE := hx
    have cbA := bA.cell
    have fbA := bA.frozen
    have zbA := bA.lt
    have cbR := bR.cell
    have fbR := bR.frozen
    have zbR := bR.lt
    clear hx
    go_wp2
    refine bodyPost_ret (v := frv (Fr.none, false)) ?_ rfl ⟨rfl, ?_⟩
    · simp [results, Tryz.results42, go_sem, frv, Fr.v, Fr.none, cbA, zbA, cbR, zbR]
    · repeat' (with_reducible first | exact Ex.refl _ | assumption | refine Ex.alloc ?_ _ | refine Ex.drewN ?_ _ | refine Ex.drew ?_ | refine Ex.setCell ?_ (by simp <;> omega) _)
  · go_enter Tryz.func42, Tryz.ntmps42
    go_wp2_with fail
    refine (l1 _).mono ?_
    rintro e w1 ⟨rfl, hx⟩
    have bA := ((Box.new _ _ _).alloc _).ex hx
    have bR := (Box.new _ _ _).ex hx
    simp only [World.size_alloc] at bR
    replace hx := (((Ex.refl w).alloc _).alloc _).trans hx
    have hE := hx
    have cbA := bA.cell
    have fbA := bA.frozen
    have zbA := bA.lt
    have cbR := bR.cell
    have fbR := bR.frozen
    have zbR := bR.lt
    clear hx
    go_wp2_with fail
    refine (l3 _).mono ?_
    rintro e w2 ⟨rfl, hx⟩
    have bM := (Box.new _ _ _).ex hx
    replace hx := ((Ex.refl w1).alloc _).trans hx
    replace hE := hE.trans hx
    replace bA := bA.ex hx
    replace cbA := bA.cell
    replace fbA := bA.frozen
    replace zbA := bA.lt
    replace bR := bR.ex hx
    replace cbR := bR.cell
    replace fbR := bR.frozen
    replace zbR := bR.lt
    have cbM := bM.cell
    have fbM := bM.frozen
    have zbM := bM.lt
    clear hx
    go_wp2
    refine bodyPost_ret (v := frv (⟨t1, t2, t3⟩, tk)) ?_ rfl ⟨rfl, ?_⟩
    · simp [results, Tryz.results42, go_sem, frv, Fr.v, Fr.none, cbA, zbA, cbR, zbR, cbM, zbM]
    · repeat' (with_reducible first | exact Ex.refl _ | assumption | refine Ex.alloc ?_ _ | refine Ex.drewN ?_ _ | refine Ex.drew ?_ | refine Ex.setCell ?_ (by simp <;> omega) _)
end Go.Proofs.YtklkfkgpjjpaiaaGreatDoor

