/-
  Walks: the draw of four numbers: that it returns four fractions.
-/
import Derived.Test.YtklkfkgpjjpaiaaGreatDoorDrawR
import Derived.Test.YtklkfkgpjjpaiaaGreatDoorFrcX
import Derived.Test.YtklkfkgpjjpaiaaGreatDoorLawK
import Derived.Test.YtklkfkgpjjpaiaaGreatDoorRdF
import Derived.Deep.RegionHeld3
import Derived.Deep.DeepCutAuto
set_option linter.unusedSimpArgs false
set_option linter.unusedVariables false
namespace Go.Proofs.YtklkfkgpjjpaiaaGreatDoor
open Go.RowKit

def TotF (w : World) : Ending → World → Prop := fun e w' => ∃ (r1 r2 r3 : Int) (ok : Bool), e = .returned (.tuple #[.agg #[.int .i64 r1, .int .i64 r2, .int .i64 r3], .bool ok]) ∧ Ex w w'
theorem FrGot.tot {f : Nat} {args : Array Value} {w : World} {r : Fr × Bool} (h : Calls Tryz.prog f args w (FrGot w r)) : Calls Tryz.prog f args w (TotF w) := by
  obtain ⟨⟨r1, r2, r3⟩, ok⟩ := r
  exact (FrGot.spell h).mono fun e w' ⟨h1, h2⟩ => ⟨r1, r2, r3, ok, h1, h2⟩
def TotS (w : World) : Ending → World → Prop := fun e w' => ∃ (a b c d : Fr) (ok : Bool), e = .returned (.tuple #[Sv a b c d, .bool ok]) ∧ Ex w w'
set_option maxHeartbeats 1000000 in
theorem sFracAdd (a b : Fr) (w : World) : Calls Tryz.prog 45 #[a.v, b.v] w (FrGot w (fsum 1 a b)) := by
  have l1 := fun w => sl2Sum a b 1 (.inl rfl) w
  generalize fsum 1 a b = r at l1 ⊢
  obtain ⟨a1, a2, a3⟩ := a
  obtain ⟨b1, b2, b3⟩ := b
  obtain ⟨⟨r1, r2, r3⟩, ok⟩ := r
  replace l1 := fun w => FrGot.spell (l1 w)
  show Calls _ _ #[.agg #[.int .i64 a1, .int .i64 a2, .int .i64 a3], .agg #[.int .i64 b1, .int .i64 b2, .int .i64 b3]] _ _
  go_enter Tryz.func45, Tryz.ntmps45
  go_wp2_with fail
  refine (l1 _).mono ?_
  rintro e w1 ⟨rfl, hx⟩
  have bA := (((Box.new _ _ _).alloc _).alloc _).ex hx
  have bB := ((Box.new _ _ _).alloc _).ex hx
  simp only [World.size_alloc] at bB
  have bR := (Box.new _ _ _).ex hx
  simp only [World.size_alloc] at bR
  replace hx := ((((Ex.refl w).alloc _).alloc _).alloc _).trans hx
  have hE := hx
  have cbA := bA.cell
  have fbA := bA.frozen
  have zbA := bA.lt
  have cbB := bB.cell
  have fbB := bB.frozen
  have zbB := bB.lt
  have cbR := bR.cell
  have fbR := bR.frozen
  have zbR := bR.lt
  clear hx
  go_wp2
  refine bodyPost_ret (v := frv (⟨r1, r2, r3⟩, ok)) ?_ rfl ⟨rfl, ?_⟩
  · simp [results, Tryz.results45, go_sem, frv, Fr.v, Fr.none, cbA, zbA, cbB, zbB, cbR, zbR]
  · repeat' (with_reducible first | exact Ex.refl _ | assumption | refine Ex.alloc ?_ _ | refine Ex.drewN ?_ _ | refine Ex.drew ?_ | refine Ex.setCell ?_ (by simp <;> omega) _)
set_option maxRecDepth 10000 in
set_option maxHeartbeats 1000000 in
theorem fracMake_tot (re im den : Int) (w : World) : Calls Tryz.prog 74 #[.int .i64 re, .int .i64 im, .int .i64 den] w (TotF w) := by
  have k1 := fun w => l6In_q den 1 1000000000000000000 w
  have k2 := fun w => l6In_q re (-1000000000000000000) 1000000000000000000 w
  have k3 := fun w => l6In_q im (-1000000000000000000) 1000000000000000000 w
  have hw1 : IntKind.i64.wrap (0 - 1000000000000000000) = -1000000000000000000 := IntWalk.i64_in _ (by omega)
  have hw2 : IntKind.i64.wrap (-1000000000000000000) = -1000000000000000000 := IntWalk.i64_in _ (by omega)
  rcases g1 : inB2 den 1 1000000000000000000 with _ | _
  · rw [g1] at k1
    have K1 := Lib.hid k1
    have K2 := Lib.hid k2
    have K3 := Lib.hid k3
    clear k1 k2 k3
    go_enter Tryz.func74, Tryz.ntmps74
    go_wp2_with fail
    have bR := Box.new w #[.int .i64 0, .int .i64 0, .int .i64 0] 24
    have hE := (Ex.refl w).alloc (.cells #[.int .i64 0, .int .i64 0, .int .i64 0] 24)
    generalize w.alloc (.cells #[.int .i64 0, .int .i64 0, .int .i64 0] 24) = w0 at bR hE ⊢
    refine (K1.out _).mono ?_
    rintro e w1 ⟨rfl, rfl⟩
    have cR := bR.cell
    have zR := bR.lt
    have fR := bR.frozen
    go_wp2
    clear cR zR fR
    replace hE := exs3 hE (b := w.heap.size) (Nat.le_refl _) (.int .i64 0) (.int .i64 0) (.int .i64 0)
    replace bR := put3 bR (.int .i64 0) (.int .i64 0) (.int .i64 0)
    generalize ((w1.setCell ⟨w.heap.size, 0, none⟩ (.int .i64 0)).setCell ⟨w.heap.size, 1, none⟩ (.int .i64 0)).setCell ⟨w.heap.size, 2, none⟩ (.int .i64 0) = Y at bR hE ⊢
    have cR := bR.cell
    refine bodyPost_ret (v := .tuple #[.agg #[.int .i64 0, .int .i64 0, .int .i64 0], .bool false]) ?_ rfl ⟨0, 0, 0, false, rfl, hE⟩
    simp [results, Tryz.results74, go_sem, cR]
  rcases g2 : inB2 re (-1000000000000000000) 1000000000000000000 with _ | _
  · rw [g1] at k1
    have K1 := Lib.hid k1
    rw [g2] at k2
    have K2 := Lib.hid k2
    have K3 := Lib.hid k3
    clear k1 k2 k3
    go_enter Tryz.func74, Tryz.ntmps74
    go_wp2_with fail
    have bR := Box.new w #[.int .i64 0, .int .i64 0, .int .i64 0] 24
    have hE := (Ex.refl w).alloc (.cells #[.int .i64 0, .int .i64 0, .int .i64 0] 24)
    generalize w.alloc (.cells #[.int .i64 0, .int .i64 0, .int .i64 0] 24) = w0 at bR hE ⊢
    refine (K1.out _).mono ?_
    rintro e w1 ⟨rfl, rfl⟩
    go_wp2_with fail
    refine (K2.out _).mono ?_
    rintro e w1 ⟨rfl, rfl⟩
    have cR := bR.cell
    have zR := bR.lt
    have fR := bR.frozen
    go_wp2
    clear cR zR fR
    replace hE := exs3 hE (b := w.heap.size) (Nat.le_refl _) (.int .i64 0) (.int .i64 0) (.int .i64 0)
    replace bR := put3 bR (.int .i64 0) (.int .i64 0) (.int .i64 0)
    generalize ((w1.setCell ⟨w.heap.size, 0, none⟩ (.int .i64 0)).setCell ⟨w.heap.size, 1, none⟩ (.int .i64 0)).setCell ⟨w.heap.size, 2, none⟩ (.int .i64 0) = Y at bR hE ⊢
    have cR := bR.cell
    refine bodyPost_ret (v := .tuple #[.agg #[.int .i64 0, .int .i64 0, .int .i64 0], .bool false]) ?_ rfl ⟨0, 0, 0, false, rfl, hE⟩
    simp [results, Tryz.results74, go_sem, cR]
  rcases g3 : inB2 im (-1000000000000000000) 1000000000000000000 with _ | _
  · rw [g1] at k1
    have K1 := Lib.hid k1
    rw [g2] at k2
    have K2 := Lib.hid k2
    rw [g3] at k3
    have K3 := Lib.hid k3
    clear k1 k2 k3
    go_enter Tryz.func74, Tryz.ntmps74
    go_wp2_with fail
    have bR := Box.new w #[.int .i64 0, .int .i64 0, .int .i64 0] 24
    have hE := (Ex.refl w).alloc (.cells #[.int .i64 0, .int .i64 0, .int .i64 0] 24)
    generalize w.alloc (.cells #[.int .i64 0, .int .i64 0, .int .i64 0] 24) = w0 at bR hE ⊢
    refine (K1.out _).mono ?_
    rintro e w1 ⟨rfl, rfl⟩
    go_wp2_with fail
    refine (K2.out _).mono ?_
    rintro e w1 ⟨rfl, rfl⟩
    go_wp2_with fail
    refine (K3.out _).mono ?_
    rintro e w1 ⟨rfl, rfl⟩
    have cR := bR.cell
    have zR := bR.lt
    have fR := bR.frozen
    go_wp2
    clear cR zR fR
    replace hE := exs3 hE (b := w.heap.size) (Nat.le_refl _) (.int .i64 0) (.int .i64 0) (.int .i64 0)
    replace bR := put3 bR (.int .i64 0) (.int .i64 0) (.int .i64 0)
    generalize ((w1.setCell ⟨w.heap.size, 0, none⟩ (.int .i64 0)).setCell ⟨w.heap.size, 1, none⟩ (.int .i64 0)).setCell ⟨w.heap.size, 2, none⟩ (.int .i64 0) = Y at bR hE ⊢
    have cR := bR.cell
    refine bodyPost_ret (v := .tuple #[.agg #[.int .i64 0, .int .i64 0, .int .i64 0], .bool false]) ?_ rfl ⟨0, 0, 0, false, rfl, hE⟩
    simp [results, Tryz.results74, go_sem, cR]
  · have o1 := inB2_out g1
    have o2 := inB2_out g2
    have o3 := inB2_out g3
    rw [g1] at k1
    have K1 := Lib.hid k1
    rw [g2] at k2
    have K2 := Lib.hid k2
    rw [g3] at k3
    have K3 := Lib.hid k3
    clear k1 k2 k3
    go_enter Tryz.func74, Tryz.ntmps74
    go_wp2_with fail
    have bR := Box.new w #[.int .i64 0, .int .i64 0, .int .i64 0] 24
    have hE := (Ex.refl w).alloc (.cells #[.int .i64 0, .int .i64 0, .int .i64 0] 24)
    generalize w.alloc (.cells #[.int .i64 0, .int .i64 0, .int .i64 0] 24) = w0 at bR hE ⊢
    refine (K1.out _).mono ?_
    rintro e w1 ⟨rfl, rfl⟩
    go_wp2_with fail
    refine (K2.out _).mono ?_
    rintro e w1 ⟨rfl, rfl⟩
    go_wp2_with fail
    refine (K3.out _).mono ?_
    rintro e w1 ⟨rfl, rfl⟩
    go_wp2_with fail
    refine (FrGot.tot (l2Low_any re im den _ (by omega) (by omega) (by omega))).mono ?_
    rintro e w2 ⟨x1, x2, x3, ok, rfl, hx⟩
    replace hE := hE.trans hx
    replace bR := bR.ex hx
    have cR := bR.cell
    have zR := bR.lt
    have fR := bR.frozen
    go_wp2
    clear cR zR fR
    replace hE := exs3 hE (b := w.heap.size) (Nat.le_refl _) (.int .i64 x1) (.int .i64 x2) (.int .i64 x3)
    replace bR := put3 bR (.int .i64 x1) (.int .i64 x2) (.int .i64 x3)
    generalize ((w2.setCell ⟨w.heap.size, 0, none⟩ (.int .i64 x1)).setCell ⟨w.heap.size, 1, none⟩ (.int .i64 x2)).setCell ⟨w.heap.size, 2, none⟩ (.int .i64 x3) = Y at bR hE ⊢
    have cR := bR.cell
    refine bodyPost_ret (v := .tuple #[.agg #[.int .i64 x1, .int .i64 x2, .int .i64 x3], .bool ok]) ?_ rfl ⟨x1, x2, x3, ok, rfl, hE⟩
    simp [results, Tryz.results74, go_sem, cR]
set_option maxRecDepth 10000 in
set_option maxHeartbeats 1000000 in
theorem l4Twice_tot (n den : Int) (w : World) : Calls Tryz.prog 47 #[.int .i64 n, .int .i64 den] w (TotF w) := by
  have km := fun w => fracMake_tot (IntKind.i64.wrap (2 * n)) 0 den w
  generalize hm : IntKind.i64.wrap (2 * n) = m at km
  have KM := Lib.hid km
  clear km
  go_enter Tryz.func47, Tryz.ntmps47
  go_wp2_with fail
  refine (KM.out _).mono ?_
  rintro e w2 ⟨x1, x2, x3, ok, rfl, hx⟩
  have bR := (Box.new w #[.int .i64 0, .int .i64 0, .int .i64 0] 24).ex hx
  have hE := ((Ex.refl w).alloc (.cells #[.int .i64 0, .int .i64 0, .int .i64 0] 24)).trans hx
  have cR := bR.cell
  have zR := bR.lt
  have fR := bR.frozen
  go_wp2
  clear cR zR fR
  replace hE := exs3 hE (b := w.heap.size) (Nat.le_refl _) (.int .i64 x1) (.int .i64 x2) (.int .i64 x3)
  replace bR := put3 bR (.int .i64 x1) (.int .i64 x2) (.int .i64 x3)
  generalize ((w2.setCell ⟨w.heap.size, 0, none⟩ (.int .i64 x1)).setCell ⟨w.heap.size, 1, none⟩ (.int .i64 x2)).setCell ⟨w.heap.size, 2, none⟩ (.int .i64 x3) = Y at bR hE ⊢
  have cR := bR.cell
  refine bodyPost_ret (v := .tuple #[.agg #[.int .i64 x1, .int .i64 x2, .int .i64 x3], .bool ok]) ?_ rfl ⟨x1, x2, x3, ok, rfl, hE⟩
  simp [results, Tryz.results47, go_sem, cR]
set_option maxRecDepth 10000 in
set_option maxHeartbeats 4000000 in
theorem stokesOf_tot (x1 x2 x3 y1 y2 y3 : Int) (w : World) : Calls Tryz.prog 24 #[.agg #[.int .i64 x1, .int .i64 x2, .int .i64 x3, .int .i64 y1, .int .i64 y2, .int .i64 y3]] w (TotS w) := by
  have k1 : ∀ (a1 a2 a3 : Int) w, Calls Tryz.prog 42 #[.agg #[.int .i64 a1, .int .i64 a2, .int .i64 a3]] w (TotF w) := fun a1 a2 a3 w => FrGot.tot (sFracPower ⟨a1, a2, a3⟩ w)
  have k2 : ∀ (a1 a2 a3 : Int) w, Calls Tryz.prog 43 #[.agg #[.int .i64 a1, .int .i64 a2, .int .i64 a3]] w (TotF w) := fun a1 a2 a3 w => FrGot.tot (sFracMirror ⟨a1, a2, a3⟩ w)
  have k3 : ∀ (a1 a2 a3 b1 b2 b3 : Int) w, Calls Tryz.prog 44 #[.agg #[.int .i64 a1, .int .i64 a2, .int .i64 a3], .agg #[.int .i64 b1, .int .i64 b2, .int .i64 b3]] w (TotF w) := fun a1 a2 a3 b1 b2 b3 w => FrGot.tot (sFracTimes ⟨a1, a2, a3⟩ ⟨b1, b2, b3⟩ w)
  have k4 : ∀ (a1 a2 a3 b1 b2 b3 : Int) w, Calls Tryz.prog 45 #[.agg #[.int .i64 a1, .int .i64 a2, .int .i64 a3], .agg #[.int .i64 b1, .int .i64 b2, .int .i64 b3]] w (TotF w) := fun a1 a2 a3 b1 b2 b3 w => FrGot.tot (sFracAdd ⟨a1, a2, a3⟩ ⟨b1, b2, b3⟩ w)
  have k5 : ∀ (a1 a2 a3 b1 b2 b3 : Int) w, Calls Tryz.prog 46 #[.agg #[.int .i64 a1, .int .i64 a2, .int .i64 a3], .agg #[.int .i64 b1, .int .i64 b2, .int .i64 b3]] w (TotF w) := fun a1 a2 a3 b1 b2 b3 w => FrGot.tot (sFracLess ⟨a1, a2, a3⟩ ⟨b1, b2, b3⟩ w)
  have K1 := Lib.hid k1
  have K2 := Lib.hid k2
  have K3 := Lib.hid k3
  have K4 := Lib.hid k4
  have K5 := Lib.hid k5
  have K6 := Lib.hid l4Twice_tot
  clear k1 k2 k3 k4 k5
  go_enter Tryz.func24, Tryz.ntmps24
  go_wp2_with fail
  have bX := (Box.new w #[.int .i64 x1, .int .i64 x2, .int .i64 x3, .int .i64 y1, .int .i64 y2, .int .i64 y3] 52).alloc (.cells #[.int .i64 0, .int .i64 0, .int .i64 0, .int .i64 0, .int .i64 0, .int .i64 0, .int .i64 0, .int .i64 0, .int .i64 0, .int .i64 0, .int .i64 0, .int .i64 0] 27)
  have bR := Box.new (w.alloc (.cells #[.int .i64 x1, .int .i64 x2, .int .i64 x3, .int .i64 y1, .int .i64 y2, .int .i64 y3] 52)) #[.int .i64 0, .int .i64 0, .int .i64 0, .int .i64 0, .int .i64 0, .int .i64 0, .int .i64 0, .int .i64 0, .int .i64 0, .int .i64 0, .int .i64 0, .int .i64 0] 27
  rw [alloc_size1] at bR
  have hE := ((Ex.refl w).alloc (.cells #[.int .i64 x1, .int .i64 x2, .int .i64 x3, .int .i64 y1, .int .i64 y2, .int .i64 y3] 52)).alloc (.cells #[.int .i64 0, .int .i64 0, .int .i64 0, .int .i64 0, .int .i64 0, .int .i64 0, .int .i64 0, .int .i64 0, .int .i64 0, .int .i64 0, .int .i64 0, .int .i64 0] 27)
  refine (K1.out _ _ _ _).mono ?_
  rintro e w1 ⟨u1, u2, u3, p, rfl, hx⟩
  replace hE := hE.trans hx
  replace bX := bX.ex hx
  replace bR := bR.ex hx
  clear hx
  replace bX := bX.alloc (.cells #[.int .i64 u1, .int .i64 u2, .int .i64 u3] 24)
  replace bR := bR.alloc (.cells #[.int .i64 u1, .int .i64 u2, .int .i64 u3] 24)
  replace hE := hE.alloc (.cells #[.int .i64 u1, .int .i64 u2, .int .i64 u3] 24)
  have bu := Box.new w1 #[.int .i64 u1, .int .i64 u2, .int .i64 u3] 24
  have cbX := bX.cell
  go_wp2_with fail
  refine (K1.out _ _ _ _).mono ?_
  rintro e w2 ⟨v1, v2, v3, q, rfl, hx⟩
  clear cbX
  replace hE := hE.trans hx
  replace bX := bX.ex hx
  replace bR := bR.ex hx
  replace bu := bu.ex hx
  clear hx
  replace bX := bX.alloc (.cells #[.int .i64 v1, .int .i64 v2, .int .i64 v3] 24)
  replace bR := bR.alloc (.cells #[.int .i64 v1, .int .i64 v2, .int .i64 v3] 24)
  replace bu := bu.alloc (.cells #[.int .i64 v1, .int .i64 v2, .int .i64 v3] 24)
  replace hE := hE.alloc (.cells #[.int .i64 v1, .int .i64 v2, .int .i64 v3] 24)
  have bv := Box.new w2 #[.int .i64 v1, .int .i64 v2, .int .i64 v3] 24
  have cbX := bX.cell
  go_wp2_with fail
  refine (K2.out _ _ _ _).mono ?_
  rintro e w3 ⟨m1, m2, m3, r, rfl, hx⟩
  clear cbX
  replace hE := hE.trans hx
  replace bX := bX.ex hx
  replace bR := bR.ex hx
  replace bu := bu.ex hx
  replace bv := bv.ex hx
  clear hx
  replace bX := bX.alloc (.cells #[.int .i64 m1, .int .i64 m2, .int .i64 m3] 24)
  replace bR := bR.alloc (.cells #[.int .i64 m1, .int .i64 m2, .int .i64 m3] 24)
  replace bu := bu.alloc (.cells #[.int .i64 m1, .int .i64 m2, .int .i64 m3] 24)
  replace bv := bv.alloc (.cells #[.int .i64 m1, .int .i64 m2, .int .i64 m3] 24)
  replace hE := hE.alloc (.cells #[.int .i64 m1, .int .i64 m2, .int .i64 m3] 24)
  have bm := Box.new w3 #[.int .i64 m1, .int .i64 m2, .int .i64 m3] 24
  rcases p with _ | _
  · clear bX bu bv bm
    have cR := bR.cell
    have zR := bR.lt
    have fR := bR.frozen
    go_wp2
    clear cR zR fR
    replace hE := ex3 (ex3 (ex3 (ex3 (hE) (b := w.heap.size + 1) (by omega) 0 1 2 (.int .i64 0) (.int .i64 0) (.int .i64 0)) (b := w.heap.size + 1) (by omega) 3 4 5 (.int .i64 0) (.int .i64 0) (.int .i64 0)) (b := w.heap.size + 1) (by omega) 6 7 8 (.int .i64 0) (.int .i64 0) (.int .i64 0)) (b := w.heap.size + 1) (by omega) 9 10 11 (.int .i64 0) (.int .i64 0) (.int .i64 0)
    replace bR := put4_3 0 0 0 0 0 0 0 0 0 0 0 0 (put4_2 0 0 0 0 0 0 0 0 0 0 0 0 (put4_1 0 0 0 0 0 0 0 0 0 0 0 0 (put4_0 0 0 0 0 0 0 0 0 0 0 0 0 (bR))))
    generalize (((((((((((((w3.alloc (.cells #[.int .i64 m1, .int .i64 m2, .int .i64 m3] 24)).setCell ⟨w.heap.size + 1, 0, none⟩ (.int .i64 0)).setCell ⟨w.heap.size + 1, 1, none⟩ (.int .i64 0)).setCell ⟨w.heap.size + 1, 2, none⟩ (.int .i64 0)).setCell ⟨w.heap.size + 1, 3, none⟩ (.int .i64 0)).setCell ⟨w.heap.size + 1, 4, none⟩ (.int .i64 0)).setCell ⟨w.heap.size + 1, 5, none⟩ (.int .i64 0)).setCell ⟨w.heap.size + 1, 6, none⟩ (.int .i64 0)).setCell ⟨w.heap.size + 1, 7, none⟩ (.int .i64 0)).setCell ⟨w.heap.size + 1, 8, none⟩ (.int .i64 0)).setCell ⟨w.heap.size + 1, 9, none⟩ (.int .i64 0)).setCell ⟨w.heap.size + 1, 10, none⟩ (.int .i64 0)).setCell ⟨w.heap.size + 1, 11, none⟩ (.int .i64 0)) = Y at bR hE ⊢
    have cR := bR.cell
    refine bodyPost_ret (v := .tuple #[.agg #[.int .i64 0, .int .i64 0, .int .i64 0, .int .i64 0, .int .i64 0, .int .i64 0, .int .i64 0, .int .i64 0, .int .i64 0, .int .i64 0, .int .i64 0, .int .i64 0], .bool false]) ?_ rfl ⟨⟨0, 0, 0⟩, ⟨0, 0, 0⟩, ⟨0, 0, 0⟩, ⟨0, 0, 0⟩, false, rfl, hE⟩
    simp [results, Tryz.results24, go_sem, cR]
  rcases q with _ | _
  · clear bX bu bv bm
    have cR := bR.cell
    have zR := bR.lt
    have fR := bR.frozen
    go_wp2
    clear cR zR fR
    replace hE := ex3 (ex3 (ex3 (ex3 (hE) (b := w.heap.size + 1) (by omega) 0 1 2 (.int .i64 0) (.int .i64 0) (.int .i64 0)) (b := w.heap.size + 1) (by omega) 3 4 5 (.int .i64 0) (.int .i64 0) (.int .i64 0)) (b := w.heap.size + 1) (by omega) 6 7 8 (.int .i64 0) (.int .i64 0) (.int .i64 0)) (b := w.heap.size + 1) (by omega) 9 10 11 (.int .i64 0) (.int .i64 0) (.int .i64 0)
    replace bR := put4_3 0 0 0 0 0 0 0 0 0 0 0 0 (put4_2 0 0 0 0 0 0 0 0 0 0 0 0 (put4_1 0 0 0 0 0 0 0 0 0 0 0 0 (put4_0 0 0 0 0 0 0 0 0 0 0 0 0 (bR))))
    generalize (((((((((((((w3.alloc (.cells #[.int .i64 m1, .int .i64 m2, .int .i64 m3] 24)).setCell ⟨w.heap.size + 1, 0, none⟩ (.int .i64 0)).setCell ⟨w.heap.size + 1, 1, none⟩ (.int .i64 0)).setCell ⟨w.heap.size + 1, 2, none⟩ (.int .i64 0)).setCell ⟨w.heap.size + 1, 3, none⟩ (.int .i64 0)).setCell ⟨w.heap.size + 1, 4, none⟩ (.int .i64 0)).setCell ⟨w.heap.size + 1, 5, none⟩ (.int .i64 0)).setCell ⟨w.heap.size + 1, 6, none⟩ (.int .i64 0)).setCell ⟨w.heap.size + 1, 7, none⟩ (.int .i64 0)).setCell ⟨w.heap.size + 1, 8, none⟩ (.int .i64 0)).setCell ⟨w.heap.size + 1, 9, none⟩ (.int .i64 0)).setCell ⟨w.heap.size + 1, 10, none⟩ (.int .i64 0)).setCell ⟨w.heap.size + 1, 11, none⟩ (.int .i64 0)) = Y at bR hE ⊢
    have cR := bR.cell
    refine bodyPost_ret (v := .tuple #[.agg #[.int .i64 0, .int .i64 0, .int .i64 0, .int .i64 0, .int .i64 0, .int .i64 0, .int .i64 0, .int .i64 0, .int .i64 0, .int .i64 0, .int .i64 0, .int .i64 0], .bool false]) ?_ rfl ⟨⟨0, 0, 0⟩, ⟨0, 0, 0⟩, ⟨0, 0, 0⟩, ⟨0, 0, 0⟩, false, rfl, hE⟩
    simp [results, Tryz.results24, go_sem, cR]
  rcases r with _ | _
  · clear bX bu bv bm
    have cR := bR.cell
    have zR := bR.lt
    have fR := bR.frozen
    go_wp2
    clear cR zR fR
    replace hE := ex3 (ex3 (ex3 (ex3 (hE) (b := w.heap.size + 1) (by omega) 0 1 2 (.int .i64 0) (.int .i64 0) (.int .i64 0)) (b := w.heap.size + 1) (by omega) 3 4 5 (.int .i64 0) (.int .i64 0) (.int .i64 0)) (b := w.heap.size + 1) (by omega) 6 7 8 (.int .i64 0) (.int .i64 0) (.int .i64 0)) (b := w.heap.size + 1) (by omega) 9 10 11 (.int .i64 0) (.int .i64 0) (.int .i64 0)
    replace bR := put4_3 0 0 0 0 0 0 0 0 0 0 0 0 (put4_2 0 0 0 0 0 0 0 0 0 0 0 0 (put4_1 0 0 0 0 0 0 0 0 0 0 0 0 (put4_0 0 0 0 0 0 0 0 0 0 0 0 0 (bR))))
    generalize (((((((((((((w3.alloc (.cells #[.int .i64 m1, .int .i64 m2, .int .i64 m3] 24)).setCell ⟨w.heap.size + 1, 0, none⟩ (.int .i64 0)).setCell ⟨w.heap.size + 1, 1, none⟩ (.int .i64 0)).setCell ⟨w.heap.size + 1, 2, none⟩ (.int .i64 0)).setCell ⟨w.heap.size + 1, 3, none⟩ (.int .i64 0)).setCell ⟨w.heap.size + 1, 4, none⟩ (.int .i64 0)).setCell ⟨w.heap.size + 1, 5, none⟩ (.int .i64 0)).setCell ⟨w.heap.size + 1, 6, none⟩ (.int .i64 0)).setCell ⟨w.heap.size + 1, 7, none⟩ (.int .i64 0)).setCell ⟨w.heap.size + 1, 8, none⟩ (.int .i64 0)).setCell ⟨w.heap.size + 1, 9, none⟩ (.int .i64 0)).setCell ⟨w.heap.size + 1, 10, none⟩ (.int .i64 0)).setCell ⟨w.heap.size + 1, 11, none⟩ (.int .i64 0)) = Y at bR hE ⊢
    have cR := bR.cell
    refine bodyPost_ret (v := .tuple #[.agg #[.int .i64 0, .int .i64 0, .int .i64 0, .int .i64 0, .int .i64 0, .int .i64 0, .int .i64 0, .int .i64 0, .int .i64 0, .int .i64 0, .int .i64 0, .int .i64 0], .bool false]) ?_ rfl ⟨⟨0, 0, 0⟩, ⟨0, 0, 0⟩, ⟨0, 0, 0⟩, ⟨0, 0, 0⟩, false, rfl, hE⟩
    simp [results, Tryz.results24, go_sem, cR]
  have cbX := bX.cell
  have cbm := bm.cell
  go_wp2_with fail
  refine (K3.out _ _ _ _ _ _ _).mono ?_
  rintro e w4 ⟨c1, c2, c3, t, rfl, hx⟩
  clear cbX cbm
  replace hE := hE.trans hx
  replace bX := bX.ex hx
  replace bR := bR.ex hx
  replace bu := bu.ex hx
  replace bv := bv.ex hx
  replace bm := bm.ex hx
  clear hx
  replace bX := bX.alloc (.cells #[.int .i64 c1, .int .i64 c2, .int .i64 c3] 24)
  replace bR := bR.alloc (.cells #[.int .i64 c1, .int .i64 c2, .int .i64 c3] 24)
  replace bu := bu.alloc (.cells #[.int .i64 c1, .int .i64 c2, .int .i64 c3] 24)
  replace bv := bv.alloc (.cells #[.int .i64 c1, .int .i64 c2, .int .i64 c3] 24)
  replace bm := bm.alloc (.cells #[.int .i64 c1, .int .i64 c2, .int .i64 c3] 24)
  replace hE := hE.alloc (.cells #[.int .i64 c1, .int .i64 c2, .int .i64 c3] 24)
  have bc := Box.new w4 #[.int .i64 c1, .int .i64 c2, .int .i64 c3] 24
  have cbu := bu.cell
  have cbv := bv.cell
  go_wp2_with fail
  refine (K4.out _ _ _ _ _ _ _).mono ?_
  rintro e w5 ⟨s1, s2, s3, aa, rfl, hx⟩
  clear cbu cbv
  replace hE := hE.trans hx
  replace bX := bX.ex hx
  replace bR := bR.ex hx
  replace bu := bu.ex hx
  replace bv := bv.ex hx
  replace bm := bm.ex hx
  replace bc := bc.ex hx
  clear hx
  replace bX := bX.alloc (.cells #[.int .i64 s1, .int .i64 s2, .int .i64 s3] 24)
  replace bR := bR.alloc (.cells #[.int .i64 s1, .int .i64 s2, .int .i64 s3] 24)
  replace bu := bu.alloc (.cells #[.int .i64 s1, .int .i64 s2, .int .i64 s3] 24)
  replace bv := bv.alloc (.cells #[.int .i64 s1, .int .i64 s2, .int .i64 s3] 24)
  replace bm := bm.alloc (.cells #[.int .i64 s1, .int .i64 s2, .int .i64 s3] 24)
  replace bc := bc.alloc (.cells #[.int .i64 s1, .int .i64 s2, .int .i64 s3] 24)
  replace hE := hE.alloc (.cells #[.int .i64 s1, .int .i64 s2, .int .i64 s3] 24)
  have bs := Box.new w5 #[.int .i64 s1, .int .i64 s2, .int .i64 s3] 24
  have cbu := bu.cell
  have cbv := bv.cell
  go_wp2_with fail
  refine (K5.out _ _ _ _ _ _ _).mono ?_
  rintro e w6 ⟨l1, l2, l3, bb, rfl, hx⟩
  clear cbu cbv
  replace hE := hE.trans hx
  replace bX := bX.ex hx
  replace bR := bR.ex hx
  replace bu := bu.ex hx
  replace bv := bv.ex hx
  replace bm := bm.ex hx
  replace bc := bc.ex hx
  replace bs := bs.ex hx
  clear hx
  replace bX := bX.alloc (.cells #[.int .i64 l1, .int .i64 l2, .int .i64 l3] 24)
  replace bR := bR.alloc (.cells #[.int .i64 l1, .int .i64 l2, .int .i64 l3] 24)
  replace bu := bu.alloc (.cells #[.int .i64 l1, .int .i64 l2, .int .i64 l3] 24)
  replace bv := bv.alloc (.cells #[.int .i64 l1, .int .i64 l2, .int .i64 l3] 24)
  replace bm := bm.alloc (.cells #[.int .i64 l1, .int .i64 l2, .int .i64 l3] 24)
  replace bc := bc.alloc (.cells #[.int .i64 l1, .int .i64 l2, .int .i64 l3] 24)
  replace bs := bs.alloc (.cells #[.int .i64 l1, .int .i64 l2, .int .i64 l3] 24)
  replace hE := hE.alloc (.cells #[.int .i64 l1, .int .i64 l2, .int .i64 l3] 24)
  have bl := Box.new w6 #[.int .i64 l1, .int .i64 l2, .int .i64 l3] 24
  rcases t with _ | _
  · clear bX bu bv bm bc bs bl
    have cR := bR.cell
    have zR := bR.lt
    have fR := bR.frozen
    go_wp2
    clear cR zR fR
    replace hE := ex3 (ex3 (ex3 (ex3 (hE) (b := w.heap.size + 1) (by omega) 0 1 2 (.int .i64 0) (.int .i64 0) (.int .i64 0)) (b := w.heap.size + 1) (by omega) 3 4 5 (.int .i64 0) (.int .i64 0) (.int .i64 0)) (b := w.heap.size + 1) (by omega) 6 7 8 (.int .i64 0) (.int .i64 0) (.int .i64 0)) (b := w.heap.size + 1) (by omega) 9 10 11 (.int .i64 0) (.int .i64 0) (.int .i64 0)
    replace bR := put4_3 0 0 0 0 0 0 0 0 0 0 0 0 (put4_2 0 0 0 0 0 0 0 0 0 0 0 0 (put4_1 0 0 0 0 0 0 0 0 0 0 0 0 (put4_0 0 0 0 0 0 0 0 0 0 0 0 0 (bR))))
    generalize (((((((((((((w6.alloc (.cells #[.int .i64 l1, .int .i64 l2, .int .i64 l3] 24)).setCell ⟨w.heap.size + 1, 0, none⟩ (.int .i64 0)).setCell ⟨w.heap.size + 1, 1, none⟩ (.int .i64 0)).setCell ⟨w.heap.size + 1, 2, none⟩ (.int .i64 0)).setCell ⟨w.heap.size + 1, 3, none⟩ (.int .i64 0)).setCell ⟨w.heap.size + 1, 4, none⟩ (.int .i64 0)).setCell ⟨w.heap.size + 1, 5, none⟩ (.int .i64 0)).setCell ⟨w.heap.size + 1, 6, none⟩ (.int .i64 0)).setCell ⟨w.heap.size + 1, 7, none⟩ (.int .i64 0)).setCell ⟨w.heap.size + 1, 8, none⟩ (.int .i64 0)).setCell ⟨w.heap.size + 1, 9, none⟩ (.int .i64 0)).setCell ⟨w.heap.size + 1, 10, none⟩ (.int .i64 0)).setCell ⟨w.heap.size + 1, 11, none⟩ (.int .i64 0)) = Y at bR hE ⊢
    have cR := bR.cell
    refine bodyPost_ret (v := .tuple #[.agg #[.int .i64 0, .int .i64 0, .int .i64 0, .int .i64 0, .int .i64 0, .int .i64 0, .int .i64 0, .int .i64 0, .int .i64 0, .int .i64 0, .int .i64 0, .int .i64 0], .bool false]) ?_ rfl ⟨⟨0, 0, 0⟩, ⟨0, 0, 0⟩, ⟨0, 0, 0⟩, ⟨0, 0, 0⟩, false, rfl, hE⟩
    simp [results, Tryz.results24, go_sem, cR]
  rcases aa with _ | _
  · clear bX bu bv bm bc bs bl
    have cR := bR.cell
    have zR := bR.lt
    have fR := bR.frozen
    go_wp2
    clear cR zR fR
    replace hE := ex3 (ex3 (ex3 (ex3 (hE) (b := w.heap.size + 1) (by omega) 0 1 2 (.int .i64 0) (.int .i64 0) (.int .i64 0)) (b := w.heap.size + 1) (by omega) 3 4 5 (.int .i64 0) (.int .i64 0) (.int .i64 0)) (b := w.heap.size + 1) (by omega) 6 7 8 (.int .i64 0) (.int .i64 0) (.int .i64 0)) (b := w.heap.size + 1) (by omega) 9 10 11 (.int .i64 0) (.int .i64 0) (.int .i64 0)
    replace bR := put4_3 0 0 0 0 0 0 0 0 0 0 0 0 (put4_2 0 0 0 0 0 0 0 0 0 0 0 0 (put4_1 0 0 0 0 0 0 0 0 0 0 0 0 (put4_0 0 0 0 0 0 0 0 0 0 0 0 0 (bR))))
    generalize (((((((((((((w6.alloc (.cells #[.int .i64 l1, .int .i64 l2, .int .i64 l3] 24)).setCell ⟨w.heap.size + 1, 0, none⟩ (.int .i64 0)).setCell ⟨w.heap.size + 1, 1, none⟩ (.int .i64 0)).setCell ⟨w.heap.size + 1, 2, none⟩ (.int .i64 0)).setCell ⟨w.heap.size + 1, 3, none⟩ (.int .i64 0)).setCell ⟨w.heap.size + 1, 4, none⟩ (.int .i64 0)).setCell ⟨w.heap.size + 1, 5, none⟩ (.int .i64 0)).setCell ⟨w.heap.size + 1, 6, none⟩ (.int .i64 0)).setCell ⟨w.heap.size + 1, 7, none⟩ (.int .i64 0)).setCell ⟨w.heap.size + 1, 8, none⟩ (.int .i64 0)).setCell ⟨w.heap.size + 1, 9, none⟩ (.int .i64 0)).setCell ⟨w.heap.size + 1, 10, none⟩ (.int .i64 0)).setCell ⟨w.heap.size + 1, 11, none⟩ (.int .i64 0)) = Y at bR hE ⊢
    have cR := bR.cell
    refine bodyPost_ret (v := .tuple #[.agg #[.int .i64 0, .int .i64 0, .int .i64 0, .int .i64 0, .int .i64 0, .int .i64 0, .int .i64 0, .int .i64 0, .int .i64 0, .int .i64 0, .int .i64 0, .int .i64 0], .bool false]) ?_ rfl ⟨⟨0, 0, 0⟩, ⟨0, 0, 0⟩, ⟨0, 0, 0⟩, ⟨0, 0, 0⟩, false, rfl, hE⟩
    simp [results, Tryz.results24, go_sem, cR]
  rcases bb with _ | _
  · clear bX bu bv bm bc bs bl
    have cR := bR.cell
    have zR := bR.lt
    have fR := bR.frozen
    go_wp2
    clear cR zR fR
    replace hE := ex3 (ex3 (ex3 (ex3 (hE) (b := w.heap.size + 1) (by omega) 0 1 2 (.int .i64 0) (.int .i64 0) (.int .i64 0)) (b := w.heap.size + 1) (by omega) 3 4 5 (.int .i64 0) (.int .i64 0) (.int .i64 0)) (b := w.heap.size + 1) (by omega) 6 7 8 (.int .i64 0) (.int .i64 0) (.int .i64 0)) (b := w.heap.size + 1) (by omega) 9 10 11 (.int .i64 0) (.int .i64 0) (.int .i64 0)
    replace bR := put4_3 0 0 0 0 0 0 0 0 0 0 0 0 (put4_2 0 0 0 0 0 0 0 0 0 0 0 0 (put4_1 0 0 0 0 0 0 0 0 0 0 0 0 (put4_0 0 0 0 0 0 0 0 0 0 0 0 0 (bR))))
    generalize (((((((((((((w6.alloc (.cells #[.int .i64 l1, .int .i64 l2, .int .i64 l3] 24)).setCell ⟨w.heap.size + 1, 0, none⟩ (.int .i64 0)).setCell ⟨w.heap.size + 1, 1, none⟩ (.int .i64 0)).setCell ⟨w.heap.size + 1, 2, none⟩ (.int .i64 0)).setCell ⟨w.heap.size + 1, 3, none⟩ (.int .i64 0)).setCell ⟨w.heap.size + 1, 4, none⟩ (.int .i64 0)).setCell ⟨w.heap.size + 1, 5, none⟩ (.int .i64 0)).setCell ⟨w.heap.size + 1, 6, none⟩ (.int .i64 0)).setCell ⟨w.heap.size + 1, 7, none⟩ (.int .i64 0)).setCell ⟨w.heap.size + 1, 8, none⟩ (.int .i64 0)).setCell ⟨w.heap.size + 1, 9, none⟩ (.int .i64 0)).setCell ⟨w.heap.size + 1, 10, none⟩ (.int .i64 0)).setCell ⟨w.heap.size + 1, 11, none⟩ (.int .i64 0)) = Y at bR hE ⊢
    have cR := bR.cell
    refine bodyPost_ret (v := .tuple #[.agg #[.int .i64 0, .int .i64 0, .int .i64 0, .int .i64 0, .int .i64 0, .int .i64 0, .int .i64 0, .int .i64 0, .int .i64 0, .int .i64 0, .int .i64 0, .int .i64 0], .bool false]) ?_ rfl ⟨⟨0, 0, 0⟩, ⟨0, 0, 0⟩, ⟨0, 0, 0⟩, ⟨0, 0, 0⟩, false, rfl, hE⟩
    simp [results, Tryz.results24, go_sem, cR]
  clear bX
  clear bu
  clear bv
  clear bm
  have cbc := bc.cell
  go_wp2_with fail
  refine (K6.out _ _ _).mono ?_
  rintro e w7 ⟨f1, f2, f3, cc, rfl, hx⟩
  clear cbc
  replace hE := hE.trans hx
  replace bR := bR.ex hx
  replace bc := bc.ex hx
  replace bs := bs.ex hx
  replace bl := bl.ex hx
  clear hx
  replace bR := bR.alloc (.cells #[.int .i64 f1, .int .i64 f2, .int .i64 f3] 24)
  replace bc := bc.alloc (.cells #[.int .i64 f1, .int .i64 f2, .int .i64 f3] 24)
  replace bs := bs.alloc (.cells #[.int .i64 f1, .int .i64 f2, .int .i64 f3] 24)
  replace bl := bl.alloc (.cells #[.int .i64 f1, .int .i64 f2, .int .i64 f3] 24)
  replace hE := hE.alloc (.cells #[.int .i64 f1, .int .i64 f2, .int .i64 f3] 24)
  have bf := Box.new w7 #[.int .i64 f1, .int .i64 f2, .int .i64 f3] 24
  have cbc := bc.cell
  go_wp2_with fail
  refine (K6.out _ _ _).mono ?_
  rintro e w8 ⟨g1, g2, g3, dd, rfl, hx⟩
  clear cbc
  replace hE := hE.trans hx
  replace bR := bR.ex hx
  replace bc := bc.ex hx
  replace bs := bs.ex hx
  replace bl := bl.ex hx
  replace bf := bf.ex hx
  clear hx
  replace bR := bR.alloc (.cells #[.int .i64 g1, .int .i64 g2, .int .i64 g3] 24)
  replace bc := bc.alloc (.cells #[.int .i64 g1, .int .i64 g2, .int .i64 g3] 24)
  replace bs := bs.alloc (.cells #[.int .i64 g1, .int .i64 g2, .int .i64 g3] 24)
  replace bl := bl.alloc (.cells #[.int .i64 g1, .int .i64 g2, .int .i64 g3] 24)
  replace bf := bf.alloc (.cells #[.int .i64 g1, .int .i64 g2, .int .i64 g3] 24)
  replace hE := hE.alloc (.cells #[.int .i64 g1, .int .i64 g2, .int .i64 g3] 24)
  have bg := Box.new w8 #[.int .i64 g1, .int .i64 g2, .int .i64 g3] 24
  rcases cc with _ | _
  · clear bc bs bl bf bg
    have cR := bR.cell
    have zR := bR.lt
    have fR := bR.frozen
    go_wp2
    clear cR zR fR
    replace hE := ex3 (ex3 (ex3 (ex3 (hE) (b := w.heap.size + 1) (by omega) 0 1 2 (.int .i64 0) (.int .i64 0) (.int .i64 0)) (b := w.heap.size + 1) (by omega) 3 4 5 (.int .i64 0) (.int .i64 0) (.int .i64 0)) (b := w.heap.size + 1) (by omega) 6 7 8 (.int .i64 0) (.int .i64 0) (.int .i64 0)) (b := w.heap.size + 1) (by omega) 9 10 11 (.int .i64 0) (.int .i64 0) (.int .i64 0)
    replace bR := put4_3 0 0 0 0 0 0 0 0 0 0 0 0 (put4_2 0 0 0 0 0 0 0 0 0 0 0 0 (put4_1 0 0 0 0 0 0 0 0 0 0 0 0 (put4_0 0 0 0 0 0 0 0 0 0 0 0 0 (bR))))
    generalize (((((((((((((w8.alloc (.cells #[.int .i64 g1, .int .i64 g2, .int .i64 g3] 24)).setCell ⟨w.heap.size + 1, 0, none⟩ (.int .i64 0)).setCell ⟨w.heap.size + 1, 1, none⟩ (.int .i64 0)).setCell ⟨w.heap.size + 1, 2, none⟩ (.int .i64 0)).setCell ⟨w.heap.size + 1, 3, none⟩ (.int .i64 0)).setCell ⟨w.heap.size + 1, 4, none⟩ (.int .i64 0)).setCell ⟨w.heap.size + 1, 5, none⟩ (.int .i64 0)).setCell ⟨w.heap.size + 1, 6, none⟩ (.int .i64 0)).setCell ⟨w.heap.size + 1, 7, none⟩ (.int .i64 0)).setCell ⟨w.heap.size + 1, 8, none⟩ (.int .i64 0)).setCell ⟨w.heap.size + 1, 9, none⟩ (.int .i64 0)).setCell ⟨w.heap.size + 1, 10, none⟩ (.int .i64 0)).setCell ⟨w.heap.size + 1, 11, none⟩ (.int .i64 0)) = Y at bR hE ⊢
    have cR := bR.cell
    refine bodyPost_ret (v := .tuple #[.agg #[.int .i64 0, .int .i64 0, .int .i64 0, .int .i64 0, .int .i64 0, .int .i64 0, .int .i64 0, .int .i64 0, .int .i64 0, .int .i64 0, .int .i64 0, .int .i64 0], .bool false]) ?_ rfl ⟨⟨0, 0, 0⟩, ⟨0, 0, 0⟩, ⟨0, 0, 0⟩, ⟨0, 0, 0⟩, false, rfl, hE⟩
    simp [results, Tryz.results24, go_sem, cR]
  rcases dd with _ | _
  · clear bc bs bl bf bg
    have cR := bR.cell
    have zR := bR.lt
    have fR := bR.frozen
    go_wp2
    clear cR zR fR
    replace hE := ex3 (ex3 (ex3 (ex3 (hE) (b := w.heap.size + 1) (by omega) 0 1 2 (.int .i64 0) (.int .i64 0) (.int .i64 0)) (b := w.heap.size + 1) (by omega) 3 4 5 (.int .i64 0) (.int .i64 0) (.int .i64 0)) (b := w.heap.size + 1) (by omega) 6 7 8 (.int .i64 0) (.int .i64 0) (.int .i64 0)) (b := w.heap.size + 1) (by omega) 9 10 11 (.int .i64 0) (.int .i64 0) (.int .i64 0)
    replace bR := put4_3 0 0 0 0 0 0 0 0 0 0 0 0 (put4_2 0 0 0 0 0 0 0 0 0 0 0 0 (put4_1 0 0 0 0 0 0 0 0 0 0 0 0 (put4_0 0 0 0 0 0 0 0 0 0 0 0 0 (bR))))
    generalize (((((((((((((w8.alloc (.cells #[.int .i64 g1, .int .i64 g2, .int .i64 g3] 24)).setCell ⟨w.heap.size + 1, 0, none⟩ (.int .i64 0)).setCell ⟨w.heap.size + 1, 1, none⟩ (.int .i64 0)).setCell ⟨w.heap.size + 1, 2, none⟩ (.int .i64 0)).setCell ⟨w.heap.size + 1, 3, none⟩ (.int .i64 0)).setCell ⟨w.heap.size + 1, 4, none⟩ (.int .i64 0)).setCell ⟨w.heap.size + 1, 5, none⟩ (.int .i64 0)).setCell ⟨w.heap.size + 1, 6, none⟩ (.int .i64 0)).setCell ⟨w.heap.size + 1, 7, none⟩ (.int .i64 0)).setCell ⟨w.heap.size + 1, 8, none⟩ (.int .i64 0)).setCell ⟨w.heap.size + 1, 9, none⟩ (.int .i64 0)).setCell ⟨w.heap.size + 1, 10, none⟩ (.int .i64 0)).setCell ⟨w.heap.size + 1, 11, none⟩ (.int .i64 0)) = Y at bR hE ⊢
    have cR := bR.cell
    refine bodyPost_ret (v := .tuple #[.agg #[.int .i64 0, .int .i64 0, .int .i64 0, .int .i64 0, .int .i64 0, .int .i64 0, .int .i64 0, .int .i64 0, .int .i64 0, .int .i64 0, .int .i64 0, .int .i64 0], .bool false]) ?_ rfl ⟨⟨0, 0, 0⟩, ⟨0, 0, 0⟩, ⟨0, 0, 0⟩, ⟨0, 0, 0⟩, false, rfl, hE⟩
    simp [results, Tryz.results24, go_sem, cR]
  have cbs := bs.cell
  have cbl := bl.cell
  have cbf := bf.cell
  have cbg := bg.cell
  have cR := bR.cell
  have zR := bR.lt
  have fR := bR.frozen
  go_wp2
  clear cR zR fR
  replace hE := ex3 (ex3 (ex3 (ex3 (hE) (b := w.heap.size + 1) (by omega) 0 1 2 (.int .i64 s1) (.int .i64 s2) (.int .i64 s3)) (b := w.heap.size + 1) (by omega) 3 4 5 (.int .i64 l1) (.int .i64 l2) (.int .i64 l3)) (b := w.heap.size + 1) (by omega) 6 7 8 (.int .i64 f1) (.int .i64 f2) (.int .i64 f3)) (b := w.heap.size + 1) (by omega) 9 10 11 (.int .i64 g1) (.int .i64 g2) (.int .i64 g3)
  replace bR := put4_3 s1 s2 s3 l1 l2 l3 f1 f2 f3 g1 g2 g3 (put4_2 s1 s2 s3 l1 l2 l3 f1 f2 f3 g1 g2 g3 (put4_1 s1 s2 s3 l1 l2 l3 f1 f2 f3 g1 g2 g3 (put4_0 s1 s2 s3 l1 l2 l3 f1 f2 f3 g1 g2 g3 (bR))))
  clear cbs cbl cbf cbg
  generalize (((((((((((((w8.alloc (.cells #[.int .i64 g1, .int .i64 g2, .int .i64 g3] 24)).setCell ⟨w.heap.size + 1, 0, none⟩ (.int .i64 s1)).setCell ⟨w.heap.size + 1, 1, none⟩ (.int .i64 s2)).setCell ⟨w.heap.size + 1, 2, none⟩ (.int .i64 s3)).setCell ⟨w.heap.size + 1, 3, none⟩ (.int .i64 l1)).setCell ⟨w.heap.size + 1, 4, none⟩ (.int .i64 l2)).setCell ⟨w.heap.size + 1, 5, none⟩ (.int .i64 l3)).setCell ⟨w.heap.size + 1, 6, none⟩ (.int .i64 f1)).setCell ⟨w.heap.size + 1, 7, none⟩ (.int .i64 f2)).setCell ⟨w.heap.size + 1, 8, none⟩ (.int .i64 f3)).setCell ⟨w.heap.size + 1, 9, none⟩ (.int .i64 g1)).setCell ⟨w.heap.size + 1, 10, none⟩ (.int .i64 g2)).setCell ⟨w.heap.size + 1, 11, none⟩ (.int .i64 g3)) = Y at bR hE ⊢
  have cR := bR.cell
  refine bodyPost_ret (v := .tuple #[.agg #[.int .i64 s1, .int .i64 s2, .int .i64 s3, .int .i64 l1, .int .i64 l2, .int .i64 l3, .int .i64 f1, .int .i64 f2, .int .i64 f3, .int .i64 g1, .int .i64 g2, .int .i64 g3], .bool true]) ?_ rfl ⟨⟨s1, s2, s3⟩, ⟨l1, l2, l3⟩, ⟨f1, f2, f3⟩, ⟨g1, g2, g3⟩, true, rfl, hE⟩
  simp [results, Tryz.results24, go_sem, cR]
end Go.Proofs.YtklkfkgpjjpaiaaGreatDoor
