/-
  Proved: what functions compute, part 39. No condition.
-/
import Derived.Test.YtmmjkchjgeklnaaGreatDoorK37
import Derived.Test.YtmmjkchjgeklnaaGreatDoorK06
import Derived.Test.YtmmjkchjgeklnaaGreatDoorK27
import Derived.Test.YtmmjkchjgeklnaaGreatDoorK17
import Derived.Deep.RegionHeld3
import Derived.Deep.DeepCutAuto
set_option linter.unusedSimpArgs false
set_option linter.unusedVariables false
set_option maxRecDepth 20000
set_option maxHeartbeats 8000000
namespace Go.Proofs.YtmmjkchjgeklnaaGreatDoor
section
open Go.RowKit

theorem put3 {W : World} {b : Nat} {t : TypeId} {x y z : Value} (h : Box W b t #[x, y, z]) (u v s : Value) : Box (((W.setCell ⟨b, 0, none⟩ u).setCell ⟨b, 1, none⟩ v).setCell ⟨b, 2, none⟩ s) b t #[u, v, s] := by
 have h2 := ((h.set_ 0 u).set_ 1 v).set_ 2 s
 simpa using h2
theorem exs3 {w W : World} (h : Ex w W) {b : Nat} (hb : w.heap.size ≤ b) (u v x : Value) : Ex w (((W.setCell ⟨b, 0, none⟩ u).setCell ⟨b, 1, none⟩ v).setCell ⟨b, 2, none⟩ x) :=
 ((h.setCell (p := ⟨b, 0, none⟩) hb u).setCell (p := ⟨b, 1, none⟩) hb v).setCell (p := ⟨b, 2, none⟩) hb x
def TotF (w : World) : Ending → World → Prop := fun e w' => ∃ (r1 r2 r3 : Int) (ok : Bool), e = .returned (.tuple #[.agg #[.int .i64 r1, .int .i64 r2, .int .i64 r3], .bool ok]) ∧ Ex w w'
theorem Yu.tot {f : Nat} {args : Array Value} {w : World} {r : Fr × Bool} (h : Calls Tryz.prog f args w (Yu w r)) : Calls Tryz.prog f args w (TotF w) := by
 obtain ⟨⟨r1, r2, r3⟩, ok⟩ := r
 exact (Yu.spell h).mono fun e w' ⟨h1, h2⟩ => ⟨r1, r2, r3, ok, h1, h2⟩
def TotS (w : World) : Ending → World → Prop := fun e w' => ∃ (a b c d : Fr) (ok : Bool), e = .returned (.tuple #[Sv a b c d, .bool ok]) ∧ Ex w w'
theorem fracMake_tot (re im den : Int) (w : World) : Calls Tryz.prog 139 #[.int .i64 re, .int .i64 im, .int .i64 den] w (TotF w) := by
 have k1 := fun w => Vp den 1 1000000000000000000 w
 have k2 := fun w => Vp re (-1000000000000000000) 1000000000000000000 w
 have k3 := fun w => Vp im (-1000000000000000000) 1000000000000000000 w
 have hw1 : IntKind.i64.wrap (0 - 1000000000000000000) = -1000000000000000000 := Gp _ (by omega)
 have hw2 : IntKind.i64.wrap (-1000000000000000000) = -1000000000000000000 := Gp _ (by omega)
 rcases g1 : Xs den 1 1000000000000000000 with _ | _
 ·rw [g1] at k1
  have K1 := Gv k1
  have K2 := Gv k2
  have K3 := Gv k3
  clear k1 k2 k3
  go_enter Tryz.func139, Tryz.ntmps139
  go_wp2_with fail
  have bR := Box.new w #[.int .i64 0, .int .i64 0, .int .i64 0] 32
  have hE := (Ex.refl w).alloc (.cells #[.int .i64 0, .int .i64 0, .int .i64 0] 32)
  generalize w.alloc (.cells #[.int .i64 0, .int .i64 0, .int .i64 0] 32) = w0 at bR hE ⊢
  refine (K1.out _).mono ?_
  rintro e w1 ⟨rfl, rfl⟩
  have cR := bR.cell
  have zR := bR.lt
  have fR := bR.frozen
  go_wp2
  clear cR zR fR
  replace hE := exs3 hE (b := w.heap.size) (Nat.le_refl _) (.int .i64 0) (.int .i64 0) (.int .i64 0)
  replace bR := put3 bR (.int .i64 0) (.int .i64 0) (.int .i64 0)
  generalize ((w1.setCell ⟨w.heap.size, 0, none⟩ (.int .i64 0)).setCell ⟨w.heap.size, 1, none⟩ (.int .i64 0)).setCell ⟨w.heap.size, 2, none⟩ (.int .i64 0) = Y at bR hE ⊢
  have cR := bR.cell
  refine Gq (v := .tuple #[.agg #[.int .i64 0, .int .i64 0, .int .i64 0], .bool false]) ?_ rfl ⟨0, 0, 0, false, rfl, hE⟩
  simp [results, Tryz.results139, go_sem, cR]
 rcases g2 : Xs re (-1000000000000000000) 1000000000000000000 with _ | _
 ·rw [g1] at k1
  have K1 := Gv k1
  rw [g2] at k2
  have K2 := Gv k2
  have K3 := Gv k3
  clear k1 k2 k3
  go_enter Tryz.func139, Tryz.ntmps139
  go_wp2_with fail
  have bR := Box.new w #[.int .i64 0, .int .i64 0, .int .i64 0] 32
  have hE := (Ex.refl w).alloc (.cells #[.int .i64 0, .int .i64 0, .int .i64 0] 32)
  generalize w.alloc (.cells #[.int .i64 0, .int .i64 0, .int .i64 0] 32) = w0 at bR hE ⊢
  refine (K1.out _).mono ?_
  rintro e w1 ⟨rfl, rfl⟩
  go_wp2_with fail
  refine (K2.out _).mono ?_
  rintro e w1 ⟨rfl, rfl⟩
  have cR := bR.cell
  have zR := bR.lt
  have fR := bR.frozen
  go_wp2
  clear cR zR fR
  replace hE := exs3 hE (b := w.heap.size) (Nat.le_refl _) (.int .i64 0) (.int .i64 0) (.int .i64 0)
  replace bR := put3 bR (.int .i64 0) (.int .i64 0) (.int .i64 0)
  generalize ((w1.setCell ⟨w.heap.size, 0, none⟩ (.int .i64 0)).setCell ⟨w.heap.size, 1, none⟩ (.int .i64 0)).setCell ⟨w.heap.size, 2, none⟩ (.int .i64 0) = Y at bR hE ⊢
  have cR := bR.cell
  refine Gq (v := .tuple #[.agg #[.int .i64 0, .int .i64 0, .int .i64 0], .bool false]) ?_ rfl ⟨0, 0, 0, false, rfl, hE⟩
  simp [results, Tryz.results139, go_sem, cR]
 rcases g3 : Xs im (-1000000000000000000) 1000000000000000000 with _ | _
 ·rw [g1] at k1
  have K1 := Gv k1
  rw [g2] at k2
  have K2 := Gv k2
  rw [g3] at k3
  have K3 := Gv k3
  clear k1 k2 k3
  go_enter Tryz.func139, Tryz.ntmps139
  go_wp2_with fail
  have bR := Box.new w #[.int .i64 0, .int .i64 0, .int .i64 0] 32
  have hE := (Ex.refl w).alloc (.cells #[.int .i64 0, .int .i64 0, .int .i64 0] 32)
  generalize w.alloc (.cells #[.int .i64 0, .int .i64 0, .int .i64 0] 32) = w0 at bR hE ⊢
  refine (K1.out _).mono ?_
  rintro e w1 ⟨rfl, rfl⟩
  go_wp2_with fail
  refine (K2.out _).mono ?_
  rintro e w1 ⟨rfl, rfl⟩
  go_wp2_with fail
  refine (K3.out _).mono ?_
  rintro e w1 ⟨rfl, rfl⟩
  have cR := bR.cell
  have zR := bR.lt
  have fR := bR.frozen
  go_wp2
  clear cR zR fR
  replace hE := exs3 hE (b := w.heap.size) (Nat.le_refl _) (.int .i64 0) (.int .i64 0) (.int .i64 0)
  replace bR := put3 bR (.int .i64 0) (.int .i64 0) (.int .i64 0)
  generalize ((w1.setCell ⟨w.heap.size, 0, none⟩ (.int .i64 0)).setCell ⟨w.heap.size, 1, none⟩ (.int .i64 0)).setCell ⟨w.heap.size, 2, none⟩ (.int .i64 0) = Y at bR hE ⊢
  have cR := bR.cell
  refine Gq (v := .tuple #[.agg #[.int .i64 0, .int .i64 0, .int .i64 0], .bool false]) ?_ rfl ⟨0, 0, 0, false, rfl, hE⟩
  simp [results, Tryz.results139, go_sem, cR]
 ·have o1 := Xz g1
  have o2 := Xz g2
  have o3 := Xz g3
  rw [g1] at k1
  have K1 := Gv k1
  rw [g2] at k2
  have K2 := Gv k2
  rw [g3] at k3
  have K3 := Gv k3
  clear k1 k2 k3
  go_enter Tryz.func139, Tryz.ntmps139
  go_wp2_with fail
  have bR := Box.new w #[.int .i64 0, .int .i64 0, .int .i64 0] 32
  have hE := (Ex.refl w).alloc (.cells #[.int .i64 0, .int .i64 0, .int .i64 0] 32)
  generalize w.alloc (.cells #[.int .i64 0, .int .i64 0, .int .i64 0] 32) = w0 at bR hE ⊢
  refine (K1.out _).mono ?_
  rintro e w1 ⟨rfl, rfl⟩
  go_wp2_with fail
  refine (K2.out _).mono ?_
  rintro e w1 ⟨rfl, rfl⟩
  go_wp2_with fail
  refine (K3.out _).mono ?_
  rintro e w1 ⟨rfl, rfl⟩
  go_wp2_with fail
  refine (Yu.tot (Sc re im den _ (by omega) (by omega) (by omega))).mono ?_
  rintro e w2 ⟨x1, x2, x3, ok, rfl, hx⟩
  replace hE := hE.trans hx
  replace bR := bR.ex hx
  have cR := bR.cell
  have zR := bR.lt
  have fR := bR.frozen
  go_wp2
  clear cR zR fR
  replace hE := exs3 hE (b := w.heap.size) (Nat.le_refl _) (.int .i64 x1) (.int .i64 x2) (.int .i64 x3)
  replace bR := put3 bR (.int .i64 x1) (.int .i64 x2) (.int .i64 x3)
  generalize ((w2.setCell ⟨w.heap.size, 0, none⟩ (.int .i64 x1)).setCell ⟨w.heap.size, 1, none⟩ (.int .i64 x2)).setCell ⟨w.heap.size, 2, none⟩ (.int .i64 x3) = Y at bR hE ⊢
  have cR := bR.cell
  refine Gq (v := .tuple #[.agg #[.int .i64 x1, .int .i64 x2, .int .i64 x3], .bool ok]) ?_ rfl ⟨x1, x2, x3, ok, rfl, hE⟩
  simp [results, Tryz.results139, go_sem, cR]
theorem l4Twice_tot (n den : Int) (w : World) : Calls Tryz.prog 102 #[.int .i64 n, .int .i64 den] w (TotF w) := by
 have km := fun w => fracMake_tot (IntKind.i64.wrap (2 * n)) 0 den w
 generalize hm : IntKind.i64.wrap (2 * n) = m at km
 have KM := Gv km
 clear km
 go_enter Tryz.func102, Tryz.ntmps102
 go_wp2_with fail
 refine (KM.out _).mono ?_
 rintro e w2 ⟨x1, x2, x3, ok, rfl, hx⟩
 have bR := (Box.new w #[.int .i64 0, .int .i64 0, .int .i64 0] 32).ex hx
 have hE := ((Ex.refl w).alloc (.cells #[.int .i64 0, .int .i64 0, .int .i64 0] 32)).trans hx
 have cR := bR.cell
 have zR := bR.lt
 have fR := bR.frozen
 go_wp2
 clear cR zR fR
 replace hE := exs3 hE (b := w.heap.size) (Nat.le_refl _) (.int .i64 x1) (.int .i64 x2) (.int .i64 x3)
 replace bR := put3 bR (.int .i64 x1) (.int .i64 x2) (.int .i64 x3)
 generalize ((w2.setCell ⟨w.heap.size, 0, none⟩ (.int .i64 x1)).setCell ⟨w.heap.size, 1, none⟩ (.int .i64 x2)).setCell ⟨w.heap.size, 2, none⟩ (.int .i64 x3) = Y at bR hE ⊢
 have cR := bR.cell
 refine Gq (v := .tuple #[.agg #[.int .i64 x1, .int .i64 x2, .int .i64 x3], .bool ok]) ?_ rfl ⟨x1, x2, x3, ok, rfl, hE⟩
 simp [results, Tryz.results102, go_sem, cR]
theorem Ot (x1 x2 x3 y1 y2 y3 : Int) (w : World) : Calls Tryz.prog 64 #[.agg #[.int .i64 x1, .int .i64 x2, .int .i64 x3, .int .i64 y1, .int .i64 y2, .int .i64 y3]] w (TotS w) := by
 have k1 : ∀ (a1 a2 a3 : Int) w, Calls Tryz.prog 98 #[.agg #[.int .i64 a1, .int .i64 a2, .int .i64 a3]] w (TotF w) := fun a1 a2 a3 w => Yu.tot (sFracPower ⟨a1, a2, a3⟩ w)
 have k2 : ∀ (a1 a2 a3 : Int) w, Calls Tryz.prog 99 #[.agg #[.int .i64 a1, .int .i64 a2, .int .i64 a3]] w (TotF w) := fun a1 a2 a3 w => Yu.tot (Uu ⟨a1, a2, a3⟩ w)
 have k3 : ∀ (a1 a2 a3 b1 b2 b3 : Int) w, Calls Tryz.prog 60 #[.agg #[.int .i64 a1, .int .i64 a2, .int .i64 a3], .agg #[.int .i64 b1, .int .i64 b2, .int .i64 b3]] w (TotF w) := fun a1 a2 a3 b1 b2 b3 w => Yu.tot (Xd ⟨a1, a2, a3⟩ ⟨b1, b2, b3⟩ w)
 have k4 : ∀ (a1 a2 a3 b1 b2 b3 : Int) w, Calls Tryz.prog 100 #[.agg #[.int .i64 a1, .int .i64 a2, .int .i64 a3], .agg #[.int .i64 b1, .int .i64 b2, .int .i64 b3]] w (TotF w) := fun a1 a2 a3 b1 b2 b3 w => Yu.tot (Qk ⟨a1, a2, a3⟩ ⟨b1, b2, b3⟩ w)
 have k5 : ∀ (a1 a2 a3 b1 b2 b3 : Int) w, Calls Tryz.prog 101 #[.agg #[.int .i64 a1, .int .i64 a2, .int .i64 a3], .agg #[.int .i64 b1, .int .i64 b2, .int .i64 b3]] w (TotF w) := fun a1 a2 a3 b1 b2 b3 w => Yu.tot (sFracLess ⟨a1, a2, a3⟩ ⟨b1, b2, b3⟩ w)
 have K1 := Gv k1
 have K2 := Gv k2
 have K3 := Gv k3
 have K4 := Gv k4
 have K5 := Gv k5
 have K6 := Gv l4Twice_tot
 clear k1 k2 k3 k4 k5
 go_enter Tryz.func64, Tryz.ntmps64
 go_wp2_with fail
 have bX := (Box.new w #[.int .i64 x1, .int .i64 x2, .int .i64 x3, .int .i64 y1, .int .i64 y2, .int .i64 y3] 112).alloc (.cells #[.int .i64 0, .int .i64 0, .int .i64 0, .int .i64 0, .int .i64 0, .int .i64 0, .int .i64 0, .int .i64 0, .int .i64 0, .int .i64 0, .int .i64 0, .int .i64 0] 35)
 have bR := Box.new (w.alloc (.cells #[.int .i64 x1, .int .i64 x2, .int .i64 x3, .int .i64 y1, .int .i64 y2, .int .i64 y3] 112)) #[.int .i64 0, .int .i64 0, .int .i64 0, .int .i64 0, .int .i64 0, .int .i64 0, .int .i64 0, .int .i64 0, .int .i64 0, .int .i64 0, .int .i64 0, .int .i64 0] 35
 rw [Wt] at bR
 have hE := ((Ex.refl w).alloc (.cells #[.int .i64 x1, .int .i64 x2, .int .i64 x3, .int .i64 y1, .int .i64 y2, .int .i64 y3] 112)).alloc (.cells #[.int .i64 0, .int .i64 0, .int .i64 0, .int .i64 0, .int .i64 0, .int .i64 0, .int .i64 0, .int .i64 0, .int .i64 0, .int .i64 0, .int .i64 0, .int .i64 0] 35)
 refine (K1.out _ _ _ _).mono ?_
 rintro e w1 ⟨u1, u2, u3, p, rfl, hx⟩
 replace hE := hE.trans hx
 replace bX := bX.ex hx
 replace bR := bR.ex hx
 clear hx
 replace bX := bX.alloc (.cells #[.int .i64 u1, .int .i64 u2, .int .i64 u3] 32)
 replace bR := bR.alloc (.cells #[.int .i64 u1, .int .i64 u2, .int .i64 u3] 32)
 replace hE := hE.alloc (.cells #[.int .i64 u1, .int .i64 u2, .int .i64 u3] 32)
 have bu := Box.new w1 #[.int .i64 u1, .int .i64 u2, .int .i64 u3] 32
 have cbX := bX.cell
 go_wp2_with fail
 refine (K1.out _ _ _ _).mono ?_
 rintro e w2 ⟨v1, v2, v3, q, rfl, hx⟩
 clear cbX
 replace hE := hE.trans hx
 replace bX := bX.ex hx
 replace bR := bR.ex hx
 replace bu := bu.ex hx
 clear hx
 replace bX := bX.alloc (.cells #[.int .i64 v1, .int .i64 v2, .int .i64 v3] 32)
 replace bR := bR.alloc (.cells #[.int .i64 v1, .int .i64 v2, .int .i64 v3] 32)
 replace bu := bu.alloc (.cells #[.int .i64 v1, .int .i64 v2, .int .i64 v3] 32)
 replace hE := hE.alloc (.cells #[.int .i64 v1, .int .i64 v2, .int .i64 v3] 32)
 have bv := Box.new w2 #[.int .i64 v1, .int .i64 v2, .int .i64 v3] 32
 have cbX := bX.cell
 go_wp2_with fail
 refine (K2.out _ _ _ _).mono ?_
 rintro e w3 ⟨m1, m2, m3, r, rfl, hx⟩
 clear cbX
 replace hE := hE.trans hx
 replace bX := bX.ex hx
 replace bR := bR.ex hx
 replace bu := bu.ex hx
 replace bv := bv.ex hx
 clear hx
 replace bX := bX.alloc (.cells #[.int .i64 m1, .int .i64 m2, .int .i64 m3] 32)
 replace bR := bR.alloc (.cells #[.int .i64 m1, .int .i64 m2, .int .i64 m3] 32)
 replace bu := bu.alloc (.cells #[.int .i64 m1, .int .i64 m2, .int .i64 m3] 32)
 replace bv := bv.alloc (.cells #[.int .i64 m1, .int .i64 m2, .int .i64 m3] 32)
 replace hE := hE.alloc (.cells #[.int .i64 m1, .int .i64 m2, .int .i64 m3] 32)
 have bm := Box.new w3 #[.int .i64 m1, .int .i64 m2, .int .i64 m3] 32
 rcases p with _ | _
 ·clear bX bu bv bm
  have cR := bR.cell
  have zR := bR.lt
  have fR := bR.frozen
  go_wp2
  clear cR zR fR
  replace hE := ex3 (ex3 (ex3 (ex3 (hE) (b := w.heap.size + 1) (by omega) 0 1 2 (.int .i64 0) (.int .i64 0) (.int .i64 0)) (b := w.heap.size + 1) (by omega) 3 4 5 (.int .i64 0) (.int .i64 0) (.int .i64 0)) (b := w.heap.size + 1) (by omega) 6 7 8 (.int .i64 0) (.int .i64 0) (.int .i64 0)) (b := w.heap.size + 1) (by omega) 9 10 11 (.int .i64 0) (.int .i64 0) (.int .i64 0)
  replace bR := Wl 0 0 0 0 0 0 0 0 0 0 0 0 (Wm 0 0 0 0 0 0 0 0 0 0 0 0 (Wn 0 0 0 0 0 0 0 0 0 0 0 0 (Wo 0 0 0 0 0 0 0 0 0 0 0 0 (bR))))
  generalize (((((((((((((w3.alloc (.cells #[.int .i64 m1, .int .i64 m2, .int .i64 m3] 32)).setCell ⟨w.heap.size + 1, 0, none⟩ (.int .i64 0)).setCell ⟨w.heap.size + 1, 1, none⟩ (.int .i64 0)).setCell ⟨w.heap.size + 1, 2, none⟩ (.int .i64 0)).setCell ⟨w.heap.size + 1, 3, none⟩ (.int .i64 0)).setCell ⟨w.heap.size + 1, 4, none⟩ (.int .i64 0)).setCell ⟨w.heap.size + 1, 5, none⟩ (.int .i64 0)).setCell ⟨w.heap.size + 1, 6, none⟩ (.int .i64 0)).setCell ⟨w.heap.size + 1, 7, none⟩ (.int .i64 0)).setCell ⟨w.heap.size + 1, 8, none⟩ (.int .i64 0)).setCell ⟨w.heap.size + 1, 9, none⟩ (.int .i64 0)).setCell ⟨w.heap.size + 1, 10, none⟩ (.int .i64 0)).setCell ⟨w.heap.size + 1, 11, none⟩ (.int .i64 0)) = Y at bR hE ⊢
  have cR := bR.cell
  refine Gq (v := .tuple #[.agg #[.int .i64 0, .int .i64 0, .int .i64 0, .int .i64 0, .int .i64 0, .int .i64 0, .int .i64 0, .int .i64 0, .int .i64 0, .int .i64 0, .int .i64 0, .int .i64 0], .bool false]) ?_ rfl ⟨⟨0, 0, 0⟩, ⟨0, 0, 0⟩, ⟨0, 0, 0⟩, ⟨0, 0, 0⟩, false, rfl, hE⟩
  simp [results, Tryz.results64, go_sem, cR]
 rcases q with _ | _
 ·clear bX bu bv bm
  have cR := bR.cell
  have zR := bR.lt
  have fR := bR.frozen
  go_wp2
  clear cR zR fR
  replace hE := ex3 (ex3 (ex3 (ex3 (hE) (b := w.heap.size + 1) (by omega) 0 1 2 (.int .i64 0) (.int .i64 0) (.int .i64 0)) (b := w.heap.size + 1) (by omega) 3 4 5 (.int .i64 0) (.int .i64 0) (.int .i64 0)) (b := w.heap.size + 1) (by omega) 6 7 8 (.int .i64 0) (.int .i64 0) (.int .i64 0)) (b := w.heap.size + 1) (by omega) 9 10 11 (.int .i64 0) (.int .i64 0) (.int .i64 0)
  replace bR := Wl 0 0 0 0 0 0 0 0 0 0 0 0 (Wm 0 0 0 0 0 0 0 0 0 0 0 0 (Wn 0 0 0 0 0 0 0 0 0 0 0 0 (Wo 0 0 0 0 0 0 0 0 0 0 0 0 (bR))))
  generalize (((((((((((((w3.alloc (.cells #[.int .i64 m1, .int .i64 m2, .int .i64 m3] 32)).setCell ⟨w.heap.size + 1, 0, none⟩ (.int .i64 0)).setCell ⟨w.heap.size + 1, 1, none⟩ (.int .i64 0)).setCell ⟨w.heap.size + 1, 2, none⟩ (.int .i64 0)).setCell ⟨w.heap.size + 1, 3, none⟩ (.int .i64 0)).setCell ⟨w.heap.size + 1, 4, none⟩ (.int .i64 0)).setCell ⟨w.heap.size + 1, 5, none⟩ (.int .i64 0)).setCell ⟨w.heap.size + 1, 6, none⟩ (.int .i64 0)).setCell ⟨w.heap.size + 1, 7, none⟩ (.int .i64 0)).setCell ⟨w.heap.size + 1, 8, none⟩ (.int .i64 0)).setCell ⟨w.heap.size + 1, 9, none⟩ (.int .i64 0)).setCell ⟨w.heap.size + 1, 10, none⟩ (.int .i64 0)).setCell ⟨w.heap.size + 1, 11, none⟩ (.int .i64 0)) = Y at bR hE ⊢
  have cR := bR.cell
  refine Gq (v := .tuple #[.agg #[.int .i64 0, .int .i64 0, .int .i64 0, .int .i64 0, .int .i64 0, .int .i64 0, .int .i64 0, .int .i64 0, .int .i64 0, .int .i64 0, .int .i64 0, .int .i64 0], .bool false]) ?_ rfl ⟨⟨0, 0, 0⟩, ⟨0, 0, 0⟩, ⟨0, 0, 0⟩, ⟨0, 0, 0⟩, false, rfl, hE⟩
  simp [results, Tryz.results64, go_sem, cR]
 rcases r with _ | _
 ·clear bX bu bv bm
  have cR := bR.cell
  have zR := bR.lt
  have fR := bR.frozen
  go_wp2
  clear cR zR fR
  replace hE := ex3 (ex3 (ex3 (ex3 (hE) (b := w.heap.size + 1) (by omega) 0 1 2 (.int .i64 0) (.int .i64 0) (.int .i64 0)) (b := w.heap.size + 1) (by omega) 3 4 5 (.int .i64 0) (.int .i64 0) (.int .i64 0)) (b := w.heap.size + 1) (by omega) 6 7 8 (.int .i64 0) (.int .i64 0) (.int .i64 0)) (b := w.heap.size + 1) (by omega) 9 10 11 (.int .i64 0) (.int .i64 0) (.int .i64 0)
  replace bR := Wl 0 0 0 0 0 0 0 0 0 0 0 0 (Wm 0 0 0 0 0 0 0 0 0 0 0 0 (Wn 0 0 0 0 0 0 0 0 0 0 0 0 (Wo 0 0 0 0 0 0 0 0 0 0 0 0 (bR))))
  generalize (((((((((((((w3.alloc (.cells #[.int .i64 m1, .int .i64 m2, .int .i64 m3] 32)).setCell ⟨w.heap.size + 1, 0, none⟩ (.int .i64 0)).setCell ⟨w.heap.size + 1, 1, none⟩ (.int .i64 0)).setCell ⟨w.heap.size + 1, 2, none⟩ (.int .i64 0)).setCell ⟨w.heap.size + 1, 3, none⟩ (.int .i64 0)).setCell ⟨w.heap.size + 1, 4, none⟩ (.int .i64 0)).setCell ⟨w.heap.size + 1, 5, none⟩ (.int .i64 0)).setCell ⟨w.heap.size + 1, 6, none⟩ (.int .i64 0)).setCell ⟨w.heap.size + 1, 7, none⟩ (.int .i64 0)).setCell ⟨w.heap.size + 1, 8, none⟩ (.int .i64 0)).setCell ⟨w.heap.size + 1, 9, none⟩ (.int .i64 0)).setCell ⟨w.heap.size + 1, 10, none⟩ (.int .i64 0)).setCell ⟨w.heap.size + 1, 11, none⟩ (.int .i64 0)) = Y at bR hE ⊢
  have cR := bR.cell
  refine Gq (v := .tuple #[.agg #[.int .i64 0, .int .i64 0, .int .i64 0, .int .i64 0, .int .i64 0, .int .i64 0, .int .i64 0, .int .i64 0, .int .i64 0, .int .i64 0, .int .i64 0, .int .i64 0], .bool false]) ?_ rfl ⟨⟨0, 0, 0⟩, ⟨0, 0, 0⟩, ⟨0, 0, 0⟩, ⟨0, 0, 0⟩, false, rfl, hE⟩
  simp [results, Tryz.results64, go_sem, cR]
 have cbX := bX.cell
 have cbm := bm.cell
 go_wp2_with fail
 refine (K3.out _ _ _ _ _ _ _).mono ?_
 rintro e w4 ⟨c1, c2, c3, t, rfl, hx⟩
 clear cbX cbm
 replace hE := hE.trans hx
 replace bX := bX.ex hx
 replace bR := bR.ex hx
 replace bu := bu.ex hx
 replace bv := bv.ex hx
 replace bm := bm.ex hx
 clear hx
 replace bX := bX.alloc (.cells #[.int .i64 c1, .int .i64 c2, .int .i64 c3] 32)
 replace bR := bR.alloc (.cells #[.int .i64 c1, .int .i64 c2, .int .i64 c3] 32)
 replace bu := bu.alloc (.cells #[.int .i64 c1, .int .i64 c2, .int .i64 c3] 32)
 replace bv := bv.alloc (.cells #[.int .i64 c1, .int .i64 c2, .int .i64 c3] 32)
 replace bm := bm.alloc (.cells #[.int .i64 c1, .int .i64 c2, .int .i64 c3] 32)
 replace hE := hE.alloc (.cells #[.int .i64 c1, .int .i64 c2, .int .i64 c3] 32)
 have bc := Box.new w4 #[.int .i64 c1, .int .i64 c2, .int .i64 c3] 32
 have cbu := bu.cell
 have cbv := bv.cell
 go_wp2_with fail
 refine (K4.out _ _ _ _ _ _ _).mono ?_
 rintro e w5 ⟨s1, s2, s3, aa, rfl, hx⟩
 clear cbu cbv
 replace hE := hE.trans hx
 replace bX := bX.ex hx
 replace bR := bR.ex hx
 replace bu := bu.ex hx
 replace bv := bv.ex hx
 replace bm := bm.ex hx
 replace bc := bc.ex hx
 clear hx
 replace bX := bX.alloc (.cells #[.int .i64 s1, .int .i64 s2, .int .i64 s3] 32)
 replace bR := bR.alloc (.cells #[.int .i64 s1, .int .i64 s2, .int .i64 s3] 32)
 replace bu := bu.alloc (.cells #[.int .i64 s1, .int .i64 s2, .int .i64 s3] 32)
 replace bv := bv.alloc (.cells #[.int .i64 s1, .int .i64 s2, .int .i64 s3] 32)
 replace bm := bm.alloc (.cells #[.int .i64 s1, .int .i64 s2, .int .i64 s3] 32)
 replace bc := bc.alloc (.cells #[.int .i64 s1, .int .i64 s2, .int .i64 s3] 32)
 replace hE := hE.alloc (.cells #[.int .i64 s1, .int .i64 s2, .int .i64 s3] 32)
 have bs := Box.new w5 #[.int .i64 s1, .int .i64 s2, .int .i64 s3] 32
 have cbu := bu.cell
 have cbv := bv.cell
 go_wp2_with fail
 refine (K5.out _ _ _ _ _ _ _).mono ?_
 rintro e w6 ⟨l1, l2, l3, bb, rfl, hx⟩
 clear cbu cbv
 replace hE := hE.trans hx
 replace bX := bX.ex hx
 replace bR := bR.ex hx
 replace bu := bu.ex hx
 replace bv := bv.ex hx
 replace bm := bm.ex hx
 replace bc := bc.ex hx
 replace bs := bs.ex hx
 clear hx
 replace bX := bX.alloc (.cells #[.int .i64 l1, .int .i64 l2, .int .i64 l3] 32)
 replace bR := bR.alloc (.cells #[.int .i64 l1, .int .i64 l2, .int .i64 l3] 32)
 replace bu := bu.alloc (.cells #[.int .i64 l1, .int .i64 l2, .int .i64 l3] 32)
 replace bv := bv.alloc (.cells #[.int .i64 l1, .int .i64 l2, .int .i64 l3] 32)
 replace bm := bm.alloc (.cells #[.int .i64 l1, .int .i64 l2, .int .i64 l3] 32)
 replace bc := bc.alloc (.cells #[.int .i64 l1, .int .i64 l2, .int .i64 l3] 32)
 replace bs := bs.alloc (.cells #[.int .i64 l1, .int .i64 l2, .int .i64 l3] 32)
 replace hE := hE.alloc (.cells #[.int .i64 l1, .int .i64 l2, .int .i64 l3] 32)
 have bl := Box.new w6 #[.int .i64 l1, .int .i64 l2, .int .i64 l3] 32
 rcases t with _ | _
 ·clear bX bu bv bm bc bs bl
  have cR := bR.cell
  have zR := bR.lt
  have fR := bR.frozen
  go_wp2
  clear cR zR fR
  replace hE := ex3 (ex3 (ex3 (ex3 (hE) (b := w.heap.size + 1) (by omega) 0 1 2 (.int .i64 0) (.int .i64 0) (.int .i64 0)) (b := w.heap.size + 1) (by omega) 3 4 5 (.int .i64 0) (.int .i64 0) (.int .i64 0)) (b := w.heap.size + 1) (by omega) 6 7 8 (.int .i64 0) (.int .i64 0) (.int .i64 0)) (b := w.heap.size + 1) (by omega) 9 10 11 (.int .i64 0) (.int .i64 0) (.int .i64 0)
  replace bR := Wl 0 0 0 0 0 0 0 0 0 0 0 0 (Wm 0 0 0 0 0 0 0 0 0 0 0 0 (Wn 0 0 0 0 0 0 0 0 0 0 0 0 (Wo 0 0 0 0 0 0 0 0 0 0 0 0 (bR))))
  generalize (((((((((((((w6.alloc (.cells #[.int .i64 l1, .int .i64 l2, .int .i64 l3] 32)).setCell ⟨w.heap.size + 1, 0, none⟩ (.int .i64 0)).setCell ⟨w.heap.size + 1, 1, none⟩ (.int .i64 0)).setCell ⟨w.heap.size + 1, 2, none⟩ (.int .i64 0)).setCell ⟨w.heap.size + 1, 3, none⟩ (.int .i64 0)).setCell ⟨w.heap.size + 1, 4, none⟩ (.int .i64 0)).setCell ⟨w.heap.size + 1, 5, none⟩ (.int .i64 0)).setCell ⟨w.heap.size + 1, 6, none⟩ (.int .i64 0)).setCell ⟨w.heap.size + 1, 7, none⟩ (.int .i64 0)).setCell ⟨w.heap.size + 1, 8, none⟩ (.int .i64 0)).setCell ⟨w.heap.size + 1, 9, none⟩ (.int .i64 0)).setCell ⟨w.heap.size + 1, 10, none⟩ (.int .i64 0)).setCell ⟨w.heap.size + 1, 11, none⟩ (.int .i64 0)) = Y at bR hE ⊢
  have cR := bR.cell
  refine Gq (v := .tuple #[.agg #[.int .i64 0, .int .i64 0, .int .i64 0, .int .i64 0, .int .i64 0, .int .i64 0, .int .i64 0, .int .i64 0, .int .i64 0, .int .i64 0, .int .i64 0, .int .i64 0], .bool false]) ?_ rfl ⟨⟨0, 0, 0⟩, ⟨0, 0, 0⟩, ⟨0, 0, 0⟩, ⟨0, 0, 0⟩, false, rfl, hE⟩
  simp [results, Tryz.results64, go_sem, cR]
 rcases aa with _ | _
 ·clear bX bu bv bm bc bs bl
  have cR := bR.cell
  have zR := bR.lt
  have fR := bR.frozen
  go_wp2
  clear cR zR fR
  replace hE := ex3 (ex3 (ex3 (ex3 (hE) (b := w.heap.size + 1) (by omega) 0 1 2 (.int .i64 0) (.int .i64 0) (.int .i64 0)) (b := w.heap.size + 1) (by omega) 3 4 5 (.int .i64 0) (.int .i64 0) (.int .i64 0)) (b := w.heap.size + 1) (by omega) 6 7 8 (.int .i64 0) (.int .i64 0) (.int .i64 0)) (b := w.heap.size + 1) (by omega) 9 10 11 (.int .i64 0) (.int .i64 0) (.int .i64 0)
  replace bR := Wl 0 0 0 0 0 0 0 0 0 0 0 0 (Wm 0 0 0 0 0 0 0 0 0 0 0 0 (Wn 0 0 0 0 0 0 0 0 0 0 0 0 (Wo 0 0 0 0 0 0 0 0 0 0 0 0 (bR))))
  generalize (((((((((((((w6.alloc (.cells #[.int .i64 l1, .int .i64 l2, .int .i64 l3] 32)).setCell ⟨w.heap.size + 1, 0, none⟩ (.int .i64 0)).setCell ⟨w.heap.size + 1, 1, none⟩ (.int .i64 0)).setCell ⟨w.heap.size + 1, 2, none⟩ (.int .i64 0)).setCell ⟨w.heap.size + 1, 3, none⟩ (.int .i64 0)).setCell ⟨w.heap.size + 1, 4, none⟩ (.int .i64 0)).setCell ⟨w.heap.size + 1, 5, none⟩ (.int .i64 0)).setCell ⟨w.heap.size + 1, 6, none⟩ (.int .i64 0)).setCell ⟨w.heap.size + 1, 7, none⟩ (.int .i64 0)).setCell ⟨w.heap.size + 1, 8, none⟩ (.int .i64 0)).setCell ⟨w.heap.size + 1, 9, none⟩ (.int .i64 0)).setCell ⟨w.heap.size + 1, 10, none⟩ (.int .i64 0)).setCell ⟨w.heap.size + 1, 11, none⟩ (.int .i64 0)) = Y at bR hE ⊢
  have cR := bR.cell
  refine Gq (v := .tuple #[.agg #[.int .i64 0, .int .i64 0, .int .i64 0, .int .i64 0, .int .i64 0, .int .i64 0, .int .i64 0, .int .i64 0, .int .i64 0, .int .i64 0, .int .i64 0, .int .i64 0], .bool false]) ?_ rfl ⟨⟨0, 0, 0⟩, ⟨0, 0, 0⟩, ⟨0, 0, 0⟩, ⟨0, 0, 0⟩, false, rfl, hE⟩
  simp [results, Tryz.results64, go_sem, cR]
 rcases bb with _ | _
 ·clear bX bu bv bm bc bs bl
  have cR := bR.cell
  have zR := bR.lt
  have fR := bR.frozen
  go_wp2
  clear cR zR fR
  replace hE := ex3 (ex3 (ex3 (ex3 (hE) (b := w.heap.size + 1) (by omega) 0 1 2 (.int .i64 0) (.int .i64 0) (.int .i64 0)) (b := w.heap.size + 1) (by omega) 3 4 5 (.int .i64 0) (.int .i64 0) (.int .i64 0)) (b := w.heap.size + 1) (by omega) 6 7 8 (.int .i64 0) (.int .i64 0) (.int .i64 0)) (b := w.heap.size + 1) (by omega) 9 10 11 (.int .i64 0) (.int .i64 0) (.int .i64 0)
  replace bR := Wl 0 0 0 0 0 0 0 0 0 0 0 0 (Wm 0 0 0 0 0 0 0 0 0 0 0 0 (Wn 0 0 0 0 0 0 0 0 0 0 0 0 (Wo 0 0 0 0 0 0 0 0 0 0 0 0 (bR))))
  generalize (((((((((((((w6.alloc (.cells #[.int .i64 l1, .int .i64 l2, .int .i64 l3] 32)).setCell ⟨w.heap.size + 1, 0, none⟩ (.int .i64 0)).setCell ⟨w.heap.size + 1, 1, none⟩ (.int .i64 0)).setCell ⟨w.heap.size + 1, 2, none⟩ (.int .i64 0)).setCell ⟨w.heap.size + 1, 3, none⟩ (.int .i64 0)).setCell ⟨w.heap.size + 1, 4, none⟩ (.int .i64 0)).setCell ⟨w.heap.size + 1, 5, none⟩ (.int .i64 0)).setCell ⟨w.heap.size + 1, 6, none⟩ (.int .i64 0)).setCell ⟨w.heap.size + 1, 7, none⟩ (.int .i64 0)).setCell ⟨w.heap.size + 1, 8, none⟩ (.int .i64 0)).setCell ⟨w.heap.size + 1, 9, none⟩ (.int .i64 0)).setCell ⟨w.heap.size + 1, 10, none⟩ (.int .i64 0)).setCell ⟨w.heap.size + 1, 11, none⟩ (.int .i64 0)) = Y at bR hE ⊢
  have cR := bR.cell
  refine Gq (v := .tuple #[.agg #[.int .i64 0, .int .i64 0, .int .i64 0, .int .i64 0, .int .i64 0, .int .i64 0, .int .i64 0, .int .i64 0, .int .i64 0, .int .i64 0, .int .i64 0, .int .i64 0], .bool false]) ?_ rfl ⟨⟨0, 0, 0⟩, ⟨0, 0, 0⟩, ⟨0, 0, 0⟩, ⟨0, 0, 0⟩, false, rfl, hE⟩
  simp [results, Tryz.results64, go_sem, cR]
 clear bX
 clear bu
 clear bv
 clear bm
 have cbc := bc.cell
 go_wp2_with fail
 refine (K6.out _ _ _).mono ?_
 rintro e w7 ⟨f1, f2, f3, cc, rfl, hx⟩
 clear cbc
 replace hE := hE.trans hx
 replace bR := bR.ex hx
 replace bc := bc.ex hx
 replace bs := bs.ex hx
 replace bl := bl.ex hx
 clear hx
 replace bR := bR.alloc (.cells #[.int .i64 f1, .int .i64 f2, .int .i64 f3] 32)
 replace bc := bc.alloc (.cells #[.int .i64 f1, .int .i64 f2, .int .i64 f3] 32)
 replace bs := bs.alloc (.cells #[.int .i64 f1, .int .i64 f2, .int .i64 f3] 32)
 replace bl := bl.alloc (.cells #[.int .i64 f1, .int .i64 f2, .int .i64 f3] 32)
 replace hE := hE.alloc (.cells #[.int .i64 f1, .int .i64 f2, .int .i64 f3] 32)
 have bf := Box.new w7 #[.int .i64 f1, .int .i64 f2, .int .i64 f3] 32
 have cbc := bc.cell
 go_wp2_with fail
 refine (K6.out _ _ _).mono ?_
 rintro e w8 ⟨g1, g2, g3, dd, rfl, hx⟩
 clear cbc
 replace hE := hE.trans hx
 replace bR := bR.ex hx
 replace bc := bc.ex hx
 replace bs := bs.ex hx
 replace bl := bl.ex hx
 replace bf := bf.ex hx
 clear hx
 replace bR := bR.alloc (.cells #[.int .i64 g1, .int .i64 g2, .int .i64 g3] 32)
 replace bc := bc.alloc (.cells #[.int .i64 g1, .int .i64 g2, .int .i64 g3] 32)
 replace bs := bs.alloc (.cells #[.int .i64 g1, .int .i64 g2, .int .i64 g3] 32)
 replace bl := bl.alloc (.cells #[.int .i64 g1, .int .i64 g2, .int .i64 g3] 32)
 replace bf := bf.alloc (.cells #[.int .i64 g1, .int .i64 g2, .int .i64 g3] 32)
 replace hE := hE.alloc (.cells #[.int .i64 g1, .int .i64 g2, .int .i64 g3] 32)
 have bg := Box.new w8 #[.int .i64 g1, .int .i64 g2, .int .i64 g3] 32
 rcases cc with _ | _
 ·clear bc bs bl bf bg
  have cR := bR.cell
  have zR := bR.lt
  have fR := bR.frozen
  go_wp2
  clear cR zR fR
  replace hE := ex3 (ex3 (ex3 (ex3 (hE) (b := w.heap.size + 1) (by omega) 0 1 2 (.int .i64 0) (.int .i64 0) (.int .i64 0)) (b := w.heap.size + 1) (by omega) 3 4 5 (.int .i64 0) (.int .i64 0) (.int .i64 0)) (b := w.heap.size + 1) (by omega) 6 7 8 (.int .i64 0) (.int .i64 0) (.int .i64 0)) (b := w.heap.size + 1) (by omega) 9 10 11 (.int .i64 0) (.int .i64 0) (.int .i64 0)
  replace bR := Wl 0 0 0 0 0 0 0 0 0 0 0 0 (Wm 0 0 0 0 0 0 0 0 0 0 0 0 (Wn 0 0 0 0 0 0 0 0 0 0 0 0 (Wo 0 0 0 0 0 0 0 0 0 0 0 0 (bR))))
  generalize (((((((((((((w8.alloc (.cells #[.int .i64 g1, .int .i64 g2, .int .i64 g3] 32)).setCell ⟨w.heap.size + 1, 0, none⟩ (.int .i64 0)).setCell ⟨w.heap.size + 1, 1, none⟩ (.int .i64 0)).setCell ⟨w.heap.size + 1, 2, none⟩ (.int .i64 0)).setCell ⟨w.heap.size + 1, 3, none⟩ (.int .i64 0)).setCell ⟨w.heap.size + 1, 4, none⟩ (.int .i64 0)).setCell ⟨w.heap.size + 1, 5, none⟩ (.int .i64 0)).setCell ⟨w.heap.size + 1, 6, none⟩ (.int .i64 0)).setCell ⟨w.heap.size + 1, 7, none⟩ (.int .i64 0)).setCell ⟨w.heap.size + 1, 8, none⟩ (.int .i64 0)).setCell ⟨w.heap.size + 1, 9, none⟩ (.int .i64 0)).setCell ⟨w.heap.size + 1, 10, none⟩ (.int .i64 0)).setCell ⟨w.heap.size + 1, 11, none⟩ (.int .i64 0)) = Y at bR hE ⊢
  have cR := bR.cell
  refine Gq (v := .tuple #[.agg #[.int .i64 0, .int .i64 0, .int .i64 0, .int .i64 0, .int .i64 0, .int .i64 0, .int .i64 0, .int .i64 0, .int .i64 0, .int .i64 0, .int .i64 0, .int .i64 0], .bool false]) ?_ rfl ⟨⟨0, 0, 0⟩, ⟨0, 0, 0⟩, ⟨0, 0, 0⟩, ⟨0, 0, 0⟩, false, rfl, hE⟩
  simp [results, Tryz.results64, go_sem, cR]
 rcases dd with _ | _
 ·clear bc bs bl bf bg
  have cR := bR.cell
  have zR := bR.lt
  have fR := bR.frozen
  go_wp2
  clear cR zR fR
  replace hE := ex3 (ex3 (ex3 (ex3 (hE) (b := w.heap.size + 1) (by omega) 0 1 2 (.int .i64 0) (.int .i64 0) (.int .i64 0)) (b := w.heap.size + 1) (by omega) 3 4 5 (.int .i64 0) (.int .i64 0) (.int .i64 0)) (b := w.heap.size + 1) (by omega) 6 7 8 (.int .i64 0) (.int .i64 0) (.int .i64 0)) (b := w.heap.size + 1) (by omega) 9 10 11 (.int .i64 0) (.int .i64 0) (.int .i64 0)
  replace bR := Wl 0 0 0 0 0 0 0 0 0 0 0 0 (Wm 0 0 0 0 0 0 0 0 0 0 0 0 (Wn 0 0 0 0 0 0 0 0 0 0 0 0 (Wo 0 0 0 0 0 0 0 0 0 0 0 0 (bR))))
  generalize (((((((((((((w8.alloc (.cells #[.int .i64 g1, .int .i64 g2, .int .i64 g3] 32)).setCell ⟨w.heap.size + 1, 0, none⟩ (.int .i64 0)).setCell ⟨w.heap.size + 1, 1, none⟩ (.int .i64 0)).setCell ⟨w.heap.size + 1, 2, none⟩ (.int .i64 0)).setCell ⟨w.heap.size + 1, 3, none⟩ (.int .i64 0)).setCell ⟨w.heap.size + 1, 4, none⟩ (.int .i64 0)).setCell ⟨w.heap.size + 1, 5, none⟩ (.int .i64 0)).setCell ⟨w.heap.size + 1, 6, none⟩ (.int .i64 0)).setCell ⟨w.heap.size + 1, 7, none⟩ (.int .i64 0)).setCell ⟨w.heap.size + 1, 8, none⟩ (.int .i64 0)).setCell ⟨w.heap.size + 1, 9, none⟩ (.int .i64 0)).setCell ⟨w.heap.size + 1, 10, none⟩ (.int .i64 0)).setCell ⟨w.heap.size + 1, 11, none⟩ (.int .i64 0)) = Y at bR hE ⊢
  have cR := bR.cell
  refine Gq (v := .tuple #[.agg #[.int .i64 0, .int .i64 0, .int .i64 0, .int .i64 0, .int .i64 0, .int .i64 0, .int .i64 0, .int .i64 0, .int .i64 0, .int .i64 0, .int .i64 0, .int .i64 0], .bool false]) ?_ rfl ⟨⟨0, 0, 0⟩, ⟨0, 0, 0⟩, ⟨0, 0, 0⟩, ⟨0, 0, 0⟩, false, rfl, hE⟩
  simp [results, Tryz.results64, go_sem, cR]
 have cbs := bs.cell
 have cbl := bl.cell
 have cbf := bf.cell
 have cbg := bg.cell
 have cR := bR.cell
 have zR := bR.lt
 have fR := bR.frozen
 go_wp2
 clear cR zR fR
 replace hE := ex3 (ex3 (ex3 (ex3 (hE) (b := w.heap.size + 1) (by omega) 0 1 2 (.int .i64 s1) (.int .i64 s2) (.int .i64 s3)) (b := w.heap.size + 1) (by omega) 3 4 5 (.int .i64 l1) (.int .i64 l2) (.int .i64 l3)) (b := w.heap.size + 1) (by omega) 6 7 8 (.int .i64 f1) (.int .i64 f2) (.int .i64 f3)) (b := w.heap.size + 1) (by omega) 9 10 11 (.int .i64 g1) (.int .i64 g2) (.int .i64 g3)
 replace bR := Wl s1 s2 s3 l1 l2 l3 f1 f2 f3 g1 g2 g3 (Wm s1 s2 s3 l1 l2 l3 f1 f2 f3 g1 g2 g3 (Wn s1 s2 s3 l1 l2 l3 f1 f2 f3 g1 g2 g3 (Wo s1 s2 s3 l1 l2 l3 f1 f2 f3 g1 g2 g3 (bR))))
 clear cbs cbl cbf cbg
 generalize (((((((((((((w8.alloc (.cells #[.int .i64 g1, .int .i64 g2, .int .i64 g3] 32)).setCell ⟨w.heap.size + 1, 0, none⟩ (.int .i64 s1)).setCell ⟨w.heap.size + 1, 1, none⟩ (.int .i64 s2)).setCell ⟨w.heap.size + 1, 2, none⟩ (.int .i64 s3)).setCell ⟨w.heap.size + 1, 3, none⟩ (.int .i64 l1)).setCell ⟨w.heap.size + 1, 4, none⟩ (.int .i64 l2)).setCell ⟨w.heap.size + 1, 5, none⟩ (.int .i64 l3)).setCell ⟨w.heap.size + 1, 6, none⟩ (.int .i64 f1)).setCell ⟨w.heap.size + 1, 7, none⟩ (.int .i64 f2)).setCell ⟨w.heap.size + 1, 8, none⟩ (.int .i64 f3)).setCell ⟨w.heap.size + 1, 9, none⟩ (.int .i64 g1)).setCell ⟨w.heap.size + 1, 10, none⟩ (.int .i64 g2)).setCell ⟨w.heap.size + 1, 11, none⟩ (.int .i64 g3)) = Y at bR hE ⊢
 have cR := bR.cell
 refine Gq (v := .tuple #[.agg #[.int .i64 s1, .int .i64 s2, .int .i64 s3, .int .i64 l1, .int .i64 l2, .int .i64 l3, .int .i64 f1, .int .i64 f2, .int .i64 f3, .int .i64 g1, .int .i64 g2, .int .i64 g3], .bool true]) ?_ rfl ⟨⟨s1, s2, s3⟩, ⟨l1, l2, l3⟩, ⟨f1, f2, f3⟩, ⟨g1, g2, g3⟩, true, rfl, hE⟩
 simp [results, Tryz.results64, go_sem, cR]
end
end Go.Proofs.YtmmjkchjgeklnaaGreatDoor
