/-
  Walks: the draws of vectors and of four numbers.
-/
import Derived.Test.YtklkfkgpjjpaiaaGreatDoorDrawL
import Derived.LoopN
set_option linter.unusedSimpArgs false
set_option linter.unusedVariables false
namespace Go.Proofs.YtklkfkgpjjpaiaaGreatDoor
open Go.RowKit

theorem Rdr.far {w : World} {bo : Nat} {A : Option Addr} {n cap a : Nat} (h : Rdr w bo A n cap a) {p : Addr} (hp : bo ≠ p.block) (u : Value) : Rdr (w.setCell p u) bo A n cap a := Box.far h hp u
theorem Rdr.ex {w w1 : World} {bo : Nat} {A : Option Addr} {n cap a : Nat} (h : Rdr w bo A n cap a) (he : Ex w w1) : Rdr w1 bo A n cap a := Box.ex h he
theorem put6 {W : World} {b : Nat} {t : TypeId} {a c d e f g : Value} (h : Box W b t #[a, c, d, e, f, g]) (u v s x y z : Value) : Box ((((((W.setCell ⟨b, 0, none⟩ u).setCell ⟨b, 1, none⟩ v).setCell ⟨b, 2, none⟩ s).setCell ⟨b, 3, none⟩ x).setCell ⟨b, 4, none⟩ y).setCell ⟨b, 5, none⟩ z) b t #[u, v, s, x, y, z] := by
  have h2 := (((((h.set_ 0 u).set_ 1 v).set_ 2 s).set_ 3 x).set_ 4 y).set_ 5 z
  simpa using h2
theorem dr3 {bo : Nat} {w W : World} (h : Dr bo w W) {b : Nat} (hb : w.heap.size ≤ b) (i j k : Nat) (u v x : Value) : Dr bo w (((W.setCell ⟨b, i, none⟩ u).setCell ⟨b, j, none⟩ v).setCell ⟨b, k, none⟩ x) :=
  ((h.setNew (p := ⟨b, i, none⟩) hb u).setNew (p := ⟨b, j, none⟩) hb v).setNew (p := ⟨b, k, none⟩) hb x
theorem rdr3 {W : World} {bo : Nat} {A : Option Addr} {n cap a : Nat} (h : Rdr W bo A n cap a) {b : Nat} (hb : bo ≠ b) (i j k : Nat) (u v x : Value) : Rdr (((W.setCell ⟨b, i, none⟩ u).setCell ⟨b, j, none⟩ v).setCell ⟨b, k, none⟩ x) bo A n cap a :=
  ((h.far (p := ⟨b, i, none⟩) hb u).far (p := ⟨b, j, none⟩) hb v).far (p := ⟨b, k, none⟩) hb x
def LJones (bo : Nat) (A : Option Addr) (n cap a : Nat) (w : World) : Ending → World → Prop := fun e w' =>
  ∃ (x y : Fr) (a' : Nat), e = .returned (.agg #[.int .i64 x.re, .int .i64 x.im, .int .i64 x.den, .int .i64 y.re, .int .i64 y.im, .int .i64 y.den]) ∧ a' ≤ a + 11 ∧ Dr bo w w' ∧ Rdr w' bo A n cap a'
set_option maxRecDepth 10000 in
set_option maxHeartbeats 2000000 in
theorem l91Jones_any {W : World} {A : Option Addr} {bs : List Int} (hB : Byts W A bs) (hl : bs.length ≤ 2000) (bo cap a : Nat) (w : World) (hE : Ex W w) (hbo : W.heap.size ≤ bo)
    (hb : Rdr w bo A bs.length cap a) (ha : a ≤ 900000) : Calls Tryz.prog 25 #[.pointer (some ⟨bo, 0, none⟩)] w (LJones bo A bs.length cap a w) := by
  have hf := fun a w hE hb ha => l91Frac_any hB hl bo cap a w hE hbo hb ha
  have hpk := fun a m w hE hb ha hm hm2 => pick_dr hB hl bo cap a m w hE hbo hb ha hm hm2
  have HF := Lib.hid hf
  have HP := Lib.hid hpk
  have hlb := hb.lt
  clear hf hpk hB hl
  go_enter Tryz.func25, Tryz.ntmps25
  go_wp2_with fail
  refine (HF.out a _ (hE.alloc _) (hb.alloc _) (by omega)).mono ?_
  rintro e w1 ⟨⟨x1, x2, x3⟩, a1, rfl, ha1, hd, hb1⟩
  simp only [Fr.v]
  have bR := hd.box _ _ _ (by omega) (Box.new w #[.int .i64 0, .int .i64 0, .int .i64 0, .int .i64 0, .int .i64 0, .int .i64 0] 52)
  have hs01 := bR.lt
  have hD := (Dr.of_ex ((Ex.refl w).alloc (.cells #[.int .i64 0, .int .i64 0, .int .i64 0, .int .i64 0, .int .i64 0, .int .i64 0] 52))).trans hd
  clear hd
  have bX := Box.new w1 #[.int .i64 x1, .int .i64 x2, .int .i64 x3] 24
  replace bR := bR.alloc (.cells #[.int .i64 x1, .int .i64 x2, .int .i64 x3] 24)
  replace hD := hD.alloc (.cells #[.int .i64 x1, .int .i64 x2, .int .i64 x3] 24)
  have hb1b : Rdr (w1.alloc (.cells #[.int .i64 x1, .int .i64 x2, .int .i64 x3] 24)) bo A bs.length cap a1 := Box.alloc hb1 _
  have hl1 := hb1.lt
  go_wp2_with fail
  refine (HF.out a1 _ (hD.ex W hE hbo) hb1b (by omega)).mono ?_
  rintro e w2 ⟨⟨y1, y2, y3⟩, a2, rfl, ha2, hd, hb2⟩
  simp only [Fr.v]
  replace bR := hd.box _ _ _ (by omega) bR
  replace bX := hd.box _ _ _ (by omega) bX
  have hx2 := bX.lt
  replace hD := hD.trans hd
  clear hd hb1b
  have bY := Box.new w2 #[.int .i64 y1, .int .i64 y2, .int .i64 y3] 24
  replace bR := bR.alloc (.cells #[.int .i64 y1, .int .i64 y2, .int .i64 y3] 24)
  replace bX := bX.alloc (.cells #[.int .i64 y1, .int .i64 y2, .int .i64 y3] 24)
  replace hD := hD.alloc (.cells #[.int .i64 y1, .int .i64 y2, .int .i64 y3] 24)
  have hb2b : Rdr (w2.alloc (.cells #[.int .i64 y1, .int .i64 y2, .int .i64 y3] 24)) bo A bs.length cap a2 := Box.alloc hb2 _
  have hl2 := hb2.lt
  go_wp2_with fail
  refine (HP.out a2 10 _ (hD.ex W hE hbo) hb2b (by omega) (by omega) (by omega)).mono ?_
  rintro e w3 ⟨v, rfl, hv0, hv1, hd, hb3⟩
  replace bR := hd.box _ _ _ (by omega) bR
  replace bX := hd.box _ _ _ (by omega) bX
  replace bY := hd.box _ _ _ (by omega) bY
  replace hD := hD.trans hd
  clear hd hb2b
  have cX := bX.cell
  have cY := bY.cell
  have cR := bR.cell
  have fX := bX.frozen
  have fY := bY.frozen
  have fR := bR.frozen
  have zR := bR.lt
  have zX := bX.lt
  have zY := bY.lt
  rcases (by omega : v = 0 ∨ v = 1 ∨ 2 ≤ v) with rfl | rfl | hv
  · go_wp2
    replace hD := dr3 hD (b := w1.heap.size) (by omega) 0 1 2 (.int .i64 0) (.int .i64 0) (.int .i64 1)
    have hbX := rdr3 hb3 (b := w1.heap.size) (by omega) 0 1 2 (.int .i64 0) (.int .i64 0) (.int .i64 1)
    replace bR := far3 bR (b := w1.heap.size) (by omega) 0 1 2 (.int .i64 0) (.int .i64 0) (.int .i64 1)
    clear cX cY cR fX fY fR zR zX zY bX bY hb3
    replace hD := dr3 (dr3 hD (b := w.heap.size) (by omega) 0 1 2 (.int .i64 0) (.int .i64 0) (.int .i64 1)) (b := w.heap.size) (by omega) 3 4 5 (.int .i64 y1) (.int .i64 y2) (.int .i64 y3)
    replace hbX := rdr3 (rdr3 hbX (b := w.heap.size) (by omega) 0 1 2 (.int .i64 0) (.int .i64 0) (.int .i64 1)) (b := w.heap.size) (by omega) 3 4 5 (.int .i64 y1) (.int .i64 y2) (.int .i64 y3)
    replace bR := put6 bR (.int .i64 0) (.int .i64 0) (.int .i64 1) (.int .i64 y1) (.int .i64 y2) (.int .i64 y3)
    generalize (((((((((w3.setCell ⟨w1.heap.size, 0, none⟩ (.int .i64 0)).setCell ⟨w1.heap.size, 1, none⟩ (.int .i64 0)).setCell ⟨w1.heap.size, 2, none⟩ (.int .i64 1)).setCell ⟨w.heap.size, 0, none⟩ (.int .i64 0)).setCell ⟨w.heap.size, 1, none⟩ (.int .i64 0)).setCell ⟨w.heap.size, 2, none⟩ (.int .i64 1)).setCell ⟨w.heap.size, 3, none⟩ (.int .i64 y1)).setCell ⟨w.heap.size, 4, none⟩ (.int .i64 y2)).setCell ⟨w.heap.size, 5, none⟩ (.int .i64 y3)) = Y at bR hD hbX ⊢
    have cR := bR.cell
    refine bodyPost_ret (v := .agg #[.int .i64 0, .int .i64 0, .int .i64 1, .int .i64 y1, .int .i64 y2, .int .i64 y3]) ?_ rfl ⟨⟨0, 0, 1⟩, ⟨y1, y2, y3⟩, a2 + 1, rfl, by omega, hD, hbX⟩
    simp [results, Tryz.results25, go_sem, cR]
  · go_wp2
    replace hD := dr3 hD (b := w2.heap.size) (by omega) 0 1 2 (.int .i64 0) (.int .i64 0) (.int .i64 1)
    have hbX := rdr3 hb3 (b := w2.heap.size) (by omega) 0 1 2 (.int .i64 0) (.int .i64 0) (.int .i64 1)
    replace bR := far3 bR (b := w2.heap.size) (by omega) 0 1 2 (.int .i64 0) (.int .i64 0) (.int .i64 1)
    clear cX cY cR fX fY fR zR zX zY bX bY hb3
    replace hD := dr3 (dr3 hD (b := w.heap.size) (by omega) 0 1 2 (.int .i64 x1) (.int .i64 x2) (.int .i64 x3)) (b := w.heap.size) (by omega) 3 4 5 (.int .i64 0) (.int .i64 0) (.int .i64 1)
    replace hbX := rdr3 (rdr3 hbX (b := w.heap.size) (by omega) 0 1 2 (.int .i64 x1) (.int .i64 x2) (.int .i64 x3)) (b := w.heap.size) (by omega) 3 4 5 (.int .i64 0) (.int .i64 0) (.int .i64 1)
    replace bR := put6 bR (.int .i64 x1) (.int .i64 x2) (.int .i64 x3) (.int .i64 0) (.int .i64 0) (.int .i64 1)
    generalize (((((((((w3.setCell ⟨w2.heap.size, 0, none⟩ (.int .i64 0)).setCell ⟨w2.heap.size, 1, none⟩ (.int .i64 0)).setCell ⟨w2.heap.size, 2, none⟩ (.int .i64 1)).setCell ⟨w.heap.size, 0, none⟩ (.int .i64 x1)).setCell ⟨w.heap.size, 1, none⟩ (.int .i64 x2)).setCell ⟨w.heap.size, 2, none⟩ (.int .i64 x3)).setCell ⟨w.heap.size, 3, none⟩ (.int .i64 0)).setCell ⟨w.heap.size, 4, none⟩ (.int .i64 0)).setCell ⟨w.heap.size, 5, none⟩ (.int .i64 1)) = Y at bR hD hbX ⊢
    have cR := bR.cell
    refine bodyPost_ret (v := .agg #[.int .i64 x1, .int .i64 x2, .int .i64 x3, .int .i64 0, .int .i64 0, .int .i64 1]) ?_ rfl ⟨⟨x1, x2, x3⟩, ⟨0, 0, 1⟩, a2 + 1, rfl, by omega, hD, hbX⟩
    simp [results, Tryz.results25, go_sem, cR]
  · have t0 : (v == 0) = false := by simp; omega
    have t1 : (v == 1) = false := by simp; omega
    go_wp2
    have hbX := hb3
    clear cX cY cR fX fY fR zR zX zY bX bY hb3
    replace hD := dr3 (dr3 hD (b := w.heap.size) (by omega) 0 1 2 (.int .i64 x1) (.int .i64 x2) (.int .i64 x3)) (b := w.heap.size) (by omega) 3 4 5 (.int .i64 y1) (.int .i64 y2) (.int .i64 y3)
    replace hbX := rdr3 (rdr3 hbX (b := w.heap.size) (by omega) 0 1 2 (.int .i64 x1) (.int .i64 x2) (.int .i64 x3)) (b := w.heap.size) (by omega) 3 4 5 (.int .i64 y1) (.int .i64 y2) (.int .i64 y3)
    replace bR := put6 bR (.int .i64 x1) (.int .i64 x2) (.int .i64 x3) (.int .i64 y1) (.int .i64 y2) (.int .i64 y3)
    generalize ((((((w3.setCell ⟨w.heap.size, 0, none⟩ (.int .i64 x1)).setCell ⟨w.heap.size, 1, none⟩ (.int .i64 x2)).setCell ⟨w.heap.size, 2, none⟩ (.int .i64 x3)).setCell ⟨w.heap.size, 3, none⟩ (.int .i64 y1)).setCell ⟨w.heap.size, 4, none⟩ (.int .i64 y2)).setCell ⟨w.heap.size, 5, none⟩ (.int .i64 y3)) = Y at bR hD hbX ⊢
    have cR := bR.cell
    refine bodyPost_ret (v := .agg #[.int .i64 x1, .int .i64 x2, .int .i64 x3, .int .i64 y1, .int .i64 y2, .int .i64 y3]) ?_ rfl ⟨⟨x1, x2, x3⟩, ⟨y1, y2, y3⟩, a2 + 1, rfl, by omega, hD, hbX⟩
    simp [results, Tryz.results25, go_sem, cR]

set_option maxRecDepth 10000 in
set_option maxHeartbeats 2000000 in
theorem l91Real_any {W : World} {A : Option Addr} {bs : List Int} (hB : Byts W A bs) (hl : bs.length ≤ 2000) (bo cap a : Nat) (w : World) (hE : Ex W w) (hbo : W.heap.size ≤ bo)
    (hb : Rdr w bo A bs.length cap a) (ha : a ≤ 900000) : Calls Tryz.prog 27 #[.pointer (some ⟨bo, 0, none⟩)] w fun e w' => ∃ (x : Fr) (a' : Nat), e = .returned x.v ∧ a' ≤ a + 8 ∧ Dr bo w w' ∧ Rdr w' bo A bs.length cap a' := by
  have hf := fun a w hE hb ha => l91Frac_any hB hl bo cap a w hE hbo hb ha
  have hpk := fun a m w hE hb ha hm hm2 => pick_dr hB hl bo cap a m w hE hbo hb ha hm hm2
  have HF := Lib.hid hf
  have HP := Lib.hid hpk
  have hlb := hb.lt
  clear hf hpk hB hl
  go_enter Tryz.func27, Tryz.ntmps27
  go_wp2_with fail
  refine (HF.out a _ (hE.alloc _) (hb.alloc _) (by omega)).mono ?_
  rintro e w1 ⟨⟨x1, x2, x3⟩, a1, rfl, ha1, hd, hb1⟩
  simp only [Fr.v]
  have bR := hd.box _ _ _ (by omega) (Box.new w #[.int .i64 0, .int .i64 0, .int .i64 0] 24)
  have hs01 := bR.lt
  have hD := (Dr.of_ex ((Ex.refl w).alloc (.cells #[.int .i64 0, .int .i64 0, .int .i64 0] 24))).trans hd
  clear hd
  have bX := Box.new w1 #[.int .i64 x1, .int .i64 x2, .int .i64 x3] 24
  replace bR := bR.alloc (.cells #[.int .i64 x1, .int .i64 x2, .int .i64 x3] 24)
  replace hD := hD.alloc (.cells #[.int .i64 x1, .int .i64 x2, .int .i64 x3] 24)
  have hb1b : Rdr (w1.alloc (.cells #[.int .i64 x1, .int .i64 x2, .int .i64 x3] 24)) bo A bs.length cap a1 := Box.alloc hb1 _
  have hl1 := hb1.lt
  go_wp2_with fail
  refine (HP.out a1 20 _ (hD.ex W hE hbo) hb1b (by omega) (by omega) (by omega)).mono ?_
  rintro e w2 ⟨v, rfl, hv0, hv1, hd, hb2⟩
  replace bR := hd.box _ _ _ (by omega) bR
  replace bX := hd.box _ _ _ (by omega) bX
  replace hD := hD.trans hd
  clear hd hb1b hb1
  by_cases hv : v = 0
  · subst hv
    have cX := bX.cell
    have cR := bR.cell
    have fR := bR.frozen
    have zR := bR.lt
    go_wp2
    refine bodyPost_ret (v := .agg #[.int .i64 x1, .int .i64 x2, .int .i64 x3]) ?_ rfl ⟨⟨x1, x2, x3⟩, a1 + 1, rfl, by omega, ?_, ?_⟩
    · simp [results, Tryz.results27, go_sem, cR, zR]
    · repeat' (first
        | exact hD
        | refine Dr.setNew ?_ (by simp <;> omega) _)
    · unfold Rdr at hb2 ⊢
      repeat' (first
        | exact hb2
        | refine Box.far ?_ (by simp <;> omega) _)
  · have t0 : (v == 0) = false := by simpa using hv
    clear bX
    go_wp2_with fail
    refine (HP.out (a1 + 1) 17 _ (hD.ex W hE hbo) hb2 (by omega) (by omega) (by omega)).mono ?_
    rintro e w3 ⟨u1, rfl, hu10, hu11, hd, hb3⟩
    replace bR := hd.box _ _ _ (by omega) bR
    replace hD := hD.trans hd
    clear hd hb2 t0
    go_wp2_with fail
    refine (HP.out (a1 + 1 + 1) 4 _ (hD.ex W hE hbo) hb3 (by omega) (by omega) (by omega)).mono ?_
    rintro e w4 ⟨u2, rfl, hu20, hu21, hd, hb4⟩
    replace bR := hd.box _ _ _ (by omega) bR
    replace hD := hD.trans hd
    clear hd hb3
    have l1 := fun w => FrGot.tot (l2Low_any (u1 - 8) 0 (1 + u2) w (by omega) (by omega) (by omega))
    have L1 := Lib.hid l1
    clear l1
    go_wp2_with fail
    refine (L1.out _).mono ?_
    rintro e w5 ⟨r1, r2, r3, ok, rfl, hx⟩
    replace bR := bR.ex hx
    replace hD := hD.trans (Dr.of_ex hx)
    have hb5 : Rdr w5 bo A bs.length cap (a1 + 1 + 1 + 1) := Box.ex hb4 hx
    have cR := bR.cell
    have fR := bR.frozen
    have zR := bR.lt
    clear hx hb4
    go_wp2
    refine bodyPost_ret (v := .agg #[.int .i64 r1, .int .i64 r2, .int .i64 r3]) ?_ rfl ⟨⟨r1, r2, r3⟩, a1 + 1 + 1 + 1, rfl, by omega, ?_, ?_⟩
    · simp [results, Tryz.results27, go_sem, cR, zR]
    · repeat' (first
        | exact hD
        | refine Dr.alloc ?_ _
        | refine Dr.setNew ?_ (by simp <;> omega) _)
    · unfold Rdr at hb5 ⊢
      repeat' (first
        | exact hb5
        | refine Box.alloc ?_ _
        | refine Box.far ?_ (by simp <;> omega) _)

def LStokes (bo : Nat) (A : Option Addr) (n cap a : Nat) (w : World) : Ending → World → Prop := fun e w' =>
  ∃ (x y z u : Fr) (a' : Nat), e = .returned (Sv x y z u) ∧ a' ≤ a + 100 ∧ Dr bo w w' ∧ Rdr w' bo A n cap a'
set_option maxRecDepth 10000 in
set_option maxHeartbeats 8000000 in
theorem l91Stokes_any {W : World} {A : Option Addr} {bs : List Int} (hB : Byts W A bs) (hl : bs.length ≤ 2000) (bo cap a : Nat) (w : World) (hE : Ex W w) (hbo : W.heap.size ≤ bo)
    (hb : Rdr w bo A bs.length cap a) (ha : a ≤ 800000) : Calls Tryz.prog 12 #[.pointer (some ⟨bo, 0, none⟩)] w (LStokes bo A bs.length cap a w) := by
  have hj := fun a w hE hb ha => l91Jones_any hB hl bo cap a w hE hbo hb ha
  have hr := fun a w hE hb ha => l91Real_any hB hl bo cap a w hE hbo hb ha
  have hpk := fun a m w hE hb ha hm hm2 => pick_dr hB hl bo cap a m w hE hbo hb ha hm hm2
  have HJ := Lib.hid hj
  have HQ := Lib.hid hr
  have HP := Lib.hid hpk
  have HA := Lib.hid stokesAdd_tot
  have hlb := hb.lt
  clear hj hr hpk hB hl
  go_enter Tryz.func12, Tryz.ntmps12
  go_wp2_with fail
  refine (HJ.out a _ (hE.alloc _) (hb.alloc _) (by omega)).mono ?_
  rintro e w1 ⟨x, y, a1, rfl, ha1, hd, hb1⟩
  have bR := hd.box _ _ _ (by omega) (Box.new w #[.int .i64 0, .int .i64 0, .int .i64 0, .int .i64 0, .int .i64 0, .int .i64 0, .int .i64 0, .int .i64 0, .int .i64 0, .int .i64 0, .int .i64 0, .int .i64 0] 27)
  have hs01 := bR.lt
  have hD := (Dr.of_ex ((Ex.refl w).alloc (.cells #[.int .i64 0, .int .i64 0, .int .i64 0, .int .i64 0, .int .i64 0, .int .i64 0, .int .i64 0, .int .i64 0, .int .i64 0, .int .i64 0, .int .i64 0, .int .i64 0] 27))).trans hd
  clear hd
  go_wp2_with fail
  refine (stokesOf_tot _ _ _ _ _ _ _).mono ?_
  rintro e w2 ⟨sa, sb, sc, sd, ok, rfl, hx⟩
  simp only [Sv]
  replace bR := bR.ex hx
  have hRs2 := bR.lt
  replace hD := hD.trans (Dr.of_ex hx)
  have hbz := hb1.ex hx
  clear hx hb1
  have hsz2 := hbz.lt
  have bS := Box.new w2 #[.int .i64 sa.re, .int .i64 sa.im, .int .i64 sa.den, .int .i64 sb.re, .int .i64 sb.im, .int .i64 sb.den, .int .i64 sc.re, .int .i64 sc.im, .int .i64 sc.den, .int .i64 sd.re, .int .i64 sd.im, .int .i64 sd.den] 27
  replace bR := bR.alloc (.cells #[.int .i64 sa.re, .int .i64 sa.im, .int .i64 sa.den, .int .i64 sb.re, .int .i64 sb.im, .int .i64 sb.den, .int .i64 sc.re, .int .i64 sc.im, .int .i64 sc.den, .int .i64 sd.re, .int .i64 sd.im, .int .i64 sd.den] 27)
  replace hD := hD.alloc (.cells #[.int .i64 sa.re, .int .i64 sa.im, .int .i64 sa.den, .int .i64 sb.re, .int .i64 sb.im, .int .i64 sb.den, .int .i64 sc.re, .int .i64 sc.im, .int .i64 sc.den, .int .i64 sd.re, .int .i64 sd.im, .int .i64 sd.den] 27)
  have hb2 : Rdr (w2.alloc (.cells #[.int .i64 sa.re, .int .i64 sa.im, .int .i64 sa.den, .int .i64 sb.re, .int .i64 sb.im, .int .i64 sb.den, .int .i64 sc.re, .int .i64 sc.im, .int .i64 sc.den, .int .i64 sd.re, .int .i64 sd.im, .int .i64 sd.den] 27)) bo A bs.length cap a1 := Box.alloc hbz _
  clear hbz
  rcases ok with _ | _
  · go_upto_region 8 with fail
    have hRW := bR.lt
    clear bS
    generalize (w2.alloc (.cells #[.int .i64 sa.re, .int .i64 sa.im, .int .i64 sa.den, .int .i64 sb.re, .int .i64 sb.im, .int .i64 sb.den, .int .i64 sc.re, .int .i64 sc.im, .int .i64 sc.den, .int .i64 sd.re, .int .i64 sd.im, .int .i64 sd.den] 27)) = ws at bR hD hb2 hRW ⊢
    go_wp2_with fail
    have bO := Box.new ws #[.int .i64 0, .int .i64 0, .int .i64 0, .int .i64 0, .int .i64 0, .int .i64 0, .int .i64 0, .int .i64 0, .int .i64 0, .int .i64 0, .int .i64 0, .int .i64 0] 27
    replace bR := bR.alloc (.cells #[.int .i64 0, .int .i64 0, .int .i64 0, .int .i64 0, .int .i64 0, .int .i64 0, .int .i64 0, .int .i64 0, .int .i64 0, .int .i64 0, .int .i64 0, .int .i64 0] 27)
    replace hD := hD.alloc (.cells #[.int .i64 0, .int .i64 0, .int .i64 0, .int .i64 0, .int .i64 0, .int .i64 0, .int .i64 0, .int .i64 0, .int .i64 0, .int .i64 0, .int .i64 0, .int .i64 0] 27)
    have hbl : Rdr (ws.alloc (.cells #[.int .i64 0, .int .i64 0, .int .i64 0, .int .i64 0, .int .i64 0, .int .i64 0, .int .i64 0, .int .i64 0, .int .i64 0, .int .i64 0, .int .i64 0, .int .i64 0] 27)) bo A bs.length cap a1 := Box.alloc hb2 _
    have hsO := hb2.lt
    clear hb2
    have hR0 : w.heap.size < ws.heap.size := hRW
    obtain ⟨O, hO⟩ : ∃ O, ws.heap.size = O := ⟨_, rfl⟩
    generalize ws.alloc (.cells #[.int .i64 0, .int .i64 0, .int .i64 0, .int .i64 0, .int .i64 0, .int .i64 0, .int .i64 0, .int .i64 0, .int .i64 0, .int .i64 0, .int .i64 0, .int .i64 0] 27) = z0 at bO bR hD hbl ⊢
    rw [hO] at bO hR0 hsO ⊢
    clear hO
    refine wp_loop_rounds 5 ?_
    rw [rounds_succ]
    go_wp2_with fail
    refine (HQ.out a1 _ (hD.ex W hE hbo) hbl (by omega)).mono ?_
    rintro e y0 ⟨q0, c0, rfl, hc0, hd, hbl2⟩
    simp only [Fr.v]
    replace bR := hd.box _ _ _ (by omega) bR
    replace bO := hd.box _ _ _ (by omega) bO
    replace hD := hD.trans hd
    clear hd hbl
    have cO := bO.cell
    have zO := bO.lt
    have fO := bO.frozen
    go_wp2_with fail
    clear cO zO fO
    replace hD := dr3 hD (b := O) (by omega) 0 1 2 (.int .i64 q0.re) (.int .i64 q0.im) (.int .i64 q0.den)
    have hbl := rdr3 hbl2 (b := O) (by omega) 0 1 2 (.int .i64 q0.re) (.int .i64 q0.im) (.int .i64 q0.den)
    replace bR := far3 bR (b := O) (by omega) 0 1 2 (.int .i64 q0.re) (.int .i64 q0.im) (.int .i64 q0.den)
    replace bO := put4_0 q0.re q0.im q0.den 0 0 0 0 0 0 0 0 0 bO
    clear hbl2
    generalize ((y0.setCell ⟨O, 0, none⟩ (.int .i64 q0.re)).setCell ⟨O, 1, none⟩ (.int .i64 q0.im)).setCell ⟨O, 2, none⟩ (.int .i64 q0.den) = z1 at bO bR hD hbl ⊢
    rw [rounds_succ]
    go_wp2_with fail
    refine (HQ.out c0 _ (hD.ex W hE hbo) hbl (by omega)).mono ?_
    rintro e y1 ⟨q1, c1, rfl, hc1, hd, hbl2⟩
    simp only [Fr.v]
    replace bR := hd.box _ _ _ (by omega) bR
    replace bO := hd.box _ _ _ (by omega) bO
    replace hD := hD.trans hd
    clear hd hbl
    have cO := bO.cell
    have zO := bO.lt
    have fO := bO.frozen
    go_wp2_with fail
    clear cO zO fO
    replace hD := dr3 hD (b := O) (by omega) 3 4 5 (.int .i64 q1.re) (.int .i64 q1.im) (.int .i64 q1.den)
    have hbl := rdr3 hbl2 (b := O) (by omega) 3 4 5 (.int .i64 q1.re) (.int .i64 q1.im) (.int .i64 q1.den)
    replace bR := far3 bR (b := O) (by omega) 3 4 5 (.int .i64 q1.re) (.int .i64 q1.im) (.int .i64 q1.den)
    replace bO := put4_1 q0.re q0.im q0.den q1.re q1.im q1.den 0 0 0 0 0 0 bO
    clear hbl2
    generalize ((y1.setCell ⟨O, 3, none⟩ (.int .i64 q1.re)).setCell ⟨O, 4, none⟩ (.int .i64 q1.im)).setCell ⟨O, 5, none⟩ (.int .i64 q1.den) = z2 at bO bR hD hbl ⊢
    rw [rounds_succ]
    go_wp2_with fail
    refine (HQ.out c1 _ (hD.ex W hE hbo) hbl (by omega)).mono ?_
    rintro e y2 ⟨q2, c2, rfl, hc2, hd, hbl2⟩
    simp only [Fr.v]
    replace bR := hd.box _ _ _ (by omega) bR
    replace bO := hd.box _ _ _ (by omega) bO
    replace hD := hD.trans hd
    clear hd hbl
    have cO := bO.cell
    have zO := bO.lt
    have fO := bO.frozen
    go_wp2_with fail
    clear cO zO fO
    replace hD := dr3 hD (b := O) (by omega) 6 7 8 (.int .i64 q2.re) (.int .i64 q2.im) (.int .i64 q2.den)
    have hbl := rdr3 hbl2 (b := O) (by omega) 6 7 8 (.int .i64 q2.re) (.int .i64 q2.im) (.int .i64 q2.den)
    replace bR := far3 bR (b := O) (by omega) 6 7 8 (.int .i64 q2.re) (.int .i64 q2.im) (.int .i64 q2.den)
    replace bO := put4_2 q0.re q0.im q0.den q1.re q1.im q1.den q2.re q2.im q2.den 0 0 0 bO
    clear hbl2
    generalize ((y2.setCell ⟨O, 6, none⟩ (.int .i64 q2.re)).setCell ⟨O, 7, none⟩ (.int .i64 q2.im)).setCell ⟨O, 8, none⟩ (.int .i64 q2.den) = z3 at bO bR hD hbl ⊢
    rw [rounds_succ]
    go_wp2_with fail
    refine (HQ.out c2 _ (hD.ex W hE hbo) hbl (by omega)).mono ?_
    rintro e y3 ⟨q3, c3, rfl, hc3, hd, hbl2⟩
    simp only [Fr.v]
    replace bR := hd.box _ _ _ (by omega) bR
    replace bO := hd.box _ _ _ (by omega) bO
    replace hD := hD.trans hd
    clear hd hbl
    have cO := bO.cell
    have zO := bO.lt
    have fO := bO.frozen
    go_wp2_with fail
    clear cO zO fO
    replace hD := dr3 hD (b := O) (by omega) 9 10 11 (.int .i64 q3.re) (.int .i64 q3.im) (.int .i64 q3.den)
    have hbl := rdr3 hbl2 (b := O) (by omega) 9 10 11 (.int .i64 q3.re) (.int .i64 q3.im) (.int .i64 q3.den)
    replace bR := far3 bR (b := O) (by omega) 9 10 11 (.int .i64 q3.re) (.int .i64 q3.im) (.int .i64 q3.den)
    replace bO := put4_3 q0.re q0.im q0.den q1.re q1.im q1.den q2.re q2.im q2.den q3.re q3.im q3.den bO
    clear hbl2
    generalize ((y3.setCell ⟨O, 9, none⟩ (.int .i64 q3.re)).setCell ⟨O, 10, none⟩ (.int .i64 q3.im)).setCell ⟨O, 11, none⟩ (.int .i64 q3.den) = z4 at bO bR hD hbl ⊢
    rw [rounds_succ]
    have cX := bO.cell
    have cR := bR.cell
    have zR := bR.lt
    have fR := bR.frozen
    go_wp2
    clear cX cR zR fR
    replace hD := dr3 (dr3 (dr3 (dr3 (hD) (b := w.heap.size) (by omega) 0 1 2 (.int .i64 q0.re) (.int .i64 q0.im) (.int .i64 q0.den)) (b := w.heap.size) (by omega) 3 4 5 (.int .i64 q1.re) (.int .i64 q1.im) (.int .i64 q1.den)) (b := w.heap.size) (by omega) 6 7 8 (.int .i64 q2.re) (.int .i64 q2.im) (.int .i64 q2.den)) (b := w.heap.size) (by omega) 9 10 11 (.int .i64 q3.re) (.int .i64 q3.im) (.int .i64 q3.den)
    have hbF := rdr3 (rdr3 (rdr3 (rdr3 (hbl) (b := w.heap.size) (by omega) 0 1 2 (.int .i64 q0.re) (.int .i64 q0.im) (.int .i64 q0.den)) (b := w.heap.size) (by omega) 3 4 5 (.int .i64 q1.re) (.int .i64 q1.im) (.int .i64 q1.den)) (b := w.heap.size) (by omega) 6 7 8 (.int .i64 q2.re) (.int .i64 q2.im) (.int .i64 q2.den)) (b := w.heap.size) (by omega) 9 10 11 (.int .i64 q3.re) (.int .i64 q3.im) (.int .i64 q3.den)
    replace bR := put4_3 q0.re q0.im q0.den q1.re q1.im q1.den q2.re q2.im q2.den q3.re q3.im q3.den (put4_2 q0.re q0.im q0.den q1.re q1.im q1.den q2.re q2.im q2.den q3.re q3.im q3.den (put4_1 q0.re q0.im q0.den q1.re q1.im q1.den q2.re q2.im q2.den q3.re q3.im q3.den (put4_0 q0.re q0.im q0.den q1.re q1.im q1.den q2.re q2.im q2.den q3.re q3.im q3.den (bR))))
    clear hbl
    generalize ((((((((((((z4.setCell ⟨w.heap.size, 0, none⟩ (.int .i64 q0.re)).setCell ⟨w.heap.size, 1, none⟩ (.int .i64 q0.im)).setCell ⟨w.heap.size, 2, none⟩ (.int .i64 q0.den)).setCell ⟨w.heap.size, 3, none⟩ (.int .i64 q1.re)).setCell ⟨w.heap.size, 4, none⟩ (.int .i64 q1.im)).setCell ⟨w.heap.size, 5, none⟩ (.int .i64 q1.den)).setCell ⟨w.heap.size, 6, none⟩ (.int .i64 q2.re)).setCell ⟨w.heap.size, 7, none⟩ (.int .i64 q2.im)).setCell ⟨w.heap.size, 8, none⟩ (.int .i64 q2.den)).setCell ⟨w.heap.size, 9, none⟩ (.int .i64 q3.re)).setCell ⟨w.heap.size, 10, none⟩ (.int .i64 q3.im)).setCell ⟨w.heap.size, 11, none⟩ (.int .i64 q3.den)) = Y at bR hD hbF ⊢
    have cR := bR.cell
    refine bodyPost_ret (v := .agg #[.int .i64 q0.re, .int .i64 q0.im, .int .i64 q0.den, .int .i64 q1.re, .int .i64 q1.im, .int .i64 q1.den, .int .i64 q2.re, .int .i64 q2.im, .int .i64 q2.den, .int .i64 q3.re, .int .i64 q3.im, .int .i64 q3.den]) ?_ rfl ⟨q0, q1, q2, q3, c3, rfl, by omega, hD, hbF⟩
    simp [results, Tryz.results12, go_sem, cR]
  · go_wp2_with fail
    refine (HP.out a1 3 _ (hD.ex W hE hbo) hb2 (by omega) (by omega) (by omega)).mono ?_
    rintro e w3 ⟨v, rfl, hv0, hv1, hd, hb3⟩
    replace bR := hd.box _ _ _ (by omega) bR
    replace bS := hd.box _ _ _ (by omega) bS
    replace hD := hD.trans hd
    clear hd hb2
    by_cases hv : 0 < v
    rotate_left
    · have hRW : w.heap.size < w3.heap.size := bR.lt
      clear bS
      go_wp2_with fail
      have bO := Box.new w3 #[.int .i64 0, .int .i64 0, .int .i64 0, .int .i64 0, .int .i64 0, .int .i64 0, .int .i64 0, .int .i64 0, .int .i64 0, .int .i64 0, .int .i64 0, .int .i64 0] 27
      replace bR := bR.alloc (.cells #[.int .i64 0, .int .i64 0, .int .i64 0, .int .i64 0, .int .i64 0, .int .i64 0, .int .i64 0, .int .i64 0, .int .i64 0, .int .i64 0, .int .i64 0, .int .i64 0] 27)
      replace hD := hD.alloc (.cells #[.int .i64 0, .int .i64 0, .int .i64 0, .int .i64 0, .int .i64 0, .int .i64 0, .int .i64 0, .int .i64 0, .int .i64 0, .int .i64 0, .int .i64 0, .int .i64 0] 27)
      have hbl : Rdr (w3.alloc (.cells #[.int .i64 0, .int .i64 0, .int .i64 0, .int .i64 0, .int .i64 0, .int .i64 0, .int .i64 0, .int .i64 0, .int .i64 0, .int .i64 0, .int .i64 0, .int .i64 0] 27)) bo A bs.length cap (a1 + 1) := Box.alloc hb3 _
      have hsO := hb3.lt
      clear hb3
      have hR0 : w.heap.size < w3.heap.size := hRW
      obtain ⟨O, hO⟩ : ∃ O, w3.heap.size = O := ⟨_, rfl⟩
      generalize w3.alloc (.cells #[.int .i64 0, .int .i64 0, .int .i64 0, .int .i64 0, .int .i64 0, .int .i64 0, .int .i64 0, .int .i64 0, .int .i64 0, .int .i64 0, .int .i64 0, .int .i64 0] 27) = z0 at bO bR hD hbl ⊢
      rw [hO] at bO hR0 hsO ⊢
      clear hO
      refine wp_loop_rounds 5 ?_
      rw [rounds_succ]
      go_wp2_with fail
      refine (HQ.out (a1 + 1) _ (hD.ex W hE hbo) hbl (by omega)).mono ?_
      rintro e y0 ⟨q0, c0, rfl, hc0, hd, hbl2⟩
      simp only [Fr.v]
      replace bR := hd.box _ _ _ (by omega) bR
      replace bO := hd.box _ _ _ (by omega) bO
      replace hD := hD.trans hd
      clear hd hbl
      have cO := bO.cell
      have zO := bO.lt
      have fO := bO.frozen
      go_wp2_with fail
      clear cO zO fO
      replace hD := dr3 hD (b := O) (by omega) 0 1 2 (.int .i64 q0.re) (.int .i64 q0.im) (.int .i64 q0.den)
      have hbl := rdr3 hbl2 (b := O) (by omega) 0 1 2 (.int .i64 q0.re) (.int .i64 q0.im) (.int .i64 q0.den)
      replace bR := far3 bR (b := O) (by omega) 0 1 2 (.int .i64 q0.re) (.int .i64 q0.im) (.int .i64 q0.den)
      replace bO := put4_0 q0.re q0.im q0.den 0 0 0 0 0 0 0 0 0 bO
      clear hbl2
      generalize ((y0.setCell ⟨O, 0, none⟩ (.int .i64 q0.re)).setCell ⟨O, 1, none⟩ (.int .i64 q0.im)).setCell ⟨O, 2, none⟩ (.int .i64 q0.den) = z1 at bO bR hD hbl ⊢
      rw [rounds_succ]
      go_wp2_with fail
      refine (HQ.out c0 _ (hD.ex W hE hbo) hbl (by omega)).mono ?_
      rintro e y1 ⟨q1, c1, rfl, hc1, hd, hbl2⟩
      simp only [Fr.v]
      replace bR := hd.box _ _ _ (by omega) bR
      replace bO := hd.box _ _ _ (by omega) bO
      replace hD := hD.trans hd
      clear hd hbl
      have cO := bO.cell
      have zO := bO.lt
      have fO := bO.frozen
      go_wp2_with fail
      clear cO zO fO
      replace hD := dr3 hD (b := O) (by omega) 3 4 5 (.int .i64 q1.re) (.int .i64 q1.im) (.int .i64 q1.den)
      have hbl := rdr3 hbl2 (b := O) (by omega) 3 4 5 (.int .i64 q1.re) (.int .i64 q1.im) (.int .i64 q1.den)
      replace bR := far3 bR (b := O) (by omega) 3 4 5 (.int .i64 q1.re) (.int .i64 q1.im) (.int .i64 q1.den)
      replace bO := put4_1 q0.re q0.im q0.den q1.re q1.im q1.den 0 0 0 0 0 0 bO
      clear hbl2
      generalize ((y1.setCell ⟨O, 3, none⟩ (.int .i64 q1.re)).setCell ⟨O, 4, none⟩ (.int .i64 q1.im)).setCell ⟨O, 5, none⟩ (.int .i64 q1.den) = z2 at bO bR hD hbl ⊢
      rw [rounds_succ]
      go_wp2_with fail
      refine (HQ.out c1 _ (hD.ex W hE hbo) hbl (by omega)).mono ?_
      rintro e y2 ⟨q2, c2, rfl, hc2, hd, hbl2⟩
      simp only [Fr.v]
      replace bR := hd.box _ _ _ (by omega) bR
      replace bO := hd.box _ _ _ (by omega) bO
      replace hD := hD.trans hd
      clear hd hbl
      have cO := bO.cell
      have zO := bO.lt
      have fO := bO.frozen
      go_wp2_with fail
      clear cO zO fO
      replace hD := dr3 hD (b := O) (by omega) 6 7 8 (.int .i64 q2.re) (.int .i64 q2.im) (.int .i64 q2.den)
      have hbl := rdr3 hbl2 (b := O) (by omega) 6 7 8 (.int .i64 q2.re) (.int .i64 q2.im) (.int .i64 q2.den)
      replace bR := far3 bR (b := O) (by omega) 6 7 8 (.int .i64 q2.re) (.int .i64 q2.im) (.int .i64 q2.den)
      replace bO := put4_2 q0.re q0.im q0.den q1.re q1.im q1.den q2.re q2.im q2.den 0 0 0 bO
      clear hbl2
      generalize ((y2.setCell ⟨O, 6, none⟩ (.int .i64 q2.re)).setCell ⟨O, 7, none⟩ (.int .i64 q2.im)).setCell ⟨O, 8, none⟩ (.int .i64 q2.den) = z3 at bO bR hD hbl ⊢
      rw [rounds_succ]
      go_wp2_with fail
      refine (HQ.out c2 _ (hD.ex W hE hbo) hbl (by omega)).mono ?_
      rintro e y3 ⟨q3, c3, rfl, hc3, hd, hbl2⟩
      simp only [Fr.v]
      replace bR := hd.box _ _ _ (by omega) bR
      replace bO := hd.box _ _ _ (by omega) bO
      replace hD := hD.trans hd
      clear hd hbl
      have cO := bO.cell
      have zO := bO.lt
      have fO := bO.frozen
      go_wp2_with fail
      clear cO zO fO
      replace hD := dr3 hD (b := O) (by omega) 9 10 11 (.int .i64 q3.re) (.int .i64 q3.im) (.int .i64 q3.den)
      have hbl := rdr3 hbl2 (b := O) (by omega) 9 10 11 (.int .i64 q3.re) (.int .i64 q3.im) (.int .i64 q3.den)
      replace bR := far3 bR (b := O) (by omega) 9 10 11 (.int .i64 q3.re) (.int .i64 q3.im) (.int .i64 q3.den)
      replace bO := put4_3 q0.re q0.im q0.den q1.re q1.im q1.den q2.re q2.im q2.den q3.re q3.im q3.den bO
      clear hbl2
      generalize ((y3.setCell ⟨O, 9, none⟩ (.int .i64 q3.re)).setCell ⟨O, 10, none⟩ (.int .i64 q3.im)).setCell ⟨O, 11, none⟩ (.int .i64 q3.den) = z4 at bO bR hD hbl ⊢
      rw [rounds_succ]
      have cX := bO.cell
      have cR := bR.cell
      have zR := bR.lt
      have fR := bR.frozen
      go_wp2
      clear cX cR zR fR
      replace hD := dr3 (dr3 (dr3 (dr3 (hD) (b := w.heap.size) (by omega) 0 1 2 (.int .i64 q0.re) (.int .i64 q0.im) (.int .i64 q0.den)) (b := w.heap.size) (by omega) 3 4 5 (.int .i64 q1.re) (.int .i64 q1.im) (.int .i64 q1.den)) (b := w.heap.size) (by omega) 6 7 8 (.int .i64 q2.re) (.int .i64 q2.im) (.int .i64 q2.den)) (b := w.heap.size) (by omega) 9 10 11 (.int .i64 q3.re) (.int .i64 q3.im) (.int .i64 q3.den)
      have hbF := rdr3 (rdr3 (rdr3 (rdr3 (hbl) (b := w.heap.size) (by omega) 0 1 2 (.int .i64 q0.re) (.int .i64 q0.im) (.int .i64 q0.den)) (b := w.heap.size) (by omega) 3 4 5 (.int .i64 q1.re) (.int .i64 q1.im) (.int .i64 q1.den)) (b := w.heap.size) (by omega) 6 7 8 (.int .i64 q2.re) (.int .i64 q2.im) (.int .i64 q2.den)) (b := w.heap.size) (by omega) 9 10 11 (.int .i64 q3.re) (.int .i64 q3.im) (.int .i64 q3.den)
      replace bR := put4_3 q0.re q0.im q0.den q1.re q1.im q1.den q2.re q2.im q2.den q3.re q3.im q3.den (put4_2 q0.re q0.im q0.den q1.re q1.im q1.den q2.re q2.im q2.den q3.re q3.im q3.den (put4_1 q0.re q0.im q0.den q1.re q1.im q1.den q2.re q2.im q2.den q3.re q3.im q3.den (put4_0 q0.re q0.im q0.den q1.re q1.im q1.den q2.re q2.im q2.den q3.re q3.im q3.den (bR))))
      clear hbl
      generalize ((((((((((((z4.setCell ⟨w.heap.size, 0, none⟩ (.int .i64 q0.re)).setCell ⟨w.heap.size, 1, none⟩ (.int .i64 q0.im)).setCell ⟨w.heap.size, 2, none⟩ (.int .i64 q0.den)).setCell ⟨w.heap.size, 3, none⟩ (.int .i64 q1.re)).setCell ⟨w.heap.size, 4, none⟩ (.int .i64 q1.im)).setCell ⟨w.heap.size, 5, none⟩ (.int .i64 q1.den)).setCell ⟨w.heap.size, 6, none⟩ (.int .i64 q2.re)).setCell ⟨w.heap.size, 7, none⟩ (.int .i64 q2.im)).setCell ⟨w.heap.size, 8, none⟩ (.int .i64 q2.den)).setCell ⟨w.heap.size, 9, none⟩ (.int .i64 q3.re)).setCell ⟨w.heap.size, 10, none⟩ (.int .i64 q3.im)).setCell ⟨w.heap.size, 11, none⟩ (.int .i64 q3.den)) = Y at bR hD hbF ⊢
      have cR := bR.cell
      refine bodyPost_ret (v := .agg #[.int .i64 q0.re, .int .i64 q0.im, .int .i64 q0.den, .int .i64 q1.re, .int .i64 q1.im, .int .i64 q1.den, .int .i64 q2.re, .int .i64 q2.im, .int .i64 q2.den, .int .i64 q3.re, .int .i64 q3.im, .int .i64 q3.den]) ?_ rfl ⟨q0, q1, q2, q3, c3, rfl, by omega, hD, hbF⟩
      simp [results, Tryz.results12, go_sem, cR]
    go_wp2_with fail
    refine (HJ.out (a1 + 1) _ (hD.ex W hE hbo) hb3 (by omega)).mono ?_
    rintro e w4 ⟨x2, y2, a4, rfl, ha4, hd, hb4⟩
    replace bR := hd.box _ _ _ (by omega) bR
    replace bS := hd.box _ _ _ (by omega) bS
    replace hD := hD.trans hd
    clear hd hb3
    go_wp2_with fail
    refine (stokesOf_tot _ _ _ _ _ _ _).mono ?_
    rintro e w5 ⟨ta, tb, tc, td, fine, rfl, hx⟩
    simp only [Sv]
    replace bR := bR.ex hx
    replace bS := bS.ex hx
    have hRs5 := bR.lt
    replace hD := hD.trans (Dr.of_ex hx)
    have hbz := hb4.ex hx
    clear hx hb4
    have hsz5 := hbz.lt
    have bT := Box.new w5 #[.int .i64 ta.re, .int .i64 ta.im, .int .i64 ta.den, .int .i64 tb.re, .int .i64 tb.im, .int .i64 tb.den, .int .i64 tc.re, .int .i64 tc.im, .int .i64 tc.den, .int .i64 td.re, .int .i64 td.im, .int .i64 td.den] 27
    replace bR := bR.alloc (.cells #[.int .i64 ta.re, .int .i64 ta.im, .int .i64 ta.den, .int .i64 tb.re, .int .i64 tb.im, .int .i64 tb.den, .int .i64 tc.re, .int .i64 tc.im, .int .i64 tc.den, .int .i64 td.re, .int .i64 td.im, .int .i64 td.den] 27)
    replace bS := bS.alloc (.cells #[.int .i64 ta.re, .int .i64 ta.im, .int .i64 ta.den, .int .i64 tb.re, .int .i64 tb.im, .int .i64 tb.den, .int .i64 tc.re, .int .i64 tc.im, .int .i64 tc.den, .int .i64 td.re, .int .i64 td.im, .int .i64 td.den] 27)
    replace hD := hD.alloc (.cells #[.int .i64 ta.re, .int .i64 ta.im, .int .i64 ta.den, .int .i64 tb.re, .int .i64 tb.im, .int .i64 tb.den, .int .i64 tc.re, .int .i64 tc.im, .int .i64 tc.den, .int .i64 td.re, .int .i64 td.im, .int .i64 td.den] 27)
    have hb5 : Rdr (w5.alloc (.cells #[.int .i64 ta.re, .int .i64 ta.im, .int .i64 ta.den, .int .i64 tb.re, .int .i64 tb.im, .int .i64 tb.den, .int .i64 tc.re, .int .i64 tc.im, .int .i64 tc.den, .int .i64 td.re, .int .i64 td.im, .int .i64 td.den] 27)) bo A bs.length cap a4 := Box.alloc hbz _
    clear hbz
    have cS := bS.cell
    have cT := bT.cell
    go_wp2_with fail
    refine (HA.out _ _ _ _ _ _ _ _ _).mono ?_
    rintro e w6 ⟨ua, ub, uc, ud, good, rfl, hx⟩
    simp only [Sv]
    replace bR := bR.ex hx
    replace bS := bS.ex hx
    replace bT := bT.ex hx
    have hRs6 := bR.lt
    replace hD := hD.trans (Dr.of_ex hx)
    have hbz := hb5.ex hx
    clear hx hb5
    have hsz6 := hbz.lt
    have bU := Box.new w6 #[.int .i64 ua.re, .int .i64 ua.im, .int .i64 ua.den, .int .i64 ub.re, .int .i64 ub.im, .int .i64 ub.den, .int .i64 uc.re, .int .i64 uc.im, .int .i64 uc.den, .int .i64 ud.re, .int .i64 ud.im, .int .i64 ud.den] 27
    replace bR := bR.alloc (.cells #[.int .i64 ua.re, .int .i64 ua.im, .int .i64 ua.den, .int .i64 ub.re, .int .i64 ub.im, .int .i64 ub.den, .int .i64 uc.re, .int .i64 uc.im, .int .i64 uc.den, .int .i64 ud.re, .int .i64 ud.im, .int .i64 ud.den] 27)
    replace bS := bS.alloc (.cells #[.int .i64 ua.re, .int .i64 ua.im, .int .i64 ua.den, .int .i64 ub.re, .int .i64 ub.im, .int .i64 ub.den, .int .i64 uc.re, .int .i64 uc.im, .int .i64 uc.den, .int .i64 ud.re, .int .i64 ud.im, .int .i64 ud.den] 27)
    replace bT := bT.alloc (.cells #[.int .i64 ua.re, .int .i64 ua.im, .int .i64 ua.den, .int .i64 ub.re, .int .i64 ub.im, .int .i64 ub.den, .int .i64 uc.re, .int .i64 uc.im, .int .i64 uc.den, .int .i64 ud.re, .int .i64 ud.im, .int .i64 ud.den] 27)
    replace hD := hD.alloc (.cells #[.int .i64 ua.re, .int .i64 ua.im, .int .i64 ua.den, .int .i64 ub.re, .int .i64 ub.im, .int .i64 ub.den, .int .i64 uc.re, .int .i64 uc.im, .int .i64 uc.den, .int .i64 ud.re, .int .i64 ud.im, .int .i64 ud.den] 27)
    have hb6 : Rdr (w6.alloc (.cells #[.int .i64 ua.re, .int .i64 ua.im, .int .i64 ua.den, .int .i64 ub.re, .int .i64 ub.im, .int .i64 ub.den, .int .i64 uc.re, .int .i64 uc.im, .int .i64 uc.den, .int .i64 ud.re, .int .i64 ud.im, .int .i64 ud.den] 27)) bo A bs.length cap a4 := Box.alloc hbz _
    clear hbz
    clear cS cT bT
    go_upto_region 5 with fail
    generalize (w6.alloc (.cells #[.int .i64 ua.re, .int .i64 ua.im, .int .i64 ua.den, .int .i64 ub.re, .int .i64 ub.im, .int .i64 ub.den, .int .i64 uc.re, .int .i64 uc.im, .int .i64 uc.den, .int .i64 ud.re, .int .i64 ud.im, .int .i64 ud.den] 27)) = wu at bR bS bU hD hb6 ⊢
    rcases fine with _ | _
    · clear bU
      have cX := bS.cell
      have cR := bR.cell
      have zR := bR.lt
      have fR := bR.frozen
      go_wp2
      clear cX cR zR fR
      replace hD := dr3 (dr3 (dr3 (dr3 (hD) (b := w.heap.size) (by omega) 0 1 2 (.int .i64 sa.re) (.int .i64 sa.im) (.int .i64 sa.den)) (b := w.heap.size) (by omega) 3 4 5 (.int .i64 sb.re) (.int .i64 sb.im) (.int .i64 sb.den)) (b := w.heap.size) (by omega) 6 7 8 (.int .i64 sc.re) (.int .i64 sc.im) (.int .i64 sc.den)) (b := w.heap.size) (by omega) 9 10 11 (.int .i64 sd.re) (.int .i64 sd.im) (.int .i64 sd.den)
      have hbF := rdr3 (rdr3 (rdr3 (rdr3 (hb6) (b := w.heap.size) (by omega) 0 1 2 (.int .i64 sa.re) (.int .i64 sa.im) (.int .i64 sa.den)) (b := w.heap.size) (by omega) 3 4 5 (.int .i64 sb.re) (.int .i64 sb.im) (.int .i64 sb.den)) (b := w.heap.size) (by omega) 6 7 8 (.int .i64 sc.re) (.int .i64 sc.im) (.int .i64 sc.den)) (b := w.heap.size) (by omega) 9 10 11 (.int .i64 sd.re) (.int .i64 sd.im) (.int .i64 sd.den)
      replace bR := put4_3 sa.re sa.im sa.den sb.re sb.im sb.den sc.re sc.im sc.den sd.re sd.im sd.den (put4_2 sa.re sa.im sa.den sb.re sb.im sb.den sc.re sc.im sc.den sd.re sd.im sd.den (put4_1 sa.re sa.im sa.den sb.re sb.im sb.den sc.re sc.im sc.den sd.re sd.im sd.den (put4_0 sa.re sa.im sa.den sb.re sb.im sb.den sc.re sc.im sc.den sd.re sd.im sd.den (bR))))
      clear hb6
      generalize ((((((((((((wu.setCell ⟨w.heap.size, 0, none⟩ (.int .i64 sa.re)).setCell ⟨w.heap.size, 1, none⟩ (.int .i64 sa.im)).setCell ⟨w.heap.size, 2, none⟩ (.int .i64 sa.den)).setCell ⟨w.heap.size, 3, none⟩ (.int .i64 sb.re)).setCell ⟨w.heap.size, 4, none⟩ (.int .i64 sb.im)).setCell ⟨w.heap.size, 5, none⟩ (.int .i64 sb.den)).setCell ⟨w.heap.size, 6, none⟩ (.int .i64 sc.re)).setCell ⟨w.heap.size, 7, none⟩ (.int .i64 sc.im)).setCell ⟨w.heap.size, 8, none⟩ (.int .i64 sc.den)).setCell ⟨w.heap.size, 9, none⟩ (.int .i64 sd.re)).setCell ⟨w.heap.size, 10, none⟩ (.int .i64 sd.im)).setCell ⟨w.heap.size, 11, none⟩ (.int .i64 sd.den)) = Y at bR hD hbF ⊢
      have cR := bR.cell
      refine bodyPost_ret (v := .agg #[.int .i64 sa.re, .int .i64 sa.im, .int .i64 sa.den, .int .i64 sb.re, .int .i64 sb.im, .int .i64 sb.den, .int .i64 sc.re, .int .i64 sc.im, .int .i64 sc.den, .int .i64 sd.re, .int .i64 sd.im, .int .i64 sd.den]) ?_ rfl ⟨sa, sb, sc, sd, a4, rfl, by omega, hD, hbF⟩
      simp [results, Tryz.results12, go_sem, cR]
    rcases good with _ | _
    · clear bU
      have cX := bS.cell
      have cR := bR.cell
      have zR := bR.lt
      have fR := bR.frozen
      go_wp2
      clear cX cR zR fR
      replace hD := dr3 (dr3 (dr3 (dr3 (hD) (b := w.heap.size) (by omega) 0 1 2 (.int .i64 sa.re) (.int .i64 sa.im) (.int .i64 sa.den)) (b := w.heap.size) (by omega) 3 4 5 (.int .i64 sb.re) (.int .i64 sb.im) (.int .i64 sb.den)) (b := w.heap.size) (by omega) 6 7 8 (.int .i64 sc.re) (.int .i64 sc.im) (.int .i64 sc.den)) (b := w.heap.size) (by omega) 9 10 11 (.int .i64 sd.re) (.int .i64 sd.im) (.int .i64 sd.den)
      have hbF := rdr3 (rdr3 (rdr3 (rdr3 (hb6) (b := w.heap.size) (by omega) 0 1 2 (.int .i64 sa.re) (.int .i64 sa.im) (.int .i64 sa.den)) (b := w.heap.size) (by omega) 3 4 5 (.int .i64 sb.re) (.int .i64 sb.im) (.int .i64 sb.den)) (b := w.heap.size) (by omega) 6 7 8 (.int .i64 sc.re) (.int .i64 sc.im) (.int .i64 sc.den)) (b := w.heap.size) (by omega) 9 10 11 (.int .i64 sd.re) (.int .i64 sd.im) (.int .i64 sd.den)
      replace bR := put4_3 sa.re sa.im sa.den sb.re sb.im sb.den sc.re sc.im sc.den sd.re sd.im sd.den (put4_2 sa.re sa.im sa.den sb.re sb.im sb.den sc.re sc.im sc.den sd.re sd.im sd.den (put4_1 sa.re sa.im sa.den sb.re sb.im sb.den sc.re sc.im sc.den sd.re sd.im sd.den (put4_0 sa.re sa.im sa.den sb.re sb.im sb.den sc.re sc.im sc.den sd.re sd.im sd.den (bR))))
      clear hb6
      generalize ((((((((((((wu.setCell ⟨w.heap.size, 0, none⟩ (.int .i64 sa.re)).setCell ⟨w.heap.size, 1, none⟩ (.int .i64 sa.im)).setCell ⟨w.heap.size, 2, none⟩ (.int .i64 sa.den)).setCell ⟨w.heap.size, 3, none⟩ (.int .i64 sb.re)).setCell ⟨w.heap.size, 4, none⟩ (.int .i64 sb.im)).setCell ⟨w.heap.size, 5, none⟩ (.int .i64 sb.den)).setCell ⟨w.heap.size, 6, none⟩ (.int .i64 sc.re)).setCell ⟨w.heap.size, 7, none⟩ (.int .i64 sc.im)).setCell ⟨w.heap.size, 8, none⟩ (.int .i64 sc.den)).setCell ⟨w.heap.size, 9, none⟩ (.int .i64 sd.re)).setCell ⟨w.heap.size, 10, none⟩ (.int .i64 sd.im)).setCell ⟨w.heap.size, 11, none⟩ (.int .i64 sd.den)) = Y at bR hD hbF ⊢
      have cR := bR.cell
      refine bodyPost_ret (v := .agg #[.int .i64 sa.re, .int .i64 sa.im, .int .i64 sa.den, .int .i64 sb.re, .int .i64 sb.im, .int .i64 sb.den, .int .i64 sc.re, .int .i64 sc.im, .int .i64 sc.den, .int .i64 sd.re, .int .i64 sd.im, .int .i64 sd.den]) ?_ rfl ⟨sa, sb, sc, sd, a4, rfl, by omega, hD, hbF⟩
      simp [results, Tryz.results12, go_sem, cR]
    go_wp2_with fail
    refine (HP.out a4 2 _ (hD.ex W hE hbo) hb6 (by omega) (by omega) (by omega)).mono ?_
    rintro e w7 ⟨v2, rfl, hv20, hv21, hd, hb7⟩
    replace bR := hd.box _ _ _ (by omega) bR
    replace bS := hd.box _ _ _ (by omega) bS
    replace bU := hd.box _ _ _ (by omega) bU
    replace hD := hD.trans hd
    clear hd hb6
    by_cases hv2 : v2 = 0
    · subst hv2
      clear bS
      have cX := bU.cell
      have cR := bR.cell
      have zR := bR.lt
      have fR := bR.frozen
      go_wp2
      clear cX cR zR fR
      replace hD := dr3 (dr3 (dr3 (dr3 (hD) (b := w.heap.size) (by omega) 0 1 2 (.int .i64 ua.re) (.int .i64 ua.im) (.int .i64 ua.den)) (b := w.heap.size) (by omega) 3 4 5 (.int .i64 ub.re) (.int .i64 ub.im) (.int .i64 ub.den)) (b := w.heap.size) (by omega) 6 7 8 (.int .i64 uc.re) (.int .i64 uc.im) (.int .i64 uc.den)) (b := w.heap.size) (by omega) 9 10 11 (.int .i64 ud.re) (.int .i64 ud.im) (.int .i64 ud.den)
      have hbF := rdr3 (rdr3 (rdr3 (rdr3 (hb7) (b := w.heap.size) (by omega) 0 1 2 (.int .i64 ua.re) (.int .i64 ua.im) (.int .i64 ua.den)) (b := w.heap.size) (by omega) 3 4 5 (.int .i64 ub.re) (.int .i64 ub.im) (.int .i64 ub.den)) (b := w.heap.size) (by omega) 6 7 8 (.int .i64 uc.re) (.int .i64 uc.im) (.int .i64 uc.den)) (b := w.heap.size) (by omega) 9 10 11 (.int .i64 ud.re) (.int .i64 ud.im) (.int .i64 ud.den)
      replace bR := put4_3 ua.re ua.im ua.den ub.re ub.im ub.den uc.re uc.im uc.den ud.re ud.im ud.den (put4_2 ua.re ua.im ua.den ub.re ub.im ub.den uc.re uc.im uc.den ud.re ud.im ud.den (put4_1 ua.re ua.im ua.den ub.re ub.im ub.den uc.re uc.im uc.den ud.re ud.im ud.den (put4_0 ua.re ua.im ua.den ub.re ub.im ub.den uc.re uc.im uc.den ud.re ud.im ud.den (bR))))
      clear hb7
      generalize ((((((((((((w7.setCell ⟨w.heap.size, 0, none⟩ (.int .i64 ua.re)).setCell ⟨w.heap.size, 1, none⟩ (.int .i64 ua.im)).setCell ⟨w.heap.size, 2, none⟩ (.int .i64 ua.den)).setCell ⟨w.heap.size, 3, none⟩ (.int .i64 ub.re)).setCell ⟨w.heap.size, 4, none⟩ (.int .i64 ub.im)).setCell ⟨w.heap.size, 5, none⟩ (.int .i64 ub.den)).setCell ⟨w.heap.size, 6, none⟩ (.int .i64 uc.re)).setCell ⟨w.heap.size, 7, none⟩ (.int .i64 uc.im)).setCell ⟨w.heap.size, 8, none⟩ (.int .i64 uc.den)).setCell ⟨w.heap.size, 9, none⟩ (.int .i64 ud.re)).setCell ⟨w.heap.size, 10, none⟩ (.int .i64 ud.im)).setCell ⟨w.heap.size, 11, none⟩ (.int .i64 ud.den)) = Y at bR hD hbF ⊢
      have cR := bR.cell
      refine bodyPost_ret (v := .agg #[.int .i64 ua.re, .int .i64 ua.im, .int .i64 ua.den, .int .i64 ub.re, .int .i64 ub.im, .int .i64 ub.den, .int .i64 uc.re, .int .i64 uc.im, .int .i64 uc.den, .int .i64 ud.re, .int .i64 ud.im, .int .i64 ud.den]) ?_ rfl ⟨ua, ub, uc, ud, (a4 + 1), rfl, by omega, hD, hbF⟩
      simp [results, Tryz.results12, go_sem, cR]
    · have t0 : (v2 == 0) = false := by simpa using hv2
      clear bU
      have cX := bS.cell
      have cR := bR.cell
      have zR := bR.lt
      have fR := bR.frozen
      go_wp2
      clear cX cR zR fR
      replace hD := dr3 (dr3 (dr3 (dr3 (hD) (b := w.heap.size) (by omega) 0 1 2 (.int .i64 sa.re) (.int .i64 sa.im) (.int .i64 sa.den)) (b := w.heap.size) (by omega) 3 4 5 (.int .i64 sb.re) (.int .i64 sb.im) (.int .i64 sb.den)) (b := w.heap.size) (by omega) 6 7 8 (.int .i64 sc.re) (.int .i64 sc.im) (.int .i64 sc.den)) (b := w.heap.size) (by omega) 9 10 11 (.int .i64 sd.re) (.int .i64 sd.im) (.int .i64 sd.den)
      have hbF := rdr3 (rdr3 (rdr3 (rdr3 (hb7) (b := w.heap.size) (by omega) 0 1 2 (.int .i64 sa.re) (.int .i64 sa.im) (.int .i64 sa.den)) (b := w.heap.size) (by omega) 3 4 5 (.int .i64 sb.re) (.int .i64 sb.im) (.int .i64 sb.den)) (b := w.heap.size) (by omega) 6 7 8 (.int .i64 sc.re) (.int .i64 sc.im) (.int .i64 sc.den)) (b := w.heap.size) (by omega) 9 10 11 (.int .i64 sd.re) (.int .i64 sd.im) (.int .i64 sd.den)
      replace bR := put4_3 sa.re sa.im sa.den sb.re sb.im sb.den sc.re sc.im sc.den sd.re sd.im sd.den (put4_2 sa.re sa.im sa.den sb.re sb.im sb.den sc.re sc.im sc.den sd.re sd.im sd.den (put4_1 sa.re sa.im sa.den sb.re sb.im sb.den sc.re sc.im sc.den sd.re sd.im sd.den (put4_0 sa.re sa.im sa.den sb.re sb.im sb.den sc.re sc.im sc.den sd.re sd.im sd.den (bR))))
      clear hb7
      generalize ((((((((((((w7.setCell ⟨w.heap.size, 0, none⟩ (.int .i64 sa.re)).setCell ⟨w.heap.size, 1, none⟩ (.int .i64 sa.im)).setCell ⟨w.heap.size, 2, none⟩ (.int .i64 sa.den)).setCell ⟨w.heap.size, 3, none⟩ (.int .i64 sb.re)).setCell ⟨w.heap.size, 4, none⟩ (.int .i64 sb.im)).setCell ⟨w.heap.size, 5, none⟩ (.int .i64 sb.den)).setCell ⟨w.heap.size, 6, none⟩ (.int .i64 sc.re)).setCell ⟨w.heap.size, 7, none⟩ (.int .i64 sc.im)).setCell ⟨w.heap.size, 8, none⟩ (.int .i64 sc.den)).setCell ⟨w.heap.size, 9, none⟩ (.int .i64 sd.re)).setCell ⟨w.heap.size, 10, none⟩ (.int .i64 sd.im)).setCell ⟨w.heap.size, 11, none⟩ (.int .i64 sd.den)) = Y at bR hD hbF ⊢
      have cR := bR.cell
      refine bodyPost_ret (v := .agg #[.int .i64 sa.re, .int .i64 sa.im, .int .i64 sa.den, .int .i64 sb.re, .int .i64 sb.im, .int .i64 sb.den, .int .i64 sc.re, .int .i64 sc.im, .int .i64 sc.den, .int .i64 sd.re, .int .i64 sd.im, .int .i64 sd.den]) ?_ rfl ⟨sa, sb, sc, sd, (a4 + 1), rfl, by omega, hD, hbF⟩
      simp [results, Tryz.results12, go_sem, cR]
end Go.Proofs.YtklkfkgpjjpaiaaGreatDoor

