/-
  Walks: the draw of vectors.
-/
import Derived.Test.YtgkekdiffgmllaaDoorDrawR
namespace Go.Proofs.YtgkekdiffgmllaaDoor
open Go.RowKit

theorem Rdr.far {w : World} {bo : Nat} {A : Option Addr} {n cap a : Nat} (h : Rdr w bo A n cap a) {p : Addr} (hp : bo ≠ p.block) (u : Value) : Rdr (w.setCell p u) bo A n cap a := Box.far h hp u
theorem Rdr.ex {w w1 : World} {bo : Nat} {A : Option Addr} {n cap a : Nat} (h : Rdr w bo A n cap a) (he : Ex w w1) : Rdr w1 bo A n cap a := Box.ex h he
theorem far3 {W : World} {b g : Nat} {t : TypeId} {cs : Array Value} (h : Box W g t cs) (hne : g ≠ b) (i j k : Nat) (u v x : Value) : Box (((W.setCell ⟨b, i, none⟩ u).setCell ⟨b, j, none⟩ v).setCell ⟨b, k, none⟩ x) g t cs :=
  ((h.far (p := ⟨b, i, none⟩) hne u).far (p := ⟨b, j, none⟩) hne v).far (p := ⟨b, k, none⟩) hne x
theorem put6 {W : World} {b : Nat} {t : TypeId} {a c d e f g : Value} (h : Box W b t #[a, c, d, e, f, g]) (u v s x y z : Value) : Box ((((((W.setCell ⟨b, 0, none⟩ u).setCell ⟨b, 1, none⟩ v).setCell ⟨b, 2, none⟩ s).setCell ⟨b, 3, none⟩ x).setCell ⟨b, 4, none⟩ y).setCell ⟨b, 5, none⟩ z) b t #[u, v, s, x, y, z] := by
  have h2 := (((((h.set_ 0 u).set_ 1 v).set_ 2 s).set_ 3 x).set_ 4 y).set_ 5 z
  simpa using h2
theorem dr3 {bo : Nat} {w W : World} (h : Dr bo w W) {b : Nat} (hb : w.heap.size ≤ b) (i j k : Nat) (u v x : Value) : Dr bo w (((W.setCell ⟨b, i, none⟩ u).setCell ⟨b, j, none⟩ v).setCell ⟨b, k, none⟩ x) :=
  ((h.setNew (p := ⟨b, i, none⟩) hb u).setNew (p := ⟨b, j, none⟩) hb v).setNew (p := ⟨b, k, none⟩) hb x
theorem rdr3 {W : World} {bo : Nat} {A : Option Addr} {n cap a : Nat} (h : Rdr W bo A n cap a) {b : Nat} (hb : bo ≠ b) (i j k : Nat) (u v x : Value) : Rdr (((W.setCell ⟨b, i, none⟩ u).setCell ⟨b, j, none⟩ v).setCell ⟨b, k, none⟩ x) bo A n cap a :=
  ((h.far (p := ⟨b, i, none⟩) hb u).far (p := ⟨b, j, none⟩) hb v).far (p := ⟨b, k, none⟩) hb x
def LJones (bo : Nat) (A : Option Addr) (n cap a : Nat) (w : World) : Ending → World → Prop := fun e w' =>
  ∃ (x y : Fr) (a' : Nat), e = .returned (.agg #[.int .i64 x.re, .int .i64 x.im, .int .i64 x.den, .int .i64 y.re, .int .i64 y.im, .int .i64 y.den]) ∧ a' ≤ a + 11 ∧ Dr bo w w' ∧ Rdr w' bo A n cap a'
set_option maxRecDepth 10000 in
set_option maxHeartbeats 2000000 in
theorem l91Jones_any {W : World} {A : Option Addr} {bs : List Int} (hB : Byts W A bs) (hl : bs.length ≤ 2000) (bo cap a : Nat) (w : World) (hE : Ex W w) (hbo : W.heap.size ≤ bo)
    (hb : Rdr w bo A bs.length cap a) (ha : a ≤ 900000) : Calls Tryd.prog 10 #[.pointer (some ⟨bo, 0, none⟩)] w (LJones bo A bs.length cap a w) := by
  have hf := fun a w hE hb ha => l91Frac_any hB hl bo cap a w hE hbo hb ha
  have hpk := fun a m w hE hb ha hm hm2 => pick_dr hB hl bo cap a m w hE hbo hb ha hm hm2
  have HF := Lib.hid hf
  have HP := Lib.hid hpk
  have hlb := hb.lt
  clear hf hpk hB hl
  go_enter Tryd.func10, Tryd.ntmps10
  go_wp2_with fail
  refine (HF.out a _ (hE.alloc _) (hb.alloc _) (by omega)).mono ?_
  rintro e w1 ⟨⟨x1, x2, x3⟩, a1, rfl, ha1, hd, hb1⟩
  simp only [Fr.v]
  have bR := hd.box _ _ _ (by omega) (Box.new w #[.int .i64 0, .int .i64 0, .int .i64 0, .int .i64 0, .int .i64 0, .int .i64 0] 26)
  have hs01 := bR.lt
  have hD := (Dr.of_ex ((Ex.refl w).alloc (.cells #[.int .i64 0, .int .i64 0, .int .i64 0, .int .i64 0, .int .i64 0, .int .i64 0] 26))).trans hd
  clear hd
  have bX := Box.new w1 #[.int .i64 x1, .int .i64 x2, .int .i64 x3] 24
  replace bR := bR.alloc (.cells #[.int .i64 x1, .int .i64 x2, .int .i64 x3] 24)
  replace hD := hD.alloc (.cells #[.int .i64 x1, .int .i64 x2, .int .i64 x3] 24)
  have hb1b : Rdr (w1.alloc (.cells #[.int .i64 x1, .int .i64 x2, .int .i64 x3] 24)) bo A bs.length cap a1 := Box.alloc hb1 _
  have hl1 := hb1.lt
  go_wp2_with fail
  refine (HF.out a1 _ (hD.ex W hE hbo) hb1b (by omega)).mono ?_
  rintro e w2 ⟨⟨y1, y2, y3⟩, a2, rfl, ha2, hd, hb2⟩
  simp only [Fr.v]
  replace bR := hd.box _ _ _ (by omega) bR
  replace bX := hd.box _ _ _ (by omega) bX
  have hx2 := bX.lt
  replace hD := hD.trans hd
  clear hd hb1b
  have bY := Box.new w2 #[.int .i64 y1, .int .i64 y2, .int .i64 y3] 24
  replace bR := bR.alloc (.cells #[.int .i64 y1, .int .i64 y2, .int .i64 y3] 24)
  replace bX := bX.alloc (.cells #[.int .i64 y1, .int .i64 y2, .int .i64 y3] 24)
  replace hD := hD.alloc (.cells #[.int .i64 y1, .int .i64 y2, .int .i64 y3] 24)
  have hb2b : Rdr (w2.alloc (.cells #[.int .i64 y1, .int .i64 y2, .int .i64 y3] 24)) bo A bs.length cap a2 := Box.alloc hb2 _
  have hl2 := hb2.lt
  go_wp2_with fail
  refine (HP.out a2 10 _ (hD.ex W hE hbo) hb2b (by omega) (by omega) (by omega)).mono ?_
  rintro e w3 ⟨v, rfl, hv0, hv1, hd, hb3⟩
  replace bR := hd.box _ _ _ (by omega) bR
  replace bX := hd.box _ _ _ (by omega) bX
  replace bY := hd.box _ _ _ (by omega) bY
  replace hD := hD.trans hd
  clear hd hb2b
  have cX := bX.cell
  have cY := bY.cell
  have cR := bR.cell
  have fX := bX.frozen
  have fY := bY.frozen
  have fR := bR.frozen
  have zR := bR.lt
  have zX := bX.lt
  have zY := bY.lt
  rcases (by omega : v = 0 ∨ v = 1 ∨ 2 ≤ v) with rfl | rfl | hv
  · go_wp2
    replace hD := dr3 hD (b := w1.heap.size) (by omega) 0 1 2 (.int .i64 0) (.int .i64 0) (.int .i64 1)
    have hbX := rdr3 hb3 (b := w1.heap.size) (by omega) 0 1 2 (.int .i64 0) (.int .i64 0) (.int .i64 1)
    replace bR := far3 bR (b := w1.heap.size) (by omega) 0 1 2 (.int .i64 0) (.int .i64 0) (.int .i64 1)
    clear cX cY cR fX fY fR zR zX zY bX bY hb3
    replace hD := dr3 (dr3 hD (b := w.heap.size) (by omega) 0 1 2 (.int .i64 0) (.int .i64 0) (.int .i64 1)) (b := w.heap.size) (by omega) 3 4 5 (.int .i64 y1) (.int .i64 y2) (.int .i64 y3)
    replace hbX := rdr3 (rdr3 hbX (b := w.heap.size) (by omega) 0 1 2 (.int .i64 0) (.int .i64 0) (.int .i64 1)) (b := w.heap.size) (by omega) 3 4 5 (.int .i64 y1) (.int .i64 y2) (.int .i64 y3)
    replace bR := put6 bR (.int .i64 0) (.int .i64 0) (.int .i64 1) (.int .i64 y1) (.int .i64 y2) (.int .i64 y3)
    generalize (((((((((w3.setCell ⟨w1.heap.size, 0, none⟩ (.int .i64 0)).setCell ⟨w1.heap.size, 1, none⟩ (.int .i64 0)).setCell ⟨w1.heap.size, 2, none⟩ (.int .i64 1)).setCell ⟨w.heap.size, 0, none⟩ (.int .i64 0)).setCell ⟨w.heap.size, 1, none⟩ (.int .i64 0)).setCell ⟨w.heap.size, 2, none⟩ (.int .i64 1)).setCell ⟨w.heap.size, 3, none⟩ (.int .i64 y1)).setCell ⟨w.heap.size, 4, none⟩ (.int .i64 y2)).setCell ⟨w.heap.size, 5, none⟩ (.int .i64 y3)) = Y at bR hD hbX ⊢
    have cR := bR.cell
    refine bodyPost_ret (v := .agg #[.int .i64 0, .int .i64 0, .int .i64 1, .int .i64 y1, .int .i64 y2, .int .i64 y3]) ?_ rfl ⟨⟨0, 0, 1⟩, ⟨y1, y2, y3⟩, a2 + 1, rfl, by omega, hD, hbX⟩
    simp [results, Tryd.results10, go_sem, cR]
  · go_wp2
    replace hD := dr3 hD (b := w2.heap.size) (by omega) 0 1 2 (.int .i64 0) (.int .i64 0) (.int .i64 1)
    have hbX := rdr3 hb3 (b := w2.heap.size) (by omega) 0 1 2 (.int .i64 0) (.int .i64 0) (.int .i64 1)
    replace bR := far3 bR (b := w2.heap.size) (by omega) 0 1 2 (.int .i64 0) (.int .i64 0) (.int .i64 1)
    clear cX cY cR fX fY fR zR zX zY bX bY hb3
    replace hD := dr3 (dr3 hD (b := w.heap.size) (by omega) 0 1 2 (.int .i64 x1) (.int .i64 x2) (.int .i64 x3)) (b := w.heap.size) (by omega) 3 4 5 (.int .i64 0) (.int .i64 0) (.int .i64 1)
    replace hbX := rdr3 (rdr3 hbX (b := w.heap.size) (by omega) 0 1 2 (.int .i64 x1) (.int .i64 x2) (.int .i64 x3)) (b := w.heap.size) (by omega) 3 4 5 (.int .i64 0) (.int .i64 0) (.int .i64 1)
    replace bR := put6 bR (.int .i64 x1) (.int .i64 x2) (.int .i64 x3) (.int .i64 0) (.int .i64 0) (.int .i64 1)
    generalize (((((((((w3.setCell ⟨w2.heap.size, 0, none⟩ (.int .i64 0)).setCell ⟨w2.heap.size, 1, none⟩ (.int .i64 0)).setCell ⟨w2.heap.size, 2, none⟩ (.int .i64 1)).setCell ⟨w.heap.size, 0, none⟩ (.int .i64 x1)).setCell ⟨w.heap.size, 1, none⟩ (.int .i64 x2)).setCell ⟨w.heap.size, 2, none⟩ (.int .i64 x3)).setCell ⟨w.heap.size, 3, none⟩ (.int .i64 0)).setCell ⟨w.heap.size, 4, none⟩ (.int .i64 0)).setCell ⟨w.heap.size, 5, none⟩ (.int .i64 1)) = Y at bR hD hbX ⊢
    have cR := bR.cell
    refine bodyPost_ret (v := .agg #[.int .i64 x1, .int .i64 x2, .int .i64 x3, .int .i64 0, .int .i64 0, .int .i64 1]) ?_ rfl ⟨⟨x1, x2, x3⟩, ⟨0, 0, 1⟩, a2 + 1, rfl, by omega, hD, hbX⟩
    simp [results, Tryd.results10, go_sem, cR]
  · have t0 : (v == 0) = false := by simp; omega
    have t1 : (v == 1) = false := by simp; omega
    go_wp2
    have hbX := hb3
    clear cX cY cR fX fY fR zR zX zY bX bY hb3
    replace hD := dr3 (dr3 hD (b := w.heap.size) (by omega) 0 1 2 (.int .i64 x1) (.int .i64 x2) (.int .i64 x3)) (b := w.heap.size) (by omega) 3 4 5 (.int .i64 y1) (.int .i64 y2) (.int .i64 y3)
    replace hbX := rdr3 (rdr3 hbX (b := w.heap.size) (by omega) 0 1 2 (.int .i64 x1) (.int .i64 x2) (.int .i64 x3)) (b := w.heap.size) (by omega) 3 4 5 (.int .i64 y1) (.int .i64 y2) (.int .i64 y3)
    replace bR := put6 bR (.int .i64 x1) (.int .i64 x2) (.int .i64 x3) (.int .i64 y1) (.int .i64 y2) (.int .i64 y3)
    generalize ((((((w3.setCell ⟨w.heap.size, 0, none⟩ (.int .i64 x1)).setCell ⟨w.heap.size, 1, none⟩ (.int .i64 x2)).setCell ⟨w.heap.size, 2, none⟩ (.int .i64 x3)).setCell ⟨w.heap.size, 3, none⟩ (.int .i64 y1)).setCell ⟨w.heap.size, 4, none⟩ (.int .i64 y2)).setCell ⟨w.heap.size, 5, none⟩ (.int .i64 y3)) = Y at bR hD hbX ⊢
    have cR := bR.cell
    refine bodyPost_ret (v := .agg #[.int .i64 x1, .int .i64 x2, .int .i64 x3, .int .i64 y1, .int .i64 y2, .int .i64 y3]) ?_ rfl ⟨⟨x1, x2, x3⟩, ⟨y1, y2, y3⟩, a2 + 1, rfl, by omega, hD, hbX⟩
    simp [results, Tryd.results10, go_sem, cR]

/-- A vector that was drawn. -/
def DrawnV (w : World) : Ending → World → Prop := fun e w' => ∃ (x y : Fr), e = .returned (.agg #[.int .i64 x.re, .int .i64 x.im, .int .i64 x.den, .int .i64 y.re, .int .i64 y.im, .int .i64 y.den]) ∧ Ex w w'
end Go.Proofs.YtgkekdiffgmllaaDoor
