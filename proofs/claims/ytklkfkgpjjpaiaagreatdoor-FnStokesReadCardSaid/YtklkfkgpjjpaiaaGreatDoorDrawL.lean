/-
  Walks: the draw of four numbers.
-/
import Derived.Test.YtklkfkgpjjpaiaaGreatDoorDrawK
import Derived.Deep.RegionHeld3
import Derived.Deep.DeepCutAuto
set_option linter.unusedSimpArgs false
set_option linter.unusedVariables false
namespace Go.Proofs.YtklkfkgpjjpaiaaGreatDoor
open Go.RowKit

/-- Twelve integers in a block. -/
def Box12 (w : World) (b : Nat) (t : TypeId) : Prop := ∃ cs, Box w b t cs ∧ cs.size = 12 ∧ ∀ i, i < 12 → ∃ n, cs[i]? = some (.int .i64 n)
theorem zeros12 : ∀ i, i < 12 → ∃ n, (#[.int .i64 0, .int .i64 0, .int .i64 0, .int .i64 0, .int .i64 0, .int .i64 0, .int .i64 0, .int .i64 0, .int .i64 0, .int .i64 0, .int .i64 0, .int .i64 0] : Array Value)[i]? = some (.int .i64 n) := fun i hi => by
  refine ⟨0, ?_⟩
  match i, hi with
  | 0, _ | 1, _ | 2, _ | 3, _ | 4, _ | 5, _ | 6, _ | 7, _ | 8, _ | 9, _ | 10, _ | 11, _ => rfl
theorem at12 (a b c d e f g h i j k l : Int) {n : Nat} (hn : n < 12) : ∃ z, (#[.int .i64 a, .int .i64 b, .int .i64 c, .int .i64 d, .int .i64 e, .int .i64 f, .int .i64 g, .int .i64 h, .int .i64 i, .int .i64 j, .int .i64 k, .int .i64 l] : Array Value)[n]? = some (.int .i64 z) := by
  match n, hn with
  | 0, _ | 1, _ | 2, _ | 3, _ | 4, _ | 5, _ | 6, _ | 7, _ | 8, _ | 9, _ | 10, _ | 11, _ => exact ⟨_, rfl⟩
theorem Box12.ex {w w1 : World} {b : Nat} {t : TypeId} (h : Box12 w b t) (he : Ex w w1) : Box12 w1 b t := by
  obtain ⟨cs, h1, h2⟩ := h
  exact ⟨cs, h1.ex he, h2⟩
theorem Box12.set {w : World} {b : Nat} {t : TypeId} (h : Box12 w b t) {i : Nat} (hi : i < 12) (n : Int) : Box12 (w.setCell ⟨b, i, none⟩ (.int .i64 n)) b t := by
  obtain ⟨cs, h1, h2, h3⟩ := h
  refine ⟨_, h1.set_ i _, by simpa using h2, fun j hj => ?_⟩
  by_cases he : i = j
  · subst he
    exact ⟨n, by rw [Array.getElem?_setIfInBounds_self]; simp [h2, hi]⟩
  · rw [Array.getElem?_setIfInBounds_ne he]
    exact h3 j hj
theorem list12b {α : Type} {l : List α} (h : l.length = 12) : ∃ a b c d e f g i j k m n, l = [a, b, c, d, e, f, g, i, j, k, m, n] := by
  match l, h with
  | [a, b, c, d, e, f, g, i, j, k, m, n], _ => exact ⟨a, b, c, d, e, f, g, i, j, k, m, n, rfl⟩
theorem Box12.all {w : World} {b : Nat} {t : TypeId} (h : Box12 w b t) : ∃ o1 o2 o3 o4 o5 o6 o7 o8 o9 o10 o11 o12 : Int, Box w b t #[.int .i64 o1, .int .i64 o2, .int .i64 o3, .int .i64 o4, .int .i64 o5, .int .i64 o6, .int .i64 o7, .int .i64 o8, .int .i64 o9, .int .i64 o10, .int .i64 o11, .int .i64 o12] := by
  obtain ⟨⟨l⟩, h1, h2, h3⟩ := h
  obtain ⟨c0, c1, c2, c3, c4, c5, c6, c7, c8, c9, c10, c11, rfl⟩ := list12b (l := l) (by simpa using h2)
  obtain ⟨n0, e0⟩ := h3 0 (by omega)
  obtain ⟨n1, e1⟩ := h3 1 (by omega)
  obtain ⟨n2, e2⟩ := h3 2 (by omega)
  obtain ⟨n3, e3⟩ := h3 3 (by omega)
  obtain ⟨n4, e4⟩ := h3 4 (by omega)
  obtain ⟨n5, e5⟩ := h3 5 (by omega)
  obtain ⟨n6, e6⟩ := h3 6 (by omega)
  obtain ⟨n7, e7⟩ := h3 7 (by omega)
  obtain ⟨n8, e8⟩ := h3 8 (by omega)
  obtain ⟨n9, e9⟩ := h3 9 (by omega)
  obtain ⟨n10, e10⟩ := h3 10 (by omega)
  obtain ⟨n11, e11⟩ := h3 11 (by omega)
  injection e0 with e0; injection e1 with e1; injection e2 with e2; injection e3 with e3; injection e4 with e4; injection e5 with e5
  injection e6 with e6; injection e7 with e7; injection e8 with e8; injection e9 with e9; injection e10 with e10; injection e11 with e11
  subst e0 e1 e2 e3 e4 e5 e6 e7 e8 e9 e10 e11
  exact ⟨_, _, _, _, _, _, _, _, _, _, _, _, h1⟩
set_option maxRecDepth 10000 in
set_option maxHeartbeats 4000000 in
theorem stokesAdd_tot (a b c d p q r t : Fr) (w : World) : Calls Tryz.prog 26 #[.agg #[.int .i64 a.re, .int .i64 a.im, .int .i64 a.den, .int .i64 b.re, .int .i64 b.im, .int .i64 b.den, .int .i64 c.re, .int .i64 c.im, .int .i64 c.den, .int .i64 d.re, .int .i64 d.im, .int .i64 d.den], .agg #[.int .i64 p.re, .int .i64 p.im, .int .i64 p.den, .int .i64 q.re, .int .i64 q.im, .int .i64 q.den, .int .i64 r.re, .int .i64 r.im, .int .i64 r.den, .int .i64 t.re, .int .i64 t.im, .int .i64 t.den]] w (TotS w) := by
  have k1 : ∀ w, Calls Tryz.prog 15 #[.agg #[.int .i64 a.re, .int .i64 a.im, .int .i64 a.den, .int .i64 b.re, .int .i64 b.im, .int .i64 b.den, .int .i64 c.re, .int .i64 c.im, .int .i64 c.den, .int .i64 d.re, .int .i64 d.im, .int .i64 d.den]] w fun e w' => e = .returned (.bool (svalid a b c d)) ∧ Ex w w' := fun w => sStokesValid a b c d w
  have k2 : ∀ w, Calls Tryz.prog 15 #[.agg #[.int .i64 p.re, .int .i64 p.im, .int .i64 p.den, .int .i64 q.re, .int .i64 q.im, .int .i64 q.den, .int .i64 r.re, .int .i64 r.im, .int .i64 r.den, .int .i64 t.re, .int .i64 t.im, .int .i64 t.den]] w fun e w' => e = .returned (.bool (svalid p q r t)) ∧ Ex w w' := fun w => sStokesValid p q r t w
  have k4 : ∀ (a1 a2 a3 b1 b2 b3 : Int) w, Calls Tryz.prog 45 #[.agg #[.int .i64 a1, .int .i64 a2, .int .i64 a3], .agg #[.int .i64 b1, .int .i64 b2, .int .i64 b3]] w (TotF w) := fun a1 a2 a3 b1 b2 b3 w => FrGot.tot (sFracAdd ⟨a1, a2, a3⟩ ⟨b1, b2, b3⟩ w)
  generalize svalid a b c d = va at k1
  generalize svalid p q r t = vb at k2
  have K1 := Lib.hid k1
  have K2 := Lib.hid k2
  have K4 := Lib.hid k4
  clear k1 k2 k4
  go_enter Tryz.func26, Tryz.ntmps26
  go_wp2_with fail
  have bA := ((Box.new w #[.int .i64 a.re, .int .i64 a.im, .int .i64 a.den, .int .i64 b.re, .int .i64 b.im, .int .i64 b.den, .int .i64 c.re, .int .i64 c.im, .int .i64 c.den, .int .i64 d.re, .int .i64 d.im, .int .i64 d.den] 27).alloc (.cells #[.int .i64 p.re, .int .i64 p.im, .int .i64 p.den, .int .i64 q.re, .int .i64 q.im, .int .i64 q.den, .int .i64 r.re, .int .i64 r.im, .int .i64 r.den, .int .i64 t.re, .int .i64 t.im, .int .i64 t.den] 27)).alloc (.cells #[.int .i64 0, .int .i64 0, .int .i64 0, .int .i64 0, .int .i64 0, .int .i64 0, .int .i64 0, .int .i64 0, .int .i64 0, .int .i64 0, .int .i64 0, .int .i64 0] 27)
  have bB := (Box.new (w.alloc (.cells #[.int .i64 a.re, .int .i64 a.im, .int .i64 a.den, .int .i64 b.re, .int .i64 b.im, .int .i64 b.den, .int .i64 c.re, .int .i64 c.im, .int .i64 c.den, .int .i64 d.re, .int .i64 d.im, .int .i64 d.den] 27)) #[.int .i64 p.re, .int .i64 p.im, .int .i64 p.den, .int .i64 q.re, .int .i64 q.im, .int .i64 q.den, .int .i64 r.re, .int .i64 r.im, .int .i64 r.den, .int .i64 t.re, .int .i64 t.im, .int .i64 t.den] 27).alloc (.cells #[.int .i64 0, .int .i64 0, .int .i64 0, .int .i64 0, .int .i64 0, .int .i64 0, .int .i64 0, .int .i64 0, .int .i64 0, .int .i64 0, .int .i64 0, .int .i64 0] 27)
  have bR := Box.new ((w.alloc (.cells #[.int .i64 a.re, .int .i64 a.im, .int .i64 a.den, .int .i64 b.re, .int .i64 b.im, .int .i64 b.den, .int .i64 c.re, .int .i64 c.im, .int .i64 c.den, .int .i64 d.re, .int .i64 d.im, .int .i64 d.den] 27)).alloc (.cells #[.int .i64 p.re, .int .i64 p.im, .int .i64 p.den, .int .i64 q.re, .int .i64 q.im, .int .i64 q.den, .int .i64 r.re, .int .i64 r.im, .int .i64 r.den, .int .i64 t.re, .int .i64 t.im, .int .i64 t.den] 27)) #[.int .i64 0, .int .i64 0, .int .i64 0, .int .i64 0, .int .i64 0, .int .i64 0, .int .i64 0, .int .i64 0, .int .i64 0, .int .i64 0, .int .i64 0, .int .i64 0] 27
  have hE := (((Ex.refl w).alloc (.cells #[.int .i64 a.re, .int .i64 a.im, .int .i64 a.den, .int .i64 b.re, .int .i64 b.im, .int .i64 b.den, .int .i64 c.re, .int .i64 c.im, .int .i64 c.den, .int .i64 d.re, .int .i64 d.im, .int .i64 d.den] 27)).alloc (.cells #[.int .i64 p.re, .int .i64 p.im, .int .i64 p.den, .int .i64 q.re, .int .i64 q.im, .int .i64 q.den, .int .i64 r.re, .int .i64 r.im, .int .i64 r.den, .int .i64 t.re, .int .i64 t.im, .int .i64 t.den] 27)).alloc (.cells #[.int .i64 0, .int .i64 0, .int .i64 0, .int .i64 0, .int .i64 0, .int .i64 0, .int .i64 0, .int .i64 0, .int .i64 0, .int .i64 0, .int .i64 0, .int .i64 0] 27)
  rw [alloc_size1, alloc_size1] at bR
  rw [alloc_size1] at bB
  generalize ((w.alloc (.cells #[.int .i64 a.re, .int .i64 a.im, .int .i64 a.den, .int .i64 b.re, .int .i64 b.im, .int .i64 b.den, .int .i64 c.re, .int .i64 c.im, .int .i64 c.den, .int .i64 d.re, .int .i64 d.im, .int .i64 d.den] 27)).alloc (.cells #[.int .i64 p.re, .int .i64 p.im, .int .i64 p.den, .int .i64 q.re, .int .i64 q.im, .int .i64 q.den, .int .i64 r.re, .int .i64 r.im, .int .i64 r.den, .int .i64 t.re, .int .i64 t.im, .int .i64 t.den] 27)).alloc (.cells #[.int .i64 0, .int .i64 0, .int .i64 0, .int .i64 0, .int .i64 0, .int .i64 0, .int .i64 0, .int .i64 0, .int .i64 0, .int .i64 0, .int .i64 0, .int .i64 0] 27) = wa at bA bB bR hE ⊢
  refine (K1.out _).mono ?_
  rintro e w1 ⟨rfl, hx⟩
  replace bA := bA.ex hx
  replace bB := bB.ex hx
  replace bR := bR.ex hx
  replace hE := hE.trans hx
  clear hx
  rcases va with _ | _
  · clear bA bB
    have cR := bR.cell
    have zR := bR.lt
    have fR := bR.frozen
    go_wp2
    clear cR zR fR
    replace hE := ex3 (ex3 (ex3 (ex3 (hE) (b := w.heap.size + 1 + 1) (by omega) 0 1 2 (.int .i64 0) (.int .i64 0) (.int .i64 0)) (b := w.heap.size + 1 + 1) (by omega) 3 4 5 (.int .i64 0) (.int .i64 0) (.int .i64 0)) (b := w.heap.size + 1 + 1) (by omega) 6 7 8 (.int .i64 0) (.int .i64 0) (.int .i64 0)) (b := w.heap.size + 1 + 1) (by omega) 9 10 11 (.int .i64 0) (.int .i64 0) (.int .i64 0)
    replace bR := put4_3 0 0 0 0 0 0 0 0 0 0 0 0 (put4_2 0 0 0 0 0 0 0 0 0 0 0 0 (put4_1 0 0 0 0 0 0 0 0 0 0 0 0 (put4_0 0 0 0 0 0 0 0 0 0 0 0 0 (bR))))
    generalize ((((((((((((w1.setCell ⟨w.heap.size + 1 + 1, 0, none⟩ (.int .i64 0)).setCell ⟨w.heap.size + 1 + 1, 1, none⟩ (.int .i64 0)).setCell ⟨w.heap.size + 1 + 1, 2, none⟩ (.int .i64 0)).setCell ⟨w.heap.size + 1 + 1, 3, none⟩ (.int .i64 0)).setCell ⟨w.heap.size + 1 + 1, 4, none⟩ (.int .i64 0)).setCell ⟨w.heap.size + 1 + 1, 5, none⟩ (.int .i64 0)).setCell ⟨w.heap.size + 1 + 1, 6, none⟩ (.int .i64 0)).setCell ⟨w.heap.size + 1 + 1, 7, none⟩ (.int .i64 0)).setCell ⟨w.heap.size + 1 + 1, 8, none⟩ (.int .i64 0)).setCell ⟨w.heap.size + 1 + 1, 9, none⟩ (.int .i64 0)).setCell ⟨w.heap.size + 1 + 1, 10, none⟩ (.int .i64 0)).setCell ⟨w.heap.size + 1 + 1, 11, none⟩ (.int .i64 0)) = Y at bR hE ⊢
    have cR := bR.cell
    refine bodyPost_ret (v := .tuple #[.agg #[.int .i64 0, .int .i64 0, .int .i64 0, .int .i64 0, .int .i64 0, .int .i64 0, .int .i64 0, .int .i64 0, .int .i64 0, .int .i64 0, .int .i64 0, .int .i64 0], .bool false]) ?_ rfl ⟨⟨0, 0, 0⟩, ⟨0, 0, 0⟩, ⟨0, 0, 0⟩, ⟨0, 0, 0⟩, false, rfl, hE⟩
    simp [results, Tryz.results26, go_sem, cR]
  have cB := bB.cell
  go_wp2_with fail
  refine (K2.out _).mono ?_
  rintro e w2 ⟨rfl, hx⟩
  replace bA := bA.ex hx
  replace bB := bB.ex hx
  replace bR := bR.ex hx
  replace hE := hE.trans hx
  clear hx cB
  rcases vb with _ | _
  · clear bA bB
    have cR := bR.cell
    have zR := bR.lt
    have fR := bR.frozen
    go_wp2
    clear cR zR fR
    replace hE := ex3 (ex3 (ex3 (ex3 (hE) (b := w.heap.size + 1 + 1) (by omega) 0 1 2 (.int .i64 0) (.int .i64 0) (.int .i64 0)) (b := w.heap.size + 1 + 1) (by omega) 3 4 5 (.int .i64 0) (.int .i64 0) (.int .i64 0)) (b := w.heap.size + 1 + 1) (by omega) 6 7 8 (.int .i64 0) (.int .i64 0) (.int .i64 0)) (b := w.heap.size + 1 + 1) (by omega) 9 10 11 (.int .i64 0) (.int .i64 0) (.int .i64 0)
    replace bR := put4_3 0 0 0 0 0 0 0 0 0 0 0 0 (put4_2 0 0 0 0 0 0 0 0 0 0 0 0 (put4_1 0 0 0 0 0 0 0 0 0 0 0 0 (put4_0 0 0 0 0 0 0 0 0 0 0 0 0 (bR))))
    generalize ((((((((((((w2.setCell ⟨w.heap.size + 1 + 1, 0, none⟩ (.int .i64 0)).setCell ⟨w.heap.size + 1 + 1, 1, none⟩ (.int .i64 0)).setCell ⟨w.heap.size + 1 + 1, 2, none⟩ (.int .i64 0)).setCell ⟨w.heap.size + 1 + 1, 3, none⟩ (.int .i64 0)).setCell ⟨w.heap.size + 1 + 1, 4, none⟩ (.int .i64 0)).setCell ⟨w.heap.size + 1 + 1, 5, none⟩ (.int .i64 0)).setCell ⟨w.heap.size + 1 + 1, 6, none⟩ (.int .i64 0)).setCell ⟨w.heap.size + 1 + 1, 7, none⟩ (.int .i64 0)).setCell ⟨w.heap.size + 1 + 1, 8, none⟩ (.int .i64 0)).setCell ⟨w.heap.size + 1 + 1, 9, none⟩ (.int .i64 0)).setCell ⟨w.heap.size + 1 + 1, 10, none⟩ (.int .i64 0)).setCell ⟨w.heap.size + 1 + 1, 11, none⟩ (.int .i64 0)) = Y at bR hE ⊢
    have cR := bR.cell
    refine bodyPost_ret (v := .tuple #[.agg #[.int .i64 0, .int .i64 0, .int .i64 0, .int .i64 0, .int .i64 0, .int .i64 0, .int .i64 0, .int .i64 0, .int .i64 0, .int .i64 0, .int .i64 0, .int .i64 0], .bool false]) ?_ rfl ⟨⟨0, 0, 0⟩, ⟨0, 0, 0⟩, ⟨0, 0, 0⟩, ⟨0, 0, 0⟩, false, rfl, hE⟩
    simp [results, Tryz.results26, go_sem, cR]
  have hlo := bR.lt
  go_upto_region 4 with fail
  have hV0 : Ex w2 (w2.alloc (.cells #[.int .i64 0, .int .i64 0, .int .i64 0, .int .i64 0, .int .i64 0, .int .i64 0, .int .i64 0, .int .i64 0, .int .i64 0, .int .i64 0, .int .i64 0, .int .i64 0] 27)) := (Ex.refl w2).alloc _
  have bO0 : Box12 (w2.alloc (.cells #[.int .i64 0, .int .i64 0, .int .i64 0, .int .i64 0, .int .i64 0, .int .i64 0, .int .i64 0, .int .i64 0, .int .i64 0, .int .i64 0, .int .i64 0, .int .i64 0] 27)) w2.heap.size 27 := ⟨_, Box.new w2 _ _, rfl, zeros12⟩
  generalize w2.alloc (.cells #[.int .i64 0, .int .i64 0, .int .i64 0, .int .i64 0, .int .i64 0, .int .i64 0, .int .i64 0, .int .i64 0, .int .i64 0, .int .i64 0, .int .i64 0, .int .i64 0] 27) = w3 at hV0 bO0 ⊢
  go_wp2_with fail
  go_loopw [7, 8, 9] (fun i s8 s9 wr => ∃ k : Nat, i = .int .i64 k ∧ k ≤ 4 ∧ Hid (Box12 wr w2.heap.size 27) ∧ Ex w2 wr) (fun i _ _ _ => 4 - (intOf i).toNat)
  case atStart => exact ⟨0, rfl, by omega, Lib.hid bO0, hV0⟩
  case round =>
    obtain ⟨k, rfl, hk, HO, hV⟩ := hrel
    clear hV0 bO0
    by_cases hk4 : k < 4
    · have hkI : (k : Int) < 4 := by omega
      have bA2 := bA.ex hV
      have bB2 := bB.ex hV
      have zA := bA2.lt
      have zB := bB2.lt
      obtain ⟨u0, du0⟩ : ∃ n, wr.cell? ⟨w.heap.size, k * 3, none⟩ = some (.int .i64 n) := by rw [bA2.cell]; exact at12 _ _ _ _ _ _ _ _ _ _ _ _ (by omega)
      obtain ⟨u1, du1⟩ : ∃ n, wr.cell? ⟨w.heap.size, k * 3 + 1, none⟩ = some (.int .i64 n) := by rw [bA2.cell]; exact at12 _ _ _ _ _ _ _ _ _ _ _ _ (by omega)
      obtain ⟨u2, du2⟩ : ∃ n, wr.cell? ⟨w.heap.size, k * 3 + 2, none⟩ = some (.int .i64 n) := by rw [bA2.cell]; exact at12 _ _ _ _ _ _ _ _ _ _ _ _ (by omega)
      obtain ⟨v0, dv0⟩ : ∃ n, wr.cell? ⟨w.heap.size + 1, k * 3, none⟩ = some (.int .i64 n) := by rw [bB2.cell]; exact at12 _ _ _ _ _ _ _ _ _ _ _ _ (by omega)
      obtain ⟨v1, dv1⟩ : ∃ n, wr.cell? ⟨w.heap.size + 1, k * 3 + 1, none⟩ = some (.int .i64 n) := by rw [bB2.cell]; exact at12 _ _ _ _ _ _ _ _ _ _ _ _ (by omega)
      obtain ⟨v2, dv2⟩ : ∃ n, wr.cell? ⟨w.heap.size + 1, k * 3 + 2, none⟩ = some (.int .i64 n) := by rw [bB2.cell]; exact at12 _ _ _ _ _ _ _ _ _ _ _ _ (by omega)
      clear bA2 bB2
      have hOl : w2.heap.size < wr.heap.size := by obtain ⟨cs, hcs, -⟩ := HO.out; exact hcs.lt
      go_upto_region 7 with fail
      go_cut [8, 9] (fun s8 s9 wx => ∃ (r1 r2 r3 : Int) (ok : Bool) (n : Nat), s8 = .pointer (some ⟨n, 0, none⟩) ∧ s9 = .bool ok ∧ Box wx n 24 #[.int .i64 r1, .int .i64 r2, .int .i64 r3] ∧ wr.heap.size ≤ n ∧ Ex wr wx)
      case first =>
        clear bA bB bR hE HO hV
        go_region_law (first
          | (go_simp; go_at_call 45; refine (K4.out _ _ _ _ _ _ wr.drew).mono ?_; rintro e wn ⟨r1, r2, r3, ok, rfl, hx⟩; have hx2 := Ex.trans (Ex.drew (Ex.refl wr)) hx; have hx3 := hx2.size)
          | (go_simp; go_at_call 45; refine (K4.out _ _ _ _ _ _ (wr.drew.alloc (.cells #[.int .i64 0, .int .i64 0, .int .i64 0] 24))).mono ?_; rintro e wn ⟨r1, r2, r3, ok, rfl, hx⟩; have hx2 := Ex.trans ((Ex.drew (Ex.refl wr)).alloc (.cells #[.int .i64 0, .int .i64 0, .int .i64 0] 24)) hx; have bZ := (Box.new wr.drew #[.int .i64 0, .int .i64 0, .int .i64 0] 24).ex hx; have cz := bZ.cell; have cz0 : wn.cell? ⟨wr.heap.size, 0, none⟩ = some (.int .i64 0) := cz 0; have cz1 : wn.cell? ⟨wr.heap.size, 1, none⟩ = some (.int .i64 0) := cz 1; have cz2 : wn.cell? ⟨wr.heap.size, 2, none⟩ = some (.int .i64 0) := cz 2; have fz0 : wn.frozen? ⟨wr.heap.size, 0, none⟩ = false := bZ.frozen 0; have fz1 : wn.frozen? ⟨wr.heap.size, 1, none⟩ = false := bZ.frozen 1; have fz2 : wn.frozen? ⟨wr.heap.size, 2, none⟩ = false := bZ.frozen 2; have zz : wr.heap.size < wn.heap.size := bZ.lt))
        all_goals (
          go_wp2_with fail
          go_meet
          first
            | exact ⟨r1, r2, r3, ok, wn.heap.size, rfl, rfl, Box.new wn _ _, hx3, hx2.alloc _⟩
            | exact ⟨r1, r2, r3, ok, wr.heap.size, rfl, rfl, put3 bZ _ _ _, Nat.le_refl _, exs3 hx2 (Nat.le_refl _) _ _ _⟩)
      case rest =>
        obtain ⟨r1, r2, r3, ok, n, rfl, rfl, bN, hn, hx⟩ := hcut
        have hV2 := hV.trans hx
        have HO2 : Box12 wc w2.heap.size 27 := HO.out.ex hx
        clear du0 du1 du2 dv0 dv1 dv2 HO
        rcases ok with _ | _
        · replace bR := bR.ex hV2
          replace hE := hE.trans hV2
          clear HO2 bN
          clear bA bB
          have cR := bR.cell
          have zR := bR.lt
          have fR := bR.frozen
          go_wp2
          clear cR zR fR
          replace hE := ex3 (ex3 (ex3 (ex3 (hE) (b := w.heap.size + 1 + 1) (by omega) 0 1 2 (.int .i64 0) (.int .i64 0) (.int .i64 0)) (b := w.heap.size + 1 + 1) (by omega) 3 4 5 (.int .i64 0) (.int .i64 0) (.int .i64 0)) (b := w.heap.size + 1 + 1) (by omega) 6 7 8 (.int .i64 0) (.int .i64 0) (.int .i64 0)) (b := w.heap.size + 1 + 1) (by omega) 9 10 11 (.int .i64 0) (.int .i64 0) (.int .i64 0)
          replace bR := put4_3 0 0 0 0 0 0 0 0 0 0 0 0 (put4_2 0 0 0 0 0 0 0 0 0 0 0 0 (put4_1 0 0 0 0 0 0 0 0 0 0 0 0 (put4_0 0 0 0 0 0 0 0 0 0 0 0 0 (bR))))
          generalize ((((((((((((wc.setCell ⟨w.heap.size + 1 + 1, 0, none⟩ (.int .i64 0)).setCell ⟨w.heap.size + 1 + 1, 1, none⟩ (.int .i64 0)).setCell ⟨w.heap.size + 1 + 1, 2, none⟩ (.int .i64 0)).setCell ⟨w.heap.size + 1 + 1, 3, none⟩ (.int .i64 0)).setCell ⟨w.heap.size + 1 + 1, 4, none⟩ (.int .i64 0)).setCell ⟨w.heap.size + 1 + 1, 5, none⟩ (.int .i64 0)).setCell ⟨w.heap.size + 1 + 1, 6, none⟩ (.int .i64 0)).setCell ⟨w.heap.size + 1 + 1, 7, none⟩ (.int .i64 0)).setCell ⟨w.heap.size + 1 + 1, 8, none⟩ (.int .i64 0)).setCell ⟨w.heap.size + 1 + 1, 9, none⟩ (.int .i64 0)).setCell ⟨w.heap.size + 1 + 1, 10, none⟩ (.int .i64 0)).setCell ⟨w.heap.size + 1 + 1, 11, none⟩ (.int .i64 0)) = Y at bR hE ⊢
          have cR := bR.cell
          refine bodyPost_ret (v := .tuple #[.agg #[.int .i64 0, .int .i64 0, .int .i64 0, .int .i64 0, .int .i64 0, .int .i64 0, .int .i64 0, .int .i64 0, .int .i64 0, .int .i64 0, .int .i64 0, .int .i64 0], .bool false]) ?_ rfl ⟨⟨0, 0, 0⟩, ⟨0, 0, 0⟩, ⟨0, 0, 0⟩, ⟨0, 0, 0⟩, false, rfl, hE⟩
          simp [results, Tryz.results26, go_sem, cR]
        · obtain ⟨cs, hcs, hsz, hin⟩ := HO2
          have cN := bN.cell
          obtain ⟨o0, do0⟩ : ∃ n, wc.cell? ⟨w2.heap.size, k * 3, none⟩ = some (.int .i64 n) := by rw [hcs.cell]; exact hin _ (by omega)
          obtain ⟨o1, do1⟩ : ∃ n, wc.cell? ⟨w2.heap.size, k * 3 + 1, none⟩ = some (.int .i64 n) := by rw [hcs.cell]; exact hin _ (by omega)
          obtain ⟨o2, do2⟩ : ∃ n, wc.cell? ⟨w2.heap.size, k * 3 + 2, none⟩ = some (.int .i64 n) := by rw [hcs.cell]; exact hin _ (by omega)
          have fO := hcs.frozen
          have hw5 : IntKind.i64.wrap ((k : Int) + 1) = (k : Int) + 1 := IntWalk.i64_in _ (by omega)
          go_wp2
          go_roundw
          case rel => exact ⟨k + 1, by go_num, by omega, Lib.hid ((((Box12.set ⟨cs, hcs, hsz, hin⟩ (by omega) r1).set (by omega) r2).set (by omega) r3)), ((hV2.setCell (Nat.le_refl _) _).setCell (Nat.le_refl _) _).setCell (Nat.le_refl _) _⟩
          case measure => simp [intOf]; omega
    · have hkI : ¬ (k : Int) < 4 := by omega
      obtain ⟨o1, o2, o3, o4, o5, o6, o7, o8, o9, o10, o11, o12, bO⟩ := HO.out.all
      have cO := bO.cell
      replace bR := bR.ex hV
      replace hE := hE.trans hV
      clear bA bB
      have cR := bR.cell
      have zR := bR.lt
      have fR := bR.frozen
      go_wp2
      clear cR zR fR cO bO
      replace hE := ex3 (ex3 (ex3 (ex3 (hE) (b := w.heap.size + 1 + 1) (by omega) 0 1 2 (.int .i64 o1) (.int .i64 o2) (.int .i64 o3)) (b := w.heap.size + 1 + 1) (by omega) 3 4 5 (.int .i64 o4) (.int .i64 o5) (.int .i64 o6)) (b := w.heap.size + 1 + 1) (by omega) 6 7 8 (.int .i64 o7) (.int .i64 o8) (.int .i64 o9)) (b := w.heap.size + 1 + 1) (by omega) 9 10 11 (.int .i64 o10) (.int .i64 o11) (.int .i64 o12)
      replace bR := put4_3 o1 o2 o3 o4 o5 o6 o7 o8 o9 o10 o11 o12 (put4_2 o1 o2 o3 o4 o5 o6 o7 o8 o9 o10 o11 o12 (put4_1 o1 o2 o3 o4 o5 o6 o7 o8 o9 o10 o11 o12 (put4_0 o1 o2 o3 o4 o5 o6 o7 o8 o9 o10 o11 o12 (bR))))
      generalize ((((((((((((wr.setCell ⟨w.heap.size + 1 + 1, 0, none⟩ (.int .i64 o1)).setCell ⟨w.heap.size + 1 + 1, 1, none⟩ (.int .i64 o2)).setCell ⟨w.heap.size + 1 + 1, 2, none⟩ (.int .i64 o3)).setCell ⟨w.heap.size + 1 + 1, 3, none⟩ (.int .i64 o4)).setCell ⟨w.heap.size + 1 + 1, 4, none⟩ (.int .i64 o5)).setCell ⟨w.heap.size + 1 + 1, 5, none⟩ (.int .i64 o6)).setCell ⟨w.heap.size + 1 + 1, 6, none⟩ (.int .i64 o7)).setCell ⟨w.heap.size + 1 + 1, 7, none⟩ (.int .i64 o8)).setCell ⟨w.heap.size + 1 + 1, 8, none⟩ (.int .i64 o9)).setCell ⟨w.heap.size + 1 + 1, 9, none⟩ (.int .i64 o10)).setCell ⟨w.heap.size + 1 + 1, 10, none⟩ (.int .i64 o11)).setCell ⟨w.heap.size + 1 + 1, 11, none⟩ (.int .i64 o12)) = Y at bR hE ⊢
      have cR := bR.cell
      refine bodyPost_ret (v := .tuple #[.agg #[.int .i64 o1, .int .i64 o2, .int .i64 o3, .int .i64 o4, .int .i64 o5, .int .i64 o6, .int .i64 o7, .int .i64 o8, .int .i64 o9, .int .i64 o10, .int .i64 o11, .int .i64 o12], .bool true]) ?_ rfl ⟨⟨o1, o2, o3⟩, ⟨o4, o5, o6⟩, ⟨o7, o8, o9⟩, ⟨o10, o11, o12⟩, true, rfl, hE⟩
      simp [results, Tryz.results26, go_sem, cR]
end Go.Proofs.YtklkfkgpjjpaiaaGreatDoor
