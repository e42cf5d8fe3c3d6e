/-
  Walks: draws of a grid and of what is sought in it.
-/
import Derived.Test.YtgkekdiffgmllaaDrawF
namespace Go.Proofs.Ytgkekdiffgmllaa
open Go.RowKit

theorem Rdr.ne {w : World} {bo : Nat} {A : Option Addr} {n cap a : Nat} (h : Rdr w bo A n cap a) {b : Nat} (hb : b ≠ bo) : ∀ j u, Rdr (w.setCell ⟨b, j, none⟩ u) bo A n cap a := fun j u => Box.far (p := ⟨b, j, none⟩) h (by simp only; omega) u
theorem ownF_cells {w : World} {lo g cap : Nat} {ys : List Fr} (h : Own w lo 24 3 (.slice (some ⟨g, 0, none⟩) ys.length cap) ys.length (frCells ys)) {j : Nat} (hj : j < ys.length) :
    w.cell? ⟨g, j * 3, none⟩ = some (.int .i64 (ys.getD j .zero).re) ∧ w.cell? ⟨g, j * 3 + 1, none⟩ = some (.int .i64 (ys.getD j .zero).im) ∧ w.cell? ⟨g, j * 3 + 2, none⟩ = some (.int .i64 (ys.getD j .zero).den) := by
  obtain ⟨h1, h2, h3⟩ := frCells_at ys j hj
  exact ⟨(World.ownsRow.cellAt h (j * 3) (by omega)).trans h1, (World.ownsRow.cellAt h (j * 3 + 1) (by omega)).trans h2, (World.ownsRow.cellAt h (j * 3 + 2) (by omega)).trans h3⟩
/-- A pick of a place in a row, with what the row holds there. -/
def PickAt (w1 : World) (rb lo g cb : Nat) (ys : List Fr) : Ending → World → Prop := fun e w5 =>
  ∃ j : Nat, e = .returned (.int .i64 (j : Int)) ∧ j < ys.length ∧ Own w5 lo 24 3 (.slice (some ⟨g, 0, none⟩) ys.length cb) ys.length (frCells ys) ∧ Ex w1 w5 ∧ Box w5 rb 24 #[.int .i64 0, .int .i64 0, .int .i64 0]
def SoughtR (w : World) : Ending → World → Prop := fun e w' =>
  ∃ (B : Option Addr) (cb : Nat) (ys : List Fr) (x : Fr), e = .returned (.tuple #[.slice B ys.length cb, x.v]) ∧ ys.length ≤ 6 ∧ OwnF w' w.heap.size B cb ys ∧ Ex w w'
set_option maxRecDepth 4000 in
set_option maxHeartbeats 2000000 in
theorem l92Sought_any (A : Option Addr) (xs : List Int) (cap : Nat) (w : World) (hB : Byts w A xs) (hl : xs.length ≤ 9223372036854775807) (hcap : xs.length ≤ cap) (hcap2 : cap ≤ 9223372036854775807) :
    Calls Try.prog 67 #[.slice A xs.length cap] w (SoughtR w) := by
  go_enter Try.func67, Try.ntmps67
  go_wp2_with fail
  refine (l6Open_any A xs cap _ (hB.alloc _) hl hcap hcap2).mono ?_
  rintro e w2 ⟨bs, cap', rfl, hBb, hbl, hbR, hx, -⟩
  obtain ⟨w1, hw1⟩ : ∃ w1, w1 = w.alloc (.cells #[.int .i64 0, .int .i64 0, .int .i64 0] 24) := ⟨_, rfl⟩
  have bR1 : Box w1 w.heap.size 24 #[.int .i64 0, .int .i64 0, .int .i64 0] := by rw [hw1]; exact Box.new _ _ _
  have hE1 : Ex w w1 := by rw [hw1]; exact (Ex.refl _).alloc _
  have hz1 : w1.heap.size = w.heap.size + 1 := by rw [hw1]; simp
  rw [← hw1] at hBb hx hbR
  rw [← hw1]
  have hbo : w1.heap.size ≤ w.heap.size + 1 := by omega
  have hRd : Rdr w2 (w.heap.size + 1) A bs.length cap' 0 := by rw [hz1] at hbR; exact hbR
  clear hw1 hB hbR
  have hpk := fun a m v hE hb ha hm hm2 => pick_dr hBb hbl (w.heap.size + 1) cap' a m v hE hbo hb ha hm hm2
  have hlf := fun a v hE hb ha => l91Frac_any hBb hbl (w.heap.size + 1) cap' a v hE hbo hb ha
  have HP := Lib.hid hpk
  have HF := Lib.hid hlf
  clear hpk hlf
  go_wp2_with fail
  refine (l92Grid_any (W := w1) hBb hbl (w.heap.size + 1) cap' 0 w2 (Ex.refl _) hx hbo hRd (by omega)).mono ?_
  rintro e w3 ⟨B, cb, ys, a', rfl, hyl, hO, haa, hE3, hR3, hs3⟩
  have hs2 := hx.size
  have HO : Hid (Own w3 w2.heap.size 24 3 (.slice B ys.length cb) ys.length (frCells ys)) := Lib.hid hO
  clear hRd hx hO
  by_cases hpos : ys.length = 0
  · have hl0 : ys = [] := List.length_eq_zero_iff.1 hpos
    subst hl0
    go_wp2_with fail
    refine (HF.out a' _ hE3 hR3 (by omega)).mono ?_
    rintro e w4 ⟨⟨x1, x2, x3⟩, a2, rfl, ha2, hd, hb4⟩
    have hE4 := hd.ex w1 hE3 hbo
    have bR4 := bR1.ex hE4
    have cR := bR4.cell
    have fR := bR4.frozen
    simp only [Fr.v]
    go_wp2
    refine bodyPost_ret (v := .tuple #[.slice B 0 cb, .agg #[.int .i64 x1, .int .i64 x2, .int .i64 x3]]) ?_ rfl ⟨B, cb, [], ⟨x1, x2, x3⟩, rfl, by simp, ?_, ?_⟩
    · simp [results, Try.results67, go_sem, cR]
    · have HO4 : Own w4 w2.heap.size 24 3 (.slice B 0 cb) 0 (frCells []) := hd.own _ _ _ _ _ _ (by decide) HO.out
      have h1 := Own.setBelow (p := ⟨w.heap.size, 0, none⟩) HO4 (by simp only; omega) (.int .i64 x1)
      have h2 := Own.setBelow (p := ⟨w.heap.size, 1, none⟩) h1 (by simp only; omega) (.int .i64 x2)
      have h3 := Own.setBelow (p := ⟨w.heap.size, 2, none⟩) h2 (by simp only; omega) (.int .i64 x3)
      exact Own.wide h3 (by omega)
    · exact (((hE1.trans hE4).setCell (p := ⟨w.heap.size, 0, none⟩) (Nat.le_refl _) _).setCell (p := ⟨w.heap.size, 1, none⟩) (Nat.le_refl _) _).setCell (p := ⟨w.heap.size, 2, none⟩) (Nat.le_refl _) _
  · have hposI : (0 : Int) < (ys.length : Int) := by omega
    go_wp2_with fail
    refine (HP.out a' 3 _ hE3 hR3 (by omega) (by omega) (by omega)).mono ?_
    rintro e w4 ⟨u, rfl, hu0, hu1, hd, hb4⟩
    have HO4 : Hid (Own w4 w2.heap.size 24 3 (.slice B ys.length cb) ys.length (frCells ys)) := Lib.hid (hd.own _ _ _ _ _ _ (by decide) HO.out)
    have hE4 := hd.ex w1 hE3 hbo
    clear hd HO hE3 hR3
    rcases h0 : (u == 0) with _ | _
    · go_wp2_with fail
      refine (HF.out (a' + 1) _ hE4 hb4 (by omega)).mono ?_
      rintro e w5 ⟨⟨x1, x2, x3⟩, a2, rfl, ha2, hd, hb5⟩
      have HO5 : Hid (Own w5 w2.heap.size 24 3 (.slice B ys.length cb) ys.length (frCells ys)) := Lib.hid (hd.own _ _ _ _ _ _ (by decide) HO4.out)
      have hE5 := hd.ex w1 hE4 hbo
      have bR5 := bR1.ex hE5
      have cR := bR5.cell
      have fR := bR5.frozen
      simp only [Fr.v]
      go_wp2
      refine bodyPost_ret (v := .tuple #[.slice B ys.length cb, .agg #[.int .i64 x1, .int .i64 x2, .int .i64 x3]]) ?_ rfl ⟨B, cb, ys, ⟨x1, x2, x3⟩, rfl, hyl, ?_, ?_⟩
      · simp [results, Try.results67, go_sem, cR]
      · have h1 := Own.setBelow (p := ⟨w.heap.size, 0, none⟩) HO5.out (by simp only; omega) (.int .i64 x1)
        have h2 := Own.setBelow (p := ⟨w.heap.size, 1, none⟩) h1 (by simp only; omega) (.int .i64 x2)
        have h3 := Own.setBelow (p := ⟨w.heap.size, 2, none⟩) h2 (by simp only; omega) (.int .i64 x3)
        exact Own.wide h3 (by omega)
      · exact (((hE1.trans hE5).setCell (p := ⟨w.heap.size, 0, none⟩) (Nat.le_refl _) _).setCell (p := ⟨w.heap.size, 1, none⟩) (Nat.le_refl _) _).setCell (p := ⟨w.heap.size, 2, none⟩) (Nat.le_refl _) _
    · have hpl := fun w hE hb => HP.out (a' + 1) (ys.length : Int) w hE hb (by omega) (by omega) (by omega)
      have hb4d : Rdr w4.drew (w.heap.size + 1) A bs.length cap' (a' + 1) := hb4
      have hp1 := Lib.hid (hpl w4 hE4 hb4)
      have hp2 := Lib.hid (hpl w4.drew hE4.drew hb4d)
      clear hpl
      obtain ⟨B', cb', hv, hA⟩ := Own.form HO4.out
      injection hv with e1 e2 e3
      subst e1; subst e3
      obtain ⟨g, rfl, hgl⟩ := hA (by omega)
      clear hA
      have hp3 : ∀ w', Ex w1 w' → Rdr w' (w.heap.size + 1) A bs.length cap' (a' + 1) → Own w' w2.heap.size 24 3 (.slice (some ⟨g, 0, none⟩) ys.length cb) ys.length (frCells ys) →
          Calls Try.prog 78 #[.pointer (some ⟨w.heap.size + 1, 0, none⟩), .int .i64 (ys.length : Int)] w' (PickAt w1 w.heap.size w2.heap.size g cb ys) := by
        intro w' h1 h2 h3
        refine (HP.out (a' + 1) (ys.length : Int) w' h1 h2 (by omega) (by omega) (by omega)).mono ?_
        rintro e w5 ⟨v, rfl, hv0, hv1, hd, hb5⟩
        obtain ⟨j, rfl⟩ := Int.eq_ofNat_of_zero_le hv0
        have hE5 := hd.ex w1 h1 hbo
        exact ⟨j, rfl, by omega, hd.own _ _ _ _ _ _ (by decide) h3, hE5, bR1.ex hE5⟩
      have q1 := Lib.hid (hp3 w4 hE4 hb4 HO4.out)
      have q2 := Lib.hid (hp3 w4.drew hE4.drew hb4d HO4.out)
      clear hp1 hp2 hp3
      go_wp2
      go_region_with ((go_at_call 78; (first | (with_reducible refine (q1.out).mono ?_) | (with_reducible refine (q2.out).mono ?_)); rintro e w5 ⟨j, rfl, hjl, hO5, hE5, bR5⟩; have cR := bR5.cell; have fR := bR5.frozen; obtain ⟨c1, c2, c3⟩ := ownF_cells hO5 hjl))
      all_goals
        go_wp2
        refine bodyPost_ret (v := .tuple #[.slice (some ⟨g, 0, none⟩) ys.length cb, .agg #[.int .i64 ys[j].re, .int .i64 ys[j].im, .int .i64 ys[j].den]]) ?_ rfl ⟨_, cb, ys, ys[j], rfl, hyl, ?_, ?_⟩
        · simp [results, Try.results67, go_sem, cR]
        · have h1 := Own.setBelow (p := ⟨w.heap.size, 0, none⟩) hO5 (by simp only; omega) (.int .i64 ys[j].re)
          have h2 := Own.setBelow (p := ⟨w.heap.size, 1, none⟩) h1 (by simp only; omega) (.int .i64 ys[j].im)
          have h3 := Own.setBelow (p := ⟨w.heap.size, 2, none⟩) h2 (by simp only; omega) (.int .i64 ys[j].den)
          exact Own.wide h3 (by omega)
        · exact (((hE1.trans hE5).setCell (p := ⟨w.heap.size, 0, none⟩) (Nat.le_refl _) _).setCell (p := ⟨w.heap.size, 1, none⟩) (Nat.le_refl _) _).setCell (p := ⟨w.heap.size, 2, none⟩) (Nat.le_refl _) _
end Go.Proofs.Ytgkekdiffgmllaa
