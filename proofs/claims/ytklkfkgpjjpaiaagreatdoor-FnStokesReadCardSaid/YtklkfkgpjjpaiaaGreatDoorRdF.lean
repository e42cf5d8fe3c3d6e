/-
  Walks: the reference's reading of a text of a fraction.
-/
import Derived.Test.YtklkfkgpjjpaiaaGreatDoorRdS
import Derived.Lib.Strings
set_option linter.unusedSimpArgs false
set_option linter.unusedVariables false
namespace Go.Proofs.YtklkfkgpjjpaiaaGreatDoor
open Go.RowKit

/-- What a call that reads a fraction hands back. -/
def GotF (w : World) (r : Fr × Bool) : Ending → World → Prop := fun e w' => e = .returned (.tuple #[r.1.v, .bool r.2]) ∧ Ex w w'
theorem part_bound (l : List UInt8) (i : Nat) : (part l i).2 ≤ i + 1 + l.length ∧ -20000000009 ≤ (part l i).1 ∧ (part l i).1 ≤ 20000000009 := by
  have h := dig_bounds (l.drop (i + 1)) 0 (by omega)
  have h2 : (l.drop (i + 1)).length ≤ l.length := by simp
  unfold part
  refine ⟨by simp only; omega, ?_, ?_⟩
  · simp only
    split <;> omega
  · simp only
    split <;> omega
theorem put3 {W : World} {b : Nat} {t : TypeId} {x y z : Value} (h : Box W b t #[x, y, z]) (u v s : Value) : Box (((W.setCell ⟨b, 0, none⟩ u).setCell ⟨b, 1, none⟩ v).setCell ⟨b, 2, none⟩ s) b t #[u, v, s] := by
  have h2 := ((h.set_ 0 u).set_ 1 v).set_ 2 s
  simpa using h2
theorem exs3 {w W : World} (h : Ex w W) {b : Nat} (hb : w.heap.size ≤ b) (u v x : Value) : Ex w (((W.setCell ⟨b, 0, none⟩ u).setCell ⟨b, 1, none⟩ v).setCell ⟨b, 2, none⟩ x) :=
  ((h.setCell (p := ⟨b, 0, none⟩) hb u).setCell (p := ⟨b, 1, none⟩) hb v).setCell (p := ⟨b, 2, none⟩) hb x
theorem str_ne {T S : ByteArray} (h : ¬ T = S) : (T.toList == S.toList) = false := by
  rw [beq_eq_false_iff_ne, Lib.toList_data, Lib.toList_data]
  exact fun e => h (bytes_same e)
theorem Bs_ne {a b : List UInt8} (h : a ≠ b) : ¬ Bs a = Bs b := fun e => h (by
  have h2 : (Bs a).data.toList = (Bs b).data.toList := by rw [e]
  simpa [Bs] using h2)
theorem rd_bad {l : List UInt8} (h : ¬ ((sparse l).valid = true ∧ txt (sparse l) = l)) : rd l = (⟨0, 0, 0⟩, false) := if_neg h
theorem rd_good {l : List UInt8} (h : (sparse l).valid = true) (h2 : txt (sparse l) = l) : rd l = (sparse l, true) := if_pos ⟨h, h2⟩
theorem rd_long {l : List UInt8} (h : 34 < l.length) : rd l = (⟨0, 0, 0⟩, false) := rd_none fun x hv ht => by
  have := txt_len hv
  rw [ht] at this
  omega
set_option maxRecDepth 10000 in
set_option maxHeartbeats 1000000 in
theorem sFracRead (l : List UInt8) (hl : l.length ≤ 1048576) (w : World) : Calls Tryz.prog 23 #[.string (Bs l)] w (GotF w (rd l)) := by
  obtain ⟨S, HS⟩ : ∃ S, Hid (S = Bs l) := ⟨_, Lib.hid rfl⟩
  rw [← HS.out]
  have hsz : S.size = l.length := by rw [HS.out]; rfl
  by_cases h50 : 50 < l.length
  · rw [rd_long (by omega)]
    have h50i : (50 : Int) < (S.size : Int) := by omega
    show Calls _ _ _ w fun e w' => e = .returned (.tuple #[.agg #[.int .i64 0, .int .i64 0, .int .i64 0], .bool false]) ∧ Ex w w'
    clear hsz h50
    go_enter Tryz.func23, Tryz.ntmps23
    go_wp2
    refine bodyPost_ret (v := .tuple #[.agg #[.int .i64 0, .int .i64 0, .int .i64 0], .bool false]) ?_ rfl ⟨rfl, by repeat' (with_reducible first | exact Ex.refl _ | assumption | refine Ex.alloc ?_ _ | refine Ex.drewN ?_ _ | refine Ex.drew ?_ | refine Ex.setCell ?_ (by simp <;> omega) _)⟩
    simp [results, Tryz.results23, go_sem]
  · have h50i : ¬ (50 : Int) < (S.size : Int) := by omega
    have k1 : ∀ w, Calls Tryz.prog 39 #[.string S, .int .i64 0] w fun e w' => e = .returned (.tuple #[.int .i64 (part l 0).1, .int .i64 ((part l 0).2 : Nat)]) ∧ Ex w w' := fun w => by rw [HS.out]; exact l14Part_any l 0 hl (by omega) w
    have b1 := part_bound l 0
    have k2 : ∀ w, Calls Tryz.prog 39 #[.string S, .int .i64 ((part l 0).2 : Nat)] w fun e w' => e = .returned (.tuple #[.int .i64 (part l (part l 0).2).1, .int .i64 ((part l (part l 0).2).2 : Nat)]) ∧ Ex w w' := fun w => by rw [HS.out]; exact l14Part_any l (part l 0).2 hl (by omega) w
    have b2 := part_bound l (part l 0).2
    have hsp : sparse l = ⟨(part l 0).1, (part l (part l 0).2).1, if (part l (part l 0).2).2 + 1 < l.length then ((dig (l.drop ((part l (part l 0).2).2 + 2)) 0).1 : Int) else 1⟩ := rfl
    have k3 : ∀ w, Calls Tryz.prog 40 #[.string S, .int .i64 ((part l (part l 0).2).2 + 2 : Nat)] w fun e w' => e = .returned (.tuple #[.int .i64 ((dig (l.drop ((part l (part l 0).2).2 + 2)) 0).1 : Nat), .int .i64 ((part l (part l 0).2).2 + 2 + (dig (l.drop ((part l (part l 0).2).2 + 2)) 0).2 : Nat)]) ∧ Ex w w' := fun w => by rw [HS.out]; exact l14Digits_any l _ hl (by omega) w
    have kt := fun w => sFracText (sparse l) w
    generalize dig (l.drop ((part l (part l 0).2).2 + 2)) 0 = dg at k3 hsp
    generalize part l (part l 0).2 = q at k2 b2 hsp k3
    generalize part l 0 = p at k1 k2 b1 b2 hsp
    obtain ⟨re, i⟩ := p
    obtain ⟨im, k⟩ := q
    obtain ⟨n, en⟩ := dg
    simp only at k1 k2 k3 b1 b2 hsp
    have hw1 : IntKind.i64.wrap ((k : Int) + 1) = (k : Int) + 1 := IntWalk.i64_in _ (by omega)
    have hw2 : IntKind.i64.wrap ((k : Int) + 2) = ((k + 2 : Nat) : Int) := by rw [IntWalk.i64_in _ (by omega)]; omega
    have K1 := Lib.hid k1
    have K2 := Lib.hid k2
    have K3 := Lib.hid k3
    clear k1 k2 k3 b1 b2
    by_cases hk : k + 1 < l.length
    · rw [if_pos hk] at hsp
      have hki : (k : Int) + 1 < (S.size : Int) := by omega
      clear hsz h50
      rcases hv : (sparse l).valid with _ | _
      · rw [rd_bad (by rw [hv]; rintro ⟨h, -⟩; cases h)]
        have e : ftext (sparse l) = ([], false) := by simp [ftext, hv]
        rw [e, hsp] at kt
        have KT : Hid (∀ w, Calls Tryz.prog 41 #[.agg #[.int .i64 re, .int .i64 im, .int .i64 (n : Int)]] w fun e w' => e = .returned (.tuple #[.string ⟨#[]⟩, .bool false]) ∧ Ex w w') := kt
        show Calls _ _ _ w fun e w' => e = .returned (.tuple #[.agg #[.int .i64 0, .int .i64 0, .int .i64 0], .bool false]) ∧ Ex w w'
        clear kt e hv hsp hk
        go_enter Tryz.func23, Tryz.ntmps23
        go_wp2_with fail
        refine (K1.out _).mono ?_
        rintro e w1 ⟨rfl, hx⟩
        have hE := ((Ex.refl _).alloc _).trans hx
        have bR := (Box.new w #[.int .i64 0, .int .i64 0, .int .i64 0] 24).ex hx
        clear hx
        go_wp2_with fail
        refine (K2.out _).mono ?_
        rintro e w2 ⟨rfl, hx⟩
        replace hE := hE.trans hx
        replace bR := bR.ex hx
        clear hx
        go_wp2_with fail
        refine (K3.out _).mono ?_
        rintro e w3 ⟨rfl, hx⟩
        replace hE := hE.trans hx
        replace bR := bR.ex hx
        clear hx
        go_wp2_with fail
        refine (KT.out _).mono ?_
        rintro e w4 ⟨rfl, hx⟩
        have bO := (Box.new w3 #[.int .i64 re, .int .i64 im, .int .i64 (n : Int)] 24).ex hx
        replace hE := (hE.alloc _).trans hx
        replace bR := (bR.alloc (.cells #[.int .i64 re, .int .i64 im, .int .i64 (n : Int)] 24)).ex hx
        clear hx
        have cO := bO.cell
        have cR := bR.cell
        have zR := bR.lt
        have fR := bR.frozen
        go_wp2
        clear cO cR zR fR bO
        replace hE := exs3 hE (b := w.heap.size) (Nat.le_refl _) (.int .i64 0) (.int .i64 0) (.int .i64 0)
        replace bR := put3 bR (.int .i64 0) (.int .i64 0) (.int .i64 0)
        generalize ((w4.setCell ⟨w.heap.size, 0, none⟩ (.int .i64 0)).setCell ⟨w.heap.size, 1, none⟩ (.int .i64 0)).setCell ⟨w.heap.size, 2, none⟩ (.int .i64 0) = Y at bR hE ⊢
        have cR := bR.cell
        refine bodyPost_ret (v := .tuple #[.agg #[.int .i64 0, .int .i64 0, .int .i64 0], .bool false]) ?_ rfl ⟨rfl, hE⟩
        simp [results, Tryz.results23, go_sem, cR]
      · have e : ftext (sparse l) = (txt (sparse l), true) := by simp [ftext, hv]
        by_cases ht : txt (sparse l) = l
        · rw [rd_good hv ht]
          rw [e, ht, hsp] at kt
          rw [hsp]
          have KT : Hid (∀ w, Calls Tryz.prog 41 #[.agg #[.int .i64 re, .int .i64 im, .int .i64 (n : Int)]] w fun e w' => e = .returned (.tuple #[.string S, .bool true]) ∧ Ex w w') := by
            have e2 : ∀ w, GotS w (l, true) = fun e w' => e = .returned (.tuple #[.string S, .bool true]) ∧ Ex w w' := fun w => by unfold GotS; rw [HS.out]
            exact Lib.hid fun w => by rw [← e2]; exact kt w
          show Calls _ _ _ w fun e w' => e = .returned (.tuple #[.agg #[.int .i64 re, .int .i64 im, .int .i64 (n : Int)], .bool true]) ∧ Ex w w'
          clear kt e hv hsp hk ht
          go_enter Tryz.func23, Tryz.ntmps23
          go_wp2_with fail
          refine (K1.out _).mono ?_
          rintro e w1 ⟨rfl, hx⟩
          have hE := ((Ex.refl _).alloc _).trans hx
          have bR := (Box.new w #[.int .i64 0, .int .i64 0, .int .i64 0] 24).ex hx
          clear hx
          go_wp2_with fail
          refine (K2.out _).mono ?_
          rintro e w2 ⟨rfl, hx⟩
          replace hE := hE.trans hx
          replace bR := bR.ex hx
          clear hx
          go_wp2_with fail
          refine (K3.out _).mono ?_
          rintro e w3 ⟨rfl, hx⟩
          replace hE := hE.trans hx
          replace bR := bR.ex hx
          clear hx
          go_wp2_with fail
          refine (KT.out _).mono ?_
          rintro e w4 ⟨rfl, hx⟩
          have bO := (Box.new w3 #[.int .i64 re, .int .i64 im, .int .i64 (n : Int)] 24).ex hx
          replace hE := (hE.alloc _).trans hx
          replace bR := (bR.alloc (.cells #[.int .i64 re, .int .i64 im, .int .i64 (n : Int)] 24)).ex hx
          clear hx
          have cO := bO.cell
          have cR := bR.cell
          have zR := bR.lt
          have fR := bR.frozen
          go_wp2
          clear cO cR zR fR bO
          replace hE := exs3 hE (b := w.heap.size) (Nat.le_refl _) (.int .i64 re) (.int .i64 im) (.int .i64 (n : Int))
          replace bR := put3 bR (.int .i64 re) (.int .i64 im) (.int .i64 (n : Int))
          generalize ((w4.setCell ⟨w.heap.size, 0, none⟩ (.int .i64 re)).setCell ⟨w.heap.size, 1, none⟩ (.int .i64 im)).setCell ⟨w.heap.size, 2, none⟩ (.int .i64 (n : Int)) = Y at bR hE ⊢
          have cR := bR.cell
          refine bodyPost_ret (v := .tuple #[.agg #[.int .i64 re, .int .i64 im, .int .i64 (n : Int)], .bool true]) ?_ rfl ⟨rfl, hE⟩
          simp [results, Tryz.results23, go_sem, cR]
        · rw [rd_bad (by rintro ⟨-, h⟩; exact ht h)]
          have hne := Bs_ne ht
          rw [← HS.out] at hne
          rw [e] at kt
          have kt2 : ∀ w, Calls Tryz.prog 41 #[(sparse l).v] w fun e w' => e = .returned (.tuple #[.string (Bs (txt (sparse l))), .bool true]) ∧ Ex w w' := kt
          generalize Bs (txt (sparse l)) = T at kt2 hne
          rw [hsp] at kt2
          have KT : Hid (∀ w, Calls Tryz.prog 41 #[.agg #[.int .i64 re, .int .i64 im, .int .i64 (n : Int)]] w fun e w' => e = .returned (.tuple #[.string T, .bool true]) ∧ Ex w w') := kt2
          show Calls _ _ _ w fun e w' => e = .returned (.tuple #[.agg #[.int .i64 0, .int .i64 0, .int .i64 0], .bool false]) ∧ Ex w w'
          have hne2 := str_ne hne
          clear kt kt2 e hv hsp hk ht
          go_enter Tryz.func23, Tryz.ntmps23
          go_wp2_with fail
          refine (K1.out _).mono ?_
          rintro e w1 ⟨rfl, hx⟩
          have hE := ((Ex.refl _).alloc _).trans hx
          have bR := (Box.new w #[.int .i64 0, .int .i64 0, .int .i64 0] 24).ex hx
          clear hx
          go_wp2_with fail
          refine (K2.out _).mono ?_
          rintro e w2 ⟨rfl, hx⟩
          replace hE := hE.trans hx
          replace bR := bR.ex hx
          clear hx
          go_wp2_with fail
          refine (K3.out _).mono ?_
          rintro e w3 ⟨rfl, hx⟩
          replace hE := hE.trans hx
          replace bR := bR.ex hx
          clear hx
          go_wp2_with fail
          refine (KT.out _).mono ?_
          rintro e w4 ⟨rfl, hx⟩
          have bO := (Box.new w3 #[.int .i64 re, .int .i64 im, .int .i64 (n : Int)] 24).ex hx
          replace hE := (hE.alloc _).trans hx
          replace bR := (bR.alloc (.cells #[.int .i64 re, .int .i64 im, .int .i64 (n : Int)] 24)).ex hx
          clear hx
          have cO := bO.cell
          have cR := bR.cell
          have zR := bR.lt
          have fR := bR.frozen
          go_wp2
          clear cO cR zR fR bO
          replace hE := exs3 hE (b := w.heap.size) (Nat.le_refl _) (.int .i64 0) (.int .i64 0) (.int .i64 0)
          replace bR := put3 bR (.int .i64 0) (.int .i64 0) (.int .i64 0)
          generalize ((w4.setCell ⟨w.heap.size, 0, none⟩ (.int .i64 0)).setCell ⟨w.heap.size, 1, none⟩ (.int .i64 0)).setCell ⟨w.heap.size, 2, none⟩ (.int .i64 0) = Y at bR hE ⊢
          have cR := bR.cell
          refine bodyPost_ret (v := .tuple #[.agg #[.int .i64 0, .int .i64 0, .int .i64 0], .bool false]) ?_ rfl ⟨rfl, hE⟩
          simp [results, Tryz.results23, go_sem, cR]
    · rw [if_neg hk] at hsp
      have hki : ¬ (k : Int) + 1 < (S.size : Int) := by omega
      clear hsz h50
      rcases hv : (sparse l).valid with _ | _
      · rw [rd_bad (by rw [hv]; rintro ⟨h, -⟩; cases h)]
        have e : ftext (sparse l) = ([], false) := by simp [ftext, hv]
        rw [e, hsp] at kt
        have KT : Hid (∀ w, Calls Tryz.prog 41 #[.agg #[.int .i64 re, .int .i64 im, .int .i64 1]] w fun e w' => e = .returned (.tuple #[.string ⟨#[]⟩, .bool false]) ∧ Ex w w') := kt
        show Calls _ _ _ w fun e w' => e = .returned (.tuple #[.agg #[.int .i64 0, .int .i64 0, .int .i64 0], .bool false]) ∧ Ex w w'
        clear kt e hv hsp hk
        go_enter Tryz.func23, Tryz.ntmps23
        go_wp2_with fail
        refine (K1.out _).mono ?_
        rintro e w1 ⟨rfl, hx⟩
        have hE := ((Ex.refl _).alloc _).trans hx
        have bR := (Box.new w #[.int .i64 0, .int .i64 0, .int .i64 0] 24).ex hx
        clear hx
        go_wp2_with fail
        refine (K2.out _).mono ?_
        rintro e w2 ⟨rfl, hx⟩
        replace hE := hE.trans hx
        replace bR := bR.ex hx
        clear hx
        go_wp2_with fail
        refine (KT.out _).mono ?_
        rintro e w4 ⟨rfl, hx⟩
        have bO := (Box.new w2 #[.int .i64 re, .int .i64 im, .int .i64 1] 24).ex hx
        replace hE := (hE.alloc _).trans hx
        replace bR := (bR.alloc (.cells #[.int .i64 re, .int .i64 im, .int .i64 1] 24)).ex hx
        clear hx
        have cO := bO.cell
        have cR := bR.cell
        have zR := bR.lt
        have fR := bR.frozen
        go_wp2
        clear cO cR zR fR bO
        replace hE := exs3 hE (b := w.heap.size) (Nat.le_refl _) (.int .i64 0) (.int .i64 0) (.int .i64 0)
        replace bR := put3 bR (.int .i64 0) (.int .i64 0) (.int .i64 0)
        generalize ((w4.setCell ⟨w.heap.size, 0, none⟩ (.int .i64 0)).setCell ⟨w.heap.size, 1, none⟩ (.int .i64 0)).setCell ⟨w.heap.size, 2, none⟩ (.int .i64 0) = Y at bR hE ⊢
        have cR := bR.cell
        refine bodyPost_ret (v := .tuple #[.agg #[.int .i64 0, .int .i64 0, .int .i64 0], .bool false]) ?_ rfl ⟨rfl, hE⟩
        simp [results, Tryz.results23, go_sem, cR]
      · have e : ftext (sparse l) = (txt (sparse l), true) := by simp [ftext, hv]
        by_cases ht : txt (sparse l) = l
        · rw [rd_good hv ht]
          rw [e, ht, hsp] at kt
          rw [hsp]
          have KT : Hid (∀ w, Calls Tryz.prog 41 #[.agg #[.int .i64 re, .int .i64 im, .int .i64 1]] w fun e w' => e = .returned (.tuple #[.string S, .bool true]) ∧ Ex w w') := by
            have e2 : ∀ w, GotS w (l, true) = fun e w' => e = .returned (.tuple #[.string S, .bool true]) ∧ Ex w w' := fun w => by unfold GotS; rw [HS.out]
            exact Lib.hid fun w => by rw [← e2]; exact kt w
          show Calls _ _ _ w fun e w' => e = .returned (.tuple #[.agg #[.int .i64 re, .int .i64 im, .int .i64 1], .bool true]) ∧ Ex w w'
          clear kt e hv hsp hk ht
          go_enter Tryz.func23, Tryz.ntmps23
          go_wp2_with fail
          refine (K1.out _).mono ?_
          rintro e w1 ⟨rfl, hx⟩
          have hE := ((Ex.refl _).alloc _).trans hx
          have bR := (Box.new w #[.int .i64 0, .int .i64 0, .int .i64 0] 24).ex hx
          clear hx
          go_wp2_with fail
          refine (K2.out _).mono ?_
          rintro e w2 ⟨rfl, hx⟩
          replace hE := hE.trans hx
          replace bR := bR.ex hx
          clear hx
          go_wp2_with fail
          refine (KT.out _).mono ?_
          rintro e w4 ⟨rfl, hx⟩
          have bO := (Box.new w2 #[.int .i64 re, .int .i64 im, .int .i64 1] 24).ex hx
          replace hE := (hE.alloc _).trans hx
          replace bR := (bR.alloc (.cells #[.int .i64 re, .int .i64 im, .int .i64 1] 24)).ex hx
          clear hx
          have cO := bO.cell
          have cR := bR.cell
          have zR := bR.lt
          have fR := bR.frozen
          go_wp2
          clear cO cR zR fR bO
          replace hE := exs3 hE (b := w.heap.size) (Nat.le_refl _) (.int .i64 re) (.int .i64 im) (.int .i64 1)
          replace bR := put3 bR (.int .i64 re) (.int .i64 im) (.int .i64 1)
          generalize ((w4.setCell ⟨w.heap.size, 0, none⟩ (.int .i64 re)).setCell ⟨w.heap.size, 1, none⟩ (.int .i64 im)).setCell ⟨w.heap.size, 2, none⟩ (.int .i64 1) = Y at bR hE ⊢
          have cR := bR.cell
          refine bodyPost_ret (v := .tuple #[.agg #[.int .i64 re, .int .i64 im, .int .i64 1], .bool true]) ?_ rfl ⟨rfl, hE⟩
          simp [results, Tryz.results23, go_sem, cR]
        · rw [rd_bad (by rintro ⟨-, h⟩; exact ht h)]
          have hne := Bs_ne ht
          rw [← HS.out] at hne
          rw [e] at kt
          have kt2 : ∀ w, Calls Tryz.prog 41 #[(sparse l).v] w fun e w' => e = .returned (.tuple #[.string (Bs (txt (sparse l))), .bool true]) ∧ Ex w w' := kt
          generalize Bs (txt (sparse l)) = T at kt2 hne
          rw [hsp] at kt2
          have KT : Hid (∀ w, Calls Tryz.prog 41 #[.agg #[.int .i64 re, .int .i64 im, .int .i64 1]] w fun e w' => e = .returned (.tuple #[.string T, .bool true]) ∧ Ex w w') := kt2
          show Calls _ _ _ w fun e w' => e = .returned (.tuple #[.agg #[.int .i64 0, .int .i64 0, .int .i64 0], .bool false]) ∧ Ex w w'
          have hne2 := str_ne hne
          clear kt kt2 e hv hsp hk ht
          go_enter Tryz.func23, Tryz.ntmps23
          go_wp2_with fail
          refine (K1.out _).mono ?_
          rintro e w1 ⟨rfl, hx⟩
          have hE := ((Ex.refl _).alloc _).trans hx
          have bR := (Box.new w #[.int .i64 0, .int .i64 0, .int .i64 0] 24).ex hx
          clear hx
          go_wp2_with fail
          refine (K2.out _).mono ?_
          rintro e w2 ⟨rfl, hx⟩
          replace hE := hE.trans hx
          replace bR := bR.ex hx
          clear hx
          go_wp2_with fail
          refine (KT.out _).mono ?_
          rintro e w4 ⟨rfl, hx⟩
          have bO := (Box.new w2 #[.int .i64 re, .int .i64 im, .int .i64 1] 24).ex hx
          replace hE := (hE.alloc _).trans hx
          replace bR := (bR.alloc (.cells #[.int .i64 re, .int .i64 im, .int .i64 1] 24)).ex hx
          clear hx
          have cO := bO.cell
          have cR := bR.cell
          have zR := bR.lt
          have fR := bR.frozen
          go_wp2
          clear cO cR zR fR bO
          replace hE := exs3 hE (b := w.heap.size) (Nat.le_refl _) (.int .i64 0) (.int .i64 0) (.int .i64 0)
          replace bR := put3 bR (.int .i64 0) (.int .i64 0) (.int .i64 0)
          generalize ((w4.setCell ⟨w.heap.size, 0, none⟩ (.int .i64 0)).setCell ⟨w.heap.size, 1, none⟩ (.int .i64 0)).setCell ⟨w.heap.size, 2, none⟩ (.int .i64 0) = Y at bR hE ⊢
          have cR := bR.cell
          refine bodyPost_ret (v := .tuple #[.agg #[.int .i64 0, .int .i64 0, .int .i64 0], .bool false]) ?_ rfl ⟨rfl, hE⟩
          simp [results, Tryz.results23, go_sem, cR]
end Go.Proofs.YtklkfkgpjjpaiaaGreatDoor
