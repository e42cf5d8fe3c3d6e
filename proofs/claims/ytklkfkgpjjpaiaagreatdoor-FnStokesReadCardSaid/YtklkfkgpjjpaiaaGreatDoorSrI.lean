/-
  Walks: the reading of four numbers, the program's.
-/
import Derived.Test.YtklkfkgpjjpaiaaGreatDoorSrP
set_option linter.unusedSimpArgs false
set_option linter.unusedVariables false
namespace Go.Proofs.YtklkfkgpjjpaiaaGreatDoor
open Go.RowKit

set_option maxRecDepth 10000 in
set_option maxHeartbeats 4000000 in
theorem iStokesRead (l : List UInt8) (hl : l.length ≤ 1048576) (w : World) (hm : Mem w) : Calls Tryz.prog 8 #[.string (Bs l)] w (GotK w (skr l)) := by
  show Calls _ _ _ w fun e w' => e = .returned (.tuple #[Sv (skr l).1.1 (skr l).1.2.1 (skr l).1.2.2.1 (skr l).1.2.2.2, .bool (skr l).2]) ∧ Ex w w'
  obtain ⟨S, HS⟩ : ∃ S, Hid (S = Bs l) := ⟨_, Lib.hid rfl⟩
  have hw := wds_bytes l
  have ks := fun w hm => split_any l hl w hm
  have HM := Lib.hid hm
  clear hm
  rw [← HS.out] at ks ⊢
  have KS := Lib.hid ks
  clear ks
  by_cases h4 : (wds l).length = 4
  · obtain ⟨wa, wb, wc, wd, hwd⟩ := list4 h4
    clear h4
    rw [hwd] at KS hw
    have ka := fun w hm => iFracRead wa (Nat.le_trans (hw wa (by simp)) hl) w hm
    have kb := fun w hm => iFracRead wb (Nat.le_trans (hw wb (by simp)) hl) w hm
    have kc := fun w hm => iFracRead wc (Nat.le_trans (hw wc (by simp)) hl) w hm
    have kd := fun w hm => iFracRead wd (Nat.le_trans (hw wd (by simp)) hl) w hm
    have va := rd_valid wa
    have vb := rd_valid wb
    have vc := rd_valid wc
    have vd := rd_valid wd
    have hsk : skr l = fin4 (rd wa) (rd wb) (rd wc) (rd wd) := by unfold skr; rw [hwd]
    generalize rd wa = ra at ka va hsk
    generalize rd wb = rb at kb vb hsk
    generalize rd wc = rc at kc vc hsk
    generalize rd wd = rd at kd vd hsk
    obtain ⟨⟨a1, a2, a3⟩, oka⟩ := ra
    obtain ⟨⟨b1, b2, b3⟩, okb⟩ := rb
    obtain ⟨⟨c1, c2, c3⟩, okc⟩ := rc
    obtain ⟨⟨d1, d2, d3⟩, okd⟩ := rd
    obtain ⟨Sa, HSa⟩ : ∃ S, Hid (S = Bs wa) := ⟨_, Lib.hid rfl⟩
    obtain ⟨Sb, HSb⟩ : ∃ S, Hid (S = Bs wb) := ⟨_, Lib.hid rfl⟩
    obtain ⟨Sc, HSc⟩ : ∃ S, Hid (S = Bs wc) := ⟨_, Lib.hid rfl⟩
    obtain ⟨Sd, HSd⟩ : ∃ S, Hid (S = Bs wd) := ⟨_, Lib.hid rfl⟩
    rw [← HSa.out] at ka
    rw [← HSb.out] at kb
    rw [← HSc.out] at kc
    rw [← HSd.out] at kd
    have Ka : Hid (∀ w, Mem w → Calls Tryz.prog 18 #[.string Sa] w fun e w' => e = .returned (.tuple #[.agg #[.int .i64 a1, .int .i64 a2, .int .i64 a3], .bool oka]) ∧ Ex w w') := ka
    have Kb : Hid (∀ w, Mem w → Calls Tryz.prog 18 #[.string Sb] w fun e w' => e = .returned (.tuple #[.agg #[.int .i64 b1, .int .i64 b2, .int .i64 b3], .bool okb]) ∧ Ex w w') := kb
    have Kc : Hid (∀ w, Mem w → Calls Tryz.prog 18 #[.string Sc] w fun e w' => e = .returned (.tuple #[.agg #[.int .i64 c1, .int .i64 c2, .int .i64 c3], .bool okc]) ∧ Ex w w') := kc
    have Kd : Hid (∀ w, Mem w → Calls Tryz.prog 18 #[.string Sd] w fun e w' => e = .returned (.tuple #[.agg #[.int .i64 d1, .int .i64 d2, .int .i64 d3], .bool okd]) ∧ Ex w w') := kd
    have Va := Lib.hid va
    have Vb := Lib.hid vb
    have Vc := Lib.hid vc
    have Vd := Lib.hid vd
    have HSK := Lib.hid hsk
    clear hw hwd hsk ka va kb vb kc vc kd vd
    go_enter Tryz.func8, Tryz.ntmps8
    go_wp2_with fail
    refine (KS.out _ (HM.out.alloc _)).mono ?_
    rintro e wS ⟨A, cap, rfl, hA, hx⟩
    have hES : Ex w wS := ((Ex.refl _).alloc _).trans hx
    have bRs := (Box.new w #[.int .i64 0, .int .i64 0, .int .i64 0, .int .i64 0, .int .i64 0, .int .i64 0, .int .i64 0, .int .i64 0, .int .i64 0, .int .i64 0, .int .i64 0, .int .i64 0] 27).ex hx
    have hRS := bRs.lt
    clear hx
    obtain ⟨b, off, hAe, hc⟩ := hA (by simp [stCells])
    subst hAe
    have da0 : wS.cell? ⟨b, off, none⟩ = some (.string Sa) := by rw [← Nat.add_zero off]; rw [hc 0 (by simp [stCells]), HSa.out]; rfl
    have db0 : wS.cell? ⟨b, off + 1, none⟩ = some (.string Sb) := by rw [hc 1 (by simp [stCells]), HSb.out]; rfl
    have dc0 : wS.cell? ⟨b, off + 2, none⟩ = some (.string Sc) := by rw [hc 2 (by simp [stCells]), HSc.out]; rfl
    have dd0 : wS.cell? ⟨b, off + 3, none⟩ = some (.string Sd) := by rw [hc 3 (by simp [stCells]), HSd.out]; rfl
    clear hc
    have hV := Ex.refl wS
    have hO0 : Ex wS (wS.alloc (.cells #[.int .i64 0, .int .i64 0, .int .i64 0, .int .i64 0, .int .i64 0, .int .i64 0, .int .i64 0, .int .i64 0, .int .i64 0, .int .i64 0, .int .i64 0, .int .i64 0] 27)) := hV.alloc _
    go_upto_region 5 with fail
    have bO := Box.new wS #[.int .i64 0, .int .i64 0, .int .i64 0, .int .i64 0, .int .i64 0, .int .i64 0, .int .i64 0, .int .i64 0, .int .i64 0, .int .i64 0, .int .i64 0, .int .i64 0] 27
    replace hV := hO0
    clear hO0
    generalize wS.alloc (.cells #[.int .i64 0, .int .i64 0, .int .i64 0, .int .i64 0, .int .i64 0, .int .i64 0, .int .i64 0, .int .i64 0, .int .i64 0, .int .i64 0, .int .i64 0, .int .i64 0] 27) = w0 at hV bO ⊢
    go_wp2_with fail
    refine wp_loop_rounds 5 ?_
    have da := hV.get da0
    have cO := bO.cell
    have zO := bO.lt
    have fO := bO.frozen
    rw [rounds_succ]
    go_wp2_with fail
    refine (Ka.out _ (HM.out.ex (hES.trans hV))).mono ?_
    rintro e v0 ⟨rfl, hx⟩
    replace hV := hV.trans hx
    replace bO := bO.ex hx
    clear hx cO zO fO da Ka
    rcases oka with _ | _
    · have HR : Hid (skr l = (((⟨0, 0, 0⟩ : Fr), (⟨0, 0, 0⟩ : Fr), (⟨0, 0, 0⟩ : Fr), (⟨0, 0, 0⟩ : Fr)), false)) := Lib.hid (by rw [HSK.out]; simp [fin4, okR])
      clear bO HSK
      replace hV := hV.alloc (.cells #[.int .i64 a1, .int .i64 a2, .int .i64 a3] 24)
      have bR := bRs.ex hV
      have cR := bR.cell
      have zR := bR.lt
      have fR := bR.frozen
      have hE := hES.trans hV
      go_wp2
      clear cR zR fR
      replace hE := ex3 (ex3 (ex3 (ex3 (hE) (b := w.heap.size) (by omega) 0 1 2 (.int .i64 0) (.int .i64 0) (.int .i64 0)) (b := w.heap.size) (by omega) 3 4 5 (.int .i64 0) (.int .i64 0) (.int .i64 0)) (b := w.heap.size) (by omega) 6 7 8 (.int .i64 0) (.int .i64 0) (.int .i64 0)) (b := w.heap.size) (by omega) 9 10 11 (.int .i64 0) (.int .i64 0) (.int .i64 0)
      replace bR := put4_3 0 0 0 0 0 0 0 0 0 0 0 0 (put4_2 0 0 0 0 0 0 0 0 0 0 0 0 (put4_1 0 0 0 0 0 0 0 0 0 0 0 0 (put4_0 0 0 0 0 0 0 0 0 0 0 0 0 (bR))))
      generalize (((((((((((((v0.alloc (.cells #[.int .i64 a1, .int .i64 a2, .int .i64 a3] 24)).setCell ⟨w.heap.size, 0, none⟩ (.int .i64 0)).setCell ⟨w.heap.size, 1, none⟩ (.int .i64 0)).setCell ⟨w.heap.size, 2, none⟩ (.int .i64 0)).setCell ⟨w.heap.size, 3, none⟩ (.int .i64 0)).setCell ⟨w.heap.size, 4, none⟩ (.int .i64 0)).setCell ⟨w.heap.size, 5, none⟩ (.int .i64 0)).setCell ⟨w.heap.size, 6, none⟩ (.int .i64 0)).setCell ⟨w.heap.size, 7, none⟩ (.int .i64 0)).setCell ⟨w.heap.size, 8, none⟩ (.int .i64 0)).setCell ⟨w.heap.size, 9, none⟩ (.int .i64 0)).setCell ⟨w.heap.size, 10, none⟩ (.int .i64 0)).setCell ⟨w.heap.size, 11, none⟩ (.int .i64 0)) = Y at bR hE ⊢
      have cR := bR.cell
      refine bodyPost_ret (v := .tuple #[.agg #[.int .i64 0, .int .i64 0, .int .i64 0, .int .i64 0, .int .i64 0, .int .i64 0, .int .i64 0, .int .i64 0, .int .i64 0, .int .i64 0, .int .i64 0, .int .i64 0], .bool false]) ?_ rfl ⟨by rw [HR.out]; rfl, hE⟩
      simp [results, Tryz.results8, go_sem, cR]
    have hsz0 := hV.size
    by_cases ha : a2 = 0
    rotate_left
    · have HR : Hid (skr l = (((⟨0, 0, 0⟩ : Fr), (⟨0, 0, 0⟩ : Fr), (⟨0, 0, 0⟩ : Fr), (⟨0, 0, 0⟩ : Fr)), false)) := Lib.hid (by rw [HSK.out]; simp [fin4, okR, ha])
      have ko : ∀ w, Calls Tryz.prog 19 #[.agg #[.int .i64 a1, .int .i64 a2, .int .i64 a3]] w fun e w' => e = .returned (.bool false) ∧ Ex w w' := fun w => by have := realOk_any ⟨a1, a2, a3⟩ w; rw [rok_not (x := ⟨_, _, _⟩) ha] at this; exact this
      have KO := Lib.hid ko
      clear ko bO HSK
      have bF := Box.new v0 #[.int .i64 a1, .int .i64 a2, .int .i64 a3] 24
      have cF := bF.cell
      replace hV := hV.alloc (.cells #[.int .i64 a1, .int .i64 a2, .int .i64 a3] 24)
      go_wp2_with fail
      refine (KO.out _).mono ?_
      rintro e u ⟨rfl, hx⟩
      replace hV := hV.trans hx
      clear hx bF cF
      have bR := bRs.ex hV
      have cR := bR.cell
      have zR := bR.lt
      have fR := bR.frozen
      have hE := hES.trans hV
      go_wp2
      clear cR zR fR
      replace hE := ex3 (ex3 (ex3 (ex3 (hE) (b := w.heap.size) (by omega) 0 1 2 (.int .i64 0) (.int .i64 0) (.int .i64 0)) (b := w.heap.size) (by omega) 3 4 5 (.int .i64 0) (.int .i64 0) (.int .i64 0)) (b := w.heap.size) (by omega) 6 7 8 (.int .i64 0) (.int .i64 0) (.int .i64 0)) (b := w.heap.size) (by omega) 9 10 11 (.int .i64 0) (.int .i64 0) (.int .i64 0)
      replace bR := put4_3 0 0 0 0 0 0 0 0 0 0 0 0 (put4_2 0 0 0 0 0 0 0 0 0 0 0 0 (put4_1 0 0 0 0 0 0 0 0 0 0 0 0 (put4_0 0 0 0 0 0 0 0 0 0 0 0 0 (bR))))
      generalize ((((((((((((u.setCell ⟨w.heap.size, 0, none⟩ (.int .i64 0)).setCell ⟨w.heap.size, 1, none⟩ (.int .i64 0)).setCell ⟨w.heap.size, 2, none⟩ (.int .i64 0)).setCell ⟨w.heap.size, 3, none⟩ (.int .i64 0)).setCell ⟨w.heap.size, 4, none⟩ (.int .i64 0)).setCell ⟨w.heap.size, 5, none⟩ (.int .i64 0)).setCell ⟨w.heap.size, 6, none⟩ (.int .i64 0)).setCell ⟨w.heap.size, 7, none⟩ (.int .i64 0)).setCell ⟨w.heap.size, 8, none⟩ (.int .i64 0)).setCell ⟨w.heap.size, 9, none⟩ (.int .i64 0)).setCell ⟨w.heap.size, 10, none⟩ (.int .i64 0)).setCell ⟨w.heap.size, 11, none⟩ (.int .i64 0)) = Y at bR hE ⊢
      have cR := bR.cell
      refine bodyPost_ret (v := .tuple #[.agg #[.int .i64 0, .int .i64 0, .int .i64 0, .int .i64 0, .int .i64 0, .int .i64 0, .int .i64 0, .int .i64 0, .int .i64 0, .int .i64 0, .int .i64 0, .int .i64 0], .bool false]) ?_ rfl ⟨by rw [HR.out]; rfl, hE⟩
      simp [results, Tryz.results8, go_sem, cR]
    have ko : ∀ w, Calls Tryz.prog 19 #[.agg #[.int .i64 a1, .int .i64 a2, .int .i64 a3]] w fun e w' => e = .returned (.bool true) ∧ Ex w w' := fun w => by have := realOk_any ⟨a1, a2, a3⟩ w; rw [rok_yes (Va.out rfl) ha] at this; exact this
    have KOa := Lib.hid ko
    clear ko
    have Ha0 := Lib.hid ha
    clear ha
    have bF := Box.new v0 #[.int .i64 a1, .int .i64 a2, .int .i64 a3] 24
    replace bO := bO.alloc (.cells #[.int .i64 a1, .int .i64 a2, .int .i64 a3] 24)
    replace hV := hV.alloc (.cells #[.int .i64 a1, .int .i64 a2, .int .i64 a3] 24)
    have cF := bF.cell
    have cO := bO.cell
    have zO := bO.lt
    have fO := bO.frozen
    go_wp2_with fail
    refine (KOa.out _).mono ?_
    rintro e u0 ⟨rfl, hx⟩
    replace hV := hV.trans hx
    replace bO := bO.ex hx
    replace bF := bF.ex hx
    replace cF := bF.cell
    replace cO := bO.cell
    replace zO := bO.lt
    replace fO := bO.frozen
    clear hx KOa
    go_wp2_with fail
    clear bF cF
    replace hV := ex3 hV (b := wS.heap.size) (by omega) 0 1 2 (.int .i64 a1) (.int .i64 a2) (.int .i64 a3)
    replace bO := put4_0 a1 a2 a3 b1 b2 b3 c1 c2 c3 d1 d2 d3 bO
    generalize ((u0.setCell ⟨wS.heap.size, 0, none⟩ (.int .i64 a1)).setCell ⟨wS.heap.size, 1, none⟩ (.int .i64 a2)).setCell ⟨wS.heap.size, 2, none⟩ (.int .i64 a3) = w1 at hV bO ⊢
    clear cO zO fO
    have ha := Ha0.out
    have db := hV.get db0
    have cO := bO.cell
    have zO := bO.lt
    have fO := bO.frozen
    rw [rounds_succ]
    go_wp2_with fail
    refine (Kb.out _ (HM.out.ex (hES.trans hV))).mono ?_
    rintro e v1 ⟨rfl, hx⟩
    replace hV := hV.trans hx
    replace bO := bO.ex hx
    clear hx cO zO fO db Kb
    rcases okb with _ | _
    · have HR : Hid (skr l = (((⟨0, 0, 0⟩ : Fr), (⟨0, 0, 0⟩ : Fr), (⟨0, 0, 0⟩ : Fr), (⟨0, 0, 0⟩ : Fr)), false)) := Lib.hid (by rw [HSK.out]; simp [fin4, okR, ha])
      clear bO HSK
      replace hV := hV.alloc (.cells #[.int .i64 b1, .int .i64 b2, .int .i64 b3] 24)
      have bR := bRs.ex hV
      have cR := bR.cell
      have zR := bR.lt
      have fR := bR.frozen
      have hE := hES.trans hV
      go_wp2
      clear cR zR fR
      replace hE := ex3 (ex3 (ex3 (ex3 (hE) (b := w.heap.size) (by omega) 0 1 2 (.int .i64 0) (.int .i64 0) (.int .i64 0)) (b := w.heap.size) (by omega) 3 4 5 (.int .i64 0) (.int .i64 0) (.int .i64 0)) (b := w.heap.size) (by omega) 6 7 8 (.int .i64 0) (.int .i64 0) (.int .i64 0)) (b := w.heap.size) (by omega) 9 10 11 (.int .i64 0) (.int .i64 0) (.int .i64 0)
      replace bR := put4_3 0 0 0 0 0 0 0 0 0 0 0 0 (put4_2 0 0 0 0 0 0 0 0 0 0 0 0 (put4_1 0 0 0 0 0 0 0 0 0 0 0 0 (put4_0 0 0 0 0 0 0 0 0 0 0 0 0 (bR))))
      generalize (((((((((((((v1.alloc (.cells #[.int .i64 b1, .int .i64 b2, .int .i64 b3] 24)).setCell ⟨w.heap.size, 0, none⟩ (.int .i64 0)).setCell ⟨w.heap.size, 1, none⟩ (.int .i64 0)).setCell ⟨w.heap.size, 2, none⟩ (.int .i64 0)).setCell ⟨w.heap.size, 3, none⟩ (.int .i64 0)).setCell ⟨w.heap.size, 4, none⟩ (.int .i64 0)).setCell ⟨w.heap.size, 5, none⟩ (.int .i64 0)).setCell ⟨w.heap.size, 6, none⟩ (.int .i64 0)).setCell ⟨w.heap.size, 7, none⟩ (.int .i64 0)).setCell ⟨w.heap.size, 8, none⟩ (.int .i64 0)).setCell ⟨w.heap.size, 9, none⟩ (.int .i64 0)).setCell ⟨w.heap.size, 10, none⟩ (.int .i64 0)).setCell ⟨w.heap.size, 11, none⟩ (.int .i64 0)) = Y at bR hE ⊢
      have cR := bR.cell
      refine bodyPost_ret (v := .tuple #[.agg #[.int .i64 0, .int .i64 0, .int .i64 0, .int .i64 0, .int .i64 0, .int .i64 0, .int .i64 0, .int .i64 0, .int .i64 0, .int .i64 0, .int .i64 0, .int .i64 0], .bool false]) ?_ rfl ⟨by rw [HR.out]; rfl, hE⟩
      simp [results, Tryz.results8, go_sem, cR]
    have hsz1 := hV.size
    by_cases hb : b2 = 0
    rotate_left
    · have HR : Hid (skr l = (((⟨0, 0, 0⟩ : Fr), (⟨0, 0, 0⟩ : Fr), (⟨0, 0, 0⟩ : Fr), (⟨0, 0, 0⟩ : Fr)), false)) := Lib.hid (by rw [HSK.out]; simp [fin4, okR, hb, ha])
      have ko : ∀ w, Calls Tryz.prog 19 #[.agg #[.int .i64 b1, .int .i64 b2, .int .i64 b3]] w fun e w' => e = .returned (.bool false) ∧ Ex w w' := fun w => by have := realOk_any ⟨b1, b2, b3⟩ w; rw [rok_not (x := ⟨_, _, _⟩) hb] at this; exact this
      have KO := Lib.hid ko
      clear ko bO HSK
      have bF := Box.new v1 #[.int .i64 b1, .int .i64 b2, .int .i64 b3] 24
      have cF := bF.cell
      replace hV := hV.alloc (.cells #[.int .i64 b1, .int .i64 b2, .int .i64 b3] 24)
      go_wp2_with fail
      refine (KO.out _).mono ?_
      rintro e u ⟨rfl, hx⟩
      replace hV := hV.trans hx
      clear hx bF cF
      have bR := bRs.ex hV
      have cR := bR.cell
      have zR := bR.lt
      have fR := bR.frozen
      have hE := hES.trans hV
      go_wp2
      clear cR zR fR
      replace hE := ex3 (ex3 (ex3 (ex3 (hE) (b := w.heap.size) (by omega) 0 1 2 (.int .i64 0) (.int .i64 0) (.int .i64 0)) (b := w.heap.size) (by omega) 3 4 5 (.int .i64 0) (.int .i64 0) (.int .i64 0)) (b := w.heap.size) (by omega) 6 7 8 (.int .i64 0) (.int .i64 0) (.int .i64 0)) (b := w.heap.size) (by omega) 9 10 11 (.int .i64 0) (.int .i64 0) (.int .i64 0)
      replace bR := put4_3 0 0 0 0 0 0 0 0 0 0 0 0 (put4_2 0 0 0 0 0 0 0 0 0 0 0 0 (put4_1 0 0 0 0 0 0 0 0 0 0 0 0 (put4_0 0 0 0 0 0 0 0 0 0 0 0 0 (bR))))
      generalize ((((((((((((u.setCell ⟨w.heap.size, 0, none⟩ (.int .i64 0)).setCell ⟨w.heap.size, 1, none⟩ (.int .i64 0)).setCell ⟨w.heap.size, 2, none⟩ (.int .i64 0)).setCell ⟨w.heap.size, 3, none⟩ (.int .i64 0)).setCell ⟨w.heap.size, 4, none⟩ (.int .i64 0)).setCell ⟨w.heap.size, 5, none⟩ (.int .i64 0)).setCell ⟨w.heap.size, 6, none⟩ (.int .i64 0)).setCell ⟨w.heap.size, 7, none⟩ (.int .i64 0)).setCell ⟨w.heap.size, 8, none⟩ (.int .i64 0)).setCell ⟨w.heap.size, 9, none⟩ (.int .i64 0)).setCell ⟨w.heap.size, 10, none⟩ (.int .i64 0)).setCell ⟨w.heap.size, 11, none⟩ (.int .i64 0)) = Y at bR hE ⊢
      have cR := bR.cell
      refine bodyPost_ret (v := .tuple #[.agg #[.int .i64 0, .int .i64 0, .int .i64 0, .int .i64 0, .int .i64 0, .int .i64 0, .int .i64 0, .int .i64 0, .int .i64 0, .int .i64 0, .int .i64 0, .int .i64 0], .bool false]) ?_ rfl ⟨by rw [HR.out]; rfl, hE⟩
      simp [results, Tryz.results8, go_sem, cR]
    have ko : ∀ w, Calls Tryz.prog 19 #[.agg #[.int .i64 b1, .int .i64 b2, .int .i64 b3]] w fun e w' => e = .returned (.bool true) ∧ Ex w w' := fun w => by have := realOk_any ⟨b1, b2, b3⟩ w; rw [rok_yes (Vb.out rfl) hb] at this; exact this
    have KOb := Lib.hid ko
    clear ko
    have Hb0 := Lib.hid hb
    clear hb
    have bF := Box.new v1 #[.int .i64 b1, .int .i64 b2, .int .i64 b3] 24
    replace bO := bO.alloc (.cells #[.int .i64 b1, .int .i64 b2, .int .i64 b3] 24)
    replace hV := hV.alloc (.cells #[.int .i64 b1, .int .i64 b2, .int .i64 b3] 24)
    have cF := bF.cell
    have cO := bO.cell
    have zO := bO.lt
    have fO := bO.frozen
    go_wp2_with fail
    refine (KOb.out _).mono ?_
    rintro e u1 ⟨rfl, hx⟩
    replace hV := hV.trans hx
    replace bO := bO.ex hx
    replace bF := bF.ex hx
    replace cF := bF.cell
    replace cO := bO.cell
    replace zO := bO.lt
    replace fO := bO.frozen
    clear hx KOb
    go_wp2_with fail
    clear bF cF
    replace hV := ex3 hV (b := wS.heap.size) (by omega) 3 4 5 (.int .i64 b1) (.int .i64 b2) (.int .i64 b3)
    replace bO := put4_1 a1 a2 a3 b1 b2 b3 c1 c2 c3 d1 d2 d3 bO
    generalize ((u1.setCell ⟨wS.heap.size, 3, none⟩ (.int .i64 b1)).setCell ⟨wS.heap.size, 4, none⟩ (.int .i64 b2)).setCell ⟨wS.heap.size, 5, none⟩ (.int .i64 b3) = w2 at hV bO ⊢
    clear cO zO fO
    have hb := Hb0.out
    have dc := hV.get dc0
    have cO := bO.cell
    have zO := bO.lt
    have fO := bO.frozen
    rw [rounds_succ]
    go_wp2_with fail
    refine (Kc.out _ (HM.out.ex (hES.trans hV))).mono ?_
    rintro e v2 ⟨rfl, hx⟩
    replace hV := hV.trans hx
    replace bO := bO.ex hx
    clear hx cO zO fO dc Kc
    rcases okc with _ | _
    · have HR : Hid (skr l = (((⟨0, 0, 0⟩ : Fr), (⟨0, 0, 0⟩ : Fr), (⟨0, 0, 0⟩ : Fr), (⟨0, 0, 0⟩ : Fr)), false)) := Lib.hid (by rw [HSK.out]; simp [fin4, okR, ha, hb])
      clear bO HSK
      replace hV := hV.alloc (.cells #[.int .i64 c1, .int .i64 c2, .int .i64 c3] 24)
      have bR := bRs.ex hV
      have cR := bR.cell
      have zR := bR.lt
      have fR := bR.frozen
      have hE := hES.trans hV
      go_wp2
      clear cR zR fR
      replace hE := ex3 (ex3 (ex3 (ex3 (hE) (b := w.heap.size) (by omega) 0 1 2 (.int .i64 0) (.int .i64 0) (.int .i64 0)) (b := w.heap.size) (by omega) 3 4 5 (.int .i64 0) (.int .i64 0) (.int .i64 0)) (b := w.heap.size) (by omega) 6 7 8 (.int .i64 0) (.int .i64 0) (.int .i64 0)) (b := w.heap.size) (by omega) 9 10 11 (.int .i64 0) (.int .i64 0) (.int .i64 0)
      replace bR := put4_3 0 0 0 0 0 0 0 0 0 0 0 0 (put4_2 0 0 0 0 0 0 0 0 0 0 0 0 (put4_1 0 0 0 0 0 0 0 0 0 0 0 0 (put4_0 0 0 0 0 0 0 0 0 0 0 0 0 (bR))))
      generalize (((((((((((((v2.alloc (.cells #[.int .i64 c1, .int .i64 c2, .int .i64 c3] 24)).setCell ⟨w.heap.size, 0, none⟩ (.int .i64 0)).setCell ⟨w.heap.size, 1, none⟩ (.int .i64 0)).setCell ⟨w.heap.size, 2, none⟩ (.int .i64 0)).setCell ⟨w.heap.size, 3, none⟩ (.int .i64 0)).setCell ⟨w.heap.size, 4, none⟩ (.int .i64 0)).setCell ⟨w.heap.size, 5, none⟩ (.int .i64 0)).setCell ⟨w.heap.size, 6, none⟩ (.int .i64 0)).setCell ⟨w.heap.size, 7, none⟩ (.int .i64 0)).setCell ⟨w.heap.size, 8, none⟩ (.int .i64 0)).setCell ⟨w.heap.size, 9, none⟩ (.int .i64 0)).setCell ⟨w.heap.size, 10, none⟩ (.int .i64 0)).setCell ⟨w.heap.size, 11, none⟩ (.int .i64 0)) = Y at bR hE ⊢
      have cR := bR.cell
      refine bodyPost_ret (v := .tuple #[.agg #[.int .i64 0, .int .i64 0, .int .i64 0, .int .i64 0, .int .i64 0, .int .i64 0, .int .i64 0, .int .i64 0, .int .i64 0, .int .i64 0, .int .i64 0, .int .i64 0], .bool false]) ?_ rfl ⟨by rw [HR.out]; rfl, hE⟩
      simp [results, Tryz.results8, go_sem, cR]
    have hsz2 := hV.size
    by_cases hc : c2 = 0
    rotate_left
    · have HR : Hid (skr l = (((⟨0, 0, 0⟩ : Fr), (⟨0, 0, 0⟩ : Fr), (⟨0, 0, 0⟩ : Fr), (⟨0, 0, 0⟩ : Fr)), false)) := Lib.hid (by rw [HSK.out]; simp [fin4, okR, hc, ha, hb])
      have ko : ∀ w, Calls Tryz.prog 19 #[.agg #[.int .i64 c1, .int .i64 c2, .int .i64 c3]] w fun e w' => e = .returned (.bool false) ∧ Ex w w' := fun w => by have := realOk_any ⟨c1, c2, c3⟩ w; rw [rok_not (x := ⟨_, _, _⟩) hc] at this; exact this
      have KO := Lib.hid ko
      clear ko bO HSK
      have bF := Box.new v2 #[.int .i64 c1, .int .i64 c2, .int .i64 c3] 24
      have cF := bF.cell
      replace hV := hV.alloc (.cells #[.int .i64 c1, .int .i64 c2, .int .i64 c3] 24)
      go_wp2_with fail
      refine (KO.out _).mono ?_
      rintro e u ⟨rfl, hx⟩
      replace hV := hV.trans hx
      clear hx bF cF
      have bR := bRs.ex hV
      have cR := bR.cell
      have zR := bR.lt
      have fR := bR.frozen
      have hE := hES.trans hV
      go_wp2
      clear cR zR fR
      replace hE := ex3 (ex3 (ex3 (ex3 (hE) (b := w.heap.size) (by omega) 0 1 2 (.int .i64 0) (.int .i64 0) (.int .i64 0)) (b := w.heap.size) (by omega) 3 4 5 (.int .i64 0) (.int .i64 0) (.int .i64 0)) (b := w.heap.size) (by omega) 6 7 8 (.int .i64 0) (.int .i64 0) (.int .i64 0)) (b := w.heap.size) (by omega) 9 10 11 (.int .i64 0) (.int .i64 0) (.int .i64 0)
      replace bR := put4_3 0 0 0 0 0 0 0 0 0 0 0 0 (put4_2 0 0 0 0 0 0 0 0 0 0 0 0 (put4_1 0 0 0 0 0 0 0 0 0 0 0 0 (put4_0 0 0 0 0 0 0 0 0 0 0 0 0 (bR))))
      generalize ((((((((((((u.setCell ⟨w.heap.size, 0, none⟩ (.int .i64 0)).setCell ⟨w.heap.size, 1, none⟩ (.int .i64 0)).setCell ⟨w.heap.size, 2, none⟩ (.int .i64 0)).setCell ⟨w.heap.size, 3, none⟩ (.int .i64 0)).setCell ⟨w.heap.size, 4, none⟩ (.int .i64 0)).setCell ⟨w.heap.size, 5, none⟩ (.int .i64 0)).setCell ⟨w.heap.size, 6, none⟩ (.int .i64 0)).setCell ⟨w.heap.size, 7, none⟩ (.int .i64 0)).setCell ⟨w.heap.size, 8, none⟩ (.int .i64 0)).setCell ⟨w.heap.size, 9, none⟩ (.int .i64 0)).setCell ⟨w.heap.size, 10, none⟩ (.int .i64 0)).setCell ⟨w.heap.size, 11, none⟩ (.int .i64 0)) = Y at bR hE ⊢
      have cR := bR.cell
      refine bodyPost_ret (v := .tuple #[.agg #[.int .i64 0, .int .i64 0, .int .i64 0, .int .i64 0, .int .i64 0, .int .i64 0, .int .i64 0, .int .i64 0, .int .i64 0, .int .i64 0, .int .i64 0, .int .i64 0], .bool false]) ?_ rfl ⟨by rw [HR.out]; rfl, hE⟩
      simp [results, Tryz.results8, go_sem, cR]
    have ko : ∀ w, Calls Tryz.prog 19 #[.agg #[.int .i64 c1, .int .i64 c2, .int .i64 c3]] w fun e w' => e = .returned (.bool true) ∧ Ex w w' := fun w => by have := realOk_any ⟨c1, c2, c3⟩ w; rw [rok_yes (Vc.out rfl) hc] at this; exact this
    have KOc := Lib.hid ko
    clear ko
    have Hc0 := Lib.hid hc
    clear hc
    have bF := Box.new v2 #[.int .i64 c1, .int .i64 c2, .int .i64 c3] 24
    replace bO := bO.alloc (.cells #[.int .i64 c1, .int .i64 c2, .int .i64 c3] 24)
    replace hV := hV.alloc (.cells #[.int .i64 c1, .int .i64 c2, .int .i64 c3] 24)
    have cF := bF.cell
    have cO := bO.cell
    have zO := bO.lt
    have fO := bO.frozen
    go_wp2_with fail
    refine (KOc.out _).mono ?_
    rintro e u2 ⟨rfl, hx⟩
    replace hV := hV.trans hx
    replace bO := bO.ex hx
    replace bF := bF.ex hx
    replace cF := bF.cell
    replace cO := bO.cell
    replace zO := bO.lt
    replace fO := bO.frozen
    clear hx KOc
    go_wp2_with fail
    clear bF cF
    replace hV := ex3 hV (b := wS.heap.size) (by omega) 6 7 8 (.int .i64 c1) (.int .i64 c2) (.int .i64 c3)
    replace bO := put4_2 a1 a2 a3 b1 b2 b3 c1 c2 c3 d1 d2 d3 bO
    generalize ((u2.setCell ⟨wS.heap.size, 6, none⟩ (.int .i64 c1)).setCell ⟨wS.heap.size, 7, none⟩ (.int .i64 c2)).setCell ⟨wS.heap.size, 8, none⟩ (.int .i64 c3) = w3 at hV bO ⊢
    clear cO zO fO
    have hc := Hc0.out
    have dd := hV.get dd0
    have cO := bO.cell
    have zO := bO.lt
    have fO := bO.frozen
    rw [rounds_succ]
    go_wp2_with fail
    refine (Kd.out _ (HM.out.ex (hES.trans hV))).mono ?_
    rintro e v3 ⟨rfl, hx⟩
    replace hV := hV.trans hx
    replace bO := bO.ex hx
    clear hx cO zO fO dd Kd
    rcases okd with _ | _
    · have HR : Hid (skr l = (((⟨0, 0, 0⟩ : Fr), (⟨0, 0, 0⟩ : Fr), (⟨0, 0, 0⟩ : Fr), (⟨0, 0, 0⟩ : Fr)), false)) := Lib.hid (by rw [HSK.out]; simp [fin4, okR, ha, hb, hc])
      clear bO HSK
      replace hV := hV.alloc (.cells #[.int .i64 d1, .int .i64 d2, .int .i64 d3] 24)
      have bR := bRs.ex hV
      have cR := bR.cell
      have zR := bR.lt
      have fR := bR.frozen
      have hE := hES.trans hV
      go_wp2
      clear cR zR fR
      replace hE := ex3 (ex3 (ex3 (ex3 (hE) (b := w.heap.size) (by omega) 0 1 2 (.int .i64 0) (.int .i64 0) (.int .i64 0)) (b := w.heap.size) (by omega) 3 4 5 (.int .i64 0) (.int .i64 0) (.int .i64 0)) (b := w.heap.size) (by omega) 6 7 8 (.int .i64 0) (.int .i64 0) (.int .i64 0)) (b := w.heap.size) (by omega) 9 10 11 (.int .i64 0) (.int .i64 0) (.int .i64 0)
      replace bR := put4_3 0 0 0 0 0 0 0 0 0 0 0 0 (put4_2 0 0 0 0 0 0 0 0 0 0 0 0 (put4_1 0 0 0 0 0 0 0 0 0 0 0 0 (put4_0 0 0 0 0 0 0 0 0 0 0 0 0 (bR))))
      generalize (((((((((((((v3.alloc (.cells #[.int .i64 d1, .int .i64 d2, .int .i64 d3] 24)).setCell ⟨w.heap.size, 0, none⟩ (.int .i64 0)).setCell ⟨w.heap.size, 1, none⟩ (.int .i64 0)).setCell ⟨w.heap.size, 2, none⟩ (.int .i64 0)).setCell ⟨w.heap.size, 3, none⟩ (.int .i64 0)).setCell ⟨w.heap.size, 4, none⟩ (.int .i64 0)).setCell ⟨w.heap.size, 5, none⟩ (.int .i64 0)).setCell ⟨w.heap.size, 6, none⟩ (.int .i64 0)).setCell ⟨w.heap.size, 7, none⟩ (.int .i64 0)).setCell ⟨w.heap.size, 8, none⟩ (.int .i64 0)).setCell ⟨w.heap.size, 9, none⟩ (.int .i64 0)).setCell ⟨w.heap.size, 10, none⟩ (.int .i64 0)).setCell ⟨w.heap.size, 11, none⟩ (.int .i64 0)) = Y at bR hE ⊢
      have cR := bR.cell
      refine bodyPost_ret (v := .tuple #[.agg #[.int .i64 0, .int .i64 0, .int .i64 0, .int .i64 0, .int .i64 0, .int .i64 0, .int .i64 0, .int .i64 0, .int .i64 0, .int .i64 0, .int .i64 0, .int .i64 0], .bool false]) ?_ rfl ⟨by rw [HR.out]; rfl, hE⟩
      simp [results, Tryz.results8, go_sem, cR]
    have hsz3 := hV.size
    by_cases hd : d2 = 0
    rotate_left
    · have HR : Hid (skr l = (((⟨0, 0, 0⟩ : Fr), (⟨0, 0, 0⟩ : Fr), (⟨0, 0, 0⟩ : Fr), (⟨0, 0, 0⟩ : Fr)), false)) := Lib.hid (by rw [HSK.out]; simp [fin4, okR, hd, ha, hb, hc])
      have ko : ∀ w, Calls Tryz.prog 19 #[.agg #[.int .i64 d1, .int .i64 d2, .int .i64 d3]] w fun e w' => e = .returned (.bool false) ∧ Ex w w' := fun w => by have := realOk_any ⟨d1, d2, d3⟩ w; rw [rok_not (x := ⟨_, _, _⟩) hd] at this; exact this
      have KO := Lib.hid ko
      clear ko bO HSK
      have bF := Box.new v3 #[.int .i64 d1, .int .i64 d2, .int .i64 d3] 24
      have cF := bF.cell
      replace hV := hV.alloc (.cells #[.int .i64 d1, .int .i64 d2, .int .i64 d3] 24)
      go_wp2_with fail
      refine (KO.out _).mono ?_
      rintro e u ⟨rfl, hx⟩
      replace hV := hV.trans hx
      clear hx bF cF
      have bR := bRs.ex hV
      have cR := bR.cell
      have zR := bR.lt
      have fR := bR.frozen
      have hE := hES.trans hV
      go_wp2
      clear cR zR fR
      replace hE := ex3 (ex3 (ex3 (ex3 (hE) (b := w.heap.size) (by omega) 0 1 2 (.int .i64 0) (.int .i64 0) (.int .i64 0)) (b := w.heap.size) (by omega) 3 4 5 (.int .i64 0) (.int .i64 0) (.int .i64 0)) (b := w.heap.size) (by omega) 6 7 8 (.int .i64 0) (.int .i64 0) (.int .i64 0)) (b := w.heap.size) (by omega) 9 10 11 (.int .i64 0) (.int .i64 0) (.int .i64 0)
      replace bR := put4_3 0 0 0 0 0 0 0 0 0 0 0 0 (put4_2 0 0 0 0 0 0 0 0 0 0 0 0 (put4_1 0 0 0 0 0 0 0 0 0 0 0 0 (put4_0 0 0 0 0 0 0 0 0 0 0 0 0 (bR))))
      generalize ((((((((((((u.setCell ⟨w.heap.size, 0, none⟩ (.int .i64 0)).setCell ⟨w.heap.size, 1, none⟩ (.int .i64 0)).setCell ⟨w.heap.size, 2, none⟩ (.int .i64 0)).setCell ⟨w.heap.size, 3, none⟩ (.int .i64 0)).setCell ⟨w.heap.size, 4, none⟩ (.int .i64 0)).setCell ⟨w.heap.size, 5, none⟩ (.int .i64 0)).setCell ⟨w.heap.size, 6, none⟩ (.int .i64 0)).setCell ⟨w.heap.size, 7, none⟩ (.int .i64 0)).setCell ⟨w.heap.size, 8, none⟩ (.int .i64 0)).setCell ⟨w.heap.size, 9, none⟩ (.int .i64 0)).setCell ⟨w.heap.size, 10, none⟩ (.int .i64 0)).setCell ⟨w.heap.size, 11, none⟩ (.int .i64 0)) = Y at bR hE ⊢
      have cR := bR.cell
      refine bodyPost_ret (v := .tuple #[.agg #[.int .i64 0, .int .i64 0, .int .i64 0, .int .i64 0, .int .i64 0, .int .i64 0, .int .i64 0, .int .i64 0, .int .i64 0, .int .i64 0, .int .i64 0, .int .i64 0], .bool false]) ?_ rfl ⟨by rw [HR.out]; rfl, hE⟩
      simp [results, Tryz.results8, go_sem, cR]
    have ko : ∀ w, Calls Tryz.prog 19 #[.agg #[.int .i64 d1, .int .i64 d2, .int .i64 d3]] w fun e w' => e = .returned (.bool true) ∧ Ex w w' := fun w => by have := realOk_any ⟨d1, d2, d3⟩ w; rw [rok_yes (Vd.out rfl) hd] at this; exact this
    have KOd := Lib.hid ko
    clear ko
    have Hd0 := Lib.hid hd
    clear hd
    have bF := Box.new v3 #[.int .i64 d1, .int .i64 d2, .int .i64 d3] 24
    replace bO := bO.alloc (.cells #[.int .i64 d1, .int .i64 d2, .int .i64 d3] 24)
    replace hV := hV.alloc (.cells #[.int .i64 d1, .int .i64 d2, .int .i64 d3] 24)
    have cF := bF.cell
    have cO := bO.cell
    have zO := bO.lt
    have fO := bO.frozen
    go_wp2_with fail
    refine (KOd.out _).mono ?_
    rintro e u3 ⟨rfl, hx⟩
    replace hV := hV.trans hx
    replace bO := bO.ex hx
    replace bF := bF.ex hx
    replace cF := bF.cell
    replace cO := bO.cell
    replace zO := bO.lt
    replace fO := bO.frozen
    clear hx KOd
    go_wp2_with fail
    clear bF cF
    replace hV := ex3 hV (b := wS.heap.size) (by omega) 9 10 11 (.int .i64 d1) (.int .i64 d2) (.int .i64 d3)
    replace bO := put4_3 a1 a2 a3 b1 b2 b3 c1 c2 c3 d1 d2 d3 bO
    generalize ((u3.setCell ⟨wS.heap.size, 9, none⟩ (.int .i64 d1)).setCell ⟨wS.heap.size, 10, none⟩ (.int .i64 d2)).setCell ⟨wS.heap.size, 11, none⟩ (.int .i64 d3) = w4 at hV bO ⊢
    clear cO zO fO
    have hd := Hd0.out
    have HR : Hid (skr l = (((⟨a1, a2, a3⟩ : Fr), (⟨b1, b2, b3⟩ : Fr), (⟨c1, c2, c3⟩ : Fr), (⟨d1, d2, d3⟩ : Fr)), true)) := Lib.hid (by rw [HSK.out]; simp [fin4, okR, ha, hb, hc, hd])
    clear HSK ha hb hc hd
    have cO := bO.cell
    rw [rounds_succ]
    have bR := bRs.ex hV
    have cR := bR.cell
    have zR := bR.lt
    have fR := bR.frozen
    have hE := hES.trans hV
    go_wp2
    clear cR zR fR
    replace hE := ex3 (ex3 (ex3 (ex3 (hE) (b := w.heap.size) (by omega) 0 1 2 (.int .i64 a1) (.int .i64 a2) (.int .i64 a3)) (b := w.heap.size) (by omega) 3 4 5 (.int .i64 b1) (.int .i64 b2) (.int .i64 b3)) (b := w.heap.size) (by omega) 6 7 8 (.int .i64 c1) (.int .i64 c2) (.int .i64 c3)) (b := w.heap.size) (by omega) 9 10 11 (.int .i64 d1) (.int .i64 d2) (.int .i64 d3)
    replace bR := put4_3 a1 a2 a3 b1 b2 b3 c1 c2 c3 d1 d2 d3 (put4_2 a1 a2 a3 b1 b2 b3 c1 c2 c3 d1 d2 d3 (put4_1 a1 a2 a3 b1 b2 b3 c1 c2 c3 d1 d2 d3 (put4_0 a1 a2 a3 b1 b2 b3 c1 c2 c3 d1 d2 d3 (bR))))
    generalize ((((((((((((w4.setCell ⟨w.heap.size, 0, none⟩ (.int .i64 a1)).setCell ⟨w.heap.size, 1, none⟩ (.int .i64 a2)).setCell ⟨w.heap.size, 2, none⟩ (.int .i64 a3)).setCell ⟨w.heap.size, 3, none⟩ (.int .i64 b1)).setCell ⟨w.heap.size, 4, none⟩ (.int .i64 b2)).setCell ⟨w.heap.size, 5, none⟩ (.int .i64 b3)).setCell ⟨w.heap.size, 6, none⟩ (.int .i64 c1)).setCell ⟨w.heap.size, 7, none⟩ (.int .i64 c2)).setCell ⟨w.heap.size, 8, none⟩ (.int .i64 c3)).setCell ⟨w.heap.size, 9, none⟩ (.int .i64 d1)).setCell ⟨w.heap.size, 10, none⟩ (.int .i64 d2)).setCell ⟨w.heap.size, 11, none⟩ (.int .i64 d3)) = Y at bR hE ⊢
    have cR := bR.cell
    refine bodyPost_ret (v := .tuple #[.agg #[.int .i64 a1, .int .i64 a2, .int .i64 a3, .int .i64 b1, .int .i64 b2, .int .i64 b3, .int .i64 c1, .int .i64 c2, .int .i64 c3, .int .i64 d1, .int .i64 d2, .int .i64 d3], .bool true]) ?_ rfl ⟨by rw [HR.out]; rfl, hE⟩
    simp [results, Tryz.results8, go_sem, cR]
  · have HR : Hid (skr l = (((⟨0, 0, 0⟩ : Fr), (⟨0, 0, 0⟩ : Fr), (⟨0, 0, 0⟩ : Fr), (⟨0, 0, 0⟩ : Fr)), false)) := Lib.hid (skr_len h4)
    have hn4 : ¬ ((wds l).length : Int) = 4 := by omega
    have hn4b : (((wds l).length : Int) == 4) = false := by simpa using hn4
    clear h4 hw
    go_enter Tryz.func8, Tryz.ntmps8
    go_wp2_with fail
    refine (KS.out _ (HM.out.alloc _)).mono ?_
    rintro e wS ⟨A, cap, rfl, hA, hx⟩
    have hES : Ex w wS := ((Ex.refl _).alloc _).trans hx
    have bRs := (Box.new w #[.int .i64 0, .int .i64 0, .int .i64 0, .int .i64 0, .int .i64 0, .int .i64 0, .int .i64 0, .int .i64 0, .int .i64 0, .int .i64 0, .int .i64 0, .int .i64 0] 27).ex hx
    have hRS := bRs.lt
    clear hx
    clear hA
    have hV := Ex.refl wS
    have bR := bRs.ex hV
    have cR := bR.cell
    have zR := bR.lt
    have fR := bR.frozen
    have hE := hES.trans hV
    go_wp2
    clear cR zR fR
    replace hE := ex3 (ex3 (ex3 (ex3 (hE) (b := w.heap.size) (by omega) 0 1 2 (.int .i64 0) (.int .i64 0) (.int .i64 0)) (b := w.heap.size) (by omega) 3 4 5 (.int .i64 0) (.int .i64 0) (.int .i64 0)) (b := w.heap.size) (by omega) 6 7 8 (.int .i64 0) (.int .i64 0) (.int .i64 0)) (b := w.heap.size) (by omega) 9 10 11 (.int .i64 0) (.int .i64 0) (.int .i64 0)
    replace bR := put4_3 0 0 0 0 0 0 0 0 0 0 0 0 (put4_2 0 0 0 0 0 0 0 0 0 0 0 0 (put4_1 0 0 0 0 0 0 0 0 0 0 0 0 (put4_0 0 0 0 0 0 0 0 0 0 0 0 0 (bR))))
    generalize ((((((((((((wS.setCell ⟨w.heap.size, 0, none⟩ (.int .i64 0)).setCell ⟨w.heap.size, 1, none⟩ (.int .i64 0)).setCell ⟨w.heap.size, 2, none⟩ (.int .i64 0)).setCell ⟨w.heap.size, 3, none⟩ (.int .i64 0)).setCell ⟨w.heap.size, 4, none⟩ (.int .i64 0)).setCell ⟨w.heap.size, 5, none⟩ (.int .i64 0)).setCell ⟨w.heap.size, 6, none⟩ (.int .i64 0)).setCell ⟨w.heap.size, 7, none⟩ (.int .i64 0)).setCell ⟨w.heap.size, 8, none⟩ (.int .i64 0)).setCell ⟨w.heap.size, 9, none⟩ (.int .i64 0)).setCell ⟨w.heap.size, 10, none⟩ (.int .i64 0)).setCell ⟨w.heap.size, 11, none⟩ (.int .i64 0)) = Y at bR hE ⊢
    have cR := bR.cell
    refine bodyPost_ret (v := .tuple #[.agg #[.int .i64 0, .int .i64 0, .int .i64 0, .int .i64 0, .int .i64 0, .int .i64 0, .int .i64 0, .int .i64 0, .int .i64 0, .int .i64 0, .int .i64 0, .int .i64 0], .bool false]) ?_ rfl ⟨by rw [HR.out]; rfl, hE⟩
    simp [results, Tryz.results8, go_sem, cR]
end Go.Proofs.YtklkfkgpjjpaiaaGreatDoor
