/-
  Walks: which element of a grid is nearest, the reference's.
-/
import Derived.Test.YtgkekdiffgmllaaGrdBi
namespace Go.Proofs.Ytgkekdiffgmllaa
open Go.RowKit

theorem all_of_take {xs : List Fr} {f : Fr → Bool} {k : Nat} (hk : k < xs.length) (h : (xs.take k).all f = true) (h2 : f (xs.getD k .zero) = true) : (xs.take (k + 1)).all f = true := by
  rw [List.take_succ_eq_append_getElem hk, List.all_append, h]
  simpa [hk] using h2
theorem all_bad {xs : List Fr} {f : Fr → Bool} {k : Nat} (hk : k < xs.length) (h2 : f (xs.getD k .zero) = false) : xs.all f = false := by
  rw [List.all_eq_false]
  exact ⟨xs[k], List.getElem_mem hk, by simpa [hk] using h2⟩

set_option maxHeartbeats 2000000 in
theorem sGridBest (A : Option Addr) (xs : List Fr) (cap : Nat) (a : Fr) (w : World) (hS : Fracs w A xs) (hl : xs.length ≤ 1048576) :
    Calls Try.prog 38 #[.slice A xs.length cap, a.v] w (FitGot w (gbest xs a)) := by
  have k1 := fun w hS => l12Grid_any A xs cap w hS hl
  rcases hg : gok xs with _ | _
  · have hr : gbest xs a = (0, false) := by simp [gbest, hg]
    simp only [hg] at k1
    rw [hr]
    obtain ⟨a1, a2, a3⟩ := a
    show Calls _ _ #[_, .agg #[.int .i64 a1, .int .i64 a2, .int .i64 a3]] _ _
    clear hr hg
    have K1 := Lib.hid k1
    clear k1
    go_enter Try.func38, Try.ntmps38
    go_wp2_with fail
    refine (K1.out _ (hS.alloc _)).mono ?_
    rintro e w1 ⟨rfl, hx⟩
    go_wp2
    refine bodyPost_ret (v := .tuple #[.int .i64 0, .bool false]) ?_ rfl ⟨rfl, ?_⟩
    · simp [results, Try.results38, go_sem]
    · exact ((Ex.refl _).alloc _).trans hx
  have k2 := fun w => sFracValid a.re a.im a.den w
  rcases hv : a.valid with _ | _
  · have hr : gbest xs a = (0, false) := by simp [gbest, hv]
    have hv' : fvalid a.re a.im a.den = false := hv
    simp only [hg] at k1
    simp only [hv'] at k2
    rw [hr]
    obtain ⟨a1, a2, a3⟩ := a
    show Calls _ _ #[_, .agg #[.int .i64 a1, .int .i64 a2, .int .i64 a3]] _ _
    clear hr hg hv hv'
    have K1 := Lib.hid k1
    have K2 := Lib.hid k2
    clear k1 k2
    go_enter Try.func38, Try.ntmps38
    go_wp2_with fail
    refine (K1.out _ (hS.alloc _)).mono ?_
    rintro e w1 ⟨rfl, hx⟩
    have bA := (Box.new _ _ _).ex hx
    have cA := bA.cell
    replace hx := ((Ex.refl _).alloc _).trans hx
    go_wp2_with fail
    refine (K2.out _).mono ?_
    rintro e w2 ⟨rfl, hx2⟩
    go_wp2
    refine bodyPost_ret (v := .tuple #[.int .i64 0, .bool false]) ?_ rfl ⟨rfl, ?_⟩
    · simp [results, Try.results38, go_sem]
    · exact hx.trans hx2
  have hr : gbest xs a = if xs.all (fun x => (npow x a).2) then (argr (nlt xs a) (xs.length - 1), true) else (0, false) := by simp [gbest, hg, hv]
  have hv' : fvalid a.re a.im a.den = true := hv
  have hn := (gok_out hg).2
  simp only [hg] at k1
  simp only [hv'] at k2
  rw [hr]
  clear hr hg hv hv'
  have K1 := Lib.hid k1
  have K2 := Lib.hid k2
  clear k1 k2
  have kl : ∀ x w, Calls Try.prog 69 #[x.v, a.v] w (FrGot w (fless x a)) := fun x w => sFracLess x a w
  have kp : ∀ x w, Calls Try.prog 70 #[(fless x a).1.v] w (FrGot w (npow x a)) := fun x w => sFracPower (fless x a).1 w
  have kn : ∀ x, (fless x a).2 = false → (npow x a).2 = false := fun x h => by rw [npow_bad h]
  obtain ⟨fl, hfl⟩ : ∃ fl : Fr → Fr × Bool, fl = fun x => fless x a := ⟨_, rfl⟩
  obtain ⟨np, hnp⟩ : ∃ np : Fr → Fr × Bool, np = fun x => npow x a := ⟨_, rfl⟩
  have KL : Hid (∀ x w, Calls Try.prog 69 #[x.v, a.v] w (FrGot w (fl x))) := by rw [hfl]; exact kl
  have KP : Hid (∀ x w, Calls Try.prog 70 #[(fl x).1.v] w (FrGot w (np x))) := by rw [hfl, hnp]; exact kp
  have KN : Hid (∀ x, (fl x).2 = false → (np x).2 = false) := by rw [hfl, hnp]; exact kn
  have hlt : nlt xs a = fun i j => decide ((fcmp (np (xs.getD i .zero)).1 (np (xs.getD j .zero)).1).1 < 0) := by rw [hnp]; rfl
  have hall : (xs.all fun x => (npow x a).2) = xs.all fun x => (np x).2 := by rw [hnp]
  obtain ⟨lt, hlt2⟩ : ∃ lt : Nat → Nat → Bool, lt = nlt xs a := ⟨_, rfl⟩
  rw [← hlt2] at hlt ⊢
  rw [hall]
  obtain ⟨R, hR⟩ : ∃ R : Nat × Bool, R = if (xs.all fun x => (np x).2) then (argr lt (xs.length - 1), true) else (0, false) := ⟨_, rfl⟩
  rw [← hR]
  have HR0 := Lib.hid hR
  have HLT := Lib.hid hlt
  clear hlt hall kl kp kn hfl hnp hR hlt2
  obtain ⟨a1, a2, a3⟩ := a
  show Calls _ _ #[_, .agg #[.int .i64 a1, .int .i64 a2, .int .i64 a3]] _ _
  go_enter Try.func38, Try.ntmps38
  go_wp2_with fail
  refine (K1.out _ (hS.alloc _)).mono ?_
  rintro e w1 ⟨rfl, hx⟩
  have bA := (Box.new _ _ _).ex hx
  have cA := bA.cell
  replace hx := ((Ex.refl _).alloc _).trans hx
  go_wp2_with fail
  refine (K2.out _).mono ?_
  rintro e w2 ⟨rfl, hx2⟩
  replace hx := hx.trans hx2
  replace bA := bA.ex hx2
  replace hS := hS.ex hx
  clear hx2 K1 K2 cA
  have zA := bA.lt
  go_wp2
  go_loopw [8, 6, 9, 11] (fun i bi p9 p11 wr => ∃ (k : Nat) (L : Fr), k ≤ xs.length ∧ i = .int .i64 k ∧ bi = .int .i64 (argr lt (k - 1) : Nat) ∧ Hid (0 < k → L = (np (xs.getD (argr lt (k - 1)) .zero)).1) ∧ Hid ((xs.take k).all (fun x => (np x).2) = true) ∧
      Box wr w2.heap.size 24 #[.int .i64 L.re, .int .i64 L.im, .int .i64 L.den] ∧ Ex w2 wr) (fun i _ _ _ _ => xs.length - (intOf i).toNat)
  case atStart => exact ⟨0, ⟨0, 0, 0⟩, by omega, rfl, rfl, (fun h => absurd h (by omega)), Lib.hid (by simp), Box.new _ _ _, (Ex.refl _).alloc _⟩
  case round =>
    obtain ⟨k, L, hk, rfl, rfl, HLk, HAll, hbL, hEr⟩ := hrel
    by_cases hlt : k < xs.length
    · obtain ⟨b, off, rfl, hc⟩ := (hS.ex hEr).at (by omega)
      obtain ⟨c1, c2, c3⟩ := hc k hlt
      have k3 : ∀ w, Calls Try.prog 69 #[.agg #[.int .i64 (xs.getD k .zero).re, .int .i64 (xs.getD k .zero).im, .int .i64 (xs.getD k .zero).den], .agg #[.int .i64 a1, .int .i64 a2, .int .i64 a3]] w (FrGot w (fl (xs.getD k .zero))) := fun w => KL.out (xs.getD k .zero) w
      have k4 := fun w => KP.out (xs.getD k .zero) w
      have kn := KN.out (xs.getD k .zero)
      have hbad : (np (xs.getD k .zero)).2 = false → R = (0, false) := fun h => by rw [HR0.out, all_bad hlt h]; rfl
      have hallk := fun h => all_of_take (f := fun x => (np x).2) hlt HAll.out h
      have hm := argr_le lt (k - 1)
      have hround := argr_round lt k
      have hltk : ∀ m, lt k m = decide ((fcmp (np (xs.getD k .zero)).1 (np (xs.getD m .zero)).1).1 < 0) := fun m => by rw [HLT.out]
      obtain ⟨m, hmd⟩ : ∃ m, m = argr lt (k - 1) := ⟨_, rfl⟩
      have hLk := HLk.out
      rw [← hmd] at hm hround hLk ⊢
      have hltm := hltk m
      obtain ⟨Q, hQ⟩ : ∃ Q, Q = np (xs.getD k .zero) := ⟨_, rfl⟩
      obtain ⟨D, hD⟩ : ∃ D, D = fl (xs.getD k .zero) := ⟨_, rfl⟩
      rw [← hQ] at k4 kn hbad hltm
      rw [← hD] at k3 k4 kn
      have hallk' : Q.2 = true → (xs.take (k + 1)).all (fun x => (np x).2) = true := fun h => hallk (by rw [← hQ]; exact h)
      have HQ := Lib.hid hQ
      obtain ⟨⟨d1, d2, d3⟩, dok⟩ := D
      obtain ⟨⟨q1, q2, q3⟩, qok⟩ := Q
      generalize (xs.getD k .zero).re = r1 at c1 k3
      generalize (xs.getD k .zero).im = r2 at c2 k3
      generalize (xs.getD k .zero).den = r3 at c3 k3
      have K3 := Lib.hid (fun w => FrGot.spell (k3 w))
      have K4 : Hid (∀ w, Calls Try.prog 70 #[.agg #[.int .i64 d1, .int .i64 d2, .int .i64 d3]] w fun e w' => e = .returned (.tuple #[.agg #[.int .i64 q1, .int .i64 q2, .int .i64 q3], .bool qok]) ∧ Ex w w') := Lib.hid (fun w => FrGot.spell (k4 w))
      have HB := Lib.hid hbad
      have HN := Lib.hid kn
      have HM := Lib.hid hround
      have HT := Lib.hid hltm
      have HA2 := Lib.hid hallk'
      have HLm := Lib.hid hLk
      have HMD := Lib.hid hmd
      clear hc k3 k4 hbad kn hround hltm hallk hallk' hLk hltk HLk hQ hD hmd
      have bAr := bA.ex hEr
      have e1 : wr.cell? ⟨w.heap.size, 0, none⟩ = some (.int .i64 a1) := bAr.cell 0
      have e2 : wr.cell? ⟨w.heap.size, 1, none⟩ = some (.int .i64 a2) := bAr.cell 1
      have e3 : wr.cell? ⟨w.heap.size, 2, none⟩ = some (.int .i64 a3) := bAr.cell 2
      have zb : b < wr.heap.size := World.block_lt_of_cell? _ _ c1
      have zA2 : w.heap.size < wr.heap.size := World.block_lt_of_cell? _ _ e1
      have nb1 : ¬ b = wr.heap.size := by omega
      have nb2 : ¬ wr.heap.size = b := by omega
      have nb3 : ¬ w.heap.size = wr.heap.size := by omega
      have nb4 : ¬ wr.heap.size = w.heap.size := by omega
      go_upto_region 8 with fail
      go_cut [9, 10] (fun p dk wx => dk = .bool dok ∧ ∃ pb, p = .pointer (some ⟨pb, 0, none⟩) ∧ Box wx pb 24 #[.int .i64 d1, .int .i64 d2, .int .i64 d3] ∧ wr.heap.size ≤ pb ∧ Ex wr wx)
      case first =>
        go_region_held3 (fun w' => (w'.cell? ⟨b, off + k * 3, none⟩ = some (.int .i64 r1) ∧ w'.cell? ⟨b, off + k * 3 + 1, none⟩ = some (.int .i64 r2) ∧ w'.cell? ⟨b, off + k * 3 + 2, none⟩ = some (.int .i64 r3)) ∧ w'.cell? ⟨w.heap.size, 0, none⟩ = some (.int .i64 a1) ∧ w'.cell? ⟨w.heap.size, 1, none⟩ = some (.int .i64 a2) ∧ w'.cell? ⟨w.heap.size, 2, none⟩ = some (.int .i64 a3)) (go_keep) (first | (go_at_call 69; refine (K3.out wr).mono ?_; rintro e w3 ⟨rfl, hx3⟩; have hx4 : Ex wr w3 := Ex.trans (Ex.refl _) hx3; have f1 := hx4.get c1; have f2 := hx4.get c2; have f3 := hx4.get c3; have f4 := hx4.get e1; have f5 := hx4.get e2; have f6 := hx4.get e3) | (go_at_call 69; refine (K3.out wr.drew).mono ?_; rintro e w3 ⟨rfl, hx3⟩; have hx4 : Ex wr w3 := Ex.trans (Ex.refl _).drew hx3; have f1 := hx4.get c1; have f2 := hx4.get c2; have f3 := hx4.get c3; have f4 := hx4.get e1; have f5 := hx4.get e2; have f6 := hx4.get e3) | (go_at_call 69; refine (K3.out (wr.alloc (.cells #[.int .i64 0, .int .i64 0, .int .i64 0] 24))).mono ?_; rintro e w3 ⟨rfl, hx3⟩; have hx4 : Ex wr w3 := Ex.trans ((Ex.refl _).alloc _) hx3; have pz : Box w3 wr.heap.size 24 #[.int .i64 0, .int .i64 0, .int .i64 0] := Box.ex (Box.new _ _ _) hx3; have cz := pz.cell; have fz := pz.frozen; have f1 := hx4.get c1; have f2 := hx4.get c2; have f3 := hx4.get c3; have f4 := hx4.get e1; have f5 := hx4.get e2; have f6 := hx4.get e3) | (go_at_call 69; refine (K3.out (wr.alloc (.cells #[.int .i64 0, .int .i64 0, .int .i64 0] 24)).drew).mono ?_; rintro e w3 ⟨rfl, hx3⟩; have hx4 : Ex wr w3 := Ex.trans ((Ex.refl _).alloc _).drew hx3; have pz : Box w3 wr.heap.size 24 #[.int .i64 0, .int .i64 0, .int .i64 0] := Box.ex (Box.drew (Box.new _ _ _)) hx3; have cz := pz.cell; have fz := pz.frozen; have f1 := hx4.get c1; have f2 := hx4.get c2; have f3 := hx4.get c3; have f4 := hx4.get e1; have f5 := hx4.get e2; have f6 := hx4.get e3))
        all_goals
          go_wp2_with fail
          go_meet
          first
            | exact ⟨rfl, _, rfl, Box.new _ _ _, hx4.size, hx4.alloc _⟩
            | exact ⟨rfl, _, rfl, ((pz.set_ 0 _).set_ 1 _).set_ 2 _, Nat.le_refl _, ((hx4.setCell (Nat.le_refl _) _).setCell (Nat.le_refl _) _).setCell (Nat.le_refl _) _⟩
      case rest =>
        obtain ⟨rfl, pb, rfl, bP, hpb, hxw⟩ := hcut
        have hE2 := hEr.trans hxw
        have bL2 := hbL.ex hxw
        have cP := bP.cell
        have zL := bL2.lt
        clear hxw bAr e1 e2 e3 c1 c2 c3 K3 nb1 nb2 nb3 nb4 zb zA2 hbL hpb hEr
        rcases dok with _ | _
        · have hR2 := HB.out (HN.out rfl)
          subst hR2
          clear HB HN HR0
          go_wp2
          refine bodyPost_ret (v := .tuple #[.int .i64 0, .bool false]) ?_ rfl ⟨rfl, ?_⟩
          · simp [results, Try.results38, go_sem]
          · exact hx.trans hE2
        clear HN
        go_wp2_with fail
        refine (K4.out _).mono ?_
        rintro e w4 ⟨rfl, hx4⟩
        have hE4 := hE2.trans hx4
        have bL4 := bL2.ex hx4
        have zL4 := bL4.lt
        clear hx4 hE2 bL2 bP cP zL K4
        rcases qok with _ | _
        · have hR2 := HB.out rfl
          subst hR2
          clear HB HR0
          go_wp2
          refine bodyPost_ret (v := .tuple #[.int .i64 0, .bool false]) ?_ rfl ⟨rfl, ?_⟩
          · simp [results, Try.results38, go_sem]
          · exact hx.trans (hE4.alloc _)
        have hA3 := Lib.hid (HA2.out rfl)
        clear HB HA2
        have cL4 := bL4.cell
        obtain ⟨l1, l2, l3⟩ := L
        have k5 : ∀ w, Calls Try.prog 71 #[.agg #[.int .i64 q1, .int .i64 q2, .int .i64 q3], .agg #[.int .i64 l1, .int .i64 l2, .int .i64 l3]] w fun e w' => e = .returned (.tuple #[.int .i64 (fcmp ⟨q1, q2, q3⟩ ⟨l1, l2, l3⟩).1, .bool (fcmp ⟨q1, q2, q3⟩ ⟨l1, l2, l3⟩).2]) ∧ Ex w w' := fun w => sFracCompare ⟨q1, q2, q3⟩ ⟨l1, l2, l3⟩ w
        obtain ⟨C, hC⟩ : ∃ C, C = fcmp ⟨q1, q2, q3⟩ ⟨l1, l2, l3⟩ := ⟨_, rfl⟩
        rw [← hC] at k5
        have HC := Lib.hid hC
        obtain ⟨cn, cok⟩ := C
        clear hC
        simp only at cL4 bL4 k5
        go_wp2_with fail
        refine (k5 _).mono ?_
        rintro e w5 ⟨rfl, hx5⟩
        have bL5 := (bL4.alloc _).ex hx5
        have bQ5 : Box w5 w4.heap.size 24 #[.int .i64 q1, .int .i64 q2, .int .i64 q3] := (Box.new _ _ _).ex hx5
        have hE5 := (hE4.alloc _).trans hx5
        have cL5 := bL5.cell
        have fL5 := bL5.frozen
        have cQ5 := bQ5.cell
        have zw := hE4.size
        clear hx5 bL4 cL4 k5 bQ5 zL4
        by_cases hk0 : k = 0
        · subst hk0
          have hm0 : argr lt (0 + 1 - 1) = 0 := rfl
          go_wp2
          go_roundw
          case rel => exact ⟨1, ⟨q1, q2, q3⟩, by omega, by go_num, rfl, Lib.hid (fun _ => congrArg Prod.fst HQ.out), hA3, ((bL5.set_ 0 _).set_ 1 _).set_ 2 _, ((hE5.setCell (Nat.le_refl _) _).setCell (Nat.le_refl _) _).setCell (Nat.le_refl _) _⟩
          case measure => simp [intOf]; omega
        · have hL2 := HLm.out (by omega)
          have hT2 := HT.out
          rw [← hL2, ← HC.out] at hT2
          have hM2 := HM.out
          rw [hT2] at hM2
          have hki : ((k : Int) == 0) = false := by simpa using hk0
          have HL3 := Lib.hid hL2
          clear HLm HT HM HC hL2
          by_cases hneg : cn < 0
          · have hM3 : argr lt (k + 1 - 1) = k := by rw [Nat.add_sub_cancel, hM2]; simp [hneg]
            have HM3 := Lib.hid hM3
            clear hM2 hM3 hT2
            go_wp2
            go_roundw
            case rel => exact ⟨k + 1, ⟨q1, q2, q3⟩, by omega, by go_num, by rw [HM3.out], Lib.hid (fun _ => by rw [HM3.out]; exact congrArg Prod.fst HQ.out), hA3, ((bL5.set_ 0 _).set_ 1 _).set_ 2 _, ((hE5.setCell (Nat.le_refl _) _).setCell (Nat.le_refl _) _).setCell (Nat.le_refl _) _⟩
            case measure => simp [intOf]; omega
          · have hM3 : argr lt (k + 1 - 1) = m := by rw [Nat.add_sub_cancel, hM2]; simp [hneg]
            have HM3 := Lib.hid hM3
            clear hM2 hM3 hT2
            go_wp2
            go_roundw
            case rel => exact ⟨k + 1, ⟨l1, l2, l3⟩, by omega, by go_num, by rw [HM3.out], Lib.hid (fun _ => by rw [HM3.out]; exact HL3.out), hA3, bL5, hE5⟩
            case measure => simp [intOf]; omega
    · have hk2 : k = xs.length := by omega
      subst hk2
      have hR2 : R = (argr lt (xs.length - 1), true) := by
        have := HAll.out
        rw [List.take_length] at this
        rw [HR0.out, this]; rfl
      subst hR2
      clear HR0
      go_wp2
      refine bodyPost_ret (v := .tuple #[.int .i64 (argr lt (xs.length - 1) : Nat), .bool true]) ?_ rfl ⟨rfl, ?_⟩
      · simp [results, Try.results38, go_sem]
      · exact hx.trans hEr
end Go.Proofs.Ytgkekdiffgmllaa
