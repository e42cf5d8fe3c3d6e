/-
  Walks: which element of a grid is nearest, the program's.
-/
import Derived.Test.YtgkekdiffgmllaaGrdB
namespace Go.Proofs.Ytgkekdiffgmllaa
open Go.RowKit

theorem CmpGot.spell {P : Program} {f : Nat} {args : Array Value} {w : World} {n : Int} {ok : Bool} (h : Calls P f args w (CmpGot w (n, ok))) :
    Calls P f args w fun e w' => e = .returned (.tuple #[.int .i64 n, .bool ok]) ∧ Ex w w' := h
theorem all_take_succ' {xs : List Fr} {f : Fr → Bool} {k : Nat} (hk : k < xs.length) : (!(xs.take (k + 1)).all f) = ((!(xs.take k).all f) || !f (xs.getD k .zero)) := by
  rw [List.take_succ_eq_append_getElem hk, List.all_append]
  simp [hk]
theorem map_take_succ' {xs ys : List Fr} {f : Fr → Fr} {k : Nat} (hk : k < xs.length) (h : ys = (xs.take k).map f) : ys ++ [f (xs.getD k .zero)] = (xs.take (k + 1)).map f := by
  rw [List.take_succ_eq_append_getElem hk, List.map_append, h]
  simp [hk]
theorem OwnF.snoc {w' : World} {lo : Nat} {A : Option Addr} {cap : Nat} {xs : List Fr} {x : Fr} (h : Own w' lo 24 3 (.slice A (xs.length + 1) cap) (xs.length + 1) (frCells xs ++ [.int .i64 x.re, .int .i64 x.im, .int .i64 x.den])) : OwnF w' lo A cap (xs ++ [x]) := by
  unfold OwnF frCells at *
  simpa [Fr.cs] using h
theorem slF : SlT 41 24 (.agg #[.int .i64 0, .int .i64 0, .int .i64 0]) 3 24 := ⟨Try.underlying41, by kernel_rfl, rfl, by omega, by omega⟩

set_option maxHeartbeats 2000000 in
theorem iGridBest (A : Option Addr) (xs : List Fr) (cap : Nat) (a : Fr) (w : World) (hS : Fracs w A xs) (hl : xs.length ≤ 1048576) :
    Calls Try.prog 39 #[.slice A xs.length cap, a.v] w (FitGot w (gbest xs a)) := by
  have k1 := fun w hS => gridOk_any A xs cap w hS hl
  rcases hg : gok xs with _ | _
  · have hr : gbest xs a = (0, false) := by simp [gbest, hg]
    simp only [hg] at k1
    rw [hr]
    obtain ⟨a1, a2, a3⟩ := a
    show Calls _ _ #[_, .agg #[.int .i64 a1, .int .i64 a2, .int .i64 a3]] _ _
    clear hr hg
    have K1 := Lib.hid k1
    clear k1
    go_enter Try.func39, Try.ntmps39
    go_wp2_with fail
    refine (K1.out _ (hS.alloc _)).mono ?_
    rintro e w1 ⟨rfl, hx⟩
    go_wp2
    refine bodyPost_ret (v := .tuple #[.int .i64 0, .bool false]) ?_ rfl ⟨rfl, ?_⟩
    · simp [results, Try.results39, go_sem]
    · exact ((Ex.refl _).alloc _).trans hx
  have k2 := fun w => iFracValid a.re a.im a.den w
  rcases hv : a.valid with _ | _
  · have hr : gbest xs a = (0, false) := by simp [gbest, hv]
    have hv' : fvalid a.re a.im a.den = false := hv
    simp only [hg] at k1
    simp only [hv'] at k2
    rw [hr]
    obtain ⟨a1, a2, a3⟩ := a
    show Calls _ _ #[_, .agg #[.int .i64 a1, .int .i64 a2, .int .i64 a3]] _ _
    clear hr hg hv hv'
    have K1 := Lib.hid k1
    have K2 := Lib.hid k2
    clear k1 k2
    go_enter Try.func39, Try.ntmps39
    go_wp2_with fail
    refine (K1.out _ (hS.alloc _)).mono ?_
    rintro e w1 ⟨rfl, hx⟩
    have bA := (Box.new _ _ _).ex hx
    have cA := bA.cell
    replace hx := ((Ex.refl _).alloc _).trans hx
    go_wp2_with fail
    refine (K2.out _).mono ?_
    rintro e w2 ⟨rfl, hx2⟩
    go_wp2
    refine bodyPost_ret (v := .tuple #[.int .i64 0, .bool false]) ?_ rfl ⟨rfl, ?_⟩
    · simp [results, Try.results39, go_sem]
    · exact hx.trans hx2
  have hr : gbest xs a = if xs.all (fun x => (npow x a).2) then (argr (nlt xs a) (xs.length - 1), true) else (0, false) := by simp [gbest, hg, hv]
  have hv' : fvalid a.re a.im a.den = true := hv
  have hn := (gok_out hg).2
  simp only [hg] at k1
  simp only [hv'] at k2
  rw [hr]
  clear hr hg hv hv'
  have K1 := Lib.hid k1
  have K2 := Lib.hid k2
  clear k1 k2
  -- what is asked of each element
  have kl : ∀ bs bad x w, Box w bs 84 #[.bool bad] → Calls Try.prog 73 #[.pointer (some ⟨bs, 0, none⟩), x.v, a.v] w (SumGot bs bad w (fless x a)) := fun bs bad x w hb => less_any bs bad x a w hb
  have kp : ∀ bs bad x w, Box w bs 84 #[.bool bad] → Calls Try.prog 72 #[.pointer (some ⟨bs, 0, none⟩), (fless x a).1.v] w (SumGot bs bad w (npow x a)) := fun bs bad x w hb => power_any bs bad (fless x a).1 w hb
  have kor := fun x b => npow_or x a b
  obtain ⟨fl, hfl⟩ : ∃ fl : Fr → Fr × Bool, fl = fun x => fless x a := ⟨_, rfl⟩
  obtain ⟨np, hnp⟩ : ∃ np : Fr → Fr × Bool, np = fun x => npow x a := ⟨_, rfl⟩
  have KL : Hid (∀ bs bad x w, Box w bs 84 #[.bool bad] → Calls Try.prog 73 #[.pointer (some ⟨bs, 0, none⟩), x.v, a.v] w (SumGot bs bad w (fl x))) := by rw [hfl]; exact kl
  have KP : Hid (∀ bs bad x w, Box w bs 84 #[.bool bad] → Calls Try.prog 72 #[.pointer (some ⟨bs, 0, none⟩), (fl x).1.v] w (SumGot bs bad w (np x))) := by rw [hfl, hnp]; exact kp
  have KO : Hid (∀ x b, ((b || !(fl x).2) || !(np x).2) = (b || !(np x).2)) := by rw [hfl, hnp]; exact kor
  have hlt : nlt xs a = fun i j => decide ((fcmp (np (xs.getD i .zero)).1 (np (xs.getD j .zero)).1).1 < 0) := by rw [hnp]; rfl
  have hall : (xs.all fun x => (npow x a).2) = xs.all fun x => (np x).2 := by rw [hnp]
  rw [hlt, hall]
  obtain ⟨R, hR⟩ : ∃ R : Nat × Bool, R = if (xs.all fun x => (np x).2) then (argr (fun i j => decide ((fcmp (np (xs.getD i .zero)).1 (np (xs.getD j .zero)).1).1 < 0)) (xs.length - 1), true) else (0, false) := ⟨_, rfl⟩
  rw [← hR]
  have HR0 := Lib.hid hR
  clear hlt hall kl kp kor hfl hnp hR
  obtain ⟨a1, a2, a3⟩ := a
  show Calls _ _ #[_, .agg #[.int .i64 a1, .int .i64 a2, .int .i64 a3]] _ _
  go_enter Try.func39, Try.ntmps39
  go_wp2_with fail
  refine (K1.out _ (hS.alloc _)).mono ?_
  rintro e w1 ⟨rfl, hx⟩
  have bA := (Box.new _ _ _).ex hx
  have cA := bA.cell
  replace hx := ((Ex.refl _).alloc _).trans hx
  go_wp2_with fail
  refine (K2.out _).mono ?_
  rintro e w2 ⟨rfl, hx2⟩
  replace hx := hx.trans hx2
  replace bA := bA.ex hx2
  replace hS := hS.ex hx
  clear hx2 K1 K2 cA
  have zA := bA.lt
  have bs0 : Box ((w2.alloc (.cells #[.bool false] 84)).alloc (.cells #[] 24)) w2.heap.size 84 #[.bool false] := (Box.new _ _ _).alloc _
  have ho0 : OwnF ((w2.alloc (.cells #[.bool false] 84)).alloc (.cells #[] 24)) (w2.heap.size + 1) (some ⟨w2.heap.size + 1, 0, none⟩) 0 [] := by
    have := own_nil (w2.alloc (.cells #[.bool false] 84)) (w2.heap.size + 1) 24 3 (by simp)
    unfold OwnF
    simpa [frCells] using this
  go_wp2
  go_loopw [27, 7, 9] (fun i v f wr => ∃ (k : Nat) (B : Option Addr) (cb : Nat) (ys : List Fr), k ≤ xs.length ∧ i = .int .i64 k ∧ v = .slice B ys.length cb ∧ Hid (ys = (xs.take k).map fun x => (np x).1) ∧
      Hid (OwnF wr (w2.heap.size + 1) B cb ys) ∧ Box wr w2.heap.size 84 #[.bool (!(xs.take k).all fun x => (np x).2)] ∧ Ex w2 wr) (fun i _ _ _ => xs.length - (intOf i).toNat)
  case atStart => exact ⟨0, _, 0, [], by omega, rfl, rfl, Lib.hid (by simp), Lib.hid ho0, by simpa using bs0, ((Ex.refl _).alloc _).alloc _⟩
  case round =>
    clear bs0 ho0
    obtain ⟨k, B, cb, ys, hk, rfl, rfl, HY, HO, hbs, hEr⟩ := hrel
    by_cases hlt : k < xs.length
    · obtain ⟨b, off, rfl, hc⟩ := (hS.ex hEr).at (by omega)
      obtain ⟨c1, c2, c3⟩ := hc k hlt
      have hyl : ys.length ≤ 1048576 := by rw [HY.out, List.length_map, List.length_take]; omega
      have HYn : Hid (ys ++ [(np (xs.getD k .zero)).1] = (xs.take (k + 1)).map fun x => (np x).1) := Lib.hid (map_take_succ' hlt HY.out)
      have HB : Hid ((!(xs.take (k + 1)).all fun x => (np x).2) = ((!(xs.take k).all fun x => (np x).2) || !(np (xs.getD k .zero)).2)) := Lib.hid (all_take_succ' (f := fun x => (np x).2) hlt)
      have ko := KO.out (xs.getD k .zero)
      have k3 : ∀ bad w, Box w w2.heap.size 84 #[.bool bad] → Calls Try.prog 73 #[.pointer (some ⟨w2.heap.size, 0, none⟩), .agg #[.int .i64 (xs.getD k .zero).re, .int .i64 (xs.getD k .zero).im, .int .i64 (xs.getD k .zero).den], .agg #[.int .i64 a1, .int .i64 a2, .int .i64 a3]] w fun e w' => e = .returned (fl (xs.getD k .zero)).1.v ∧ Sm w2.heap.size w w' ∧ Box w' w2.heap.size 84 #[.bool (bad || !(fl (xs.getD k .zero)).2)] := fun bad w hb => KL.out _ bad (xs.getD k .zero) w hb
      have k4 : ∀ bad w, Box w w2.heap.size 84 #[.bool bad] → Calls Try.prog 72 #[.pointer (some ⟨w2.heap.size, 0, none⟩), (fl (xs.getD k .zero)).1.v] w fun e w' => e = .returned (np (xs.getD k .zero)).1.v ∧ Sm w2.heap.size w w' ∧ Box w' w2.heap.size 84 #[.bool (bad || !(np (xs.getD k .zero)).2)] := fun bad w hb => KP.out _ bad (xs.getD k .zero) w hb
      generalize np (xs.getD k .zero) = q at HYn HB ko k4
      generalize fl (xs.getD k .zero) = d at ko k3 k4
      generalize (xs.getD k .zero).re = r1 at c1 k3
      generalize (xs.getD k .zero).im = r2 at c2 k3
      generalize (xs.getD k .zero).den = r3 at c3 k3
      obtain ⟨⟨d1, d2, d3⟩, dok⟩ := d
      obtain ⟨⟨q1, q2, q3⟩, qok⟩ := q
      have K3 : Hid (∀ bad w, Box w w2.heap.size 84 #[.bool bad] → Calls Try.prog 73 #[.pointer (some ⟨w2.heap.size, 0, none⟩), .agg #[.int .i64 r1, .int .i64 r2, .int .i64 r3], .agg #[.int .i64 a1, .int .i64 a2, .int .i64 a3]] w fun e w' => e = .returned (.agg #[.int .i64 d1, .int .i64 d2, .int .i64 d3]) ∧ Sm w2.heap.size w w' ∧ Box w' w2.heap.size 84 #[.bool (bad || !dok)]) := k3
      have K4 : Hid (∀ bad w, Box w w2.heap.size 84 #[.bool bad] → Calls Try.prog 72 #[.pointer (some ⟨w2.heap.size, 0, none⟩), .agg #[.int .i64 d1, .int .i64 d2, .int .i64 d3]] w fun e w' => e = .returned (.agg #[.int .i64 q1, .int .i64 q2, .int .i64 q3]) ∧ Sm w2.heap.size w w' ∧ Box w' w2.heap.size 84 #[.bool (bad || !qok)]) := k4
      have KOK := Lib.hid ko
      clear hc k3 k4 ko
      have bAr := bA.ex hEr
      have cA := bAr.cell
      have zAr := bAr.lt
      have zbs := hbs.lt
      generalize (!(xs.take k).all fun x => (np x).2) = bad at hbs HB
      go_wp2_with fail
      refine (K3.out bad _ (hbs.alloc _)).mono ?_
      rintro e w3 ⟨rfl, hsm, hbs3⟩
      have HO3 := Lib.hid (hsm.own _ _ _ _ (OwnF.alloc HO.out _))
      have hE3 := hsm.ex w2 (hEr.alloc _) (Nat.le_refl _)
      clear hsm hbs c1 c2 c3 cA bAr zAr zbs HO
      go_wp2_with fail
      refine (K4.out _ _ hbs3).mono ?_
      rintro e w4 ⟨rfl, hsm, hbs4⟩
      have HO4 := Lib.hid (hsm.own _ _ _ _ HO3.out)
      have hE4 := hsm.ex w2 hE3 (Nat.le_refl _)
      have hs4 : w2.heap.size + 1 ≤ w4.heap.size := by have := hbs4.lt; omega
      clear hsm hbs3 HO3 hE3
      go_wp2_with (at_builtin; refine wpList_appV slF rfl _ _ w4 rfl (w2.heap.size + 1) B cb ys.length (frCells ys) [.int .i64 q1, .int .i64 q2, .int .i64 q3] rfl (by simp [Value.oneCell']) rfl HO4.out rfl hyl hs4 ?_)
      intro A' cap' w5 hown5 hk5
      have hE5 := hk5.ex w2 hE4 (by omega)
      have hbs5 := hk5.box _ _ _ hbs4 (by decide)
      rw [KOK.out, ← HB.out] at hbs5
      have HO5 := Lib.hid (OwnF.snoc (x := ⟨q1, q2, q3⟩) hown5)
      clear hown5 hk5 hE4 hbs4 HO4
      go_wp2
      go_roundw
      case rel => exact ⟨k + 1, A', cap', ys ++ [⟨q1, q2, q3⟩], by omega, by go_num, by simp, HYn, HO5, hbs5, hE5⟩
      case measure => simp [intOf]; omega
    · have hk2 : k = xs.length := by omega
      subst hk2
      rw [List.take_length] at HY hbs
      rcases hall : xs.all fun x => (np x).2 with _ | _
      · rw [hall] at hbs
        have cs := hbs.cell
        have hR2 : R = (0, false) := by rw [HR0.out, hall]; rfl
        subst hR2
        go_wp2
        refine bodyPost_ret (v := .tuple #[.int .i64 0, .bool false]) ?_ rfl ⟨rfl, ?_⟩
        · simp [results, Try.results39, go_sem]
        · exact hx.trans hEr
      · rw [hall] at hbs
        have cs := hbs.cell
        have hyl : ys.length = xs.length := by rw [HY.out, List.length_map]
        have hyk : ∀ j, j < xs.length → (np (xs.getD j .zero)).1 = ys.getD j .zero := fun j hj => by rw [HY.out]; simp [hj]
        have HK := Lib.hid hyk
        have hR2 : R = (argr (fun i j => decide ((fcmp (np (xs.getD i .zero)).1 (np (xs.getD j .zero)).1).1 < 0)) (xs.length - 1), true) := by rw [HR0.out, hall]; rfl
        subst hR2
        have HYL := Lib.hid hyl
        clear hyk HY hall hlt HR0 hyl
        go_wp2
        go_loopw [47, 10, 11] (fun i bi kk wx => ∃ (k : Nat), k ≤ ys.length ∧ i = .int .i64 k ∧ bi = .int .i64 (argr (fun i j => decide ((fcmp (np (xs.getD i .zero)).1 (np (xs.getD j .zero)).1).1 < 0)) (k - 1) : Nat) ∧ Ex wr wx) (fun i _ _ _ => ys.length - (intOf i).toNat)
        case atStart => exact ⟨0, by omega, rfl, rfl, Ex.refl _⟩
        case round =>
          obtain ⟨k, hk, rfl, rfl, hEx⟩ := hrel
          obtain ⟨lt, hlt⟩ : ∃ lt : Nat → Nat → Bool, lt = fun i j => decide ((fcmp (np (xs.getD i .zero)).1 (np (xs.getD j .zero)).1).1 < 0) := ⟨_, rfl⟩
          rw [← hlt]
          have hks : k ≤ xs.length := by have := HYL.out; omega
          by_cases hkl : k < xs.length
          · have hm := argr_le lt (k - 1)
            have hround := argr_round lt k
            obtain ⟨m, hmd⟩ : ∃ m, m = argr lt (k - 1) := ⟨_, rfl⟩
            rw [← hmd] at hm hround ⊢
            have hyk' : k < ys.length := by have := HYL.out; omega
            have hym' : m < ys.length := by have := HYL.out; omega
            have hxm : m < xs.length := by omega
            obtain ⟨b, off, rfl, hc⟩ := ((OwnF.fracs HO.out).ex hEx).at (by omega)
            obtain ⟨c1, c2, c3⟩ := hc k hyk'
            obtain ⟨d1, d2, d3⟩ := hc m hym'
            have hltk : lt k m = decide ((fcmp (ys.getD k .zero) (ys.getD m .zero)).1 < 0) := by rw [hlt, ← HK.out k hkl, ← HK.out m hxm]
            have kc : ∀ w, Calls Try.prog 46 #[.agg #[.int .i64 (ys.getD k .zero).re, .int .i64 (ys.getD k .zero).im, .int .i64 (ys.getD k .zero).den], .agg #[.int .i64 (ys.getD m .zero).re, .int .i64 (ys.getD m .zero).im, .int .i64 (ys.getD m .zero).den]] w fun e w' => e = .returned (.tuple #[.int .i64 (fcmp (ys.getD k .zero) (ys.getD m .zero)).1, .bool (fcmp (ys.getD k .zero) (ys.getD m .zero)).2]) ∧ Ex w w' := fun w => iFracCompare (ys.getD k .zero) (ys.getD m .zero) w
            generalize fcmp (ys.getD k .zero) (ys.getD m .zero) = cr at hltk kc
            obtain ⟨cn, cok⟩ := cr
            generalize (ys.getD k .zero).re = r1 at c1 kc
            generalize (ys.getD k .zero).im = r2 at c2 kc
            generalize (ys.getD k .zero).den = r3 at c3 kc
            generalize (ys.getD m .zero).re = s1 at d1 kc
            generalize (ys.getD m .zero).im = s2 at d2 kc
            generalize (ys.getD m .zero).den = s3 at d3 kc
            simp only at hltk kc
            rw [hltk] at hround
            have HR : Hid (argr lt (k + 1 - 1) = if decide (cn < 0) = true then k else m) := Lib.hid (by rw [Nat.add_sub_cancel]; exact hround)
            have HL := Lib.hid hlt
            clear hc hround hmd hltk hlt hm cs hbs
            go_wp2
            go_region_held3 (fun w' => (w'.cell? ⟨b, off + k * 3, none⟩ = some (.int .i64 r1) ∧ w'.cell? ⟨b, off + k * 3 + 1, none⟩ = some (.int .i64 r2) ∧ w'.cell? ⟨b, off + k * 3 + 2, none⟩ = some (.int .i64 r3)) ∧ w'.cell? ⟨b, off + m * 3, none⟩ = some (.int .i64 s1) ∧ w'.cell? ⟨b, off + m * 3 + 1, none⟩ = some (.int .i64 s2) ∧ w'.cell? ⟨b, off + m * 3 + 2, none⟩ = some (.int .i64 s3)) (go_keep) ((go_at_call 46; (first | (refine (kc wr).mono ?_) | (refine (kc wr.drew).mono ?_)); rintro e w3 ⟨rfl, hx3⟩; have hx4 : Ex wr w3 := (by first | exact hx3 | exact ((Ex.refl _).drew).trans hx3); have e1 := hx4.get c1; have e2 := hx4.get c2; have e3 := hx4.get c3; have e4 := hx4.get d1; have e5 := hx4.get d2; have e6 := hx4.get d3))
            have hE5 := hEx.trans hx4
            go_wp2
            · have hneg : cn < 0 := by assumption
              go_roundw
              case rel => exact ⟨k + 1, by omega, by go_num, by rw [HR.out]; simp [hneg], by repeat' (with_reducible first | exact Ex.refl _ | assumption | refine Ex.alloc ?_ _ | refine Ex.drewN ?_ _ | refine Ex.drew ?_ | refine Ex.setCell ?_ (by simp <;> omega) _)⟩
              case measure => simp [intOf]; omega
            · have hneg : ¬ cn < 0 := by omega
              go_roundw
              case rel => exact ⟨k + 1, by omega, by go_num, by rw [HR.out]; simp [hneg], by repeat' (with_reducible first | exact Ex.refl _ | assumption | refine Ex.alloc ?_ _ | refine Ex.drewN ?_ _ | refine Ex.drew ?_ | refine Ex.setCell ?_ (by simp <;> omega) _)⟩
              case measure => simp [intOf]; omega
          · have hk2 : k = xs.length := by omega
            subst hk2
            rw [hlt]
            have hyn : ¬ xs.length < ys.length := by have := HYL.out; omega
            go_wp2
            refine bodyPost_ret (v := .tuple #[.int .i64 (argr (fun i j => decide ((fcmp (np (xs.getD i .zero)).1 (np (xs.getD j .zero)).1).1 < 0)) (xs.length - 1) : Nat), .bool true]) ?_ rfl ⟨rfl, ?_⟩
            · simp [results, Try.results39, go_sem]
            · exact (hx.trans hEr).trans hEx
end Go.Proofs.Ytgkekdiffgmllaa
