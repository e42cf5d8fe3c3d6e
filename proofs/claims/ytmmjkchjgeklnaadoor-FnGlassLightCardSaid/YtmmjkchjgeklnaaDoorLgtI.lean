/-
  Walks: light of glass, the program's.
-/
import Derived.Test.YtmmjkchjgeklnaaDoorLgt
namespace Go.Proofs.YtmmjkchjgeklnaaDoor
open Go.RowKit

attribute [local go_sem] nat_eq_lt nat_eq_gt
set_option maxRecDepth 8000 in
set_option maxHeartbeats 4000000 in
theorem iGlassLight (r c p q : Int) (A : Option Addr) (xs : List Int) (cap : Nat) (w : World) [hG : Glob w] (hI : Ints w A xs) (hl : xs.length ≤ 1048576) : Calls Tryd.prog 8 #[.agg #[.int .i64 r, .int .i64 c, .slice A xs.length cap], .int .i64 p, .int .i64 q] w (GotFs w (glight (gvalid r c xs) p q xs)) := by
  rcases hv : gvalid r c xs with _ | _
  · rw [glight_no]
    have k0 := fun w => iMatFilter 1 1 w
    rw [mfilter11] at k0
    simp only [m4v, M4.v, flt11, Fr.nul, Fr.one] at k0
    have K0 := Lib.hid k0
    clear k0
    have kg := fun w hI => iGlassValid r c A xs cap w hI hl
    rw [hv] at kg
    go_enter Tryd.func8, Tryd.ntmps8
    go_wp2_with fail
    refine (K0.out _).mono ?_
    rintro e w1 ⟨rfl, hx⟩
    clear K0
    have b3 : Box w1 w.heap.size 29 #[.int .i64 r, .int .i64 c, .slice A xs.length cap] := ((Box.new w _ _).alloc _).ex hx
    have hO := (ownF_nil (w.alloc (.cells #[.int .i64 r, .int .i64 c, .slice A xs.length cap] 29)) w.heap.size (by simp)).ex hx
    simp only [World.size_alloc] at hO
    have hE := (((Ex.refl w).alloc _).alloc _).trans hx
    clear hx
    have c3 := b3.cell
    have z3 := b3.lt
    go_wp2_with fail
    refine (kg _ ((hI.ex hE).alloc _)).mono ?_
    rintro e w2 ⟨rfl, hx⟩
    clear kg
    have b9 : Box w2 w1.heap.size 54 #[.int .i64 0, .int .i64 0, .int .i64 1, .int .i64 0, .int .i64 0, .int .i64 1, .int .i64 0, .int .i64 0, .int .i64 1, .int .i64 1, .int .i64 0, .int .i64 1] := (Box.new w1 _ _).ex hx
    replace b3 := (b3.alloc _).ex hx
    replace hE := (hE.alloc _).trans hx
    replace hO := (hO.ex ((Ex.refl w1).alloc _)).ex hx
    clear hx
    have c9 := b9.cell
    have z9 := b9.lt
    replace c3 := b3.cell
    replace z3 := b3.lt
    go_wp2_with fail
    refine bodyPost_ret (v := .tuple #[.slice (some ⟨w.heap.size + 1, 0, none⟩) 0 0, .bool false]) ?_ rfl ?_
    · simp [results, Tryd.results8, go_sem]
    · exact ⟨_, _, rfl, hO, hE⟩
  · have k0 := fun w => iMatFilter 1 1 w
    rw [mfilter11] at k0
    simp only [m4v, M4.v, flt11, Fr.nul, Fr.one] at k0
    have K0 := Lib.hid k0
    clear k0
    have kg := fun w hI => iGlassValid r c A xs cap w hI hl
    rw [hv] at kg
    go_enter Tryd.func8, Tryd.ntmps8
    go_wp2_with fail
    refine (K0.out _).mono ?_
    rintro e w1 ⟨rfl, hx⟩
    clear K0
    have b3 : Box w1 w.heap.size 29 #[.int .i64 r, .int .i64 c, .slice A xs.length cap] := ((Box.new w _ _).alloc _).ex hx
    have hO := (ownF_nil (w.alloc (.cells #[.int .i64 r, .int .i64 c, .slice A xs.length cap] 29)) w.heap.size (by simp)).ex hx
    simp only [World.size_alloc] at hO
    have hE := (((Ex.refl w).alloc _).alloc _).trans hx
    clear hx
    have c3 := b3.cell
    have z3 := b3.lt
    go_wp2_with fail
    refine (kg _ ((hI.ex hE).alloc _)).mono ?_
    rintro e w2 ⟨rfl, hx⟩
    clear kg
    have b9 : Box w2 w1.heap.size 54 #[.int .i64 0, .int .i64 0, .int .i64 1, .int .i64 0, .int .i64 0, .int .i64 1, .int .i64 0, .int .i64 0, .int .i64 1, .int .i64 1, .int .i64 0, .int .i64 1] := (Box.new w1 _ _).ex hx
    replace b3 := (b3.alloc _).ex hx
    replace hE := (hE.alloc _).trans hx
    replace hO := (hO.ex ((Ex.refl w1).alloc _)).ex hx
    clear hx
    have c9 := b9.cell
    have z9 := b9.lt
    replace c3 := b3.cell
    replace z3 := b3.lt
    have HO0 := Lib.hid hO
    clear hO
    obtain ⟨k1, k2⟩ := gvalid_len hv
    clear hv hl
    go_wp2_with fail
    go_loopw [37, 8, 12] (fun i v f wr => ∃ (k : Nat) (B : Option Addr) (cb : Nat) (ys : List Fr), k ≤ xs.length ∧ i = .int .i64 k ∧ v = .slice B ys.length cb ∧ Hid (ys = (xs.take k).map (fun n => (fcell p q (n % 4)).1)) ∧ Hid ((xs.take k).all (fun n => (fcell p q (n % 4)).2) = true) ∧ Hid (OwnF wr w.heap.size B cb ys) ∧ Ex w wr ∧ Box wr w.heap.size 29 #[.int .i64 r, .int .i64 c, .slice A xs.length cap] ∧ Box wr w1.heap.size 54 #[.int .i64 0, .int .i64 0, .int .i64 1, .int .i64 0, .int .i64 0, .int .i64 1, .int .i64 0, .int .i64 0, .int .i64 1, .int .i64 1, .int .i64 0, .int .i64 1]) (fun i _ _ _ => xs.length - (intOf i).toNat)
    case atStart => exact ⟨0, _, 0, [], by omega, rfl, rfl, Lib.hid (by simp), Lib.hid (by simp), HO0, hE, b3, b9⟩
    case round =>
      clear c9 c3 z9 z3 HO0 b3 b9 hE
      obtain ⟨k, B, cb, ys, hk, rfl, rfl, HY, HA, HO, hE2, b3, b9⟩ := hrel
      have hsz := hE2.size
      have hGr := hG.ex hE2
      have c3 := b3.cell
      have c9 := b9.cell
      have z3 := b3.lt
      have z9 := b9.lt
      have hyl : ys.length ≤ 1048576 := by rw [HY.out, List.length_map, List.length_take]; omega
      by_cases hlt : k < xs.length
      · obtain ⟨b, off, rfl, hc⟩ := (hI.ex hE2).at (by omega)
        have c1 := hc k hlt
        clear hc
        have hst := fun h => glight_stop (p := p) (q := q) k hlt h
        have hyn : ys ++ [(fcell p q (xs.getD k 0 % 4)).1] = (xs.take (k + 1)).map (fun n => (fcell p q (n % 4)).1) := by rw [map_take_fc hlt, HY.out]
        have han := fun h => all_take_fc (p := p) (q := q) hlt HA.out h
        generalize xs.getD k 0 = n at *
        have hm : 0 ≤ n % 4 ∧ n % 4 ≤ 3 := by omega
        have hfl := @fcell_flags p q (n % 4)
        have kp := fun w (h : Glob w) => iMatPlate p q (n % 4) w
        have kv := fun w => iMatApply (mplate p q (n % 4)).1 Fr.one Fr.nul w
        have ku := fun w => iMatApply flt11 (mapply (mplate p q (n % 4)).1 Fr.one Fr.nul).1.1 (mapply (mplate p q (n % 4)).1 Fr.one Fr.nul).1.2 w
        have kf := fun w => iJonesPower (mapply flt11 (mapply (mplate p q (n % 4)).1 Fr.one Fr.nul).1.1 (mapply (mplate p q (n % 4)).1 Fr.one Fr.nul).1.2).1.1 (mapply flt11 (mapply (mplate p q (n % 4)).1 Fr.one Fr.nul).1.1 (mapply (mplate p q (n % 4)).1 Fr.one Fr.nul).1.2).1.2 w
        rw [show jpower (mapply flt11 (mapply (mplate p q (n % 4)).1 Fr.one Fr.nul).1.1 (mapply (mplate p q (n % 4)).1 Fr.one Fr.nul).1.2).1.1 (mapply flt11 (mapply (mplate p q (n % 4)).1 Fr.one Fr.nul).1.1 (mapply (mplate p q (n % 4)).1 Fr.one Fr.nul).1.2).1.2 = fcell p q (n % 4) from rfl] at kf
        generalize fcell p q (n % 4) = ff at *
        generalize mapply flt11 (mapply (mplate p q (n % 4)).1 Fr.one Fr.nul).1.1 (mapply (mplate p q (n % 4)).1 Fr.one Fr.nul).1.2 = uu at *
        generalize mapply (mplate p q (n % 4)).1 Fr.one Fr.nul = vv at *
        generalize mplate p q (n % 4) = pp at *
        obtain ⟨⟨f1, f2, f3⟩, fk⟩ := ff
        obtain ⟨⟨⟨u1, u2, u3⟩, ⟨u4, u5, u6⟩⟩, uk⟩ := uu
        obtain ⟨⟨⟨v1, v2, v3⟩, ⟨v4, v5, v6⟩⟩, vk⟩ := vv
        obtain ⟨⟨⟨pa1, pa2, pa3⟩, ⟨pb1, pb2, pb3⟩, ⟨pc1, pc2, pc3⟩, ⟨pd1, pd2, pd3⟩⟩, pk⟩ := pp
        simp only [m4v, M4.v, v2v, jvv, frv, Fr.v, flt11, Fr.nul, Fr.one] at kp kv ku kf
        simp only at hst hyn han hfl
        have KP := Lib.hid kp
        have KV := Lib.hid kv
        have KU := Lib.hid ku
        have KF := Lib.hid kf
        have HYn := Lib.hid hyn
        clear kp kv ku kf hyn
        rcases fk with _ | _
        · have HST := Lib.hid (hst rfl)
          clear hst han hfl
          rcases pk with _ | _
          all_goals rcases vk with _ | _
          all_goals rcases uk with _ | _
          all_goals
            go_wp2_with fail
            refine (rest_any n _).mono ?_
            rintro e w3 ⟨rfl, rfl⟩
            go_wp2_with fail
            refine (KP.out _ hGr).mono ?_
            rintro e w4 ⟨rfl, hx⟩; replace hE2 := hE2.trans hx; replace b3 := b3.ex hx; replace b9 := b9.ex hx; replace HO := Lib.hid (OwnF.ex HO.out hx); replace hGr := hGr.ex hx; clear hx; have hg := hGr.reads; have c3 := b3.cell; have c9 := b9.cell; have z3 := b3.lt; have z9 := b9.lt
            replace hE2 := hE2.alloc (.cells #[.int .i64 pa1, .int .i64 pa2, .int .i64 pa3, .int .i64 pb1, .int .i64 pb2, .int .i64 pb3, .int .i64 pc1, .int .i64 pc2, .int .i64 pc3, .int .i64 pd1, .int .i64 pd2, .int .i64 pd3] 54); replace b3 := b3.alloc (.cells #[.int .i64 pa1, .int .i64 pa2, .int .i64 pa3, .int .i64 pb1, .int .i64 pb2, .int .i64 pb3, .int .i64 pc1, .int .i64 pc2, .int .i64 pc3, .int .i64 pd1, .int .i64 pd2, .int .i64 pd3] 54); replace b9 := b9.alloc (.cells #[.int .i64 pa1, .int .i64 pa2, .int .i64 pa3, .int .i64 pb1, .int .i64 pb2, .int .i64 pb3, .int .i64 pc1, .int .i64 pc2, .int .i64 pc3, .int .i64 pd1, .int .i64 pd2, .int .i64 pd3] 54); replace HO := Lib.hid (OwnF.alloc HO.out (.cells #[.int .i64 pa1, .int .i64 pa2, .int .i64 pa3, .int .i64 pb1, .int .i64 pb2, .int .i64 pb3, .int .i64 pc1, .int .i64 pc2, .int .i64 pc3, .int .i64 pd1, .int .i64 pd2, .int .i64 pd3] 54)); replace hGr := hGr.ex ((Ex.refl _).alloc (.cells #[.int .i64 pa1, .int .i64 pa2, .int .i64 pa3, .int .i64 pb1, .int .i64 pb2, .int .i64 pb3, .int .i64 pc1, .int .i64 pc2, .int .i64 pc3, .int .i64 pd1, .int .i64 pd2, .int .i64 pd3] 54))
            have hg2 := hGr.reads
            go_wp2_with fail
            refine (KV.out _).mono ?_
            rintro e w5 ⟨rfl, hx⟩; replace hE2 := hE2.trans hx; replace b3 := b3.ex hx; replace b9 := b9.ex hx; replace HO := Lib.hid (OwnF.ex HO.out hx); replace hGr := hGr.ex hx; clear hx; have hg := hGr.reads; have c3 := b3.cell; have c9 := b9.cell; have z3 := b3.lt; have z9 := b9.lt
            replace hE2 := hE2.alloc (.cells #[.int .i64 v1, .int .i64 v2, .int .i64 v3, .int .i64 v4, .int .i64 v5, .int .i64 v6] 59); replace b3 := b3.alloc (.cells #[.int .i64 v1, .int .i64 v2, .int .i64 v3, .int .i64 v4, .int .i64 v5, .int .i64 v6] 59); replace b9 := b9.alloc (.cells #[.int .i64 v1, .int .i64 v2, .int .i64 v3, .int .i64 v4, .int .i64 v5, .int .i64 v6] 59); replace HO := Lib.hid (OwnF.alloc HO.out (.cells #[.int .i64 v1, .int .i64 v2, .int .i64 v3, .int .i64 v4, .int .i64 v5, .int .i64 v6] 59)); replace hGr := hGr.ex ((Ex.refl _).alloc (.cells #[.int .i64 v1, .int .i64 v2, .int .i64 v3, .int .i64 v4, .int .i64 v5, .int .i64 v6] 59))
            have c9b := b9.cell
            go_wp2_with fail
            refine (KU.out _).mono ?_
            rintro e w6 ⟨rfl, hx⟩; replace hE2 := hE2.trans hx; replace b3 := b3.ex hx; replace b9 := b9.ex hx; replace HO := Lib.hid (OwnF.ex HO.out hx); replace hGr := hGr.ex hx; clear hx; have hg := hGr.reads; have c3 := b3.cell; have c9 := b9.cell; have z3 := b3.lt; have z9 := b9.lt
            replace hE2 := hE2.alloc (.cells #[.int .i64 u1, .int .i64 u2, .int .i64 u3, .int .i64 u4, .int .i64 u5, .int .i64 u6] 59); replace b3 := b3.alloc (.cells #[.int .i64 u1, .int .i64 u2, .int .i64 u3, .int .i64 u4, .int .i64 u5, .int .i64 u6] 59); replace b9 := b9.alloc (.cells #[.int .i64 u1, .int .i64 u2, .int .i64 u3, .int .i64 u4, .int .i64 u5, .int .i64 u6] 59); replace HO := Lib.hid (OwnF.alloc HO.out (.cells #[.int .i64 u1, .int .i64 u2, .int .i64 u3, .int .i64 u4, .int .i64 u5, .int .i64 u6] 59)); replace hGr := hGr.ex ((Ex.refl _).alloc (.cells #[.int .i64 u1, .int .i64 u2, .int .i64 u3, .int .i64 u4, .int .i64 u5, .int .i64 u6] 59))
            go_wp2_with fail
            refine (KF.out _).mono ?_
            rintro e w7 ⟨rfl, hx⟩; replace hE2 := hE2.trans hx; replace b3 := b3.ex hx; replace b9 := b9.ex hx; replace HO := Lib.hid (OwnF.ex HO.out hx); replace hGr := hGr.ex hx; clear hx; have hg := hGr.reads; have c3 := b3.cell; have c9 := b9.cell; have z3 := b3.lt; have z9 := b9.lt
            go_wp2_with fail
            rw [HST.out]
            refine bodyPost_ret (v := .tuple #[.slice (some ⟨w7.heap.size + 1, 0, none⟩) 0 0, .bool false]) ?_ rfl ?_
            · simp [results, Tryd.results8, go_sem]
            · have hq := ownF_nil (w7.alloc (.cells #[.int .i64 f1, .int .i64 f2, .int .i64 f3] 42)) w.heap.size (by have := hE2.size; simp; omega)
              simp only [World.size_alloc] at hq
              exact ⟨_, _, rfl, hq, (hE2.alloc _).alloc _⟩
        · obtain ⟨rfl, rfl, rfl⟩ := hfl rfl
          have HAn := Lib.hid (han rfl)
          clear hst han hfl
          go_wp2_with fail
          refine (rest_any n _).mono ?_
          rintro e w3 ⟨rfl, rfl⟩
          go_wp2_with fail
          refine (KP.out _ hGr).mono ?_
          rintro e w4 ⟨rfl, hx⟩; replace hE2 := hE2.trans hx; replace b3 := b3.ex hx; replace b9 := b9.ex hx; replace HO := Lib.hid (OwnF.ex HO.out hx); replace hGr := hGr.ex hx; clear hx; have hg := hGr.reads; have c3 := b3.cell; have c9 := b9.cell; have z3 := b3.lt; have z9 := b9.lt
          replace hE2 := hE2.alloc (.cells #[.int .i64 pa1, .int .i64 pa2, .int .i64 pa3, .int .i64 pb1, .int .i64 pb2, .int .i64 pb3, .int .i64 pc1, .int .i64 pc2, .int .i64 pc3, .int .i64 pd1, .int .i64 pd2, .int .i64 pd3] 54); replace b3 := b3.alloc (.cells #[.int .i64 pa1, .int .i64 pa2, .int .i64 pa3, .int .i64 pb1, .int .i64 pb2, .int .i64 pb3, .int .i64 pc1, .int .i64 pc2, .int .i64 pc3, .int .i64 pd1, .int .i64 pd2, .int .i64 pd3] 54); replace b9 := b9.alloc (.cells #[.int .i64 pa1, .int .i64 pa2, .int .i64 pa3, .int .i64 pb1, .int .i64 pb2, .int .i64 pb3, .int .i64 pc1, .int .i64 pc2, .int .i64 pc3, .int .i64 pd1, .int .i64 pd2, .int .i64 pd3] 54); replace HO := Lib.hid (OwnF.alloc HO.out (.cells #[.int .i64 pa1, .int .i64 pa2, .int .i64 pa3, .int .i64 pb1, .int .i64 pb2, .int .i64 pb3, .int .i64 pc1, .int .i64 pc2, .int .i64 pc3, .int .i64 pd1, .int .i64 pd2, .int .i64 pd3] 54)); replace hGr := hGr.ex ((Ex.refl _).alloc (.cells #[.int .i64 pa1, .int .i64 pa2, .int .i64 pa3, .int .i64 pb1, .int .i64 pb2, .int .i64 pb3, .int .i64 pc1, .int .i64 pc2, .int .i64 pc3, .int .i64 pd1, .int .i64 pd2, .int .i64 pd3] 54))
          have hg2 := hGr.reads
          go_wp2_with fail
          refine (KV.out _).mono ?_
          rintro e w5 ⟨rfl, hx⟩; replace hE2 := hE2.trans hx; replace b3 := b3.ex hx; replace b9 := b9.ex hx; replace HO := Lib.hid (OwnF.ex HO.out hx); replace hGr := hGr.ex hx; clear hx; have hg := hGr.reads; have c3 := b3.cell; have c9 := b9.cell; have z3 := b3.lt; have z9 := b9.lt
          replace hE2 := hE2.alloc (.cells #[.int .i64 v1, .int .i64 v2, .int .i64 v3, .int .i64 v4, .int .i64 v5, .int .i64 v6] 59); replace b3 := b3.alloc (.cells #[.int .i64 v1, .int .i64 v2, .int .i64 v3, .int .i64 v4, .int .i64 v5, .int .i64 v6] 59); replace b9 := b9.alloc (.cells #[.int .i64 v1, .int .i64 v2, .int .i64 v3, .int .i64 v4, .int .i64 v5, .int .i64 v6] 59); replace HO := Lib.hid (OwnF.alloc HO.out (.cells #[.int .i64 v1, .int .i64 v2, .int .i64 v3, .int .i64 v4, .int .i64 v5, .int .i64 v6] 59)); replace hGr := hGr.ex ((Ex.refl _).alloc (.cells #[.int .i64 v1, .int .i64 v2, .int .i64 v3, .int .i64 v4, .int .i64 v5, .int .i64 v6] 59))
          have c9b := b9.cell
          go_wp2_with fail
          refine (KU.out _).mono ?_
          rintro e w6 ⟨rfl, hx⟩; replace hE2 := hE2.trans hx; replace b3 := b3.ex hx; replace b9 := b9.ex hx; replace HO := Lib.hid (OwnF.ex HO.out hx); replace hGr := hGr.ex hx; clear hx; have hg := hGr.reads; have c3 := b3.cell; have c9 := b9.cell; have z3 := b3.lt; have z9 := b9.lt
          replace hE2 := hE2.alloc (.cells #[.int .i64 u1, .int .i64 u2, .int .i64 u3, .int .i64 u4, .int .i64 u5, .int .i64 u6] 59); replace b3 := b3.alloc (.cells #[.int .i64 u1, .int .i64 u2, .int .i64 u3, .int .i64 u4, .int .i64 u5, .int .i64 u6] 59); replace b9 := b9.alloc (.cells #[.int .i64 u1, .int .i64 u2, .int .i64 u3, .int .i64 u4, .int .i64 u5, .int .i64 u6] 59); replace HO := Lib.hid (OwnF.alloc HO.out (.cells #[.int .i64 u1, .int .i64 u2, .int .i64 u3, .int .i64 u4, .int .i64 u5, .int .i64 u6] 59)); replace hGr := hGr.ex ((Ex.refl _).alloc (.cells #[.int .i64 u1, .int .i64 u2, .int .i64 u3, .int .i64 u4, .int .i64 u5, .int .i64 u6] 59))
          go_wp2_with fail
          refine (KF.out _).mono ?_
          rintro e w7 ⟨rfl, hx⟩; replace hE2 := hE2.trans hx; replace b3 := b3.ex hx; replace b9 := b9.ex hx; replace HO := Lib.hid (OwnF.ex HO.out hx); replace hGr := hGr.ex hx; clear hx; have hg := hGr.reads; have c3 := b3.cell; have c9 := b9.cell; have z3 := b3.lt; have z9 := b9.lt
          replace hE2 := hE2.alloc (.cells #[.int .i64 f1, .int .i64 f2, .int .i64 f3] 42); replace b3 := b3.alloc (.cells #[.int .i64 f1, .int .i64 f2, .int .i64 f3] 42); replace b9 := b9.alloc (.cells #[.int .i64 f1, .int .i64 f2, .int .i64 f3] 42); replace HO := Lib.hid (OwnF.alloc HO.out (.cells #[.int .i64 f1, .int .i64 f2, .int .i64 f3] 42)); replace hGr := hGr.ex ((Ex.refl _).alloc (.cells #[.int .i64 f1, .int .i64 f2, .int .i64 f3] 42))
          have hs2 := hE2.size
          go_wp2_with (at_builtin; refine wpList_appB slF3 rfl _ _ (w7.alloc (.cells #[.int .i64 f1, .int .i64 f2, .int .i64 f3] 42)) _ rfl w.heap.size B cb ys.length (frCells ys) [.int .i64 f1, .int .i64 f2, .int .i64 f3] rfl (by simp [Value.oneCell']) rfl HO.out (w7.heap.size + 1) rfl ((Ex.refl _).alloc _) (boxNew1 _ _ _ _) hyl hs2 ?_)
          intro A' cap' w' hown' hk'
          have hE3 := hk'.ex w hE2 (Nat.le_refl _)
          have HO3 := Lib.hid (OwnF.snoc3 (x := ⟨f1, f2, f3⟩) hown')
          have b3n := hk'.box _ _ _ b3 (by decide)
          have b9n := hk'.box _ _ _ b9 (by decide)
          clear hown' hk'
          go_wp2_with fail
          go_roundw
          case rel => exact ⟨k + 1, A', cap', ys ++ [⟨f1, f2, f3⟩], by omega, by go_num, by simp, HYn, HAn, HO3, hE3, b3n, b9n⟩
          case measure => simp [intOf]; omega
      · have e1 : glight true p q xs = (ys, true) := by
          have hkk : k = xs.length := by omega
          subst hkk
          rw [glight_all HA.out, HY.out, List.take_length]
        go_wp2_with fail
        rw [e1]
        refine bodyPost_ret (v := .tuple #[.slice B ys.length cb, .bool true]) ?_ rfl ?_
        · simp [results, Tryd.results8, go_sem]
        · exact ⟨_, _, rfl, HO.out, hE2⟩
end Go.Proofs.YtmmjkchjgeklnaaDoor
