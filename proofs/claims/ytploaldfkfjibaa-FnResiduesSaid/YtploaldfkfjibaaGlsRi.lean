/-
  Walks: GlassResidues, the program's.
-/
import Derived.Test.YtploaldfkfjibaaGlsRs
namespace Go.Proofs.Ytploaldfkfjibaa
open Go.RowKit

set_option maxRecDepth 4000 in
set_option maxHeartbeats 1600000 in
theorem iGlassResidues (r c : Int) (A : Option Addr) (q : List Int) (cap : Nat) (w : World) (hI : Ints w A q) (hl : q.length ≤ 1048576) :
    Calls Try.prog 46 #[.agg #[.int .i64 r, .int .i64 c, .slice A q.length cap]] w (GotIB w (gwrapped r c q) (gresidues r c q)) := by
  have hwr := fun A cap w hI => wrapped_any r c A q cap w hI hl
  rcases hv : gwrapped r c q with _ | _
  · simp only [hv] at hwr
    go_enter Try.func46, Try.ntmps46
    go_wp2_with fail
    refine (hwr A cap _ ((hI.alloc _).alloc _)).mono ?_
    rintro e w1 ⟨rfl, hx⟩
    have ho := (ownI_nil (w.alloc (.cells #[.int .i64 r, .int .i64 c, .slice A q.length cap] 27)) w.heap.size (by simp)).ex hx
    have hE := (((Ex.refl w).alloc _).alloc _).trans hx
    simp only [World.size_alloc] at ho
    go_wp2_with fail
    have hg : gresidues r c q = [] := by simp [gresidues, hv]
    rw [hg]
    refine bodyPost_ret (v := .tuple #[.slice (some ⟨w.heap.size + 1, 0, none⟩) 0 0, .bool false]) (by simp [results, Try.results46, go_sem, *]) rfl ?_
    exact ⟨_, 0, rfl, ho, hE⟩
  · simp only [hv] at hwr
    have hq4 := gwrapped_getD0 hv
    obtain ⟨rn, cn, rfl, rfl, hr1, hr2, hc1, hc2, hlen, hl64⟩ := gvalid_nat (gwrapped_valid hv)
    have HL := Lib.hid hlen
    clear hlen
    have hg : gresidues rn cn q = gresRows cn q (rn - 1) := by simp [gresidues, hv]
    rw [hg]
    clear hg hv
    go_enter Try.func46, Try.ntmps46
    go_wp2_with fail
    refine (hwr A cap _ ((hI.alloc _).alloc _)).mono ?_
    rintro e w1 ⟨rfl, hx⟩
    have hown := (ownI_nil (w.alloc (.cells #[.int .i64 rn, .int .i64 cn, .slice A q.length cap] 27)) w.heap.size (by simp)).ex hx
    have hE := (((Ex.refl w).alloc _).alloc _).trans hx
    simp only [World.size_alloc] at hown
    have b1 := ((Box.new w #[.int .i64 rn, .int .i64 cn, .slice A q.length cap] 27).alloc _).ex hx
    have c1 := b1.cell
    clear hx hwr
    go_wp2_with fail
    clear c1
    go_loopw [4, 5] (fun v i wr => ∃ (k : Nat) (B : Option Addr) (cb : Nat) (ys : List Int), k + 1 ≤ rn ∧ i = .int .i64 k ∧ v = .slice B ys.length cb ∧ Hid (ys = gresRows cn q k) ∧ OwnI wr w.heap.size B cb ys ∧ Ex w wr ∧
        Box wr w.heap.size 27 #[.int .i64 rn, .int .i64 cn, .slice A q.length cap]) (fun _ i _ => rn - (intOf i).toNat)
    case atStart => exact ⟨0, _, 0, [], by omega, rfl, rfl, show _ = _ by simp [gresRows], hown, hE, b1⟩
    case round =>
      clear hown hE b1
      obtain ⟨k, B, cb, ys, hk, rfl, rfl, HY, hown, hEr, b1r⟩ := hrel
      have c1 := b1r.cell
      have HO := Lib.hid hown
      clear hown
      by_cases hlt : k + 1 < rn
      · go_wp2_with fail
        obtain ⟨wo, rfl⟩ : ∃ wo : World, wo = wr := ⟨_, rfl⟩
        clear c1
        rw [show decide ((k : Int) + 1 < (rn : Int)) = true from decide_eq_true (by omega)]
        go_loopw [4, 6] (fun v i wr => ∃ (j : Nat) (B : Option Addr) (cb : Nat) (ys : List Int), j + 1 ≤ cn ∧ i = .int .i64 j ∧ v = .slice B ys.length cb ∧ Hid (ys = gresRows cn q k ++ gresRow cn q k j) ∧ OwnI wr w.heap.size B cb ys ∧ Ex w wr ∧
            Box wr w.heap.size 27 #[.int .i64 rn, .int .i64 cn, .slice A q.length cap]) (fun _ i _ => cn - (intOf i).toNat)
        case atStart => exact ⟨0, B, cb, ys, by omega, rfl, rfl, show _ = _ by rw [HY.out]; simp [gresRow], HO.out, hEr, b1r⟩
        case round =>
          clear hEr b1r HO HY
          obtain ⟨j, B, cb, ys, hj, rfl, rfl, HY, hown, hEr, b1r⟩ := hrel
          have c1 := b1r.cell
          have HO := Lib.hid hown
          clear hown
          by_cases hjt : j + 1 < cn
          · have hix1 : k * cn + j < q.length := by rw [HL.out]; exact idx_lt (by omega) (by omega)
            have hix2 : k * cn + j + 1 < q.length := by rw [HL.out]; exact idx_lt (show k < rn by omega) hjt
            have hix3 : k * cn + j + 1 + cn < q.length := by
              have := idx_lt hlt hjt
              rw [HL.out]
              rw [Nat.succ_mul] at this
              omega
            have hix4 : k * cn + j + cn < q.length := by omega
            have hm1 : (k : Int) * cn = ((k * cn : Nat) : Int) := (Int.natCast_mul _ _).symm
            obtain ⟨P, hP⟩ : ∃ P : Nat, P = k * cn := ⟨_, rfl⟩
            rw [← hP] at hm1 hix1 hix2 hix3 hix4
            have HP := Lib.hid hP
            clear hP
            obtain ⟨b, off, rfl, hc⟩ := hI.at (by omega)
            have kw1 := hc _ hix1
            have kw2 := hc _ hix2
            have kw3 := hc _ hix3
            have kw4 := hc _ hix4
            obtain ⟨p1, q1⟩ := hq4 _ hix1
            obtain ⟨p2, q2⟩ := hq4 _ hix2
            obtain ⟨p3, q3⟩ := hq4 _ hix3
            obtain ⟨p4, q4⟩ := hq4 _ hix4
            clear hc
            obtain ⟨x1, e1⟩ : ∃ x, x = q.getD (P + j) 0 := ⟨_, rfl⟩
            obtain ⟨x2, e2⟩ : ∃ x, x = q.getD (P + j + 1) 0 := ⟨_, rfl⟩
            obtain ⟨x3, e3⟩ : ∃ x, x = q.getD (P + j + 1 + cn) 0 := ⟨_, rfl⟩
            obtain ⟨x4, e4⟩ : ∃ x, x = q.getD (P + j + cn) 0 := ⟨_, rfl⟩
            rw [← e1] at kw1 p1 q1
            rw [← e2] at kw2 p2 q2
            rw [← e3] at kw3 p3 q3
            rw [← e4] at kw4 p4 q4
            have HR : Hid (gresAt cn q k j = gres x1 x2 x3 x4) := by
              show gresAt cn q k j = _
              unfold gresAt
              rw [← HP.out, ← e1, ← e2, ← e3, ← e4]
            have hyl : ys.length ≤ 1048576 := by
              rw [HY.out, List.length_append, gresRows_len, gresRow_len]
              have : k * (cn - 1) ≤ 8 * 8 := Nat.mul_le_mul (by omega) (by omega)
              omega
            clear e1 e2 e3 e4
            rw [show P + j + 1 + cn = P + j + cn + 1 by omega] at kw3 hix3
            have k1 := hEr.get kw1
            have k2 := hEr.get kw2
            have k3 := hEr.get kw3
            have k4 := hEr.get kw4
            have hgr : gresAt cn q k j = gresOf (gshort x1 x2) (gshort x2 x3) (gshort x3 x4) (gshort x4 x1) := HR.out
            obtain ⟨ps, xs, hxs, hlen, h0, hst, h4, hbd, hxb, hbad, hgood⟩ := psums _ _ _ _ (gshort_bd x1 x2) (gshort_bd x2 x3) (gshort_bd x3 x4) (gshort_bd x4 x1)
            rw [← hgr] at hbad hgood
            have hst3 : ∀ t, t < 4 → ∃ m m' : Nat, ∃ y y' : Int, [(P : Int) + j, (P : Int) + j + 1, (P : Int) + j + 1 + cn, (P : Int) + j + cn, (P : Int) + j].getD t 0 = (m : Int) ∧ [(P : Int) + j, (P : Int) + j + 1, (P : Int) + j + 1 + cn, (P : Int) + j + cn, (P : Int) + j].getD (t + 1) 0 = (m' : Int) ∧
                m < q.length ∧ m' < q.length ∧ w.cell? ⟨b, off + m, none⟩ = some (.int .i64 y) ∧ w.cell? ⟨b, off + m', none⟩ = some (.int .i64 y') ∧ 0 ≤ y ∧ y ≤ 3 ∧ 0 ≤ y' ∧ y' ≤ 3 ∧ gshort y y' = xs.getD t 0 := by
              intro t ht
              subst hxs
              match t, ht with
              | 0, _ => exact ⟨P + j, P + j + 1, x1, x2, by simp, by simp, hix1, hix2, kw1, kw2, p1, q1, p2, q2, by simp⟩
              | 1, _ => exact ⟨P + j + 1, P + j + cn + 1, x2, x3, by simp, by simp; omega, hix2, hix3, kw2, kw3, p2, q2, p3, q3, by simp⟩
              | 2, _ => exact ⟨P + j + cn + 1, P + j + cn, x3, x4, by simp; omega, by simp, hix3, hix4, kw3, kw4, p3, q3, p4, q4, by simp⟩
              | 3, _ => exact ⟨P + j + cn, P + j, x4, x1, by simp, by simp, hix4, hix1, kw4, kw1, p4, q4, p1, q1, by simp⟩
            have HS3 := Lib.hid hst3
            have HB := Lib.hid hbad
            have HG := Lib.hid hgood
            have HST := Lib.hid hst
            have H0 := Lib.hid h0
            have H4 := Lib.hid h4
            have HBD := Lib.hid hbd
            have HXB := Lib.hid hxb
            clear hbd hxb hst3 hbad hgood hst h0 h4 hxs hlen hgr HR k1 k2 k3 k4 kw1 kw2 kw3 kw4
            have w1 := IntWalk.i64_in ((P : Int) + j + 1) (by omega)
            have w2 := IntWalk.i64_in ((P : Int) + j + cn) (by omega)
            have w3 := IntWalk.i64_in ((P : Int) + j + 1 + cn) (by omega)
            go_wp2_with fail
            obtain ⟨W1, hW⟩ : ∃ W, W = wr.alloc (.cells #[.int .i64 ((P : Int) + j), .int .i64 ((P : Int) + j + 1), .int .i64 ((P : Int) + j + 1 + cn), .int .i64 ((P : Int) + j + cn), .int .i64 ((P : Int) + j)] 3) := ⟨_, rfl⟩
            have hRg : Ints W1 (some ⟨wr.heap.size, 0, none⟩) [(P : Int) + j, (P : Int) + j + 1, (P : Int) + j + 1 + cn, (P : Int) + j + cn, (P : Int) + j] := by
              rw [hW]; exact ints_of_box (Box.new _ _ _)
            rw [← hW]
            have hxW : Ex wr W1 := by rw [hW]; exact (Ex.refl _).alloc _
            obtain ⟨gr, hgr⟩ : ∃ g, g = wr.heap.size := ⟨_, rfl⟩
            rw [← hgr] at hRg ⊢
            clear hW hgr w1 w2 w3 c1
            have hrl : [(P : Int) + j, (P : Int) + j + 1, (P : Int) + j + 1 + cn, (P : Int) + j + cn, (P : Int) + j].length = 5 := rfl
            obtain ⟨wz, rfl⟩ : ∃ z : World, z = wr := ⟨_, rfl⟩
            generalize [(P : Int) + j, (P : Int) + j + 1, (P : Int) + j + 1 + cn, (P : Int) + j + cn, (P : Int) + j] = rs at HS3 hRg hrl
            have HRL := Lib.hid hrl
            clear hrl
            rw [show decide ((j : Int) + 1 < (cn : Int)) = true from decide_eq_true (by omega)]
            go_loopw [9, 10, 52] (fun s t i wx => ∃ (k : Nat) (told : Bool), k ≤ 4 ∧ s = .int .i64 (ps k) ∧ t = .bool told ∧ i = .int .i64 k ∧ Hid (if told then ∀ j, j < k → xs.getD j 0 ≠ 2 else ∃ j, j < 4 ∧ xs.getD j 0 = 2) ∧ Ex W1 wx) (fun _ _ i _ => 4 - (intOf i).toNat)
            case atStart => exact ⟨0, true, by omega, by rw [H0.out], rfl, rfl, (fun j hj => by omega : ∀ j, j < 0 → xs.getD j 0 ≠ 2), Ex.refl _⟩
            case round =>
              obtain ⟨t, told, ht, rfl, rfl, rfl, HT, hxr⟩ := hrel
              by_cases htl : t < 4
              · obtain ⟨m, m', y, y', r1, r2, l1, l2, kc1, kc2, y1, y2, y3, y4, hst⟩ := HS3.out t htl
                have hsp := HST.out t htl
                obtain ⟨s0, s1⟩ := HXB.out t htl
                obtain ⟨u0, u1⟩ := HBD.out t ht
                have hb2 := HB.out t htl
                obtain ⟨x, hx⟩ : ∃ x, x = xs.getD t 0 := ⟨_, rfl⟩
                rw [← hx] at hst hsp s0 s1 hb2
                have HSP := Lib.hid hsp
                have HX := Lib.hid hx
                obtain ⟨gg, oo, hA, hcc⟩ := (hRg.ex hxr).at (by rw [HRL.out]; omega)
                have v1 := hcc t (by rw [HRL.out]; omega)
                have v2 := hcc (t + 1) (by rw [HRL.out]; omega)
                obtain ⟨rfl, rfl⟩ : gr = gg ∧ 0 = oo := by simpa using hA
                rw [r1, Nat.zero_add] at v1
                rw [r2, Nat.zero_add] at v2
                have hxz := hxW.trans hxr
                have f1 := (hEr.trans hxz).get kc1
                have f2 := (hEr.trans hxz).get kc2
                have c1 := (b1r.ex hxz).cell
                clear hcc hA r1 r2 kc1 kc2 hsp hx hb2
                have hcall := fun w' => short_any y y' w' (by omega) (by omega) (by omega) (by omega)
                simp only [hst] at hcall
                have hcall2 : ∀ w', Calls Try.prog 68 #[.int .i64 y, .int .i64 y'] w' fun e w'' => e = .returned (.int .i64 x) ∧ w'' = w' := fun w' => (hcall w').mono (by rintro e w'' ⟨rfl, rfl⟩; exact ⟨rfl, rfl⟩)
                have HC := Lib.hid hcall2
                clear hcall hcall2 hst
                have hti : ((t : Int) + 1).toNat = t + 1 := by omega
                have ht5 : t < 5 := by omega
                have ht6 : (t : Int) < 5 := by omega
                have ht7 : (t : Int) + 1 < 5 := by omega
                have ht8 : 0 ≤ (t : Int) + 1 := by omega
                have ht9 : t + 1 < 5 := by omega
                have hm0 : (m : Int) < q.length := by omega
                have hm1' : (m' : Int) < q.length := by omega
                have hps := HSP.out
                have hw1 := IntWalk.i64_in (ps t + x) (by omega)
                have hwt := IntWalk.i64_in ((t : Int) + 1) (by omega)
                clear hps
                rcases hx2 : (x != 2) with _ | _
                all_goals
                  rcases told with _ | _
                  all_goals
                    go_wp2_with fail
                    go_quiet ((go_at_call 68; exact Calls.quiet_of_same (HC.out _)))
                    go_wp2
                    go_roundw
                    case measure => simp [intOf]; omega
                · refine ⟨t + 1, false, by omega, by rw [HSP.out], rfl, by go_num, HT, hxr.drewN _⟩
                · refine ⟨t + 1, false, by omega, by rw [HSP.out], rfl, by go_num, ⟨t, htl, by rw [← HX.out]; simpa using hx2⟩, hxr.drewN _⟩
                · refine ⟨t + 1, false, by omega, by rw [HSP.out], rfl, by go_num, HT, hxr.drewN _⟩
                · refine ⟨t + 1, true, by omega, by rw [HSP.out], rfl, by go_num, fun i hi => ?_, hxr.drewN _⟩
                  by_cases e : i = t
                  · subst e; rw [← HX.out]; simpa using hx2
                  · exact HT.out i (by omega)
              · obtain rfl : t = 4 := by omega
                have hsz := (hEr.trans (hxW.trans hxr)).size
                have hd := tdiv4_bd (HBD.out 4 (by omega)).1 (HBD.out 4 (by omega)).2
                have hw4 := IntWalk.wrap64_in ((ps 4).tdiv 4) (by omega)
                clear hd
                rcases told with _ | _
                · obtain ⟨t, htl, hx2⟩ := HT.out
                  have HV := Lib.hid (HB.out t htl hx2)
                  clear hx2
                  go_wp2_with (at_builtin; refine wpList_appI rfl _ _ wr rfl w.heap.size B cb ys 9 rfl (HO.out.ex (hxW.trans hxr)) rfl hyl hsz ?_)
                  intro B' cb' w2 hown2 hk2
                  have hE2 := hk2.ex w (hEr.trans (hxW.trans hxr)) (Nat.le_refl _)
                  have b2 := hk2.box _ _ _ (b1r.ex (hxW.trans hxr)) (by decide)
                  clear hk2
                  go_wp2
                  go_roundw
                  case rel =>
                    refine ⟨j + 1, B', cb', ys ++ [9], by omega, by go_num, by simp, ?_, hown2, hE2, b2⟩
                    show _ = _
                    rw [gresRow_succ, ← List.append_assoc, ← HY.out, HV.out]
                  case measure => simp [intOf]; omega
                · have HV := Lib.hid (HG.out HT.out)
                  rw [← H4.out] at HV
                  go_wp2_with (at_builtin; refine wpList_appI rfl _ _ wr rfl w.heap.size B cb ys ((ps 4).tdiv 4) rfl (HO.out.ex (hxW.trans hxr)) rfl hyl hsz ?_)
                  intro B' cb' w2 hown2 hk2
                  have hE2 := hk2.ex w (hEr.trans (hxW.trans hxr)) (Nat.le_refl _)
                  have b2 := hk2.box _ _ _ (b1r.ex (hxW.trans hxr)) (by decide)
                  clear hk2
                  go_wp2
                  go_roundw
                  case rel =>
                    refine ⟨j + 1, B', cb', ys ++ [(ps 4).tdiv 4], by omega, by go_num, by simp, ?_, hown2, hE2, b2⟩
                    show _ = _
                    rw [gresRow_succ, ← List.append_assoc, ← HY.out, HV.out]
                  case measure => simp [intOf]; omega
          · go_wp2
            go_roundw
            case rel =>
              obtain rfl : cn = j + 1 := by omega
              refine ⟨k + 1, B, cb, ys, by omega, by go_num, rfl, ?_, HO.out, hEr, b1r⟩
              show _ = _
              rw [gresRows_succ, HY.out]
              rfl
            case measure => simp [intOf]; omega
      · obtain rfl : rn = k + 1 := by omega
        go_wp2
        have hy := HY.out
        subst hy
        refine bodyPost_ret (v := .tuple #[.slice B (gresRows cn q k).length cb, .bool true]) (by simp [results, Try.results46, go_sem, *]) rfl ?_
        exact ⟨B, cb, rfl, HO.out, hEr⟩
end Go.Proofs.Ytploaldfkfjibaa
