/-
  Proved: what functions compute, part 34. No condition.
-/
import Derived.Test.YtmjggolkopbcnaaGreatDoorB29
import Derived.Test.YtmjggolkopbcnaaGreatDoorB31
import Derived.Test.YtmjggolkopbcnaaGreatDoorB33
import Derived.Test.YtmjggolkopbcnaaGreatDoorB12
import Derived.Test.YtmjggolkopbcnaaGreatDoorB14
set_option linter.unusedSimpArgs false
set_option linter.unusedVariables false
set_option maxRecDepth 20000
set_option maxHeartbeats 8000000
namespace Go.Proofs.YtmjggolkopbcnaaGreatDoor
section
open Go.RowKit

attribute [local go_sem] Zq Zp
def Z6 : Array Value := #[.int .i64 0, .int .i64 0, .int .i64 0, .int .i64 0, .int .i64 0, .int .i64 0]
theorem jvv_arr (x y : Fr) : jvv x y = .agg (Yh [x, y]) := rfl
theorem row6 (v : Fr × Fr) : (Yh [v.1, v.2]).size = 6 := rfl
theorem iBenchRun (l : List UInt8) (hl : l.length ≤ 1048576) (v : Fr × Fr) (w : World) [hG : Ym w] (hm : Xm w) : Calls Tryz.prog 22 #[.string (Bs l), jvv v.1 v.2] w (fun e w' => e = .returned (v2v (Wx l v.1 v.2)) ∧ Ex w w') := by
 have KB := Oi (fun w hm => Tg.w (Ua l hl w hm))
 have KV := Oi (fun w => Qn v.1 v.2 w)
 have HRES := Oi (brunOf_g l v.1 v.2)
 unfold jvv at KV ⊢
 generalize Bs l = S at *
 have HG := Oi hG
 have HM := Oi hm
 clear hm hl hG
 have hR := Zw.refl w
 go_enter Tryz.func22, Tryz.ntmps22
 go_upto_region 1 with fail
 have hV : Zw w ((w.alloc (.cells #[.int .i64 v.1.re, .int .i64 v.1.im, .int .i64 v.1.den, .int .i64 v.2.re, .int .i64 v.2.im, .int .i64 v.2.den] 47)).alloc (.cells #[.int .i64 0, .int .i64 0, .int .i64 0, .int .i64 0, .int .i64 0, .int .i64 0] 47)) _ := inferInstance
 clear hR
 simp only [Oh] at hV
 generalize (w.alloc (.cells #[.int .i64 v.1.re, .int .i64 v.1.im, .int .i64 v.1.den, .int .i64 v.2.re, .int .i64 v.2.im, .int .i64 v.2.den] 47)).alloc (.cells #[.int .i64 0, .int .i64 0, .int .i64 0, .int .i64 0, .int .i64 0, .int .i64 0] 47) = W0 at *
 go_wp2_with fail
 refine (KB.out _ (HM.out.ex hV.ex)).mono ?_
 rintro e w1 ⟨qs, A, cap, ok0, rfl, hq12, hsl, hps, hx, HBR, HPV⟩
 replace hV := Zw.after (h := hV) hx
 clear hx KB HM
 have HBR2 : Hid (Wx l v.1 v.2 = Wl Ov (Fr.none, Fr.none) (qs.map Pc.p) 0 v (ok0 && (v.1.valid && v.2.valid))) := Oi (HRES.out.trans (Qz Ov (Fr.none, Fr.none) HBR.out (v.1, v.2) _))
 clear HBR HRES
 generalize (v.1.valid && v.2.valid) = vv at KV HBR2
 go_upto_region 2 with fail
 go_cut [7] (fun s wx => s = .bool (ok0 && vv) ∧ Ex w1 wx)
 case first =>
  have hC := hV.reads
  simp only [Zz, Zy] at hC
  rcases ok0 with _ | _
  ·go_wp2_with fail
   go_meet
   exact ⟨rfl, Ex.refl _⟩
  ·go_wp2_with (go_at_call 48; (with_reducible refine (KV.out _).mono ?_); rintro e w2 ⟨rfl, hx⟩)
   go_meet
   exact ⟨by rw [Bool.true_and], hx⟩
 case rest =>
  obtain ⟨rfl, hx⟩ := hcut
  have hB : BM w wc 47 (w.heap.size + 1) w.heap.size Z6 A (Yb qs) qs (Yh [v.1, v.2]) := ⟨Zw.after (h := hV) hx, hsl.ex hx, hps.ex hx⟩
  clear hV hx hsl hps KV
  generalize (ok0 && vv) = o0 at HBR2 ⊢
  have HQL := Oi hq12
  have HB0 := Oi hB
  clear hB hq12
  go_wp2_with fail
  go_loopw [26, 7, 9, 10, 11, 12, 13] (fun i o _ _ _ _ _ wr => ∃ (k : Nat) (u : Fr × Fr) (ok : Bool), i = .int .i64 k ∧ o = .bool ok ∧ k ≤ qs.length ∧ Hid (Wx l v.1 v.2 = Wl Ov (Fr.none, Fr.none) (qs.map Pc.p) k u ok) ∧ Hid (BM w wr 47 (w.heap.size + 1) w.heap.size Z6 A (Yb qs) qs (Yh [u.1, u.2]))) (fun i _ _ _ _ _ _ _ => 13 - (intOf i).toNat)
  case atStart => exact ⟨0, v, o0, rfl, rfl, by omega, HBR2, HB0⟩
  case round =>
   clear HB0 HBR2
   obtain ⟨k, u, ok, rfl, rfl, hk, HR, HB⟩ := hrel
   have hq12 := HQL.out
   by_cases hlt : k < qs.length
   ·have hI : (k : Int) < (qs.length : Int) := by omega
    have hw5 : IntKind.i64.wrap ((k : Int) + 1) = (k : Int) + 1 := Oc _ (by omega)
    obtain ⟨b, off, rfl, hc⟩ := HB.out.slc (by rw [Xb]; omega)
    have hat := Rb qs k hlt
    have d0 := hc (3 * k) (by rw [Xb]; omega)
    have d1 := hc (3 * k + 1) (by rw [Xb]; omega)
    have d2 := hc (3 * k + 2) (by rw [Xb]; omega)
    rw [hat.1] at d0
    rw [hat.2.1] at d1
    rw [hat.2.2] at d2
    rw [Nat.mul_comm 3 k] at d0 d1 d2
    rw [← Nat.add_assoc] at d1 d2
    have HST := Oi (fun x ox h => Oq Ov (Fr.none, Fr.none) hlt u ok (x := x) (u := ox) h)
    have hmem : qs[k] ∈ qs := List.getElem_mem hlt
    have HV := Oi (HPV.out _ hmem)
    have HO := Oi (HB.out.pcs _ hmem)
    clear hc hat hmem
    generalize qs[k] = q at *
    have kt := fun w (_ : Ym w) ho => iMatP q HV.out w ho
    rcases hT : Vv q.k q.ns with ⟨t, okt⟩
    rcases hA : Wi t u.1 u.2 with ⟨x, okx⟩
    have ka := fun w => iMatApply t u.1 u.2 w
    have HR2 : Hid (Wx l v.1 v.2 = Wl Ov (Fr.none, Fr.none) (qs.map Pc.p) (k + 1) x (ok && okt && okx)) := Oi (by
     rw [Bool.and_assoc]
     refine HR.out.trans (HST.out x (okt && okx) ?_)
     show ((Wi (Vv q.k q.ns).1 u.1 u.2).1, (Vv q.k q.ns).2 && (Wi (Vv q.k q.ns).1 u.1 u.2).2) = _
     rw [hT]
     simp only [hA])
    rw [hT] at kt
    rw [hA] at ka
    simp only [m4v, v2v, M4.l_arr, jvv_arr] at kt ka
    have hone := Xp t.l
    have hux := Sk [u.1, u.2]
    have hxs := row6 x
    have hts := Rs t
    have hus := row6 u
    have hxo := Xp [x.1, x.2]
    generalize Yh t.l = tc at *
    generalize hvu : Yh [u.1, u.2] = uc at *
    generalize hvx : Yh [x.1, x.2] = xc at *
    have KT := Oi kt
    have KA := Oi ka
    have HX := Oi hvx
    have HTS := Oi hts
    have HXS := Oi hxs
    have HUS := Oi hus
    have HUX := Oi hux
    clear kt ka hT hA hvu hvx HST HR HV hts hxs hus hux
    have hB := HB.out
    clear HB
    go_upto_region 6 with fail
    have b9 := Box.new wr #[.int .u8 q.k.toNat, .slice (some ⟨q.g, 0, none⟩) q.ns.length q.cap, .string q.S] 85
    replace hB := hB.ex ((Ex.refl wr).alloc (.cells #[.int .u8 q.k.toNat, .slice (some ⟨q.g, 0, none⟩) q.ns.length q.cap, .string q.S] 85))
    have HO1 := Oi (HO.out.ex ((Ex.refl wr).alloc (.cells #[.int .u8 q.k.toNat, .slice (some ⟨q.g, 0, none⟩) q.ns.length q.cap, .string q.S] 85)))
    generalize wr.alloc _ = W2 at *
    have c9 := b9.cell
    have z9 := b9.lt
    clear d0 d1 d2 HO
    go_wp2_with fail
    refine (KT.out _ (HG.out.ex hB.sees.ex) HO1.out).mono ?_
    clear HO1 b9 c9 z9
    rintro e w2 ⟨rfl, hx⟩
    go_upto_region 7 with (refine wpList_store_row rfl _ _ _ rfl _ _ rfl rfl _ _ (Box.new w2 _ _) (Wo HTS.out) (by rw [HTS.out]; rfl) hone ?_)
    replace hB := hB.ex (hx.trans (((Ex.refl w2).alloc (.cells #[.int .i64 0, .int .i64 0, .int .i64 0, .int .i64 0, .int .i64 0, .int .i64 0, .int .i64 0, .int .i64 0, .int .i64 0, .int .i64 0, .int .i64 0, .int .i64 0] 30)).setRow (Nat.le_refl _) tc))
    have bT := (Box.new w2 #[.int .i64 0, .int .i64 0, .int .i64 0, .int .i64 0, .int .i64 0, .int .i64 0, .int .i64 0, .int .i64 0, .int .i64 0, .int .i64 0, .int .i64 0, .int .i64 0] 30).setRow tc
    generalize (w2.alloc (.cells #[.int .i64 0, .int .i64 0, .int .i64 0, .int .i64 0, .int .i64 0, .int .i64 0, .int .i64 0, .int .i64 0, .int .i64 0, .int .i64 0, .int .i64 0, .int .i64 0] 30)).setRow w2.heap.size tc = W3 at *
    clear hx hone
    have b3 := hB.sees.boxes.2.1
    go_wp2_with (first | (refine wpList_load_row rfl _ _ rfl _ rfl _ _ (0, 0) _ bT Tryz.underlying30 rfl (Wo HTS.out) ?_) | (refine wpList_load_row rfl _ _ rfl _ rfl _ _ (0, 0) _ b3 Tryz.underlying47 rfl (Oo HUS.out) ?_))
    refine (KA.out _).mono ?_
    rintro e w3 ⟨rfl, hx⟩
    go_upto_region 8 with (refine wpList_store_row rfl _ _ _ rfl _ _ rfl rfl _ _ (Box.new w3 _ _) (Oo HXS.out) (by rw [HXS.out]; rfl) hxo ?_)
    replace hB := hB.ex (hx.trans (((Ex.refl w3).alloc (.cells #[.int .i64 0, .int .i64 0, .int .i64 0, .int .i64 0, .int .i64 0, .int .i64 0] 47)).setRow (Nat.le_refl _) xc))
    have bX := (Box.new w3 #[.int .i64 0, .int .i64 0, .int .i64 0, .int .i64 0, .int .i64 0, .int .i64 0] 47).setRow xc
    generalize (w3.alloc (.cells #[.int .i64 0, .int .i64 0, .int .i64 0, .int .i64 0, .int .i64 0, .int .i64 0] 47)).setRow w3.heap.size xc = W4 at *
    clear hx b3 bT
    go_cut [7] (fun s wx => s = .bool (ok && okt && okx) ∧ wx = W4)
    case first =>
     rcases ok with _ | _ <;> rcases okt with _ | _ <;> rcases okx with _ | _
     all_goals
      go_wp2_with fail
      go_meet
      exact ⟨rfl, rfl⟩
    case rest =>
     obtain ⟨rfl, rfl⟩ := hcut
     have b3 := hB.sees.boxes.2.1
     go_wp2_with (first | (refine wpList_load_row rfl _ _ rfl _ rfl _ _ (0, 0) _ bX Tryz.underlying47 rfl (Oo HXS.out) ?_) | (refine wpList_store_row rfl _ _ _ rfl _ _ rfl rfl _ _ b3 (Oo HXS.out) (by rw [HXS.out, HUS.out]) hxo ?_))
     have HB2 : Hid (BM w (wc.setRow w.heap.size xc) 47 (w.heap.size + 1) w.heap.size Z6 (some ⟨b, off, none⟩) (Yb qs) qs (Yh [x.1, x.2])) := Oi (by rw [HX.out]; exact hB.store (Nat.le_refl _) (by omega) (by decide) HUX.out (Qk qs) xc)
     clear hB b3 bX hxo
     go_roundw
     case rel => exact ⟨k + 1, x, _, by go_num, rfl, by omega, HR2, HB2⟩
     case measure => simp [intOf] <;> omega
   ·obtain rfl : k = qs.length := by omega
    have HE := HR.out
    rw [Sl] at HE
    have hI : ¬ ((qs.length : Nat) : Int) < (qs.length : Int) := by omega
    have hB := HB.out
    clear HB HR hlt hk HPV HQL hq12
    have b4 := hB.sees.boxes.1
    have b3 := hB.sees.boxes.2.1
    have hE := hB.sees.ex
    have HEE := Oi HE
    clear HE
    rcases ok with _ | _
    ·have c4 := b4.cell
     have f4 := b4.frozen
     have z4 := b4.lt
     unfold Z6 at c4
     go_wp2
     refine Od (v := .tuple #[.agg #[.int .i64 0, .int .i64 0, .int .i64 0, .int .i64 0, .int .i64 0, .int .i64 0], .bool false]) ?_ rfl ⟨by rw [HEE.out]; rfl, ?_⟩
     ·simp [results, Tryz.results22, go_sem, c4]
     ·repeat' (with_reducible first | exact hE | refine Ex.setCell ?_ (by simp <;> omega) _)
    ·have hus := row6 u
     have huo := Xp [u.1, u.2]
     go_wp2_with (first | (refine wpList_load_row rfl _ _ rfl _ rfl _ _ (0, 0) _ b3 Tryz.underlying47 rfl (Oo hus) ?_) | (refine wpList_store_row rfl _ _ _ rfl _ _ rfl rfl _ _ b4 (Oo hus) rfl huo ?_))
     exact Od (Wa Tryz.results22 _ _ _ _ _ (0, 0) _ rfl (b4.setRow _) Tryz.underlying47 rfl (Oo hus)) rfl ⟨by rw [HEE.out]; rfl, hE.setRow (Nat.le_succ _) _⟩
end
section
open Go.RowKit

attribute [local go_sem] Zq Zp
theorem sBenchMat (l : List UInt8) (hl : l.length ≤ 1048576) (w : World) : Calls Tryz.prog 21 #[.string (Bs l)] w (fun e w' => e = .returned (m4v (Xo l)) ∧ Ex w w') := by
 have KB := Oi (fun w => sL7Bench l hl w)
 have HRES := Oi (bmatOf_g l)
 have KO : Hid (∀ w, Calls Tryz.prog 63 #[.agg #[.int .i64 1, .int .i64 0, .int .i64 1], .agg #[.int .i64 1, .int .i64 0, .int .i64 1]] w fun e w' => e = .returned (.agg #[.int .i64 1, .int .i64 0, .int .i64 1, .int .i64 0, .int .i64 0, .int .i64 1, .int .i64 0, .int .i64 0, .int .i64 1, .int .i64 1, .int .i64 0, .int .i64 1]) ∧ Ex w w') := Oi (fun w => sl5One Fr.one Fr.one w)
 generalize Bs l = S at *
 clear hl
 have hR := Zw.refl w
 go_enter Tryz.func21, Tryz.ntmps21
 go_upto_region 1 with fail
 have b0 := Box.new w #[.int .i64 0, .int .i64 0, .int .i64 0, .int .i64 0, .int .i64 0, .int .i64 0, .int .i64 0, .int .i64 0, .int .i64 0, .int .i64 0, .int .i64 0, .int .i64 0] 30
 have hE0 : Ex w (w.alloc (.cells #[.int .i64 0, .int .i64 0, .int .i64 0, .int .i64 0, .int .i64 0, .int .i64 0, .int .i64 0, .int .i64 0, .int .i64 0, .int .i64 0, .int .i64 0, .int .i64 0] 30)) := (Ex.refl w).alloc _
 have hz0 : (w.alloc (.cells #[.int .i64 0, .int .i64 0, .int .i64 0, .int .i64 0, .int .i64 0, .int .i64 0, .int .i64 0, .int .i64 0, .int .i64 0, .int .i64 0, .int .i64 0, .int .i64 0] 30)).heap.size = w.heap.size + 1 := Oh _ _
 generalize w.alloc _ = W0 at *
 clear hR
 go_wp2_with fail
 refine (KB.out _).mono ?_
 rintro e w1 (⟨qs, A, cap, hbn, rfl, hsl, hps, hx⟩ | ⟨A, n, cap, hbn, rfl, hx⟩)
 ·have HBR : Hid (Xo l = Wl Un M4.none (qs.map Pc.p) 0 Rv true) := Oi (HRES.out.trans (Qz Un M4.none (ok := true) (by rw [hbn]; rfl) Rv true))
  have hq12 : qs.length ≤ 12 := by simpa using (Xa hbn).2.2
  have HPV : Hid (∀ q ∈ qs, Yv q.k q.ns = true) := Oi fun q hq => Sr hbn q.p (List.mem_map_of_mem hq)
  clear hbn HRES
  have hE1 := hE0.trans hx
  have b1 := b0.ex hx
  have hsz1 := hx.size
  clear hE0 b0 KB
  have bO := Box.new w1 #[.int .i64 1, .int .i64 0, .int .i64 1] 27
  have cO := bO.cell
  have zO := bO.lt
  go_wp2_with fail
  refine (KO.out _).mono ?_
  rintro e w2 ⟨rfl, hx2⟩
  clear bO cO zO
  have hx3 := ((Ex.refl w1).alloc (.cells #[.int .i64 1, .int .i64 0, .int .i64 1] 27)).trans hx2
  have hE2 := hE1.trans hx3
  have b2 := b1.ex hx3
  have hne : w.heap.size ≠ w2.heap.size := by have := hx3.size; omega
  go_upto_region 4 with fail
  have hB : BM w (w2.alloc (.cells #[.int .i64 1, .int .i64 0, .int .i64 1, .int .i64 0, .int .i64 0, .int .i64 1, .int .i64 0, .int .i64 0, .int .i64 1, .int .i64 1, .int .i64 0, .int .i64 1] 30)) 30 w.heap.size w2.heap.size Z12 A (Xt qs) qs (Yh Rv.l) :=
   ⟨⟨hE2.alloc _, b2.alloc _, Box.new w2 _ _, trivial⟩, hsl.ex (hx3.alloc _), hps.ex (hx3.alloc _)⟩
  have hlo := hE2.size
  have HQL := Oi hq12
  have HB0 := Oi hB
  have HNE := Oi hne
  clear hB hq12 hne hx hx2 hx3 hE1 hE2 b1 b2 hsl hps hz0 hsz1 KO
  generalize w2.alloc _ = W1 at *
  generalize w2.heap.size = na at *
  go_wp2_with fail
  go_loopw [8, 5, 9, 10, 11, 12] (fun i o _ _ _ _ wr => ∃ (k : Nat) (u : M4) (ok : Bool), i = .int .i64 k ∧ o = .bool ok ∧ k ≤ qs.length ∧ Hid (Xo l = Wl Un M4.none (qs.map Pc.p) k u ok) ∧ Hid (BM w wr 30 w.heap.size na Z12 A (Xt qs) qs (Yh u.l))) (fun i _ _ _ _ _ _ => 13 - (intOf i).toNat)
  case atStart => exact ⟨0, Rv, true, rfl, rfl, by omega, HBR, HB0⟩
  case round =>
   clear HB0 HBR
   obtain ⟨k, u, ok, rfl, rfl, hk, HR, HB⟩ := hrel
   have hq12 := HQL.out
   by_cases hlt : k < qs.length
   ·rcases ok with _ | _
    ·have HE := HR.out
     rw [show Wl Un M4.none (qs.map Pc.p) k u false = (M4.none, false) from rfl] at HE
     have hI : (k : Int) < (qs.length : Int) := by omega
     have hE := HB.out.sees.ex
     have b4 := HB.out.sees.boxes.1
     have HEE := Oi HE
     clear HB HR HE
     have c4 := b4.cell
     have f4 := b4.frozen
     have z4 := b4.lt
     unfold Z12 at c4
     go_wp2
     refine Od (v := .tuple #[.agg #[.int .i64 0, .int .i64 0, .int .i64 0, .int .i64 0, .int .i64 0, .int .i64 0, .int .i64 0, .int .i64 0, .int .i64 0, .int .i64 0, .int .i64 0, .int .i64 0], .bool false]) ?_ rfl ⟨by rw [HEE.out]; rfl, ?_⟩
     ·simp [results, Tryz.results21, go_sem, c4]
     ·repeat' (with_reducible first | exact hE | refine Ex.setCell ?_ (by simp <;> omega) _)
    ·have hI : (k : Int) < (qs.length : Int) := by omega
     have hw5 : IntKind.i64.wrap ((k : Int) + 1) = (k : Int) + 1 := Oc _ (by omega)
     obtain ⟨b, off, rfl, hc⟩ := HB.out.slc (by rw [So]; omega)
     have hat := cellsS_at qs k hlt
     have d0 := hc (2 * k) (by rw [So]; omega)
     have d1 := hc (2 * k + 1) (by rw [So]; omega)
     rw [hat.1] at d0
     rw [hat.2] at d1
     rw [Nat.mul_comm 2 k] at d0 d1
     rw [← Nat.add_assoc] at d1
     have HST := Oi (fun x ox h => Oq Un M4.none hlt u true (x := x) (u := ox) h)
     have hmem : qs[k] ∈ qs := List.getElem_mem hlt
     have HV := Oi (HPV.out _ hmem)
     have HO := Oi (HB.out.pcs _ hmem)
     clear hc hat hmem
     generalize qs[k] = q at *
     have kt := fun w ho => sMatP q HV.out w ho
     rcases hT : Vv q.k q.ns with ⟨t, okt⟩
     rcases hA : Zl t u with ⟨x, okx⟩
     have ka := fun w => Re t u w
     have HR2 : Hid (Xo l = Wl Un M4.none (qs.map Pc.p) (k + 1) x (okt && okx)) := Oi (by
      refine HR.out.trans (HST.out x (okt && okx) ?_)
      show ((Zl (Vv q.k q.ns).1 u).1, (Vv q.k q.ns).2 && (Zl (Vv q.k q.ns).1 u).2) = _
      rw [hT]
      simp only [hA])
     rw [hT] at kt
     rw [hA] at ka
     simp only [m4v, M4.l_arr] at kt ka
     have hone := Xp t.l
     have hux := Sk u.l
     have hxs := Rs x
     have hts := Rs t
     have hus := Rs u
     have hxo := Xp x.l
     generalize Yh t.l = tc at *
     generalize hvu : Yh u.l = uc at *
     generalize hvx : Yh x.l = xc at *
     have KT := Oi kt
     have KA := Oi ka
     have HX := Oi hvx
     have HTS := Oi hts
     have HXS := Oi hxs
     have HUS := Oi hus
     have HUX := Oi hux
     clear kt ka hT hA hvu hvx HST HR HV hts hxs hus hux
     have hB := HB.out
     clear HB
     go_wp2_with fail
     refine (KT.out _ HO.out).mono ?_
     clear HO d0 d1
     rintro e w2 ⟨rfl, hx⟩
     go_upto_region 8 with (refine wpList_store_row rfl _ _ _ rfl _ _ rfl rfl _ _ (Box.new w2 _ _) (Wo HTS.out) (by rw [HTS.out]; rfl) hone ?_)
     replace hB := hB.ex (hx.trans (((Ex.refl w2).alloc (.cells #[.int .i64 0, .int .i64 0, .int .i64 0, .int .i64 0, .int .i64 0, .int .i64 0, .int .i64 0, .int .i64 0, .int .i64 0, .int .i64 0, .int .i64 0, .int .i64 0] 30)).setRow (Nat.le_refl _) tc))
     have bT := (Box.new w2 #[.int .i64 0, .int .i64 0, .int .i64 0, .int .i64 0, .int .i64 0, .int .i64 0, .int .i64 0, .int .i64 0, .int .i64 0, .int .i64 0, .int .i64 0, .int .i64 0] 30).setRow tc
     generalize (w2.alloc (.cells #[.int .i64 0, .int .i64 0, .int .i64 0, .int .i64 0, .int .i64 0, .int .i64 0, .int .i64 0, .int .i64 0, .int .i64 0, .int .i64 0, .int .i64 0, .int .i64 0] 30)).setRow w2.heap.size tc = W3 at *
     clear hx hone
     have b3 := hB.sees.boxes.2.1
     go_wp2_with (first | (refine wpList_load_row rfl _ _ rfl _ rfl _ _ (0, 0) _ bT Tryz.underlying30 rfl (Wo HTS.out) ?_) | (refine wpList_load_row rfl _ _ rfl _ rfl _ _ (0, 0) _ b3 Tryz.underlying30 rfl (Wo HUS.out) ?_))
     refine (KA.out _).mono ?_
     rintro e w3 ⟨rfl, hx⟩
     go_upto_region 9 with (refine wpList_store_row rfl _ _ _ rfl _ _ rfl rfl _ _ (Box.new w3 _ _) (Wo HXS.out) (by rw [HXS.out]; rfl) hxo ?_)
     replace hB := hB.ex (hx.trans (((Ex.refl w3).alloc (.cells #[.int .i64 0, .int .i64 0, .int .i64 0, .int .i64 0, .int .i64 0, .int .i64 0, .int .i64 0, .int .i64 0, .int .i64 0, .int .i64 0, .int .i64 0, .int .i64 0] 30)).setRow (Nat.le_refl _) xc))
     have bX := (Box.new w3 #[.int .i64 0, .int .i64 0, .int .i64 0, .int .i64 0, .int .i64 0, .int .i64 0, .int .i64 0, .int .i64 0, .int .i64 0, .int .i64 0, .int .i64 0, .int .i64 0] 30).setRow xc
     generalize (w3.alloc (.cells #[.int .i64 0, .int .i64 0, .int .i64 0, .int .i64 0, .int .i64 0, .int .i64 0, .int .i64 0, .int .i64 0, .int .i64 0, .int .i64 0, .int .i64 0, .int .i64 0] 30)).setRow w3.heap.size xc = W4 at *
     clear hx b3 bT
     go_cut [5] (fun s wx => s = .bool (okt && okx) ∧ wx = W4)
     case first =>
      rcases okt with _ | _ <;> rcases okx with _ | _
      all_goals
       go_wp2_with fail
       go_meet
       exact ⟨rfl, rfl⟩
     case rest =>
      obtain ⟨rfl, rfl⟩ := hcut
      have b3 := hB.sees.boxes.2.1
      go_wp2_with (first | (refine wpList_load_row rfl _ _ rfl _ rfl _ _ (0, 0) _ bX Tryz.underlying30 rfl (Wo HXS.out) ?_) | (refine wpList_store_row rfl _ _ _ rfl _ _ rfl rfl _ _ b3 (Wo HXS.out) (by rw [HXS.out, HUS.out]) hxo ?_))
      have HB2 : Hid (BM w (wc.setRow na xc) 30 w.heap.size na Z12 (some ⟨b, off, none⟩) (Xt qs) qs (Yh x.l)) := Oi (by rw [HX.out]; exact hB.store hlo HNE.out (by decide) HUX.out (cellsS_byte qs) xc)
      clear hB b3 bX hxo
      go_roundw
      case rel => exact ⟨k + 1, x, _, by go_num, rfl, by omega, HR2, HB2⟩
      case measure => simp [intOf] <;> omega
   ·obtain rfl : k = qs.length := by omega
    have HE := HR.out
    rw [Sl] at HE
    have hI : ¬ ((qs.length : Nat) : Int) < (qs.length : Int) := by omega
    have hB := HB.out
    clear HB HR hlt hk HPV HQL hq12
    have b4 := hB.sees.boxes.1
    have b3 := hB.sees.boxes.2.1
    have hE := hB.sees.ex
    have HEE := Oi HE
    clear HE
    rcases ok with _ | _
    ·have c4 := b4.cell
     have f4 := b4.frozen
     have z4 := b4.lt
     unfold Z12 at c4
     go_wp2
     refine Od (v := .tuple #[.agg #[.int .i64 0, .int .i64 0, .int .i64 0, .int .i64 0, .int .i64 0, .int .i64 0, .int .i64 0, .int .i64 0, .int .i64 0, .int .i64 0, .int .i64 0, .int .i64 0], .bool false]) ?_ rfl ⟨by rw [HEE.out]; rfl, ?_⟩
     ·simp [results, Tryz.results21, go_sem, c4]
     ·repeat' (with_reducible first | exact hE | refine Ex.setCell ?_ (by simp <;> omega) _)
    ·have hus := Rs u
     have huo := Xp u.l
     go_wp2_with (first | (refine wpList_load_row rfl _ _ rfl _ rfl _ _ (0, 0) _ b3 Tryz.underlying30 rfl (Wo hus) ?_) | (refine wpList_store_row rfl _ _ _ rfl _ _ rfl rfl _ _ b4 (Wo hus) rfl huo ?_))
     exact Od (Wa Tryz.results21 _ _ _ _ _ (0, 0) _ rfl (b4.setRow _) Tryz.underlying30 rfl (Wo hus)) rfl ⟨by rw [HEE.out]; rfl, hE.setRow (Nat.le_refl _) _⟩
 ·have HEE : Hid (Xo l = (M4.none, false)) := Oi (by unfold Xo; rw [hbn])
  clear hbn HRES
  have hE1 := hE0.trans hx
  have b1 := b0.ex hx
  have hsz1 := hx.size
  clear hE0 b0 KB
  have bO := Box.new w1 #[.int .i64 1, .int .i64 0, .int .i64 1] 27
  have cO := bO.cell
  have zO := bO.lt
  go_wp2_with fail
  refine (KO.out _).mono ?_
  rintro e w2 ⟨rfl, hx2⟩
  clear bO cO zO
  have hx3 := ((Ex.refl w1).alloc (.cells #[.int .i64 1, .int .i64 0, .int .i64 1] 27)).trans hx2
  have hE2 := hE1.trans hx3
  have b2 := b1.ex hx3
  have hne : w.heap.size ≠ w2.heap.size := by have := hx3.size; omega
  have b4 := b2
  have hE := hE2
  clear hE1 b1 hx2 KO
  go_upto_region 4 with fail
  replace b4 := b4.alloc (.cells #[.int .i64 1, .int .i64 0, .int .i64 1, .int .i64 0, .int .i64 0, .int .i64 1, .int .i64 0, .int .i64 0, .int .i64 1, .int .i64 1, .int .i64 0, .int .i64 1] 30)
  replace hE := hE.alloc (.cells #[.int .i64 1, .int .i64 0, .int .i64 1, .int .i64 0, .int .i64 0, .int .i64 1, .int .i64 0, .int .i64 0, .int .i64 1, .int .i64 1, .int .i64 0, .int .i64 1] 30)
  generalize w2.alloc _ = W1 at *
  clear hx hx3 hE2 b2 hsz1 hz0 hne
  go_wp2_with fail
  go_loopw [8, 5, 9, 10, 11, 12] (fun i o _ _ _ _ wr => i = .int .i64 0 ∧ o = .bool false ∧ wr = W1) (fun _ _ _ _ _ _ _ => 0)
  case atStart => exact ⟨rfl, rfl, rfl⟩
  case round =>
   obtain ⟨rfl, rfl, rfl⟩ := hrel
   rcases Nat.eq_zero_or_pos n with hn | hn
   ·subst hn
    have c4 := b4.cell
    have f4 := b4.frozen
    have z4 := b4.lt
    unfold Z12 at c4
    go_wp2
    refine Od (v := .tuple #[.agg #[.int .i64 0, .int .i64 0, .int .i64 0, .int .i64 0, .int .i64 0, .int .i64 0, .int .i64 0, .int .i64 0, .int .i64 0, .int .i64 0, .int .i64 0, .int .i64 0], .bool false]) ?_ rfl ⟨by rw [HEE.out]; rfl, ?_⟩
    ·simp [results, Tryz.results21, go_sem, c4]
    ·repeat' (with_reducible first | exact hE | refine Ex.setCell ?_ (by simp <;> omega) _)
   ·have hI : (0 : Int) < (n : Int) := by omega
    have c4 := b4.cell
    have f4 := b4.frozen
    have z4 := b4.lt
    unfold Z12 at c4
    go_wp2
    refine Od (v := .tuple #[.agg #[.int .i64 0, .int .i64 0, .int .i64 0, .int .i64 0, .int .i64 0, .int .i64 0, .int .i64 0, .int .i64 0, .int .i64 0, .int .i64 0, .int .i64 0, .int .i64 0], .bool false]) ?_ rfl ⟨by rw [HEE.out]; rfl, ?_⟩
    ·simp [results, Tryz.results21, go_sem, c4]
    ·repeat' (with_reducible first | exact hE | refine Ex.setCell ?_ (by simp <;> omega) _)
end
end Go.Proofs.YtmjggolkopbcnaaGreatDoor
