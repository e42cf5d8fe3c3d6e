/-
  Proved: what functions compute, part 31. No condition.
-/
import Derived.Test.YtmjggolkopbcnaaGreatDoorB29
import Derived.Test.YtmjggolkopbcnaaGreatDoorB16
import Derived.Test.YtmjggolkopbcnaaGreatDoorB30
import Derived.Test.YtmjggolkopbcnaaGreatDoorB15
import Derived.Test.YtmjggolkopbcnaaGreatDoorB25
import Derived.Test.YtmjggolkopbcnaaGreatDoorB28
set_option linter.unusedSimpArgs false
set_option linter.unusedVariables false
set_option maxRecDepth 20000
set_option maxHeartbeats 8000000
namespace Go.Proofs.YtmjggolkopbcnaaGreatDoor
section
open Go.RowKit

attribute [local go_sem] Zq Zp
theorem iMat_w (g n cap : Nat) (cur : Array Value) (S : ByteArray) (a b c : Int) (hn : 3 ≤ n) (w : World) [hG : Ym w] (hbox : Box w g 3 cur) (c0 : cur[0]? = some (.int .i64 a)) (c1 : cur[1]? = some (.int .i64 b)) (c2 : cur[2]? = some (.int .i64 c)) : Calls Tryz.prog 34 #[.agg #[.int .u8 119, .slice (some ⟨g, 0, none⟩) n cap, .string S]] w (fun e w' => e = .returned (m4v (Yp a b c)) ∧ Ex w w') := by
 have k1 := fun w (_ : Ym w) => iMatPlate a b c w
 rcases hf : Yp a b c with ⟨⟨⟨x1, x2, x3⟩, ⟨x4, x5, x6⟩, ⟨x7, x8, x9⟩, ⟨y1, y2, y3⟩⟩, ok⟩
 rw [hf] at k1
 simp only [m4v, M4.v] at k1
 have KF := Oi k1
 clear k1
 have HG := Oi hG
 have hR : Zw w w [(g, 3, cur)] := ⟨Ex.refl w, hbox, trivial⟩
 have n1 : (0 : Int) < n := by omega
 have n2 : (1 : Int) < n := by omega
 have n3 : (2 : Int) < n := by omega
 clear hbox
 go_enter Tryz.func34, Tryz.ntmps34
 go_upto_region 5 with fail
 have hS : Zw w ((w.alloc (.cells #[.int .u8 119, .slice (some ⟨g, 0, none⟩) n cap, .string S] 85)).alloc (.cells #[.int .i64 0, .int .i64 0, .int .i64 0, .int .i64 0, .int .i64 0, .int .i64 0, .int .i64 0, .int .i64 0, .int .i64 0, .int .i64 0, .int .i64 0, .int .i64 0] 30)) _ := inferInstance
 clear hR
 simp only [Oh] at hS
 generalize (w.alloc (.cells #[.int .u8 119, .slice (some ⟨g, 0, none⟩) n cap, .string S] 85)).alloc (.cells #[.int .i64 0, .int .i64 0, .int .i64 0, .int .i64 0, .int .i64 0, .int .i64 0, .int .i64 0, .int .i64 0, .int .i64 0, .int .i64 0, .int .i64 0, .int .i64 0] 30) = W0 at *
 refine Zn (St := fun _ _ => True) 15 false (B := fun _ w2 => Zw w w2 [(w.heap.size + 1, 30, #[.int .i64 0, .int .i64 0, .int .i64 0, .int .i64 0, .int .i64 0, .int .i64 0, .int .i64 0, .int .i64 0, .int .i64 0, .int .i64 0, .int .i64 0, .int .i64 0]), (w.heap.size, 85, #[.int .u8 119, .slice (some ⟨g, 0, none⟩) n cap, .string S]), (g, 3, cur)]) (by kernel_rfl) (by kernel_rfl) (hS.drewW) (by exact fun _ _ _ _ _ h => h) ?_
 iterate 12 (apply Zx; (· rfl); (· intro b wb hB Q1 hQ1; have hS := hB; have hC := hS.reads; simp only [Zz, Zy] at hC; go_wp2_with fail; exact hQ1 _ trivial hB); (· exact ⟨_, rfl⟩))
 (apply Zx; (· rfl); (· intro b wb hB Q1 hQ1; go_wp2_with (go_at_call 38; (with_reducible refine (KF.out _ (HG.out.ex hB.ex)).mono ?_); rintro e wn ⟨rfl, hx⟩); exact hQ1 _ trivial (hB.go hx)); (· exact ⟨_, rfl⟩))
 iterate 2 (apply Zx; (· rfl); (· intro b wb hB Q1 hQ1; go_wp2_with fail; exact hQ1 _ trivial hB); (· exact ⟨_, rfl⟩))
 refine Zv ?_
 intro wz hz
 clear hS
 have hS := hz
 have hC := hS.reads
 simp only [Zz, Zy] at hC
 have hE := hS.ex
 go_wp2_with fail
 refine Od (v := .tuple #[.agg #[.int .i64 x1, .int .i64 x2, .int .i64 x3, .int .i64 x4, .int .i64 x5, .int .i64 x6, .int .i64 x7, .int .i64 x8, .int .i64 x9, .int .i64 y1, .int .i64 y2, .int .i64 y3], .bool ok]) ?_ rfl ⟨rfl, ?_⟩
 ·simp [results, Tryz.results34, go_sem, hC]
 ·repeat' (with_reducible first | exact hE | refine Ex.setCell ?_ (by simp <;> omega) _)
theorem sMat_w (g n cap : Nat) (cur : Array Value) (a b c : Int) (hn : 3 ≤ n) (w : World) (hbox : Box w g 3 cur) (c0 : cur[0]? = some (.int .i64 a)) (c1 : cur[1]? = some (.int .i64 b)) (c2 : cur[2]? = some (.int .i64 c)) : Calls Tryz.prog 64 #[.agg #[.int .u8 119, .slice (some ⟨g, 0, none⟩) n cap]] w (fun e w' => e = .returned (m4v (Yp a b c)) ∧ Ex w w') := by
 have k1 := fun w => sMatPlate a b c w
 rcases hf : Yp a b c with ⟨⟨⟨x1, x2, x3⟩, ⟨x4, x5, x6⟩, ⟨x7, x8, x9⟩, ⟨y1, y2, y3⟩⟩, ok⟩
 rw [hf] at k1
 simp only [m4v, M4.v] at k1
 have KF := Oi k1
 clear k1
 have hR : Zw w w [(g, 3, cur)] := ⟨Ex.refl w, hbox, trivial⟩
 have n1 : (0 : Int) < n := by omega
 have n2 : (1 : Int) < n := by omega
 have n3 : (2 : Int) < n := by omega
 clear hbox
 go_enter Tryz.func64, Tryz.ntmps64
 go_upto_region 5 with fail
 have hS : Zw w ((w.alloc (.cells #[.int .u8 119, .slice (some ⟨g, 0, none⟩) n cap] 115)).alloc (.cells #[.int .i64 0, .int .i64 0, .int .i64 0, .int .i64 0, .int .i64 0, .int .i64 0, .int .i64 0, .int .i64 0, .int .i64 0, .int .i64 0, .int .i64 0, .int .i64 0] 30)) _ := inferInstance
 clear hR
 simp only [Oh] at hS
 generalize (w.alloc (.cells #[.int .u8 119, .slice (some ⟨g, 0, none⟩) n cap] 115)).alloc (.cells #[.int .i64 0, .int .i64 0, .int .i64 0, .int .i64 0, .int .i64 0, .int .i64 0, .int .i64 0, .int .i64 0, .int .i64 0, .int .i64 0, .int .i64 0, .int .i64 0] 30) = W0 at *
 refine Zn (St := fun _ _ => True) 15 false (B := fun _ w2 => Zw w w2 [(w.heap.size + 1, 30, #[.int .i64 0, .int .i64 0, .int .i64 0, .int .i64 0, .int .i64 0, .int .i64 0, .int .i64 0, .int .i64 0, .int .i64 0, .int .i64 0, .int .i64 0, .int .i64 0]), (w.heap.size, 115, #[.int .u8 119, .slice (some ⟨g, 0, none⟩) n cap]), (g, 3, cur)]) (by kernel_rfl) (by kernel_rfl) (hS.drewW) (by exact fun _ _ _ _ _ h => h) ?_
 iterate 12 (apply Zx; (· rfl); (· intro b wb hB Q1 hQ1; have hS := hB; have hC := hS.reads; simp only [Zz, Zy] at hC; go_wp2_with fail; exact hQ1 _ trivial hB); (· exact ⟨_, rfl⟩))
 (apply Zx; (· rfl); (· intro b wb hB Q1 hQ1; go_wp2_with (go_at_call 42; (with_reducible refine (KF.out _).mono ?_); rintro e wn ⟨rfl, hx⟩); exact hQ1 _ trivial (hB.go hx)); (· exact ⟨_, rfl⟩))
 iterate 2 (apply Zx; (· rfl); (· intro b wb hB Q1 hQ1; go_wp2_with fail; exact hQ1 _ trivial hB); (· exact ⟨_, rfl⟩))
 refine Zv ?_
 intro wz hz
 clear hS
 have hS := hz
 have hC := hS.reads
 simp only [Zz, Zy] at hC
 have hE := hS.ex
 go_wp2_with fail
 refine Od (v := .tuple #[.agg #[.int .i64 x1, .int .i64 x2, .int .i64 x3, .int .i64 x4, .int .i64 x5, .int .i64 x6, .int .i64 x7, .int .i64 x8, .int .i64 x9, .int .i64 y1, .int .i64 y2, .int .i64 y3], .bool ok]) ?_ rfl ⟨rfl, ?_⟩
 ·simp [results, Tryz.results64, go_sem, hC]
 ·repeat' (with_reducible first | exact hE | refine Ex.setCell ?_ (by simp <;> omega) _)
end
section
open Go.RowKit

attribute [local go_sem] Zq Zp
theorem pmat_97 (a b : Int) : Vv 97 [a, b] = (⟨(flow a 0 b).1, Fr.nul, Fr.nul, (flow a 0 b).1⟩, true) := by
 unfold Vv
 rw [if_neg (by decide), if_neg (by decide), if_neg (by decide), if_pos rfl]
 unfold pshare
 simp only [List.getD_cons_zero, List.getD_cons_succ]
theorem iMat_d (g n cap : Nat) (S : ByteArray) (w : World) : Calls Tryz.prog 34 #[.agg #[.int .u8 100, .slice (some ⟨g, 0, none⟩) n cap, .string S]] w (fun e w' => e = .returned (m4v (M4.none, false)) ∧ Ex w w') := by
 simp only [m4v, M4.v, M4.none, Fr.none]
 have hS := Zw.refl w
 have hC := True.intro
 go_enter Tryz.func34, Tryz.ntmps34
 go_wp2
 refine Od ?_ rfl ⟨rfl, ?_⟩
 ·simp [results, Tryz.results34, go_sem, hC]
 ·repeat' (with_reducible first | exact hS.ex | exact Ex.refl _ | assumption | apply Ex.alloc | apply Ex.drewN | apply Ex.drew | refine Ex.setCell ?_ (by simp <;> omega) _)
theorem iMatP (q : Pc) (hv : Yv q.k q.ns = true) (w : World) [hG : Ym w] (hq : q.ok w) : Calls Tryz.prog 34 #[.agg #[.int .u8 q.k.toNat, .slice (some ⟨q.g, 0, none⟩) q.ns.length q.cap, .string q.S]] w (fun e w' => e = .returned (m4v (Vv q.k q.ns)) ∧ Ex w w') := by
 obtain ⟨k, g, cap, cur, ns, S⟩ := q
 obtain ⟨hb, hc⟩ := hq
 simp only at hv hb hc ⊢
 rcases (Vg hv).2.2 with ⟨hk, a, b, rfl, -⟩ | ⟨rfl, a, b, c, rfl, -, -⟩ | ⟨hk, a, b, rfl, h1, h2, h3, h4⟩
 ·have c0 : cur[0]? = some (.int .i64 a) := hc 0 (by simp)
  have c1 : cur[1]? = some (.int .i64 b) := hc 1 (by simp)
  rcases hk with rfl | rfl
  ·exact iMat_r g 2 cap cur S a b (by omega) w hb c0 c1
  ·exact iMat_f g 2 cap cur S a b (by omega) w hb c0 c1
 ·have c0 : cur[0]? = some (.int .i64 a) := hc 0 (by simp)
  have c1 : cur[1]? = some (.int .i64 b) := hc 1 (by simp)
  have c2 : cur[2]? = some (.int .i64 c) := hc 2 (by simp)
  exact iMat_w g 3 cap cur S a b c (by omega) w hb c0 c1 c2
 ·have c0 : cur[0]? = some (.int .i64 a) := hc 0 (by simp)
  have c1 : cur[1]? = some (.int .i64 b) := hc 1 (by simp)
  rcases hk with rfl | rfl
  ·rw [pmat_97]
   exact iMat_a g 2 cap cur S a b (by omega) (by omega) (by omega) w hb c0 c1
  ·exact iMat_d g 2 cap S w
theorem sMat_d (g n cap : Nat) (w : World) : Calls Tryz.prog 64 #[.agg #[.int .u8 100, .slice (some ⟨g, 0, none⟩) n cap]] w (fun e w' => e = .returned (m4v (M4.none, false)) ∧ Ex w w') := by
 simp only [m4v, M4.v, M4.none, Fr.none]
 have hS := Zw.refl w
 have hC := True.intro
 go_enter Tryz.func64, Tryz.ntmps64
 go_wp2
 refine Od ?_ rfl ⟨rfl, ?_⟩
 ·simp [results, Tryz.results64, go_sem, hC]
 ·repeat' (with_reducible first | exact hS.ex | exact Ex.refl _ | assumption | apply Ex.alloc | apply Ex.drewN | apply Ex.drew | refine Ex.setCell ?_ (by simp <;> omega) _)
theorem sMatP (q : Pc) (hv : Yv q.k q.ns = true) (w : World) (hq : q.ok w) : Calls Tryz.prog 64 #[.agg #[.int .u8 q.k.toNat, .slice (some ⟨q.g, 0, none⟩) q.ns.length q.cap]] w (fun e w' => e = .returned (m4v (Vv q.k q.ns)) ∧ Ex w w') := by
 obtain ⟨k, g, cap, cur, ns, S⟩ := q
 obtain ⟨hb, hc⟩ := hq
 simp only at hv hb hc ⊢
 rcases (Vg hv).2.2 with ⟨hk, a, b, rfl, -⟩ | ⟨rfl, a, b, c, rfl, -, -⟩ | ⟨hk, a, b, rfl, h1, h2, h3, h4⟩
 ·have c0 : cur[0]? = some (.int .i64 a) := hc 0 (by simp)
  have c1 : cur[1]? = some (.int .i64 b) := hc 1 (by simp)
  rcases hk with rfl | rfl
  ·exact sMat_r g 2 cap cur a b (by omega) w hb c0 c1
  ·exact sMat_f g 2 cap cur a b (by omega) w hb c0 c1
 ·have c0 : cur[0]? = some (.int .i64 a) := hc 0 (by simp)
  have c1 : cur[1]? = some (.int .i64 b) := hc 1 (by simp)
  have c2 : cur[2]? = some (.int .i64 c) := hc 2 (by simp)
  exact sMat_w g 3 cap cur a b c (by omega) w hb c0 c1 c2
 ·have c0 : cur[0]? = some (.int .i64 a) := hc 0 (by simp)
  have c1 : cur[1]? = some (.int .i64 b) := hc 1 (by simp)
  rcases hk with rfl | rfl
  ·rw [pmat_97]
   exact sMat_a g 2 cap cur a b (by omega) (by omega) (by omega) w hb c0 c1
  ·exact sMat_d g 2 cap w
end
section
open Go.RowKit

attribute [local go_sem] Zq Zp
theorem Qw (l : List UInt8) (hl : l.length ≤ 1048576) (w : World) [hG : Ym w] (hm : Xm w) : Calls Tryz.prog 10 #[.string (Bs l)] w (fun e w' => e = .returned (m4v (Xo l)) ∧ Ex w w') := by
 have KB := Oi (fun w hm => Tg.w (Ua l hl w hm))
 have HRES := Oi (bmatOf_g l)
 generalize Bs l = S at *
 have HG := Oi hG
 have HM := Oi hm
 clear hm hl hG
 have hR := Zw.refl w
 go_enter Tryz.func10, Tryz.ntmps10
 go_upto_region 1 with fail
 have b0 := Box.new w #[.int .i64 0, .int .i64 0, .int .i64 0, .int .i64 0, .int .i64 0, .int .i64 0, .int .i64 0, .int .i64 0, .int .i64 0, .int .i64 0, .int .i64 0, .int .i64 0] 30
 have hE0 : Ex w (w.alloc (.cells #[.int .i64 0, .int .i64 0, .int .i64 0, .int .i64 0, .int .i64 0, .int .i64 0, .int .i64 0, .int .i64 0, .int .i64 0, .int .i64 0, .int .i64 0, .int .i64 0] 30)) := (Ex.refl w).alloc _
 have hz0 : (w.alloc (.cells #[.int .i64 0, .int .i64 0, .int .i64 0, .int .i64 0, .int .i64 0, .int .i64 0, .int .i64 0, .int .i64 0, .int .i64 0, .int .i64 0, .int .i64 0, .int .i64 0] 30)).heap.size = w.heap.size + 1 := Oh _ _
 generalize w.alloc _ = W0 at *
 clear hR
 go_wp2_with fail
 refine (KB.out _ (HM.out.ex hE0)).mono ?_
 rintro e w1 ⟨qs, A, cap, ok0, rfl, hq12, hsl, hps, hx, HBR, HPV⟩
 have hE1 := hE0.trans hx
 have b1 := b0.ex hx
 have hne : w.heap.size ≠ w1.heap.size := by have := hx.size; omega
 clear hE0 b0 hz0 hx KB HM
 have hg := (HG.out.ex hE1).reads
 go_upto_region 3 with fail
 have hB : BM w (w1.alloc (.cells #[.int .i64 1, .int .i64 0, .int .i64 1, .int .i64 0, .int .i64 0, .int .i64 1, .int .i64 0, .int .i64 0, .int .i64 1, .int .i64 1, .int .i64 0, .int .i64 1] 30)) 30 w.heap.size w1.heap.size Z12 A (Yb qs) qs (Yh Rv.l) :=
  ⟨⟨hE1.alloc _, b1.alloc _, Box.new w1 _ _, trivial⟩, hsl.ex ((Ex.refl _).alloc _), hps.ex ((Ex.refl _).alloc _)⟩
 have hlo := hE1.size
 clear hg hE1 b1 hsl hps
 have HBR2 : Hid (Xo l = Wl Un M4.none (qs.map Pc.p) 0 Rv ok0) := Oi (by rw [HRES.out, Qz Un M4.none HBR.out, Bool.and_true])
 have HQL := Oi hq12
 have HB0 := Oi hB
 have HNE := Oi hne
 clear hB hq12 HBR HRES hne
 generalize w1.alloc _ = W1 at *
 generalize w1.heap.size = na at *
 go_wp2_with fail
 go_loopw [21, 5, 8, 9, 10, 11, 12] (fun i o _ _ _ _ _ wr => ∃ (k : Nat) (u : M4) (ok : Bool), i = .int .i64 k ∧ o = .bool ok ∧ k ≤ qs.length ∧ Hid (Xo l = Wl Un M4.none (qs.map Pc.p) k u ok) ∧ Hid (BM w wr 30 w.heap.size na Z12 A (Yb qs) qs (Yh u.l))) (fun i _ _ _ _ _ _ _ => 13 - (intOf i).toNat)
 case atStart => exact ⟨0, Rv, ok0, rfl, rfl, by omega, HBR2, HB0⟩
 case round =>
  clear HB0 HBR2
  obtain ⟨k, u, ok, rfl, rfl, hk, HR, HB⟩ := hrel
  have hq12 := HQL.out
  by_cases hlt : k < qs.length
  ·have hI : (k : Int) < (qs.length : Int) := by omega
   have hw5 : IntKind.i64.wrap ((k : Int) + 1) = (k : Int) + 1 := Oc _ (by omega)
   obtain ⟨b, off, rfl, hc⟩ := HB.out.slc (by rw [Xb]; omega)
   have hat := Rb qs k hlt
   have d0 := hc (3 * k) (by rw [Xb]; omega)
   have d1 := hc (3 * k + 1) (by rw [Xb]; omega)
   have d2 := hc (3 * k + 2) (by rw [Xb]; omega)
   rw [hat.1] at d0
   rw [hat.2.1] at d1
   rw [hat.2.2] at d2
   rw [Nat.mul_comm 3 k] at d0 d1 d2
   rw [← Nat.add_assoc] at d1 d2
   have HST := Oi (fun x ox h => Oq Un M4.none hlt u ok (x := x) (u := ox) h)
   have hmem : qs[k] ∈ qs := List.getElem_mem hlt
   have HV := Oi (HPV.out _ hmem)
   have HO := Oi (HB.out.pcs _ hmem)
   clear hc hat hmem
   generalize qs[k] = q at *
   have kt := fun w (_ : Ym w) ho => iMatP q HV.out w ho
   rcases hT : Vv q.k q.ns with ⟨t, okt⟩
   rcases hA : Zl t u with ⟨x, okx⟩
   have ka := fun w => Xi t u w
   have HR2 : Hid (Xo l = Wl Un M4.none (qs.map Pc.p) (k + 1) x (ok && okt && okx)) := Oi (by
    rw [Bool.and_assoc]
    refine HR.out.trans (HST.out x (okt && okx) ?_)
    show ((Zl (Vv q.k q.ns).1 u).1, (Vv q.k q.ns).2 && (Zl (Vv q.k q.ns).1 u).2) = _
    rw [hT]
    simp only [hA])
   rw [hT] at kt
   rw [hA] at ka
   simp only [m4v, M4.l_arr] at kt ka
   have hone := Xp t.l
   have hux := Sk u.l
   have hxs := Rs x
   have hts := Rs t
   have hus := Rs u
   have hxo := Xp x.l
   generalize Yh t.l = tc at *
   generalize hvu : Yh u.l = uc at *
   generalize hvx : Yh x.l = xc at *
   have KT := Oi kt
   have KA := Oi ka
   have HX := Oi hvx
   have HTS := Oi hts
   have HXS := Oi hxs
   have HUS := Oi hus
   have HUX := Oi hux
   clear kt ka hT hA hvu hvx HST HR HV hts hxs hus hux
   have hB := HB.out
   clear HB
   go_upto_region 6 with fail
   have b9 := Box.new wr #[.int .u8 q.k.toNat, .slice (some ⟨q.g, 0, none⟩) q.ns.length q.cap, .string q.S] 85
   replace hB := hB.ex ((Ex.refl wr).alloc (.cells #[.int .u8 q.k.toNat, .slice (some ⟨q.g, 0, none⟩) q.ns.length q.cap, .string q.S] 85))
   have HO1 := Oi (HO.out.ex ((Ex.refl wr).alloc (.cells #[.int .u8 q.k.toNat, .slice (some ⟨q.g, 0, none⟩) q.ns.length q.cap, .string q.S] 85)))
   generalize wr.alloc _ = W2 at *
   have c9 := b9.cell
   have z9 := b9.lt
   clear d0 d1 d2 HO
   go_wp2_with fail
   refine (KT.out _ (HG.out.ex hB.sees.ex) HO1.out).mono ?_
   clear HO1 b9 c9 z9
   rintro e w2 ⟨rfl, hx⟩
   go_upto_region 7 with (refine wpList_store_row rfl _ _ _ rfl _ _ rfl rfl _ _ (Box.new w2 _ _) (Wo HTS.out) (by rw [HTS.out]; rfl) hone ?_)
   replace hB := hB.ex (hx.trans (((Ex.refl w2).alloc (.cells #[.int .i64 0, .int .i64 0, .int .i64 0, .int .i64 0, .int .i64 0, .int .i64 0, .int .i64 0, .int .i64 0, .int .i64 0, .int .i64 0, .int .i64 0, .int .i64 0] 30)).setRow (Nat.le_refl _) tc))
   have bT := (Box.new w2 #[.int .i64 0, .int .i64 0, .int .i64 0, .int .i64 0, .int .i64 0, .int .i64 0, .int .i64 0, .int .i64 0, .int .i64 0, .int .i64 0, .int .i64 0, .int .i64 0] 30).setRow tc
   generalize (w2.alloc (.cells #[.int .i64 0, .int .i64 0, .int .i64 0, .int .i64 0, .int .i64 0, .int .i64 0, .int .i64 0, .int .i64 0, .int .i64 0, .int .i64 0, .int .i64 0, .int .i64 0] 30)).setRow w2.heap.size tc = W3 at *
   clear hx hone
   have b3 := hB.sees.boxes.2.1
   go_wp2_with (first | (refine wpList_load_row rfl _ _ rfl _ rfl _ _ (0, 0) _ bT Tryz.underlying30 rfl (Wo HTS.out) ?_) | (refine wpList_load_row rfl _ _ rfl _ rfl _ _ (0, 0) _ b3 Tryz.underlying30 rfl (Wo HUS.out) ?_))
   refine (KA.out _).mono ?_
   rintro e w3 ⟨rfl, hx⟩
   go_upto_region 8 with (refine wpList_store_row rfl _ _ _ rfl _ _ rfl rfl _ _ (Box.new w3 _ _) (Wo HXS.out) (by rw [HXS.out]; rfl) hxo ?_)
   replace hB := hB.ex (hx.trans (((Ex.refl w3).alloc (.cells #[.int .i64 0, .int .i64 0, .int .i64 0, .int .i64 0, .int .i64 0, .int .i64 0, .int .i64 0, .int .i64 0, .int .i64 0, .int .i64 0, .int .i64 0, .int .i64 0] 30)).setRow (Nat.le_refl _) xc))
   have bX := (Box.new w3 #[.int .i64 0, .int .i64 0, .int .i64 0, .int .i64 0, .int .i64 0, .int .i64 0, .int .i64 0, .int .i64 0, .int .i64 0, .int .i64 0, .int .i64 0, .int .i64 0] 30).setRow xc
   generalize (w3.alloc (.cells #[.int .i64 0, .int .i64 0, .int .i64 0, .int .i64 0, .int .i64 0, .int .i64 0, .int .i64 0, .int .i64 0, .int .i64 0, .int .i64 0, .int .i64 0, .int .i64 0] 30)).setRow w3.heap.size xc = W4 at *
   clear hx b3 bT
   go_cut [5] (fun s wx => s = .bool (ok && okt && okx) ∧ wx = W4)
   case first =>
    rcases ok with _ | _ <;> rcases okt with _ | _ <;> rcases okx with _ | _
    all_goals
     go_wp2_with fail
     go_meet
     exact ⟨rfl, rfl⟩
   case rest =>
    obtain ⟨rfl, rfl⟩ := hcut
    have b3 := hB.sees.boxes.2.1
    go_wp2_with (first | (refine wpList_load_row rfl _ _ rfl _ rfl _ _ (0, 0) _ bX Tryz.underlying30 rfl (Wo HXS.out) ?_) | (refine wpList_store_row rfl _ _ _ rfl _ _ rfl rfl _ _ b3 (Wo HXS.out) (by rw [HXS.out, HUS.out]) hxo ?_))
    have HB2 : Hid (BM w (wc.setRow na xc) 30 w.heap.size na Z12 (some ⟨b, off, none⟩) (Yb qs) qs (Yh x.l)) := Oi (by rw [HX.out]; exact hB.store hlo HNE.out (by decide) HUX.out (Qk qs) xc)
    clear hB b3 bX hxo
    go_roundw
    case rel => exact ⟨k + 1, x, _, by go_num, rfl, by omega, HR2, HB2⟩
    case measure => simp [intOf] <;> omega
  ·obtain rfl : k = qs.length := by omega
   have HE := HR.out
   rw [Sl] at HE
   have hI : ¬ ((qs.length : Nat) : Int) < (qs.length : Int) := by omega
   have hB := HB.out
   clear HB HR hlt hk HPV HQL hq12
   have b4 := hB.sees.boxes.1
   have b3 := hB.sees.boxes.2.1
   have hE := hB.sees.ex
   have HEE := Oi HE
   clear HE
   rcases ok with _ | _
   ·have c4 := b4.cell
    have f4 := b4.frozen
    have z4 := b4.lt
    unfold Z12 at c4
    go_wp2
    refine Od (v := .tuple #[.agg #[.int .i64 0, .int .i64 0, .int .i64 0, .int .i64 0, .int .i64 0, .int .i64 0, .int .i64 0, .int .i64 0, .int .i64 0, .int .i64 0, .int .i64 0, .int .i64 0], .bool false]) ?_ rfl ⟨by rw [HEE.out]; rfl, ?_⟩
    ·simp [results, Tryz.results10, go_sem, c4]
    ·repeat' (with_reducible first | exact hE | refine Ex.setCell ?_ (by simp <;> omega) _)
   ·have hus := Rs u
    have huo := Xp u.l
    go_wp2_with (first | (refine wpList_load_row rfl _ _ rfl _ rfl _ _ (0, 0) _ b3 Tryz.underlying30 rfl (Wo hus) ?_) | (refine wpList_store_row rfl _ _ _ rfl _ _ rfl rfl _ _ b4 (Wo hus) rfl huo ?_))
    exact Od (Wa Tryz.results10 _ _ _ _ _ (0, 0) _ rfl (b4.setRow _) Tryz.underlying30 rfl (Wo hus)) rfl ⟨by rw [HEE.out]; rfl, hE.setRow (Nat.le_refl _) _⟩
end
section
open Go.RowKit

attribute [local go_sem] Zq Zp
theorem On {w w' : World} (h : Ex w w') (row : Option Nat) : w.grownBy w' row := ⟨h.os, h.tape, h.output, h.size, fun k hk _ => Below.block h k hk⟩
theorem grown_set {w : World} {bc i : Nat} {u : Value} : w.grownBy (w.setCell ⟨bc, i, none⟩ u) (some bc) := ⟨rfl, rfl, rfl, by simp, fun k _ hk => Below.heap_setCell _ _ _ _ (fun e => hk (by rw [e]))⟩
theorem grown_trans {w w1 w2 : World} {row : Option Nat} (h : w.grownBy w1 row) (k : w1.grownBy w2 row) : w.grownBy w2 row :=
 ⟨k.os.trans h.os, k.tape.trans h.tape, k.output.trans h.output, Nat.le_trans h.size k.size, fun i hi hne => (k.block i (Nat.lt_of_lt_of_le hi h.size) hne).trans (h.block i hi hne)⟩
theorem Tx {bc : Nat} {w w' : World} {c : Con} {o : ByteArray} {ok told : Bool} {a : List UInt8} (hb : Box w bc 67 c.cells) (ha : answer o ok told = Bs a) (hx : Ex w w') :
  Si bc w (c, a) (.returned (.tuple #[.string o, .bool ok, .bool told])) w' := ⟨o, ok, told, rfl, ha, On hx _, hb.ex hx⟩
theorem word_show (c : Con) (bc : Nat) (w : World) (hb : Box w bc 67 c.cells) : Calls Tryz.prog 30 #[.pointer (some ⟨bc, 0, none⟩), .string ⟨#[115, 104, 111, 119]⟩] w (Si bc w (c, if c.b = [] then [45] else c.b)) := by
 have c0 := hb.cell
 have z0 := hb.lt
 unfold Con.cells at c0
 by_cases he : c.b = []
 ·rw [if_pos he]
  rw [he] at c0
  have e : Bs [] = (⟨#[]⟩ : ByteArray) := rfl
  rw [e] at c0
  go_enter Tryz.func30, Tryz.ntmps30
  go_wp2
  refine Od (v := .tuple #[.string ⟨#[45]⟩, .bool true, .bool true]) ?_ rfl (Tx hb rfl (Ex.refl _))
  simp [results, Tryz.results30, go_sem]
 ·rw [if_neg he]
  have hne := Vf (Bs_ne he)
  have e : Bs [] = (⟨#[]⟩ : ByteArray) := rfl
  rw [e] at hne
  obtain ⟨S, HS⟩ : ∃ S, Hid (S = Bs c.b) := ⟨_, Oi rfl⟩
  rw [← HS.out] at c0 hne
  have hne2 : S.toList.isEmpty = false := by simpa using hne
  clear hne he e
  go_enter Tryz.func30, Tryz.ntmps30
  go_wp2
  refine Od (v := .tuple #[.string S, .bool true, .bool true]) ?_ rfl (Tx hb HS.out (Ex.refl _))
  simp [results, Tryz.results30, go_sem]
def Wt (b : List UInt8) : List UInt8 := if (Xo b).2 && mless (Xo b).1 then [121, 101, 115] else [110, 111, 116]
theorem word_keeps (c : Con) (hl : c.b.length ≤ 1048576) (bc : Nat) (w : World) (hG : Ym w) (hm : Xm w) (hb : Box w bc 67 c.cells) :
  Calls Tryz.prog 30 #[.pointer (some ⟨bc, 0, none⟩), .string ⟨#[107, 101, 101, 112, 115]⟩] w (Si bc w (c, Wt c.b)) := by
 have c0 := hb.cell
 have z0 := hb.lt
 unfold Con.cells at c0
 have k1 := fun w (_ : Ym w) hm => Qw c.b hl w hm
 obtain ⟨r, HR⟩ : ∃ r, Hid (r = Wt c.b) := ⟨_, Oi rfl⟩
 rw [← HR.out]
 unfold Wt at HR
 generalize Bs c.b = S at *
 rcases hB : Xo c.b with ⟨m, ok⟩
 rw [hB] at HR k1
 clear hB hl
 have k2 := fun w (_ : Ym w) => Rq m w
 generalize mless m = ml at k2 HR
 obtain ⟨⟨m1, m2, m3⟩, ⟨m4, m5, m6⟩, ⟨m7, m8, m9⟩, ⟨n1, n2, n3⟩⟩ := m
 simp only [m4v, M4.v] at k1 k2 HR
 have K1 := Oi k1
 have K2 := Oi k2
 have HM := Oi hm
 have HG := Oi hG
 clear k1 k2 hm hG
 have hS := Zw.refl w
 have hC := True.intro
 rcases ok with _ | _
 ·have e := HR.out
  simp only [Bool.false_and, Bool.false_eq_true, if_false] at e
  subst e
  clear HR
  go_enter Tryz.func30, Tryz.ntmps30
  go_wp2_with (go_at_call 10; (with_reducible refine (K1.out _ (HG.out.ex hS.ex) (HM.out.ex hS.ex)).mono ?_); rintro e wn ⟨rfl, hx⟩; replace hS := Zw.after (W := w) hx; clear hx; replace hC := hS.reads; simp only [Zz, Zy, Oh] at hC)
  refine Od (v := .tuple #[.string ⟨#[110, 111, 116]⟩, .bool true, .bool true]) ?_ rfl (Tx hb rfl ?_)
  ·simp [results, Tryz.results30, go_sem, hC]
  ·repeat' (with_reducible first | exact hS.ex | exact Ex.refl _ | assumption | apply Ex.alloc | apply Ex.drewN | apply Ex.drew | refine Ex.setCell ?_ (by simp <;> omega) _)
 ·rcases ml with _ | _
  all_goals
   have e := HR.out
   simp only [Bool.and_false, Bool.and_self, Bool.false_eq_true, if_false, if_true] at e
   subst e
   clear HR
   go_enter Tryz.func30, Tryz.ntmps30
   go_wp2_with (first | (go_at_call 10; (with_reducible refine (K1.out _ (HG.out.ex hS.ex) (HM.out.ex hS.ex)).mono ?_); rintro e wn ⟨rfl, hx⟩; replace hS := Zw.after (W := w) hx; clear hx; replace hC := hS.reads; simp only [Zz, Zy, Oh] at hC) | (go_at_call 11; (with_reducible refine (K2.out _ (HG.out.ex (hS.ex.alloc _))).mono ?_); rintro e wn ⟨rfl, hx⟩; replace hS := Zw.after (W := w) hx; clear hx; replace hC := hS.reads; simp only [Zz, Zy, Oh] at hC))
   first
    | refine Od (v := .tuple #[.string ⟨#[110, 111, 116]⟩, .bool true, .bool true]) ?_ rfl (Tx hb rfl ?_)
    | refine Od (v := .tuple #[.string ⟨#[121, 101, 115]⟩, .bool true, .bool true]) ?_ rfl (Tx hb rfl ?_)
   ·simp [results, Tryz.results30, go_sem, hC]
   ·repeat' (with_reducible first | exact hS.ex | exact Ex.refl _ | assumption | apply Ex.alloc | apply Ex.drewN | apply Ex.drew | refine Ex.setCell ?_ (by simp <;> omega) _)
theorem change_any (c : Con) (S : ByteArray) (s : List UInt8) (hS : S = Bs s) (ok : Bool) (bc : Nat) (w : World) (hb : Box w bc 67 c.cells) :
  Calls Tryz.prog 74 #[.pointer (some ⟨bc, 0, none⟩), .string S, .bool ok] w fun e w' => e = .returned (.tuple #[.string ⟨#[111, 107]⟩, .bool ok]) ∧ w.grownBy w' (some bc) ∧ Box w' bc 67 (if ok then (⟨s, c.x, c.y⟩ : Con) else c).cells := by
 have c0 := hb.cell
 have f0 := hb.frozen
 have z0 := hb.lt
 have HB := Oi hb
 unfold Con.cells at c0
 rcases ok with _ | _
 ·go_enter Tryz.func74, Tryz.ntmps74
  go_wp2
  refine Od (v := .tuple #[.string ⟨#[111, 107]⟩, .bool false]) ?_ rfl ⟨rfl, On (Ex.refl _) _, hb⟩
  simp [results, Tryz.results74, go_sem]
 ·go_enter Tryz.func74, Tryz.ntmps74
  go_wp2
  refine Od (v := .tuple #[.string ⟨#[111, 107]⟩, .bool true]) ?_ rfl ⟨rfl, grown_set, ?_⟩
  ·simp [results, Tryz.results74, go_sem]
  ·have h := HB.out.set_ 0 (.string S)
   unfold Con.cells at h
   subst hS
   try rw [if_pos rfl]
   unfold Con.cells
   simpa using h
def Ve (c : Con) (s : List UInt8) : Con × List UInt8 := if (Zj s).isSome then (⟨s, c.x, c.y⟩, [111, 107]) else (c, [110, 111])
theorem rest_bench (c : Con) (s : List UInt8) (hl : s.length ≤ 1048576) (bc : Nat) (w : World) (hm : Xm w) (hb : Box w bc 67 c.cells) :
  Calls Tryz.prog 29 #[.pointer (some ⟨bc, 0, none⟩), .string ⟨#[98, 101, 110, 99, 104]⟩, .string (Bs s)] w (Si bc w (Ve c s)) := by
 have z0 := hb.lt
 have k1 := fun w hm => Qj s hl w hm
 obtain ⟨S, HS⟩ : ∃ S, Hid (S = Bs s) := ⟨_, Oi rfl⟩
 rw [← HS.out] at k1 ⊢
 obtain ⟨r, HR⟩ : ∃ r, Hid (r = Ve c s) := ⟨_, Oi rfl⟩
 rw [← HR.out]
 unfold Ve at HR
 generalize (Zj s).isSome = ok at k1 HR
 have K1 := Oi k1
 have HM := Oi hm
 have HB := Oi hb
 clear k1 hm hb hl
 go_enter Tryz.func29, Tryz.ntmps29
 go_wp2_with fail
 refine (K1.out _ HM.out).mono ?_
 rintro e w1 ⟨rfl, hx⟩
 go_wp2_with fail
 refine (change_any c S s HS.out ok bc _ (HB.out.ex hx)).mono ?_
 rintro e w2 ⟨rfl, hg, hb2⟩
 have HB2 := Oi hb2
 have HGr := Oi (grown_trans (On hx (some bc)) hg)
 clear hx hg hb2 z0
 rcases ok with _ | _
 all_goals
  have e := HR.out
  simp only [Bool.false_eq_true, if_false, if_true] at e HB2
  subst e
  go_wp2
 ·refine Od (v := .tuple #[.string ⟨#[111, 107]⟩, .bool false, .bool true]) ?_ rfl ⟨_, _, _, rfl, rfl, HGr.out, HB2.out⟩
  simp [results, Tryz.results29, go_sem]
 ·refine Od (v := .tuple #[.string ⟨#[111, 107]⟩, .bool true, .bool true]) ?_ rfl ⟨_, _, _, rfl, rfl, HGr.out, HB2.out⟩
  simp [results, Tryz.results29, go_sem]
end
section
open Go.RowKit

theorem ba_of (s : ByteArray) : s = Bs s.data.toList := Wv (by simp [Bs])
theorem Zw.exOf {W w : World} {L : List (Nat × TypeId × Array Value)} [h : Zw W w L] : Ex W w := h.ex
theorem cutl_at (a t : List UInt8) (h : ∀ c ∈ a, c ≠ 32) : Sx (a ++ 32 :: t) = (a, t, true) := by
 have key : ∀ a : List UInt8, (∀ c ∈ a, c ≠ 32) → Lib.index (a ++ 32 :: t) [32] = (a.length : Nat) := by
  intro a
  induction a with
  | nil =>
   intro _
   simp [Lib.index, List.isPrefixOf]
  | cons b a ih =>
   intro h
   have hb : b ≠ 32 := h b List.mem_cons_self
   have hp : ([32] : List UInt8).isPrefixOf (b :: (a ++ 32 :: t)) = false := by
    simp [List.isPrefixOf]
    exact fun e => hb e.symm
   have h1 := ih fun c hc => h c (List.mem_cons_of_mem _ hc)
   rw [List.cons_append]
   unfold Lib.index
   rw [hp, h1]
   have : (((a.length : Nat) : Int) == -1) = false := by rw [beq_eq_false_iff_ne]; omega
   simp [this]
 have e := key a h
 unfold Sx Lib.cut
 rw [e, if_pos (by omega)]
 have e2 : ((a.length : Nat) : Int).toNat = a.length := by omega
 rw [e2]
 have e3 : (a ++ 32 :: t).take a.length = a := List.take_left' rfl
 have e4 : (a ++ 32 :: t).drop (a.length + ([32] : List UInt8).length) = t := by
  have : a ++ 32 :: t = (a ++ [32]) ++ t := by simp
  rw [this]
  exact List.drop_left' (by simp)
 rw [e3, e4]
def Wc : List UInt8 := [115, 104, 111, 119]
def Wf : List UInt8 := [107, 101, 101, 112, 115]
def Xy (s : List UInt8) : List UInt8 := [98, 101, 110, 99, 104] ++ 32 :: s
theorem Sh (s : List UInt8) : Sx (Xy s) = ([98, 101, 110, 99, 104], s, true) := cutl_at _ _ (by decide)
theorem cutl_show : Sx Wc = (Wc, [], false) := by decide
theorem cutl_keeps : Sx Wf = (Wf, [], false) := by decide
def stB (c : Con) (l : List UInt8) : Con × List UInt8 := if l = Wc then (c, if c.b = [] then [45] else c.b) else if l = Wf then (c, Wt c.b) else Ve c (Sx l).2.1
def QB (c : Con) : Prop := c.b.length ≤ 200
theorem lineShow : Qv stB QB Wc := by
 intro c hQ
 have e : stB c Wc = (c, if c.b = [] then [45] else c.b) := if_pos rfl
 rw [e, cutl_show]
 refine ⟨hQ, ?_, fun bc w hG hm hb => ?_⟩
 ·unfold QB at hQ
  simp only
  split
  ·simp
  ·omega
 ·simp only [Bool.false_eq_true, if_false]
  exact word_show c bc w hb
theorem lineKeeps : Qv stB QB Wf := by
 intro c hQ
 have e : stB c Wf = (c, Wt c.b) := by
  unfold stB
  rw [if_neg (by decide), if_pos rfl]
 rw [e, cutl_keeps]
 refine ⟨hQ, ?_, fun bc w hG hm hb => ?_⟩
 ·simp only [Wt]
  split <;> simp
 ·simp only [Bool.false_eq_true, if_false]
  exact word_keeps c (by unfold QB at hQ; omega) bc w hG hm hb
theorem Qu (c : Con) (s : List UInt8) : stB c (Xy s) = Ve c s := by
 unfold stB
 rw [if_neg (by simp [Xy, Wc]), if_neg (by simp [Xy, Wf]), Sh]
theorem lineBench (s : List UInt8) (hs : s.length ≤ 1048576) : Qv stB QB (Xy s) := by
 intro c hQ
 rw [Qu, Sh]
 refine ⟨?_, ?_, fun bc w hG hm hb => ?_⟩
 ·unfold Ve
  split
  ·rename_i h
   obtain ⟨ps, hp⟩ := Option.isSome_iff_exists.1 h
   have := (Xa hp).1
   show s.length ≤ 200
   omega
  ·exact hQ
 ·unfold Ve
  split <;> simp
 ·simp only [if_true]
  exact rest_bench c s hs bc w hm hb
theorem piecesQ (c : Con) (hQ : QB c) (w : World) (_ : Ym w) (hm : Xm w) : Calls Tryz.prog 13 #[.string (Bs c.b)] w fun e w' => e = .returned (.int .i64 (Wk c.b)) ∧ Ex w w' := Ty c.b (by unfold QB at hQ; omega) w hm
def tShow : List UInt8 := Wc ++ [10]
theorem exec_show : exec stB tShow = [45, 10, 112, 105, 101, 99, 101, 115, 32, 48, 10] := by
 have e1 : (lns tShow).dropLast = [Wc] := by decide
 unfold exec
 rw [e1]
 have e2 : Rr stB Con.new [Wc] [] = (Con.new, [45, 10]) := by
  simp [Rr, stB, Con.new]
 rw [e2]
 have e3 : Wk Con.new.b = 0 := rfl
 have e4 : Lib.itoa 0 = [48] := by
  rw [show (0 : Int) = ((0 : Nat) : Int) from rfl, Lib.itoa_nonneg, Xj (by decide)]
  rfl
 unfold said
 rw [e3, e4]
 rfl
def Sg (s : List UInt8) : List UInt8 := Xy s ++ 10 :: (Wc ++ 10 :: (Wf ++ 10 :: []))
theorem lns_bench (s : List UInt8) (h : ∀ b ∈ s, b ≠ 10) : (lns (Sg s)).dropLast = [Xy s, Wc, Wf] := by
 unfold Sg
 have hb : ∀ c ∈ Xy s, c ≠ 10 := by
  intro c hc
  unfold Xy at hc
  simp only [List.mem_append, List.mem_cons, List.not_mem_nil, or_false] at hc
  rcases hc with (rfl | rfl | rfl | rfl | rfl) | rfl | hc
  ·decide
  ·decide
  ·decide
  ·decide
  ·decide
  ·decide
  ·exact h c hc
 rw [Sy _ _ hb, Sy Wc _ (by decide), Sy Wf _ (by decide)]
 rfl
theorem exec_bench {s : List UInt8} {ps : List (UInt8 × List Int)} (hv : Zj s = some ps) (hne : s ≠ []) :
  exec stB (Sg s) = [111, 107, 10] ++ s ++ [10] ++ Wt s ++ [10, 112, 105, 101, 99, 101, 115, 32] ++ Lib.itoa (Wk s) ++ [10] := by
 have ht := (Xa hv).2.1
 unfold exec
 rw [lns_bench s ht]
 have e1 : stB Con.new (Xy s) = (⟨s, ⟨1, 0, 1⟩, ⟨0, 0, 1⟩⟩, [111, 107]) := by
  rw [Qu]
  unfold Ve
  rw [hv]
  rfl
 have e2 : Rr stB Con.new [Xy s, Wc, Wf] [] = (⟨s, ⟨1, 0, 1⟩, ⟨0, 0, 1⟩⟩, ([111, 107, 10] ++ (s ++ [10])) ++ (Wt s ++ [10])) := by
  have h1 : stB ⟨s, ⟨1, 0, 1⟩, ⟨0, 0, 1⟩⟩ Wc = (⟨s, ⟨1, 0, 1⟩, ⟨0, 0, 1⟩⟩, s) := by
   unfold stB
   rw [if_pos rfl, if_neg hne]
  have h2 : stB ⟨s, ⟨1, 0, 1⟩, ⟨0, 0, 1⟩⟩ Wf = (⟨s, ⟨1, 0, 1⟩, ⟨0, 0, 1⟩⟩, Wt s) := by
   unfold stB
   rw [if_neg (by decide), if_pos rfl]
  simp only [Rr, e1, h1, h2]
  simp
 rw [e2]
 unfold said
 simp
end
end Go.Proofs.YtmjggolkopbcnaaGreatDoor
