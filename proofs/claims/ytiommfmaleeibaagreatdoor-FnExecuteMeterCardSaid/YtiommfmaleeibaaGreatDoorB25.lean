/-
  Proved: what functions compute, part 25. No condition.
-/
import Derived.Test.YtiommfmaleeibaaGreatDoorB24
import Derived.Test.YtiommfmaleeibaaGreatDoorB12
import Derived.Test.YtiommfmaleeibaaGreatDoorB11
import Derived.Test.YtiommfmaleeibaaGreatDoorB16
import Derived.Test.YtiommfmaleeibaaGreatDoorB20
import Derived.Test.YtiommfmaleeibaaGreatDoorB22
import Derived.Deep.RegionHeld3
import Derived.Test.YtiommfmaleeibaaGreatDoorB10
set_option linter.unusedSimpArgs false
set_option linter.unusedVariables false
set_option maxRecDepth 20000
set_option maxHeartbeats 8000000
namespace Go.Proofs.YtiommfmaleeibaaGreatDoor
section
open Go.RowKit

attribute [local go_sem] Zi Zh
section
variable {W w : World} {bs : Nat} {b : Bool} {L : List (Nat × TypeId × Array Value)} {a1 a2 a3 x y z : Int} {k : Bool}
theorem real_det (hB : Zt W w bs b L) (hr : Wz ⟨a1, a2, a3⟩ = (⟨x, y, z⟩, k)) : Calls Tryz.prog 55 #[.pointer (some ⟨bs, 0, none⟩), .agg #[.int .i64 a1, .int .i64 a2, .int .i64 a3]] w fun e w' => e = .returned (.agg #[.int .i64 x, .int .i64 y, .int .i64 z]) ∧ Zt W w' bs (b || !k) L ∧ Sm bs w w' := Tu hB (Tt bs b ⟨a1, a2, a3⟩ w hB.sum) hr
theorem imag_det (hB : Zt W w bs b L) (hr : Wy ⟨a1, a2, a3⟩ = (⟨x, y, z⟩, k)) : Calls Tryz.prog 56 #[.pointer (some ⟨bs, 0, none⟩), .agg #[.int .i64 a1, .int .i64 a2, .int .i64 a3]] w fun e w' => e = .returned (.agg #[.int .i64 x, .int .i64 y, .int .i64 z]) ∧ Zt W w' bs (b || !k) L ∧ Sm bs w w' := Tu hB (Ts bs b ⟨a1, a2, a3⟩ w hB.sum) hr
end
theorem iStokesOf (x y : Fr) (w : World) : Calls Tryz.prog 16 #[jvv x y] w (fun e w' => e = .returned (m4v (sof x y)) ∧ Ex w w') := by
 have kv := fun w => iJonesValid x y w
 have hq : sof x y = if (x.valid && y.valid && (Zj x).2 && (Zj y).2 && (Ze y).2 && (Zu x (Ze y).1).2 && (Wz (Zu x (Ze y).1).1).2 && (Wy (Zu x (Ze y).1).1).2) && (Za (Zj x).1 (Zj y).1).2 && (Xy (Zj x).1 (Zj y).1).2 && (Zu ⟨2, 0, 1⟩ (Wz (Zu x (Ze y).1).1).1).2 && (Zu ⟨2, 0, 1⟩ (Wy (Zu x (Ze y).1).1).1).2 then (⟨(Za (Zj x).1 (Zj y).1).1, (Xy (Zj x).1 (Zj y).1).1, (Zu ⟨2, 0, 1⟩ (Wz (Zu x (Ze y).1).1).1).1, (Zu ⟨2, 0, 1⟩ (Wy (Zu x (Ze y).1).1).1).1⟩, true) else (M4.none, false) := rfl
 obtain ⟨x1, x2, x3⟩ := x
 obtain ⟨y1, y2, y3⟩ := y
 simp only [jvv] at kv ⊢
 generalize (Fr.valid _ && Fr.valid _) = jv at kv hq
 generalize sof _ _ = sq at hq ⊢
 rcases ep : Zj ⟨x1, x2, x3⟩ with ⟨⟨p1, p2, p3⟩, kp⟩
 simp only [ep] at hq
 rcases eq : Zj ⟨y1, y2, y3⟩ with ⟨⟨q1, q2, q3⟩, kq⟩
 simp only [eq] at hq
 rcases em : Ze ⟨y1, y2, y3⟩ with ⟨⟨m1, m2, m3⟩, km⟩
 simp only [em] at hq
 rcases et : Zu ⟨x1, x2, x3⟩ ⟨m1, m2, m3⟩ with ⟨⟨t1, t2, t3⟩, kt⟩
 simp only [et] at hq
 rcases er : Wz ⟨t1, t2, t3⟩ with ⟨⟨r1, r2, r3⟩, kr⟩
 simp only [er] at hq
 rcases ei : Wy ⟨t1, t2, t3⟩ with ⟨⟨i1, i2, i3⟩, ki⟩
 simp only [ei] at hq
 rcases eu : Za ⟨p1, p2, p3⟩ ⟨q1, q2, q3⟩ with ⟨⟨u1, u2, u3⟩, ku⟩
 simp only [eu] at hq
 rcases el : Xy ⟨p1, p2, p3⟩ ⟨q1, q2, q3⟩ with ⟨⟨l1, l2, l3⟩, kl⟩
 simp only [el] at hq
 rcases ec : Zu ⟨2, 0, 1⟩ ⟨r1, r2, r3⟩ with ⟨⟨c1, c2, c3⟩, kc⟩
 simp only [ec] at hq
 rcases ed : Zu ⟨2, 0, 1⟩ ⟨i1, i2, i3⟩ with ⟨⟨d1, d2, d3⟩, kd⟩
 simp only [ed] at hq
 have HEP := Kw ep
 have HEQ := Kw eq
 have HEM := Kw em
 have HET := Kw et
 have HER := Kw er
 have HEI := Kw ei
 have HEU := Kw eu
 have HEL := Kw el
 have HEC := Kw ec
 have HED := Kw ed
 have HQ := Kw hq
 have KV := Kw kv
 clear ep eq em et er ei eu el ec ed hq kv
 have hR := Zw.refl w
 go_enter Tryz.func16, Tryz.ntmps16
 go_upto_region 1 with fail
 have hV : Zw w ((w.alloc (.cells #[.int .i64 x1, .int .i64 x2, .int .i64 x3, .int .i64 y1, .int .i64 y2, .int .i64 y3] 39)).alloc (.cells #[.int .i64 0, .int .i64 0, .int .i64 0, .int .i64 0, .int .i64 0, .int .i64 0, .int .i64 0, .int .i64 0, .int .i64 0, .int .i64 0, .int .i64 0, .int .i64 0] 35)) _ := inferInstance
 clear hR
 have hle : w.heap.size ≤ ((w.alloc (.cells #[.int .i64 x1, .int .i64 x2, .int .i64 x3, .int .i64 y1, .int .i64 y2, .int .i64 y3] 39)).alloc (.cells #[.int .i64 0, .int .i64 0, .int .i64 0, .int .i64 0, .int .i64 0, .int .i64 0, .int .i64 0, .int .i64 0, .int .i64 0, .int .i64 0, .int .i64 0, .int .i64 0] 35)).heap.size := hV.ex.size
 simp only [Kv] at hV
 generalize (w.alloc (.cells #[.int .i64 x1, .int .i64 x2, .int .i64 x3, .int .i64 y1, .int .i64 y2, .int .i64 y3] 39)).alloc (.cells #[.int .i64 0, .int .i64 0, .int .i64 0, .int .i64 0, .int .i64 0, .int .i64 0, .int .i64 0, .int .i64 0, .int .i64 0, .int .i64 0, .int .i64 0, .int .i64 0] 35) = W0 at *
 have hW : Zt w (W0.alloc (.cells #[.bool false] 92)) W0.heap.size false _ := Zt.start (h := hV)
 have hC := hW.reads
 simp only [Zz, Zy] at hC
 go_upto_region 2 with (first | (go_at_call 47; (with_reducible refine (KV.out _).mono ?_); rintro e w1 ⟨rfl, hx⟩; have hW1 := Zt.ex hW hx; clear hx) | (go_at_call 46; (with_reducible refine (Uz _ _ _ _ hW1.sum).mono ?_); rintro e w2 ⟨rfl, hs, hb⟩; have hW2 := Zt.call hW1 hs hb; clear hs hb))
 have hS := hW2
 clear hC hW hW1 hW2 hV
 have hS0 := hS
 have hbs0 := hS0.sum.lt
 refine Zm (St := Sm W0.heap.size) (B := fun b w' => InS _ W0.heap.size _ b w') 8 2 0 _ 30 (fun i => match i with | 0 => 5 | _ => 6) (fun i => match i with | 0 => 17 | _ => 21) (fun i => match i with | 0 => #[.int .i64 0, .int .i64 0, .int .i64 0] | _ => #[.int .i64 0, .int .i64 0, .int .i64 0]) (fun i => match i with | 0 => #[.int .i64 p1, .int .i64 p2, .int .i64 p3] | _ => #[.int .i64 q1, .int .i64 q2, .int .i64 q3]) _ (by kernel_rfl) (by kernel_rfl) (InS.drew (InS.start hS0)) (by intro x y h1 h2 h3; revert h3; match x, y, h1, h2 with | 0, 0, _, _ => decide | 0, 1, _, _ => decide | 1, 0, _, _ => decide | 1, 1, _, _ => decide) (by intro x y h1 h2; match x, y, h1, h2 with | 0, 0, _, _ => decide | 0, 1, _, _ => decide | 1, 0, _, _ => decide | 1, 1, _, _ => decide) (fun _ _ h g cs hg hb => h.box _ _ _ (Nat.ne_of_gt (Nat.lt_of_lt_of_le hbs0 hg)) hb) (fun _ _ cs h => h.alloc _) (fun _ _ h => h.size) ?_
 iterate 3 (apply Zx; (· rfl); (· intro b wb hB Q1 hQ1; have hS := hB.sees; have hC := hS.reads; simp only [Zz, Zy] at hC; go_wp2_with fail; exact hQ1 _ (Sm.refl _ _) hB); (· exact ⟨_, rfl⟩))
 (apply Zp; (· rfl); (· intro b wb hB Q1 hQ1; go_wp2_with (go_at_call 48; (with_reducible refine (Uc hB.sees HEP.out).mono ?_); rintro e wn ⟨rfl, hN, hM⟩); exact hQ1 _ hM (hB.call hN)); (· exact ⟨_, rfl⟩))
 iterate 3 (apply Zx; (· rfl); (· intro b wb hB Q1 hQ1; have hS := hB.sees; have hC := hS.reads; simp only [Zz, Zy] at hC; go_wp2_with fail; exact hQ1 _ (Sm.refl _ _) hB); (· exact ⟨_, rfl⟩))
 (apply Zp; (· rfl); (· intro b wb hB Q1 hQ1; go_wp2_with (go_at_call 48; (with_reducible refine (Uc hB.sees HEQ.out).mono ?_); rintro e wn ⟨rfl, hN, hM⟩); exact hQ1 _ hM (hB.call hN)); (· exact ⟨_, rfl⟩))
 refine Zq ?_
 refine ⟨fun i hi => ?_, fun i hi => ?_, fun i hi => ?_, fun gg wz hz hbx hne => ?_⟩
 ·obtain rfl | rfl : i = 0 ∨ i = 1 := by omega
  all_goals exact ⟨_, rfl, Zb⟩
 ·obtain rfl | rfl : i = 0 ∨ i = 1 := by omega
  all_goals exact ⟨_, rfl, Zf Yv rfl (by kernel_rfl) (fun _ _ _ hg h => h.setRow hg _)⟩
 ·obtain rfl | rfl : i = 0 ∨ i = 1 := by omega
  ·exact (show (5 : Nat) < 57 by decide)
  ·exact (show (6 : Nat) < 57 by decide)
 obtain ⟨hg5, hb5⟩ := hbx 0 (by omega)
 obtain ⟨hg6, hb6⟩ := hbx 1 (by omega)
 replace hS := InS.join hS0 hz
 replace hS := Zt.put hS hb5 (by omega)
 replace hS := Zt.put hS hb6 (by omega)
 simp only [frN, Act.put, Ku, Kt, Ks, Nat.reduceAdd, List.drop_succ_cons, List.drop_zero]
 generalize gg 0 = g5 at *
 generalize gg 1 = g6 at *
 clear hbx hz hS0 hne
 simp only at hS
 clear hb5 hb6
 go_upto_region 3 with fail
 have hS0 := hS
 have hbs0 := hS0.sum.lt
 refine Zm (St := Sm W0.heap.size) (B := fun b w' => InS _ W0.heap.size _ b w') 8 1 0 _ 30 (fun _ => 7) (fun _ => 29) (fun _ => #[.int .i64 0, .int .i64 0, .int .i64 0]) (fun _ => #[.int .i64 t1, .int .i64 t2, .int .i64 t3]) _ (by kernel_rfl) (by kernel_rfl) (InS.drew (InS.start hS0)) (by intro x y h1 h2 h3; revert h3; match x, y, h1, h2 with | 0, 0, _, _ => decide) (by intro x y h1 h2; match x, y, h1, h2 with | 0, 0, _, _ => decide) (fun _ _ h g cs hg hb => h.box _ _ _ (Nat.ne_of_gt (Nat.lt_of_lt_of_le hbs0 hg)) hb) (fun _ _ cs h => h.alloc _) (fun _ _ h => h.size) ?_
 iterate 6 (apply Zx; (· rfl); (· intro b wb hB Q1 hQ1; have hS := hB.sees; have hC := hS.reads; simp only [Zz, Zy] at hC; go_wp2_with fail; exact hQ1 _ (Sm.refl _ _) hB); (· exact ⟨_, rfl⟩))
 (apply Zp; (· rfl); (· intro b wb hB Q1 hQ1; go_wp2_with (go_at_call 50; (with_reducible refine (Wh hB.sees HEM.out).mono ?_); rintro e wn ⟨rfl, hN, hM⟩); exact hQ1 _ hM (hB.call hN)); (· exact ⟨_, rfl⟩))
 (apply Zp; (· rfl); (· intro b wb hB Q1 hQ1; go_wp2_with (go_at_call 49; (with_reducible refine (Ye hB.sees HET.out).mono ?_); rintro e wn ⟨rfl, hN, hM⟩); exact hQ1 _ hM (hB.call hN)); (· exact ⟨_, rfl⟩))
 refine Zq ?_
 refine ⟨fun i hi => ?_, fun i hi => ?_, fun i hi => ?_, fun gg wz hz hbx hne => ?_⟩
 ·obtain rfl : i = 0 := by omega
  all_goals exact ⟨_, rfl, Zb⟩
 ·obtain rfl : i = 0 := by omega
  all_goals exact ⟨_, rfl, Zf Yv rfl (by kernel_rfl) (fun _ _ _ hg h => h.setRow hg _)⟩
 ·obtain rfl : i = 0 := by omega
  ·exact (show (7 : Nat) < 57 by decide)
 obtain ⟨hg7, hb7⟩ := hbx 0 (by omega)
 replace hS := InS.join hS0 hz
 replace hS := Zt.put hS hb7 (by omega)
 simp only [frN, Act.put, Ku, Kt, Ks, Nat.reduceAdd, List.drop_succ_cons, List.drop_zero]
 generalize gg 0 = g7 at *
 clear hbx hz hS0 hne
 simp only at hS
 clear hb7
 have KWh := Kw (fun w => iWhole 2 w)
 go_upto_region 5 with (go_at_call 51; (with_reducible refine (KWh.out _).mono ?_); rintro e w4 ⟨rfl, hx⟩; replace hS := Zt.ex hS hx; clear hx)
 replace hS := Zt.alloc (h := hS) (cs := #[.int .i64 2, .int .i64 0, .int .i64 1]) (t := 30)
 generalize w4.alloc _ = W4 at *
 generalize w4.heap.size = g8 at *
 refine Zd (St := fun _ _ => True) 23 _ (B := fun b w2 => Zt w w2 W0.heap.size b _) (by kernel_rfl) (by kernel_rfl) (hS.drewW) (by exact fun _ _ _ _ _ h => h) ?_
 iterate 4 (apply Zx; (· rfl); (· intro b wb hB Q1 hQ1; have hS := hB; have hC := hS.reads; simp only [Zz, Zy] at hC; go_wp2_with fail; exact hQ1 _ trivial hB); (· exact ⟨_, rfl⟩))
 (apply Zp; (· rfl); (· intro b wb hB Q1 hQ1; go_wp2_with (go_at_call 53; (with_reducible refine (Mr hB HEU.out).mono ?_); rintro e wn ⟨rfl, hN, hM⟩); exact hQ1 _ trivial hN); (· exact ⟨_, rfl⟩))
 iterate 3 (apply Zx; (· rfl); (· intro b wb hB Q1 hQ1; have hS := hB; have hC := hS.reads; simp only [Zz, Zy] at hC; go_wp2_with fail; exact hQ1 _ trivial hB); (· exact ⟨_, rfl⟩))
 (apply Zp; (· rfl); (· intro b wb hB Q1 hQ1; go_wp2_with (go_at_call 54; (with_reducible refine (less_det hB HEL.out).mono ?_); rintro e wn ⟨rfl, hN, hM⟩); exact hQ1 _ trivial hN); (· exact ⟨_, rfl⟩))
 iterate 4 (apply Zx; (· rfl); (· intro b wb hB Q1 hQ1; have hS := hB; have hC := hS.reads; simp only [Zz, Zy] at hC; go_wp2_with fail; exact hQ1 _ trivial hB); (· exact ⟨_, rfl⟩))
 (apply Zp; (· rfl); (· intro b wb hB Q1 hQ1; go_wp2_with (go_at_call 55; (with_reducible refine (real_det hB HER.out).mono ?_); rintro e wn ⟨rfl, hN, hM⟩); exact hQ1 _ trivial hN); (· exact ⟨_, rfl⟩))
 (apply Zp; (· rfl); (· intro b wb hB Q1 hQ1; go_wp2_with (go_at_call 49; (with_reducible refine (Ye hB HEC.out).mono ?_); rintro e wn ⟨rfl, hN, hM⟩); exact hQ1 _ trivial hN); (· exact ⟨_, rfl⟩))
 iterate 4 (apply Zx; (· rfl); (· intro b wb hB Q1 hQ1; have hS := hB; have hC := hS.reads; simp only [Zz, Zy] at hC; go_wp2_with fail; exact hQ1 _ trivial hB); (· exact ⟨_, rfl⟩))
 (apply Zp; (· rfl); (· intro b wb hB Q1 hQ1; go_wp2_with (go_at_call 56; (with_reducible refine (imag_det hB HEI.out).mono ?_); rintro e wn ⟨rfl, hN, hM⟩); exact hQ1 _ trivial hN); (· exact ⟨_, rfl⟩))
 (apply Zp; (· rfl); (· intro b wb hB Q1 hQ1; go_wp2_with (go_at_call 49; (with_reducible refine (Ye hB HED.out).mono ?_); rintro e wn ⟨rfl, hN, hM⟩); exact hQ1 _ trivial hN); (· exact ⟨_, rfl⟩))
 iterate 2 (apply Zx; (· rfl); (· intro b wb hB Q1 hQ1; go_wp2_with fail; exact hQ1 _ trivial hB); (· exact ⟨_, rfl⟩))
 refine Zq ?_
 intro wz hz
 clear hS
 obtain ⟨K, hK⟩ : ∃ K, K = (jv && kp && kq && km && kt && kr && ki && ku && kl && kc && kd) := ⟨_, rfl⟩
 have hF : (((((((((((false || !jv) || !kp) || !kq) || !km) || !kt) || !ku) || !kl) || !kr) || !kc) || !ki) || !kd) = !K := by
  rw [hK]
  simp only [Bool.false_or, Bool.not_and]
  ac_rfl
 rw [hF] at hz
 have hq := HQ.out
 rw [← hK] at hq
 clear hK hF HQ
 have hS := hz
 clear hz
 rcases K with _ | _
 ·simp only [Bool.false_eq_true, if_false] at hq
  have HQ := Kw hq
  clear hq
  simp only [Bool.not_false] at hS
  have hC := hS.reads
  simp only [Zz, Zy] at hC
  go_wp2_with (go_at_call 52; (with_reducible refine (Rk _ _ _ _ _ _ _ _ _ _ _ _ _ _ hS.sum).mono ?_); rintro e wn ⟨rfl, hx⟩; have hS9 := Zt.ex hS hx; have hC := hS9.reads; simp only [Zz, Zy] at hC; have hE := hS9.rel hle)
  refine Kr (v := .tuple #[.agg #[.int .i64 0, .int .i64 0, .int .i64 0, .int .i64 0, .int .i64 0, .int .i64 0, .int .i64 0, .int .i64 0, .int .i64 0, .int .i64 0, .int .i64 0, .int .i64 0], .bool false]) ?_ rfl ⟨by rw [HQ.out]; rfl, ?_⟩
  ·simp [results, Tryz.results16, go_sem, hC]
  ·repeat' (with_reducible first | exact hE | exact Ex.refl _ | assumption | apply Ex.alloc | apply Ex.drewN | apply Ex.drew | refine Ex.setCell ?_ (by simp <;> omega) _)
 ·simp only [if_true] at hq
  have HQ := Kw hq
  clear hq
  simp only [Bool.not_true] at hS
  have hC := hS.reads
  simp only [Zz, Zy] at hC
  go_wp2_with (go_at_call 52; (with_reducible refine (Rt _ _ _ _ _ _ _ _ _ _ _ _ _ _ hS.sum).mono ?_); rintro e wn ⟨rfl, hx⟩; have hS9 := Zt.ex hS hx; have hC := hS9.reads; simp only [Zz, Zy] at hC; have hE := hS9.rel hle)
  refine Kr (v := .tuple #[.agg #[.int .i64 u1, .int .i64 u2, .int .i64 u3, .int .i64 l1, .int .i64 l2, .int .i64 l3, .int .i64 c1, .int .i64 c2, .int .i64 c3, .int .i64 d1, .int .i64 d2, .int .i64 d3], .bool true]) ?_ rfl ⟨by rw [HQ.out]; rfl, ?_⟩
  ·simp [results, Tryz.results16, go_sem, hC]
  ·repeat' (with_reducible first | exact hE | exact Ex.refl _ | assumption | apply Ex.alloc | apply Ex.drewN | apply Ex.drew | refine Ex.setCell ?_ (by simp <;> omega) _)
end
section
open Go.RowKit

attribute [local go_sem] Zi Zh
def Nw (p q : List Fr) : Nat → Fr × Bool
 | 0 => (Fr.nul, true)
 | k + 1 => ((Yu 1 (Nw p q k).1 (Zu (tg p k) (tg q k)).1).1, (Nw p q k).2 && (Zu (tg p k) (tg q k)).2 && (Yu 1 (Nw p q k).1 (Zu (tg p k) (tg q k)).1).2)
theorem sacc_row (a b c d x y z u : Fr) : Nw [a, b, c, d] [x, y, z, u] 4 = rowS a b c d x y z u := by
 simp [Nw, rowS, tg]
theorem Zr.flag {W w : World} {bs : Nat} {b : Bool} {L : List (Nat × TypeId × Array Value)} (h : Zr W w bs b L) (v : Bool) : Zr W (w.setCell ⟨bs, 0, none⟩ (.bool v)) bs v L := by
 refine ⟨h.sm.trans (SmO.set h.sum 0 (.bool v)), ?_, ?_, h.far⟩
 ·have h2 := h.sum.set_ 0 (.bool v)
  simpa using h2
 ·exact Yr.smO (SmO.set h.sum 0 (.bool v)) h.far h.boxes
theorem timesP {w : World} {a1 a2 a3 b1 b2 b3 x y z : Int} {k : Bool} (h : Zu ⟨a1, a2, a3⟩ ⟨b1, b2, b3⟩ = (⟨x, y, z⟩, k)) : Calls Tryz.prog 108 #[.agg #[.int .i64 a1, .int .i64 a2, .int .i64 a3], .agg #[.int .i64 b1, .int .i64 b2, .int .i64 b3]] w fun e w' => e = .returned (.tuple #[.agg #[.int .i64 x, .int .i64 y, .int .i64 z], .bool k]) ∧ Ex w w' := by
 have := Vh ⟨a1, a2, a3⟩ ⟨b1, b2, b3⟩ w
 rw [h] at this
 exact this
theorem l6tRow_any (bs : Nat) (e : Bool) (p q : List Fr) (hp : p.length = 4) (hq : q.length = 4) (w : World) (hb : Box w bs 155 #[.bool (!e)]) : Calls Tryz.prog 114 #[.pointer (some ⟨bs, 0, none⟩), .agg (Zs p), .agg (Zs q)] w (Xk bs (!e) w (Nw p q 4)) := by
 have HP := Kw (fun k (hk : k < 4) => Ul p k (by omega))
 have HQ := Kw (fun k (hk : k < 4) => Ul q k (by omega))
 generalize hpc : Zs p = pc at *
 generalize hqc : Zs q = qc at *
 clear hpc hqc
 obtain ⟨RV, HRV⟩ : ∃ v, Hid (v = Nw p q 4) := ⟨_, Kw rfl⟩
 rw [← HRV.out]
 have hbl := hb.lt
 have hS0 := Zr.init hb
 have hS1 : Zr w ((((w.alloc (.cells pc 31)).alloc (.cells qc 31)).alloc (.cells #[.int .i64 0, .int .i64 0, .int .i64 0] 30)).alloc (.cells #[.int .i64 0, .int .i64 0, .int .i64 1] 30)) bs (!e) _ := Zr.alloc (h := Zr.alloc (h := Zr.alloc (h := Zr.alloc (h := hS0) (cs := pc) (t := 31)) (cs := qc) (t := 31)) (cs := #[.int .i64 0, .int .i64 0, .int .i64 0]) (t := 30)) (cs := #[.int .i64 0, .int .i64 0, .int .i64 1]) (t := 30)
 simp only [Kv] at hS1
 go_enter Tryz.func114, Tryz.ntmps114
 go_upto_region 2 with fail
 generalize (((w.alloc (.cells pc 31)).alloc (.cells qc 31)).alloc (.cells #[.int .i64 0, .int .i64 0, .int .i64 0] 30)).alloc (.cells #[.int .i64 0, .int .i64 0, .int .i64 1] 30) = W1 at *
 clear hS0 hb
 go_wp2_with fail
 go_loopw [8, 9, 10] (fun kk xx oo wr => ∃ k : Nat, kk = .int .i64 k ∧ k ≤ 4 ∧ ∃ s1 s2 s3 f, Hid (Nw p q k = (⟨s1, s2, s3⟩, f)) ∧ Hid (Zr w wr bs (!(e || !f)) ((w.heap.size + 1 + 1 + 1, 30, #[.int .i64 s1, .int .i64 s2, .int .i64 s3]) :: [(w.heap.size + 1 + 1, 30, #[.int .i64 0, .int .i64 0, .int .i64 0]), (w.heap.size + 1, 31, qc), (w.heap.size, 31, pc)]))) (fun kk _ _ _ => 5 - (intOf kk).toNat)
 case atStart => exact ⟨0, rfl, by omega, 0, 0, 1, true, Kw rfl, Kw (by simpa using hS1)⟩
 case round =>
  clear hS1
  obtain ⟨k, rfl, hk4, s1, s2, s3, f, HA, HS⟩ := hrel
  by_cases hk : k < 4
  ·have hkI : (k : Int) < 4 := by omega
   have hwk : IntKind.i64.wrap ((k : Int) + 1) = (k : Int) + 1 := Kq _ (by omega)
   obtain ⟨f0, f1, f2⟩ := HP.out k hk
   obtain ⟨g3, g4, g5⟩ := HQ.out k hk
   rw [Nat.mul_comm 3 k] at f0 f1 f2 g3 g4 g5
   have HK : Hid (Nw p q (k + 1) = ((Yu 1 (Nw p q k).1 (Zu (tg p k) (tg q k)).1).1, (Nw p q k).2 && (Zu (tg p k) (tg q k)).2 && (Yu 1 (Nw p q k).1 (Zu (tg p k) (tg q k)).1).2)) := Kw rfl
   rw [HA.out] at HK
   generalize tg p k = x at f0 f1 f2 HK
   generalize tg q k = y at g3 g4 g5 HK
   obtain ⟨x1, x2, x3⟩ := x
   obtain ⟨y1, y2, y3⟩ := y
   simp only at f0 f1 f2 g3 g4 g5 HK
   rcases h1 : Zu ⟨x1, x2, x3⟩ ⟨y1, y2, y3⟩ with ⟨⟨p1, p2, p3⟩, kp⟩
   rw [h1] at HK
   simp only at HK
   rcases h2 : Yu 1 ⟨s1, s2, s3⟩ ⟨p1, p2, p3⟩ with ⟨⟨t1, t2, t3⟩, kt⟩
   rw [h2] at HK
   simp only at HK
   have H1 := Kw h1
   have H2 := Kw h2
   clear h1 h2
   have hS := HS.out
   clear HS
   have HLT := Kw (Yr.old hS.boxes)
   have hws := hS.sm.size
   have hfar := hS.far _ (.head _)
   obtain ⟨fl, HFL⟩ : ∃ fl, Hid (fl = !(e || !f)) := ⟨_, Kw rfl⟩
   rw [← HFL.out] at hS
   go_upto_region 5 with fail
   have hS0 := hS
   have hbs0 := hS0.sum.lt
   refine Zm (St := SmO bs) (B := fun b w' => InO _ bs _ b w') 10 1 1 _ 30 (fun _ => 9) (fun _ => 24) (fun _ => #[.int .i64 0, .int .i64 0, .int .i64 0]) (fun _ => #[.int .i64 p1, .int .i64 p2, .int .i64 p3]) _ (by kernel_rfl) (by kernel_rfl) (InO.drew (InO.start hS0)) (fun x y h1 h2 _ => by omega) (fun x y _ _ => by decide) (fun _ _ h g cs hg hb => h.box _ _ _ (Nat.ne_of_gt (Nat.lt_of_lt_of_le hbs0 hg)) hb) (fun _ _ cs h => h.alloc _) (fun _ _ h => h.size) ?_
   iterate 6 (apply Zx; (· rfl); (· intro b wb hB Q1 hQ1; have hS := hB.sees; have hC := hS.reads; simp only [Zz, Zy] at hC; go_wp2_with fail; exact hQ1 _ (SmO.refl _ _) hB); (· exact ⟨_, rfl⟩))
   (apply Zx; (· rfl); (· intro b wb hB Q1 hQ1; go_wp2_with (go_at_call 108; (with_reducible refine (timesP H1.out).mono ?_); rintro e1 wn ⟨rfl, hx⟩); exact hQ1 _ (SmO.of_ex hx) (hB.call (hB.sees.ex hx))); (· exact ⟨_, rfl⟩))
   iterate 3 (apply Zx; (· rfl); (· intro b wb hB Q1 hQ1; go_wp2_with fail; exact hQ1 _ (SmO.refl _ _) hB); (· exact ⟨_, rfl⟩))
   refine Zq ?_
   refine ⟨fun i hi => ?_, fun i hi => ?_, fun i hi => ?_, fun gg wz hz hbx hne => ?_⟩
   ·obtain rfl : i = 0 := by omega
    all_goals exact ⟨_, rfl, Zb⟩
   ·obtain rfl : i = 0 := by omega
    all_goals exact ⟨_, rfl, Zf Yv rfl (by kernel_rfl) (fun _ _ _ hg h => h.setRow hg _)⟩
   ·obtain rfl : i = 0 := by omega
    ·exact (show (9 : Nat) < 41 by decide)
   obtain ⟨hq0, hp0⟩ := hbx 0 (by omega)
   replace hS := InO.join hS0 hz
   replace hS := Zr.put hS hp0 (by omega)
   simp only [frN, Act.put, Ku, Kt, Ks, Nat.reduceAdd, List.drop_succ_cons, List.drop_zero]
   generalize gg 0 = ga at *
   clear hbx hz hS0 hne
   simp only at hS
   have HNE := Kw (fun x hx => Nat.ne_of_lt (Nat.lt_of_lt_of_le (HLT.out x hx) hq0))
   clear hws HLT hq0 hp0 f0 f1 f2 g3 g4 g5
   have hbw : bs < w.heap.size := hbl
   rcases fl with _ | _
   ·have hC := hS.reads
    simp only [Zz, Zy] at hC
    go_upto_region 7 with fail
    have hS7 : Zr w (wz.setCell ⟨bs, 0, none⟩ (.bool false)) bs (!true) _ := hS.flag false
    generalize wz.setCell ⟨bs, 0, none⟩ (.bool false) = W7 at *
    clear hS hC
    have hC := hS7.reads
    simp only [Zz, Zy] at hC
    go_wp2_with (go_at_call 177; (with_reducible refine (Oc (.inl rfl) hS7 H2.out).mono ?_); rintro e1 wm ⟨rfl, hN, -⟩; have hC := hN.reads; simp only [Zz, Zy] at hC)
    have hS8 := Zr.set3 hN.tail (by omega) (fun x hx => by
      simp only [List.mem_cons, List.not_mem_nil, or_false] at hx
      rcases hx with rfl | rfl | rfl <;> simp only <;> omega) (.int .i64 t1) (.int .i64 t2) (.int .i64 t3)
    have ef : (!(true || !kt)) = !(e || !(f && kp && kt)) := by
     have h := HFL.out
     revert h
     cases e <;> cases f <;> cases kt <;> simp <;> cases kp <;> simp
    rw [ef] at hS8
    have HS8 := Kw hS8
    clear hS8 hN hS7 hC ef
    go_roundw
    case rel => exact ⟨k + 1, by go_num, by omega, t1, t2, t3, (f && kp && kt), HK, HS8⟩
    case measure => simp [intOf] <;> omega
   ·rcases kp with _ | _
    ·have hC := hS.reads
     simp only [Zz, Zy] at hC
     go_upto_region 7 with fail
     have hS7 : Zr w (wz.setCell ⟨bs, 0, none⟩ (.bool false)) bs (!true) _ := hS.flag false
     generalize wz.setCell ⟨bs, 0, none⟩ (.bool false) = W7 at *
     clear hS hC
     have hC := hS7.reads
     simp only [Zz, Zy] at hC
     go_wp2_with (go_at_call 177; (with_reducible refine (Oc (.inl rfl) hS7 H2.out).mono ?_); rintro e1 wm ⟨rfl, hN, -⟩; have hC := hN.reads; simp only [Zz, Zy] at hC)
     have hS8 := Zr.set3 hN.tail (by omega) (fun x hx => by
       simp only [List.mem_cons, List.not_mem_nil, or_false] at hx
       rcases hx with rfl | rfl | rfl <;> simp only <;> omega) (.int .i64 t1) (.int .i64 t2) (.int .i64 t3)
     have ef : (!(true || !kt)) = !(e || !(f && false && kt)) := by
      have h := HFL.out
      revert h
      cases e <;> cases f <;> cases kt <;> simp
     rw [ef] at hS8
     have HS8 := Kw hS8
     clear hS8 hN hS7 hC ef
     go_roundw
     case rel => exact ⟨k + 1, by go_num, by omega, t1, t2, t3, (f && false && kt), HK, HS8⟩
     case measure => simp [intOf] <;> omega
    ·have hC := hS.reads
     simp only [Zz, Zy] at hC
     go_upto_region 7 with fail
     have hS7 : Zr w (wz.setCell ⟨bs, 0, none⟩ (.bool true)) bs (!false) _ := hS.flag true
     generalize wz.setCell ⟨bs, 0, none⟩ (.bool true) = W7 at *
     clear hS hC
     have hC := hS7.reads
     simp only [Zz, Zy] at hC
     go_wp2_with (go_at_call 177; (with_reducible refine (Oc (.inl rfl) hS7 H2.out).mono ?_); rintro e1 wm ⟨rfl, hN, -⟩; have hC := hN.reads; simp only [Zz, Zy] at hC)
     have hS8 := Zr.set3 hN.tail (by omega) (fun x hx => by
       simp only [List.mem_cons, List.not_mem_nil, or_false] at hx
       rcases hx with rfl | rfl | rfl <;> simp only <;> omega) (.int .i64 t1) (.int .i64 t2) (.int .i64 t3)
     have ef : (!(false || !kt)) = !(e || !(f && true && kt)) := by
      have h := HFL.out
      revert h
      cases e <;> cases f <;> cases kt <;> simp
     rw [ef] at hS8
     have HS8 := Kw hS8
     clear hS8 hN hS7 hC ef
     go_roundw
     case rel => exact ⟨k + 1, by go_num, by omega, t1, t2, t3, (f && true && kt), HK, HS8⟩
     case measure => simp [intOf] <;> omega
  ·obtain rfl : k = 4 := by omega
   have hrv := HRV.out.trans HA.out
   subst hrv
   have hS := HS.out
   have ef2 : (!(e || !f)) = (!e && f) := by cases e <;> cases f <;> rfl
   rw [ef2] at hS
   have hkI : ¬ ((4 : Nat) : Int) < 4 := by omega
   clear HS HA HRV hk
   have hC := hS.reads
   simp only [Zz, Zy] at hC
   have hm2 := hS.sm
   have hs2 := hS.sum
   go_wp2_with fail
   unfold Xk
   simp only [Fr.v]
   refine Kr ?_ rfl ⟨rfl, ?_, ?_⟩
   ·simp [results, Tryz.results114, go_sem, hC]
   ·repeat' (with_reducible first
   | exact hm2
   | refine SmO.setNew ?_ (by simp <;> omega) _)
   ·repeat' (with_reducible first
   | exact hs2
   | refine Box.far ?_ (by simp <;> omega) _)
end
section
open Go.RowKit

attribute [local go_sem] Zi Zh
end
section
open Go.RowKit

attribute [local go_sem] Zi Zh
theorem Zw.setRow {W w : World} {g : Nat} {t : TypeId} {y : Array Value} {L : List (Nat × TypeId × Array Value)} (h : Zw W w ((g, t, y) :: L)) (hg : W.heap.size ≤ g) (hne : ∀ x ∈ L, x.1 ≠ g) (x : Array Value) : Zw W (w.setRow g x) ((g, t, x) :: L) :=
 ⟨h.ex.setRow hg x, h.boxes.1.setRow x, Uf hne h.boxes.2⟩
theorem results_row1 {P : Program} {fn : Func} {p : Tmp} {ty : TypeId} (h : fn.results = #[.cell p ty]) (tmps : Array Value) (w : World) (g : Nat) (t : TypeId) (cs : Array Value) (fr : Nat × Nat) (d : TypeDesc)
  (hp : tmps.getD p undef = .pointer (some ⟨g, 0, none⟩)) (hg : w.heap[g]? = some (.cells cs t fr))
  (hu : P.underlying ty = some d) (hd : (match d with | .struct _ | .array _ _ => true | _ => false) = true) (hi : (P.info? ty).map (·.size) = some cs.size) :
  (results fn tmps).run P w = .ok (.agg cs) w := by
 have hp' : tmps[p]?.getD undef = .pointer (some ⟨g, 0, none⟩) := by simpa using hp
 simp [results, h, hp', asAddr, run_loadVar_row w g t ty cs fr d hg hu hd hi]
def dl (k : Nat) : List Fr := List.replicate k Fr.nul ++ List.replicate (16 - k) Fr.none
theorem dl_len {k : Nat} (h : k ≤ 16) : (dl k).length = 16 := by simp [dl]; omega
theorem dl_set {k : Nat} (h : k < 16) : (dl k).set k Fr.nul = dl (k + 1) := by
 unfold dl
 rw [List.set_append_right _ _ (by simp), List.length_replicate, Nat.sub_self, show 16 - k = (16 - (k + 1)) + 1 by omega, List.replicate_succ, Kt, List.replicate_succ', List.append_assoc]
 rfl
theorem iDiagonal (x1 x2 x3 : Int) (w : World) [hG : Yc w] : Calls Tryz.prog 134 #[.agg #[.int .i64 1, .int .i64 0, .int .i64 1], .agg #[.int .i64 x1, .int .i64 x2, .int .i64 x3]] w (fun e w' => e = .returned (.agg (Zs (diag ⟨x1, x2, x3⟩))) ∧ Ex w w') := by
 have HG := Kw hG
 have hR := Zw.refl w
 go_enter Tryz.func134, Tryz.ntmps134
 go_upto_region 1 with fail
 rw [Vv]
 have hV : Zw w (((w.alloc (.cells #[.int .i64 1, .int .i64 0, .int .i64 1] 30)).alloc (.cells #[.int .i64 x1, .int .i64 x2, .int .i64 x3] 30)).alloc (.cells Z48 85)) _ := inferInstance
 clear hR
 simp only [Kv] at hV
 have z1 := hV.boxes.1.lt
 have z2 := hV.boxes.2.1.lt
 have z3 := hV.boxes.2.2.1.lt
 have hob : w.heap.size ≤ (((w.alloc (.cells #[.int .i64 1, .int .i64 0, .int .i64 1] 30)).alloc (.cells #[.int .i64 x1, .int .i64 x2, .int .i64 x3] 30)).alloc (.cells Z48 85)).heap.size := hV.ex.size
 generalize ((w.alloc (.cells #[.int .i64 1, .int .i64 0, .int .i64 1] 30)).alloc (.cells #[.int .i64 x1, .int .i64 x2, .int .i64 x3] 30)).alloc (.cells Z48 85) = W0 at *
 have hne : ∀ x ∈ ([(w.heap.size + 1 + 1, 85, Z48), (w.heap.size + 1, 30, #[.int .i64 x1, .int .i64 x2, .int .i64 x3]), (w.heap.size, 30, #[.int .i64 1, .int .i64 0, .int .i64 1])] : List (Nat × TypeId × Array Value)), x.1 ≠ W0.heap.size := by
  intro x hx
  simp only [List.mem_cons, List.not_mem_nil, or_false] at hx
  rcases hx with rfl | rfl | rfl
  ·exact Nat.ne_of_lt z1
  ·exact Nat.ne_of_lt z2
  ·exact Nat.ne_of_lt z3
 have hS0 : Zw w (W0.alloc (.cells Z48 85)) _ := Zw.alloc (h := hV) (cs := Z48) (t := 85)
 go_upto_region 2 with (refine wpList_store_row rfl _ _ _ rfl _ _ rfl rfl _ _ (Box.new W0 Z48 85) (Yz Yp) rfl Wl ?_)
 rw [Vv]
 replace hS0 := Zw.setRow hS0 hob hne Z48
 generalize (W0.alloc (.cells Z48 85)).setRow W0.heap.size Z48 = W1 at *
 clear hV z1 z2 z3
 go_wp2_with fail
 go_loopw [8, 6] (fun i j wr => ∃ k : Nat, i = .int .i64 k ∧ k ≤ 16 ∧ Hid (Zw w wr ((W0.heap.size, 85, Zs (dl k)) :: [(w.heap.size + 1 + 1, 85, Z48), (w.heap.size + 1, 30, #[.int .i64 x1, .int .i64 x2, .int .i64 x3]), (w.heap.size, 30, #[.int .i64 1, .int .i64 0, .int .i64 1])]))) (fun i _ _ => 17 - (intOf i).toNat)
 case atStart => exact ⟨0, rfl, by omega, Kw hS0⟩
 case round =>
  clear hS0
  obtain ⟨k, rfl, hk, HS⟩ := hrel
  have hS := HS.out
  by_cases hlt : k < 16
  ·have hI : (k : Int) < 16 := by omega
   have hw5 : IntKind.i64.wrap ((k : Int) + 1) = (k : Int) + 1 := Kq _ (by omega)
   have hg := (HG.out.ex hS.ex).reads
   go_wp2_with (refine wpList_storeE hS hob hne k (by rw [dl_len hk]; exact hlt) (by rw [Nat.mul_comm 3 k]; rfl) rfl ?_; intro V hV2)
   rw [show ((dl k).set k ⟨0, 0, 1⟩) = dl (k + 1) from dl_set hlt] at hV2
   have HV2 := Kw hV2
   clear hV2 hS hg
   go_roundw
   case rel => exact ⟨k + 1, by go_num, by omega, HV2⟩
   case measure => simp [intOf] <;> omega
  ·obtain rfl : k = 16 := by omega
   have hI : ¬ ((16 : Nat) : Int) < 16 := by omega
   clear hlt HS
   have hC := hS.reads
   simp only [Zz, Zy] at hC
   go_upto_region 7 with fail
   have s0 := hS.boxes.2.2.2.1.cell 0
   have s1 := hS.boxes.2.2.2.1.cell 1
   have s2 := hS.boxes.2.2.2.1.cell 2
   have s3 := hS.boxes.2.2.1.cell 0
   have s4 := hS.boxes.2.2.1.cell 1
   have s5 := hS.boxes.2.2.1.cell 2
   have c00 := (hS.boxes.1.cell 0).trans (show _ = some (.int .i64 0) from rfl)
   have c01 := (hS.boxes.1.cell 1).trans (show _ = some (.int .i64 0) from rfl)
   have c02 := (hS.boxes.1.cell 2).trans (show _ = some (.int .i64 1) from rfl)
   have c10 := (hS.boxes.1.cell 15).trans (show _ = some (.int .i64 0) from rfl)
   have c11 := (hS.boxes.1.cell 16).trans (show _ = some (.int .i64 0) from rfl)
   have c12 := (hS.boxes.1.cell 17).trans (show _ = some (.int .i64 1) from rfl)
   have c20 := (hS.boxes.1.cell 30).trans (show _ = some (.int .i64 0) from rfl)
   have c21 := (hS.boxes.1.cell 31).trans (show _ = some (.int .i64 0) from rfl)
   have c22 := (hS.boxes.1.cell 32).trans (show _ = some (.int .i64 1) from rfl)
   have c30 := (hS.boxes.1.cell 45).trans (show _ = some (.int .i64 0) from rfl)
   have c31 := (hS.boxes.1.cell 46).trans (show _ = some (.int .i64 0) from rfl)
   have c32 := (hS.boxes.1.cell 47).trans (show _ = some (.int .i64 1) from rfl)
   have n1 : w.heap.size ≠ W0.heap.size := hne _ (.tail _ (.tail _ (.head _)))
   have n2 : w.heap.size + 1 ≠ W0.heap.size := hne _ (.tail _ (.head _))
   have n3 := n1.symm
   have n4 := n2.symm
   have cf := hS.boxes.1.frozen
   have cl := hS.boxes.1.lt
   clear hC
   go_region_held3 (fun w' => w'.cell? ⟨w.heap.size, 0, none⟩ = some (.int .i64 1) ∧ w'.cell? ⟨w.heap.size, 1, none⟩ = some (.int .i64 0) ∧ w'.cell? ⟨w.heap.size, 2, none⟩ = some (.int .i64 1) ∧ w'.cell? ⟨w.heap.size + 1, 0, none⟩ = some (.int .i64 x1) ∧ w'.cell? ⟨w.heap.size + 1, 1, none⟩ = some (.int .i64 x2) ∧ w'.cell? ⟨w.heap.size + 1, 2, none⟩ = some (.int .i64 x3)) (go_keep) (fail)
   have hF := Zw.setF (Zw.setF (Zw.setF (Zw.setF hS hob hne 0 1 0 1) hob hne 5 x1 x2 x3) hob hne 10 x1 x2 x3) hob hne 15 x1 x2 x3
   replace hF := Zw.drew (h := hF)
   rw [show (((((dl 16).set 0 ⟨1, 0, 1⟩).set 5 ⟨x1, x2, x3⟩).set 10 ⟨x1, x2, x3⟩).set 15 ⟨x1, x2, x3⟩) = diag ⟨x1, x2, x3⟩ from rfl] at hF
   have bO := hF.boxes.1
   have bR := hF.boxes.2.1
   have hE := hF.ex
   clear hF s0 s1 s2 s3 s4 s5 c00 c01 c02 c10 c11 c12 c20 c21 c22 c30 c31 c32 cf cl n1 n2 n3 n4 hS
   simp only [Nat.reduceMul, Nat.reduceAdd] at bO bR hE
   generalize World.drew _ = Y at bO bR hE ⊢
   go_wp2_with (first | (refine wpList_load_row rfl _ _ rfl _ rfl _ _ (0, 0) _ bO Tryz.underlying85 rfl (Yz (by rw [Ym]; rfl)) ?_) | (refine wpList_store_row rfl _ _ _ rfl _ _ rfl rfl _ _ bR (Yz (by rw [Ym]; rfl)) (by rw [Ym]; rfl) (Yw _) ?_))
   exact Kr (results_row1 Tryz.results134 _ _ _ _ _ (0, 0) _ rfl (bR.setRow _) Tryz.underlying85 rfl (Yz (by rw [Ym]; rfl))) rfl ⟨rfl, hE.setRow (by omega) _⟩
def dc (c : Fr) (k : Nat) : List Fr := (List.range 16).map fun i => if i < k then (if i % 5 = 0 then c else Fr.nul) else Fr.none
end
section
open Go.RowKit

theorem fade_no {c : Fr} (h : fcre c = false) : Rd c = (Wn 16, false) := by
 unfold Rd
 rw [show rok c = false from h]
 rfl
theorem fade_yes {c : Fr} (h : fcre c = true) : Rd c = (diag c, true) := by
 unfold Rd
 rw [show rok c = true from h]
 rfl
theorem iTableFade (x1 x2 x3 : Int) (w : World) [hG : Yc w] : Calls Tryz.prog 196 #[.agg #[.int .i64 x1, .int .i64 x2, .int .i64 x3]] w (fun e w' => e = .returned (Sg (Rd ⟨x1, x2, x3⟩)) ∧ Ex w w') := by
 have HG := Kw hG
 have k1 := fun w => realOkC x1 x2 x3 w
 have hR := Zw.refl w
 go_enter Tryz.func196, Tryz.ntmps196
 go_upto_region 1 with fail
 rw [Vv]
 have hV : Zw w ((w.alloc (.cells #[.int .i64 x1, .int .i64 x2, .int .i64 x3] 30)).alloc (.cells Z48 85)) _ := inferInstance
 clear hR
 simp only [Kv] at hV
 generalize (w.alloc (.cells #[.int .i64 x1, .int .i64 x2, .int .i64 x3] 30)).alloc (.cells Z48 85) = W0 at *
 have hC := hV.reads
 simp only [Zz, Zy] at hC
 rcases h : fcre ⟨x1, x2, x3⟩ with _ | _
 ·simp only [h] at k1
  have e1 := fade_no h
  clear h
  go_wp2_with fail
  refine (k1 _).mono ?_
  rintro e w1 ⟨rfl, hx⟩
  have hS := Zw.after (h := hV) hx
  clear hC hV
  have hC := hS.reads
  simp only [Zz, Zy] at hC
  have hr := hS.boxes.1
  have hE := hS.ex
  go_wp2_with (refine wpList_store_row rfl _ _ _ rfl _ _ rfl rfl _ _ hr (Yz Yp) rfl Wl ?_)
  refine Kr (Zl Tryz.results196 _ _ _ _ _ (0, 0) _ rfl (hr.setRow _) Tryz.underlying85 rfl (Yz Yp)) rfl ⟨by rw [e1]; rfl, hE.setRow (Nat.le_succ _) _⟩
 ·simp only [h] at k1
  have e1 := fade_yes h
  clear h
  go_wp2_with fail
  refine (k1 _).mono ?_
  rintro e w1 ⟨rfl, hx⟩
  have hS := Zw.after (h := hV) hx
  clear hC hV
  have hC := hS.reads
  simp only [Zz, Zy] at hC
  have hG1 := HG.out.ex hS.ex
  have hg := hG1.reads
  go_wp2_with fail
  refine (iDiagonal x1 x2 x3 _).mono ?_
  rintro e w2 ⟨rfl, hx2⟩
  have hT := Zw.after (h := hS) hx2
  have hr := hT.boxes.1
  have hE := hT.ex
  go_wp2_with (refine wpList_store_row rfl _ _ _ rfl _ _ rfl rfl _ _ hr (Yz (by rw [Ym]; rfl)) (by rw [Ym]; rfl) (Yw _) ?_)
  exact Kr (Zl Tryz.results196 _ _ _ _ _ (0, 0) _ rfl (hr.setRow _) Tryz.underlying85 rfl (Yz (by rw [Ym]; rfl))) rfl ⟨by rw [e1]; rfl, hE.setRow (Nat.le_succ _) _⟩
end
end Go.Proofs.YtiommfmaleeibaaGreatDoor
