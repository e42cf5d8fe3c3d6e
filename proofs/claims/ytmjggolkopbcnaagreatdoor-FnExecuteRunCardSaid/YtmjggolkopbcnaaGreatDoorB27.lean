/-
  Proved: what functions compute, part 27. No condition.
-/
import Derived.Test.YtmjggolkopbcnaaGreatDoorB24
import Derived.Test.YtmjggolkopbcnaaGreatDoorB19
set_option linter.unusedSimpArgs false
set_option linter.unusedVariables false
set_option maxRecDepth 20000
set_option maxHeartbeats 8000000
namespace Go.Proofs.YtmjggolkopbcnaaGreatDoor
section
open Go.RowKit

attribute [local go_sem] Zq Zp
theorem sL7One_119 (k : UInt8) (t : List UInt8) (ht0 : t ≠ []) (hk119 : k = 119) (hl : (k :: t).length ≤ 1048576) (w : World) : Calls Tryz.prog 71 #[.string (Bs (k :: t))] w (Sn w (k :: t)) := by
 have HK119 := Oi hk119
 clear hk119
 have hlt : t.length ≤ 1048576 := by simp at hl; omega
 have hx1 := Uw k t
 obtain ⟨S, HS⟩ : ∃ S, Hid (S = Bs (k :: t)) := ⟨_, Oi rfl⟩
 have hsz : S.size = t.length + 1 := by rw [HS.out]; rfl
 obtain ⟨hs0, hk0⟩ : ∃ hs : 0 < S.size, S[0]'hs = k := by
  obtain ⟨h1, h2⟩ := Th HS.out (i := 0) (by simp)
  exact ⟨h1, h2⟩
 rw [← HS.out] at hx1 ⊢
 have ks := fun w => cutCB t hlt w
 have HW : Hid (∀ x ∈ cds t, x.length ≤ 1048576) := Oi fun x hx => by
  have h1 := Wy t x hx
  omega
 have HCL : Hid ((cds t).length ≤ 1048576) := Oi (by have h1 := Uv t; simp only [List.length_cons] at hl; omega)
 have hs2 : ¬ (S.size : Int) < 2 := by
  have : t.length ≠ 0 := fun e => ht0 (List.length_eq_zero_iff.1 e)
  omega
 generalize hT : Bs t = T at hx1 ks
 have KS := Oi ks
 have HX1 := Oi hx1
 clear ks hT ht0
 have hS := Zw.refl w
 have hC := True.intro
 go_enter Tryz.func71, Tryz.ntmps71
 go_upto_region 4 with fail
 have bR := ((Box.new w #[.int .u8 0, .slice none 0 0] 115).alloc (.cells #[] 3)).alloc (.cells #[.int .u8 (k.toNat : Int), .slice (some ⟨w.heap.size + 1, 0, none⟩) 0 0] 115)
 have bP := Box.new ((w.alloc (.cells #[.int .u8 0, .slice none 0 0] 115)).alloc (.cells #[] 3)) #[.int .u8 (k.toNat : Int), .slice (some ⟨w.heap.size + 1, 0, none⟩) 0 0] 115
 have hO0 := (Sf (w.alloc (.cells #[.int .u8 0, .slice none 0 0] 115)) (w.heap.size + 1) (by simp)).alloc (.cells #[.int .u8 (k.toNat : Int), .slice (some ⟨w.heap.size + 1, 0, none⟩) 0 0] 115)
 simp only [Oh] at bP hO0
 have hE1 : Ex w (((w.alloc (.cells #[.int .u8 0, .slice none 0 0] 115)).alloc (.cells #[] 3)).alloc (.cells #[.int .u8 (k.toNat : Int), .slice (some ⟨w.heap.size + 1, 0, none⟩) 0 0] 115)) := (((Ex.refl w).alloc _).alloc _).alloc _
 have hz1 : (((w.alloc (.cells #[.int .u8 0, .slice none 0 0] 115)).alloc (.cells #[] 3)).alloc (.cells #[.int .u8 (k.toNat : Int), .slice (some ⟨w.heap.size + 1, 0, none⟩) 0 0] 115)).heap.size = w.heap.size + 3 := by simp only [Oh]
 generalize ((w.alloc (.cells #[.int .u8 0, .slice none 0 0] 115)).alloc (.cells #[] 3)).alloc (.cells #[.int .u8 (k.toNat : Int), .slice (some ⟨w.heap.size + 1, 0, none⟩) 0 0] 115) = W1 at *
 clear hC hS hk0
 have hs1 : (1 : Int) ≤ (S.size : Int) := by omega
 clear hsz hl hlt
 go_wp2_with fail
 refine (KS.out _).mono ?_
 rintro e W2 ⟨g, gc, cur, rfl, hg, bG, HG, hx⟩
 replace bR := bR.ex hx
 replace bP := bP.ex hx
 have hO1 := hO0.ex hx
 have hE2 := hE1.trans hx
 have hz2 := hx.size
 clear hx hE1 KS hO0
 go_wp2_with fail
 go_loopw [6, 7, 8] (fun i n o wr => ∃ (j : Nat) (A : Option Addr) (cap : Nat) (ns : List Int), i = .int .i64 j ∧ j ≤ (cds t).length ∧ Hid (Yu Zh ((cds t).take j) = some ns) ∧ Box wr (w.heap.size + 2) 115 #[.int .u8 (k.toNat : Int), .slice A ns.length cap] ∧
   Box wr w.heap.size 115 #[.int .u8 0, .slice none 0 0] ∧ Box wr g 9 cur ∧ Hid (Xn wr (w.heap.size + 1) A cap ns) ∧ Hid (Ex w wr)) (fun i _ _ _ => (cds t).length + 1 - (intOf i).toNat)
 case atStart => exact ⟨0, some ⟨w.heap.size + 1, 0, none⟩, 0, [], rfl, by omega, Oi rfl, bP, bR, bG, Oi hO1, Oi hE2⟩
 case round =>
  clear bP bR bG hO1 hE2 hz2
  obtain ⟨j, A, cap, ns, rfl, hj, HN, bP, bR, bG, HO, HE⟩ := hrel
  have hnl : ns.length ≤ 1048576 := by
   have h1 := Xz HN.out
   have h2 := List.length_take_le j (cds t)
   have h3 := HCL.out
   omega
  by_cases hlt : j < (cds t).length
  ·have hcell := HG.out j hlt
   have hmem : (cds t)[j] ∈ cds t := List.getElem_mem hlt
   have hxl := HW.out _ hmem
   have HMs : Hid (Yu Zh ((cds t).take (j + 1)) = Yu Zh ((cds t).take j ++ [(cds t)[j]])) := Oi (by rw [Yk hlt])
   generalize (cds t)[j] = x at *
   have kp := fun w => Vu x hxl w
   have hlI : (j : Int) < ((cds t).length : Int) := by omega
   have hw5 : IntKind.i64.wrap ((j : Int) + 1) = (j : Int) + 1 := Oc _ (by have := HCL.out; omega)
   obtain ⟨X, HX⟩ : ∃ X, Hid (X = Bs x) := ⟨_, Oi rfl⟩
   rw [← HX.out] at hcell kp
   have KP := Oi kp
   have HMem := Oi hmem
   have cG := bG.cell
   have zG := bG.lt
   clear kp hmem hxl
   go_wp2_with fail
   refine (KP.out _).mono ?_
   rintro e w2 ⟨n, ok, rfl, hx, hn⟩
   have HNn := Oi hn
   replace bP := bP.ex hx
   replace bR := bR.ex hx
   replace bG := bG.ex hx
   have HE2 := Oi (HE.out.trans hx)
   have HO2 := Oi (HO.out.ex hx)
   clear hx hn cG zG KP hcell
   have cP := bP.cell
   have fP := bP.frozen
   have zP := bP.lt
   have cR := bR.cell
   have fR := bR.frozen
   have zR := bR.lt
   rcases ok with _ | _
   ·have HNo : Hid (Zo (k :: t) = none) := Oi (Vw HMem.out HNn.out)
    go_wp2
    refine Od ?_ rfl (.inr ⟨k.toNat, A, ns.length, cap, HNo.out, rfl, ?_⟩)
    ·simp [results, Tryz.results71, go_sem, cP, cR]
    ·have hE := HE2.out
     repeat' (with_reducible first | exact hE | refine Ex.setCell ?_ (by simp <;> omega) _)
   ·have hs2 := HE2.out.size
    go_wp2_with (at_builtin; refine Xs rfl _ _ w2 rfl (w.heap.size + 1) A cap ns n rfl HO2.out rfl hnl (by omega) ?_)
    intro A' cap' w' hown' hk'
    have HE3 := Oi (hk'.ex w HE2.out (by omega))
    replace bP := hk'.box _ _ _ bP (by decide)
    replace bR := hk'.box _ _ _ bR (by decide)
    replace bG := hk'.box _ _ _ bG (by decide)
    have HO3 := Oi hown'
    have cP := bP.cell
    have fP := bP.frozen
    have zP := bP.lt
    clear hown' hk' HO2 HE2 cR fR zR
    have HN3 : Hid (Yu Zh ((cds t).take (j + 1)) = some (ns ++ [n])) := Oi (by rw [HMs.out]; exact Xu HNn.out HN.out)
    clear HNn HMs
    go_wp2
    have bP3 : Box (w'.setCell ⟨w.heap.size + 2, 1, none⟩ (.slice A' (ns.length + 1) cap')) (w.heap.size + 2) 115 #[.int .u8 (k.toNat : Int), .slice A' (ns ++ [n]).length cap'] := by
     have h := bP.set_ 1 (.slice A' (ns.length + 1) cap')
     simpa using h
    have bR3 := bR.far (p := ⟨w.heap.size + 2, 1, none⟩) (by simp) (.slice A' (ns.length + 1) cap')
    have bG3 := bG.far (p := ⟨w.heap.size + 2, 1, none⟩) (by simp; omega) (.slice A' (ns.length + 1) cap')
    have HO4 : Hid (Xn _ (w.heap.size + 1) A' cap' (ns ++ [n])) := Oi (Own.setCell (p := ⟨w.heap.size + 2, 1, none⟩) HO3.out (fun g hg e => by subst e; exact Own.ne HO3.out bP (by decide) hg.symm) (.slice A' (ns.length + 1) cap'))
    have HE4 := Oi (HE3.out.setCell (p := ⟨w.heap.size + 2, 1, none⟩) (by simp) (.slice A' (ns.length + 1) cap'))
    go_roundw
    case rel => exact ⟨j + 1, A', cap', ns ++ [n], by go_num, by omega, HN3, bP3, bR3, bG3, HO4, HE4⟩
    case measure => simp [intOf] <;> omega
  ·
   have hk119 := HK119.out
   obtain rfl : j = (cds t).length := by omega
   have hlI : ¬ ((cds t).length : Int) < ((cds t).length : Int) := by omega
   have HNN : Hid (Yu Zh (cds t) = some ns) := Oi (by have := HN.out; rwa [List.take_length] at this)
   clear HN HG bG hj hnl HW HX1
   clear hlt
   go_upto_region 12 with fail
   clear hlI
   have ek : ((k.toNat : Nat) : Int) = 119 := by rw [hk119]; rfl
   rw [ek] at bP
   have EK := Oi ek
   clear ek
   by_cases hn : ns.length = 3
   ·obtain ⟨p, q, m, rfl⟩ := list3 hn
    clear hn
    obtain ⟨ga, ca, rfl, hga, bA, hca⟩ := Own.box HO.out (by simp)
    clear HO
    simp only [List.length_cons, List.length_nil, Nat.reduceAdd] at bP
    have d0 : ca[0]? = some (.int .i64 p) := (hca 0 (by simp)).trans rfl
    have d1 : ca[1]? = some (.int .i64 q) := (hca 1 (by simp)).trans rfl
    have d2 : ca[2]? = some (.int .i64 m) := (hca 2 (by simp)).trans rfl
    have HCA : Hid (∀ j, j < [p, q, m].length → ca[j]? = some (.int .i64 ([p, q, m].getD j 0))) := Oi fun j hj => by
     simp only [List.length_cons, List.length_nil, Nat.reduceAdd] at hj
     obtain rfl | rfl | rfl : j = 0 ∨ j = 1 ∨ j = 2 := by omega
     ·exact d0
     ·exact d1
     ·exact d2
    clear hca
    have kd := fun w => Vx p q w
    rcases hd : Yi p q with _ | _
    ·simp only [Wn, hd, Bool.false_eq_true, if_false, Fr.v, Fr.none] at kd
     have HP : Hid (Zo (k :: t) = none) := Oi (by rw [Zi HNN.out, hk119]; simp [Yv, hd])
     clear HNN
     clear hk119
     clear hd
     have KD := Oi kd
     clear kd
     have hS : Zw w wr _ := Zw.put (Zw.put (⟨HE.out, trivial⟩ : Zw w wr []) bR) bP
     replace hS := Zw.put hS bA
     have hC := hS.reads
     simp only [Zz, Zy] at hC
     have hE := hS.ex
     go_upto_region 23 with fail
     clear hC hE
     have hS0 := hS
     refine Zm (St := Ex) (B := fun _ w' => InE _ _ w') 13 2 1 _ 27 (fun i => match i with | 0 => 13 | _ => 14) (fun i => match i with | 0 => 91 | _ => 92) (fun i => match i with | 0 => #[.int .i64 0, .int .i64 0, .int .i64 0] | _ => #[.int .i64 0, .int .i64 0, .int .i64 0]) (fun i => match i with | 0 => #[.int .i64 0, .int .i64 0, .int .i64 0] | _ => #[.int .i64 0, .int .i64 0, .int .i64 0]) false (by kernel_rfl) (by kernel_rfl) (InE.drew (InE.start hS0)) (by intro x y h1 h2 h3; revert h3; match x, y, h1, h2 with | 0, 0, _, _ => decide | 0, 1, _, _ => decide | 1, 0, _, _ => decide | 1, 1, _, _ => decide) (by intro x y h1 h2; match x, y, h1, h2 with | 0, 0, _, _ => decide | 0, 1, _, _ => decide | 1, 0, _, _ => decide | 1, 1, _, _ => decide) (fun _ _ h g cs _ hb => hb.ex h) (fun _ _ cs h => h.alloc _) (fun _ _ h => h.size) ?_
     iterate 8 (apply Zx; (· rfl); (· intro b wb hB Q1 hQ1; have hS := hB.sees; have hC := hS.reads; simp only [Zz, Zy] at hC; go_wp2_with fail; exact hQ1 _ (Ex.refl _) hB); (· exact ⟨_, rfl⟩))
     (apply Zx; (· rfl); (· intro b wb hB Q1 hQ1; go_wp2_with (go_at_call 105; (with_reducible refine (KD.out _).mono ?_); rintro e wn ⟨rfl, hx⟩); exact hQ1 _ hx (hB.go hx)); (· exact ⟨_, rfl⟩))
     iterate 4 (apply Zx; (· rfl); (· intro b wb hB Q1 hQ1; go_wp2_with fail; exact hQ1 _ (Ex.refl _) hB); (· exact ⟨_, rfl⟩))
     refine Zv ?_
     refine ⟨fun i hi => ?_, fun i hi => ?_, fun i hi => ?_, fun gg wz hz hbx hne => ?_⟩
     ·obtain rfl | rfl : i = 0 ∨ i = 1 := by omega
      all_goals exact ⟨_, rfl, Yt⟩
     ·obtain rfl | rfl : i = 0 ∨ i = 1 := by omega
      all_goals exact ⟨_, rfl, Zf Yn rfl (by kernel_rfl) (fun _ _ _ hg h => h.setRow hg _)⟩
     ·obtain rfl | rfl : i = 0 ∨ i = 1 := by omega
      ·exact (show (13 : Nat) < 128 by decide)
      ·exact (show (14 : Nat) < 128 by decide)
     obtain ⟨hg0, hb0⟩ := hbx 0 (by omega)
     obtain ⟨hg1, hb1⟩ := hbx 1 (by omega)
     replace hS := InE.join hS0 hz
     replace hS := Zw.put hS hb0
     replace hS := Zw.put hS hb1
     simp only [frN, Act.put, Og, Of, Oe, Nat.reduceAdd, List.drop_succ_cons, List.drop_zero]
     generalize gg 0 = g0 at *
     generalize gg 1 = g1 at *
     clear hbx hz hS0 hne
     replace hS := hS.tail.tail
     clear hb0 hb1 hg0 hg1
     have hC := hS.reads
     simp only [Zz, Zy] at hC
     have hE := hS.ex
     have hbA := hS.boxes.1
     have hl1 := hS.boxes.2.1.lt
     go_upto_region 24 with fail
     clear hC hE hbA hl1
     refine Yw (St := fun _ _ => True) false (B := fun b w2 => Zw w w2 [(ga, 3, ca), (w.heap.size + 2, 115, #[.int .u8 119, .slice (some ⟨ga, 0, none⟩) 3 cap]), (w.heap.size, 115, if b then #[.int .u8 119, .slice (some ⟨ga, 0, none⟩) 3 cap] else #[.int .u8 0, .slice none 0 0])]) (by kernel_rfl) (by kernel_rfl) (hS.drewW) ?_
     iterate 3 (apply Zx; (· rfl); (· intro b wb hB Q1 hQ1; have hS := hB; have hC := hS.reads; simp only [Zz, Zy] at hC; go_wp2_with fail; exact hQ1 _ trivial hB); (· exact ⟨_, rfl⟩))
     refine Zr (by rfl) (by simp only [Act.put, Og, Of, Oe]; rfl) ?_
     refine Zr (by rfl) (by simp only [Act.put, Og, Of, Oe]; rfl) ?_
     refine Zr (by rfl) (by simp only [Act.put, Og, Of, Oe]; rfl) ?_
     refine Zr (by rfl) (by simp only [Act.put, Og, Of, Oe]; rfl) ?_
     refine Zr (by rfl) (by simp only [Act.put, Og, Of, Oe]; rfl) ?_
     (apply Zx; (· rfl); (· intro b wb hB Q1 hQ1; go_wp2_with fail; exact hQ1 _ trivial hB); (· exact ⟨_, rfl⟩))
     apply Zs (d := true)
     ·rfl
     ·intro b wb hB Q1 hQ1
      have hB2 := Zw.ret2 (by omega) (by omega) hB
      have hS := hB
      have hC := hS.reads
      simp only [Zz, Zy] at hC
      rcases b with _ | _
      ·simp only [Bool.false_eq_true, if_false] at hC
       go_wp2_with fail
       exact hQ1 _ trivial hB2
      ·simp only [if_true] at hC
       go_wp2_with fail
       exact hQ1 _ trivial hB2
     ·exact ⟨undef, rfl⟩
     (apply Zx; (· rfl); (· intro b wb hB Q1 hQ1; go_wp2_with fail; exact hQ1 _ trivial hB); (· exact ⟨_, rfl⟩))
     refine Zv ?_
     intro wy hy
     simp only [Bool.or_true, Bool.or_false, Bool.false_or, if_true] at hy
     have hC := hy.reads
     simp only [Zz, Zy] at hC
     have hE := hy.ex
     have hbA := hy.boxes.1
     have hl1 := hy.boxes.2.1.lt
     go_wp2_with fail
     refine Od ?_ rfl (.inr ⟨(k.toNat : Int), (some ⟨ga, 0, none⟩), 3, cap, HP.out, rfl, ?_⟩)
     ·simp [results, Tryz.results71, go_sem, hC, EK.out]
     ·repeat' (with_reducible first | exact hE | refine Ex.setCell ?_ (by simp <;> omega) _)
    ·simp only [Wn, hd, if_true, Fr.v] at kd
     generalize Xl p q = c at kd
     generalize Xk p q = e at kd
     obtain ⟨c1, c2, c3⟩ := c
     obtain ⟨e1, e2, e3⟩ := e
     simp only at kd
     rcases hm : Yo m 0 3 with _ | _
     ·have HP : Hid (Zo (k :: t) = none) := Oi (by rw [Zi HNN.out, hk119]; simp [Yv, hd, hm])
      clear HNN
      clear hk119
      have kw := fun w => Xg m 0 3 w
      rw [hm] at kw
      clear hm
      have KW := Oi kw
      clear kw
      clear hd
      have KD := Oi kd
      clear kd
      have hS : Zw w wr _ := Zw.put (Zw.put (⟨HE.out, trivial⟩ : Zw w wr []) bR) bP
      replace hS := Zw.put hS bA
      have hC := hS.reads
      simp only [Zz, Zy] at hC
      have hE := hS.ex
      go_upto_region 23 with fail
      clear hC hE
      have hS0 := hS
      refine Zm (St := Ex) (B := fun _ w' => InE _ _ w') 13 2 1 _ 27 (fun i => match i with | 0 => 13 | _ => 14) (fun i => match i with | 0 => 91 | _ => 92) (fun i => match i with | 0 => #[.int .i64 0, .int .i64 0, .int .i64 0] | _ => #[.int .i64 0, .int .i64 0, .int .i64 0]) (fun i => match i with | 0 => #[.int .i64 c1, .int .i64 c2, .int .i64 c3] | _ => #[.int .i64 e1, .int .i64 e2, .int .i64 e3]) false (by kernel_rfl) (by kernel_rfl) (InE.drew (InE.start hS0)) (by intro x y h1 h2 h3; revert h3; match x, y, h1, h2 with | 0, 0, _, _ => decide | 0, 1, _, _ => decide | 1, 0, _, _ => decide | 1, 1, _, _ => decide) (by intro x y h1 h2; match x, y, h1, h2 with | 0, 0, _, _ => decide | 0, 1, _, _ => decide | 1, 0, _, _ => decide | 1, 1, _, _ => decide) (fun _ _ h g cs _ hb => hb.ex h) (fun _ _ cs h => h.alloc _) (fun _ _ h => h.size) ?_
      iterate 8 (apply Zx; (· rfl); (· intro b wb hB Q1 hQ1; have hS := hB.sees; have hC := hS.reads; simp only [Zz, Zy] at hC; go_wp2_with fail; exact hQ1 _ (Ex.refl _) hB); (· exact ⟨_, rfl⟩))
      (apply Zx; (· rfl); (· intro b wb hB Q1 hQ1; go_wp2_with (go_at_call 105; (with_reducible refine (KD.out _).mono ?_); rintro e wn ⟨rfl, hx⟩); exact hQ1 _ hx (hB.go hx)); (· exact ⟨_, rfl⟩))
      iterate 4 (apply Zx; (· rfl); (· intro b wb hB Q1 hQ1; go_wp2_with fail; exact hQ1 _ (Ex.refl _) hB); (· exact ⟨_, rfl⟩))
      refine Zv ?_
      refine ⟨fun i hi => ?_, fun i hi => ?_, fun i hi => ?_, fun gg wz hz hbx hne => ?_⟩
      ·obtain rfl | rfl : i = 0 ∨ i = 1 := by omega
       all_goals exact ⟨_, rfl, Yt⟩
      ·obtain rfl | rfl : i = 0 ∨ i = 1 := by omega
       all_goals exact ⟨_, rfl, Zf Yn rfl (by kernel_rfl) (fun _ _ _ hg h => h.setRow hg _)⟩
      ·obtain rfl | rfl : i = 0 ∨ i = 1 := by omega
       ·exact (show (13 : Nat) < 128 by decide)
       ·exact (show (14 : Nat) < 128 by decide)
      obtain ⟨hg0, hb0⟩ := hbx 0 (by omega)
      obtain ⟨hg1, hb1⟩ := hbx 1 (by omega)
      replace hS := InE.join hS0 hz
      replace hS := Zw.put hS hb0
      replace hS := Zw.put hS hb1
      simp only [frN, Act.put, Og, Of, Oe, Nat.reduceAdd, List.drop_succ_cons, List.drop_zero]
      generalize gg 0 = g0 at *
      generalize gg 1 = g1 at *
      clear hbx hz hS0 hne
      replace hS := hS.tail.tail
      clear hb0 hb1 hg0 hg1
      have hC := hS.reads
      simp only [Zz, Zy] at hC
      have hE := hS.ex
      have hbA := hS.boxes.1
      have hl1 := hS.boxes.2.1.lt
      go_upto_region 24 with fail
      clear hC hE hbA hl1
      refine Yw (St := fun _ _ => True) false (B := fun b w2 => Zw w w2 [(ga, 3, ca), (w.heap.size + 2, 115, #[.int .u8 119, .slice (some ⟨ga, 0, none⟩) 3 cap]), (w.heap.size, 115, if b then #[.int .u8 119, .slice (some ⟨ga, 0, none⟩) 3 cap] else #[.int .u8 0, .slice none 0 0])]) (by kernel_rfl) (by kernel_rfl) (hS.drewW) ?_
      iterate 7 (apply Zx; (· rfl); (· intro b wb hB Q1 hQ1; have hS := hB; have hC := hS.reads; simp only [Zz, Zy] at hC; go_wp2_with fail; exact hQ1 _ trivial hB); (· exact ⟨_, rfl⟩))
      (apply Zx; (· rfl); (· intro b wb hB Q1 hQ1; go_wp2_with (go_at_call 102; (with_reducible refine (KW.out _).mono ?_); rintro e wn ⟨rfl, rfl⟩); exact hQ1 _ trivial hB); (· exact ⟨_, rfl⟩))
      (apply Zx; (· rfl); (· intro b wb hB Q1 hQ1; go_wp2_with fail; exact hQ1 _ trivial hB); (· exact ⟨_, rfl⟩))
      apply Zs (d := true)
      ·rfl
      ·intro b wb hB Q1 hQ1
       have hB2 := Zw.ret2 (by omega) (by omega) hB
       have hS := hB
       have hC := hS.reads
       simp only [Zz, Zy] at hC
       rcases b with _ | _
       ·simp only [Bool.false_eq_true, if_false] at hC
        go_wp2_with fail
        exact hQ1 _ trivial hB2
       ·simp only [if_true] at hC
        go_wp2_with fail
        exact hQ1 _ trivial hB2
      ·exact ⟨undef, rfl⟩
      (apply Zx; (· rfl); (· intro b wb hB Q1 hQ1; go_wp2_with fail; exact hQ1 _ trivial hB); (· exact ⟨_, rfl⟩))
      refine Zv ?_
      intro wy hy
      simp only [Bool.or_true, Bool.or_false, Bool.false_or, if_true] at hy
      have hC := hy.reads
      simp only [Zz, Zy] at hC
      have hE := hy.ex
      have hbA := hy.boxes.1
      have hl1 := hy.boxes.2.1.lt
      go_wp2_with fail
      refine Od ?_ rfl (.inr ⟨(k.toNat : Int), (some ⟨ga, 0, none⟩), 3, cap, HP.out, rfl, ?_⟩)
      ·simp [results, Tryz.results71, go_sem, hC, EK.out]
      ·repeat' (with_reducible first | exact hE | refine Ex.setCell ?_ (by simp <;> omega) _)
     ·have HP : Hid (Zo (k :: t) = some (k, [p, q, m])) := Oi (by rw [Zi HNN.out, hk119]; simp [Yv, hd, hm])
      clear HNN
      clear hk119
      have kw := fun w => Xg m 0 3 w
      rw [hm] at kw
      clear hm
      have KW := Oi kw
      clear kw
      clear hd
      have KD := Oi kd
      clear kd
      have hS : Zw w wr _ := Zw.put (Zw.put (⟨HE.out, trivial⟩ : Zw w wr []) bR) bP
      replace hS := Zw.put hS bA
      have hC := hS.reads
      simp only [Zz, Zy] at hC
      have hE := hS.ex
      go_upto_region 23 with fail
      clear hC hE
      have hS0 := hS
      refine Zm (St := Ex) (B := fun _ w' => InE _ _ w') 13 2 1 _ 27 (fun i => match i with | 0 => 13 | _ => 14) (fun i => match i with | 0 => 91 | _ => 92) (fun i => match i with | 0 => #[.int .i64 0, .int .i64 0, .int .i64 0] | _ => #[.int .i64 0, .int .i64 0, .int .i64 0]) (fun i => match i with | 0 => #[.int .i64 c1, .int .i64 c2, .int .i64 c3] | _ => #[.int .i64 e1, .int .i64 e2, .int .i64 e3]) false (by kernel_rfl) (by kernel_rfl) (InE.drew (InE.start hS0)) (by intro x y h1 h2 h3; revert h3; match x, y, h1, h2 with | 0, 0, _, _ => decide | 0, 1, _, _ => decide | 1, 0, _, _ => decide | 1, 1, _, _ => decide) (by intro x y h1 h2; match x, y, h1, h2 with | 0, 0, _, _ => decide | 0, 1, _, _ => decide | 1, 0, _, _ => decide | 1, 1, _, _ => decide) (fun _ _ h g cs _ hb => hb.ex h) (fun _ _ cs h => h.alloc _) (fun _ _ h => h.size) ?_
      iterate 8 (apply Zx; (· rfl); (· intro b wb hB Q1 hQ1; have hS := hB.sees; have hC := hS.reads; simp only [Zz, Zy] at hC; go_wp2_with fail; exact hQ1 _ (Ex.refl _) hB); (· exact ⟨_, rfl⟩))
      (apply Zx; (· rfl); (· intro b wb hB Q1 hQ1; go_wp2_with (go_at_call 105; (with_reducible refine (KD.out _).mono ?_); rintro e wn ⟨rfl, hx⟩); exact hQ1 _ hx (hB.go hx)); (· exact ⟨_, rfl⟩))
      iterate 4 (apply Zx; (· rfl); (· intro b wb hB Q1 hQ1; go_wp2_with fail; exact hQ1 _ (Ex.refl _) hB); (· exact ⟨_, rfl⟩))
      refine Zv ?_
      refine ⟨fun i hi => ?_, fun i hi => ?_, fun i hi => ?_, fun gg wz hz hbx hne => ?_⟩
      ·obtain rfl | rfl : i = 0 ∨ i = 1 := by omega
       all_goals exact ⟨_, rfl, Yt⟩
      ·obtain rfl | rfl : i = 0 ∨ i = 1 := by omega
       all_goals exact ⟨_, rfl, Zf Yn rfl (by kernel_rfl) (fun _ _ _ hg h => h.setRow hg _)⟩
      ·obtain rfl | rfl : i = 0 ∨ i = 1 := by omega
       ·exact (show (13 : Nat) < 128 by decide)
       ·exact (show (14 : Nat) < 128 by decide)
      obtain ⟨hg0, hb0⟩ := hbx 0 (by omega)
      obtain ⟨hg1, hb1⟩ := hbx 1 (by omega)
      replace hS := InE.join hS0 hz
      replace hS := Zw.put hS hb0
      replace hS := Zw.put hS hb1
      simp only [frN, Act.put, Og, Of, Oe, Nat.reduceAdd, List.drop_succ_cons, List.drop_zero]
      generalize gg 0 = g0 at *
      generalize gg 1 = g1 at *
      clear hbx hz hS0 hne
      replace hS := hS.tail.tail
      clear hb0 hb1 hg0 hg1
      have hC := hS.reads
      simp only [Zz, Zy] at hC
      have hE := hS.ex
      have hbA := hS.boxes.1
      have hl1 := hS.boxes.2.1.lt
      go_upto_region 24 with fail
      clear hC hE hbA hl1
      refine Yw (St := fun _ _ => True) false (B := fun b w2 => Zw w w2 [(ga, 3, ca), (w.heap.size + 2, 115, #[.int .u8 119, .slice (some ⟨ga, 0, none⟩) 3 cap]), (w.heap.size, 115, if b then #[.int .u8 119, .slice (some ⟨ga, 0, none⟩) 3 cap] else #[.int .u8 0, .slice none 0 0])]) (by kernel_rfl) (by kernel_rfl) (hS.drewW) ?_
      iterate 7 (apply Zx; (· rfl); (· intro b wb hB Q1 hQ1; have hS := hB; have hC := hS.reads; simp only [Zz, Zy] at hC; go_wp2_with fail; exact hQ1 _ trivial hB); (· exact ⟨_, rfl⟩))
      (apply Zx; (· rfl); (· intro b wb hB Q1 hQ1; go_wp2_with (go_at_call 102; (with_reducible refine (KW.out _).mono ?_); rintro e wn ⟨rfl, rfl⟩); exact hQ1 _ trivial hB); (· exact ⟨_, rfl⟩))
      (apply Zx; (· rfl); (· intro b wb hB Q1 hQ1; go_wp2_with fail; exact hQ1 _ trivial hB); (· exact ⟨_, rfl⟩))
      apply Zs (d := true)
      ·rfl
      ·intro b wb hB Q1 hQ1
       have hB2 := Zw.ret2 (by omega) (by omega) hB
       have hS := hB
       have hC := hS.reads
       simp only [Zz, Zy] at hC
       rcases b with _ | _
       ·simp only [Bool.false_eq_true, if_false] at hC
        go_wp2_with fail
        exact hQ1 _ trivial hB2
       ·simp only [if_true] at hC
        go_wp2_with fail
        exact hQ1 _ trivial hB2
      ·exact ⟨undef, rfl⟩
      (apply Zx; (· rfl); (· intro b wb hB Q1 hQ1; go_wp2_with fail; exact hQ1 _ trivial hB); (· exact ⟨_, rfl⟩))
      refine Zv ?_
      intro wy hy
      simp only [Bool.or_true, Bool.or_false, Bool.false_or, if_true] at hy
      have hC := hy.reads
      simp only [Zz, Zy] at hC
      have hE := hy.ex
      have hbA := hy.boxes.1
      have hl1 := hy.boxes.2.1.lt
      go_wp2_with fail
      refine Od ?_ rfl (.inl ⟨⟨k, ga, cap, ca, [p, q, m], ⟨#[]⟩⟩, HP.out, rfl, ⟨?_, ?_⟩, ?_⟩)
      ·simp [results, Tryz.results71, go_sem, hC, Pc.ci, Pc.cs, EK.out]
      ·repeat' (with_reducible first | exact hbA | refine Box.far ?_ (by simp <;> omega) _)
      ·exact HCA.out
      ·repeat' (with_reducible first | exact hE | refine Ex.setCell ?_ (by simp <;> omega) _)
   ·have hnI : ((ns.length : Int) == 3) = false := by rw [beq_eq_false_iff_ne]; omega
    have hnI2 : ¬ (ns.length : Int) = 3 := by omega
    have HP : Hid (Zo (k :: t) = none) := Oi (by rw [Zi HNN.out, hk119]; simp [Yv, hn])
    clear hn HNN HO
    clear hk119
    have hS : Zw w wr _ := Zw.put (Zw.put (⟨HE.out, trivial⟩ : Zw w wr []) bR) bP
    have hC := hS.reads
    simp only [Zz, Zy] at hC
    have hE := hS.ex
    go_wp2_with fail
    refine Od ?_ rfl (.inr ⟨(k.toNat : Int), A, ns.length, cap, HP.out, rfl, ?_⟩)
    ·simp [results, Tryz.results71, go_sem, hC, EK.out]
    ·repeat' (with_reducible first | exact hE | refine Ex.setCell ?_ (by simp <;> omega) _)
end
section
open Go.RowKit

attribute [local go_sem] Zq Zp
theorem wds_len (t : List UInt8) : (wds t).length ≤ t.length + 1 := by
 rw [← wds_tot t]
 unfold tot
 generalize wds t = ws
 induction ws with
 | nil => simp
 | cons x ws ih => simp only [List.map_cons, List.sum_cons, List.length_cons]; omega
theorem slPI : SlT 59 85 (.agg #[.int .u8 0, .slice none 0 0, .string ⟨#[]⟩]) 3 48 := ⟨Tryz.underlying59, by kernel_rfl, rfl, by omega, by omega⟩
theorem slPS : SlT 62 115 (.agg #[.int .u8 0, .slice none 0 0]) 2 32 := ⟨Tryz.underlying62, by kernel_rfl, rfl, by omega, by omega⟩
theorem ci_one (q : Pc) : ∀ u ∈ q.ci, u.oneCell' = true := fun u hu => by
 simp only [Pc.ci, List.mem_cons, List.not_mem_nil, or_false] at hu
 rcases hu with rfl | rfl | rfl <;> rfl
theorem cs_one (q : Pc) : ∀ u ∈ q.cs, u.oneCell' = true := fun u hu => by
 simp only [Pc.cs, List.mem_cons, List.not_mem_nil, or_false] at hu
 rcases hu with rfl | rfl <;> rfl
def Tg (cells : List Pc → List Value) (w : World) (l : List UInt8) : Ending → World → Prop := fun e w' =>
 (∃ (qs : List Pc) (A : Option Addr) (cap : Nat), Zj l = some (qs.map Pc.p) ∧ e = .returned (.tuple #[.slice A qs.length cap, .bool true]) ∧ Slc w' A (cells qs) ∧ Pcs w' qs ∧ Ex w w') ∨
 (Zj l = none ∧ e = .returned (.tuple #[.slice none 0 0, .bool false]) ∧ Ex w w')
theorem iReadBench_of (hp : ∀ l : List UInt8, l.length ≤ 1048576 → ∀ w, Xm w → Calls Tryz.prog 69 #[.string (Bs l)] w (Ra w l)) (l : List UInt8) (hl : l.length ≤ 1048576) (w : World) (hm : Xm w) : Calls Tryz.prog 25 #[.string (Bs l)] w (Tg Yb w l) := by
 by_cases hne : l = []
 ·subst hne
  have he : Bs [] = (⟨#[]⟩ : ByteArray) := rfl
  rw [he]
  clear hm hp
  have hS := Zw.refl w
  have hC := True.intro
  go_enter Tryz.func25, Tryz.ntmps25
  go_wp2
  refine Od ?_ rfl (.inl ⟨[], some ⟨w.heap.size, 0, none⟩, 0, rfl, rfl, Slc.nil _ _, Pcs.nil _, ?_⟩)
  ·simp [results, Tryz.results25, go_sem]
  ·repeat' (with_reducible first | exact hS.ex | exact Ex.refl _ | assumption | apply Ex.alloc | apply Ex.drewN | apply Ex.drew | refine Ex.setCell ?_ (by simp <;> omega) _)
 ·have ks := fun w hm => splitBB l (by omega) w hm
  have HW : Hid (∀ x ∈ wds l, x.length ≤ 1048576) := Oi fun x hx => by
   have h1 := Rc l x hx
   omega
  have hE0 : Bs l ≠ (⟨#[]⟩ : ByteArray) := fun e => hne (by
   have := congrArg (fun b : ByteArray => b.data.toList) e
   simpa [Bs] using this)
  have hne2 : (Bs l).toList.isEmpty = false := by simpa using Vf hE0
  have HNE := Oi hne
  have HWL : Hid ((wds l).length ≤ 1048577) := Oi (by have h1 := wds_len l; omega)
  generalize Bs l = S at ks hne2 ⊢
  have HP := Oi hp
  have HM := Oi hm
  have KS := Oi ks
  clear hp hm ks hE0 hne hl
  go_enter Tryz.func25, Tryz.ntmps25
  go_wp2_with fail
  refine (KS.out _ (HM.out.alloc _)).mono ?_
  rintro e W2 ⟨g, gc, cur, rfl, hg, bG, HG, hx⟩
  have hE2 := ((Ex.refl w).alloc (.cells #[] 85)).trans hx
  have hO0 : Own W2 w.heap.size 85 3 (.slice (some ⟨w.heap.size, 0, none⟩) 0 0) 0 [] := (own_nil w w.heap.size 85 3 (Nat.le_refl _)).ex hx
  clear hx KS hg
  go_wp2_with fail
  go_loopw [16, 4, 6, 7, 8] (fun i v f p o wr => ∃ (j : Nat) (A : Option Addr) (cap : Nat) (qs : List Pc), i = .int .i64 j ∧ v = .slice A qs.length cap ∧ j ≤ (wds l).length ∧ qs.length ≤ 12 ∧ Hid (Yu Zo ((wds l).take j) = some (qs.map Pc.p)) ∧
    Hid (Own wr w.heap.size 85 3 (.slice A qs.length cap) qs.length (Yb qs)) ∧ Hid (Pcs wr qs) ∧ Box wr g 9 cur ∧ Hid (Ex w wr)) (fun i _ _ _ _ _ => (wds l).length + 1 - (intOf i).toNat)
  case atStart => exact ⟨0, _, 0, [], rfl, rfl, by omega, by simp, Oi rfl, Oi hO0, Oi (Pcs.nil _), bG, Oi hE2⟩
  case round =>
   clear bG hO0 hE2
   obtain ⟨j, A, cap, qs, rfl, rfl, hj, hq, HN, HO, HQ, bG, HE⟩ := hrel
   have hsz := HE.out.size
   by_cases hlt : j < (wds l).length
   ·have hcell := HG.out j hlt
    have hmem : (wds l)[j] ∈ wds l := List.getElem_mem hlt
    have hxl := HW.out _ hmem
    have HMs : Hid (Yu Zo ((wds l).take (j + 1)) = Yu Zo ((wds l).take j ++ [(wds l)[j]])) := Oi (by rw [Yk hlt])
    have HLN : Hid (qs.length = j) := Oi (by have := Xz HN.out; rw [List.length_map, List.length_take] at this; omega)
    generalize (wds l)[j] = x at *
    have kp := fun w hm => HP.out x hxl w hm
    have hlI : (j : Int) < ((wds l).length : Int) := by omega
    have hw5 : IntKind.i64.wrap ((j : Int) + 1) = (j : Int) + 1 := Oc _ (by have := HWL.out; omega)
    obtain ⟨X, HX⟩ : ∃ X, Hid (X = Bs x) := ⟨_, Oi rfl⟩
    rw [← HX.out] at hcell kp
    have KP := Oi kp
    have HMem := Oi hmem
    have cG := bG.cell
    have zG := bG.lt
    clear kp hmem hxl
    go_wp2_with fail
    refine (KP.out _ (HM.out.ex HE.out)).mono ?_
    rintro e w2 (⟨q, hq2, rfl, hqo, hx⟩ | ⟨k2, A2, n2, c2, S2, hq2, rfl, hx⟩)
    ·have HO2 := Oi (Own.ex HO.out hx)
     have HQ2 := Oi ((HQ.out.ex hx))
     have HQo := Oi hqo
     have HE2 := Oi (HE.out.trans hx)
     have bG2 := bG.ex hx
     have HN3 : Hid (Yu Zo ((wds l).take (j + 1)) = some ((qs ++ [q]).map Pc.p)) := Oi (by rw [HMs.out, List.map_append]; exact Xu hq2 HN.out)
     clear hx hqo hq2 cG zG KP hcell bG
     simp only [Pc.ci]
     by_cases h12 : qs.length = 12
     ·have h12I : ((qs.length : Int) == 12) = true := by simp; omega
      have HB : Hid (Zj l = none) := Oi (benchOf_many HNE.out (by have := HLN.out; omega))
      go_wp2
      refine Od ?_ rfl (.inr ⟨HB.out, rfl, ?_⟩)
      ·simp [results, Tryz.results25, go_sem]
      ·have hE := HE2.out
       repeat' (with_reducible first | exact hE | refine Ex.alloc ?_ _)
     ·have h12I : ((qs.length : Int) == 12) = false := by simp; omega
      have HO3 := Oi (Own.alloc HO2.out (.cells #[.int .u8 q.k.toNat, .slice (some ⟨q.g, 0, none⟩) q.ns.length q.cap, .string q.S] 85))
      have HQ3 := Oi (HQ2.out.snoc HQo.out)
      have hs2 := HE2.out.size
      have hq3 : (qs ++ [q]).length = qs.length + 1 := by simp
      have HQL := Oi hq3
      clear HQ2 HQo HO2 hq3
      go_wp2_with (at_builtin; refine Xr slPI rfl _ _ (w2.alloc (.cells #[.int .u8 q.k.toNat, .slice (some ⟨q.g, 0, none⟩) q.ns.length q.cap, .string q.S] 85)) rfl w.heap.size A cap qs.length (Yb qs) [.int .u8 q.k.toNat, .slice (some ⟨q.g, 0, none⟩) q.ns.length q.cap, .string q.S] rfl (ci_one q) rfl HO3.out (by rw [Oh]; rfl) (by omega) (by simp; omega) ?_)
      intro A' cap' w' hown' hk'
      have HE3 := Oi (hk'.ex w (HE2.out.alloc _) (Nat.le_refl _))
      have HQ4 := Oi (Pcs.keeps (HQ3.out.ex ((Ex.refl w2).alloc (.cells #[.int .u8 q.k.toNat, .slice (some ⟨q.g, 0, none⟩) q.ns.length q.cap, .string q.S] 85))) hk' (by decide))
      have bG3 := hk'.box _ _ _ (bG2.alloc (.cells #[.int .u8 q.k.toNat, .slice (some ⟨q.g, 0, none⟩) q.ns.length q.cap, .string q.S] 85)) (by decide)
      have HO4 : Hid (Own w' w.heap.size 85 3 (.slice A' (qs ++ [q]).length cap') (qs ++ [q]).length (Yb (qs ++ [q]))) := Oi (by rw [HQL.out, cellsI_snoc]; exact hown')
      clear hown' hk' HO3 HQ3 HE2 bG2
      go_wp2
      go_roundw
      case rel => exact ⟨j + 1, A', cap', qs ++ [q], by go_num, by rw [HQL.out], by omega, by rw [HQL.out]; omega, HN3, HO4, HQ4, bG3, HE3⟩
      case measure => simp [intOf] <;> omega
    ·have HB : Hid (Zj l = none) := Oi (Ql HNE.out HMem.out hq2)
     have HE2 := Oi (HE.out.trans hx)
     clear hx hq2 cG zG KP hcell
     go_wp2
     refine Od ?_ rfl (.inr ⟨HB.out, rfl, ?_⟩)
     ·simp [results, Tryz.results25, go_sem]
     ·have hE := HE2.out
      repeat' (with_reducible first | exact hE | refine Ex.alloc ?_ _)
   ·obtain rfl : j = (wds l).length := by omega
    have hlI : ¬ ((wds l).length : Int) < ((wds l).length : Int) := by omega
    have HB : Hid (Zj l = some (qs.map Pc.p)) := Oi (by
     have h1 := HN.out
     rw [List.take_length] at h1
     rw [Ow HNE.out h1, if_pos (by rw [List.length_map]; exact hq)])
    clear hlt
    go_wp2
    refine Od ?_ rfl (.inl ⟨qs, A, cap, HB.out, rfl, Own.slc HO.out, HQ.out, HE.out⟩)
    simp [results, Tryz.results25, go_sem]
theorem sL7Bench_of (hp : ∀ l : List UInt8, l.length ≤ 1048576 → ∀ w, Calls Tryz.prog 71 #[.string (Bs l)] w (Sn w l)) (l : List UInt8) (hl : l.length ≤ 1048576) (w : World) : Calls Tryz.prog 26 #[.string (Bs l)] w (BnGot Xt w l) := by
 by_cases hne : l = []
 ·subst hne
  have he : Bs [] = (⟨#[]⟩ : ByteArray) := rfl
  rw [he]
  clear hp
  have hS := Zw.refl w
  have hC := True.intro
  go_enter Tryz.func26, Tryz.ntmps26
  go_wp2
  refine Od ?_ rfl (.inl ⟨[], some ⟨w.heap.size, 0, none⟩, 0, rfl, rfl, Slc.nil _ _, Pcs.nil _, ?_⟩)
  ·simp [results, Tryz.results26, go_sem]
  ·repeat' (with_reducible first | exact hS.ex | exact Ex.refl _ | assumption | apply Ex.alloc | apply Ex.drewN | apply Ex.drew | refine Ex.setCell ?_ (by simp <;> omega) _)
 ·have ks := fun w => cutBB l (by omega) w
  have HW : Hid (∀ x ∈ wds l, x.length ≤ 1048576) := Oi fun x hx => by
   have h1 := Rc l x hx
   omega
  have hE0 : Bs l ≠ (⟨#[]⟩ : ByteArray) := fun e => hne (by
   have := congrArg (fun b : ByteArray => b.data.toList) e
   simpa [Bs] using this)
  have hne2 : (Bs l).toList.isEmpty = false := by simpa using Vf hE0
  have HNE := Oi hne
  have HWL : Hid ((wds l).length ≤ 1048577) := Oi (by have h1 := wds_len l; omega)
  have hsz : (Bs l).size = l.length := Zd l
  generalize Bs l = S at ks hne2 hsz ⊢
  have HP := Oi hp
  have KS := Oi ks
  clear hp ks hE0 hne
  by_cases h300 : 300 < l.length
  ·have h3 : 300 < (S.size : Int) := by omega
   have HB : Hid (Zj l = none) := Oi (by
    cases hb : Zj l with
    | none => rfl
    | some ps => have := benchOf_len hb; omega)
   clear hsz hl h300
   have hS := Zw.refl w
   have hC := True.intro
   go_enter Tryz.func26, Tryz.ntmps26
   go_wp2
   refine Od ?_ rfl (.inr ⟨some ⟨w.heap.size, 0, none⟩, 0, 0, HB.out, rfl, ?_⟩)
   ·simp [results, Tryz.results26, go_sem]
   ·repeat' (with_reducible first | exact hS.ex | exact Ex.refl _ | assumption | apply Ex.alloc | apply Ex.drewN | apply Ex.drew | refine Ex.setCell ?_ (by simp <;> omega) _)
  have h3 : ¬ 300 < (S.size : Int) := by omega
  have HL := Oi h300
  clear hsz hl h300
  go_enter Tryz.func26, Tryz.ntmps26
  go_wp2_with fail
  refine (KS.out _).mono ?_
  rintro e W2 ⟨g, gc, cur, rfl, hg, bG, HG, hx⟩
  have hE2 := ((Ex.refl w).alloc (.cells #[] 115)).trans hx
  have hO0 : Own W2 w.heap.size 115 2 (.slice (some ⟨w.heap.size, 0, none⟩) 0 0) 0 [] := (own_nil w w.heap.size 115 2 (Nat.le_refl _)).ex hx
  clear hx KS hg
  go_wp2_with fail
  go_loopw [6, 4, 7, 8] (fun i v p o wr => ∃ (j : Nat) (A : Option Addr) (cap : Nat) (qs : List Pc), i = .int .i64 j ∧ v = .slice A qs.length cap ∧ j ≤ (wds l).length ∧ qs.length = j ∧ Hid (Yu Zo ((wds l).take j) = some (qs.map Pc.p)) ∧
    Hid (Own wr w.heap.size 115 2 (.slice A qs.length cap) qs.length (Xt qs)) ∧ Hid (Pcs wr qs) ∧ Box wr g 9 cur ∧ Hid (Ex w wr)) (fun i _ _ _ _ => (wds l).length + 1 - (intOf i).toNat)
  case atStart => exact ⟨0, _, 0, [], rfl, rfl, by omega, rfl, Oi rfl, Oi hO0, Oi (Pcs.nil _), bG, Oi hE2⟩
  case round =>
   clear bG hO0 hE2
   obtain ⟨j, A, cap, qs, rfl, rfl, hj, hq, HN, HO, HQ, bG, HE⟩ := hrel
   have hsz := HE.out.size
   by_cases hlt : j < (wds l).length
   ·have hcell := HG.out j hlt
    have hmem : (wds l)[j] ∈ wds l := List.getElem_mem hlt
    have hxl := HW.out _ hmem
    have HMs : Hid (Yu Zo ((wds l).take (j + 1)) = Yu Zo ((wds l).take j ++ [(wds l)[j]])) := Oi (by rw [Yk hlt])
    have HLN := Oi hq
    clear hq
    have hq : qs.length ≤ 1000001 := by have h1 := HLN.out; have h2 := wds_len l; have h4 := HL.out; omega
    generalize (wds l)[j] = x at *
    have kp := fun w => HP.out x hxl w
    have hlI : (j : Int) < ((wds l).length : Int) := by omega
    have hw5 : IntKind.i64.wrap ((j : Int) + 1) = (j : Int) + 1 := Oc _ (by have := HWL.out; omega)
    obtain ⟨X, HX⟩ : ∃ X, Hid (X = Bs x) := ⟨_, Oi rfl⟩
    rw [← HX.out] at hcell kp
    have KP := Oi kp
    have HMem := Oi hmem
    have cG := bG.cell
    have zG := bG.lt
    clear kp hmem hxl
    go_wp2_with fail
    refine (KP.out _).mono ?_
    rintro e w2 (⟨q, hq2, rfl, hqo, hx⟩ | ⟨k2, A2, n2, c2, hq2, rfl, hx⟩)
    ·have HO2 := Oi (Own.ex HO.out hx)
     have HQ2 := Oi ((HQ.out.ex hx))
     have HQo := Oi hqo
     have HE2 := Oi (HE.out.trans hx)
     have bG2 := bG.ex hx
     have HN3 : Hid (Yu Zo ((wds l).take (j + 1)) = some ((qs ++ [q]).map Pc.p)) := Oi (by rw [HMs.out, List.map_append]; exact Xu hq2 HN.out)
     clear hx hqo hq2 cG zG KP hcell bG
     simp only [Pc.cs]
     have HO3 := Oi (Own.alloc HO2.out (.cells #[.int .u8 q.k.toNat, .slice (some ⟨q.g, 0, none⟩) q.ns.length q.cap] 115))
     have HQ3 := Oi (HQ2.out.snoc HQo.out)
     have hs2 := HE2.out.size
     have hq3 : (qs ++ [q]).length = qs.length + 1 := by simp
     have HQL := Oi hq3
     clear HQ2 HQo HO2 hq3
     go_wp2_with (at_builtin; refine Xr slPS rfl _ _ (w2.alloc (.cells #[.int .u8 q.k.toNat, .slice (some ⟨q.g, 0, none⟩) q.ns.length q.cap] 115)) rfl w.heap.size A cap qs.length (Xt qs) [.int .u8 q.k.toNat, .slice (some ⟨q.g, 0, none⟩) q.ns.length q.cap] rfl (cs_one q) rfl HO3.out (by rw [Oh]; rfl) (by omega) (by simp; omega) ?_)
     intro A' cap' w' hown' hk'
     have HE3 := Oi (hk'.ex w (HE2.out.alloc _) (Nat.le_refl _))
     have HQ4 := Oi (Pcs.keeps (HQ3.out.ex ((Ex.refl w2).alloc (.cells #[.int .u8 q.k.toNat, .slice (some ⟨q.g, 0, none⟩) q.ns.length q.cap] 115))) hk' (by decide))
     have bG3 := hk'.box _ _ _ (bG2.alloc (.cells #[.int .u8 q.k.toNat, .slice (some ⟨q.g, 0, none⟩) q.ns.length q.cap] 115)) (by decide)
     have HO4 : Hid (Own w' w.heap.size 115 2 (.slice A' (qs ++ [q]).length cap') (qs ++ [q]).length (Xt (qs ++ [q]))) := Oi (by rw [HQL.out, cellsS_snoc]; exact hown')
     clear hown' hk' HO3 HQ3 HE2 bG2
     go_wp2
     go_roundw
     case rel => exact ⟨j + 1, A', cap', qs ++ [q], by go_num, by rw [HQL.out], by omega, by rw [HQL.out, HLN.out], HN3, HO4, HQ4, bG3, HE3⟩
     case measure => simp [intOf] <;> omega
    ·have HB : Hid (Zj l = none) := Oi (Ql HNE.out HMem.out hq2)
     have HE2 := Oi (HE.out.trans hx)
     clear hx hq2 cG zG KP hcell
     go_wp2
     refine Od ?_ rfl (.inr ⟨A, qs.length, cap, HB.out, rfl, ?_⟩)
     ·simp [results, Tryz.results26, go_sem]
     ·have hE := HE2.out
      repeat' (with_reducible first | exact hE | refine Ex.alloc ?_ _)
   ·obtain rfl : j = (wds l).length := by omega
    have hlI : ¬ ((wds l).length : Int) < ((wds l).length : Int) := by omega
    have h1 := HN.out
    rw [List.take_length] at h1
    have h2 := Ow HNE.out h1
    rw [List.length_map] at h2
    clear h1 hlt
    by_cases h12 : qs.length ≤ 12
    ·have h12I : (qs.length : Int) ≤ 12 := by omega
     rw [if_pos h12] at h2
     have HB := Oi h2
     have HQL := Oi hq
     clear h2 h12 hq
     go_wp2
     refine Od ?_ rfl (.inl ⟨qs, A, cap, HB.out, rfl, Own.slc HO.out, HQ.out, HE.out⟩)
     simp [results, Tryz.results26, go_sem]
    ·have h12I : ¬ (qs.length : Int) ≤ 12 := by omega
     rw [if_neg h12] at h2
     have HB := Oi h2
     clear h2 h12 hq
     go_wp2
     refine Od ?_ rfl (.inr ⟨A, qs.length, cap, HB.out, rfl, HE.out⟩)
     simp [results, Tryz.results26, go_sem]
end
section
open Go.RowKit

theorem dig_nat (m : Nat) : m ≤ 1000000000 → ∀ w, Calls Tryz.prog 12 #[.int .i64 m] w fun e w' => e = .returned (.string (Bs (Lib.decDigits m))) ∧ Ex w w' := by
 induction m using Nat.strongRecOn with
 | _ m ih =>
  intro hm w
  have hlo0 : ¬ (m : Int) < -1000000000 := by omega
  have hlo1 : ¬ (m : Int) < 0 := by omega
  by_cases h10 : m < 10
  ·rw [Xj h10]
   have h10i : (m : Int) < 10 := by omega
   have hw1 : IntKind.i64.wrap (48 + (m : Int)) = 48 + (m : Int) := Oc _ (by omega)
   have hcv := Pv (Box.new w #[.int .u8 (48 + (m : Int))] 5) (by omega) (by omega)
   have htn : (48 + (m : Int)).toNat = 48 + m := by omega
   rw [htn] at hcv
   clear htn
   generalize Bs [UInt8.ofNat (48 + m)] = S1 at hcv ⊢
   go_enter Tryz.func12, Tryz.ntmps12
   go_wp2
   go_ret
   exact ⟨rfl, (Ex.refl _).alloc _⟩
  ·rw [Us h10]
   have h10i : ¬ (m : Int) < 10 := by omega
   have hih := ih (m / 10) (by omega) (by omega)
   have hl1 : (Lib.decDigits (m / 10)).length ≤ 21 := Pw _ (by omega)
   obtain ⟨q, hq⟩ : ∃ q, q = m / 10 := ⟨_, rfl⟩
   obtain ⟨r, hr⟩ : ∃ r, r = m % 10 := ⟨_, rfl⟩
   have hqm : q ≤ 100000000 := by omega
   have hq2 : (m : Int).tdiv 10 = (q : Int) := by rw [hq]; exact (Int.ofNat_tdiv m 10).symm
   have hr2 : (m : Int).tmod 10 = (r : Int) := by rw [hr]; exact (Int.ofNat_tmod m 10).symm
   have hr3 : r < 10 := by omega
   rw [← hq] at hih hl1 ⊢
   rw [← hr]
   clear hq hr ih
   have hw1 : IntKind.i64.wrap (48 + (r : Int)) = 48 + (r : Int) := Oc _ (by omega)
   have hw2 : IntKind.i64.wrap (q : Int) = (q : Int) := Oc _ (by omega)
   have hw3 : IntKind.u8.wrap (48 + (r : Int)) = 48 + (r : Int) := by
    show (48 + (r : Int)) % 256 = _
    omega
   obtain ⟨hz, hcat⟩ := Te (Lib.decDigits q) [UInt8.ofNat (48 + r)] (by simp; omega)
   have hone : ∀ W b, Box W b 5 #[.int .u8 (48 + (r : Int))] → (convert 22 9 (.slice (some ⟨b, 0, none⟩) 1 1)).run Tryz.prog W = .ok (.string (Bs [UInt8.ofNat (48 + r)])) W := fun W b hb => by
    have h := Pv hb (by omega) (by omega)
    have htn : (48 + (r : Int)).toNat = 48 + r := by omega
    rw [htn] at h
    exact h
   generalize Bs (Lib.decDigits q ++ [UInt8.ofNat (48 + r)]) = S3 at hcat ⊢
   generalize Bs [UInt8.ofNat (48 + r)] = S2 at hcat hz hone
   generalize Bs (Lib.decDigits q) = S1 at hcat hz hih
   have HO := Oi hone
   have HI := Oi hih
   clear hone hih hl1
   go_enter Tryz.func12, Tryz.ntmps12
   go_wp2_with fail
   have hcv0 := HO.out _ _ (Box.new w #[.int .u8 (48 + (r : Int))] 5)
   have hcv1 := HO.out (w.alloc (.cells #[.int .u8 (48 + (r : Int))] 5)).drew _ (Box.drew (Box.new w #[.int .u8 (48 + (r : Int))] 5))
   go_region_law (first
    | (go_simp; go_at_call 12; refine (HI.out w.drew).mono ?_; rintro e w3 ⟨rfl, hx3⟩; have hx4 : Ex w w3 := Ex.trans (Ex.refl _).drew hx3; have hcv2 := HO.out (w3.alloc (.cells #[.int .u8 (48 + (r : Int))] 5)) w3.heap.size (Box.new w3 _ _))
    | (go_simp; go_at_call 12; refine (HI.out (w.alloc (.cells #[.int .u8 (48 + (r : Int))] 5)).drew).mono ?_; rintro e w3 ⟨rfl, hx3⟩; have hx4 : Ex w w3 := Ex.trans ((Ex.refl _).alloc _).drew hx3; have hcv2 := HO.out w3 w.heap.size ((Box.drew (Box.new w _ _)).ex hx3)))
   all_goals
    go_wp2
    go_ret
    exact ⟨rfl, by repeat' (with_reducible first | exact Ex.refl _ | assumption | apply Ex.alloc | apply Ex.drewN | apply Ex.drew | refine Ex.setCell ?_ (by simp <;> omega) _)⟩
theorem dig_neg (m : Nat) (h1 : 1 ≤ m) (h : m ≤ 1000000000) (w : World) : Calls Tryz.prog 12 #[.int .i64 (-(m : Int))] w fun e w' => e = .returned (.string (Bs (45 :: Lib.decDigits m))) ∧ Ex w w' := by
 have hih := dig_nat m h
 have hl1 : (Lib.decDigits m).length ≤ 21 := Pw _ (by omega)
 obtain ⟨hz, hcat⟩ := Td 45 (Lib.decDigits m) (by omega)
 generalize Bs (45 :: Lib.decDigits m) = S3 at hcat ⊢
 generalize Bs (Lib.decDigits m) = S1 at hcat hz hih
 clear hl1
 have HI := Oi hih
 clear hih
 have hlo : ¬ (-(m : Int)) < -1000000000 := by omega
 have hlo2 : (-(m : Int)) < 0 := by omega
 have hng : IntKind.i64.wrap (0 - -(m : Int)) = (m : Int) := by rw [Int.sub_neg, Int.zero_add]; exact Oc _ (by omega)
 have hng2 : IntKind.i64.wrap (m : Int) = (m : Int) := Oc _ (by omega)
 go_enter Tryz.func12, Tryz.ntmps12
 go_wp2_with fail
 refine (HI.out _).mono ?_
 rintro e w1 ⟨rfl, hx⟩
 go_wp2
 go_ret
 exact ⟨rfl, hx⟩
theorem dig_any (n : Int) (h0 : -1000000000 ≤ n) (h1 : n ≤ 1000000000) (w : World) : Calls Tryz.prog 12 #[.int .i64 n] w fun e w' => e = .returned (.string (Bs (Lib.itoa n))) ∧ Ex w w' := by
 by_cases hn : n < 0
 ·obtain ⟨m, rfl⟩ : ∃ m : Nat, n = -(m : Int) := ⟨n.natAbs, by omega⟩
  rw [Lib.itoa_neg m (by omega)]
  exact dig_neg m (by omega) (by omega) w
 ·obtain ⟨m, rfl⟩ : ∃ m : Nat, n = (m : Int) := ⟨n.toNat, by omega⟩
  rw [Lib.itoa_nonneg]
  exact dig_nat m (by omega) w
end
end Go.Proofs.YtmjggolkopbcnaaGreatDoor
