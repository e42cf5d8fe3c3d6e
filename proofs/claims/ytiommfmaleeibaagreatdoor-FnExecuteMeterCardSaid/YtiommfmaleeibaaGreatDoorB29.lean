/-
  Proved: what functions compute, part 29. No condition.
-/
import Derived.Test.YtiommfmaleeibaaGreatDoorB23
set_option linter.unusedSimpArgs false
set_option linter.unusedVariables false
set_option maxRecDepth 20000
set_option maxHeartbeats 8000000
namespace Go.Proofs.YtiommfmaleeibaaGreatDoor
section
open Go.RowKit

attribute [local go_sem] Zi Zh
theorem Qg (c : UInt8) (hc : c = 114 ∨ c = 102) (k : UInt8) (t : List UInt8) (hk114 : k = c) (hl : (k :: t).length ≤ 1048576) (w : World) (hm : Vs w) : Calls Tryz.prog 149 #[.string (Bs (k :: t))] w (Nr w (k :: t)) := by
 obtain ⟨C, hC⟩ : ∃ C : Int, Hid (C = ((c.toNat : Nat) : Int)) := ⟨_, Kw rfl⟩
 have q119 : (C == 119) = false := by rw [hC.out]; rcases hc with rfl | rfl <;> rfl
 have q97 : (C == 97) = false := by rw [hC.out]; rcases hc with rfl | rfl <;> rfl
 have q100 : (C == 100) = false := by rw [hC.out]; rcases hc with rfl | rfl <;> rfl
 rcases hc with rfl | rfl
 all_goals
  have q1 := congrArg (fun x : Int => x == 114) hC.out
  have q2 := congrArg (fun x : Int => x == 102) hC.out
  simp only [show (((114 : UInt8).toNat : Nat) : Int) = 114 from rfl, show (((102 : UInt8).toNat : Nat) : Int) = 102 from rfl, Int.reduceBEq] at q1 q2
  have HK114 := Kw hk114
  clear hk114
  have hlt : t.length ≤ 1048576 := by simp at hl; omega
  have hx1 := Mo k t
  obtain ⟨S, HS⟩ : ∃ S, Hid (S = Bs (k :: t)) := ⟨_, Kw rfl⟩
  have hsz : S.size = t.length + 1 := by rw [HS.out]; rfl
  obtain ⟨hs0, hk0⟩ : ∃ hs : 0 < S.size, S[0]'hs = k := by
   obtain ⟨h1, h2⟩ := Bs_at HS.out (i := 0) (by simp)
   exact ⟨h1, h2⟩
  rw [← HS.out] at hx1 ⊢
  have hne : ¬ S = (⟨#[]⟩ : ByteArray) := fun e => by rw [e] at hs0; exact absurd hs0 (by decide)
  have hne2 : S.toList.isEmpty = false := by simpa using Qv hne
  clear hne
  have ks := fun w hm => Mp t hlt w hm
  have HW : Hid (∀ x ∈ cds t, x.length ≤ 1048576) := Kw fun x hx => by
   have h1 := Tb t x hx
   omega
  have HCL : Hid ((cds t).length ≤ 1048576) := Kw (by have h1 := Mn t; simp only [List.length_cons] at hl; omega)
  generalize hT : Bs t = T at hx1 ks
  have HM := Kw hm
  have KS := Kw ks
  have HX1 := Kw hx1
  clear hm ks hT
  have hS := Zw.refl w
  have hC := True.intro
  go_enter Tryz.func149, Tryz.ntmps149
  go_upto_region 5 with fail
  have bR := (Box.new w #[.int .u8 0, .slice none 0 0, .string ⟨#[]⟩] 169).alloc (.cells #[.int .u8 (k.toNat : Int), .slice none 0 0, .string S] 169)
  have bP := Box.new (w.alloc (.cells #[.int .u8 0, .slice none 0 0, .string ⟨#[]⟩] 169)) #[.int .u8 (k.toNat : Int), .slice none 0 0, .string S] 169
  rw [Kv] at bP
  have hE1 : Ex w ((w.alloc (.cells #[.int .u8 0, .slice none 0 0, .string ⟨#[]⟩] 169)).alloc (.cells #[.int .u8 (k.toNat : Int), .slice none 0 0, .string S] 169)) := ((Ex.refl w).alloc _).alloc _
  have hz1 : ((w.alloc (.cells #[.int .u8 0, .slice none 0 0, .string ⟨#[]⟩] 169)).alloc (.cells #[.int .u8 (k.toNat : Int), .slice none 0 0, .string S] 169)).heap.size = w.heap.size + 2 := by simp only [Kv]
  generalize (w.alloc (.cells #[.int .u8 0, .slice none 0 0, .string ⟨#[]⟩] 169)).alloc (.cells #[.int .u8 (k.toNat : Int), .slice none 0 0, .string S] 169) = W1 at *
  clear hC hS hk0
  have hs1 : (1 : Int) ≤ (S.size : Int) := by omega
  clear hsz hl hlt
  go_wp2_with fail
  refine (KS.out _ (HM.out.ex hE1)).mono ?_
  rintro e W2 ⟨g, gc, cur, rfl, hg, bG, HG, hx⟩
  replace bR := bR.ex hx
  replace bP := bP.ex hx
  have hE2 := hE1.trans hx
  have hz2 := hx.size
  clear hx hE1 KS
  go_wp2_with fail
  have hO0 : Vt W2 (w.heap.size + 2) none 0 [] := ⟨by simp, .inl ⟨rfl, rfl⟩⟩
  go_loopw [25, 6, 7, 8] (fun i f n o wr => ∃ (j : Nat) (A : Option Addr) (cap : Nat) (ns : List Int), i = .int .i64 j ∧ j ≤ (cds t).length ∧ Hid (Xf Xa ((cds t).take j) = some ns) ∧ Box wr (w.heap.size + 1) 169 #[.int .u8 (k.toNat : Int), .slice A ns.length cap, .string S] ∧
    Box wr w.heap.size 169 #[.int .u8 0, .slice none 0 0, .string ⟨#[]⟩] ∧ Box wr g 9 cur ∧ Hid (Vt wr (w.heap.size + 2) A cap ns) ∧ Hid (Ex w wr)) (fun i _ _ _ _ => (cds t).length + 1 - (intOf i).toNat)
  case atStart => exact ⟨0, none, 0, [], rfl, by omega, Kw rfl, bP, bR, bG, Kw hO0, Kw hE2⟩
  case round =>
   clear bP bR bG hO0 hE2 hz2
   obtain ⟨j, A, cap, ns, rfl, hj, HN, bP, bR, bG, HO, HE⟩ := hrel
   have hnl : ns.length ≤ 1048576 := by
    have h1 := Wk HN.out
    have h2 := List.length_take_le j (cds t)
    have h3 := HCL.out
    omega
   by_cases hlt : j < (cds t).length
   ·have hcell := HG.out j hlt
    have hmem : (cds t)[j] ∈ cds t := List.getElem_mem hlt
    have hxl := HW.out _ hmem
    have HMs : Hid (Xf Xa ((cds t).take (j + 1)) = Xf Xa ((cds t).take j ++ [(cds t)[j]])) := Kw (by rw [Wb hlt])
    generalize (cds t)[j] = x at *
    have kp := fun w hm => Qo x hxl w hm
    have hlI : (j : Int) < ((cds t).length : Int) := by omega
    have hw5 : IntKind.i64.wrap ((j : Int) + 1) = (j : Int) + 1 := Kq _ (by have := HCL.out; omega)
    obtain ⟨X, HX⟩ : ∃ X, Hid (X = Bs x) := ⟨_, Kw rfl⟩
    rw [← HX.out] at hcell kp
    have KP := Kw kp
    have HMem := Kw hmem
    have cG := bG.cell
    have zG := bG.lt
    clear kp hmem hxl
    go_wp2_with fail
    refine (KP.out _ (HM.out.ex HE.out)).mono ?_
    rintro e w2 ⟨n, ok, rfl, hx, hn⟩
    have HNn := Kw hn
    replace bP := bP.ex hx
    replace bR := bR.ex hx
    replace bG := bG.ex hx
    have HE2 := Kw (HE.out.trans hx)
    have HO2 := Kw (HO.out.ex hx)
    clear hx hn cG zG KP hcell
    have cP := bP.cell
    have fP := bP.frozen
    have zP := bP.lt
    have cR := bR.cell
    have fR := bR.frozen
    have zR := bR.lt
    rcases ok with _ | _
    ·have HNo : Hid (Yq (k :: t) = none) := Kw (Ry (Tz HNn.out HMem.out))
     go_wp2
     refine Kr ?_ rfl (.inr ⟨k.toNat, A, ns.length, cap, S, HNo.out, rfl, ?_⟩)
     ·simp [results, Tryz.results149, go_sem, cP, cR]
     ·have hE := HE2.out
      repeat' (with_reducible first | exact hE | refine Ex.setCell ?_ (by simp <;> omega) _)
    ·have hs2 := HE2.out.size
     go_wp2_with (at_builtin; refine Vf rfl _ _ w2 rfl (w.heap.size + 2) A cap ns n rfl HO2.out rfl hnl (by omega) ?_)
     intro A' cap' w' hown' hk'
     have HE3 := Kw (hk'.ex w HE2.out (by omega))
     replace bP := hk'.box _ _ _ bP (by decide)
     replace bR := hk'.box _ _ _ bR (by decide)
     replace bG := hk'.box _ _ _ bG (by decide)
     have HO3 := Kw hown'
     have cP := bP.cell
     have fP := bP.frozen
     have zP := bP.lt
     clear hown' hk' HO2 HE2 cR fR zR
     have HN3 : Hid (Xf Xa ((cds t).take (j + 1)) = some (ns ++ [n])) := Kw (by rw [HMs.out]; exact Uu HNn.out HN.out)
     clear HNn HMs
     go_wp2
     have bP3 : Box (w'.setCell ⟨w.heap.size + 1, 1, none⟩ (.slice A' (ns.length + 1) cap')) (w.heap.size + 1) 169 #[.int .u8 (k.toNat : Int), .slice A' (ns ++ [n]).length cap', .string S] := by
      have h := bP.set_ 1 (.slice A' (ns.length + 1) cap')
      simpa using h
     have bR3 := bR.far (p := ⟨w.heap.size + 1, 1, none⟩) (by simp) (.slice A' (ns.length + 1) cap')
     have bG3 := bG.far (p := ⟨w.heap.size + 1, 1, none⟩) (by simp; omega) (.slice A' (ns.length + 1) cap')
     have HO4 := Kw (HO3.out.setBelow (p := ⟨w.heap.size + 1, 1, none⟩) (by simp) (.slice A' (ns.length + 1) cap'))
     have HE4 := Kw (HE3.out.setCell (p := ⟨w.heap.size + 1, 1, none⟩) (by simp) (.slice A' (ns.length + 1) cap'))
     go_roundw
     case rel => exact ⟨j + 1, A', cap', ns ++ [n], by go_num, by omega, HN3, bP3, bR3, bG3, HO4, HE4⟩
     case measure => simp [intOf] <;> omega
   ·
    have hk114 := HK114.out
    obtain rfl : j = (cds t).length := by omega
    have hlI : ¬ ((cds t).length : Int) < ((cds t).length : Int) := by omega
    have HNN : Hid (Xf Xa (cds t) = some ns) := Kw (by have := HN.out; rwa [List.take_length] at this)
    clear HN HG bG hj hnl HM HW HX1
    clear hlt
    go_upto_region 13 with fail
    clear hlI
    have ek : ((k.toNat : Nat) : Int) = C := by rw [hk114]; exact hC.out.symm
    rw [ek] at bP
    have EK := Kw ek
    clear ek
    by_cases hn : ns.length = 2
    ·obtain ⟨p, q, rfl⟩ := list2 hn
     clear hn
     obtain ⟨ga, ca, rfl, hga, bA, hca⟩ := Own.box HO.out (by simp)
     clear HO
     simp only [List.length_cons, List.length_nil, Nat.reduceAdd] at bP
     have d0 : ca[0]? = some (.int .i64 p) := (hca 0 (by simp)).trans rfl
     have d1 : ca[1]? = some (.int .i64 q) := (hca 1 (by simp)).trans rfl
     have HCA : Hid (∀ j, j < [p, q].length → ca[j]? = some (.int .i64 ([p, q].getD j 0))) := Kw fun j hj => by
      simp only [List.length_cons, List.length_nil, Nat.reduceAdd] at hj
      obtain rfl | rfl : j = 0 ∨ j = 1 := by omega
      ·exact d0
      ·exact d1
     clear hca
     have kd := fun w => Uv p q w
     rcases hd : Xd p q with _ | _
     ·simp only [Un, hd, Bool.false_eq_true, if_false, Fr.v, Fr.none] at kd
      have HP : Hid (Yq (k :: t) = none) := Kw (by rw [Xj HNN.out, hk114]; simp [Ws, hd])
      clear HNN hd
      clear hk114
      have KD := Kw kd
      clear kd
      have hS : Zw w wr _ := Zw.put (Zw.put (⟨HE.out, trivial⟩ : Zw w wr []) bR) bP
      replace hS := Zw.put hS bA
      have hC := hS.reads
      simp only [Zz, Zy] at hC
      have hE := hS.ex
      go_upto_region 18 with fail
      clear hC hE
      have hS0 := hS
      refine Zm (St := Ex) (B := fun _ w' => InE _ _ w') 13 2 1 _ 30 (fun i => match i with | 0 => 10 | _ => 11) (fun i => match i with | 0 => 63 | _ => 64) (fun i => match i with | 0 => #[.int .i64 0, .int .i64 0, .int .i64 0] | _ => #[.int .i64 0, .int .i64 0, .int .i64 0]) (fun i => match i with | 0 => #[.int .i64 0, .int .i64 0, .int .i64 0] | _ => #[.int .i64 0, .int .i64 0, .int .i64 0]) false (by kernel_rfl) (by kernel_rfl) (InE.drew (InE.start hS0)) (by intro x y h1 h2 h3; revert h3; match x, y, h1, h2 with | 0, 0, _, _ => decide | 0, 1, _, _ => decide | 1, 0, _, _ => decide | 1, 1, _, _ => decide) (by intro x y h1 h2; match x, y, h1, h2 with | 0, 0, _, _ => decide | 0, 1, _, _ => decide | 1, 0, _, _ => decide | 1, 1, _, _ => decide) (fun _ _ h g cs _ hb => hb.ex h) (fun _ _ cs h => h.alloc _) (fun _ _ h => h.size) ?_
      iterate 8 (apply Zx; (· rfl); (· intro b wb hB Q1 hQ1; have hS := hB.sees; have hC := hS.reads; simp only [Zz, Zy] at hC; go_wp2_with fail; exact hQ1 _ (Ex.refl _) hB); (· exact ⟨_, rfl⟩))
      (apply Zx; (· rfl); (· intro b wb hB Q1 hQ1; go_wp2_with (go_at_call 94; (with_reducible refine (KD.out _).mono ?_); rintro e wn ⟨rfl, hx⟩); exact hQ1 _ hx (hB.go hx)); (· exact ⟨_, rfl⟩))
      iterate 4 (apply Zx; (· rfl); (· intro b wb hB Q1 hQ1; go_wp2_with fail; exact hQ1 _ (Ex.refl _) hB); (· exact ⟨_, rfl⟩))
      refine Zq ?_
      refine ⟨fun i hi => ?_, fun i hi => ?_, fun i hi => ?_, fun gg wz hz hbx hne => ?_⟩
      ·obtain rfl | rfl : i = 0 ∨ i = 1 := by omega
       all_goals exact ⟨_, rfl, Zb⟩
      ·obtain rfl | rfl : i = 0 ∨ i = 1 := by omega
       all_goals exact ⟨_, rfl, Zf Yv rfl (by kernel_rfl) (fun _ _ _ hg h => h.setRow hg _)⟩
      ·obtain rfl | rfl : i = 0 ∨ i = 1 := by omega
       ·exact (show (10 : Nat) < 105 by decide)
       ·exact (show (11 : Nat) < 105 by decide)
      obtain ⟨hg0, hb0⟩ := hbx 0 (by omega)
      obtain ⟨hg1, hb1⟩ := hbx 1 (by omega)
      replace hS := InE.join hS0 hz
      replace hS := Zw.put hS hb0
      replace hS := Zw.put hS hb1
      simp only [frN, Act.put, Ku, Kt, Ks, Nat.reduceAdd, List.drop_succ_cons, List.drop_zero]
      generalize gg 0 = g0 at *
      generalize gg 1 = g1 at *
      clear hbx hz hS0 hne
      replace hS := hS.tail.tail
      clear hb0 hb1 hg0 hg1
      have hC := hS.reads
      simp only [Zz, Zy] at hC
      have hE := hS.ex
      have hbA := hS.boxes.1
      have hl1 := hS.boxes.2.1.lt
      go_wp2_with fail
      refine Kr ?_ rfl (.inr ⟨(k.toNat : Int), (some ⟨ga, 0, none⟩), 2, cap, S, HP.out, rfl, ?_⟩)
      ·simp [results, Tryz.results149, go_sem, hC, EK.out]
      ·repeat' (with_reducible first | exact hE | refine Ex.setCell ?_ (by simp <;> omega) _)
     ·simp only [Un, hd, if_true, Fr.v] at kd
      generalize Vx p q = c at kd
      generalize Vw p q = e at kd
      obtain ⟨c1, c2, c3⟩ := c
      obtain ⟨e1, e2, e3⟩ := e
      simp only at kd
      have HP : Hid (Yq (k :: t) = some (k, [p, q])) := Kw (by rw [Xj HNN.out, hk114]; simp [Ws, hd])
      clear HNN hd
      clear hk114
      have KD := Kw kd
      clear kd
      have hS : Zw w wr _ := Zw.put (Zw.put (⟨HE.out, trivial⟩ : Zw w wr []) bR) bP
      replace hS := Zw.put hS bA
      have hC := hS.reads
      simp only [Zz, Zy] at hC
      have hE := hS.ex
      go_upto_region 18 with fail
      clear hC hE
      have hS0 := hS
      refine Zm (St := Ex) (B := fun _ w' => InE _ _ w') 13 2 1 _ 30 (fun i => match i with | 0 => 10 | _ => 11) (fun i => match i with | 0 => 63 | _ => 64) (fun i => match i with | 0 => #[.int .i64 0, .int .i64 0, .int .i64 0] | _ => #[.int .i64 0, .int .i64 0, .int .i64 0]) (fun i => match i with | 0 => #[.int .i64 c1, .int .i64 c2, .int .i64 c3] | _ => #[.int .i64 e1, .int .i64 e2, .int .i64 e3]) false (by kernel_rfl) (by kernel_rfl) (InE.drew (InE.start hS0)) (by intro x y h1 h2 h3; revert h3; match x, y, h1, h2 with | 0, 0, _, _ => decide | 0, 1, _, _ => decide | 1, 0, _, _ => decide | 1, 1, _, _ => decide) (by intro x y h1 h2; match x, y, h1, h2 with | 0, 0, _, _ => decide | 0, 1, _, _ => decide | 1, 0, _, _ => decide | 1, 1, _, _ => decide) (fun _ _ h g cs _ hb => hb.ex h) (fun _ _ cs h => h.alloc _) (fun _ _ h => h.size) ?_
      iterate 8 (apply Zx; (· rfl); (· intro b wb hB Q1 hQ1; have hS := hB.sees; have hC := hS.reads; simp only [Zz, Zy] at hC; go_wp2_with fail; exact hQ1 _ (Ex.refl _) hB); (· exact ⟨_, rfl⟩))
      (apply Zx; (· rfl); (· intro b wb hB Q1 hQ1; go_wp2_with (go_at_call 94; (with_reducible refine (KD.out _).mono ?_); rintro e wn ⟨rfl, hx⟩); exact hQ1 _ hx (hB.go hx)); (· exact ⟨_, rfl⟩))
      iterate 4 (apply Zx; (· rfl); (· intro b wb hB Q1 hQ1; go_wp2_with fail; exact hQ1 _ (Ex.refl _) hB); (· exact ⟨_, rfl⟩))
      refine Zq ?_
      refine ⟨fun i hi => ?_, fun i hi => ?_, fun i hi => ?_, fun gg wz hz hbx hne => ?_⟩
      ·obtain rfl | rfl : i = 0 ∨ i = 1 := by omega
       all_goals exact ⟨_, rfl, Zb⟩
      ·obtain rfl | rfl : i = 0 ∨ i = 1 := by omega
       all_goals exact ⟨_, rfl, Zf Yv rfl (by kernel_rfl) (fun _ _ _ hg h => h.setRow hg _)⟩
      ·obtain rfl | rfl : i = 0 ∨ i = 1 := by omega
       ·exact (show (10 : Nat) < 105 by decide)
       ·exact (show (11 : Nat) < 105 by decide)
      obtain ⟨hg0, hb0⟩ := hbx 0 (by omega)
      obtain ⟨hg1, hb1⟩ := hbx 1 (by omega)
      replace hS := InE.join hS0 hz
      replace hS := Zw.put hS hb0
      replace hS := Zw.put hS hb1
      simp only [frN, Act.put, Ku, Kt, Ks, Nat.reduceAdd, List.drop_succ_cons, List.drop_zero]
      generalize gg 0 = g0 at *
      generalize gg 1 = g1 at *
      clear hbx hz hS0 hne
      replace hS := hS.tail.tail
      clear hb0 hb1 hg0 hg1
      have hC := hS.reads
      simp only [Zz, Zy] at hC
      have hE := hS.ex
      have hbA := hS.boxes.1
      have hl1 := hS.boxes.2.1.lt
      go_wp2_with fail
      refine Kr ?_ rfl (.inl ⟨⟨k, ga, cap, ca, [p, q], S⟩, HP.out, rfl, HS, ⟨?_, ?_⟩, ?_⟩)
      ·simp [results, Tryz.results149, go_sem, hC, Pc.ci, Pc.cs, EK.out]
      ·repeat' (with_reducible first | exact hbA | refine Box.far ?_ (by simp <;> omega) _)
      ·exact HCA.out
      ·repeat' (with_reducible first | exact hE | refine Ex.setCell ?_ (by simp <;> omega) _)
    ·have hnI : ((ns.length : Int) == 2) = false := by rw [beq_eq_false_iff_ne]; omega
     have hnI2 : ¬ (ns.length : Int) = 2 := by omega
     have HP : Hid (Yq (k :: t) = none) := Kw (by rw [Xj HNN.out, hk114]; simp [Ws, hn])
     clear hn HNN HO
     clear hk114
     have hS : Zw w wr _ := Zw.put (Zw.put (⟨HE.out, trivial⟩ : Zw w wr []) bR) bP
     have hC := hS.reads
     simp only [Zz, Zy] at hC
     have hE := hS.ex
     go_wp2_with fail
     refine Kr ?_ rfl (.inr ⟨(k.toNat : Int), A, ns.length, cap, S, HP.out, rfl, ?_⟩)
     ·simp [results, Tryz.results149, go_sem, hC, EK.out]
     ·repeat' (with_reducible first | exact hE | refine Ex.setCell ?_ (by simp <;> omega) _)
end
section
open Go.RowKit

attribute [local go_sem] Zi Zh
theorem Lf (k : UInt8) (t : List UInt8) (hk119 : k = 119) (hl : (k :: t).length ≤ 1048576) (w : World) (hm : Vs w) : Calls Tryz.prog 149 #[.string (Bs (k :: t))] w (Nr w (k :: t)) := by
 have HK119 := Kw hk119
 clear hk119
 have hlt : t.length ≤ 1048576 := by simp at hl; omega
 have hx1 := Mo k t
 obtain ⟨S, HS⟩ : ∃ S, Hid (S = Bs (k :: t)) := ⟨_, Kw rfl⟩
 have hsz : S.size = t.length + 1 := by rw [HS.out]; rfl
 obtain ⟨hs0, hk0⟩ : ∃ hs : 0 < S.size, S[0]'hs = k := by
  obtain ⟨h1, h2⟩ := Bs_at HS.out (i := 0) (by simp)
  exact ⟨h1, h2⟩
 rw [← HS.out] at hx1 ⊢
 have hne : ¬ S = (⟨#[]⟩ : ByteArray) := fun e => by rw [e] at hs0; exact absurd hs0 (by decide)
 have hne2 : S.toList.isEmpty = false := by simpa using Qv hne
 clear hne
 have ks := fun w hm => Mp t hlt w hm
 have HW : Hid (∀ x ∈ cds t, x.length ≤ 1048576) := Kw fun x hx => by
  have h1 := Tb t x hx
  omega
 have HCL : Hid ((cds t).length ≤ 1048576) := Kw (by have h1 := Mn t; simp only [List.length_cons] at hl; omega)
 generalize hT : Bs t = T at hx1 ks
 have HM := Kw hm
 have KS := Kw ks
 have HX1 := Kw hx1
 clear hm ks hT
 have hS := Zw.refl w
 have hC := True.intro
 go_enter Tryz.func149, Tryz.ntmps149
 go_upto_region 5 with fail
 have bR := (Box.new w #[.int .u8 0, .slice none 0 0, .string ⟨#[]⟩] 169).alloc (.cells #[.int .u8 (k.toNat : Int), .slice none 0 0, .string S] 169)
 have bP := Box.new (w.alloc (.cells #[.int .u8 0, .slice none 0 0, .string ⟨#[]⟩] 169)) #[.int .u8 (k.toNat : Int), .slice none 0 0, .string S] 169
 rw [Kv] at bP
 have hE1 : Ex w ((w.alloc (.cells #[.int .u8 0, .slice none 0 0, .string ⟨#[]⟩] 169)).alloc (.cells #[.int .u8 (k.toNat : Int), .slice none 0 0, .string S] 169)) := ((Ex.refl w).alloc _).alloc _
 have hz1 : ((w.alloc (.cells #[.int .u8 0, .slice none 0 0, .string ⟨#[]⟩] 169)).alloc (.cells #[.int .u8 (k.toNat : Int), .slice none 0 0, .string S] 169)).heap.size = w.heap.size + 2 := by simp only [Kv]
 generalize (w.alloc (.cells #[.int .u8 0, .slice none 0 0, .string ⟨#[]⟩] 169)).alloc (.cells #[.int .u8 (k.toNat : Int), .slice none 0 0, .string S] 169) = W1 at *
 clear hC hS hk0
 have hs1 : (1 : Int) ≤ (S.size : Int) := by omega
 clear hsz hl hlt
 go_wp2_with fail
 refine (KS.out _ (HM.out.ex hE1)).mono ?_
 rintro e W2 ⟨g, gc, cur, rfl, hg, bG, HG, hx⟩
 replace bR := bR.ex hx
 replace bP := bP.ex hx
 have hE2 := hE1.trans hx
 have hz2 := hx.size
 clear hx hE1 KS
 go_wp2_with fail
 have hO0 : Vt W2 (w.heap.size + 2) none 0 [] := ⟨by simp, .inl ⟨rfl, rfl⟩⟩
 go_loopw [25, 6, 7, 8] (fun i f n o wr => ∃ (j : Nat) (A : Option Addr) (cap : Nat) (ns : List Int), i = .int .i64 j ∧ j ≤ (cds t).length ∧ Hid (Xf Xa ((cds t).take j) = some ns) ∧ Box wr (w.heap.size + 1) 169 #[.int .u8 (k.toNat : Int), .slice A ns.length cap, .string S] ∧
   Box wr w.heap.size 169 #[.int .u8 0, .slice none 0 0, .string ⟨#[]⟩] ∧ Box wr g 9 cur ∧ Hid (Vt wr (w.heap.size + 2) A cap ns) ∧ Hid (Ex w wr)) (fun i _ _ _ _ => (cds t).length + 1 - (intOf i).toNat)
 case atStart => exact ⟨0, none, 0, [], rfl, by omega, Kw rfl, bP, bR, bG, Kw hO0, Kw hE2⟩
 case round =>
  clear bP bR bG hO0 hE2 hz2
  obtain ⟨j, A, cap, ns, rfl, hj, HN, bP, bR, bG, HO, HE⟩ := hrel
  have hnl : ns.length ≤ 1048576 := by
   have h1 := Wk HN.out
   have h2 := List.length_take_le j (cds t)
   have h3 := HCL.out
   omega
  by_cases hlt : j < (cds t).length
  ·have hcell := HG.out j hlt
   have hmem : (cds t)[j] ∈ cds t := List.getElem_mem hlt
   have hxl := HW.out _ hmem
   have HMs : Hid (Xf Xa ((cds t).take (j + 1)) = Xf Xa ((cds t).take j ++ [(cds t)[j]])) := Kw (by rw [Wb hlt])
   generalize (cds t)[j] = x at *
   have kp := fun w hm => Qo x hxl w hm
   have hlI : (j : Int) < ((cds t).length : Int) := by omega
   have hw5 : IntKind.i64.wrap ((j : Int) + 1) = (j : Int) + 1 := Kq _ (by have := HCL.out; omega)
   obtain ⟨X, HX⟩ : ∃ X, Hid (X = Bs x) := ⟨_, Kw rfl⟩
   rw [← HX.out] at hcell kp
   have KP := Kw kp
   have HMem := Kw hmem
   have cG := bG.cell
   have zG := bG.lt
   clear kp hmem hxl
   go_wp2_with fail
   refine (KP.out _ (HM.out.ex HE.out)).mono ?_
   rintro e w2 ⟨n, ok, rfl, hx, hn⟩
   have HNn := Kw hn
   replace bP := bP.ex hx
   replace bR := bR.ex hx
   replace bG := bG.ex hx
   have HE2 := Kw (HE.out.trans hx)
   have HO2 := Kw (HO.out.ex hx)
   clear hx hn cG zG KP hcell
   have cP := bP.cell
   have fP := bP.frozen
   have zP := bP.lt
   have cR := bR.cell
   have fR := bR.frozen
   have zR := bR.lt
   rcases ok with _ | _
   ·have HNo : Hid (Yq (k :: t) = none) := Kw (Ry (Tz HNn.out HMem.out))
    go_wp2
    refine Kr ?_ rfl (.inr ⟨k.toNat, A, ns.length, cap, S, HNo.out, rfl, ?_⟩)
    ·simp [results, Tryz.results149, go_sem, cP, cR]
    ·have hE := HE2.out
     repeat' (with_reducible first | exact hE | refine Ex.setCell ?_ (by simp <;> omega) _)
   ·have hs2 := HE2.out.size
    go_wp2_with (at_builtin; refine Vf rfl _ _ w2 rfl (w.heap.size + 2) A cap ns n rfl HO2.out rfl hnl (by omega) ?_)
    intro A' cap' w' hown' hk'
    have HE3 := Kw (hk'.ex w HE2.out (by omega))
    replace bP := hk'.box _ _ _ bP (by decide)
    replace bR := hk'.box _ _ _ bR (by decide)
    replace bG := hk'.box _ _ _ bG (by decide)
    have HO3 := Kw hown'
    have cP := bP.cell
    have fP := bP.frozen
    have zP := bP.lt
    clear hown' hk' HO2 HE2 cR fR zR
    have HN3 : Hid (Xf Xa ((cds t).take (j + 1)) = some (ns ++ [n])) := Kw (by rw [HMs.out]; exact Uu HNn.out HN.out)
    clear HNn HMs
    go_wp2
    have bP3 : Box (w'.setCell ⟨w.heap.size + 1, 1, none⟩ (.slice A' (ns.length + 1) cap')) (w.heap.size + 1) 169 #[.int .u8 (k.toNat : Int), .slice A' (ns ++ [n]).length cap', .string S] := by
     have h := bP.set_ 1 (.slice A' (ns.length + 1) cap')
     simpa using h
    have bR3 := bR.far (p := ⟨w.heap.size + 1, 1, none⟩) (by simp) (.slice A' (ns.length + 1) cap')
    have bG3 := bG.far (p := ⟨w.heap.size + 1, 1, none⟩) (by simp; omega) (.slice A' (ns.length + 1) cap')
    have HO4 := Kw (HO3.out.setBelow (p := ⟨w.heap.size + 1, 1, none⟩) (by simp) (.slice A' (ns.length + 1) cap'))
    have HE4 := Kw (HE3.out.setCell (p := ⟨w.heap.size + 1, 1, none⟩) (by simp) (.slice A' (ns.length + 1) cap'))
    go_roundw
    case rel => exact ⟨j + 1, A', cap', ns ++ [n], by go_num, by omega, HN3, bP3, bR3, bG3, HO4, HE4⟩
    case measure => simp [intOf] <;> omega
  ·
   have hk119 := HK119.out
   obtain rfl : j = (cds t).length := by omega
   have hlI : ¬ ((cds t).length : Int) < ((cds t).length : Int) := by omega
   have HNN : Hid (Xf Xa (cds t) = some ns) := Kw (by have := HN.out; rwa [List.take_length] at this)
   clear HN HG bG hj hnl HM HW HX1
   clear hlt
   go_upto_region 13 with fail
   clear hlI
   have ek : ((k.toNat : Nat) : Int) = 119 := by rw [hk119]; rfl
   rw [ek] at bP
   have EK := Kw ek
   clear ek
   by_cases hn : ns.length = 3
   ·obtain ⟨p, q, m, rfl⟩ := list3 hn
    clear hn
    obtain ⟨ga, ca, rfl, hga, bA, hca⟩ := Own.box HO.out (by simp)
    clear HO
    simp only [List.length_cons, List.length_nil, Nat.reduceAdd] at bP
    have d0 : ca[0]? = some (.int .i64 p) := (hca 0 (by simp)).trans rfl
    have d1 : ca[1]? = some (.int .i64 q) := (hca 1 (by simp)).trans rfl
    have d2 : ca[2]? = some (.int .i64 m) := (hca 2 (by simp)).trans rfl
    have HCA : Hid (∀ j, j < [p, q, m].length → ca[j]? = some (.int .i64 ([p, q, m].getD j 0))) := Kw fun j hj => by
     simp only [List.length_cons, List.length_nil, Nat.reduceAdd] at hj
     obtain rfl | rfl | rfl : j = 0 ∨ j = 1 ∨ j = 2 := by omega
     ·exact d0
     ·exact d1
     ·exact d2
    clear hca
    have kd := fun w => Uv p q w
    rcases hd : Xd p q with _ | _
    ·simp only [Un, hd, Bool.false_eq_true, if_false, Fr.v, Fr.none] at kd
     have HP : Hid (Yq (k :: t) = none) := Kw (by rw [Xj HNN.out, hk119]; simp [Ws, hd])
     clear HNN hd
     clear hk119
     have KD := Kw kd
     clear kd
     have hS : Zw w wr _ := Zw.put (Zw.put (⟨HE.out, trivial⟩ : Zw w wr []) bR) bP
     replace hS := Zw.put hS bA
     have hC := hS.reads
     simp only [Zz, Zy] at hC
     have hE := hS.ex
     go_upto_region 18 with fail
     clear hC hE
     have hS0 := hS
     refine Zm (St := Ex) (B := fun _ w' => InE _ _ w') 13 2 1 _ 30 (fun i => match i with | 0 => 10 | _ => 11) (fun i => match i with | 0 => 63 | _ => 64) (fun i => match i with | 0 => #[.int .i64 0, .int .i64 0, .int .i64 0] | _ => #[.int .i64 0, .int .i64 0, .int .i64 0]) (fun i => match i with | 0 => #[.int .i64 0, .int .i64 0, .int .i64 0] | _ => #[.int .i64 0, .int .i64 0, .int .i64 0]) false (by kernel_rfl) (by kernel_rfl) (InE.drew (InE.start hS0)) (by intro x y h1 h2 h3; revert h3; match x, y, h1, h2 with | 0, 0, _, _ => decide | 0, 1, _, _ => decide | 1, 0, _, _ => decide | 1, 1, _, _ => decide) (by intro x y h1 h2; match x, y, h1, h2 with | 0, 0, _, _ => decide | 0, 1, _, _ => decide | 1, 0, _, _ => decide | 1, 1, _, _ => decide) (fun _ _ h g cs _ hb => hb.ex h) (fun _ _ cs h => h.alloc _) (fun _ _ h => h.size) ?_
     iterate 8 (apply Zx; (· rfl); (· intro b wb hB Q1 hQ1; have hS := hB.sees; have hC := hS.reads; simp only [Zz, Zy] at hC; go_wp2_with fail; exact hQ1 _ (Ex.refl _) hB); (· exact ⟨_, rfl⟩))
     (apply Zx; (· rfl); (· intro b wb hB Q1 hQ1; go_wp2_with (go_at_call 94; (with_reducible refine (KD.out _).mono ?_); rintro e wn ⟨rfl, hx⟩); exact hQ1 _ hx (hB.go hx)); (· exact ⟨_, rfl⟩))
     iterate 4 (apply Zx; (· rfl); (· intro b wb hB Q1 hQ1; go_wp2_with fail; exact hQ1 _ (Ex.refl _) hB); (· exact ⟨_, rfl⟩))
     refine Zq ?_
     refine ⟨fun i hi => ?_, fun i hi => ?_, fun i hi => ?_, fun gg wz hz hbx hne => ?_⟩
     ·obtain rfl | rfl : i = 0 ∨ i = 1 := by omega
      all_goals exact ⟨_, rfl, Zb⟩
     ·obtain rfl | rfl : i = 0 ∨ i = 1 := by omega
      all_goals exact ⟨_, rfl, Zf Yv rfl (by kernel_rfl) (fun _ _ _ hg h => h.setRow hg _)⟩
     ·obtain rfl | rfl : i = 0 ∨ i = 1 := by omega
      ·exact (show (10 : Nat) < 105 by decide)
      ·exact (show (11 : Nat) < 105 by decide)
     obtain ⟨hg0, hb0⟩ := hbx 0 (by omega)
     obtain ⟨hg1, hb1⟩ := hbx 1 (by omega)
     replace hS := InE.join hS0 hz
     replace hS := Zw.put hS hb0
     replace hS := Zw.put hS hb1
     simp only [frN, Act.put, Ku, Kt, Ks, Nat.reduceAdd, List.drop_succ_cons, List.drop_zero]
     generalize gg 0 = g0 at *
     generalize gg 1 = g1 at *
     clear hbx hz hS0 hne
     replace hS := hS.tail.tail
     clear hb0 hb1 hg0 hg1
     have hC := hS.reads
     simp only [Zz, Zy] at hC
     have hE := hS.ex
     have hbA := hS.boxes.1
     have hl1 := hS.boxes.2.1.lt
     go_upto_region 24 with fail
     clear hC hE hbA hl1
     refine Wi (St := fun _ _ => True) false (B := fun b w2 => Zw w w2 [(ga, 3, ca), (w.heap.size + 1, 169, #[.int .u8 119, .slice (some ⟨ga, 0, none⟩) 3 cap, .string S]), (w.heap.size, 169, if b then #[.int .u8 119, .slice (some ⟨ga, 0, none⟩) 3 cap, .string S] else #[.int .u8 0, .slice none 0 0, .string ⟨#[]⟩])]) (by kernel_rfl) (by kernel_rfl) (hS.drewW) ?_
     iterate 3 (apply Zx; (· rfl); (· intro b wb hB Q1 hQ1; have hS := hB; have hC := hS.reads; simp only [Zz, Zy] at hC; go_wp2_with fail; exact hQ1 _ trivial hB); (· exact ⟨_, rfl⟩))
     refine Xs (by rfl) (by simp only [Act.put, Ku, Kt, Ks]; rfl) ?_
     refine Xs (by rfl) (by simp only [Act.put, Ku, Kt, Ks]; rfl) ?_
     refine Xs (by rfl) (by simp only [Act.put, Ku, Kt, Ks]; rfl) ?_
     refine Xs (by rfl) (by simp only [Act.put, Ku, Kt, Ks]; rfl) ?_
     refine Xs (by rfl) (by simp only [Act.put, Ku, Kt, Ks]; rfl) ?_
     (apply Zx; (· rfl); (· intro b wb hB Q1 hQ1; go_wp2_with fail; exact hQ1 _ trivial hB); (· exact ⟨_, rfl⟩))
     apply Zp (d := true)
     ·rfl
     ·intro b wb hB Q1 hQ1
      have hB2 := Zw.ret3 (by omega) (by omega) hB
      have hS := hB
      have hC := hS.reads
      simp only [Zz, Zy] at hC
      rcases b with _ | _
      ·simp only [Bool.false_eq_true, if_false] at hC
       go_wp2_with fail
       exact hQ1 _ trivial hB2
      ·simp only [if_true] at hC
       go_wp2_with fail
       exact hQ1 _ trivial hB2
     ·exact ⟨undef, rfl⟩
     (apply Zx; (· rfl); (· intro b wb hB Q1 hQ1; go_wp2_with fail; exact hQ1 _ trivial hB); (· exact ⟨_, rfl⟩))
     refine Zq ?_
     intro wy hy
     simp only [Bool.or_true, Bool.or_false, Bool.false_or, if_true] at hy
     have hC := hy.reads
     simp only [Zz, Zy] at hC
     have hE := hy.ex
     have hbA := hy.boxes.1
     have hl1 := hy.boxes.2.1.lt
     go_wp2_with fail
     refine Kr ?_ rfl (.inr ⟨(k.toNat : Int), (some ⟨ga, 0, none⟩), 3, cap, S, HP.out, rfl, ?_⟩)
     ·simp [results, Tryz.results149, go_sem, hC, EK.out]
     ·repeat' (with_reducible first | exact hE | refine Ex.setCell ?_ (by simp <;> omega) _)
    ·simp only [Un, hd, if_true, Fr.v] at kd
     generalize Vx p q = c at kd
     generalize Vw p q = e at kd
     obtain ⟨c1, c2, c3⟩ := c
     obtain ⟨e1, e2, e3⟩ := e
     simp only at kd
     rcases hm : Xu m 0 3 with _ | _
     ·have HP : Hid (Yq (k :: t) = none) := Kw (by rw [Xj HNN.out, hk119]; simp [Ws, hd, hm])
      have kw := fun w => Yf m 0 3 w
      rw [hm] at kw
      clear hm
      have KW := Kw kw
      clear kw
      clear HNN hd
      clear hk119
      have KD := Kw kd
      clear kd
      have hS : Zw w wr _ := Zw.put (Zw.put (⟨HE.out, trivial⟩ : Zw w wr []) bR) bP
      replace hS := Zw.put hS bA
      have hC := hS.reads
      simp only [Zz, Zy] at hC
      have hE := hS.ex
      go_upto_region 18 with fail
      clear hC hE
      have hS0 := hS
      refine Zm (St := Ex) (B := fun _ w' => InE _ _ w') 13 2 1 _ 30 (fun i => match i with | 0 => 10 | _ => 11) (fun i => match i with | 0 => 63 | _ => 64) (fun i => match i with | 0 => #[.int .i64 0, .int .i64 0, .int .i64 0] | _ => #[.int .i64 0, .int .i64 0, .int .i64 0]) (fun i => match i with | 0 => #[.int .i64 c1, .int .i64 c2, .int .i64 c3] | _ => #[.int .i64 e1, .int .i64 e2, .int .i64 e3]) false (by kernel_rfl) (by kernel_rfl) (InE.drew (InE.start hS0)) (by intro x y h1 h2 h3; revert h3; match x, y, h1, h2 with | 0, 0, _, _ => decide | 0, 1, _, _ => decide | 1, 0, _, _ => decide | 1, 1, _, _ => decide) (by intro x y h1 h2; match x, y, h1, h2 with | 0, 0, _, _ => decide | 0, 1, _, _ => decide | 1, 0, _, _ => decide | 1, 1, _, _ => decide) (fun _ _ h g cs _ hb => hb.ex h) (fun _ _ cs h => h.alloc _) (fun _ _ h => h.size) ?_
      iterate 8 (apply Zx; (· rfl); (· intro b wb hB Q1 hQ1; have hS := hB.sees; have hC := hS.reads; simp only [Zz, Zy] at hC; go_wp2_with fail; exact hQ1 _ (Ex.refl _) hB); (· exact ⟨_, rfl⟩))
      (apply Zx; (· rfl); (· intro b wb hB Q1 hQ1; go_wp2_with (go_at_call 94; (with_reducible refine (KD.out _).mono ?_); rintro e wn ⟨rfl, hx⟩); exact hQ1 _ hx (hB.go hx)); (· exact ⟨_, rfl⟩))
      iterate 4 (apply Zx; (· rfl); (· intro b wb hB Q1 hQ1; go_wp2_with fail; exact hQ1 _ (Ex.refl _) hB); (· exact ⟨_, rfl⟩))
      refine Zq ?_
      refine ⟨fun i hi => ?_, fun i hi => ?_, fun i hi => ?_, fun gg wz hz hbx hne => ?_⟩
      ·obtain rfl | rfl : i = 0 ∨ i = 1 := by omega
       all_goals exact ⟨_, rfl, Zb⟩
      ·obtain rfl | rfl : i = 0 ∨ i = 1 := by omega
       all_goals exact ⟨_, rfl, Zf Yv rfl (by kernel_rfl) (fun _ _ _ hg h => h.setRow hg _)⟩
      ·obtain rfl | rfl : i = 0 ∨ i = 1 := by omega
       ·exact (show (10 : Nat) < 105 by decide)
       ·exact (show (11 : Nat) < 105 by decide)
      obtain ⟨hg0, hb0⟩ := hbx 0 (by omega)
      obtain ⟨hg1, hb1⟩ := hbx 1 (by omega)
      replace hS := InE.join hS0 hz
      replace hS := Zw.put hS hb0
      replace hS := Zw.put hS hb1
      simp only [frN, Act.put, Ku, Kt, Ks, Nat.reduceAdd, List.drop_succ_cons, List.drop_zero]
      generalize gg 0 = g0 at *
      generalize gg 1 = g1 at *
      clear hbx hz hS0 hne
      replace hS := hS.tail.tail
      clear hb0 hb1 hg0 hg1
      have hC := hS.reads
      simp only [Zz, Zy] at hC
      have hE := hS.ex
      have hbA := hS.boxes.1
      have hl1 := hS.boxes.2.1.lt
      go_upto_region 24 with fail
      clear hC hE hbA hl1
      refine Wi (St := fun _ _ => True) false (B := fun b w2 => Zw w w2 [(ga, 3, ca), (w.heap.size + 1, 169, #[.int .u8 119, .slice (some ⟨ga, 0, none⟩) 3 cap, .string S]), (w.heap.size, 169, if b then #[.int .u8 119, .slice (some ⟨ga, 0, none⟩) 3 cap, .string S] else #[.int .u8 0, .slice none 0 0, .string ⟨#[]⟩])]) (by kernel_rfl) (by kernel_rfl) (hS.drewW) ?_
      iterate 7 (apply Zx; (· rfl); (· intro b wb hB Q1 hQ1; have hS := hB; have hC := hS.reads; simp only [Zz, Zy] at hC; go_wp2_with fail; exact hQ1 _ trivial hB); (· exact ⟨_, rfl⟩))
      (apply Zx; (· rfl); (· intro b wb hB Q1 hQ1; go_wp2_with (go_at_call 71; (with_reducible refine (KW.out _).mono ?_); rintro e wn ⟨rfl, rfl⟩); exact hQ1 _ trivial hB); (· exact ⟨_, rfl⟩))
      (apply Zx; (· rfl); (· intro b wb hB Q1 hQ1; go_wp2_with fail; exact hQ1 _ trivial hB); (· exact ⟨_, rfl⟩))
      apply Zp (d := true)
      ·rfl
      ·intro b wb hB Q1 hQ1
       have hB2 := Zw.ret3 (by omega) (by omega) hB
       have hS := hB
       have hC := hS.reads
       simp only [Zz, Zy] at hC
       rcases b with _ | _
       ·simp only [Bool.false_eq_true, if_false] at hC
        go_wp2_with fail
        exact hQ1 _ trivial hB2
       ·simp only [if_true] at hC
        go_wp2_with fail
        exact hQ1 _ trivial hB2
      ·exact ⟨undef, rfl⟩
      (apply Zx; (· rfl); (· intro b wb hB Q1 hQ1; go_wp2_with fail; exact hQ1 _ trivial hB); (· exact ⟨_, rfl⟩))
      refine Zq ?_
      intro wy hy
      simp only [Bool.or_true, Bool.or_false, Bool.false_or, if_true] at hy
      have hC := hy.reads
      simp only [Zz, Zy] at hC
      have hE := hy.ex
      have hbA := hy.boxes.1
      have hl1 := hy.boxes.2.1.lt
      go_wp2_with fail
      refine Kr ?_ rfl (.inr ⟨(k.toNat : Int), (some ⟨ga, 0, none⟩), 3, cap, S, HP.out, rfl, ?_⟩)
      ·simp [results, Tryz.results149, go_sem, hC, EK.out]
      ·repeat' (with_reducible first | exact hE | refine Ex.setCell ?_ (by simp <;> omega) _)
     ·have HP : Hid (Yq (k :: t) = some (k, [p, q, m])) := Kw (by rw [Xj HNN.out, hk119]; simp [Ws, hd, hm])
      have kw := fun w => Yf m 0 3 w
      rw [hm] at kw
      clear hm
      have KW := Kw kw
      clear kw
      clear HNN hd
      clear hk119
      have KD := Kw kd
      clear kd
      have hS : Zw w wr _ := Zw.put (Zw.put (⟨HE.out, trivial⟩ : Zw w wr []) bR) bP
      replace hS := Zw.put hS bA
      have hC := hS.reads
      simp only [Zz, Zy] at hC
      have hE := hS.ex
      go_upto_region 18 with fail
      clear hC hE
      have hS0 := hS
      refine Zm (St := Ex) (B := fun _ w' => InE _ _ w') 13 2 1 _ 30 (fun i => match i with | 0 => 10 | _ => 11) (fun i => match i with | 0 => 63 | _ => 64) (fun i => match i with | 0 => #[.int .i64 0, .int .i64 0, .int .i64 0] | _ => #[.int .i64 0, .int .i64 0, .int .i64 0]) (fun i => match i with | 0 => #[.int .i64 c1, .int .i64 c2, .int .i64 c3] | _ => #[.int .i64 e1, .int .i64 e2, .int .i64 e3]) false (by kernel_rfl) (by kernel_rfl) (InE.drew (InE.start hS0)) (by intro x y h1 h2 h3; revert h3; match x, y, h1, h2 with | 0, 0, _, _ => decide | 0, 1, _, _ => decide | 1, 0, _, _ => decide | 1, 1, _, _ => decide) (by intro x y h1 h2; match x, y, h1, h2 with | 0, 0, _, _ => decide | 0, 1, _, _ => decide | 1, 0, _, _ => decide | 1, 1, _, _ => decide) (fun _ _ h g cs _ hb => hb.ex h) (fun _ _ cs h => h.alloc _) (fun _ _ h => h.size) ?_
      iterate 8 (apply Zx; (· rfl); (· intro b wb hB Q1 hQ1; have hS := hB.sees; have hC := hS.reads; simp only [Zz, Zy] at hC; go_wp2_with fail; exact hQ1 _ (Ex.refl _) hB); (· exact ⟨_, rfl⟩))
      (apply Zx; (· rfl); (· intro b wb hB Q1 hQ1; go_wp2_with (go_at_call 94; (with_reducible refine (KD.out _).mono ?_); rintro e wn ⟨rfl, hx⟩); exact hQ1 _ hx (hB.go hx)); (· exact ⟨_, rfl⟩))
      iterate 4 (apply Zx; (· rfl); (· intro b wb hB Q1 hQ1; go_wp2_with fail; exact hQ1 _ (Ex.refl _) hB); (· exact ⟨_, rfl⟩))
      refine Zq ?_
      refine ⟨fun i hi => ?_, fun i hi => ?_, fun i hi => ?_, fun gg wz hz hbx hne => ?_⟩
      ·obtain rfl | rfl : i = 0 ∨ i = 1 := by omega
       all_goals exact ⟨_, rfl, Zb⟩
      ·obtain rfl | rfl : i = 0 ∨ i = 1 := by omega
       all_goals exact ⟨_, rfl, Zf Yv rfl (by kernel_rfl) (fun _ _ _ hg h => h.setRow hg _)⟩
      ·obtain rfl | rfl : i = 0 ∨ i = 1 := by omega
       ·exact (show (10 : Nat) < 105 by decide)
       ·exact (show (11 : Nat) < 105 by decide)
      obtain ⟨hg0, hb0⟩ := hbx 0 (by omega)
      obtain ⟨hg1, hb1⟩ := hbx 1 (by omega)
      replace hS := InE.join hS0 hz
      replace hS := Zw.put hS hb0
      replace hS := Zw.put hS hb1
      simp only [frN, Act.put, Ku, Kt, Ks, Nat.reduceAdd, List.drop_succ_cons, List.drop_zero]
      generalize gg 0 = g0 at *
      generalize gg 1 = g1 at *
      clear hbx hz hS0 hne
      replace hS := hS.tail.tail
      clear hb0 hb1 hg0 hg1
      have hC := hS.reads
      simp only [Zz, Zy] at hC
      have hE := hS.ex
      have hbA := hS.boxes.1
      have hl1 := hS.boxes.2.1.lt
      go_upto_region 24 with fail
      clear hC hE hbA hl1
      refine Wi (St := fun _ _ => True) false (B := fun b w2 => Zw w w2 [(ga, 3, ca), (w.heap.size + 1, 169, #[.int .u8 119, .slice (some ⟨ga, 0, none⟩) 3 cap, .string S]), (w.heap.size, 169, if b then #[.int .u8 119, .slice (some ⟨ga, 0, none⟩) 3 cap, .string S] else #[.int .u8 0, .slice none 0 0, .string ⟨#[]⟩])]) (by kernel_rfl) (by kernel_rfl) (hS.drewW) ?_
      iterate 7 (apply Zx; (· rfl); (· intro b wb hB Q1 hQ1; have hS := hB; have hC := hS.reads; simp only [Zz, Zy] at hC; go_wp2_with fail; exact hQ1 _ trivial hB); (· exact ⟨_, rfl⟩))
      (apply Zx; (· rfl); (· intro b wb hB Q1 hQ1; go_wp2_with (go_at_call 71; (with_reducible refine (KW.out _).mono ?_); rintro e wn ⟨rfl, rfl⟩); exact hQ1 _ trivial hB); (· exact ⟨_, rfl⟩))
      (apply Zx; (· rfl); (· intro b wb hB Q1 hQ1; go_wp2_with fail; exact hQ1 _ trivial hB); (· exact ⟨_, rfl⟩))
      apply Zp (d := true)
      ·rfl
      ·intro b wb hB Q1 hQ1
       have hB2 := Zw.ret3 (by omega) (by omega) hB
       have hS := hB
       have hC := hS.reads
       simp only [Zz, Zy] at hC
       rcases b with _ | _
       ·simp only [Bool.false_eq_true, if_false] at hC
        go_wp2_with fail
        exact hQ1 _ trivial hB2
       ·simp only [if_true] at hC
        go_wp2_with fail
        exact hQ1 _ trivial hB2
      ·exact ⟨undef, rfl⟩
      (apply Zx; (· rfl); (· intro b wb hB Q1 hQ1; go_wp2_with fail; exact hQ1 _ trivial hB); (· exact ⟨_, rfl⟩))
      refine Zq ?_
      intro wy hy
      simp only [Bool.or_true, Bool.or_false, Bool.false_or, if_true] at hy
      have hC := hy.reads
      simp only [Zz, Zy] at hC
      have hE := hy.ex
      have hbA := hy.boxes.1
      have hl1 := hy.boxes.2.1.lt
      go_wp2_with fail
      refine Kr ?_ rfl (.inl ⟨⟨k, ga, cap, ca, [p, q, m], S⟩, HP.out, rfl, HS, ⟨?_, ?_⟩, ?_⟩)
      ·simp [results, Tryz.results149, go_sem, hC, Pc.ci, Pc.cs, EK.out]
      ·repeat' (with_reducible first | exact hbA | refine Box.far ?_ (by simp <;> omega) _)
      ·exact HCA.out
      ·repeat' (with_reducible first | exact hE | refine Ex.setCell ?_ (by simp <;> omega) _)
   ·have hnI : ((ns.length : Int) == 3) = false := by rw [beq_eq_false_iff_ne]; omega
    have hnI2 : ¬ (ns.length : Int) = 3 := by omega
    have HP : Hid (Yq (k :: t) = none) := Kw (by rw [Xj HNN.out, hk119]; simp [Ws, hn])
    clear hn HNN HO
    clear hk119
    have hS : Zw w wr _ := Zw.put (Zw.put (⟨HE.out, trivial⟩ : Zw w wr []) bR) bP
    have hC := hS.reads
    simp only [Zz, Zy] at hC
    have hE := hS.ex
    go_wp2_with fail
    refine Kr ?_ rfl (.inr ⟨(k.toNat : Int), A, ns.length, cap, S, HP.out, rfl, ?_⟩)
    ·simp [results, Tryz.results149, go_sem, hC, EK.out]
    ·repeat' (with_reducible first | exact hE | refine Ex.setCell ?_ (by simp <;> omega) _)
end
section
theorem Mm {α : Type} {l : List α} (h : l ≠ []) : ∃ x r, l = x :: r := by
 cases l with
 | nil => exact absurd rfl h
 | cons x r => exact ⟨x, r, rfl⟩
theorem wds_sum : ∀ l : List UInt8, l.length + 1 = ((wds l).map (fun x => x.length + 1)).sum
 | [] => rfl
 | b :: t => by
  have ih := wds_sum t
  obtain ⟨x, r, e⟩ := Mm (Nv t)
  by_cases hb : b = 32
  ·subst hb
   rw [Tf, List.map_cons, List.sum_cons, ← ih]
   simp
   omega
  ·rw [Te hb, e]
   rw [e] at ih
   simp only [pre, List.headD_cons, List.tail_cons, List.map_cons, List.sum_cons, List.length_cons, List.length_append, List.length_nil] at ih ⊢
   omega
theorem wds_mem : ∀ (l : List UInt8), ∀ b ∈ l, b = 32 ∨ ∃ x ∈ wds l, b ∈ x
 | [], b, h => by cases h
 | c :: t, b, h => by
  obtain ⟨x, r, e⟩ := Mm (Nv t)
  by_cases hc : c = 32
  ·subst hc
   rcases List.mem_cons.1 h with rfl | h
   ·exact .inl rfl
   ·rcases wds_mem t b h with h1 | ⟨y, hy, hb⟩
    ·exact .inl h1
    ·exact .inr ⟨y, by rw [Tf]; exact List.mem_cons_of_mem _ hy, hb⟩
  ·rw [Te hc, e]
   simp only [pre, List.headD_cons, List.tail_cons]
   rcases List.mem_cons.1 h with rfl | h
   ·exact .inr ⟨_, List.mem_cons_self, by simp⟩
   ·rcases wds_mem t b h with h1 | ⟨y, hy, hb⟩
    ·exact .inl h1
    ·rw [e] at hy
     rcases List.mem_cons.1 hy with rfl | hy
     ·exact .inr ⟨_, List.mem_cons_self, by simp [hb]⟩
     ·exact .inr ⟨y, List.mem_cons_of_mem _ hy, hb⟩
theorem cds_sum : ∀ l : List UInt8, l.length + 1 = ((cds l).map (fun x => x.length + 1)).sum
 | [] => rfl
 | b :: t => by
  have ih := cds_sum t
  obtain ⟨x, r, e⟩ := Mm (Li t)
  by_cases hb : b = 58
  ·subst hb
   rw [Td, List.map_cons, List.sum_cons, ← ih]
   simp
   omega
  ·rw [Tc hb, e]
   rw [e] at ih
   simp only [pre, List.headD_cons, List.tail_cons, List.map_cons, List.sum_cons, List.length_cons, List.length_append, List.length_nil] at ih ⊢
   omega
theorem cds_mem : ∀ (l : List UInt8), ∀ b ∈ l, b = 58 ∨ ∃ x ∈ cds l, b ∈ x
 | [], b, h => by cases h
 | c :: t, b, h => by
  obtain ⟨x, r, e⟩ := Mm (Li t)
  by_cases hc : c = 58
  ·subst hc
   rcases List.mem_cons.1 h with rfl | h
   ·exact .inl rfl
   ·rcases cds_mem t b h with h1 | ⟨y, hy, hb⟩
    ·exact .inl h1
    ·exact .inr ⟨y, by rw [Td]; exact List.mem_cons_of_mem _ hy, hb⟩
  ·rw [Tc hc, e]
   simp only [pre, List.headD_cons, List.tail_cons]
   rcases List.mem_cons.1 h with rfl | h
   ·exact .inr ⟨_, List.mem_cons_self, by simp⟩
   ·rcases cds_mem t b h with h1 | ⟨y, hy, hb⟩
    ·exact .inl h1
    ·rw [e] at hy
     rcases List.mem_cons.1 hy with rfl | hy
     ·exact .inr ⟨_, List.mem_cons_self, by simp [hb]⟩
     ·exact .inr ⟨y, List.mem_cons_of_mem _ hy, hb⟩
theorem sum_le {m : Nat} : ∀ (l : List (List UInt8)), (∀ x ∈ l, x.length ≤ m) → (l.map (fun x => x.length + 1)).sum ≤ l.length * (m + 1)
 | [], _ => by simp
 | x :: l, h => by
  have h1 := h x List.mem_cons_self
  have ih := sum_le l fun y hy => h y (List.mem_cons_of_mem _ hy)
  rw [List.map_cons, List.sum_cons, List.length_cons, Nat.add_mul]
  omega
theorem itoa_no {n : Int} {c : UInt8} (h : c ∈ Lib.itoa n) : c ≠ 10 := by
 obtain ⟨p, t, e⟩ := List.append_of_mem h
 have hb := itoa_bytes e rfl
 intro hc
 subst hc
 unfold numB at hb
 simp only [Bool.or_eq_true, Bool.and_eq_true, decide_eq_true_eq] at hb
 rcases hb with ⟨-, hb⟩ | hb
 ·exact absurd hb (by decide)
 ·exact absurd hb (by decide)
theorem piece_text {x : List UInt8} {k : UInt8} {ns : List Int} (h : Yq x = some (k, ns)) : x.length ≤ 15 ∧ ∀ b ∈ x, b ≠ 10 := by
 obtain ⟨t, rfl, hm, hv⟩ := Nb h
 obtain ⟨hl, hbd, hk⟩ := Lg hv
 have each : ∀ y ∈ cds t, y.length ≤ 4 ∧ ∀ b ∈ y, b ≠ 10 := by
  intro y hy
  obtain ⟨n, hn, he⟩ := Lh hm y hy
  obtain ⟨-, hi⟩ := numOf_out he
  have h1 := hbd n hn
  exact ⟨by rw [← hi]; exact itoa_short h1.1 h1.2, fun b hb => itoa_no (n := n) (by rw [hi]; exact hb)⟩
 have hs := cds_sum t
 have h2 := sum_le (m := 4) (cds t) fun y hy => (each y hy).1
 have h3 := Wk hm
 refine ⟨?_, fun b hb => ?_⟩
 ·rw [List.length_cons]
  have : (cds t).length ≤ 3 := by omega
  have h4 : (cds t).length * (4 + 1) ≤ 3 * (4 + 1) := Nat.mul_le_mul_right _ this
  omega
 ·rcases List.mem_cons.1 hb with rfl | hb
  ·intro e
   subst e
   rcases hk with ⟨h1 | h1, -⟩ | ⟨h1, -⟩ | ⟨h1 | h1, -⟩ <;> exact absurd h1 (by decide)
  ·rcases cds_mem t b hb with rfl | ⟨y, hy, hb⟩
   ·decide
   ·exact (each y hy).2 b hb
theorem Lc {l : List UInt8} {ps : List (UInt8 × List Int)} (h : Yd l = some ps) : l.length ≤ 191 ∧ (∀ b ∈ l, b ≠ 10) ∧ ps.length ≤ 12 := by
 unfold Yd at h
 split at h
 ·rename_i he
  subst he
  injection h with h
  subst h
  exact ⟨by simp, by simp, by simp⟩
 ·split at h
  ·rename_i ps' hm
   split at h
   ·rename_i hn
    injection h with h
    subst h
    have each : ∀ x ∈ wds l, x.length ≤ 15 ∧ ∀ b ∈ x, b ≠ 10 := by
     intro x hx
     obtain ⟨⟨k, ns⟩, -, he⟩ := Lh hm x hx
     exact piece_text he
    have hs := wds_sum l
    have h2 := sum_le (m := 15) (wds l) fun y hy => (each y hy).1
    have h3 := Wk hm
    have h4 : (wds l).length * (15 + 1) ≤ 12 * (15 + 1) := Nat.mul_le_mul_right _ (by omega)
    refine ⟨by omega, fun b hb => ?_, hn⟩
    rcases wds_mem l b hb with rfl | ⟨y, hy, hb⟩
    ·decide
    ·exact (each y hy).2 b hb
   ·cases h
  ·cases h
end
end Go.Proofs.YtiommfmaleeibaaGreatDoor
