/-
  Proved: what functions compute, part 30. No condition.
-/
import Derived.Test.YtiommfmaleeibaaGreatDoorB23
import Derived.Test.YtiommfmaleeibaaGreatDoorB29
import Derived.Test.YtiommfmaleeibaaGreatDoorB07
import Derived.Test.YtiommfmaleeibaaGreatDoorB05
set_option linter.unusedSimpArgs false
set_option linter.unusedVariables false
set_option maxRecDepth 20000
set_option maxHeartbeats 8000000
namespace Go.Proofs.YtiommfmaleeibaaGreatDoor
section
open Go.RowKit

attribute [local go_sem] Zi Zh
theorem Qe (c : UInt8) (hc : c = 97 ∨ c = 100) (k : UInt8) (t : List UInt8) (hk97 : k = c) (hl : (k :: t).length ≤ 1048576) (w : World) (hm : Vs w) : Calls Tryz.prog 149 #[.string (Bs (k :: t))] w (Nr w (k :: t)) := by
 obtain ⟨C, hC⟩ : ∃ C : Int, Hid (C = ((c.toNat : Nat) : Int)) := ⟨_, Kw rfl⟩
 have q119 : (C == 119) = false := by rw [hC.out]; rcases hc with rfl | rfl <;> rfl
 have q114 : (C == 114) = false := by rw [hC.out]; rcases hc with rfl | rfl <;> rfl
 have q102 : (C == 102) = false := by rw [hC.out]; rcases hc with rfl | rfl <;> rfl
 rcases hc with rfl | rfl
 all_goals
  have q1 := congrArg (fun x : Int => x == 97) hC.out
  have q2 := congrArg (fun x : Int => x == 100) hC.out
  simp only [show (((97 : UInt8).toNat : Nat) : Int) = 97 from rfl, show (((100 : UInt8).toNat : Nat) : Int) = 100 from rfl, Int.reduceBEq] at q1 q2
  have HK97 := Kw hk97
  clear hk97
  have hlt : t.length ≤ 1048576 := by simp at hl; omega
  have hx1 := Mo k t
  obtain ⟨S, HS⟩ : ∃ S, Hid (S = Bs (k :: t)) := ⟨_, Kw rfl⟩
  have hsz : S.size = t.length + 1 := by rw [HS.out]; rfl
  obtain ⟨hs0, hk0⟩ : ∃ hs : 0 < S.size, S[0]'hs = k := by
   obtain ⟨h1, h2⟩ := Bs_at HS.out (i := 0) (by simp)
   exact ⟨h1, h2⟩
  rw [← HS.out] at hx1 ⊢
  have hne : ¬ S = (⟨#[]⟩ : ByteArray) := fun e => by rw [e] at hs0; exact absurd hs0 (by decide)
  have hne2 : S.toList.isEmpty = false := by simpa using Qv hne
  clear hne
  have ks := fun w hm => Mp t hlt w hm
  have HW : Hid (∀ x ∈ cds t, x.length ≤ 1048576) := Kw fun x hx => by
   have h1 := Tb t x hx
   omega
  have HCL : Hid ((cds t).length ≤ 1048576) := Kw (by have h1 := Mn t; simp only [List.length_cons] at hl; omega)
  generalize hT : Bs t = T at hx1 ks
  have HM := Kw hm
  have KS := Kw ks
  have HX1 := Kw hx1
  clear hm ks hT
  have hS := Zw.refl w
  have hC := True.intro
  go_enter Tryz.func149, Tryz.ntmps149
  go_upto_region 5 with fail
  have bR := (Box.new w #[.int .u8 0, .slice none 0 0, .string ⟨#[]⟩] 169).alloc (.cells #[.int .u8 (k.toNat : Int), .slice none 0 0, .string S] 169)
  have bP := Box.new (w.alloc (.cells #[.int .u8 0, .slice none 0 0, .string ⟨#[]⟩] 169)) #[.int .u8 (k.toNat : Int), .slice none 0 0, .string S] 169
  rw [Kv] at bP
  have hE1 : Ex w ((w.alloc (.cells #[.int .u8 0, .slice none 0 0, .string ⟨#[]⟩] 169)).alloc (.cells #[.int .u8 (k.toNat : Int), .slice none 0 0, .string S] 169)) := ((Ex.refl w).alloc _).alloc _
  have hz1 : ((w.alloc (.cells #[.int .u8 0, .slice none 0 0, .string ⟨#[]⟩] 169)).alloc (.cells #[.int .u8 (k.toNat : Int), .slice none 0 0, .string S] 169)).heap.size = w.heap.size + 2 := by simp only [Kv]
  generalize (w.alloc (.cells #[.int .u8 0, .slice none 0 0, .string ⟨#[]⟩] 169)).alloc (.cells #[.int .u8 (k.toNat : Int), .slice none 0 0, .string S] 169) = W1 at *
  clear hC hS hk0
  have hs1 : (1 : Int) ≤ (S.size : Int) := by omega
  clear hsz hl hlt
  go_wp2_with fail
  refine (KS.out _ (HM.out.ex hE1)).mono ?_
  rintro e W2 ⟨g, gc, cur, rfl, hg, bG, HG, hx⟩
  replace bR := bR.ex hx
  replace bP := bP.ex hx
  have hE2 := hE1.trans hx
  have hz2 := hx.size
  clear hx hE1 KS
  go_wp2_with fail
  have hO0 : Vt W2 (w.heap.size + 2) none 0 [] := ⟨by simp, .inl ⟨rfl, rfl⟩⟩
  go_loopw [25, 6, 7, 8] (fun i f n o wr => ∃ (j : Nat) (A : Option Addr) (cap : Nat) (ns : List Int), i = .int .i64 j ∧ j ≤ (cds t).length ∧ Hid (Xf Xa ((cds t).take j) = some ns) ∧ Box wr (w.heap.size + 1) 169 #[.int .u8 (k.toNat : Int), .slice A ns.length cap, .string S] ∧
    Box wr w.heap.size 169 #[.int .u8 0, .slice none 0 0, .string ⟨#[]⟩] ∧ Box wr g 9 cur ∧ Hid (Vt wr (w.heap.size + 2) A cap ns) ∧ Hid (Ex w wr)) (fun i _ _ _ _ => (cds t).length + 1 - (intOf i).toNat)
  case atStart => exact ⟨0, none, 0, [], rfl, by omega, Kw rfl, bP, bR, bG, Kw hO0, Kw hE2⟩
  case round =>
   clear bP bR bG hO0 hE2 hz2
   obtain ⟨j, A, cap, ns, rfl, hj, HN, bP, bR, bG, HO, HE⟩ := hrel
   have hnl : ns.length ≤ 1048576 := by
    have h1 := Wk HN.out
    have h2 := List.length_take_le j (cds t)
    have h3 := HCL.out
    omega
   by_cases hlt : j < (cds t).length
   ·have hcell := HG.out j hlt
    have hmem : (cds t)[j] ∈ cds t := List.getElem_mem hlt
    have hxl := HW.out _ hmem
    have HMs : Hid (Xf Xa ((cds t).take (j + 1)) = Xf Xa ((cds t).take j ++ [(cds t)[j]])) := Kw (by rw [Wb hlt])
    generalize (cds t)[j] = x at *
    have kp := fun w hm => Qo x hxl w hm
    have hlI : (j : Int) < ((cds t).length : Int) := by omega
    have hw5 : IntKind.i64.wrap ((j : Int) + 1) = (j : Int) + 1 := Kq _ (by have := HCL.out; omega)
    obtain ⟨X, HX⟩ : ∃ X, Hid (X = Bs x) := ⟨_, Kw rfl⟩
    rw [← HX.out] at hcell kp
    have KP := Kw kp
    have HMem := Kw hmem
    have cG := bG.cell
    have zG := bG.lt
    clear kp hmem hxl
    go_wp2_with fail
    refine (KP.out _ (HM.out.ex HE.out)).mono ?_
    rintro e w2 ⟨n, ok, rfl, hx, hn⟩
    have HNn := Kw hn
    replace bP := bP.ex hx
    replace bR := bR.ex hx
    replace bG := bG.ex hx
    have HE2 := Kw (HE.out.trans hx)
    have HO2 := Kw (HO.out.ex hx)
    clear hx hn cG zG KP hcell
    have cP := bP.cell
    have fP := bP.frozen
    have zP := bP.lt
    have cR := bR.cell
    have fR := bR.frozen
    have zR := bR.lt
    rcases ok with _ | _
    ·have HNo : Hid (Yq (k :: t) = none) := Kw (Ry (Tz HNn.out HMem.out))
     go_wp2
     refine Kr ?_ rfl (.inr ⟨k.toNat, A, ns.length, cap, S, HNo.out, rfl, ?_⟩)
     ·simp [results, Tryz.results149, go_sem, cP, cR]
     ·have hE := HE2.out
      repeat' (with_reducible first | exact hE | refine Ex.setCell ?_ (by simp <;> omega) _)
    ·have hs2 := HE2.out.size
     go_wp2_with (at_builtin; refine Vf rfl _ _ w2 rfl (w.heap.size + 2) A cap ns n rfl HO2.out rfl hnl (by omega) ?_)
     intro A' cap' w' hown' hk'
     have HE3 := Kw (hk'.ex w HE2.out (by omega))
     replace bP := hk'.box _ _ _ bP (by decide)
     replace bR := hk'.box _ _ _ bR (by decide)
     replace bG := hk'.box _ _ _ bG (by decide)
     have HO3 := Kw hown'
     have cP := bP.cell
     have fP := bP.frozen
     have zP := bP.lt
     clear hown' hk' HO2 HE2 cR fR zR
     have HN3 : Hid (Xf Xa ((cds t).take (j + 1)) = some (ns ++ [n])) := Kw (by rw [HMs.out]; exact Uu HNn.out HN.out)
     clear HNn HMs
     go_wp2
     have bP3 : Box (w'.setCell ⟨w.heap.size + 1, 1, none⟩ (.slice A' (ns.length + 1) cap')) (w.heap.size + 1) 169 #[.int .u8 (k.toNat : Int), .slice A' (ns ++ [n]).length cap', .string S] := by
      have h := bP.set_ 1 (.slice A' (ns.length + 1) cap')
      simpa using h
     have bR3 := bR.far (p := ⟨w.heap.size + 1, 1, none⟩) (by simp) (.slice A' (ns.length + 1) cap')
     have bG3 := bG.far (p := ⟨w.heap.size + 1, 1, none⟩) (by simp; omega) (.slice A' (ns.length + 1) cap')
     have HO4 := Kw (HO3.out.setBelow (p := ⟨w.heap.size + 1, 1, none⟩) (by simp) (.slice A' (ns.length + 1) cap'))
     have HE4 := Kw (HE3.out.setCell (p := ⟨w.heap.size + 1, 1, none⟩) (by simp) (.slice A' (ns.length + 1) cap'))
     go_roundw
     case rel => exact ⟨j + 1, A', cap', ns ++ [n], by go_num, by omega, HN3, bP3, bR3, bG3, HO4, HE4⟩
     case measure => simp [intOf] <;> omega
   ·
    have hk97 := HK97.out
    obtain rfl : j = (cds t).length := by omega
    have hlI : ¬ ((cds t).length : Int) < ((cds t).length : Int) := by omega
    have HNN : Hid (Xf Xa (cds t) = some ns) := Kw (by have := HN.out; rwa [List.take_length] at this)
    clear HN HG bG hj hnl HM HW HX1
    clear hlt
    go_upto_region 13 with fail
    clear hlI
    have ek : ((k.toNat : Nat) : Int) = C := by rw [hk97]; exact hC.out.symm
    rw [ek] at bP
    have EK := Kw ek
    clear ek
    by_cases hn : ns.length = 2
    ·obtain ⟨p, q, rfl⟩ := list2 hn
     clear hn
     obtain ⟨ga, ca, rfl, hga, bA, hca⟩ := Own.box HO.out (by simp)
     clear HO
     simp only [List.length_cons, List.length_nil, Nat.reduceAdd] at bP
     have d0 : ca[0]? = some (.int .i64 p) := (hca 0 (by simp)).trans rfl
     have d1 : ca[1]? = some (.int .i64 q) := (hca 1 (by simp)).trans rfl
     have HCA : Hid (∀ j, j < [p, q].length → ca[j]? = some (.int .i64 ([p, q].getD j 0))) := Kw fun j hj => by
      simp only [List.length_cons, List.length_nil, Nat.reduceAdd] at hj
      obtain rfl | rfl : j = 0 ∨ j = 1 := by omega
      ·exact d0
      ·exact d1
     clear hca
     have kd := fun w => Uv p q w
     obtain ⟨c1, c2, c3, e1, e2, e3, tl, hdv⟩ := dirv_any p q
     rw [hdv] at kd
     clear hdv
     rcases hw1 : Xu q 1 100 with _ | _
     ·have HP : Hid (Yq (k :: t) = none) := Kw (by rw [Xj HNN.out, hk97]; simp [Ws, hw1])
      have kw1 := fun w => Yf q 1 100 w
      rw [hw1] at kw1
      clear hw1
      have KW1 := Kw kw1
      clear kw1
      clear HNN
      clear hk97
      have KD := Kw kd
      clear kd
      have hS : Zw w wr _ := Zw.put (Zw.put (⟨HE.out, trivial⟩ : Zw w wr []) bR) bP
      replace hS := Zw.put hS bA
      have hC := hS.reads
      simp only [Zz, Zy] at hC
      have hE := hS.ex
      go_upto_region 18 with fail
      clear hC hE
      have hS0 := hS
      refine Zm (St := Ex) (B := fun _ w' => InE _ _ w') 13 2 1 _ 30 (fun i => match i with | 0 => 10 | _ => 11) (fun i => match i with | 0 => 63 | _ => 64) (fun i => match i with | 0 => #[.int .i64 0, .int .i64 0, .int .i64 0] | _ => #[.int .i64 0, .int .i64 0, .int .i64 0]) (fun i => match i with | 0 => #[.int .i64 c1, .int .i64 c2, .int .i64 c3] | _ => #[.int .i64 e1, .int .i64 e2, .int .i64 e3]) false (by kernel_rfl) (by kernel_rfl) (InE.drew (InE.start hS0)) (by intro x y h1 h2 h3; revert h3; match x, y, h1, h2 with | 0, 0, _, _ => decide | 0, 1, _, _ => decide | 1, 0, _, _ => decide | 1, 1, _, _ => decide) (by intro x y h1 h2; match x, y, h1, h2 with | 0, 0, _, _ => decide | 0, 1, _, _ => decide | 1, 0, _, _ => decide | 1, 1, _, _ => decide) (fun _ _ h g cs _ hb => hb.ex h) (fun _ _ cs h => h.alloc _) (fun _ _ h => h.size) ?_
      iterate 8 (apply Zx; (· rfl); (· intro b wb hB Q1 hQ1; have hS := hB.sees; have hC := hS.reads; simp only [Zz, Zy] at hC; go_wp2_with fail; exact hQ1 _ (Ex.refl _) hB); (· exact ⟨_, rfl⟩))
      (apply Zx; (· rfl); (· intro b wb hB Q1 hQ1; go_wp2_with (go_at_call 94; (with_reducible refine (KD.out _).mono ?_); rintro e wn ⟨rfl, hx⟩); exact hQ1 _ hx (hB.go hx)); (· exact ⟨_, rfl⟩))
      iterate 4 (apply Zx; (· rfl); (· intro b wb hB Q1 hQ1; go_wp2_with fail; exact hQ1 _ (Ex.refl _) hB); (· exact ⟨_, rfl⟩))
      refine Zq ?_
      refine ⟨fun i hi => ?_, fun i hi => ?_, fun i hi => ?_, fun gg wz hz hbx hne => ?_⟩
      ·obtain rfl | rfl : i = 0 ∨ i = 1 := by omega
       all_goals exact ⟨_, rfl, Zb⟩
      ·obtain rfl | rfl : i = 0 ∨ i = 1 := by omega
       all_goals exact ⟨_, rfl, Zf Yv rfl (by kernel_rfl) (fun _ _ _ hg h => h.setRow hg _)⟩
      ·obtain rfl | rfl : i = 0 ∨ i = 1 := by omega
       ·exact (show (10 : Nat) < 105 by decide)
       ·exact (show (11 : Nat) < 105 by decide)
      obtain ⟨hg0, hb0⟩ := hbx 0 (by omega)
      obtain ⟨hg1, hb1⟩ := hbx 1 (by omega)
      replace hS := InE.join hS0 hz
      replace hS := Zw.put hS hb0
      replace hS := Zw.put hS hb1
      simp only [frN, Act.put, Ku, Kt, Ks, Nat.reduceAdd, List.drop_succ_cons, List.drop_zero]
      generalize gg 0 = g0 at *
      generalize gg 1 = g1 at *
      clear hbx hz hS0 hne
      replace hS := hS.tail.tail
      clear hb0 hb1 hg0 hg1
      have hC := hS.reads
      simp only [Zz, Zy] at hC
      have hE := hS.ex
      have hbA := hS.boxes.1
      have hl1 := hS.boxes.2.1.lt
      go_upto_region 27 with fail
      clear hC hE hbA hl1
      refine Wi (St := fun _ _ => True) false (B := fun b w2 => Zw w w2 [(ga, 3, ca), (w.heap.size + 1, 169, #[.int .u8 C, .slice (some ⟨ga, 0, none⟩) 2 cap, .string S]), (w.heap.size, 169, if b then #[.int .u8 C, .slice (some ⟨ga, 0, none⟩) 2 cap, .string S] else #[.int .u8 0, .slice none 0 0, .string ⟨#[]⟩])]) (by kernel_rfl) (by kernel_rfl) (hS.drewW) ?_
      iterate 5 (apply Zx; (· rfl); (· intro b wb hB Q1 hQ1; have hS := hB; have hC := hS.reads; simp only [Zz, Zy] at hC; go_wp2_with fail; exact hQ1 _ trivial hB); (· exact ⟨_, rfl⟩))
      (apply Zx; (· rfl); (· intro b wb hB Q1 hQ1; go_wp2_with (go_at_call 71; (with_reducible refine (KW1.out _).mono ?_); rintro e wn ⟨rfl, rfl⟩); exact hQ1 _ trivial hB); (· exact ⟨_, rfl⟩))
      (apply Zx; (· rfl); (· intro b wb hB Q1 hQ1; go_wp2_with fail; exact hQ1 _ trivial hB); (· exact ⟨_, rfl⟩))
      refine Xs (by rfl) (by simp only [Act.put, Ku, Kt, Ks]; rfl) ?_
      refine Xs (by rfl) (by simp only [Act.put, Ku, Kt, Ks]; rfl) ?_
      refine Xs (by rfl) (by simp only [Act.put, Ku, Kt, Ks]; rfl) ?_
      refine Xs (by rfl) (by simp only [Act.put, Ku, Kt, Ks]; rfl) ?_
      refine Xs (by rfl) (by simp only [Act.put, Ku, Kt, Ks]; rfl) ?_
      refine Xs (by rfl) (by simp only [Act.put, Ku, Kt, Ks]; rfl) ?_
      refine Xs (by rfl) (by simp only [Act.put, Ku, Kt, Ks]; rfl) ?_
      refine Xs (by rfl) (by simp only [Act.put, Ku, Kt, Ks]; rfl) ?_
      refine Xs (by rfl) (by simp only [Act.put, Ku, Kt, Ks]; rfl) ?_
      (apply Zx; (· rfl); (· intro b wb hB Q1 hQ1; go_wp2_with fail; exact hQ1 _ trivial hB); (· exact ⟨_, rfl⟩))
      apply Zp (d := true)
      ·rfl
      ·intro b wb hB Q1 hQ1
       have hB2 := Zw.ret3 (by omega) (by omega) hB
       have hS := hB
       have hC := hS.reads
       simp only [Zz, Zy] at hC
       rcases b with _ | _
       ·simp only [Bool.false_eq_true, if_false] at hC
        go_wp2_with fail
        exact hQ1 _ trivial hB2
       ·simp only [if_true] at hC
        go_wp2_with fail
        exact hQ1 _ trivial hB2
      ·exact ⟨undef, rfl⟩
      (apply Zx; (· rfl); (· intro b wb hB Q1 hQ1; go_wp2_with fail; exact hQ1 _ trivial hB); (· exact ⟨_, rfl⟩))
      refine Zq ?_
      intro wy hy
      simp only [Bool.or_true, Bool.or_false, Bool.false_or, if_true] at hy
      have hC := hy.reads
      simp only [Zz, Zy] at hC
      have hE := hy.ex
      have hbA := hy.boxes.1
      have hl1 := hy.boxes.2.1.lt
      go_wp2_with fail
      refine Kr ?_ rfl (.inr ⟨(k.toNat : Int), (some ⟨ga, 0, none⟩), 2, cap, S, HP.out, rfl, ?_⟩)
      ·simp [results, Tryz.results149, go_sem, hC, EK.out]
      ·repeat' (with_reducible first | exact hE | refine Ex.setCell ?_ (by simp <;> omega) _)
     ·rcases hw2 : Xu p 0 q with _ | _
      ·have HP : Hid (Yq (k :: t) = none) := Kw (by rw [Xj HNN.out, hk97]; simp [Ws, hw1, hw2])
       have kw1 := fun w => Yf q 1 100 w
       rw [hw1] at kw1
       have kw2 := fun w => Yf p 0 q w
       rw [hw2] at kw2
       clear hw1 hw2
       have KW1 := Kw kw1
       have KW2 := Kw kw2
       clear kw1 kw2
       clear HNN
       clear hk97
       have KD := Kw kd
       clear kd
       have hS : Zw w wr _ := Zw.put (Zw.put (⟨HE.out, trivial⟩ : Zw w wr []) bR) bP
       replace hS := Zw.put hS bA
       have hC := hS.reads
       simp only [Zz, Zy] at hC
       have hE := hS.ex
       go_upto_region 18 with fail
       clear hC hE
       have hS0 := hS
       refine Zm (St := Ex) (B := fun _ w' => InE _ _ w') 13 2 1 _ 30 (fun i => match i with | 0 => 10 | _ => 11) (fun i => match i with | 0 => 63 | _ => 64) (fun i => match i with | 0 => #[.int .i64 0, .int .i64 0, .int .i64 0] | _ => #[.int .i64 0, .int .i64 0, .int .i64 0]) (fun i => match i with | 0 => #[.int .i64 c1, .int .i64 c2, .int .i64 c3] | _ => #[.int .i64 e1, .int .i64 e2, .int .i64 e3]) false (by kernel_rfl) (by kernel_rfl) (InE.drew (InE.start hS0)) (by intro x y h1 h2 h3; revert h3; match x, y, h1, h2 with | 0, 0, _, _ => decide | 0, 1, _, _ => decide | 1, 0, _, _ => decide | 1, 1, _, _ => decide) (by intro x y h1 h2; match x, y, h1, h2 with | 0, 0, _, _ => decide | 0, 1, _, _ => decide | 1, 0, _, _ => decide | 1, 1, _, _ => decide) (fun _ _ h g cs _ hb => hb.ex h) (fun _ _ cs h => h.alloc _) (fun _ _ h => h.size) ?_
       iterate 8 (apply Zx; (· rfl); (· intro b wb hB Q1 hQ1; have hS := hB.sees; have hC := hS.reads; simp only [Zz, Zy] at hC; go_wp2_with fail; exact hQ1 _ (Ex.refl _) hB); (· exact ⟨_, rfl⟩))
       (apply Zx; (· rfl); (· intro b wb hB Q1 hQ1; go_wp2_with (go_at_call 94; (with_reducible refine (KD.out _).mono ?_); rintro e wn ⟨rfl, hx⟩); exact hQ1 _ hx (hB.go hx)); (· exact ⟨_, rfl⟩))
       iterate 4 (apply Zx; (· rfl); (· intro b wb hB Q1 hQ1; go_wp2_with fail; exact hQ1 _ (Ex.refl _) hB); (· exact ⟨_, rfl⟩))
       refine Zq ?_
       refine ⟨fun i hi => ?_, fun i hi => ?_, fun i hi => ?_, fun gg wz hz hbx hne => ?_⟩
       ·obtain rfl | rfl : i = 0 ∨ i = 1 := by omega
        all_goals exact ⟨_, rfl, Zb⟩
       ·obtain rfl | rfl : i = 0 ∨ i = 1 := by omega
        all_goals exact ⟨_, rfl, Zf Yv rfl (by kernel_rfl) (fun _ _ _ hg h => h.setRow hg _)⟩
       ·obtain rfl | rfl : i = 0 ∨ i = 1 := by omega
        ·exact (show (10 : Nat) < 105 by decide)
        ·exact (show (11 : Nat) < 105 by decide)
       obtain ⟨hg0, hb0⟩ := hbx 0 (by omega)
       obtain ⟨hg1, hb1⟩ := hbx 1 (by omega)
       replace hS := InE.join hS0 hz
       replace hS := Zw.put hS hb0
       replace hS := Zw.put hS hb1
       simp only [frN, Act.put, Ku, Kt, Ks, Nat.reduceAdd, List.drop_succ_cons, List.drop_zero]
       generalize gg 0 = g0 at *
       generalize gg 1 = g1 at *
       clear hbx hz hS0 hne
       replace hS := hS.tail.tail
       clear hb0 hb1 hg0 hg1
       have hC := hS.reads
       simp only [Zz, Zy] at hC
       have hE := hS.ex
       have hbA := hS.boxes.1
       have hl1 := hS.boxes.2.1.lt
       go_upto_region 27 with fail
       clear hC hE hbA hl1
       refine Wi (St := fun _ _ => True) false (B := fun b w2 => Zw w w2 [(ga, 3, ca), (w.heap.size + 1, 169, #[.int .u8 C, .slice (some ⟨ga, 0, none⟩) 2 cap, .string S]), (w.heap.size, 169, if b then #[.int .u8 C, .slice (some ⟨ga, 0, none⟩) 2 cap, .string S] else #[.int .u8 0, .slice none 0 0, .string ⟨#[]⟩])]) (by kernel_rfl) (by kernel_rfl) (hS.drewW) ?_
       iterate 5 (apply Zx; (· rfl); (· intro b wb hB Q1 hQ1; have hS := hB; have hC := hS.reads; simp only [Zz, Zy] at hC; go_wp2_with fail; exact hQ1 _ trivial hB); (· exact ⟨_, rfl⟩))
       (apply Zx; (· rfl); (· intro b wb hB Q1 hQ1; go_wp2_with (go_at_call 71; (with_reducible refine (KW1.out _).mono ?_); rintro e wn ⟨rfl, rfl⟩); exact hQ1 _ trivial hB); (· exact ⟨_, rfl⟩))
       iterate 9 (apply Zx; (· rfl); (· intro b wb hB Q1 hQ1; have hS := hB; have hC := hS.reads; simp only [Zz, Zy] at hC; go_wp2_with fail; exact hQ1 _ trivial hB); (· exact ⟨_, rfl⟩))
       (apply Zx; (· rfl); (· intro b wb hB Q1 hQ1; go_wp2_with (go_at_call 71; (with_reducible refine (KW2.out _).mono ?_); rintro e wn ⟨rfl, rfl⟩); exact hQ1 _ trivial hB); (· exact ⟨_, rfl⟩))
       (apply Zx; (· rfl); (· intro b wb hB Q1 hQ1; go_wp2_with fail; exact hQ1 _ trivial hB); (· exact ⟨_, rfl⟩))
       apply Zp (d := true)
       ·rfl
       ·intro b wb hB Q1 hQ1
        have hB2 := Zw.ret3 (by omega) (by omega) hB
        have hS := hB
        have hC := hS.reads
        simp only [Zz, Zy] at hC
        rcases b with _ | _
        ·simp only [Bool.false_eq_true, if_false] at hC
         go_wp2_with fail
         exact hQ1 _ trivial hB2
        ·simp only [if_true] at hC
         go_wp2_with fail
         exact hQ1 _ trivial hB2
       ·exact ⟨undef, rfl⟩
       (apply Zx; (· rfl); (· intro b wb hB Q1 hQ1; go_wp2_with fail; exact hQ1 _ trivial hB); (· exact ⟨_, rfl⟩))
       refine Zq ?_
       intro wy hy
       simp only [Bool.or_true, Bool.or_false, Bool.false_or, if_true] at hy
       have hC := hy.reads
       simp only [Zz, Zy] at hC
       have hE := hy.ex
       have hbA := hy.boxes.1
       have hl1 := hy.boxes.2.1.lt
       go_wp2_with fail
       refine Kr ?_ rfl (.inr ⟨(k.toNat : Int), (some ⟨ga, 0, none⟩), 2, cap, S, HP.out, rfl, ?_⟩)
       ·simp [results, Tryz.results149, go_sem, hC, EK.out]
       ·repeat' (with_reducible first | exact hE | refine Ex.setCell ?_ (by simp <;> omega) _)
      ·have HP : Hid (Yq (k :: t) = some (k, [p, q])) := Kw (by rw [Xj HNN.out, hk97]; simp [Ws, hw1, hw2])
       have kw1 := fun w => Yf q 1 100 w
       rw [hw1] at kw1
       have kw2 := fun w => Yf p 0 q w
       rw [hw2] at kw2
       clear hw1 hw2
       have KW1 := Kw kw1
       have KW2 := Kw kw2
       clear kw1 kw2
       clear HNN
       clear hk97
       have KD := Kw kd
       clear kd
       have hS : Zw w wr _ := Zw.put (Zw.put (⟨HE.out, trivial⟩ : Zw w wr []) bR) bP
       replace hS := Zw.put hS bA
       have hC := hS.reads
       simp only [Zz, Zy] at hC
       have hE := hS.ex
       go_upto_region 18 with fail
       clear hC hE
       have hS0 := hS
       refine Zm (St := Ex) (B := fun _ w' => InE _ _ w') 13 2 1 _ 30 (fun i => match i with | 0 => 10 | _ => 11) (fun i => match i with | 0 => 63 | _ => 64) (fun i => match i with | 0 => #[.int .i64 0, .int .i64 0, .int .i64 0] | _ => #[.int .i64 0, .int .i64 0, .int .i64 0]) (fun i => match i with | 0 => #[.int .i64 c1, .int .i64 c2, .int .i64 c3] | _ => #[.int .i64 e1, .int .i64 e2, .int .i64 e3]) false (by kernel_rfl) (by kernel_rfl) (InE.drew (InE.start hS0)) (by intro x y h1 h2 h3; revert h3; match x, y, h1, h2 with | 0, 0, _, _ => decide | 0, 1, _, _ => decide | 1, 0, _, _ => decide | 1, 1, _, _ => decide) (by intro x y h1 h2; match x, y, h1, h2 with | 0, 0, _, _ => decide | 0, 1, _, _ => decide | 1, 0, _, _ => decide | 1, 1, _, _ => decide) (fun _ _ h g cs _ hb => hb.ex h) (fun _ _ cs h => h.alloc _) (fun _ _ h => h.size) ?_
       iterate 8 (apply Zx; (· rfl); (· intro b wb hB Q1 hQ1; have hS := hB.sees; have hC := hS.reads; simp only [Zz, Zy] at hC; go_wp2_with fail; exact hQ1 _ (Ex.refl _) hB); (· exact ⟨_, rfl⟩))
       (apply Zx; (· rfl); (· intro b wb hB Q1 hQ1; go_wp2_with (go_at_call 94; (with_reducible refine (KD.out _).mono ?_); rintro e wn ⟨rfl, hx⟩); exact hQ1 _ hx (hB.go hx)); (· exact ⟨_, rfl⟩))
       iterate 4 (apply Zx; (· rfl); (· intro b wb hB Q1 hQ1; go_wp2_with fail; exact hQ1 _ (Ex.refl _) hB); (· exact ⟨_, rfl⟩))
       refine Zq ?_
       refine ⟨fun i hi => ?_, fun i hi => ?_, fun i hi => ?_, fun gg wz hz hbx hne => ?_⟩
       ·obtain rfl | rfl : i = 0 ∨ i = 1 := by omega
        all_goals exact ⟨_, rfl, Zb⟩
       ·obtain rfl | rfl : i = 0 ∨ i = 1 := by omega
        all_goals exact ⟨_, rfl, Zf Yv rfl (by kernel_rfl) (fun _ _ _ hg h => h.setRow hg _)⟩
       ·obtain rfl | rfl : i = 0 ∨ i = 1 := by omega
        ·exact (show (10 : Nat) < 105 by decide)
        ·exact (show (11 : Nat) < 105 by decide)
       obtain ⟨hg0, hb0⟩ := hbx 0 (by omega)
       obtain ⟨hg1, hb1⟩ := hbx 1 (by omega)
       replace hS := InE.join hS0 hz
       replace hS := Zw.put hS hb0
       replace hS := Zw.put hS hb1
       simp only [frN, Act.put, Ku, Kt, Ks, Nat.reduceAdd, List.drop_succ_cons, List.drop_zero]
       generalize gg 0 = g0 at *
       generalize gg 1 = g1 at *
       clear hbx hz hS0 hne
       replace hS := hS.tail.tail
       clear hb0 hb1 hg0 hg1
       have hC := hS.reads
       simp only [Zz, Zy] at hC
       have hE := hS.ex
       have hbA := hS.boxes.1
       have hl1 := hS.boxes.2.1.lt
       go_upto_region 27 with fail
       clear hC hE hbA hl1
       refine Wi (St := fun _ _ => True) false (B := fun b w2 => Zw w w2 [(ga, 3, ca), (w.heap.size + 1, 169, #[.int .u8 C, .slice (some ⟨ga, 0, none⟩) 2 cap, .string S]), (w.heap.size, 169, if b then #[.int .u8 C, .slice (some ⟨ga, 0, none⟩) 2 cap, .string S] else #[.int .u8 0, .slice none 0 0, .string ⟨#[]⟩])]) (by kernel_rfl) (by kernel_rfl) (hS.drewW) ?_
       iterate 5 (apply Zx; (· rfl); (· intro b wb hB Q1 hQ1; have hS := hB; have hC := hS.reads; simp only [Zz, Zy] at hC; go_wp2_with fail; exact hQ1 _ trivial hB); (· exact ⟨_, rfl⟩))
       (apply Zx; (· rfl); (· intro b wb hB Q1 hQ1; go_wp2_with (go_at_call 71; (with_reducible refine (KW1.out _).mono ?_); rintro e wn ⟨rfl, rfl⟩); exact hQ1 _ trivial hB); (· exact ⟨_, rfl⟩))
       iterate 9 (apply Zx; (· rfl); (· intro b wb hB Q1 hQ1; have hS := hB; have hC := hS.reads; simp only [Zz, Zy] at hC; go_wp2_with fail; exact hQ1 _ trivial hB); (· exact ⟨_, rfl⟩))
       (apply Zx; (· rfl); (· intro b wb hB Q1 hQ1; go_wp2_with (go_at_call 71; (with_reducible refine (KW2.out _).mono ?_); rintro e wn ⟨rfl, rfl⟩); exact hQ1 _ trivial hB); (· exact ⟨_, rfl⟩))
       (apply Zx; (· rfl); (· intro b wb hB Q1 hQ1; go_wp2_with fail; exact hQ1 _ trivial hB); (· exact ⟨_, rfl⟩))
       apply Zp (d := true)
       ·rfl
       ·intro b wb hB Q1 hQ1
        have hB2 := Zw.ret3 (by omega) (by omega) hB
        have hS := hB
        have hC := hS.reads
        simp only [Zz, Zy] at hC
        rcases b with _ | _
        ·simp only [Bool.false_eq_true, if_false] at hC
         go_wp2_with fail
         exact hQ1 _ trivial hB2
        ·simp only [if_true] at hC
         go_wp2_with fail
         exact hQ1 _ trivial hB2
       ·exact ⟨undef, rfl⟩
       (apply Zx; (· rfl); (· intro b wb hB Q1 hQ1; go_wp2_with fail; exact hQ1 _ trivial hB); (· exact ⟨_, rfl⟩))
       refine Zq ?_
       intro wy hy
       simp only [Bool.or_true, Bool.or_false, Bool.false_or, if_true] at hy
       have hC := hy.reads
       simp only [Zz, Zy] at hC
       have hE := hy.ex
       have hbA := hy.boxes.1
       have hl1 := hy.boxes.2.1.lt
       go_wp2_with fail
       refine Kr ?_ rfl (.inl ⟨⟨k, ga, cap, ca, [p, q], S⟩, HP.out, rfl, HS, ⟨?_, ?_⟩, ?_⟩)
       ·simp [results, Tryz.results149, go_sem, hC, Pc.ci, Pc.cs, EK.out]
       ·repeat' (with_reducible first | exact hbA | refine Box.far ?_ (by simp <;> omega) _)
       ·exact HCA.out
       ·repeat' (with_reducible first | exact hE | refine Ex.setCell ?_ (by simp <;> omega) _)
    ·have hnI : ((ns.length : Int) == 2) = false := by rw [beq_eq_false_iff_ne]; omega
     have hnI2 : ¬ (ns.length : Int) = 2 := by omega
     have HP : Hid (Yq (k :: t) = none) := Kw (by rw [Xj HNN.out, hk97]; simp [Ws, hn])
     clear hn HNN HO
     clear hk97
     have hS : Zw w wr _ := Zw.put (Zw.put (⟨HE.out, trivial⟩ : Zw w wr []) bR) bP
     have hC := hS.reads
     simp only [Zz, Zy] at hC
     have hE := hS.ex
     go_wp2_with fail
     refine Kr ?_ rfl (.inr ⟨(k.toNat : Int), A, ns.length, cap, S, HP.out, rfl, ?_⟩)
     ·simp [results, Tryz.results149, go_sem, hC, EK.out]
     ·repeat' (with_reducible first | exact hE | refine Ex.setCell ?_ (by simp <;> omega) _)
end
section
open Go.RowKit

attribute [local go_sem] Zi Zh
theorem Mu (k : UInt8) (t : List UInt8) (hk119 : k ≠ 119) (hk114 : k ≠ 114) (hk102 : k ≠ 102) (hk97 : k ≠ 97) (hk100 : k ≠ 100) (hl : (k :: t).length ≤ 1048576) (w : World) (hm : Vs w) : Calls Tryz.prog 149 #[.string (Bs (k :: t))] w (Nr w (k :: t)) := by
 have HK119 := Kw hk119
 have HK114 := Kw hk114
 have HK102 := Kw hk102
 have HK97 := Kw hk97
 have HK100 := Kw hk100
 clear hk119 hk114 hk102 hk97 hk100
 have hlt : t.length ≤ 1048576 := by simp at hl; omega
 have hx1 := Mo k t
 obtain ⟨S, HS⟩ : ∃ S, Hid (S = Bs (k :: t)) := ⟨_, Kw rfl⟩
 have hsz : S.size = t.length + 1 := by rw [HS.out]; rfl
 obtain ⟨hs0, hk0⟩ : ∃ hs : 0 < S.size, S[0]'hs = k := by
  obtain ⟨h1, h2⟩ := Bs_at HS.out (i := 0) (by simp)
  exact ⟨h1, h2⟩
 rw [← HS.out] at hx1 ⊢
 have hne : ¬ S = (⟨#[]⟩ : ByteArray) := fun e => by rw [e] at hs0; exact absurd hs0 (by decide)
 have hne2 : S.toList.isEmpty = false := by simpa using Qv hne
 clear hne
 have ks := fun w hm => Mp t hlt w hm
 have HW : Hid (∀ x ∈ cds t, x.length ≤ 1048576) := Kw fun x hx => by
  have h1 := Tb t x hx
  omega
 have HCL : Hid ((cds t).length ≤ 1048576) := Kw (by have h1 := Mn t; simp only [List.length_cons] at hl; omega)
 generalize hT : Bs t = T at hx1 ks
 have HM := Kw hm
 have KS := Kw ks
 have HX1 := Kw hx1
 clear hm ks hT
 have hS := Zw.refl w
 have hC := True.intro
 go_enter Tryz.func149, Tryz.ntmps149
 go_upto_region 5 with fail
 have bR := (Box.new w #[.int .u8 0, .slice none 0 0, .string ⟨#[]⟩] 169).alloc (.cells #[.int .u8 (k.toNat : Int), .slice none 0 0, .string S] 169)
 have bP := Box.new (w.alloc (.cells #[.int .u8 0, .slice none 0 0, .string ⟨#[]⟩] 169)) #[.int .u8 (k.toNat : Int), .slice none 0 0, .string S] 169
 rw [Kv] at bP
 have hE1 : Ex w ((w.alloc (.cells #[.int .u8 0, .slice none 0 0, .string ⟨#[]⟩] 169)).alloc (.cells #[.int .u8 (k.toNat : Int), .slice none 0 0, .string S] 169)) := ((Ex.refl w).alloc _).alloc _
 have hz1 : ((w.alloc (.cells #[.int .u8 0, .slice none 0 0, .string ⟨#[]⟩] 169)).alloc (.cells #[.int .u8 (k.toNat : Int), .slice none 0 0, .string S] 169)).heap.size = w.heap.size + 2 := by simp only [Kv]
 generalize (w.alloc (.cells #[.int .u8 0, .slice none 0 0, .string ⟨#[]⟩] 169)).alloc (.cells #[.int .u8 (k.toNat : Int), .slice none 0 0, .string S] 169) = W1 at *
 clear hC hS hk0
 have hs1 : (1 : Int) ≤ (S.size : Int) := by omega
 clear hsz hl hlt
 go_wp2_with fail
 refine (KS.out _ (HM.out.ex hE1)).mono ?_
 rintro e W2 ⟨g, gc, cur, rfl, hg, bG, HG, hx⟩
 replace bR := bR.ex hx
 replace bP := bP.ex hx
 have hE2 := hE1.trans hx
 have hz2 := hx.size
 clear hx hE1 KS
 go_wp2_with fail
 have hO0 : Vt W2 (w.heap.size + 2) none 0 [] := ⟨by simp, .inl ⟨rfl, rfl⟩⟩
 go_loopw [25, 6, 7, 8] (fun i f n o wr => ∃ (j : Nat) (A : Option Addr) (cap : Nat) (ns : List Int), i = .int .i64 j ∧ j ≤ (cds t).length ∧ Hid (Xf Xa ((cds t).take j) = some ns) ∧ Box wr (w.heap.size + 1) 169 #[.int .u8 (k.toNat : Int), .slice A ns.length cap, .string S] ∧
   Box wr w.heap.size 169 #[.int .u8 0, .slice none 0 0, .string ⟨#[]⟩] ∧ Box wr g 9 cur ∧ Hid (Vt wr (w.heap.size + 2) A cap ns) ∧ Hid (Ex w wr)) (fun i _ _ _ _ => (cds t).length + 1 - (intOf i).toNat)
 case atStart => exact ⟨0, none, 0, [], rfl, by omega, Kw rfl, bP, bR, bG, Kw hO0, Kw hE2⟩
 case round =>
  clear bP bR bG hO0 hE2 hz2
  obtain ⟨j, A, cap, ns, rfl, hj, HN, bP, bR, bG, HO, HE⟩ := hrel
  have hnl : ns.length ≤ 1048576 := by
   have h1 := Wk HN.out
   have h2 := List.length_take_le j (cds t)
   have h3 := HCL.out
   omega
  by_cases hlt : j < (cds t).length
  ·have hcell := HG.out j hlt
   have hmem : (cds t)[j] ∈ cds t := List.getElem_mem hlt
   have hxl := HW.out _ hmem
   have HMs : Hid (Xf Xa ((cds t).take (j + 1)) = Xf Xa ((cds t).take j ++ [(cds t)[j]])) := Kw (by rw [Wb hlt])
   generalize (cds t)[j] = x at *
   have kp := fun w hm => Qo x hxl w hm
   have hlI : (j : Int) < ((cds t).length : Int) := by omega
   have hw5 : IntKind.i64.wrap ((j : Int) + 1) = (j : Int) + 1 := Kq _ (by have := HCL.out; omega)
   obtain ⟨X, HX⟩ : ∃ X, Hid (X = Bs x) := ⟨_, Kw rfl⟩
   rw [← HX.out] at hcell kp
   have KP := Kw kp
   have HMem := Kw hmem
   have cG := bG.cell
   have zG := bG.lt
   clear kp hmem hxl
   go_wp2_with fail
   refine (KP.out _ (HM.out.ex HE.out)).mono ?_
   rintro e w2 ⟨n, ok, rfl, hx, hn⟩
   have HNn := Kw hn
   replace bP := bP.ex hx
   replace bR := bR.ex hx
   replace bG := bG.ex hx
   have HE2 := Kw (HE.out.trans hx)
   have HO2 := Kw (HO.out.ex hx)
   clear hx hn cG zG KP hcell
   have cP := bP.cell
   have fP := bP.frozen
   have zP := bP.lt
   have cR := bR.cell
   have fR := bR.frozen
   have zR := bR.lt
   rcases ok with _ | _
   ·have HNo : Hid (Yq (k :: t) = none) := Kw (Ry (Tz HNn.out HMem.out))
    go_wp2
    refine Kr ?_ rfl (.inr ⟨k.toNat, A, ns.length, cap, S, HNo.out, rfl, ?_⟩)
    ·simp [results, Tryz.results149, go_sem, cP, cR]
    ·have hE := HE2.out
     repeat' (with_reducible first | exact hE | refine Ex.setCell ?_ (by simp <;> omega) _)
   ·have hs2 := HE2.out.size
    go_wp2_with (at_builtin; refine Vf rfl _ _ w2 rfl (w.heap.size + 2) A cap ns n rfl HO2.out rfl hnl (by omega) ?_)
    intro A' cap' w' hown' hk'
    have HE3 := Kw (hk'.ex w HE2.out (by omega))
    replace bP := hk'.box _ _ _ bP (by decide)
    replace bR := hk'.box _ _ _ bR (by decide)
    replace bG := hk'.box _ _ _ bG (by decide)
    have HO3 := Kw hown'
    have cP := bP.cell
    have fP := bP.frozen
    have zP := bP.lt
    clear hown' hk' HO2 HE2 cR fR zR
    have HN3 : Hid (Xf Xa ((cds t).take (j + 1)) = some (ns ++ [n])) := Kw (by rw [HMs.out]; exact Uu HNn.out HN.out)
    clear HNn HMs
    go_wp2
    have bP3 : Box (w'.setCell ⟨w.heap.size + 1, 1, none⟩ (.slice A' (ns.length + 1) cap')) (w.heap.size + 1) 169 #[.int .u8 (k.toNat : Int), .slice A' (ns ++ [n]).length cap', .string S] := by
     have h := bP.set_ 1 (.slice A' (ns.length + 1) cap')
     simpa using h
    have bR3 := bR.far (p := ⟨w.heap.size + 1, 1, none⟩) (by simp) (.slice A' (ns.length + 1) cap')
    have bG3 := bG.far (p := ⟨w.heap.size + 1, 1, none⟩) (by simp; omega) (.slice A' (ns.length + 1) cap')
    have HO4 := Kw (HO3.out.setBelow (p := ⟨w.heap.size + 1, 1, none⟩) (by simp) (.slice A' (ns.length + 1) cap'))
    have HE4 := Kw (HE3.out.setCell (p := ⟨w.heap.size + 1, 1, none⟩) (by simp) (.slice A' (ns.length + 1) cap'))
    go_roundw
    case rel => exact ⟨j + 1, A', cap', ns ++ [n], by go_num, by omega, HN3, bP3, bR3, bG3, HO4, HE4⟩
    case measure => simp [intOf] <;> omega
  ·
   have hk119 := HK119.out
   have hk114 := HK114.out
   have hk102 := HK102.out
   have hk97 := HK97.out
   have hk100 := HK100.out
   obtain rfl : j = (cds t).length := by omega
   have hlI : ¬ ((cds t).length : Int) < ((cds t).length : Int) := by omega
   have HNN : Hid (Xf Xa (cds t) = some ns) := Kw (by have := HN.out; rwa [List.take_length] at this)
   clear HN HG bG hj hnl HM HW HX1
   clear hlt
   go_upto_region 13 with fail
   clear hlI
   have e119 := u8_ne hk119
   have e114 := u8_ne hk114
   have e102 := u8_ne hk102
   have e97 := u8_ne hk97
   have e100 := u8_ne hk100
   simp only [show ((119 : UInt8).toNat : Int) = 119 from rfl] at e119
   simp only [show ((114 : UInt8).toNat : Int) = 114 from rfl] at e114
   simp only [show ((102 : UInt8).toNat : Int) = 102 from rfl] at e102
   simp only [show ((97 : UInt8).toNat : Int) = 97 from rfl] at e97
   simp only [show ((100 : UInt8).toNat : Int) = 100 from rfl] at e100
   by_cases hn : ns.length = 2
   ·obtain ⟨p, q, rfl⟩ := list2 hn
    clear hn
    obtain ⟨ga, ca, rfl, hga, bA, hca⟩ := Own.box HO.out (by simp)
    clear HO
    simp only [List.length_cons, List.length_nil, Nat.reduceAdd] at bP
    have d0 : ca[0]? = some (.int .i64 p) := (hca 0 (by simp)).trans rfl
    have d1 : ca[1]? = some (.int .i64 q) := (hca 1 (by simp)).trans rfl
    have HCA : Hid (∀ j, j < [p, q].length → ca[j]? = some (.int .i64 ([p, q].getD j 0))) := Kw fun j hj => by
     simp only [List.length_cons, List.length_nil, Nat.reduceAdd] at hj
     obtain rfl | rfl : j = 0 ∨ j = 1 := by omega
     ·exact d0
     ·exact d1
    clear hca
    have kd := fun w => Uv p q w
    rcases hd : Xd p q with _ | _
    ·simp only [Un, hd, Bool.false_eq_true, if_false, Fr.v, Fr.none] at kd
     have HP : Hid (Yq (k :: t) = none) := Kw (by rw [Xj HNN.out]; simp [Ws, hd, hk119, hk114, hk102, hk97, hk100])
     clear HNN hd
     clear hk119 hk114 hk102 hk97 hk100
     have KD := Kw kd
     clear kd
     have hS : Zw w wr _ := Zw.put (Zw.put (⟨HE.out, trivial⟩ : Zw w wr []) bR) bP
     replace hS := Zw.put hS bA
     have hC := hS.reads
     simp only [Zz, Zy] at hC
     have hE := hS.ex
     go_upto_region 18 with fail
     clear hC hE
     have hS0 := hS
     refine Zm (St := Ex) (B := fun _ w' => InE _ _ w') 13 2 1 _ 30 (fun i => match i with | 0 => 10 | _ => 11) (fun i => match i with | 0 => 63 | _ => 64) (fun i => match i with | 0 => #[.int .i64 0, .int .i64 0, .int .i64 0] | _ => #[.int .i64 0, .int .i64 0, .int .i64 0]) (fun i => match i with | 0 => #[.int .i64 0, .int .i64 0, .int .i64 0] | _ => #[.int .i64 0, .int .i64 0, .int .i64 0]) false (by kernel_rfl) (by kernel_rfl) (InE.drew (InE.start hS0)) (by intro x y h1 h2 h3; revert h3; match x, y, h1, h2 with | 0, 0, _, _ => decide | 0, 1, _, _ => decide | 1, 0, _, _ => decide | 1, 1, _, _ => decide) (by intro x y h1 h2; match x, y, h1, h2 with | 0, 0, _, _ => decide | 0, 1, _, _ => decide | 1, 0, _, _ => decide | 1, 1, _, _ => decide) (fun _ _ h g cs _ hb => hb.ex h) (fun _ _ cs h => h.alloc _) (fun _ _ h => h.size) ?_
     iterate 8 (apply Zx; (· rfl); (· intro b wb hB Q1 hQ1; have hS := hB.sees; have hC := hS.reads; simp only [Zz, Zy] at hC; go_wp2_with fail; exact hQ1 _ (Ex.refl _) hB); (· exact ⟨_, rfl⟩))
     (apply Zx; (· rfl); (· intro b wb hB Q1 hQ1; go_wp2_with (go_at_call 94; (with_reducible refine (KD.out _).mono ?_); rintro e wn ⟨rfl, hx⟩); exact hQ1 _ hx (hB.go hx)); (· exact ⟨_, rfl⟩))
     iterate 4 (apply Zx; (· rfl); (· intro b wb hB Q1 hQ1; go_wp2_with fail; exact hQ1 _ (Ex.refl _) hB); (· exact ⟨_, rfl⟩))
     refine Zq ?_
     refine ⟨fun i hi => ?_, fun i hi => ?_, fun i hi => ?_, fun gg wz hz hbx hne => ?_⟩
     ·obtain rfl | rfl : i = 0 ∨ i = 1 := by omega
      all_goals exact ⟨_, rfl, Zb⟩
     ·obtain rfl | rfl : i = 0 ∨ i = 1 := by omega
      all_goals exact ⟨_, rfl, Zf Yv rfl (by kernel_rfl) (fun _ _ _ hg h => h.setRow hg _)⟩
     ·obtain rfl | rfl : i = 0 ∨ i = 1 := by omega
      ·exact (show (10 : Nat) < 105 by decide)
      ·exact (show (11 : Nat) < 105 by decide)
     obtain ⟨hg0, hb0⟩ := hbx 0 (by omega)
     obtain ⟨hg1, hb1⟩ := hbx 1 (by omega)
     replace hS := InE.join hS0 hz
     replace hS := Zw.put hS hb0
     replace hS := Zw.put hS hb1
     simp only [frN, Act.put, Ku, Kt, Ks, Nat.reduceAdd, List.drop_succ_cons, List.drop_zero]
     generalize gg 0 = g0 at *
     generalize gg 1 = g1 at *
     clear hbx hz hS0 hne
     replace hS := hS.tail.tail
     clear hb0 hb1 hg0 hg1
     have hC := hS.reads
     simp only [Zz, Zy] at hC
     have hE := hS.ex
     have hbA := hS.boxes.1
     have hl1 := hS.boxes.2.1.lt
     go_wp2_with fail
     refine Kr ?_ rfl (.inr ⟨(k.toNat : Int), (some ⟨ga, 0, none⟩), 2, cap, S, HP.out, rfl, ?_⟩)
     ·simp [results, Tryz.results149, go_sem, hC]
     ·repeat' (with_reducible first | exact hE | refine Ex.setCell ?_ (by simp <;> omega) _)
    ·simp only [Un, hd, if_true, Fr.v] at kd
     generalize Vx p q = c at kd
     generalize Vw p q = e at kd
     obtain ⟨c1, c2, c3⟩ := c
     obtain ⟨e1, e2, e3⟩ := e
     simp only at kd
     have HP : Hid (Yq (k :: t) = none) := Kw (by rw [Xj HNN.out]; simp [Ws, hd, hk119, hk114, hk102, hk97, hk100])
     clear HNN hd
     clear hk119 hk114 hk102 hk97 hk100
     have KD := Kw kd
     clear kd
     have hS : Zw w wr _ := Zw.put (Zw.put (⟨HE.out, trivial⟩ : Zw w wr []) bR) bP
     replace hS := Zw.put hS bA
     have hC := hS.reads
     simp only [Zz, Zy] at hC
     have hE := hS.ex
     go_upto_region 18 with fail
     clear hC hE
     have hS0 := hS
     refine Zm (St := Ex) (B := fun _ w' => InE _ _ w') 13 2 1 _ 30 (fun i => match i with | 0 => 10 | _ => 11) (fun i => match i with | 0 => 63 | _ => 64) (fun i => match i with | 0 => #[.int .i64 0, .int .i64 0, .int .i64 0] | _ => #[.int .i64 0, .int .i64 0, .int .i64 0]) (fun i => match i with | 0 => #[.int .i64 c1, .int .i64 c2, .int .i64 c3] | _ => #[.int .i64 e1, .int .i64 e2, .int .i64 e3]) false (by kernel_rfl) (by kernel_rfl) (InE.drew (InE.start hS0)) (by intro x y h1 h2 h3; revert h3; match x, y, h1, h2 with | 0, 0, _, _ => decide | 0, 1, _, _ => decide | 1, 0, _, _ => decide | 1, 1, _, _ => decide) (by intro x y h1 h2; match x, y, h1, h2 with | 0, 0, _, _ => decide | 0, 1, _, _ => decide | 1, 0, _, _ => decide | 1, 1, _, _ => decide) (fun _ _ h g cs _ hb => hb.ex h) (fun _ _ cs h => h.alloc _) (fun _ _ h => h.size) ?_
     iterate 8 (apply Zx; (· rfl); (· intro b wb hB Q1 hQ1; have hS := hB.sees; have hC := hS.reads; simp only [Zz, Zy] at hC; go_wp2_with fail; exact hQ1 _ (Ex.refl _) hB); (· exact ⟨_, rfl⟩))
     (apply Zx; (· rfl); (· intro b wb hB Q1 hQ1; go_wp2_with (go_at_call 94; (with_reducible refine (KD.out _).mono ?_); rintro e wn ⟨rfl, hx⟩); exact hQ1 _ hx (hB.go hx)); (· exact ⟨_, rfl⟩))
     iterate 4 (apply Zx; (· rfl); (· intro b wb hB Q1 hQ1; go_wp2_with fail; exact hQ1 _ (Ex.refl _) hB); (· exact ⟨_, rfl⟩))
     refine Zq ?_
     refine ⟨fun i hi => ?_, fun i hi => ?_, fun i hi => ?_, fun gg wz hz hbx hne => ?_⟩
     ·obtain rfl | rfl : i = 0 ∨ i = 1 := by omega
      all_goals exact ⟨_, rfl, Zb⟩
     ·obtain rfl | rfl : i = 0 ∨ i = 1 := by omega
      all_goals exact ⟨_, rfl, Zf Yv rfl (by kernel_rfl) (fun _ _ _ hg h => h.setRow hg _)⟩
     ·obtain rfl | rfl : i = 0 ∨ i = 1 := by omega
      ·exact (show (10 : Nat) < 105 by decide)
      ·exact (show (11 : Nat) < 105 by decide)
     obtain ⟨hg0, hb0⟩ := hbx 0 (by omega)
     obtain ⟨hg1, hb1⟩ := hbx 1 (by omega)
     replace hS := InE.join hS0 hz
     replace hS := Zw.put hS hb0
     replace hS := Zw.put hS hb1
     simp only [frN, Act.put, Ku, Kt, Ks, Nat.reduceAdd, List.drop_succ_cons, List.drop_zero]
     generalize gg 0 = g0 at *
     generalize gg 1 = g1 at *
     clear hbx hz hS0 hne
     replace hS := hS.tail.tail
     clear hb0 hb1 hg0 hg1
     have hC := hS.reads
     simp only [Zz, Zy] at hC
     have hE := hS.ex
     have hbA := hS.boxes.1
     have hl1 := hS.boxes.2.1.lt
     go_wp2_with fail
     refine Kr ?_ rfl (.inr ⟨(k.toNat : Int), (some ⟨ga, 0, none⟩), 2, cap, S, HP.out, rfl, ?_⟩)
     ·simp [results, Tryz.results149, go_sem, hC]
     ·repeat' (with_reducible first | exact hE | refine Ex.setCell ?_ (by simp <;> omega) _)
   ·have hnI : ((ns.length : Int) == 2) = false := by rw [beq_eq_false_iff_ne]; omega
    have hnI2 : ¬ (ns.length : Int) = 2 := by omega
    have HP : Hid (Yq (k :: t) = none) := Kw (by rw [Xj HNN.out]; simp [Ws, hn, hk119, hk114, hk102, hk97, hk100])
    clear hn HNN HO
    clear hk119 hk114 hk102 hk97 hk100
    have hS : Zw w wr _ := Zw.put (Zw.put (⟨HE.out, trivial⟩ : Zw w wr []) bR) bP
    have hC := hS.reads
    simp only [Zz, Zy] at hC
    have hE := hS.ex
    go_wp2_with fail
    refine Kr ?_ rfl (.inr ⟨(k.toNat : Int), A, ns.length, cap, S, HP.out, rfl, ?_⟩)
    ·simp [results, Tryz.results149, go_sem, hC]
    ·repeat' (with_reducible first | exact hE | refine Ex.setCell ?_ (by simp <;> omega) _)
end
section
structure Con where
 b : List UInt8
 x : Fr
 y : Fr
def Con.new : Con := ⟨[], ⟨1, 0, 1⟩, ⟨0, 0, 1⟩⟩
def Con.cells (c : Con) : Array Value := #[.string (Bs c.b), .int .i64 c.x.re, .int .i64 c.x.im, .int .i64 c.x.den, .int .i64 c.y.re, .int .i64 c.y.im, .int .i64 c.y.den]
def Nn (l : List UInt8) : Int := match Yd l with
 | some ps => ps.length
 | none => -1
section
variable (st : Con → List UInt8 → Con × List UInt8)
def crun : Con → List (List UInt8) → List UInt8 → Con × List UInt8
 | c, [], o => (c, o)
 | c, l :: ls, o => crun (st c l).1 ls (o ++ ((st c l).2 ++ [10]))
theorem crun_end (c : Con) (ls : List (List UInt8)) (o : List UInt8) : crun st c (ls.drop ls.length) o = (c, o) := by
 rw [List.drop_length]
 rfl
theorem crun_step {ls : List (List UInt8)} {i : Nat} (hi : i < ls.length) (c : Con) (o : List UInt8) : crun st c (ls.drop i) o = crun st (st c ls[i]).1 (ls.drop (i + 1)) (o ++ ((st c ls[i]).2 ++ [10])) := by
 rw [List.drop_eq_getElem_cons hi]
 rfl
def said (r : Con × List UInt8) : List UInt8 := r.2 ++ ([112, 105, 101, 99, 101, 115, 32] ++ (Lib.itoa (Nn r.1.b) ++ [10]))
def exec (text : List UInt8) : List UInt8 := said (crun st Con.new (lns text).dropLast [])
end
def answer (o : ByteArray) (ok told : Bool) : ByteArray := if told then if ok then o else ⟨#[110, 111]⟩ else ⟨#[119, 104, 97, 116]⟩
def Nm (l : List UInt8) : List UInt8 × List UInt8 × Bool := Lib.cut l [32]
theorem bpcs_bd (l : List UInt8) : -1 ≤ Nn l ∧ Nn l ≤ 12 := by
 unfold Nn
 split
 ·rename_i h
  have := (Lc h).2.2
  omega
 ·omega
end
end Go.Proofs.YtiommfmaleeibaaGreatDoor
