/-
  Proved: what functions compute, part 26. No condition.
-/
import Derived.Test.YtmjggolkopbcnaaGreatDoorB24
set_option linter.unusedSimpArgs false
set_option linter.unusedVariables false
set_option maxRecDepth 20000
set_option maxHeartbeats 8000000
namespace Go.Proofs.YtmjggolkopbcnaaGreatDoor
section
open Go.RowKit

attribute [local go_sem] Zq Zp
theorem Ss (c : UInt8) (hc : c = 97 ∨ c = 100) (k : UInt8) (t : List UInt8) (hk97 : k = c) (hl : (k :: t).length ≤ 1048576) (w : World) (hm : Xm w) : Calls Tryz.prog 69 #[.string (Bs (k :: t))] w (Ra w (k :: t)) := by
 obtain ⟨C, hC⟩ : ∃ C : Int, Hid (C = ((c.toNat : Nat) : Int)) := ⟨_, Oi rfl⟩
 have q119 : (C == 119) = false := by rw [hC.out]; rcases hc with rfl | rfl <;> rfl
 have q114 : (C == 114) = false := by rw [hC.out]; rcases hc with rfl | rfl <;> rfl
 have q102 : (C == 102) = false := by rw [hC.out]; rcases hc with rfl | rfl <;> rfl
 rcases hc with rfl | rfl
 all_goals
  have q1 := congrArg (fun x : Int => x == 97) hC.out
  have q2 := congrArg (fun x : Int => x == 100) hC.out
  simp only [show (((97 : UInt8).toNat : Nat) : Int) = 97 from rfl, show (((100 : UInt8).toNat : Nat) : Int) = 100 from rfl, Int.reduceBEq] at q1 q2
  have HK97 := Oi hk97
  clear hk97
  have hlt : t.length ≤ 1048576 := by simp at hl; omega
  have hx1 := Uw k t
  obtain ⟨S, HS⟩ : ∃ S, Hid (S = Bs (k :: t)) := ⟨_, Oi rfl⟩
  have hsz : S.size = t.length + 1 := by rw [HS.out]; rfl
  obtain ⟨hs0, hk0⟩ : ∃ hs : 0 < S.size, S[0]'hs = k := by
   obtain ⟨h1, h2⟩ := Th HS.out (i := 0) (by simp)
   exact ⟨h1, h2⟩
  rw [← HS.out] at hx1 ⊢
  have hne : ¬ S = (⟨#[]⟩ : ByteArray) := fun e => by rw [e] at hs0; exact absurd hs0 (by decide)
  have hne2 : S.toList.isEmpty = false := by simpa using Vf hne
  clear hne
  have ks := fun w hm => Pu t hlt w hm
  have HW : Hid (∀ x ∈ cds t, x.length ≤ 1048576) := Oi fun x hx => by
   have h1 := Wy t x hx
   omega
  have HCL : Hid ((cds t).length ≤ 1048576) := Oi (by have h1 := Uv t; simp only [List.length_cons] at hl; omega)
  generalize hT : Bs t = T at hx1 ks
  have HM := Oi hm
  have KS := Oi ks
  have HX1 := Oi hx1
  clear hm ks hT
  have hS := Zw.refl w
  have hC := True.intro
  go_enter Tryz.func69, Tryz.ntmps69
  go_upto_region 5 with fail
  have bR := (Box.new w #[.int .u8 0, .slice none 0 0, .string ⟨#[]⟩] 85).alloc (.cells #[.int .u8 (k.toNat : Int), .slice none 0 0, .string S] 85)
  have bP := Box.new (w.alloc (.cells #[.int .u8 0, .slice none 0 0, .string ⟨#[]⟩] 85)) #[.int .u8 (k.toNat : Int), .slice none 0 0, .string S] 85
  rw [Oh] at bP
  have hE1 : Ex w ((w.alloc (.cells #[.int .u8 0, .slice none 0 0, .string ⟨#[]⟩] 85)).alloc (.cells #[.int .u8 (k.toNat : Int), .slice none 0 0, .string S] 85)) := ((Ex.refl w).alloc _).alloc _
  have hz1 : ((w.alloc (.cells #[.int .u8 0, .slice none 0 0, .string ⟨#[]⟩] 85)).alloc (.cells #[.int .u8 (k.toNat : Int), .slice none 0 0, .string S] 85)).heap.size = w.heap.size + 2 := by simp only [Oh]
  generalize (w.alloc (.cells #[.int .u8 0, .slice none 0 0, .string ⟨#[]⟩] 85)).alloc (.cells #[.int .u8 (k.toNat : Int), .slice none 0 0, .string S] 85) = W1 at *
  clear hC hS hk0
  have hs1 : (1 : Int) ≤ (S.size : Int) := by omega
  clear hsz hl hlt
  go_wp2_with fail
  refine (KS.out _ (HM.out.ex hE1)).mono ?_
  rintro e W2 ⟨g, gc, cur, rfl, hg, bG, HG, hx⟩
  replace bR := bR.ex hx
  replace bP := bP.ex hx
  have hE2 := hE1.trans hx
  have hz2 := hx.size
  clear hx hE1 KS
  go_wp2_with fail
  have hO0 : Xn W2 (w.heap.size + 2) none 0 [] := ⟨by simp, .inl ⟨rfl, rfl⟩⟩
  go_loopw [25, 6, 7, 8] (fun i f n o wr => ∃ (j : Nat) (A : Option Addr) (cap : Nat) (ns : List Int), i = .int .i64 j ∧ j ≤ (cds t).length ∧ Hid (Yu Zh ((cds t).take j) = some ns) ∧ Box wr (w.heap.size + 1) 85 #[.int .u8 (k.toNat : Int), .slice A ns.length cap, .string S] ∧
    Box wr w.heap.size 85 #[.int .u8 0, .slice none 0 0, .string ⟨#[]⟩] ∧ Box wr g 9 cur ∧ Hid (Xn wr (w.heap.size + 2) A cap ns) ∧ Hid (Ex w wr)) (fun i _ _ _ _ => (cds t).length + 1 - (intOf i).toNat)
  case atStart => exact ⟨0, none, 0, [], rfl, by omega, Oi rfl, bP, bR, bG, Oi hO0, Oi hE2⟩
  case round =>
   clear bP bR bG hO0 hE2 hz2
   obtain ⟨j, A, cap, ns, rfl, hj, HN, bP, bR, bG, HO, HE⟩ := hrel
   have hnl : ns.length ≤ 1048576 := by
    have h1 := Xz HN.out
    have h2 := List.length_take_le j (cds t)
    have h3 := HCL.out
    omega
   by_cases hlt : j < (cds t).length
   ·have hcell := HG.out j hlt
    have hmem : (cds t)[j] ∈ cds t := List.getElem_mem hlt
    have hxl := HW.out _ hmem
    have HMs : Hid (Yu Zh ((cds t).take (j + 1)) = Yu Zh ((cds t).take j ++ [(cds t)[j]])) := Oi (by rw [Yk hlt])
    generalize (cds t)[j] = x at *
    have kp := fun w hm => Sz x hxl w hm
    have hlI : (j : Int) < ((cds t).length : Int) := by omega
    have hw5 : IntKind.i64.wrap ((j : Int) + 1) = (j : Int) + 1 := Oc _ (by have := HCL.out; omega)
    obtain ⟨X, HX⟩ : ∃ X, Hid (X = Bs x) := ⟨_, Oi rfl⟩
    rw [← HX.out] at hcell kp
    have KP := Oi kp
    have HMem := Oi hmem
    have cG := bG.cell
    have zG := bG.lt
    clear kp hmem hxl
    go_wp2_with fail
    refine (KP.out _ (HM.out.ex HE.out)).mono ?_
    rintro e w2 ⟨n, ok, rfl, hx, hn⟩
    have HNn := Oi hn
    replace bP := bP.ex hx
    replace bR := bR.ex hx
    replace bG := bG.ex hx
    have HE2 := Oi (HE.out.trans hx)
    have HO2 := Oi (HO.out.ex hx)
    clear hx hn cG zG KP hcell
    have cP := bP.cell
    have fP := bP.frozen
    have zP := bP.lt
    have cR := bR.cell
    have fR := bR.frozen
    have zR := bR.lt
    rcases ok with _ | _
    ·have HNo : Hid (Zo (k :: t) = none) := Oi (Wg (Vl HNn.out HMem.out))
     go_wp2
     refine Od ?_ rfl (.inr ⟨k.toNat, A, ns.length, cap, S, HNo.out, rfl, ?_⟩)
     ·simp [results, Tryz.results69, go_sem, cP, cR]
     ·have hE := HE2.out
      repeat' (with_reducible first | exact hE | refine Ex.setCell ?_ (by simp <;> omega) _)
    ·have hs2 := HE2.out.size
     go_wp2_with (at_builtin; refine Xs rfl _ _ w2 rfl (w.heap.size + 2) A cap ns n rfl HO2.out rfl hnl (by omega) ?_)
     intro A' cap' w' hown' hk'
     have HE3 := Oi (hk'.ex w HE2.out (by omega))
     replace bP := hk'.box _ _ _ bP (by decide)
     replace bR := hk'.box _ _ _ bR (by decide)
     replace bG := hk'.box _ _ _ bG (by decide)
     have HO3 := Oi hown'
     have cP := bP.cell
     have fP := bP.frozen
     have zP := bP.lt
     clear hown' hk' HO2 HE2 cR fR zR
     have HN3 : Hid (Yu Zh ((cds t).take (j + 1)) = some (ns ++ [n])) := Oi (by rw [HMs.out]; exact Xu HNn.out HN.out)
     clear HNn HMs
     go_wp2
     have bP3 : Box (w'.setCell ⟨w.heap.size + 1, 1, none⟩ (.slice A' (ns.length + 1) cap')) (w.heap.size + 1) 85 #[.int .u8 (k.toNat : Int), .slice A' (ns ++ [n]).length cap', .string S] := by
      have h := bP.set_ 1 (.slice A' (ns.length + 1) cap')
      simpa using h
     have bR3 := bR.far (p := ⟨w.heap.size + 1, 1, none⟩) (by simp) (.slice A' (ns.length + 1) cap')
     have bG3 := bG.far (p := ⟨w.heap.size + 1, 1, none⟩) (by simp; omega) (.slice A' (ns.length + 1) cap')
     have HO4 := Oi (HO3.out.setBelow (p := ⟨w.heap.size + 1, 1, none⟩) (by simp) (.slice A' (ns.length + 1) cap'))
     have HE4 := Oi (HE3.out.setCell (p := ⟨w.heap.size + 1, 1, none⟩) (by simp) (.slice A' (ns.length + 1) cap'))
     go_roundw
     case rel => exact ⟨j + 1, A', cap', ns ++ [n], by go_num, by omega, HN3, bP3, bR3, bG3, HO4, HE4⟩
     case measure => simp [intOf] <;> omega
   ·
    have hk97 := HK97.out
    obtain rfl : j = (cds t).length := by omega
    have hlI : ¬ ((cds t).length : Int) < ((cds t).length : Int) := by omega
    have HNN : Hid (Yu Zh (cds t) = some ns) := Oi (by have := HN.out; rwa [List.take_length] at this)
    clear HN HG bG hj hnl HM HW HX1
    clear hlt
    go_upto_region 13 with fail
    clear hlI
    have ek : ((k.toNat : Nat) : Int) = C := by rw [hk97]; exact hC.out.symm
    rw [ek] at bP
    have EK := Oi ek
    clear ek
    by_cases hn : ns.length = 2
    ·obtain ⟨p, q, rfl⟩ := list2 hn
     clear hn
     obtain ⟨ga, ca, rfl, hga, bA, hca⟩ := Own.box HO.out (by simp)
     clear HO
     simp only [List.length_cons, List.length_nil, Nat.reduceAdd] at bP
     have d0 : ca[0]? = some (.int .i64 p) := (hca 0 (by simp)).trans rfl
     have d1 : ca[1]? = some (.int .i64 q) := (hca 1 (by simp)).trans rfl
     have HCA : Hid (∀ j, j < [p, q].length → ca[j]? = some (.int .i64 ([p, q].getD j 0))) := Oi fun j hj => by
      simp only [List.length_cons, List.length_nil, Nat.reduceAdd] at hj
      obtain rfl | rfl : j = 0 ∨ j = 1 := by omega
      ·exact d0
      ·exact d1
     clear hca
     have kd := fun w => Wh p q w
     obtain ⟨c1, c2, c3, e1, e2, e3, tl, hdv⟩ := dirv_any p q
     rw [hdv] at kd
     clear hdv
     rcases hw1 : Yo q 1 100 with _ | _
     ·have HP : Hid (Zo (k :: t) = none) := Oi (by rw [Zi HNN.out, hk97]; simp [Yv, hw1])
      have kw1 := fun w => Yz q 1 100 w
      rw [hw1] at kw1
      clear hw1
      have KW1 := Oi kw1
      clear kw1
      clear HNN
      clear hk97
      have KD := Oi kd
      clear kd
      have hS : Zw w wr _ := Zw.put (Zw.put (⟨HE.out, trivial⟩ : Zw w wr []) bR) bP
      replace hS := Zw.put hS bA
      have hC := hS.reads
      simp only [Zz, Zy] at hC
      have hE := hS.ex
      go_upto_region 18 with fail
      clear hC hE
      have hS0 := hS
      refine Zm (St := Ex) (B := fun _ w' => InE _ _ w') 13 2 1 _ 27 (fun i => match i with | 0 => 10 | _ => 11) (fun i => match i with | 0 => 63 | _ => 64) (fun i => match i with | 0 => #[.int .i64 0, .int .i64 0, .int .i64 0] | _ => #[.int .i64 0, .int .i64 0, .int .i64 0]) (fun i => match i with | 0 => #[.int .i64 c1, .int .i64 c2, .int .i64 c3] | _ => #[.int .i64 e1, .int .i64 e2, .int .i64 e3]) false (by kernel_rfl) (by kernel_rfl) (InE.drew (InE.start hS0)) (by intro x y h1 h2 h3; revert h3; match x, y, h1, h2 with | 0, 0, _, _ => decide | 0, 1, _, _ => decide | 1, 0, _, _ => decide | 1, 1, _, _ => decide) (by intro x y h1 h2; match x, y, h1, h2 with | 0, 0, _, _ => decide | 0, 1, _, _ => decide | 1, 0, _, _ => decide | 1, 1, _, _ => decide) (fun _ _ h g cs _ hb => hb.ex h) (fun _ _ cs h => h.alloc _) (fun _ _ h => h.size) ?_
      iterate 8 (apply Zx; (· rfl); (· intro b wb hB Q1 hQ1; have hS := hB.sees; have hC := hS.reads; simp only [Zz, Zy] at hC; go_wp2_with fail; exact hQ1 _ (Ex.refl _) hB); (· exact ⟨_, rfl⟩))
      (apply Zx; (· rfl); (· intro b wb hB Q1 hQ1; go_wp2_with (go_at_call 95; (with_reducible refine (KD.out _).mono ?_); rintro e wn ⟨rfl, hx⟩); exact hQ1 _ hx (hB.go hx)); (· exact ⟨_, rfl⟩))
      iterate 4 (apply Zx; (· rfl); (· intro b wb hB Q1 hQ1; go_wp2_with fail; exact hQ1 _ (Ex.refl _) hB); (· exact ⟨_, rfl⟩))
      refine Zv ?_
      refine ⟨fun i hi => ?_, fun i hi => ?_, fun i hi => ?_, fun gg wz hz hbx hne => ?_⟩
      ·obtain rfl | rfl : i = 0 ∨ i = 1 := by omega
       all_goals exact ⟨_, rfl, Yt⟩
      ·obtain rfl | rfl : i = 0 ∨ i = 1 := by omega
       all_goals exact ⟨_, rfl, Zf Yn rfl (by kernel_rfl) (fun _ _ _ hg h => h.setRow hg _)⟩
      ·obtain rfl | rfl : i = 0 ∨ i = 1 := by omega
       ·exact (show (10 : Nat) < 105 by decide)
       ·exact (show (11 : Nat) < 105 by decide)
      obtain ⟨hg0, hb0⟩ := hbx 0 (by omega)
      obtain ⟨hg1, hb1⟩ := hbx 1 (by omega)
      replace hS := InE.join hS0 hz
      replace hS := Zw.put hS hb0
      replace hS := Zw.put hS hb1
      simp only [frN, Act.put, Og, Of, Oe, Nat.reduceAdd, List.drop_succ_cons, List.drop_zero]
      generalize gg 0 = g0 at *
      generalize gg 1 = g1 at *
      clear hbx hz hS0 hne
      replace hS := hS.tail.tail
      clear hb0 hb1 hg0 hg1
      have hC := hS.reads
      simp only [Zz, Zy] at hC
      have hE := hS.ex
      have hbA := hS.boxes.1
      have hl1 := hS.boxes.2.1.lt
      go_upto_region 27 with fail
      clear hC hE hbA hl1
      refine Yw (St := fun _ _ => True) false (B := fun b w2 => Zw w w2 [(ga, 3, ca), (w.heap.size + 1, 85, #[.int .u8 C, .slice (some ⟨ga, 0, none⟩) 2 cap, .string S]), (w.heap.size, 85, if b then #[.int .u8 C, .slice (some ⟨ga, 0, none⟩) 2 cap, .string S] else #[.int .u8 0, .slice none 0 0, .string ⟨#[]⟩])]) (by kernel_rfl) (by kernel_rfl) (hS.drewW) ?_
      iterate 5 (apply Zx; (· rfl); (· intro b wb hB Q1 hQ1; have hS := hB; have hC := hS.reads; simp only [Zz, Zy] at hC; go_wp2_with fail; exact hQ1 _ trivial hB); (· exact ⟨_, rfl⟩))
      (apply Zx; (· rfl); (· intro b wb hB Q1 hQ1; go_wp2_with (go_at_call 79; (with_reducible refine (KW1.out _).mono ?_); rintro e wn ⟨rfl, rfl⟩); exact hQ1 _ trivial hB); (· exact ⟨_, rfl⟩))
      (apply Zx; (· rfl); (· intro b wb hB Q1 hQ1; go_wp2_with fail; exact hQ1 _ trivial hB); (· exact ⟨_, rfl⟩))
      refine Zr (by rfl) (by simp only [Act.put, Og, Of, Oe]; rfl) ?_
      refine Zr (by rfl) (by simp only [Act.put, Og, Of, Oe]; rfl) ?_
      refine Zr (by rfl) (by simp only [Act.put, Og, Of, Oe]; rfl) ?_
      refine Zr (by rfl) (by simp only [Act.put, Og, Of, Oe]; rfl) ?_
      refine Zr (by rfl) (by simp only [Act.put, Og, Of, Oe]; rfl) ?_
      refine Zr (by rfl) (by simp only [Act.put, Og, Of, Oe]; rfl) ?_
      refine Zr (by rfl) (by simp only [Act.put, Og, Of, Oe]; rfl) ?_
      refine Zr (by rfl) (by simp only [Act.put, Og, Of, Oe]; rfl) ?_
      refine Zr (by rfl) (by simp only [Act.put, Og, Of, Oe]; rfl) ?_
      (apply Zx; (· rfl); (· intro b wb hB Q1 hQ1; go_wp2_with fail; exact hQ1 _ trivial hB); (· exact ⟨_, rfl⟩))
      apply Zs (d := true)
      ·rfl
      ·intro b wb hB Q1 hQ1
       have hB2 := Zw.ret3 (by omega) (by omega) hB
       have hS := hB
       have hC := hS.reads
       simp only [Zz, Zy] at hC
       rcases b with _ | _
       ·simp only [Bool.false_eq_true, if_false] at hC
        go_wp2_with fail
        exact hQ1 _ trivial hB2
       ·simp only [if_true] at hC
        go_wp2_with fail
        exact hQ1 _ trivial hB2
      ·exact ⟨undef, rfl⟩
      (apply Zx; (· rfl); (· intro b wb hB Q1 hQ1; go_wp2_with fail; exact hQ1 _ trivial hB); (· exact ⟨_, rfl⟩))
      refine Zv ?_
      intro wy hy
      simp only [Bool.or_true, Bool.or_false, Bool.false_or, if_true] at hy
      have hC := hy.reads
      simp only [Zz, Zy] at hC
      have hE := hy.ex
      have hbA := hy.boxes.1
      have hl1 := hy.boxes.2.1.lt
      go_wp2_with fail
      refine Od ?_ rfl (.inr ⟨(k.toNat : Int), (some ⟨ga, 0, none⟩), 2, cap, S, HP.out, rfl, ?_⟩)
      ·simp [results, Tryz.results69, go_sem, hC, EK.out]
      ·repeat' (with_reducible first | exact hE | refine Ex.setCell ?_ (by simp <;> omega) _)
     ·rcases hw2 : Yo p 0 q with _ | _
      ·have HP : Hid (Zo (k :: t) = none) := Oi (by rw [Zi HNN.out, hk97]; simp [Yv, hw1, hw2])
       have kw1 := fun w => Yz q 1 100 w
       rw [hw1] at kw1
       have kw2 := fun w => Yz p 0 q w
       rw [hw2] at kw2
       clear hw1 hw2
       have KW1 := Oi kw1
       have KW2 := Oi kw2
       clear kw1 kw2
       clear HNN
       clear hk97
       have KD := Oi kd
       clear kd
       have hS : Zw w wr _ := Zw.put (Zw.put (⟨HE.out, trivial⟩ : Zw w wr []) bR) bP
       replace hS := Zw.put hS bA
       have hC := hS.reads
       simp only [Zz, Zy] at hC
       have hE := hS.ex
       go_upto_region 18 with fail
       clear hC hE
       have hS0 := hS
       refine Zm (St := Ex) (B := fun _ w' => InE _ _ w') 13 2 1 _ 27 (fun i => match i with | 0 => 10 | _ => 11) (fun i => match i with | 0 => 63 | _ => 64) (fun i => match i with | 0 => #[.int .i64 0, .int .i64 0, .int .i64 0] | _ => #[.int .i64 0, .int .i64 0, .int .i64 0]) (fun i => match i with | 0 => #[.int .i64 c1, .int .i64 c2, .int .i64 c3] | _ => #[.int .i64 e1, .int .i64 e2, .int .i64 e3]) false (by kernel_rfl) (by kernel_rfl) (InE.drew (InE.start hS0)) (by intro x y h1 h2 h3; revert h3; match x, y, h1, h2 with | 0, 0, _, _ => decide | 0, 1, _, _ => decide | 1, 0, _, _ => decide | 1, 1, _, _ => decide) (by intro x y h1 h2; match x, y, h1, h2 with | 0, 0, _, _ => decide | 0, 1, _, _ => decide | 1, 0, _, _ => decide | 1, 1, _, _ => decide) (fun _ _ h g cs _ hb => hb.ex h) (fun _ _ cs h => h.alloc _) (fun _ _ h => h.size) ?_
       iterate 8 (apply Zx; (· rfl); (· intro b wb hB Q1 hQ1; have hS := hB.sees; have hC := hS.reads; simp only [Zz, Zy] at hC; go_wp2_with fail; exact hQ1 _ (Ex.refl _) hB); (· exact ⟨_, rfl⟩))
       (apply Zx; (· rfl); (· intro b wb hB Q1 hQ1; go_wp2_with (go_at_call 95; (with_reducible refine (KD.out _).mono ?_); rintro e wn ⟨rfl, hx⟩); exact hQ1 _ hx (hB.go hx)); (· exact ⟨_, rfl⟩))
       iterate 4 (apply Zx; (· rfl); (· intro b wb hB Q1 hQ1; go_wp2_with fail; exact hQ1 _ (Ex.refl _) hB); (· exact ⟨_, rfl⟩))
       refine Zv ?_
       refine ⟨fun i hi => ?_, fun i hi => ?_, fun i hi => ?_, fun gg wz hz hbx hne => ?_⟩
       ·obtain rfl | rfl : i = 0 ∨ i = 1 := by omega
        all_goals exact ⟨_, rfl, Yt⟩
       ·obtain rfl | rfl : i = 0 ∨ i = 1 := by omega
        all_goals exact ⟨_, rfl, Zf Yn rfl (by kernel_rfl) (fun _ _ _ hg h => h.setRow hg _)⟩
       ·obtain rfl | rfl : i = 0 ∨ i = 1 := by omega
        ·exact (show (10 : Nat) < 105 by decide)
        ·exact (show (11 : Nat) < 105 by decide)
       obtain ⟨hg0, hb0⟩ := hbx 0 (by omega)
       obtain ⟨hg1, hb1⟩ := hbx 1 (by omega)
       replace hS := InE.join hS0 hz
       replace hS := Zw.put hS hb0
       replace hS := Zw.put hS hb1
       simp only [frN, Act.put, Og, Of, Oe, Nat.reduceAdd, List.drop_succ_cons, List.drop_zero]
       generalize gg 0 = g0 at *
       generalize gg 1 = g1 at *
       clear hbx hz hS0 hne
       replace hS := hS.tail.tail
       clear hb0 hb1 hg0 hg1
       have hC := hS.reads
       simp only [Zz, Zy] at hC
       have hE := hS.ex
       have hbA := hS.boxes.1
       have hl1 := hS.boxes.2.1.lt
       go_upto_region 27 with fail
       clear hC hE hbA hl1
       refine Yw (St := fun _ _ => True) false (B := fun b w2 => Zw w w2 [(ga, 3, ca), (w.heap.size + 1, 85, #[.int .u8 C, .slice (some ⟨ga, 0, none⟩) 2 cap, .string S]), (w.heap.size, 85, if b then #[.int .u8 C, .slice (some ⟨ga, 0, none⟩) 2 cap, .string S] else #[.int .u8 0, .slice none 0 0, .string ⟨#[]⟩])]) (by kernel_rfl) (by kernel_rfl) (hS.drewW) ?_
       iterate 5 (apply Zx; (· rfl); (· intro b wb hB Q1 hQ1; have hS := hB; have hC := hS.reads; simp only [Zz, Zy] at hC; go_wp2_with fail; exact hQ1 _ trivial hB); (· exact ⟨_, rfl⟩))
       (apply Zx; (· rfl); (· intro b wb hB Q1 hQ1; go_wp2_with (go_at_call 79; (with_reducible refine (KW1.out _).mono ?_); rintro e wn ⟨rfl, rfl⟩); exact hQ1 _ trivial hB); (· exact ⟨_, rfl⟩))
       iterate 9 (apply Zx; (· rfl); (· intro b wb hB Q1 hQ1; have hS := hB; have hC := hS.reads; simp only [Zz, Zy] at hC; go_wp2_with fail; exact hQ1 _ trivial hB); (· exact ⟨_, rfl⟩))
       (apply Zx; (· rfl); (· intro b wb hB Q1 hQ1; go_wp2_with (go_at_call 79; (with_reducible refine (KW2.out _).mono ?_); rintro e wn ⟨rfl, rfl⟩); exact hQ1 _ trivial hB); (· exact ⟨_, rfl⟩))
       (apply Zx; (· rfl); (· intro b wb hB Q1 hQ1; go_wp2_with fail; exact hQ1 _ trivial hB); (· exact ⟨_, rfl⟩))
       apply Zs (d := true)
       ·rfl
       ·intro b wb hB Q1 hQ1
        have hB2 := Zw.ret3 (by omega) (by omega) hB
        have hS := hB
        have hC := hS.reads
        simp only [Zz, Zy] at hC
        rcases b with _ | _
        ·simp only [Bool.false_eq_true, if_false] at hC
         go_wp2_with fail
         exact hQ1 _ trivial hB2
        ·simp only [if_true] at hC
         go_wp2_with fail
         exact hQ1 _ trivial hB2
       ·exact ⟨undef, rfl⟩
       (apply Zx; (· rfl); (· intro b wb hB Q1 hQ1; go_wp2_with fail; exact hQ1 _ trivial hB); (· exact ⟨_, rfl⟩))
       refine Zv ?_
       intro wy hy
       simp only [Bool.or_true, Bool.or_false, Bool.false_or, if_true] at hy
       have hC := hy.reads
       simp only [Zz, Zy] at hC
       have hE := hy.ex
       have hbA := hy.boxes.1
       have hl1 := hy.boxes.2.1.lt
       go_wp2_with fail
       refine Od ?_ rfl (.inr ⟨(k.toNat : Int), (some ⟨ga, 0, none⟩), 2, cap, S, HP.out, rfl, ?_⟩)
       ·simp [results, Tryz.results69, go_sem, hC, EK.out]
       ·repeat' (with_reducible first | exact hE | refine Ex.setCell ?_ (by simp <;> omega) _)
      ·have HP : Hid (Zo (k :: t) = some (k, [p, q])) := Oi (by rw [Zi HNN.out, hk97]; simp [Yv, hw1, hw2])
       have kw1 := fun w => Yz q 1 100 w
       rw [hw1] at kw1
       have kw2 := fun w => Yz p 0 q w
       rw [hw2] at kw2
       clear hw1 hw2
       have KW1 := Oi kw1
       have KW2 := Oi kw2
       clear kw1 kw2
       clear HNN
       clear hk97
       have KD := Oi kd
       clear kd
       have hS : Zw w wr _ := Zw.put (Zw.put (⟨HE.out, trivial⟩ : Zw w wr []) bR) bP
       replace hS := Zw.put hS bA
       have hC := hS.reads
       simp only [Zz, Zy] at hC
       have hE := hS.ex
       go_upto_region 18 with fail
       clear hC hE
       have hS0 := hS
       refine Zm (St := Ex) (B := fun _ w' => InE _ _ w') 13 2 1 _ 27 (fun i => match i with | 0 => 10 | _ => 11) (fun i => match i with | 0 => 63 | _ => 64) (fun i => match i with | 0 => #[.int .i64 0, .int .i64 0, .int .i64 0] | _ => #[.int .i64 0, .int .i64 0, .int .i64 0]) (fun i => match i with | 0 => #[.int .i64 c1, .int .i64 c2, .int .i64 c3] | _ => #[.int .i64 e1, .int .i64 e2, .int .i64 e3]) false (by kernel_rfl) (by kernel_rfl) (InE.drew (InE.start hS0)) (by intro x y h1 h2 h3; revert h3; match x, y, h1, h2 with | 0, 0, _, _ => decide | 0, 1, _, _ => decide | 1, 0, _, _ => decide | 1, 1, _, _ => decide) (by intro x y h1 h2; match x, y, h1, h2 with | 0, 0, _, _ => decide | 0, 1, _, _ => decide | 1, 0, _, _ => decide | 1, 1, _, _ => decide) (fun _ _ h g cs _ hb => hb.ex h) (fun _ _ cs h => h.alloc _) (fun _ _ h => h.size) ?_
       iterate 8 (apply Zx; (· rfl); (· intro b wb hB Q1 hQ1; have hS := hB.sees; have hC := hS.reads; simp only [Zz, Zy] at hC; go_wp2_with fail; exact hQ1 _ (Ex.refl _) hB); (· exact ⟨_, rfl⟩))
       (apply Zx; (· rfl); (· intro b wb hB Q1 hQ1; go_wp2_with (go_at_call 95; (with_reducible refine (KD.out _).mono ?_); rintro e wn ⟨rfl, hx⟩); exact hQ1 _ hx (hB.go hx)); (· exact ⟨_, rfl⟩))
       iterate 4 (apply Zx; (· rfl); (· intro b wb hB Q1 hQ1; go_wp2_with fail; exact hQ1 _ (Ex.refl _) hB); (· exact ⟨_, rfl⟩))
       refine Zv ?_
       refine ⟨fun i hi => ?_, fun i hi => ?_, fun i hi => ?_, fun gg wz hz hbx hne => ?_⟩
       ·obtain rfl | rfl : i = 0 ∨ i = 1 := by omega
        all_goals exact ⟨_, rfl, Yt⟩
       ·obtain rfl | rfl : i = 0 ∨ i = 1 := by omega
        all_goals exact ⟨_, rfl, Zf Yn rfl (by kernel_rfl) (fun _ _ _ hg h => h.setRow hg _)⟩
       ·obtain rfl | rfl : i = 0 ∨ i = 1 := by omega
        ·exact (show (10 : Nat) < 105 by decide)
        ·exact (show (11 : Nat) < 105 by decide)
       obtain ⟨hg0, hb0⟩ := hbx 0 (by omega)
       obtain ⟨hg1, hb1⟩ := hbx 1 (by omega)
       replace hS := InE.join hS0 hz
       replace hS := Zw.put hS hb0
       replace hS := Zw.put hS hb1
       simp only [frN, Act.put, Og, Of, Oe, Nat.reduceAdd, List.drop_succ_cons, List.drop_zero]
       generalize gg 0 = g0 at *
       generalize gg 1 = g1 at *
       clear hbx hz hS0 hne
       replace hS := hS.tail.tail
       clear hb0 hb1 hg0 hg1
       have hC := hS.reads
       simp only [Zz, Zy] at hC
       have hE := hS.ex
       have hbA := hS.boxes.1
       have hl1 := hS.boxes.2.1.lt
       go_upto_region 27 with fail
       clear hC hE hbA hl1
       refine Yw (St := fun _ _ => True) false (B := fun b w2 => Zw w w2 [(ga, 3, ca), (w.heap.size + 1, 85, #[.int .u8 C, .slice (some ⟨ga, 0, none⟩) 2 cap, .string S]), (w.heap.size, 85, if b then #[.int .u8 C, .slice (some ⟨ga, 0, none⟩) 2 cap, .string S] else #[.int .u8 0, .slice none 0 0, .string ⟨#[]⟩])]) (by kernel_rfl) (by kernel_rfl) (hS.drewW) ?_
       iterate 5 (apply Zx; (· rfl); (· intro b wb hB Q1 hQ1; have hS := hB; have hC := hS.reads; simp only [Zz, Zy] at hC; go_wp2_with fail; exact hQ1 _ trivial hB); (· exact ⟨_, rfl⟩))
       (apply Zx; (· rfl); (· intro b wb hB Q1 hQ1; go_wp2_with (go_at_call 79; (with_reducible refine (KW1.out _).mono ?_); rintro e wn ⟨rfl, rfl⟩); exact hQ1 _ trivial hB); (· exact ⟨_, rfl⟩))
       iterate 9 (apply Zx; (· rfl); (· intro b wb hB Q1 hQ1; have hS := hB; have hC := hS.reads; simp only [Zz, Zy] at hC; go_wp2_with fail; exact hQ1 _ trivial hB); (· exact ⟨_, rfl⟩))
       (apply Zx; (· rfl); (· intro b wb hB Q1 hQ1; go_wp2_with (go_at_call 79; (with_reducible refine (KW2.out _).mono ?_); rintro e wn ⟨rfl, rfl⟩); exact hQ1 _ trivial hB); (· exact ⟨_, rfl⟩))
       (apply Zx; (· rfl); (· intro b wb hB Q1 hQ1; go_wp2_with fail; exact hQ1 _ trivial hB); (· exact ⟨_, rfl⟩))
       apply Zs (d := true)
       ·rfl
       ·intro b wb hB Q1 hQ1
        have hB2 := Zw.ret3 (by omega) (by omega) hB
        have hS := hB
        have hC := hS.reads
        simp only [Zz, Zy] at hC
        rcases b with _ | _
        ·simp only [Bool.false_eq_true, if_false] at hC
         go_wp2_with fail
         exact hQ1 _ trivial hB2
        ·simp only [if_true] at hC
         go_wp2_with fail
         exact hQ1 _ trivial hB2
       ·exact ⟨undef, rfl⟩
       (apply Zx; (· rfl); (· intro b wb hB Q1 hQ1; go_wp2_with fail; exact hQ1 _ trivial hB); (· exact ⟨_, rfl⟩))
       refine Zv ?_
       intro wy hy
       simp only [Bool.or_true, Bool.or_false, Bool.false_or, if_true] at hy
       have hC := hy.reads
       simp only [Zz, Zy] at hC
       have hE := hy.ex
       have hbA := hy.boxes.1
       have hl1 := hy.boxes.2.1.lt
       go_wp2_with fail
       refine Od ?_ rfl (.inl ⟨⟨k, ga, cap, ca, [p, q], S⟩, HP.out, rfl, ⟨?_, ?_⟩, ?_⟩)
       ·simp [results, Tryz.results69, go_sem, hC, Pc.ci, Pc.cs, EK.out]
       ·repeat' (with_reducible first | exact hbA | refine Box.far ?_ (by simp <;> omega) _)
       ·exact HCA.out
       ·repeat' (with_reducible first | exact hE | refine Ex.setCell ?_ (by simp <;> omega) _)
    ·have hnI : ((ns.length : Int) == 2) = false := by rw [beq_eq_false_iff_ne]; omega
     have hnI2 : ¬ (ns.length : Int) = 2 := by omega
     have HP : Hid (Zo (k :: t) = none) := Oi (by rw [Zi HNN.out, hk97]; simp [Yv, hn])
     clear hn HNN HO
     clear hk97
     have hS : Zw w wr _ := Zw.put (Zw.put (⟨HE.out, trivial⟩ : Zw w wr []) bR) bP
     have hC := hS.reads
     simp only [Zz, Zy] at hC
     have hE := hS.ex
     go_wp2_with fail
     refine Od ?_ rfl (.inr ⟨(k.toNat : Int), A, ns.length, cap, S, HP.out, rfl, ?_⟩)
     ·simp [results, Tryz.results69, go_sem, hC, EK.out]
     ·repeat' (with_reducible first | exact hE | refine Ex.setCell ?_ (by simp <;> omega) _)
end
section
open Go.RowKit

attribute [local go_sem] Zq Zp
theorem sL7One_rf (c : UInt8) (hc : c = 114 ∨ c = 102) (k : UInt8) (t : List UInt8) (ht0 : t ≠ []) (hk114 : k = c) (hl : (k :: t).length ≤ 1048576) (w : World) : Calls Tryz.prog 71 #[.string (Bs (k :: t))] w (Sn w (k :: t)) := by
 obtain ⟨C, hC⟩ : ∃ C : Int, Hid (C = ((c.toNat : Nat) : Int)) := ⟨_, Oi rfl⟩
 have q119 : (C == 119) = false := by rw [hC.out]; rcases hc with rfl | rfl <;> rfl
 have q97 : (C == 97) = false := by rw [hC.out]; rcases hc with rfl | rfl <;> rfl
 have q100 : (C == 100) = false := by rw [hC.out]; rcases hc with rfl | rfl <;> rfl
 rcases hc with rfl | rfl
 all_goals
  have q1 := congrArg (fun x : Int => x == 114) hC.out
  have q2 := congrArg (fun x : Int => x == 102) hC.out
  simp only [show (((114 : UInt8).toNat : Nat) : Int) = 114 from rfl, show (((102 : UInt8).toNat : Nat) : Int) = 102 from rfl, Int.reduceBEq] at q1 q2
  have HK114 := Oi hk114
  clear hk114
  have hlt : t.length ≤ 1048576 := by simp at hl; omega
  have hx1 := Uw k t
  obtain ⟨S, HS⟩ : ∃ S, Hid (S = Bs (k :: t)) := ⟨_, Oi rfl⟩
  have hsz : S.size = t.length + 1 := by rw [HS.out]; rfl
  obtain ⟨hs0, hk0⟩ : ∃ hs : 0 < S.size, S[0]'hs = k := by
   obtain ⟨h1, h2⟩ := Th HS.out (i := 0) (by simp)
   exact ⟨h1, h2⟩
  rw [← HS.out] at hx1 ⊢
  have ks := fun w => cutCB t hlt w
  have HW : Hid (∀ x ∈ cds t, x.length ≤ 1048576) := Oi fun x hx => by
   have h1 := Wy t x hx
   omega
  have HCL : Hid ((cds t).length ≤ 1048576) := Oi (by have h1 := Uv t; simp only [List.length_cons] at hl; omega)
  have hs2 : ¬ (S.size : Int) < 2 := by
   have : t.length ≠ 0 := fun e => ht0 (List.length_eq_zero_iff.1 e)
   omega
  generalize hT : Bs t = T at hx1 ks
  have KS := Oi ks
  have HX1 := Oi hx1
  clear ks hT ht0
  have hS := Zw.refl w
  have hC := True.intro
  go_enter Tryz.func71, Tryz.ntmps71
  go_upto_region 4 with fail
  have bR := ((Box.new w #[.int .u8 0, .slice none 0 0] 115).alloc (.cells #[] 3)).alloc (.cells #[.int .u8 (k.toNat : Int), .slice (some ⟨w.heap.size + 1, 0, none⟩) 0 0] 115)
  have bP := Box.new ((w.alloc (.cells #[.int .u8 0, .slice none 0 0] 115)).alloc (.cells #[] 3)) #[.int .u8 (k.toNat : Int), .slice (some ⟨w.heap.size + 1, 0, none⟩) 0 0] 115
  have hO0 := (Sf (w.alloc (.cells #[.int .u8 0, .slice none 0 0] 115)) (w.heap.size + 1) (by simp)).alloc (.cells #[.int .u8 (k.toNat : Int), .slice (some ⟨w.heap.size + 1, 0, none⟩) 0 0] 115)
  simp only [Oh] at bP hO0
  have hE1 : Ex w (((w.alloc (.cells #[.int .u8 0, .slice none 0 0] 115)).alloc (.cells #[] 3)).alloc (.cells #[.int .u8 (k.toNat : Int), .slice (some ⟨w.heap.size + 1, 0, none⟩) 0 0] 115)) := (((Ex.refl w).alloc _).alloc _).alloc _
  have hz1 : (((w.alloc (.cells #[.int .u8 0, .slice none 0 0] 115)).alloc (.cells #[] 3)).alloc (.cells #[.int .u8 (k.toNat : Int), .slice (some ⟨w.heap.size + 1, 0, none⟩) 0 0] 115)).heap.size = w.heap.size + 3 := by simp only [Oh]
  generalize ((w.alloc (.cells #[.int .u8 0, .slice none 0 0] 115)).alloc (.cells #[] 3)).alloc (.cells #[.int .u8 (k.toNat : Int), .slice (some ⟨w.heap.size + 1, 0, none⟩) 0 0] 115) = W1 at *
  clear hC hS hk0
  have hs1 : (1 : Int) ≤ (S.size : Int) := by omega
  clear hsz hl hlt
  go_wp2_with fail
  refine (KS.out _).mono ?_
  rintro e W2 ⟨g, gc, cur, rfl, hg, bG, HG, hx⟩
  replace bR := bR.ex hx
  replace bP := bP.ex hx
  have hO1 := hO0.ex hx
  have hE2 := hE1.trans hx
  have hz2 := hx.size
  clear hx hE1 KS hO0
  go_wp2_with fail
  go_loopw [6, 7, 8] (fun i n o wr => ∃ (j : Nat) (A : Option Addr) (cap : Nat) (ns : List Int), i = .int .i64 j ∧ j ≤ (cds t).length ∧ Hid (Yu Zh ((cds t).take j) = some ns) ∧ Box wr (w.heap.size + 2) 115 #[.int .u8 (k.toNat : Int), .slice A ns.length cap] ∧
    Box wr w.heap.size 115 #[.int .u8 0, .slice none 0 0] ∧ Box wr g 9 cur ∧ Hid (Xn wr (w.heap.size + 1) A cap ns) ∧ Hid (Ex w wr)) (fun i _ _ _ => (cds t).length + 1 - (intOf i).toNat)
  case atStart => exact ⟨0, some ⟨w.heap.size + 1, 0, none⟩, 0, [], rfl, by omega, Oi rfl, bP, bR, bG, Oi hO1, Oi hE2⟩
  case round =>
   clear bP bR bG hO1 hE2 hz2
   obtain ⟨j, A, cap, ns, rfl, hj, HN, bP, bR, bG, HO, HE⟩ := hrel
   have hnl : ns.length ≤ 1048576 := by
    have h1 := Xz HN.out
    have h2 := List.length_take_le j (cds t)
    have h3 := HCL.out
    omega
   by_cases hlt : j < (cds t).length
   ·have hcell := HG.out j hlt
    have hmem : (cds t)[j] ∈ cds t := List.getElem_mem hlt
    have hxl := HW.out _ hmem
    have HMs : Hid (Yu Zh ((cds t).take (j + 1)) = Yu Zh ((cds t).take j ++ [(cds t)[j]])) := Oi (by rw [Yk hlt])
    generalize (cds t)[j] = x at *
    have kp := fun w => Vu x hxl w
    have hlI : (j : Int) < ((cds t).length : Int) := by omega
    have hw5 : IntKind.i64.wrap ((j : Int) + 1) = (j : Int) + 1 := Oc _ (by have := HCL.out; omega)
    obtain ⟨X, HX⟩ : ∃ X, Hid (X = Bs x) := ⟨_, Oi rfl⟩
    rw [← HX.out] at hcell kp
    have KP := Oi kp
    have HMem := Oi hmem
    have cG := bG.cell
    have zG := bG.lt
    clear kp hmem hxl
    go_wp2_with fail
    refine (KP.out _).mono ?_
    rintro e w2 ⟨n, ok, rfl, hx, hn⟩
    have HNn := Oi hn
    replace bP := bP.ex hx
    replace bR := bR.ex hx
    replace bG := bG.ex hx
    have HE2 := Oi (HE.out.trans hx)
    have HO2 := Oi (HO.out.ex hx)
    clear hx hn cG zG KP hcell
    have cP := bP.cell
    have fP := bP.frozen
    have zP := bP.lt
    have cR := bR.cell
    have fR := bR.frozen
    have zR := bR.lt
    rcases ok with _ | _
    ·have HNo : Hid (Zo (k :: t) = none) := Oi (Vw HMem.out HNn.out)
     go_wp2
     refine Od ?_ rfl (.inr ⟨k.toNat, A, ns.length, cap, HNo.out, rfl, ?_⟩)
     ·simp [results, Tryz.results71, go_sem, cP, cR]
     ·have hE := HE2.out
      repeat' (with_reducible first | exact hE | refine Ex.setCell ?_ (by simp <;> omega) _)
    ·have hs2 := HE2.out.size
     go_wp2_with (at_builtin; refine Xs rfl _ _ w2 rfl (w.heap.size + 1) A cap ns n rfl HO2.out rfl hnl (by omega) ?_)
     intro A' cap' w' hown' hk'
     have HE3 := Oi (hk'.ex w HE2.out (by omega))
     replace bP := hk'.box _ _ _ bP (by decide)
     replace bR := hk'.box _ _ _ bR (by decide)
     replace bG := hk'.box _ _ _ bG (by decide)
     have HO3 := Oi hown'
     have cP := bP.cell
     have fP := bP.frozen
     have zP := bP.lt
     clear hown' hk' HO2 HE2 cR fR zR
     have HN3 : Hid (Yu Zh ((cds t).take (j + 1)) = some (ns ++ [n])) := Oi (by rw [HMs.out]; exact Xu HNn.out HN.out)
     clear HNn HMs
     go_wp2
     have bP3 : Box (w'.setCell ⟨w.heap.size + 2, 1, none⟩ (.slice A' (ns.length + 1) cap')) (w.heap.size + 2) 115 #[.int .u8 (k.toNat : Int), .slice A' (ns ++ [n]).length cap'] := by
      have h := bP.set_ 1 (.slice A' (ns.length + 1) cap')
      simpa using h
     have bR3 := bR.far (p := ⟨w.heap.size + 2, 1, none⟩) (by simp) (.slice A' (ns.length + 1) cap')
     have bG3 := bG.far (p := ⟨w.heap.size + 2, 1, none⟩) (by simp; omega) (.slice A' (ns.length + 1) cap')
     have HO4 : Hid (Xn _ (w.heap.size + 1) A' cap' (ns ++ [n])) := Oi (Own.setCell (p := ⟨w.heap.size + 2, 1, none⟩) HO3.out (fun g hg e => by subst e; exact Own.ne HO3.out bP (by decide) hg.symm) (.slice A' (ns.length + 1) cap'))
     have HE4 := Oi (HE3.out.setCell (p := ⟨w.heap.size + 2, 1, none⟩) (by simp) (.slice A' (ns.length + 1) cap'))
     go_roundw
     case rel => exact ⟨j + 1, A', cap', ns ++ [n], by go_num, by omega, HN3, bP3, bR3, bG3, HO4, HE4⟩
     case measure => simp [intOf] <;> omega
   ·
    have hk114 := HK114.out
    obtain rfl : j = (cds t).length := by omega
    have hlI : ¬ ((cds t).length : Int) < ((cds t).length : Int) := by omega
    have HNN : Hid (Yu Zh (cds t) = some ns) := Oi (by have := HN.out; rwa [List.take_length] at this)
    clear HN HG bG hj hnl HW HX1
    clear hlt
    go_upto_region 12 with fail
    clear hlI
    have ek : ((k.toNat : Nat) : Int) = C := by rw [hk114]; exact hC.out.symm
    rw [ek] at bP
    have EK := Oi ek
    clear ek
    by_cases hn : ns.length = 2
    ·obtain ⟨p, q, rfl⟩ := list2 hn
     clear hn
     obtain ⟨ga, ca, rfl, hga, bA, hca⟩ := Own.box HO.out (by simp)
     clear HO
     simp only [List.length_cons, List.length_nil, Nat.reduceAdd] at bP
     have d0 : ca[0]? = some (.int .i64 p) := (hca 0 (by simp)).trans rfl
     have d1 : ca[1]? = some (.int .i64 q) := (hca 1 (by simp)).trans rfl
     have HCA : Hid (∀ j, j < [p, q].length → ca[j]? = some (.int .i64 ([p, q].getD j 0))) := Oi fun j hj => by
      simp only [List.length_cons, List.length_nil, Nat.reduceAdd] at hj
      obtain rfl | rfl : j = 0 ∨ j = 1 := by omega
      ·exact d0
      ·exact d1
     clear hca
     have kd := fun w => Vx p q w
     rcases hd : Yi p q with _ | _
     ·simp only [Wn, hd, Bool.false_eq_true, if_false, Fr.v, Fr.none] at kd
      have HP : Hid (Zo (k :: t) = none) := Oi (by rw [Zi HNN.out, hk114]; simp [Yv, hd])
      clear HNN
      clear hk114
      clear hd
      have KD := Oi kd
      clear kd
      have hS : Zw w wr _ := Zw.put (Zw.put (⟨HE.out, trivial⟩ : Zw w wr []) bR) bP
      replace hS := Zw.put hS bA
      have hC := hS.reads
      simp only [Zz, Zy] at hC
      have hE := hS.ex
      go_upto_region 18 with fail
      clear hC hE
      have hS0 := hS
      refine Zm (St := Ex) (B := fun _ w' => InE _ _ w') 13 2 1 _ 27 (fun i => match i with | 0 => 10 | _ => 11) (fun i => match i with | 0 => 71 | _ => 72) (fun i => match i with | 0 => #[.int .i64 0, .int .i64 0, .int .i64 0] | _ => #[.int .i64 0, .int .i64 0, .int .i64 0]) (fun i => match i with | 0 => #[.int .i64 0, .int .i64 0, .int .i64 0] | _ => #[.int .i64 0, .int .i64 0, .int .i64 0]) false (by kernel_rfl) (by kernel_rfl) (InE.drew (InE.start hS0)) (by intro x y h1 h2 h3; revert h3; match x, y, h1, h2 with | 0, 0, _, _ => decide | 0, 1, _, _ => decide | 1, 0, _, _ => decide | 1, 1, _, _ => decide) (by intro x y h1 h2; match x, y, h1, h2 with | 0, 0, _, _ => decide | 0, 1, _, _ => decide | 1, 0, _, _ => decide | 1, 1, _, _ => decide) (fun _ _ h g cs _ hb => hb.ex h) (fun _ _ cs h => h.alloc _) (fun _ _ h => h.size) ?_
      iterate 8 (apply Zx; (· rfl); (· intro b wb hB Q1 hQ1; have hS := hB.sees; have hC := hS.reads; simp only [Zz, Zy] at hC; go_wp2_with fail; exact hQ1 _ (Ex.refl _) hB); (· exact ⟨_, rfl⟩))
      (apply Zx; (· rfl); (· intro b wb hB Q1 hQ1; go_wp2_with (go_at_call 105; (with_reducible refine (KD.out _).mono ?_); rintro e wn ⟨rfl, hx⟩); exact hQ1 _ hx (hB.go hx)); (· exact ⟨_, rfl⟩))
      iterate 4 (apply Zx; (· rfl); (· intro b wb hB Q1 hQ1; go_wp2_with fail; exact hQ1 _ (Ex.refl _) hB); (· exact ⟨_, rfl⟩))
      refine Zv ?_
      refine ⟨fun i hi => ?_, fun i hi => ?_, fun i hi => ?_, fun gg wz hz hbx hne => ?_⟩
      ·obtain rfl | rfl : i = 0 ∨ i = 1 := by omega
       all_goals exact ⟨_, rfl, Yt⟩
      ·obtain rfl | rfl : i = 0 ∨ i = 1 := by omega
       all_goals exact ⟨_, rfl, Zf Yn rfl (by kernel_rfl) (fun _ _ _ hg h => h.setRow hg _)⟩
      ·obtain rfl | rfl : i = 0 ∨ i = 1 := by omega
       ·exact (show (10 : Nat) < 128 by decide)
       ·exact (show (11 : Nat) < 128 by decide)
      obtain ⟨hg0, hb0⟩ := hbx 0 (by omega)
      obtain ⟨hg1, hb1⟩ := hbx 1 (by omega)
      replace hS := InE.join hS0 hz
      replace hS := Zw.put hS hb0
      replace hS := Zw.put hS hb1
      simp only [frN, Act.put, Og, Of, Oe, Nat.reduceAdd, List.drop_succ_cons, List.drop_zero]
      generalize gg 0 = g0 at *
      generalize gg 1 = g1 at *
      clear hbx hz hS0 hne
      replace hS := hS.tail.tail
      clear hb0 hb1 hg0 hg1
      have hC := hS.reads
      simp only [Zz, Zy] at hC
      have hE := hS.ex
      have hbA := hS.boxes.1
      have hl1 := hS.boxes.2.1.lt
      go_wp2_with fail
      refine Od ?_ rfl (.inr ⟨(k.toNat : Int), (some ⟨ga, 0, none⟩), 2, cap, HP.out, rfl, ?_⟩)
      ·simp [results, Tryz.results71, go_sem, hC, EK.out]
      ·repeat' (with_reducible first | exact hE | refine Ex.setCell ?_ (by simp <;> omega) _)
     ·simp only [Wn, hd, if_true, Fr.v] at kd
      generalize Xl p q = c at kd
      generalize Xk p q = e at kd
      obtain ⟨c1, c2, c3⟩ := c
      obtain ⟨e1, e2, e3⟩ := e
      simp only at kd
      have HP : Hid (Zo (k :: t) = some (k, [p, q])) := Oi (by rw [Zi HNN.out, hk114]; simp [Yv, hd])
      clear HNN
      clear hk114
      clear hd
      have KD := Oi kd
      clear kd
      have hS : Zw w wr _ := Zw.put (Zw.put (⟨HE.out, trivial⟩ : Zw w wr []) bR) bP
      replace hS := Zw.put hS bA
      have hC := hS.reads
      simp only [Zz, Zy] at hC
      have hE := hS.ex
      go_upto_region 18 with fail
      clear hC hE
      have hS0 := hS
      refine Zm (St := Ex) (B := fun _ w' => InE _ _ w') 13 2 1 _ 27 (fun i => match i with | 0 => 10 | _ => 11) (fun i => match i with | 0 => 71 | _ => 72) (fun i => match i with | 0 => #[.int .i64 0, .int .i64 0, .int .i64 0] | _ => #[.int .i64 0, .int .i64 0, .int .i64 0]) (fun i => match i with | 0 => #[.int .i64 c1, .int .i64 c2, .int .i64 c3] | _ => #[.int .i64 e1, .int .i64 e2, .int .i64 e3]) false (by kernel_rfl) (by kernel_rfl) (InE.drew (InE.start hS0)) (by intro x y h1 h2 h3; revert h3; match x, y, h1, h2 with | 0, 0, _, _ => decide | 0, 1, _, _ => decide | 1, 0, _, _ => decide | 1, 1, _, _ => decide) (by intro x y h1 h2; match x, y, h1, h2 with | 0, 0, _, _ => decide | 0, 1, _, _ => decide | 1, 0, _, _ => decide | 1, 1, _, _ => decide) (fun _ _ h g cs _ hb => hb.ex h) (fun _ _ cs h => h.alloc _) (fun _ _ h => h.size) ?_
      iterate 8 (apply Zx; (· rfl); (· intro b wb hB Q1 hQ1; have hS := hB.sees; have hC := hS.reads; simp only [Zz, Zy] at hC; go_wp2_with fail; exact hQ1 _ (Ex.refl _) hB); (· exact ⟨_, rfl⟩))
      (apply Zx; (· rfl); (· intro b wb hB Q1 hQ1; go_wp2_with (go_at_call 105; (with_reducible refine (KD.out _).mono ?_); rintro e wn ⟨rfl, hx⟩); exact hQ1 _ hx (hB.go hx)); (· exact ⟨_, rfl⟩))
      iterate 4 (apply Zx; (· rfl); (· intro b wb hB Q1 hQ1; go_wp2_with fail; exact hQ1 _ (Ex.refl _) hB); (· exact ⟨_, rfl⟩))
      refine Zv ?_
      refine ⟨fun i hi => ?_, fun i hi => ?_, fun i hi => ?_, fun gg wz hz hbx hne => ?_⟩
      ·obtain rfl | rfl : i = 0 ∨ i = 1 := by omega
       all_goals exact ⟨_, rfl, Yt⟩
      ·obtain rfl | rfl : i = 0 ∨ i = 1 := by omega
       all_goals exact ⟨_, rfl, Zf Yn rfl (by kernel_rfl) (fun _ _ _ hg h => h.setRow hg _)⟩
      ·obtain rfl | rfl : i = 0 ∨ i = 1 := by omega
       ·exact (show (10 : Nat) < 128 by decide)
       ·exact (show (11 : Nat) < 128 by decide)
      obtain ⟨hg0, hb0⟩ := hbx 0 (by omega)
      obtain ⟨hg1, hb1⟩ := hbx 1 (by omega)
      replace hS := InE.join hS0 hz
      replace hS := Zw.put hS hb0
      replace hS := Zw.put hS hb1
      simp only [frN, Act.put, Og, Of, Oe, Nat.reduceAdd, List.drop_succ_cons, List.drop_zero]
      generalize gg 0 = g0 at *
      generalize gg 1 = g1 at *
      clear hbx hz hS0 hne
      replace hS := hS.tail.tail
      clear hb0 hb1 hg0 hg1
      have hC := hS.reads
      simp only [Zz, Zy] at hC
      have hE := hS.ex
      have hbA := hS.boxes.1
      have hl1 := hS.boxes.2.1.lt
      go_wp2_with fail
      refine Od ?_ rfl (.inl ⟨⟨k, ga, cap, ca, [p, q], ⟨#[]⟩⟩, HP.out, rfl, ⟨?_, ?_⟩, ?_⟩)
      ·simp [results, Tryz.results71, go_sem, hC, Pc.ci, Pc.cs, EK.out]
      ·repeat' (with_reducible first | exact hbA | refine Box.far ?_ (by simp <;> omega) _)
      ·exact HCA.out
      ·repeat' (with_reducible first | exact hE | refine Ex.setCell ?_ (by simp <;> omega) _)
    ·have hnI : ((ns.length : Int) == 2) = false := by rw [beq_eq_false_iff_ne]; omega
     have hnI2 : ¬ (ns.length : Int) = 2 := by omega
     have HP : Hid (Zo (k :: t) = none) := Oi (by rw [Zi HNN.out, hk114]; simp [Yv, hn])
     clear hn HNN HO
     clear hk114
     have hS : Zw w wr _ := Zw.put (Zw.put (⟨HE.out, trivial⟩ : Zw w wr []) bR) bP
     have hC := hS.reads
     simp only [Zz, Zy] at hC
     have hE := hS.ex
     go_wp2_with fail
     refine Od ?_ rfl (.inr ⟨(k.toNat : Int), A, ns.length, cap, HP.out, rfl, ?_⟩)
     ·simp [results, Tryz.results71, go_sem, hC, EK.out]
     ·repeat' (with_reducible first | exact hE | refine Ex.setCell ?_ (by simp <;> omega) _)
end
end Go.Proofs.YtmjggolkopbcnaaGreatDoor
