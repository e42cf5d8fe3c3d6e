/-
  Proved: what functions compute, part 31. No condition.
-/
import Derived.Test.YtmmjkchjgeklnaaGreatDoorK28
import Derived.Test.YtmmjkchjgeklnaaGreatDoorK29
import Derived.Test.YtmmjkchjgeklnaaGreatDoorK30
set_option linter.unusedSimpArgs false
set_option linter.unusedVariables false
set_option maxRecDepth 20000
set_option maxHeartbeats 8000000
namespace Go.Proofs.YtmmjkchjgeklnaaGreatDoor
section
open Go.RowKit

attribute [local go_sem] Zk Zj
theorem sL7One_ad (c : UInt8) (hc : c = 97 ∨ c = 100) (k : UInt8) (t : List UInt8) (ht0 : t ≠ []) (hk97 : k = c) (hl : (k :: t).length ≤ 1048576) (w : World) : Calls Tryz.prog 86 #[.string (Bs (k :: t))] w (Mh w (k :: t)) := by
 obtain ⟨C, hC⟩ : ∃ C : Int, Hid (C = ((c.toNat : Nat) : Int)) := ⟨_, Gv rfl⟩
 have q119 : (C == 119) = false := by rw [hC.out]; rcases hc with rfl | rfl <;> rfl
 have q114 : (C == 114) = false := by rw [hC.out]; rcases hc with rfl | rfl <;> rfl
 have q102 : (C == 102) = false := by rw [hC.out]; rcases hc with rfl | rfl <;> rfl
 rcases hc with rfl | rfl
 all_goals
  have q1 := congrArg (fun x : Int => x == 97) hC.out
  have q2 := congrArg (fun x : Int => x == 100) hC.out
  simp only [show (((97 : UInt8).toNat : Nat) : Int) = 97 from rfl, show (((100 : UInt8).toNat : Nat) : Int) = 100 from rfl, Int.reduceBEq] at q1 q2
  have HK97 := Gv hk97
  clear hk97
  have hlt : t.length ≤ 1048576 := by simp at hl; omega
  have hx1 := Qp k t
  obtain ⟨S, HS⟩ : ∃ S, Hid (S = Bs (k :: t)) := ⟨_, Gv rfl⟩
  have hsz : S.size = t.length + 1 := by rw [HS.out]; rfl
  obtain ⟨hs0, hk0⟩ : ∃ hs : 0 < S.size, S[0]'hs = k := by
   obtain ⟨h1, h2⟩ := Nv HS.out (i := 0) (by simp)
   exact ⟨h1, h2⟩
  rw [← HS.out] at hx1 ⊢
  have ks := fun w => cutCB t hlt w
  have HW : Hid (∀ x ∈ cds t, x.length ≤ 1048576) := Gv fun x hx => by
   have h1 := Ul t x hx
   omega
  have HCL : Hid ((cds t).length ≤ 1048576) := Gv (by have h1 := Qo t; simp only [List.length_cons] at hl; omega)
  have hs2 : ¬ (S.size : Int) < 2 := by
   have : t.length ≠ 0 := fun e => ht0 (List.length_eq_zero_iff.1 e)
   omega
  generalize hT : Bs t = T at hx1 ks
  have KS := Gv ks
  have HX1 := Gv hx1
  clear ks hT ht0
  have hS := Zw.refl w
  have hC := True.intro
  go_enter Tryz.func86, Tryz.ntmps86
  go_upto_region 4 with fail
  have bR := ((Box.new w #[.int .u8 0, .slice none 0 0] 103).alloc (.cells #[] 3)).alloc (.cells #[.int .u8 (k.toNat : Int), .slice (some ⟨w.heap.size + 1, 0, none⟩) 0 0] 103)
  have bP := Box.new ((w.alloc (.cells #[.int .u8 0, .slice none 0 0] 103)).alloc (.cells #[] 3)) #[.int .u8 (k.toNat : Int), .slice (some ⟨w.heap.size + 1, 0, none⟩) 0 0] 103
  have hO0 := (Mf (w.alloc (.cells #[.int .u8 0, .slice none 0 0] 103)) (w.heap.size + 1) (by simp)).alloc (.cells #[.int .u8 (k.toNat : Int), .slice (some ⟨w.heap.size + 1, 0, none⟩) 0 0] 103)
  simp only [Gu] at bP hO0
  have hE1 : Ex w (((w.alloc (.cells #[.int .u8 0, .slice none 0 0] 103)).alloc (.cells #[] 3)).alloc (.cells #[.int .u8 (k.toNat : Int), .slice (some ⟨w.heap.size + 1, 0, none⟩) 0 0] 103)) := (((Ex.refl w).alloc _).alloc _).alloc _
  have hz1 : (((w.alloc (.cells #[.int .u8 0, .slice none 0 0] 103)).alloc (.cells #[] 3)).alloc (.cells #[.int .u8 (k.toNat : Int), .slice (some ⟨w.heap.size + 1, 0, none⟩) 0 0] 103)).heap.size = w.heap.size + 3 := by simp only [Gu]
  generalize ((w.alloc (.cells #[.int .u8 0, .slice none 0 0] 103)).alloc (.cells #[] 3)).alloc (.cells #[.int .u8 (k.toNat : Int), .slice (some ⟨w.heap.size + 1, 0, none⟩) 0 0] 103) = W1 at *
  clear hC hS hk0
  have hs1 : (1 : Int) ≤ (S.size : Int) := by omega
  clear hsz hl hlt
  go_wp2_with fail
  refine (KS.out _).mono ?_
  rintro e W2 ⟨g, gc, cur, rfl, hg, bG, HG, hx⟩
  replace bR := bR.ex hx
  replace bP := bP.ex hx
  have hO1 := hO0.ex hx
  have hE2 := hE1.trans hx
  have hz2 := hx.size
  clear hx hE1 KS hO0
  go_wp2_with fail
  go_loopw [6, 7, 8] (fun i n o wr => ∃ (j : Nat) (A : Option Addr) (cap : Nat) (ns : List Int), i = .int .i64 j ∧ j ≤ (cds t).length ∧ Hid (Xn Yl ((cds t).take j) = some ns) ∧ Box wr (w.heap.size + 2) 103 #[.int .u8 (k.toNat : Int), .slice A ns.length cap] ∧
    Box wr w.heap.size 103 #[.int .u8 0, .slice none 0 0] ∧ Box wr g 9 cur ∧ Hid (Vc wr (w.heap.size + 1) A cap ns) ∧ Hid (Ex w wr)) (fun i _ _ _ => (cds t).length + 1 - (intOf i).toNat)
  case atStart => exact ⟨0, some ⟨w.heap.size + 1, 0, none⟩, 0, [], rfl, by omega, Gv rfl, bP, bR, bG, Gv hO1, Gv hE2⟩
  case round =>
   clear bP bR bG hO1 hE2 hz2
   obtain ⟨j, A, cap, ns, rfl, hj, HN, bP, bR, bG, HO, HE⟩ := hrel
   have hnl : ns.length ≤ 1048576 := by
    have h1 := Vx HN.out
    have h2 := List.length_take_le j (cds t)
    have h3 := HCL.out
    omega
   by_cases hlt : j < (cds t).length
   ·have hcell := HG.out j hlt
    have hmem : (cds t)[j] ∈ cds t := List.getElem_mem hlt
    have hxl := HW.out _ hmem
    have HMs : Hid (Xn Yl ((cds t).take (j + 1)) = Xn Yl ((cds t).take j ++ [(cds t)[j]])) := Gv (by rw [Wx hlt])
    generalize (cds t)[j] = x at *
    have kp := fun w => Sg x hxl w
    have hlI : (j : Int) < ((cds t).length : Int) := by omega
    have hw5 : IntKind.i64.wrap ((j : Int) + 1) = (j : Int) + 1 := Gp _ (by have := HCL.out; omega)
    obtain ⟨X, HX⟩ : ∃ X, Hid (X = Bs x) := ⟨_, Gv rfl⟩
    rw [← HX.out] at hcell kp
    have KP := Gv kp
    have HMem := Gv hmem
    have cG := bG.cell
    have zG := bG.lt
    clear kp hmem hxl
    go_wp2_with fail
    refine (KP.out _).mono ?_
    rintro e w2 ⟨n, ok, rfl, hx, hn⟩
    have HNn := Gv hn
    replace bP := bP.ex hx
    replace bR := bR.ex hx
    replace bG := bG.ex hx
    have HE2 := Gv (HE.out.trans hx)
    have HO2 := Gv (HO.out.ex hx)
    clear hx hn cG zG KP hcell
    have cP := bP.cell
    have fP := bP.frozen
    have zP := bP.lt
    have cR := bR.cell
    have fR := bR.frozen
    have zR := bR.lt
    rcases ok with _ | _
    ·have HNo : Hid (Zb (k :: t) = none) := Gv (Sj HMem.out HNn.out)
     go_wp2
     refine Gq ?_ rfl (.inr ⟨k.toNat, A, ns.length, cap, HNo.out, rfl, ?_⟩)
     ·simp [results, Tryz.results86, go_sem, cP, cR]
     ·have hE := HE2.out
      repeat' (with_reducible first | exact hE | refine Ex.setCell ?_ (by simp <;> omega) _)
    ·have hs2 := HE2.out.size
     go_wp2_with (at_builtin; refine Vi rfl _ _ w2 rfl (w.heap.size + 1) A cap ns n rfl HO2.out rfl hnl (by omega) ?_)
     intro A' cap' w' hown' hk'
     have HE3 := Gv (hk'.ex w HE2.out (by omega))
     replace bP := hk'.box _ _ _ bP (by decide)
     replace bR := hk'.box _ _ _ bR (by decide)
     replace bG := hk'.box _ _ _ bG (by decide)
     have HO3 := Gv hown'
     have cP := bP.cell
     have fP := bP.frozen
     have zP := bP.lt
     clear hown' hk' HO2 HE2 cR fR zR
     have HN3 : Hid (Xn Yl ((cds t).take (j + 1)) = some (ns ++ [n])) := Gv (by rw [HMs.out]; exact Vl HNn.out HN.out)
     clear HNn HMs
     go_wp2
     have bP3 : Box (w'.setCell ⟨w.heap.size + 2, 1, none⟩ (.slice A' (ns.length + 1) cap')) (w.heap.size + 2) 103 #[.int .u8 (k.toNat : Int), .slice A' (ns ++ [n]).length cap'] := by
      have h := bP.set_ 1 (.slice A' (ns.length + 1) cap')
      simpa using h
     have bR3 := bR.far (p := ⟨w.heap.size + 2, 1, none⟩) (by simp) (.slice A' (ns.length + 1) cap')
     have bG3 := bG.far (p := ⟨w.heap.size + 2, 1, none⟩) (by simp; omega) (.slice A' (ns.length + 1) cap')
     have HO4 : Hid (Vc _ (w.heap.size + 1) A' cap' (ns ++ [n])) := Gv (Own.setCell (p := ⟨w.heap.size + 2, 1, none⟩) HO3.out (fun g hg e => by subst e; exact Own.ne HO3.out bP (by decide) hg.symm) (.slice A' (ns.length + 1) cap'))
     have HE4 := Gv (HE3.out.setCell (p := ⟨w.heap.size + 2, 1, none⟩) (by simp) (.slice A' (ns.length + 1) cap'))
     go_roundw
     case rel => exact ⟨j + 1, A', cap', ns ++ [n], by go_num, by omega, HN3, bP3, bR3, bG3, HO4, HE4⟩
     case measure => simp [intOf] <;> omega
   ·
    have hk97 := HK97.out
    obtain rfl : j = (cds t).length := by omega
    have hlI : ¬ ((cds t).length : Int) < ((cds t).length : Int) := by omega
    have HNN : Hid (Xn Yl (cds t) = some ns) := Gv (by have := HN.out; rwa [List.take_length] at this)
    clear HN HG bG hj hnl HW HX1
    clear hlt
    go_upto_region 12 with fail
    clear hlI
    have ek : ((k.toNat : Nat) : Int) = C := by rw [hk97]; exact hC.out.symm
    rw [ek] at bP
    have EK := Gv ek
    clear ek
    by_cases hn : ns.length = 2
    ·obtain ⟨p, q, rfl⟩ := list2 hn
     clear hn
     obtain ⟨ga, ca, rfl, hga, bA, hca⟩ := Own.box HO.out (by simp)
     clear HO
     simp only [List.length_cons, List.length_nil, Nat.reduceAdd] at bP
     have d0 : ca[0]? = some (.int .i64 p) := (hca 0 (by simp)).trans rfl
     have d1 : ca[1]? = some (.int .i64 q) := (hca 1 (by simp)).trans rfl
     have HCA : Hid (∀ j, j < [p, q].length → ca[j]? = some (.int .i64 ([p, q].getD j 0))) := Gv fun j hj => by
      simp only [List.length_cons, List.length_nil, Nat.reduceAdd] at hj
      obtain rfl | rfl : j = 0 ∨ j = 1 := by omega
      ·exact d0
      ·exact d1
     clear hca
     rcases hw1 : Xs q 1 100 with _ | _
     ·have HP : Hid (Zb (k :: t) = none) := Gv (by rw [Yq HNN.out, hk97]; simp [Xq, hw1])
      clear HNN
      clear hk97
      have kw1 := fun w => Vp q 1 100 w
      rw [hw1] at kw1
      clear hw1
      have KW1 := Gv kw1
      clear kw1
      have hS : Zw w wr _ := Zw.put (Zw.put (⟨HE.out, trivial⟩ : Zw w wr []) bR) bP
      replace hS := Zw.put hS bA
      have hC := hS.reads
      simp only [Zz, Zy] at hC
      have hE := hS.ex
      go_upto_region 27 with fail
      clear hC hE
      refine Yz (St := fun _ _ => True) false (B := fun b w2 => Zw w w2 [(ga, 3, ca), (w.heap.size + 2, 103, #[.int .u8 C, .slice (some ⟨ga, 0, none⟩) 2 cap]), (w.heap.size, 103, if b then #[.int .u8 C, .slice (some ⟨ga, 0, none⟩) 2 cap] else #[.int .u8 0, .slice none 0 0])]) (by kernel_rfl) (by kernel_rfl) (hS.drewW) ?_
      iterate 8 (apply Zx; (· rfl); (· intro b wb hB Q1 hQ1; have hS := hB; have hC := hS.reads; simp only [Zz, Zy] at hC; go_wp2_with fail; exact hQ1 _ trivial hB); (· exact ⟨_, rfl⟩))
      (apply Zx; (· rfl); (· intro b wb hB Q1 hQ1; go_wp2_with (go_at_call 135; (with_reducible refine (KW1.out _).mono ?_); rintro e wn ⟨rfl, rfl⟩); exact hQ1 _ trivial hB); (· exact ⟨_, rfl⟩))
      iterate 2 (apply Zx; (· rfl); (· intro b wb hB Q1 hQ1; go_wp2_with fail; exact hQ1 _ trivial hB); (· exact ⟨_, rfl⟩))
      refine Zu (by rfl) (by simp only [Act.put, Gt, Gs, Gr]; rfl) ?_
      refine Zu (by rfl) (by simp only [Act.put, Gt, Gs, Gr]; rfl) ?_
      refine Zu (by rfl) (by simp only [Act.put, Gt, Gs, Gr]; rfl) ?_
      refine Zu (by rfl) (by simp only [Act.put, Gt, Gs, Gr]; rfl) ?_
      refine Zu (by rfl) (by simp only [Act.put, Gt, Gs, Gr]; rfl) ?_
      refine Zu (by rfl) (by simp only [Act.put, Gt, Gs, Gr]; rfl) ?_
      refine Zu (by rfl) (by simp only [Act.put, Gt, Gs, Gr]; rfl) ?_
      refine Zu (by rfl) (by simp only [Act.put, Gt, Gs, Gr]; rfl) ?_
      refine Zu (by rfl) (by simp only [Act.put, Gt, Gs, Gr]; rfl) ?_
      (apply Zx; (· rfl); (· intro b wb hB Q1 hQ1; go_wp2_with fail; exact hQ1 _ trivial hB); (· exact ⟨_, rfl⟩))
      apply Zp (d := true)
      ·rfl
      ·intro b wb hB Q1 hQ1
       have hB2 := Zw.ret2 (by omega) (by omega) hB
       have hS := hB
       have hC := hS.reads
       simp only [Zz, Zy] at hC
       rcases b with _ | _
       ·simp only [Bool.false_eq_true, if_false] at hC
        go_wp2_with fail
        exact hQ1 _ trivial hB2
       ·simp only [if_true] at hC
        go_wp2_with fail
        exact hQ1 _ trivial hB2
      ·exact ⟨undef, rfl⟩
      (apply Zx; (· rfl); (· intro b wb hB Q1 hQ1; go_wp2_with fail; exact hQ1 _ trivial hB); (· exact ⟨_, rfl⟩))
      refine Zv ?_
      intro wy hy
      simp only [Bool.or_true, Bool.or_false, Bool.false_or, if_true] at hy
      have hC := hy.reads
      simp only [Zz, Zy] at hC
      have hE := hy.ex
      have hbA := hy.boxes.1
      have hl1 := hy.boxes.2.1.lt
      go_wp2_with fail
      refine Gq ?_ rfl (.inr ⟨(k.toNat : Int), (some ⟨ga, 0, none⟩), 2, cap, HP.out, rfl, ?_⟩)
      ·simp [results, Tryz.results86, go_sem, hC, EK.out]
      ·repeat' (with_reducible first | exact hE | refine Ex.setCell ?_ (by simp <;> omega) _)
     ·rcases hw2 : Xs p 0 q with _ | _
      ·have HP : Hid (Zb (k :: t) = none) := Gv (by rw [Yq HNN.out, hk97]; simp [Xq, hw1, hw2])
       clear HNN
       clear hk97
       have kw1 := fun w => Vp q 1 100 w
       rw [hw1] at kw1
       have kw2 := fun w => Vp p 0 q w
       rw [hw2] at kw2
       clear hw1 hw2
       have KW1 := Gv kw1
       have KW2 := Gv kw2
       clear kw1 kw2
       have hS : Zw w wr _ := Zw.put (Zw.put (⟨HE.out, trivial⟩ : Zw w wr []) bR) bP
       replace hS := Zw.put hS bA
       have hC := hS.reads
       simp only [Zz, Zy] at hC
       have hE := hS.ex
       go_upto_region 27 with fail
       clear hC hE
       refine Yz (St := fun _ _ => True) false (B := fun b w2 => Zw w w2 [(ga, 3, ca), (w.heap.size + 2, 103, #[.int .u8 C, .slice (some ⟨ga, 0, none⟩) 2 cap]), (w.heap.size, 103, if b then #[.int .u8 C, .slice (some ⟨ga, 0, none⟩) 2 cap] else #[.int .u8 0, .slice none 0 0])]) (by kernel_rfl) (by kernel_rfl) (hS.drewW) ?_
       iterate 8 (apply Zx; (· rfl); (· intro b wb hB Q1 hQ1; have hS := hB; have hC := hS.reads; simp only [Zz, Zy] at hC; go_wp2_with fail; exact hQ1 _ trivial hB); (· exact ⟨_, rfl⟩))
       (apply Zx; (· rfl); (· intro b wb hB Q1 hQ1; go_wp2_with (go_at_call 135; (with_reducible refine (KW1.out _).mono ?_); rintro e wn ⟨rfl, rfl⟩); exact hQ1 _ trivial hB); (· exact ⟨_, rfl⟩))
       iterate 10 (apply Zx; (· rfl); (· intro b wb hB Q1 hQ1; have hS := hB; have hC := hS.reads; simp only [Zz, Zy] at hC; go_wp2_with fail; exact hQ1 _ trivial hB); (· exact ⟨_, rfl⟩))
       (apply Zx; (· rfl); (· intro b wb hB Q1 hQ1; go_wp2_with (go_at_call 135; (with_reducible refine (KW2.out _).mono ?_); rintro e wn ⟨rfl, rfl⟩); exact hQ1 _ trivial hB); (· exact ⟨_, rfl⟩))
       (apply Zx; (· rfl); (· intro b wb hB Q1 hQ1; go_wp2_with fail; exact hQ1 _ trivial hB); (· exact ⟨_, rfl⟩))
       apply Zp (d := true)
       ·rfl
       ·intro b wb hB Q1 hQ1
        have hB2 := Zw.ret2 (by omega) (by omega) hB
        have hS := hB
        have hC := hS.reads
        simp only [Zz, Zy] at hC
        rcases b with _ | _
        ·simp only [Bool.false_eq_true, if_false] at hC
         go_wp2_with fail
         exact hQ1 _ trivial hB2
        ·simp only [if_true] at hC
         go_wp2_with fail
         exact hQ1 _ trivial hB2
       ·exact ⟨undef, rfl⟩
       (apply Zx; (· rfl); (· intro b wb hB Q1 hQ1; go_wp2_with fail; exact hQ1 _ trivial hB); (· exact ⟨_, rfl⟩))
       refine Zv ?_
       intro wy hy
       simp only [Bool.or_true, Bool.or_false, Bool.false_or, if_true] at hy
       have hC := hy.reads
       simp only [Zz, Zy] at hC
       have hE := hy.ex
       have hbA := hy.boxes.1
       have hl1 := hy.boxes.2.1.lt
       go_wp2_with fail
       refine Gq ?_ rfl (.inr ⟨(k.toNat : Int), (some ⟨ga, 0, none⟩), 2, cap, HP.out, rfl, ?_⟩)
       ·simp [results, Tryz.results86, go_sem, hC, EK.out]
       ·repeat' (with_reducible first | exact hE | refine Ex.setCell ?_ (by simp <;> omega) _)
      ·have HP : Hid (Zb (k :: t) = some (k, [p, q])) := Gv (by rw [Yq HNN.out, hk97]; simp [Xq, hw1, hw2])
       clear HNN
       clear hk97
       have kw1 := fun w => Vp q 1 100 w
       rw [hw1] at kw1
       have kw2 := fun w => Vp p 0 q w
       rw [hw2] at kw2
       clear hw1 hw2
       have KW1 := Gv kw1
       have KW2 := Gv kw2
       clear kw1 kw2
       have hS : Zw w wr _ := Zw.put (Zw.put (⟨HE.out, trivial⟩ : Zw w wr []) bR) bP
       replace hS := Zw.put hS bA
       have hC := hS.reads
       simp only [Zz, Zy] at hC
       have hE := hS.ex
       go_upto_region 27 with fail
       clear hC hE
       refine Yz (St := fun _ _ => True) false (B := fun b w2 => Zw w w2 [(ga, 3, ca), (w.heap.size + 2, 103, #[.int .u8 C, .slice (some ⟨ga, 0, none⟩) 2 cap]), (w.heap.size, 103, if b then #[.int .u8 C, .slice (some ⟨ga, 0, none⟩) 2 cap] else #[.int .u8 0, .slice none 0 0])]) (by kernel_rfl) (by kernel_rfl) (hS.drewW) ?_
       iterate 8 (apply Zx; (· rfl); (· intro b wb hB Q1 hQ1; have hS := hB; have hC := hS.reads; simp only [Zz, Zy] at hC; go_wp2_with fail; exact hQ1 _ trivial hB); (· exact ⟨_, rfl⟩))
       (apply Zx; (· rfl); (· intro b wb hB Q1 hQ1; go_wp2_with (go_at_call 135; (with_reducible refine (KW1.out _).mono ?_); rintro e wn ⟨rfl, rfl⟩); exact hQ1 _ trivial hB); (· exact ⟨_, rfl⟩))
       iterate 10 (apply Zx; (· rfl); (· intro b wb hB Q1 hQ1; have hS := hB; have hC := hS.reads; simp only [Zz, Zy] at hC; go_wp2_with fail; exact hQ1 _ trivial hB); (· exact ⟨_, rfl⟩))
       (apply Zx; (· rfl); (· intro b wb hB Q1 hQ1; go_wp2_with (go_at_call 135; (with_reducible refine (KW2.out _).mono ?_); rintro e wn ⟨rfl, rfl⟩); exact hQ1 _ trivial hB); (· exact ⟨_, rfl⟩))
       (apply Zx; (· rfl); (· intro b wb hB Q1 hQ1; go_wp2_with fail; exact hQ1 _ trivial hB); (· exact ⟨_, rfl⟩))
       apply Zp (d := true)
       ·rfl
       ·intro b wb hB Q1 hQ1
        have hB2 := Zw.ret2 (by omega) (by omega) hB
        have hS := hB
        have hC := hS.reads
        simp only [Zz, Zy] at hC
        rcases b with _ | _
        ·simp only [Bool.false_eq_true, if_false] at hC
         go_wp2_with fail
         exact hQ1 _ trivial hB2
        ·simp only [if_true] at hC
         go_wp2_with fail
         exact hQ1 _ trivial hB2
       ·exact ⟨undef, rfl⟩
       (apply Zx; (· rfl); (· intro b wb hB Q1 hQ1; go_wp2_with fail; exact hQ1 _ trivial hB); (· exact ⟨_, rfl⟩))
       refine Zv ?_
       intro wy hy
       simp only [Bool.or_true, Bool.or_false, Bool.false_or, if_true] at hy
       have hC := hy.reads
       simp only [Zz, Zy] at hC
       have hE := hy.ex
       have hbA := hy.boxes.1
       have hl1 := hy.boxes.2.1.lt
       go_wp2_with fail
       refine Gq ?_ rfl (.inl ⟨⟨k, ga, cap, ca, [p, q], ⟨#[]⟩⟩, HP.out, rfl, ⟨?_, ?_⟩, ?_⟩)
       ·simp [results, Tryz.results86, go_sem, hC, Pc.ci, Pc.cs, EK.out]
       ·repeat' (with_reducible first | exact hbA | refine Box.far ?_ (by simp <;> omega) _)
       ·exact HCA.out
       ·repeat' (with_reducible first | exact hE | refine Ex.setCell ?_ (by simp <;> omega) _)
    ·have hnI : ((ns.length : Int) == 2) = false := by rw [beq_eq_false_iff_ne]; omega
     have hnI2 : ¬ (ns.length : Int) = 2 := by omega
     have HP : Hid (Zb (k :: t) = none) := Gv (by rw [Yq HNN.out, hk97]; simp [Xq, hn])
     clear hn HNN HO
     clear hk97
     have hS : Zw w wr _ := Zw.put (Zw.put (⟨HE.out, trivial⟩ : Zw w wr []) bR) bP
     have hC := hS.reads
     simp only [Zz, Zy] at hC
     have hE := hS.ex
     go_upto_region 27 with fail
     clear hC hE
     refine Yz (St := fun _ _ => True) false (B := fun b w2 => Zw w w2 [(w.heap.size + 2, 103, #[.int .u8 C, .slice A ns.length cap]), (w.heap.size, 103, if b then #[.int .u8 C, .slice A ns.length cap] else #[.int .u8 0, .slice none 0 0])]) (by kernel_rfl) (by kernel_rfl) (hS.drewW) ?_
     iterate 4 (apply Zx; (· rfl); (· intro b wb hB Q1 hQ1; have hS := hB; have hC := hS.reads; simp only [Zz, Zy] at hC; go_wp2_with fail; exact hQ1 _ trivial hB); (· exact ⟨_, rfl⟩))
     refine Zu (by rfl) (by simp only [Act.put, Gt, Gs, Gr]; rfl) ?_
     refine Zu (by rfl) (by simp only [Act.put, Gt, Gs, Gr]; rfl) ?_
     refine Zu (by rfl) (by simp only [Act.put, Gt, Gs, Gr]; rfl) ?_
     refine Zu (by rfl) (by simp only [Act.put, Gt, Gs, Gr]; rfl) ?_
     refine Zu (by rfl) (by simp only [Act.put, Gt, Gs, Gr]; rfl) ?_
     iterate 2 (apply Zx; (· rfl); (· intro b wb hB Q1 hQ1; go_wp2_with fail; exact hQ1 _ trivial hB); (· exact ⟨_, rfl⟩))
     refine Zu (by rfl) (by simp only [Act.put, Gt, Gs, Gr]; rfl) ?_
     refine Zu (by rfl) (by simp only [Act.put, Gt, Gs, Gr]; rfl) ?_
     refine Zu (by rfl) (by simp only [Act.put, Gt, Gs, Gr]; rfl) ?_
     refine Zu (by rfl) (by simp only [Act.put, Gt, Gs, Gr]; rfl) ?_
     refine Zu (by rfl) (by simp only [Act.put, Gt, Gs, Gr]; rfl) ?_
     refine Zu (by rfl) (by simp only [Act.put, Gt, Gs, Gr]; rfl) ?_
     refine Zu (by rfl) (by simp only [Act.put, Gt, Gs, Gr]; rfl) ?_
     refine Zu (by rfl) (by simp only [Act.put, Gt, Gs, Gr]; rfl) ?_
     refine Zu (by rfl) (by simp only [Act.put, Gt, Gs, Gr]; rfl) ?_
     (apply Zx; (· rfl); (· intro b wb hB Q1 hQ1; go_wp2_with fail; exact hQ1 _ trivial hB); (· exact ⟨_, rfl⟩))
     apply Zp (d := true)
     ·rfl
     ·intro b wb hB Q1 hQ1
      have hB2 := Zw.ret2n (by omega) hB
      have hS := hB
      have hC := hS.reads
      simp only [Zz, Zy] at hC
      rcases b with _ | _
      ·simp only [Bool.false_eq_true, if_false] at hC
       go_wp2_with fail
       exact hQ1 _ trivial hB2
      ·simp only [if_true] at hC
       go_wp2_with fail
       exact hQ1 _ trivial hB2
     ·exact ⟨undef, rfl⟩
     (apply Zx; (· rfl); (· intro b wb hB Q1 hQ1; go_wp2_with fail; exact hQ1 _ trivial hB); (· exact ⟨_, rfl⟩))
     refine Zv ?_
     intro wy hy
     simp only [Bool.or_true, Bool.or_false, Bool.false_or, if_true] at hy
     have hC := hy.reads
     simp only [Zz, Zy] at hC
     have hE := hy.ex
     go_wp2_with fail
     refine Gq ?_ rfl (.inr ⟨(k.toNat : Int), A, ns.length, cap, HP.out, rfl, ?_⟩)
     ·simp [results, Tryz.results86, go_sem, hC, EK.out]
     ·repeat' (with_reducible first | exact hE | refine Ex.setCell ?_ (by simp <;> omega) _)
end
section
open Go.RowKit

attribute [local go_sem] Zk Zj
theorem wds_len (t : List UInt8) : (wds t).length ≤ t.length + 1 := by
 rw [← wds_tot t]
 unfold tot
 generalize wds t = ws
 induction ws with
 | nil => simp
 | cons x ws ih => simp only [List.map_cons, List.sum_cons, List.length_cons]; omega
theorem slPI : SlT 79 84 (.agg #[.int .u8 0, .slice none 0 0, .string ⟨#[]⟩]) 3 48 := ⟨Tryz.underlying79, by kernel_rfl, rfl, by omega, by omega⟩
theorem slPS : SlT 98 103 (.agg #[.int .u8 0, .slice none 0 0]) 2 32 := ⟨Tryz.underlying98, by kernel_rfl, rfl, by omega, by omega⟩
theorem ci_one (q : Pc) : ∀ u ∈ q.ci, u.oneCell' = true := fun u hu => by
 simp only [Pc.ci, List.mem_cons, List.not_mem_nil, or_false] at hu
 rcases hu with rfl | rfl | rfl <;> rfl
theorem cs_one (q : Pc) : ∀ u ∈ q.cs, u.oneCell' = true := fun u hu => by
 simp only [Pc.cs, List.mem_cons, List.not_mem_nil, or_false] at hu
 rcases hu with rfl | rfl <;> rfl
def Hf (cells : List Pc → List Value) (w : World) (l : List UInt8) : Ending → World → Prop := fun e w' =>
 (∃ (qs : List Pc) (A : Option Addr) (cap : Nat), Xi l = some (qs.map Pc.p) ∧ e = .returned (.tuple #[.slice A qs.length cap, .bool true]) ∧ Slc w' A (cells qs) ∧ Pcs w' qs ∧ Ex w w') ∨
 (Xi l = none ∧ e = .returned (.tuple #[.slice none 0 0, .bool false]) ∧ Ex w w')
theorem iReadBench_of (hp : ∀ l : List UInt8, l.length ≤ 1048576 → ∀ w, Vv w → Calls Tryz.prog 66 #[.string (Bs l)] w (Jt w l)) (l : List UInt8) (hl : l.length ≤ 1048576) (w : World) (hm : Vv w) : Calls Tryz.prog 44 #[.string (Bs l)] w (Hf Wc w l) := by
 by_cases hne : l = []
 ·subst hne
  have he : Bs [] = (⟨#[]⟩ : ByteArray) := rfl
  rw [he]
  clear hm hp
  have hS := Zw.refl w
  have hC := True.intro
  go_enter Tryz.func44, Tryz.ntmps44
  go_wp2
  refine Gq ?_ rfl (.inl ⟨[], some ⟨w.heap.size, 0, none⟩, 0, rfl, rfl, Slc.nil _ _, Pcs.nil _, ?_⟩)
  ·simp [results, Tryz.results44, go_sem]
  ·repeat' (with_reducible first | exact hS.ex | exact Ex.refl _ | assumption | apply Ex.alloc | apply Ex.drewN | apply Ex.drew | refine Ex.setCell ?_ (by simp <;> omega) _)
 ·have ks := fun w hm => splitBB l (by omega) w hm
  have HW : Hid (∀ x ∈ wds l, x.length ≤ 1048576) := Gv fun x hx => by
   have h1 := Jw l x hx
   omega
  have hE0 : Bs l ≠ (⟨#[]⟩ : ByteArray) := fun e => hne (by
   have := congrArg (fun b : ByteArray => b.data.toList) e
   simpa [Bs] using this)
  have hne2 : (Bs l).toList.isEmpty = false := by simpa using Nu hE0
  have HNE := Gv hne
  have HWL : Hid ((wds l).length ≤ 1048577) := Gv (by have h1 := wds_len l; omega)
  generalize Bs l = S at ks hne2 ⊢
  have HP := Gv hp
  have HM := Gv hm
  have KS := Gv ks
  clear hp hm ks hE0 hne hl
  go_enter Tryz.func44, Tryz.ntmps44
  go_wp2_with fail
  refine (KS.out _ (HM.out.alloc _)).mono ?_
  rintro e W2 ⟨g, gc, cur, rfl, hg, bG, HG, hx⟩
  have hE2 := ((Ex.refl w).alloc (.cells #[] 84)).trans hx
  have hO0 : Own W2 w.heap.size 84 3 (.slice (some ⟨w.heap.size, 0, none⟩) 0 0) 0 [] := (Ip w w.heap.size 84 3 (Nat.le_refl _)).ex hx
  clear hx KS hg
  go_wp2_with fail
  go_loopw [16, 4, 6, 7, 8] (fun i v f p o wr => ∃ (j : Nat) (A : Option Addr) (cap : Nat) (qs : List Pc), i = .int .i64 j ∧ v = .slice A qs.length cap ∧ j ≤ (wds l).length ∧ qs.length ≤ 12 ∧ Hid (Xn Zb ((wds l).take j) = some (qs.map Pc.p)) ∧
    Hid (Own wr w.heap.size 84 3 (.slice A qs.length cap) qs.length (Wc qs)) ∧ Hid (Pcs wr qs) ∧ Box wr g 9 cur ∧ Hid (Ex w wr)) (fun i _ _ _ _ _ => (wds l).length + 1 - (intOf i).toNat)
  case atStart => exact ⟨0, _, 0, [], rfl, rfl, by omega, by simp, Gv rfl, Gv hO0, Gv (Pcs.nil _), bG, Gv hE2⟩
  case round =>
   clear bG hO0 hE2
   obtain ⟨j, A, cap, qs, rfl, rfl, hj, hq, HN, HO, HQ, bG, HE⟩ := hrel
   have hsz := HE.out.size
   by_cases hlt : j < (wds l).length
   ·have hcell := HG.out j hlt
    have hmem : (wds l)[j] ∈ wds l := List.getElem_mem hlt
    have hxl := HW.out _ hmem
    have HMs : Hid (Xn Zb ((wds l).take (j + 1)) = Xn Zb ((wds l).take j ++ [(wds l)[j]])) := Gv (by rw [Wx hlt])
    have HLN : Hid (qs.length = j) := Gv (by have := Vx HN.out; rw [List.length_map, List.length_take] at this; omega)
    generalize (wds l)[j] = x at *
    have kp := fun w hm => HP.out x hxl w hm
    have hlI : (j : Int) < ((wds l).length : Int) := by omega
    have hw5 : IntKind.i64.wrap ((j : Int) + 1) = (j : Int) + 1 := Gp _ (by have := HWL.out; omega)
    obtain ⟨X, HX⟩ : ∃ X, Hid (X = Bs x) := ⟨_, Gv rfl⟩
    rw [← HX.out] at hcell kp
    have KP := Gv kp
    have HMem := Gv hmem
    have cG := bG.cell
    have zG := bG.lt
    clear kp hmem hxl
    go_wp2_with fail
    refine (KP.out _ (HM.out.ex HE.out)).mono ?_
    rintro e w2 (⟨q, hq2, rfl, hqo, hx⟩ | ⟨k2, A2, n2, c2, S2, hq2, rfl, hx⟩)
    ·have HO2 := Gv (Own.ex HO.out hx)
     have HQ2 := Gv ((HQ.out.ex hx))
     have HQo := Gv hqo
     have HE2 := Gv (HE.out.trans hx)
     have bG2 := bG.ex hx
     have HN3 : Hid (Xn Zb ((wds l).take (j + 1)) = some ((qs ++ [q]).map Pc.p)) := Gv (by rw [HMs.out, List.map_append]; exact Vl hq2 HN.out)
     clear hx hqo hq2 cG zG KP hcell bG
     simp only [Pc.ci]
     by_cases h12 : qs.length = 12
     ·have h12I : ((qs.length : Int) == 12) = true := by simp; omega
      have HB : Hid (Xi l = none) := Gv (benchOf_many HNE.out (by have := HLN.out; omega))
      go_wp2
      refine Gq ?_ rfl (.inr ⟨HB.out, rfl, ?_⟩)
      ·simp [results, Tryz.results44, go_sem]
      ·have hE := HE2.out
       repeat' (with_reducible first | exact hE | refine Ex.alloc ?_ _)
     ·have h12I : ((qs.length : Int) == 12) = false := by simp; omega
      have HO3 := Gv (Own.alloc HO2.out (.cells #[.int .u8 q.k.toNat, .slice (some ⟨q.g, 0, none⟩) q.ns.length q.cap, .string q.S] 84))
      have HQ3 := Gv (HQ2.out.snoc HQo.out)
      have hs2 := HE2.out.size
      have hq3 : (qs ++ [q]).length = qs.length + 1 := by simp
      have HQL := Gv hq3
      clear HQ2 HQo HO2 hq3
      go_wp2_with (at_builtin; refine Up slPI rfl _ _ (w2.alloc (.cells #[.int .u8 q.k.toNat, .slice (some ⟨q.g, 0, none⟩) q.ns.length q.cap, .string q.S] 84)) rfl w.heap.size A cap qs.length (Wc qs) [.int .u8 q.k.toNat, .slice (some ⟨q.g, 0, none⟩) q.ns.length q.cap, .string q.S] rfl (ci_one q) rfl HO3.out (by rw [Gu]; rfl) (by omega) (by simp; omega) ?_)
      intro A' cap' w' hown' hk'
      have HE3 := Gv (hk'.ex w (HE2.out.alloc _) (Nat.le_refl _))
      have HQ4 := Gv (Pcs.keeps (HQ3.out.ex ((Ex.refl w2).alloc (.cells #[.int .u8 q.k.toNat, .slice (some ⟨q.g, 0, none⟩) q.ns.length q.cap, .string q.S] 84))) hk' (by decide))
      have bG3 := hk'.box _ _ _ (bG2.alloc (.cells #[.int .u8 q.k.toNat, .slice (some ⟨q.g, 0, none⟩) q.ns.length q.cap, .string q.S] 84)) (by decide)
      have HO4 : Hid (Own w' w.heap.size 84 3 (.slice A' (qs ++ [q]).length cap') (qs ++ [q]).length (Wc (qs ++ [q]))) := Gv (by rw [HQL.out, cellsI_snoc]; exact hown')
      clear hown' hk' HO3 HQ3 HE2 bG2
      go_wp2
      go_roundw
      case rel => exact ⟨j + 1, A', cap', qs ++ [q], by go_num, by rw [HQL.out], by omega, by rw [HQL.out]; omega, HN3, HO4, HQ4, bG3, HE3⟩
      case measure => simp [intOf] <;> omega
    ·have HB : Hid (Xi l = none) := Gv (Jk HNE.out HMem.out hq2)
     have HE2 := Gv (HE.out.trans hx)
     clear hx hq2 cG zG KP hcell
     go_wp2
     refine Gq ?_ rfl (.inr ⟨HB.out, rfl, ?_⟩)
     ·simp [results, Tryz.results44, go_sem]
     ·have hE := HE2.out
      repeat' (with_reducible first | exact hE | refine Ex.alloc ?_ _)
   ·obtain rfl : j = (wds l).length := by omega
    have hlI : ¬ ((wds l).length : Int) < ((wds l).length : Int) := by omega
    have HB : Hid (Xi l = some (qs.map Pc.p)) := Gv (by
     have h1 := HN.out
     rw [List.take_length] at h1
     rw [Ho HNE.out h1, if_pos (by rw [List.length_map]; exact hq)])
    clear hlt
    go_wp2
    refine Gq ?_ rfl (.inl ⟨qs, A, cap, HB.out, rfl, Own.slc HO.out, HQ.out, HE.out⟩)
    simp [results, Tryz.results44, go_sem]
theorem sL7Bench_of (hp : ∀ l : List UInt8, l.length ≤ 1048576 → ∀ w, Calls Tryz.prog 86 #[.string (Bs l)] w (Mh w l)) (l : List UInt8) (hl : l.length ≤ 1048576) (w : World) : Calls Tryz.prog 55 #[.string (Bs l)] w (BnGot Vk w l) := by
 by_cases hne : l = []
 ·subst hne
  have he : Bs [] = (⟨#[]⟩ : ByteArray) := rfl
  rw [he]
  clear hp
  have hS := Zw.refl w
  have hC := True.intro
  go_enter Tryz.func55, Tryz.ntmps55
  go_wp2
  refine Gq ?_ rfl (.inl ⟨[], some ⟨w.heap.size, 0, none⟩, 0, rfl, rfl, Slc.nil _ _, Pcs.nil _, ?_⟩)
  ·simp [results, Tryz.results55, go_sem]
  ·repeat' (with_reducible first | exact hS.ex | exact Ex.refl _ | assumption | apply Ex.alloc | apply Ex.drewN | apply Ex.drew | refine Ex.setCell ?_ (by simp <;> omega) _)
 ·have ks := fun w => cutBB l (by omega) w
  have HW : Hid (∀ x ∈ wds l, x.length ≤ 1048576) := Gv fun x hx => by
   have h1 := Jw l x hx
   omega
  have hE0 : Bs l ≠ (⟨#[]⟩ : ByteArray) := fun e => hne (by
   have := congrArg (fun b : ByteArray => b.data.toList) e
   simpa [Bs] using this)
  have hne2 : (Bs l).toList.isEmpty = false := by simpa using Nu hE0
  have HNE := Gv hne
  have HWL : Hid ((wds l).length ≤ 1048577) := Gv (by have h1 := wds_len l; omega)
  have hsz : (Bs l).size = l.length := Wa l
  generalize Bs l = S at ks hne2 hsz ⊢
  have HP := Gv hp
  have KS := Gv ks
  clear hp ks hE0 hne
  by_cases h300 : 300 < l.length
  ·have h3 : 300 < (S.size : Int) := by omega
   have HB : Hid (Xi l = none) := Gv (by
    cases hb : Xi l with
    | none => rfl
    | some ps => have := benchOf_len hb; omega)
   clear hsz hl h300
   have hS := Zw.refl w
   have hC := True.intro
   go_enter Tryz.func55, Tryz.ntmps55
   go_wp2
   refine Gq ?_ rfl (.inr ⟨some ⟨w.heap.size, 0, none⟩, 0, 0, HB.out, rfl, ?_⟩)
   ·simp [results, Tryz.results55, go_sem]
   ·repeat' (with_reducible first | exact hS.ex | exact Ex.refl _ | assumption | apply Ex.alloc | apply Ex.drewN | apply Ex.drew | refine Ex.setCell ?_ (by simp <;> omega) _)
  have h3 : ¬ 300 < (S.size : Int) := by omega
  have HL := Gv h300
  clear hsz hl h300
  go_enter Tryz.func55, Tryz.ntmps55
  go_wp2_with fail
  refine (KS.out _).mono ?_
  rintro e W2 ⟨g, gc, cur, rfl, hg, bG, HG, hx⟩
  have hE2 := ((Ex.refl w).alloc (.cells #[] 103)).trans hx
  have hO0 : Own W2 w.heap.size 103 2 (.slice (some ⟨w.heap.size, 0, none⟩) 0 0) 0 [] := (Ip w w.heap.size 103 2 (Nat.le_refl _)).ex hx
  clear hx KS hg
  go_wp2_with fail
  go_loopw [6, 4, 7, 8] (fun i v p o wr => ∃ (j : Nat) (A : Option Addr) (cap : Nat) (qs : List Pc), i = .int .i64 j ∧ v = .slice A qs.length cap ∧ j ≤ (wds l).length ∧ qs.length = j ∧ Hid (Xn Zb ((wds l).take j) = some (qs.map Pc.p)) ∧
    Hid (Own wr w.heap.size 103 2 (.slice A qs.length cap) qs.length (Vk qs)) ∧ Hid (Pcs wr qs) ∧ Box wr g 9 cur ∧ Hid (Ex w wr)) (fun i _ _ _ _ => (wds l).length + 1 - (intOf i).toNat)
  case atStart => exact ⟨0, _, 0, [], rfl, rfl, by omega, rfl, Gv rfl, Gv hO0, Gv (Pcs.nil _), bG, Gv hE2⟩
  case round =>
   clear bG hO0 hE2
   obtain ⟨j, A, cap, qs, rfl, rfl, hj, hq, HN, HO, HQ, bG, HE⟩ := hrel
   have hsz := HE.out.size
   by_cases hlt : j < (wds l).length
   ·have hcell := HG.out j hlt
    have hmem : (wds l)[j] ∈ wds l := List.getElem_mem hlt
    have hxl := HW.out _ hmem
    have HMs : Hid (Xn Zb ((wds l).take (j + 1)) = Xn Zb ((wds l).take j ++ [(wds l)[j]])) := Gv (by rw [Wx hlt])
    have HLN := Gv hq
    clear hq
    have hq : qs.length ≤ 1000001 := by have h1 := HLN.out; have h2 := wds_len l; have h4 := HL.out; omega
    generalize (wds l)[j] = x at *
    have kp := fun w => HP.out x hxl w
    have hlI : (j : Int) < ((wds l).length : Int) := by omega
    have hw5 : IntKind.i64.wrap ((j : Int) + 1) = (j : Int) + 1 := Gp _ (by have := HWL.out; omega)
    obtain ⟨X, HX⟩ : ∃ X, Hid (X = Bs x) := ⟨_, Gv rfl⟩
    rw [← HX.out] at hcell kp
    have KP := Gv kp
    have HMem := Gv hmem
    have cG := bG.cell
    have zG := bG.lt
    clear kp hmem hxl
    go_wp2_with fail
    refine (KP.out _).mono ?_
    rintro e w2 (⟨q, hq2, rfl, hqo, hx⟩ | ⟨k2, A2, n2, c2, hq2, rfl, hx⟩)
    ·have HO2 := Gv (Own.ex HO.out hx)
     have HQ2 := Gv ((HQ.out.ex hx))
     have HQo := Gv hqo
     have HE2 := Gv (HE.out.trans hx)
     have bG2 := bG.ex hx
     have HN3 : Hid (Xn Zb ((wds l).take (j + 1)) = some ((qs ++ [q]).map Pc.p)) := Gv (by rw [HMs.out, List.map_append]; exact Vl hq2 HN.out)
     clear hx hqo hq2 cG zG KP hcell bG
     simp only [Pc.cs]
     have HO3 := Gv (Own.alloc HO2.out (.cells #[.int .u8 q.k.toNat, .slice (some ⟨q.g, 0, none⟩) q.ns.length q.cap] 103))
     have HQ3 := Gv (HQ2.out.snoc HQo.out)
     have hs2 := HE2.out.size
     have hq3 : (qs ++ [q]).length = qs.length + 1 := by simp
     have HQL := Gv hq3
     clear HQ2 HQo HO2 hq3
     go_wp2_with (at_builtin; refine Up slPS rfl _ _ (w2.alloc (.cells #[.int .u8 q.k.toNat, .slice (some ⟨q.g, 0, none⟩) q.ns.length q.cap] 103)) rfl w.heap.size A cap qs.length (Vk qs) [.int .u8 q.k.toNat, .slice (some ⟨q.g, 0, none⟩) q.ns.length q.cap] rfl (cs_one q) rfl HO3.out (by rw [Gu]; rfl) (by omega) (by simp; omega) ?_)
     intro A' cap' w' hown' hk'
     have HE3 := Gv (hk'.ex w (HE2.out.alloc _) (Nat.le_refl _))
     have HQ4 := Gv (Pcs.keeps (HQ3.out.ex ((Ex.refl w2).alloc (.cells #[.int .u8 q.k.toNat, .slice (some ⟨q.g, 0, none⟩) q.ns.length q.cap] 103))) hk' (by decide))
     have bG3 := hk'.box _ _ _ (bG2.alloc (.cells #[.int .u8 q.k.toNat, .slice (some ⟨q.g, 0, none⟩) q.ns.length q.cap] 103)) (by decide)
     have HO4 : Hid (Own w' w.heap.size 103 2 (.slice A' (qs ++ [q]).length cap') (qs ++ [q]).length (Vk (qs ++ [q]))) := Gv (by rw [HQL.out, cellsS_snoc]; exact hown')
     clear hown' hk' HO3 HQ3 HE2 bG2
     go_wp2
     go_roundw
     case rel => exact ⟨j + 1, A', cap', qs ++ [q], by go_num, by rw [HQL.out], by omega, by rw [HQL.out, HLN.out], HN3, HO4, HQ4, bG3, HE3⟩
     case measure => simp [intOf] <;> omega
    ·have HB : Hid (Xi l = none) := Gv (Jk HNE.out HMem.out hq2)
     have HE2 := Gv (HE.out.trans hx)
     clear hx hq2 cG zG KP hcell
     go_wp2
     refine Gq ?_ rfl (.inr ⟨A, qs.length, cap, HB.out, rfl, ?_⟩)
     ·simp [results, Tryz.results55, go_sem]
     ·have hE := HE2.out
      repeat' (with_reducible first | exact hE | refine Ex.alloc ?_ _)
   ·obtain rfl : j = (wds l).length := by omega
    have hlI : ¬ ((wds l).length : Int) < ((wds l).length : Int) := by omega
    have h1 := HN.out
    rw [List.take_length] at h1
    have h2 := Ho HNE.out h1
    rw [List.length_map] at h2
    clear h1 hlt
    by_cases h12 : qs.length ≤ 12
    ·have h12I : (qs.length : Int) ≤ 12 := by omega
     rw [if_pos h12] at h2
     have HB := Gv h2
     have HQL := Gv hq
     clear h2 h12 hq
     go_wp2
     refine Gq ?_ rfl (.inl ⟨qs, A, cap, HB.out, rfl, Own.slc HO.out, HQ.out, HE.out⟩)
     simp [results, Tryz.results55, go_sem]
    ·have h12I : ¬ (qs.length : Int) ≤ 12 := by omega
     rw [if_neg h12] at h2
     have HB := Gv h2
     clear h2 h12 hq
     go_wp2
     refine Gq ?_ rfl (.inr ⟨A, qs.length, cap, HB.out, rfl, HE.out⟩)
     simp [results, Tryz.results55, go_sem]
end
section
open Go.RowKit

attribute [local go_sem] Zk Zj
theorem iReadPiece (l : List UInt8) (hl : l.length ≤ 1048576) (w : World) (hm : Vv w) : Calls Tryz.prog 66 #[.string (Bs l)] w (Jt w l) := by
 cases l with
 | nil =>
  have he : Bs [] = (⟨#[]⟩ : ByteArray) := rfl
  rw [he]
  clear hm
  have hS := Zw.refl w
  have hC := True.intro
  go_enter Tryz.func66, Tryz.ntmps66
  go_wp2
  refine Gq ?_ rfl (.inr ⟨0, none, 0, 0, ⟨#[]⟩, rfl, rfl, ?_⟩)
  ·simp [results, Tryz.results66, go_sem]
  ·repeat' (with_reducible first | exact hS.ex | exact Ex.refl _ | assumption | apply Ex.alloc | apply Ex.drewN | apply Ex.drew | refine Ex.setCell ?_ (by simp <;> omega) _)
 | cons k t =>
  by_cases h1 : k = 114
  ·exact Mr 114 (.inl rfl) k t h1 hl w hm
  by_cases h2 : k = 119
  ·exact Hg k t h2 hl w hm
  by_cases h3 : k = 102
  ·exact Mr 102 (.inr rfl) k t h3 hl w hm
  by_cases h4 : k = 97
  ·exact Mq 97 (.inl rfl) k t h4 hl w hm
  by_cases h5 : k = 100
  ·exact Mq 100 (.inr rfl) k t h5 hl w hm
  exact Iw k t h2 h1 h3 h4 h5 hl w hm
theorem Kz (l : List UInt8) (h : l.length < 2) (w : World) : Calls Tryz.prog 86 #[.string (Bs l)] w (Mh w l) := by
 have hsz : ((Bs l).size : Int) < 2 := by rw [Wa]; omega
 have hn := pieceOf_short h
 generalize Bs l = S at hsz ⊢
 have HN := Gv hn
 clear hn h
 have hS := Zw.refl w
 have hC := True.intro
 go_enter Tryz.func86, Tryz.ntmps86
 go_wp2
 refine Gq ?_ rfl (.inr ⟨0, none, 0, 0, HN.out, rfl, ?_⟩)
 ·simp [results, Tryz.results86, go_sem]
 ·repeat' (with_reducible first | exact hS.ex | exact Ex.refl _ | assumption | apply Ex.alloc | apply Ex.drewN | apply Ex.drew | refine Ex.setCell ?_ (by simp <;> omega) _)
theorem sL7One (l : List UInt8) (hl : l.length ≤ 1048576) (w : World) : Calls Tryz.prog 86 #[.string (Bs l)] w (Mh w l) := by
 match l, hl with
 | [], _ => exact Kz [] (by decide) w
 | [k], _ => exact Kz [k] (by simp) w
 | k :: c :: t, hl =>
  have ht0 : c :: t ≠ [] := by simp
  by_cases h1 : k = 114
  ·exact sL7One_rf 114 (.inl rfl) k _ ht0 h1 hl w
  by_cases h2 : k = 119
  ·exact sL7One_119 k _ ht0 h2 hl w
  by_cases h3 : k = 102
  ·exact sL7One_rf 102 (.inr rfl) k _ ht0 h3 hl w
  by_cases h4 : k = 97
  ·exact sL7One_ad 97 (.inl rfl) k _ ht0 h4 hl w
  by_cases h5 : k = 100
  ·exact sL7One_ad 100 (.inr rfl) k _ ht0 h5 hl w
  exact sL7One_else k _ ht0 h2 h1 h3 h4 h5 hl w
theorem iReadBench (l : List UInt8) (hl : l.length ≤ 1048576) (w : World) (hm : Vv w) : Calls Tryz.prog 44 #[.string (Bs l)] w (Hf Wc w l) := iReadBench_of iReadPiece l hl w hm
theorem sL7Bench (l : List UInt8) (hl : l.length ≤ 1048576) (w : World) : Calls Tryz.prog 55 #[.string (Bs l)] w (BnGot Vk w l) := sL7Bench_of sL7One l hl w
end
end Go.Proofs.YtmmjkchjgeklnaaGreatDoor
