/-
  Proved: what functions compute, part 28. No condition.
-/
import Derived.Test.YtmjggolkopbcnaaGreatDoorB24
import Derived.Test.YtmjggolkopbcnaaGreatDoorB25
import Derived.Test.YtmjggolkopbcnaaGreatDoorB26
import Derived.Test.YtmjggolkopbcnaaGreatDoorB27
import Derived.Test.YtmjggolkopbcnaaGreatDoorB19
import Derived.Test.YtmjggolkopbcnaaGreatDoorB01
set_option linter.unusedSimpArgs false
set_option linter.unusedVariables false
set_option maxRecDepth 20000
set_option maxHeartbeats 8000000
namespace Go.Proofs.YtmjggolkopbcnaaGreatDoor
section
open Go.RowKit

attribute [local go_sem] Zq Zp
theorem sL7One_ad (c : UInt8) (hc : c = 97 ∨ c = 100) (k : UInt8) (t : List UInt8) (ht0 : t ≠ []) (hk97 : k = c) (hl : (k :: t).length ≤ 1048576) (w : World) : Calls Tryz.prog 71 #[.string (Bs (k :: t))] w (Sn w (k :: t)) := by
 obtain ⟨C, hC⟩ : ∃ C : Int, Hid (C = ((c.toNat : Nat) : Int)) := ⟨_, Oi rfl⟩
 have q119 : (C == 119) = false := by rw [hC.out]; rcases hc with rfl | rfl <;> rfl
 have q114 : (C == 114) = false := by rw [hC.out]; rcases hc with rfl | rfl <;> rfl
 have q102 : (C == 102) = false := by rw [hC.out]; rcases hc with rfl | rfl <;> rfl
 rcases hc with rfl | rfl
 all_goals
  have q1 := congrArg (fun x : Int => x == 97) hC.out
  have q2 := congrArg (fun x : Int => x == 100) hC.out
  simp only [show (((97 : UInt8).toNat : Nat) : Int) = 97 from rfl, show (((100 : UInt8).toNat : Nat) : Int) = 100 from rfl, Int.reduceBEq] at q1 q2
  have HK97 := Oi hk97
  clear hk97
  have hlt : t.length ≤ 1048576 := by simp at hl; omega
  have hx1 := Uw k t
  obtain ⟨S, HS⟩ : ∃ S, Hid (S = Bs (k :: t)) := ⟨_, Oi rfl⟩
  have hsz : S.size = t.length + 1 := by rw [HS.out]; rfl
  obtain ⟨hs0, hk0⟩ : ∃ hs : 0 < S.size, S[0]'hs = k := by
   obtain ⟨h1, h2⟩ := Th HS.out (i := 0) (by simp)
   exact ⟨h1, h2⟩
  rw [← HS.out] at hx1 ⊢
  have ks := fun w => cutCB t hlt w
  have HW : Hid (∀ x ∈ cds t, x.length ≤ 1048576) := Oi fun x hx => by
   have h1 := Wy t x hx
   omega
  have HCL : Hid ((cds t).length ≤ 1048576) := Oi (by have h1 := Uv t; simp only [List.length_cons] at hl; omega)
  have hs2 : ¬ (S.size : Int) < 2 := by
   have : t.length ≠ 0 := fun e => ht0 (List.length_eq_zero_iff.1 e)
   omega
  generalize hT : Bs t = T at hx1 ks
  have KS := Oi ks
  have HX1 := Oi hx1
  clear ks hT ht0
  have hS := Zw.refl w
  have hC := True.intro
  go_enter Tryz.func71, Tryz.ntmps71
  go_upto_region 4 with fail
  have bR := ((Box.new w #[.int .u8 0, .slice none 0 0] 115).alloc (.cells #[] 3)).alloc (.cells #[.int .u8 (k.toNat : Int), .slice (some ⟨w.heap.size + 1, 0, none⟩) 0 0] 115)
  have bP := Box.new ((w.alloc (.cells #[.int .u8 0, .slice none 0 0] 115)).alloc (.cells #[] 3)) #[.int .u8 (k.toNat : Int), .slice (some ⟨w.heap.size + 1, 0, none⟩) 0 0] 115
  have hO0 := (Sf (w.alloc (.cells #[.int .u8 0, .slice none 0 0] 115)) (w.heap.size + 1) (by simp)).alloc (.cells #[.int .u8 (k.toNat : Int), .slice (some ⟨w.heap.size + 1, 0, none⟩) 0 0] 115)
  simp only [Oh] at bP hO0
  have hE1 : Ex w (((w.alloc (.cells #[.int .u8 0, .slice none 0 0] 115)).alloc (.cells #[] 3)).alloc (.cells #[.int .u8 (k.toNat : Int), .slice (some ⟨w.heap.size + 1, 0, none⟩) 0 0] 115)) := (((Ex.refl w).alloc _).alloc _).alloc _
  have hz1 : (((w.alloc (.cells #[.int .u8 0, .slice none 0 0] 115)).alloc (.cells #[] 3)).alloc (.cells #[.int .u8 (k.toNat : Int), .slice (some ⟨w.heap.size + 1, 0, none⟩) 0 0] 115)).heap.size = w.heap.size + 3 := by simp only [Oh]
  generalize ((w.alloc (.cells #[.int .u8 0, .slice none 0 0] 115)).alloc (.cells #[] 3)).alloc (.cells #[.int .u8 (k.toNat : Int), .slice (some ⟨w.heap.size + 1, 0, none⟩) 0 0] 115) = W1 at *
  clear hC hS hk0
  have hs1 : (1 : Int) ≤ (S.size : Int) := by omega
  clear hsz hl hlt
  go_wp2_with fail
  refine (KS.out _).mono ?_
  rintro e W2 ⟨g, gc, cur, rfl, hg, bG, HG, hx⟩
  replace bR := bR.ex hx
  replace bP := bP.ex hx
  have hO1 := hO0.ex hx
  have hE2 := hE1.trans hx
  have hz2 := hx.size
  clear hx hE1 KS hO0
  go_wp2_with fail
  go_loopw [6, 7, 8] (fun i n o wr => ∃ (j : Nat) (A : Option Addr) (cap : Nat) (ns : List Int), i = .int .i64 j ∧ j ≤ (cds t).length ∧ Hid (Yu Zh ((cds t).take j) = some ns) ∧ Box wr (w.heap.size + 2) 115 #[.int .u8 (k.toNat : Int), .slice A ns.length cap] ∧
    Box wr w.heap.size 115 #[.int .u8 0, .slice none 0 0] ∧ Box wr g 9 cur ∧ Hid (Xn wr (w.heap.size + 1) A cap ns) ∧ Hid (Ex w wr)) (fun i _ _ _ => (cds t).length + 1 - (intOf i).toNat)
  case atStart => exact ⟨0, some ⟨w.heap.size + 1, 0, none⟩, 0, [], rfl, by omega, Oi rfl, bP, bR, bG, Oi hO1, Oi hE2⟩
  case round =>
   clear bP bR bG hO1 hE2 hz2
   obtain ⟨j, A, cap, ns, rfl, hj, HN, bP, bR, bG, HO, HE⟩ := hrel
   have hnl : ns.length ≤ 1048576 := by
    have h1 := Xz HN.out
    have h2 := List.length_take_le j (cds t)
    have h3 := HCL.out
    omega
   by_cases hlt : j < (cds t).length
   ·have hcell := HG.out j hlt
    have hmem : (cds t)[j] ∈ cds t := List.getElem_mem hlt
    have hxl := HW.out _ hmem
    have HMs : Hid (Yu Zh ((cds t).take (j + 1)) = Yu Zh ((cds t).take j ++ [(cds t)[j]])) := Oi (by rw [Yk hlt])
    generalize (cds t)[j] = x at *
    have kp := fun w => Vu x hxl w
    have hlI : (j : Int) < ((cds t).length : Int) := by omega
    have hw5 : IntKind.i64.wrap ((j : Int) + 1) = (j : Int) + 1 := Oc _ (by have := HCL.out; omega)
    obtain ⟨X, HX⟩ : ∃ X, Hid (X = Bs x) := ⟨_, Oi rfl⟩
    rw [← HX.out] at hcell kp
    have KP := Oi kp
    have HMem := Oi hmem
    have cG := bG.cell
    have zG := bG.lt
    clear kp hmem hxl
    go_wp2_with fail
    refine (KP.out _).mono ?_
    rintro e w2 ⟨n, ok, rfl, hx, hn⟩
    have HNn := Oi hn
    replace bP := bP.ex hx
    replace bR := bR.ex hx
    replace bG := bG.ex hx
    have HE2 := Oi (HE.out.trans hx)
    have HO2 := Oi (HO.out.ex hx)
    clear hx hn cG zG KP hcell
    have cP := bP.cell
    have fP := bP.frozen
    have zP := bP.lt
    have cR := bR.cell
    have fR := bR.frozen
    have zR := bR.lt
    rcases ok with _ | _
    ·have HNo : Hid (Zo (k :: t) = none) := Oi (Vw HMem.out HNn.out)
     go_wp2
     refine Od ?_ rfl (.inr ⟨k.toNat, A, ns.length, cap, HNo.out, rfl, ?_⟩)
     ·simp [results, Tryz.results71, go_sem, cP, cR]
     ·have hE := HE2.out
      repeat' (with_reducible first | exact hE | refine Ex.setCell ?_ (by simp <;> omega) _)
    ·have hs2 := HE2.out.size
     go_wp2_with (at_builtin; refine Xs rfl _ _ w2 rfl (w.heap.size + 1) A cap ns n rfl HO2.out rfl hnl (by omega) ?_)
     intro A' cap' w' hown' hk'
     have HE3 := Oi (hk'.ex w HE2.out (by omega))
     replace bP := hk'.box _ _ _ bP (by decide)
     replace bR := hk'.box _ _ _ bR (by decide)
     replace bG := hk'.box _ _ _ bG (by decide)
     have HO3 := Oi hown'
     have cP := bP.cell
     have fP := bP.frozen
     have zP := bP.lt
     clear hown' hk' HO2 HE2 cR fR zR
     have HN3 : Hid (Yu Zh ((cds t).take (j + 1)) = some (ns ++ [n])) := Oi (by rw [HMs.out]; exact Xu HNn.out HN.out)
     clear HNn HMs
     go_wp2
     have bP3 : Box (w'.setCell ⟨w.heap.size + 2, 1, none⟩ (.slice A' (ns.length + 1) cap')) (w.heap.size + 2) 115 #[.int .u8 (k.toNat : Int), .slice A' (ns ++ [n]).length cap'] := by
      have h := bP.set_ 1 (.slice A' (ns.length + 1) cap')
      simpa using h
     have bR3 := bR.far (p := ⟨w.heap.size + 2, 1, none⟩) (by simp) (.slice A' (ns.length + 1) cap')
     have bG3 := bG.far (p := ⟨w.heap.size + 2, 1, none⟩) (by simp; omega) (.slice A' (ns.length + 1) cap')
     have HO4 : Hid (Xn _ (w.heap.size + 1) A' cap' (ns ++ [n])) := Oi (Own.setCell (p := ⟨w.heap.size + 2, 1, none⟩) HO3.out (fun g hg e => by subst e; exact Own.ne HO3.out bP (by decide) hg.symm) (.slice A' (ns.length + 1) cap'))
     have HE4 := Oi (HE3.out.setCell (p := ⟨w.heap.size + 2, 1, none⟩) (by simp) (.slice A' (ns.length + 1) cap'))
     go_roundw
     case rel => exact ⟨j + 1, A', cap', ns ++ [n], by go_num, by omega, HN3, bP3, bR3, bG3, HO4, HE4⟩
     case measure => simp [intOf] <;> omega
   ·
    have hk97 := HK97.out
    obtain rfl : j = (cds t).length := by omega
    have hlI : ¬ ((cds t).length : Int) < ((cds t).length : Int) := by omega
    have HNN : Hid (Yu Zh (cds t) = some ns) := Oi (by have := HN.out; rwa [List.take_length] at this)
    clear HN HG bG hj hnl HW HX1
    clear hlt
    go_upto_region 12 with fail
    clear hlI
    have ek : ((k.toNat : Nat) : Int) = C := by rw [hk97]; exact hC.out.symm
    rw [ek] at bP
    have EK := Oi ek
    clear ek
    by_cases hn : ns.length = 2
    ·obtain ⟨p, q, rfl⟩ := list2 hn
     clear hn
     obtain ⟨ga, ca, rfl, hga, bA, hca⟩ := Own.box HO.out (by simp)
     clear HO
     simp only [List.length_cons, List.length_nil, Nat.reduceAdd] at bP
     have d0 : ca[0]? = some (.int .i64 p) := (hca 0 (by simp)).trans rfl
     have d1 : ca[1]? = some (.int .i64 q) := (hca 1 (by simp)).trans rfl
     have HCA : Hid (∀ j, j < [p, q].length → ca[j]? = some (.int .i64 ([p, q].getD j 0))) := Oi fun j hj => by
      simp only [List.length_cons, List.length_nil, Nat.reduceAdd] at hj
      obtain rfl | rfl : j = 0 ∨ j = 1 := by omega
      ·exact d0
      ·exact d1
     clear hca
     rcases hw1 : Yo q 1 100 with _ | _
     ·have HP : Hid (Zo (k :: t) = none) := Oi (by rw [Zi HNN.out, hk97]; simp [Yv, hw1])
      clear HNN
      clear hk97
      have kw1 := fun w => Xg q 1 100 w
      rw [hw1] at kw1
      clear hw1
      have KW1 := Oi kw1
      clear kw1
      have hS : Zw w wr _ := Zw.put (Zw.put (⟨HE.out, trivial⟩ : Zw w wr []) bR) bP
      replace hS := Zw.put hS bA
      have hC := hS.reads
      simp only [Zz, Zy] at hC
      have hE := hS.ex
      go_upto_region 27 with fail
      clear hC hE
      refine Yw (St := fun _ _ => True) false (B := fun b w2 => Zw w w2 [(ga, 3, ca), (w.heap.size + 2, 115, #[.int .u8 C, .slice (some ⟨ga, 0, none⟩) 2 cap]), (w.heap.size, 115, if b then #[.int .u8 C, .slice (some ⟨ga, 0, none⟩) 2 cap] else #[.int .u8 0, .slice none 0 0])]) (by kernel_rfl) (by kernel_rfl) (hS.drewW) ?_
      iterate 8 (apply Zx; (· rfl); (· intro b wb hB Q1 hQ1; have hS := hB; have hC := hS.reads; simp only [Zz, Zy] at hC; go_wp2_with fail; exact hQ1 _ trivial hB); (· exact ⟨_, rfl⟩))
      (apply Zx; (· rfl); (· intro b wb hB Q1 hQ1; go_wp2_with (go_at_call 102; (with_reducible refine (KW1.out _).mono ?_); rintro e wn ⟨rfl, rfl⟩); exact hQ1 _ trivial hB); (· exact ⟨_, rfl⟩))
      iterate 2 (apply Zx; (· rfl); (· intro b wb hB Q1 hQ1; go_wp2_with fail; exact hQ1 _ trivial hB); (· exact ⟨_, rfl⟩))
      refine Zr (by rfl) (by simp only [Act.put, Og, Of, Oe]; rfl) ?_
      refine Zr (by rfl) (by simp only [Act.put, Og, Of, Oe]; rfl) ?_
      refine Zr (by rfl) (by simp only [Act.put, Og, Of, Oe]; rfl) ?_
      refine Zr (by rfl) (by simp only [Act.put, Og, Of, Oe]; rfl) ?_
      refine Zr (by rfl) (by simp only [Act.put, Og, Of, Oe]; rfl) ?_
      refine Zr (by rfl) (by simp only [Act.put, Og, Of, Oe]; rfl) ?_
      refine Zr (by rfl) (by simp only [Act.put, Og, Of, Oe]; rfl) ?_
      refine Zr (by rfl) (by simp only [Act.put, Og, Of, Oe]; rfl) ?_
      refine Zr (by rfl) (by simp only [Act.put, Og, Of, Oe]; rfl) ?_
      (apply Zx; (· rfl); (· intro b wb hB Q1 hQ1; go_wp2_with fail; exact hQ1 _ trivial hB); (· exact ⟨_, rfl⟩))
      apply Zs (d := true)
      ·rfl
      ·intro b wb hB Q1 hQ1
       have hB2 := Zw.ret2 (by omega) (by omega) hB
       have hS := hB
       have hC := hS.reads
       simp only [Zz, Zy] at hC
       rcases b with _ | _
       ·simp only [Bool.false_eq_true, if_false] at hC
        go_wp2_with fail
        exact hQ1 _ trivial hB2
       ·simp only [if_true] at hC
        go_wp2_with fail
        exact hQ1 _ trivial hB2
      ·exact ⟨undef, rfl⟩
      (apply Zx; (· rfl); (· intro b wb hB Q1 hQ1; go_wp2_with fail; exact hQ1 _ trivial hB); (· exact ⟨_, rfl⟩))
      refine Zv ?_
      intro wy hy
      simp only [Bool.or_true, Bool.or_false, Bool.false_or, if_true] at hy
      have hC := hy.reads
      simp only [Zz, Zy] at hC
      have hE := hy.ex
      have hbA := hy.boxes.1
      have hl1 := hy.boxes.2.1.lt
      go_wp2_with fail
      refine Od ?_ rfl (.inr ⟨(k.toNat : Int), (some ⟨ga, 0, none⟩), 2, cap, HP.out, rfl, ?_⟩)
      ·simp [results, Tryz.results71, go_sem, hC, EK.out]
      ·repeat' (with_reducible first | exact hE | refine Ex.setCell ?_ (by simp <;> omega) _)
     ·rcases hw2 : Yo p 0 q with _ | _
      ·have HP : Hid (Zo (k :: t) = none) := Oi (by rw [Zi HNN.out, hk97]; simp [Yv, hw1, hw2])
       clear HNN
       clear hk97
       have kw1 := fun w => Xg q 1 100 w
       rw [hw1] at kw1
       have kw2 := fun w => Xg p 0 q w
       rw [hw2] at kw2
       clear hw1 hw2
       have KW1 := Oi kw1
       have KW2 := Oi kw2
       clear kw1 kw2
       have hS : Zw w wr _ := Zw.put (Zw.put (⟨HE.out, trivial⟩ : Zw w wr []) bR) bP
       replace hS := Zw.put hS bA
       have hC := hS.reads
       simp only [Zz, Zy] at hC
       have hE := hS.ex
       go_upto_region 27 with fail
       clear hC hE
       refine Yw (St := fun _ _ => True) false (B := fun b w2 => Zw w w2 [(ga, 3, ca), (w.heap.size + 2, 115, #[.int .u8 C, .slice (some ⟨ga, 0, none⟩) 2 cap]), (w.heap.size, 115, if b then #[.int .u8 C, .slice (some ⟨ga, 0, none⟩) 2 cap] else #[.int .u8 0, .slice none 0 0])]) (by kernel_rfl) (by kernel_rfl) (hS.drewW) ?_
       iterate 8 (apply Zx; (· rfl); (· intro b wb hB Q1 hQ1; have hS := hB; have hC := hS.reads; simp only [Zz, Zy] at hC; go_wp2_with fail; exact hQ1 _ trivial hB); (· exact ⟨_, rfl⟩))
       (apply Zx; (· rfl); (· intro b wb hB Q1 hQ1; go_wp2_with (go_at_call 102; (with_reducible refine (KW1.out _).mono ?_); rintro e wn ⟨rfl, rfl⟩); exact hQ1 _ trivial hB); (· exact ⟨_, rfl⟩))
       iterate 10 (apply Zx; (· rfl); (· intro b wb hB Q1 hQ1; have hS := hB; have hC := hS.reads; simp only [Zz, Zy] at hC; go_wp2_with fail; exact hQ1 _ trivial hB); (· exact ⟨_, rfl⟩))
       (apply Zx; (· rfl); (· intro b wb hB Q1 hQ1; go_wp2_with (go_at_call 102; (with_reducible refine (KW2.out _).mono ?_); rintro e wn ⟨rfl, rfl⟩); exact hQ1 _ trivial hB); (· exact ⟨_, rfl⟩))
       (apply Zx; (· rfl); (· intro b wb hB Q1 hQ1; go_wp2_with fail; exact hQ1 _ trivial hB); (· exact ⟨_, rfl⟩))
       apply Zs (d := true)
       ·rfl
       ·intro b wb hB Q1 hQ1
        have hB2 := Zw.ret2 (by omega) (by omega) hB
        have hS := hB
        have hC := hS.reads
        simp only [Zz, Zy] at hC
        rcases b with _ | _
        ·simp only [Bool.false_eq_true, if_false] at hC
         go_wp2_with fail
         exact hQ1 _ trivial hB2
        ·simp only [if_true] at hC
         go_wp2_with fail
         exact hQ1 _ trivial hB2
       ·exact ⟨undef, rfl⟩
       (apply Zx; (· rfl); (· intro b wb hB Q1 hQ1; go_wp2_with fail; exact hQ1 _ trivial hB); (· exact ⟨_, rfl⟩))
       refine Zv ?_
       intro wy hy
       simp only [Bool.or_true, Bool.or_false, Bool.false_or, if_true] at hy
       have hC := hy.reads
       simp only [Zz, Zy] at hC
       have hE := hy.ex
       have hbA := hy.boxes.1
       have hl1 := hy.boxes.2.1.lt
       go_wp2_with fail
       refine Od ?_ rfl (.inr ⟨(k.toNat : Int), (some ⟨ga, 0, none⟩), 2, cap, HP.out, rfl, ?_⟩)
       ·simp [results, Tryz.results71, go_sem, hC, EK.out]
       ·repeat' (with_reducible first | exact hE | refine Ex.setCell ?_ (by simp <;> omega) _)
      ·have HP : Hid (Zo (k :: t) = some (k, [p, q])) := Oi (by rw [Zi HNN.out, hk97]; simp [Yv, hw1, hw2])
       clear HNN
       clear hk97
       have kw1 := fun w => Xg q 1 100 w
       rw [hw1] at kw1
       have kw2 := fun w => Xg p 0 q w
       rw [hw2] at kw2
       clear hw1 hw2
       have KW1 := Oi kw1
       have KW2 := Oi kw2
       clear kw1 kw2
       have hS : Zw w wr _ := Zw.put (Zw.put (⟨HE.out, trivial⟩ : Zw w wr []) bR) bP
       replace hS := Zw.put hS bA
       have hC := hS.reads
       simp only [Zz, Zy] at hC
       have hE := hS.ex
       go_upto_region 27 with fail
       clear hC hE
       refine Yw (St := fun _ _ => True) false (B := fun b w2 => Zw w w2 [(ga, 3, ca), (w.heap.size + 2, 115, #[.int .u8 C, .slice (some ⟨ga, 0, none⟩) 2 cap]), (w.heap.size, 115, if b then #[.int .u8 C, .slice (some ⟨ga, 0, none⟩) 2 cap] else #[.int .u8 0, .slice none 0 0])]) (by kernel_rfl) (by kernel_rfl) (hS.drewW) ?_
       iterate 8 (apply Zx; (· rfl); (· intro b wb hB Q1 hQ1; have hS := hB; have hC := hS.reads; simp only [Zz, Zy] at hC; go_wp2_with fail; exact hQ1 _ trivial hB); (· exact ⟨_, rfl⟩))
       (apply Zx; (· rfl); (· intro b wb hB Q1 hQ1; go_wp2_with (go_at_call 102; (with_reducible refine (KW1.out _).mono ?_); rintro e wn ⟨rfl, rfl⟩); exact hQ1 _ trivial hB); (· exact ⟨_, rfl⟩))
       iterate 10 (apply Zx; (· rfl); (· intro b wb hB Q1 hQ1; have hS := hB; have hC := hS.reads; simp only [Zz, Zy] at hC; go_wp2_with fail; exact hQ1 _ trivial hB); (· exact ⟨_, rfl⟩))
       (apply Zx; (· rfl); (· intro b wb hB Q1 hQ1; go_wp2_with (go_at_call 102; (with_reducible refine (KW2.out _).mono ?_); rintro e wn ⟨rfl, rfl⟩); exact hQ1 _ trivial hB); (· exact ⟨_, rfl⟩))
       (apply Zx; (· rfl); (· intro b wb hB Q1 hQ1; go_wp2_with fail; exact hQ1 _ trivial hB); (· exact ⟨_, rfl⟩))
       apply Zs (d := true)
       ·rfl
       ·intro b wb hB Q1 hQ1
        have hB2 := Zw.ret2 (by omega) (by omega) hB
        have hS := hB
        have hC := hS.reads
        simp only [Zz, Zy] at hC
        rcases b with _ | _
        ·simp only [Bool.false_eq_true, if_false] at hC
         go_wp2_with fail
         exact hQ1 _ trivial hB2
        ·simp only [if_true] at hC
         go_wp2_with fail
         exact hQ1 _ trivial hB2
       ·exact ⟨undef, rfl⟩
       (apply Zx; (· rfl); (· intro b wb hB Q1 hQ1; go_wp2_with fail; exact hQ1 _ trivial hB); (· exact ⟨_, rfl⟩))
       refine Zv ?_
       intro wy hy
       simp only [Bool.or_true, Bool.or_false, Bool.false_or, if_true] at hy
       have hC := hy.reads
       simp only [Zz, Zy] at hC
       have hE := hy.ex
       have hbA := hy.boxes.1
       have hl1 := hy.boxes.2.1.lt
       go_wp2_with fail
       refine Od ?_ rfl (.inl ⟨⟨k, ga, cap, ca, [p, q], ⟨#[]⟩⟩, HP.out, rfl, ⟨?_, ?_⟩, ?_⟩)
       ·simp [results, Tryz.results71, go_sem, hC, Pc.ci, Pc.cs, EK.out]
       ·repeat' (with_reducible first | exact hbA | refine Box.far ?_ (by simp <;> omega) _)
       ·exact HCA.out
       ·repeat' (with_reducible first | exact hE | refine Ex.setCell ?_ (by simp <;> omega) _)
    ·have hnI : ((ns.length : Int) == 2) = false := by rw [beq_eq_false_iff_ne]; omega
     have hnI2 : ¬ (ns.length : Int) = 2 := by omega
     have HP : Hid (Zo (k :: t) = none) := Oi (by rw [Zi HNN.out, hk97]; simp [Yv, hn])
     clear hn HNN HO
     clear hk97
     have hS : Zw w wr _ := Zw.put (Zw.put (⟨HE.out, trivial⟩ : Zw w wr []) bR) bP
     have hC := hS.reads
     simp only [Zz, Zy] at hC
     have hE := hS.ex
     go_upto_region 27 with fail
     clear hC hE
     refine Yw (St := fun _ _ => True) false (B := fun b w2 => Zw w w2 [(w.heap.size + 2, 115, #[.int .u8 C, .slice A ns.length cap]), (w.heap.size, 115, if b then #[.int .u8 C, .slice A ns.length cap] else #[.int .u8 0, .slice none 0 0])]) (by kernel_rfl) (by kernel_rfl) (hS.drewW) ?_
     iterate 4 (apply Zx; (· rfl); (· intro b wb hB Q1 hQ1; have hS := hB; have hC := hS.reads; simp only [Zz, Zy] at hC; go_wp2_with fail; exact hQ1 _ trivial hB); (· exact ⟨_, rfl⟩))
     refine Zr (by rfl) (by simp only [Act.put, Og, Of, Oe]; rfl) ?_
     refine Zr (by rfl) (by simp only [Act.put, Og, Of, Oe]; rfl) ?_
     refine Zr (by rfl) (by simp only [Act.put, Og, Of, Oe]; rfl) ?_
     refine Zr (by rfl) (by simp only [Act.put, Og, Of, Oe]; rfl) ?_
     refine Zr (by rfl) (by simp only [Act.put, Og, Of, Oe]; rfl) ?_
     iterate 2 (apply Zx; (· rfl); (· intro b wb hB Q1 hQ1; go_wp2_with fail; exact hQ1 _ trivial hB); (· exact ⟨_, rfl⟩))
     refine Zr (by rfl) (by simp only [Act.put, Og, Of, Oe]; rfl) ?_
     refine Zr (by rfl) (by simp only [Act.put, Og, Of, Oe]; rfl) ?_
     refine Zr (by rfl) (by simp only [Act.put, Og, Of, Oe]; rfl) ?_
     refine Zr (by rfl) (by simp only [Act.put, Og, Of, Oe]; rfl) ?_
     refine Zr (by rfl) (by simp only [Act.put, Og, Of, Oe]; rfl) ?_
     refine Zr (by rfl) (by simp only [Act.put, Og, Of, Oe]; rfl) ?_
     refine Zr (by rfl) (by simp only [Act.put, Og, Of, Oe]; rfl) ?_
     refine Zr (by rfl) (by simp only [Act.put, Og, Of, Oe]; rfl) ?_
     refine Zr (by rfl) (by simp only [Act.put, Og, Of, Oe]; rfl) ?_
     (apply Zx; (· rfl); (· intro b wb hB Q1 hQ1; go_wp2_with fail; exact hQ1 _ trivial hB); (· exact ⟨_, rfl⟩))
     apply Zs (d := true)
     ·rfl
     ·intro b wb hB Q1 hQ1
      have hB2 := Zw.ret2n (by omega) hB
      have hS := hB
      have hC := hS.reads
      simp only [Zz, Zy] at hC
      rcases b with _ | _
      ·simp only [Bool.false_eq_true, if_false] at hC
       go_wp2_with fail
       exact hQ1 _ trivial hB2
      ·simp only [if_true] at hC
       go_wp2_with fail
       exact hQ1 _ trivial hB2
     ·exact ⟨undef, rfl⟩
     (apply Zx; (· rfl); (· intro b wb hB Q1 hQ1; go_wp2_with fail; exact hQ1 _ trivial hB); (· exact ⟨_, rfl⟩))
     refine Zv ?_
     intro wy hy
     simp only [Bool.or_true, Bool.or_false, Bool.false_or, if_true] at hy
     have hC := hy.reads
     simp only [Zz, Zy] at hC
     have hE := hy.ex
     go_wp2_with fail
     refine Od ?_ rfl (.inr ⟨(k.toNat : Int), A, ns.length, cap, HP.out, rfl, ?_⟩)
     ·simp [results, Tryz.results71, go_sem, hC, EK.out]
     ·repeat' (with_reducible first | exact hE | refine Ex.setCell ?_ (by simp <;> omega) _)
end
section
open Go.RowKit

attribute [local go_sem] Zq Zp
theorem iReadPiece (l : List UInt8) (hl : l.length ≤ 1048576) (w : World) (hm : Xm w) : Calls Tryz.prog 69 #[.string (Bs l)] w (Ra w l) := by
 cases l with
 | nil =>
  have he : Bs [] = (⟨#[]⟩ : ByteArray) := rfl
  rw [he]
  clear hm
  have hS := Zw.refl w
  have hC := True.intro
  go_enter Tryz.func69, Tryz.ntmps69
  go_wp2
  refine Od ?_ rfl (.inr ⟨0, none, 0, 0, ⟨#[]⟩, rfl, rfl, ?_⟩)
  ·simp [results, Tryz.results69, go_sem]
  ·repeat' (with_reducible first | exact hS.ex | exact Ex.refl _ | assumption | apply Ex.alloc | apply Ex.drewN | apply Ex.drew | refine Ex.setCell ?_ (by simp <;> omega) _)
 | cons k t =>
  by_cases h1 : k = 114
  ·exact Su 114 (.inl rfl) k t h1 hl w hm
  by_cases h2 : k = 119
  ·exact Ot k t h2 hl w hm
  by_cases h3 : k = 102
  ·exact Su 102 (.inr rfl) k t h3 hl w hm
  by_cases h4 : k = 97
  ·exact Ss 97 (.inl rfl) k t h4 hl w hm
  by_cases h5 : k = 100
  ·exact Ss 100 (.inr rfl) k t h5 hl w hm
  exact Qb k t h2 h1 h3 h4 h5 hl w hm
theorem Rt (l : List UInt8) (h : l.length < 2) (w : World) : Calls Tryz.prog 71 #[.string (Bs l)] w (Sn w l) := by
 have hsz : ((Bs l).size : Int) < 2 := by rw [Zd]; omega
 have hn := pieceOf_short h
 generalize Bs l = S at hsz ⊢
 have HN := Oi hn
 clear hn h
 have hS := Zw.refl w
 have hC := True.intro
 go_enter Tryz.func71, Tryz.ntmps71
 go_wp2
 refine Od ?_ rfl (.inr ⟨0, none, 0, 0, HN.out, rfl, ?_⟩)
 ·simp [results, Tryz.results71, go_sem]
 ·repeat' (with_reducible first | exact hS.ex | exact Ex.refl _ | assumption | apply Ex.alloc | apply Ex.drewN | apply Ex.drew | refine Ex.setCell ?_ (by simp <;> omega) _)
theorem sL7One (l : List UInt8) (hl : l.length ≤ 1048576) (w : World) : Calls Tryz.prog 71 #[.string (Bs l)] w (Sn w l) := by
 match l, hl with
 | [], _ => exact Rt [] (by decide) w
 | [k], _ => exact Rt [k] (by simp) w
 | k :: c :: t, hl =>
  have ht0 : c :: t ≠ [] := by simp
  by_cases h1 : k = 114
  ·exact sL7One_rf 114 (.inl rfl) k _ ht0 h1 hl w
  by_cases h2 : k = 119
  ·exact sL7One_119 k _ ht0 h2 hl w
  by_cases h3 : k = 102
  ·exact sL7One_rf 102 (.inr rfl) k _ ht0 h3 hl w
  by_cases h4 : k = 97
  ·exact sL7One_ad 97 (.inl rfl) k _ ht0 h4 hl w
  by_cases h5 : k = 100
  ·exact sL7One_ad 100 (.inr rfl) k _ ht0 h5 hl w
  exact sL7One_else k _ ht0 h2 h1 h3 h4 h5 hl w
theorem Ua (l : List UInt8) (hl : l.length ≤ 1048576) (w : World) (hm : Xm w) : Calls Tryz.prog 25 #[.string (Bs l)] w (Tg Yb w l) := iReadBench_of iReadPiece l hl w hm
theorem sL7Bench (l : List UInt8) (hl : l.length ≤ 1048576) (w : World) : Calls Tryz.prog 26 #[.string (Bs l)] w (BnGot Xt w l) := sL7Bench_of sL7One l hl w
end
section
open Go.RowKit

attribute [local go_sem] Zq Zp
theorem Om (st : Con → List UInt8 → Con × List UInt8) (Q : Con → Prop) (text : List UInt8) (hl : text.length ≤ 700) (hQ : Q Con.new) (hL : ∀ l ∈ (lns text).dropLast, Qv st Q l)
  (hP : ∀ c, Q c → ∀ w, Ym w → Xm w → Calls Tryz.prog 13 #[.string (Bs c.b)] w fun e w' => e = .returned (.int .i64 (Wk c.b)) ∧ Ex w w') (w : World) [hG : Ym w] (hm : Xm w) :
  Calls Tryz.prog 9 #[.string (Bs text)] w fun e w' => e = .returned (.string (Bs (exec st text))) ∧ Ex w w' := by
 have KL := Oi (fun w hm => splitN_any text (by omega) w hm)
 obtain ⟨R, HR⟩ : ∃ R, Hid (R = Rr st Con.new (lns text).dropLast []) := ⟨_, Oi rfl⟩
 have HE : Hid (exec st text = said R) := Oi (by rw [HR.out]; rfl)
 have hn1 : 1 ≤ (lns text).length := by have := List.length_pos_iff.2 (lns_ne text); omega
 have hn2 : (lns text).length ≤ 701 := by have := lns_len text; omega
 have HB := Oi (fun x (hx : x ∈ (lns text).dropLast) => lns_bytes text x (List.dropLast_subset _ hx))
 have HLN : Hid ((lns text).dropLast.length = (lns text).length - 1) := Oi List.length_dropLast
 have HAT : Hid (∀ k (h : k < (lns text).dropLast.length), (Yd (lns text)).toArray[k]? = some (.string (Bs (lns text).dropLast[k]))) := Oi fun k h => by
  have h2 : k < (lns text).length := by have := HLN.out; omega
  simp [Yd, List.getElem?_eq_getElem h2]
 have hsz : (Bs text).size = text.length := Zd text
 have HM := Oi hm
 have HG := Oi hG
 have HP := Oi hP
 have HL := Oi hL
 have HQ0 := Oi hQ
 clear hm hP hL hQ
 generalize Bs text = S at *
 generalize exec st text = RES at *
 generalize hll : (lns text).length = n1 at *
 generalize hld : (lns text).dropLast = ls at *
 generalize hlc : (Yd (lns text)).toArray = lc at *
 clear hll hld hlc
 have hsz2 : ¬ (700 : Int) < (S.size : Int) := by omega
 have HSZ := Oi hsz
 clear hsz
 have hs1 : IntKind.i64.wrap ((n1 : Int) - 1) = ((n1 - 1 : Nat) : Int) := by have := Oc ((n1 : Int) - 1) (by omega); rw [this]; omega
 have hs2 : (0 : Int) ≤ ((n1 - 1 : Nat) : Int) := by omega
 have hs3 : ((n1 - 1 : Nat) : Int) ≤ (n1 : Int) := by omega
 have hg := hG.reads
 have hR := Zw.refl w
 go_enter Tryz.func9, Tryz.ntmps9
 go_upto_region 5 with fail
 have bC : Box ((w.alloc (.cells #[.string ⟨#[]⟩, .int .i64 1, .int .i64 0, .int .i64 1, .int .i64 0, .int .i64 0, .int .i64 1] 67)).alloc (.cells #[.pointer none, .slice none 0 0] 70)) w.heap.size 67 #[.string ⟨#[]⟩, .int .i64 1, .int .i64 0, .int .i64 1, .int .i64 0, .int .i64 0, .int .i64 1] := (Box.new w _ _).alloc _
 have bB : Box ((w.alloc (.cells #[.string ⟨#[]⟩, .int .i64 1, .int .i64 0, .int .i64 1, .int .i64 0, .int .i64 0, .int .i64 1] 67)).alloc (.cells #[.pointer none, .slice none 0 0] 70)) (w.heap.size + 1) 70 #[.pointer none, .slice none 0 0] := by
  have h := Box.new (w.alloc (.cells #[.string ⟨#[]⟩, .int .i64 1, .int .i64 0, .int .i64 1, .int .i64 0, .int .i64 0, .int .i64 1] 67)) #[.pointer none, .slice none 0 0] 70
  rwa [Oh] at h
 have hE1 : Ex w ((w.alloc (.cells #[.string ⟨#[]⟩, .int .i64 1, .int .i64 0, .int .i64 1, .int .i64 0, .int .i64 0, .int .i64 1] 67)).alloc (.cells #[.pointer none, .slice none 0 0] 70)) := ((Ex.refl w).alloc _).alloc _
 have hz1 : ((w.alloc (.cells #[.string ⟨#[]⟩, .int .i64 1, .int .i64 0, .int .i64 1, .int .i64 0, .int .i64 0, .int .i64 1] 67)).alloc (.cells #[.pointer none, .slice none 0 0] 70)).heap.size = w.heap.size + 2 := by simp only [Oh]
 generalize (w.alloc (.cells #[.string ⟨#[]⟩, .int .i64 1, .int .i64 0, .int .i64 1, .int .i64 0, .int .i64 0, .int .i64 1] 67)).alloc (.cells #[.pointer none, .slice none 0 0] 70) = W1 at *
 clear hR hg
 go_wp2_with fail
 refine (KL.out _ (HM.out.ex hE1)).mono ?_
 rintro e w2 ⟨rfl, rfl⟩
 have hS : ExS w (W1.alloc (.cells lc 9)) w.heap.size (w.heap.size + 1) W1.heap.size (w.heap.size + 1) Con.new [] (.pointer none) (.slice none 0 0) lc :=
  ⟨hE1.alloc _, bC.alloc _, ⟨bB.alloc _, ⟨by simp [Lib.byteCells], .inl ⟨rfl, rfl⟩⟩, .inl rfl⟩, Box.new W1 lc _⟩
 have hsz0 : w.heap.size + 1 ≤ (W1.alloc (.cells lc 9)).heap.size := by rw [Oh]; omega
 have hb1 : w.heap.size ≠ W1.heap.size := by omega
 have hb2 : w.heap.size + 1 ≠ W1.heap.size := by omega
 have HB1 := Oi hb1
 have HB2 := Oi hb2
 have HS0 := Oi hS
 generalize W1.alloc (.cells lc 9) = W2 at *
 generalize W1.heap.size = bl at *
 clear hE1 bC bB hz1 hS KL hb1 hb2
 go_wp2_with fail
 go_loopw [32, 7, 8, 9, 10, 11, 12, 13] (fun i _ _ _ _ _ _ _ wr => ∃ (k : Nat) (c : Con) (o : List UInt8) (p v : Value), i = .int .i64 k ∧ k ≤ ls.length ∧ Hid (R = Rr st c (ls.drop k) o) ∧ Hid (Q c) ∧ o.length ≤ 10001 * k ∧ Hid (ExS w wr w.heap.size (w.heap.size + 1) bl (w.heap.size + 1) c o p v lc)) (fun i _ _ _ _ _ _ _ _ => 702 - (intOf i).toNat)
 case atStart => exact ⟨0, Con.new, [], _, _, rfl, by omega, HR, HQ0, by simp, HS0⟩
 case round =>
  clear HS0 HR HQ0 hsz0
  obtain ⟨k, c, o, p, v, rfl, hk, HR, HQ, ho, HS⟩ := hrel
  have hsz0 := HS.out.ex.size
  have hlo : w.heap.size + 1 ≤ wr.heap.size := by have := HS.out.bld.box.lt; omega
  by_cases hlt : k < ls.length
  ·have hI : (k : Int) < ((n1 - 1 : Nat) : Int) := by have := HLN.out; omega
   have hw5 : IntKind.i64.wrap ((k : Int) + 1) = (k : Int) + 1 := Oc _ (by have := HLN.out; omega)
   have d0 := (HS.out.lines.cell k).trans (HAT.out k hlt)
   have hmem := List.getElem_mem hlt
   have hll := HB.out _ hmem
   have HST := Oi (crun_step st hlt c o)
   obtain ⟨hQ2, hr2, hcall⟩ := HL.out _ hmem c HQ.out
   have HK := Oi hlt
   clear hmem
   generalize ls[k] = l at d0 hll HST hQ2 hr2 hcall
   clear hlt HQ
   have KC := Oi (fun w hm => cutl_any l (by omega) w hm)
   generalize Sx l = cc at KC hcall
   obtain ⟨x, y, f⟩ := cc
   generalize st c l = r at HST hQ2 hr2 hcall
   generalize Bs l = LN at d0 KC
   simp only at KC hcall
   generalize Bs x = X at KC hcall
   generalize Bs y = Y at KC hcall
   have HCALL := Oi hcall
   have HQ2 := Oi hQ2
   have HR2 : Hid (R = Rr st r.1 (ls.drop (k + 1)) (o ++ (r.2 ++ [10]))) := Oi (HR.out.trans HST.out)
   clear hcall hQ2 HR HST hll
   go_wp2_with fail
   refine (KC.out _ (HM.out.ex HS.out.ex)).mono ?_
   rintro e w3 ⟨rfl, hx⟩
   have HS3 := Oi (HS.out.go hx)
   have hsz3 : w.heap.size + 1 ≤ w3.heap.size := Nat.le_trans hlo hx.size
   clear hx HS d0 hlo hsz0 KC
   rcases f with _ | _
   all_goals
    simp only [Bool.false_eq_true, if_false, if_true] at HCALL
    go_wp2_with fail
    refine (HCALL.out _ _ (HG.out.ex HS3.out.ex) (HM.out.ex HS3.out.ex) HS3.out.con).mono ?_
    rintro e w4 ⟨a, ok, told, rfl, hans, hg4, hb4⟩
    have HS4 := Oi (HS3.out.ans (Nat.le_refl _) (by omega) (fun e => HB1.out e.symm) (by omega) hg4 hb4)
    have hsz4 : w.heap.size + 1 ≤ w4.heap.size := Nat.le_trans hsz3 hg4.size
    clear HCALL hg4 hb4 HS3 hsz3
    obtain ⟨A, HA⟩ : ∃ A, Hid (A = answer a ok told) := ⟨_, Oi rfl⟩
    have HT : Hid (A ++ ⟨#[10]⟩ = Bs (r.2 ++ [10])) := Oi (by rw [HA.out, hans]; exact Vs r.2 [10])
    have HTS : Hid ((A ++ ⟨#[10]⟩).size ≤ 10001) := Oi (by rw [HT.out, Zd, List.length_append]; simp; omega)
    clear hans
    rcases told with _ | _
    rotate_left
    rcases ok with _ | _
    all_goals
     simp only [answer, Bool.false_eq_true, if_false, if_true] at HA
     rw [HA.out] at HT HTS
     clear HA
     have hzA := HTS.out
     rw [ByteArray.size_append, show (⟨#[10]⟩ : ByteArray).size = 1 from rfl] at hzA
     go_wp2_with fail
     refine (ws_any _ _ _ _ _ _ _ HS4.out.bld hsz4 ?_).mono ?_
     ·rw [Lib.byteCells_length]; have := HTS.out; have := HLN.out; have := HK.out; omega
     rintro e w5 ⟨rfl, v5, hb5, hk5⟩
     rw [HT.out] at hb5
     have HS5 := Oi (HS4.out.wrote (by omega) (by omega) (by omega) (fun e => HB2.out e.symm) hb5 hk5)
     clear hb5 hk5 HS4 hsz4
     go_wp2_with fail
     go_roundw
     case rel => exact ⟨k + 1, r.1, _, _, _, by go_num, by have := HK.out; omega, HR2, HQ2, by simp; omega, HS5⟩
     case measure => have := HK.out; have := HLN.out; simp [intOf]; omega
  ·obtain rfl : k = ls.length := by omega
   have hI : ¬ ((ls.length : Nat) : Int) < ((n1 - 1 : Nat) : Int) := by have := HLN.out; omega
   have HRE : Hid (R = (c, o)) := Oi (HR.out.trans (crun_end st c ls o))
   have c0 := HS.out.con.cell
   have z0 := HS.out.con.lt
   have hbd := bpcs_bd c.b
   have kp := fun w hg hm => HP.out c HQ.out w hg hm
   have HEE : Hid (RES = o ++ ([112, 105, 101, 99, 101, 115, 32] ++ (Lib.itoa (Wk c.b) ++ [10]))) := Oi (by rw [HE.out, HRE.out]; rfl)
   unfold Con.cells at c0
   clear HRE HE HR HQ hlt HL HAT HB
   generalize Wk c.b = n at *
   generalize Bs c.b = CB at kp c0
   have KP := Oi kp
   clear kp
   go_wp2_with fail
   refine (KP.out _ (HG.out.ex HS.out.ex) (HM.out.ex HS.out.ex)).mono ?_
   rintro e w3 ⟨rfl, hx⟩
   have HS3 := Oi (HS.out.go hx)
   have hsz3 : w.heap.size + 1 ≤ w3.heap.size := Nat.le_trans hlo hx.size
   clear hx HS c0 z0 hlo hsz0 KP
   go_wp2_with fail
   refine (Sa n (by omega) (by omega) _ (HM.out.ex HS3.out.ex).tab).mono ?_
   rintro e w4 ⟨rfl, hx⟩
   have HS4 := Oi (HS3.out.go hx)
   have hsz4 : w.heap.size + 1 ≤ w4.heap.size := Nat.le_trans hsz3 hx.size
   clear hx HS3 hsz3
   have hil := Ur n (by omega) (by omega)
   have HT : Hid ((⟨#[112, 105, 101, 99, 101, 115, 32]⟩ : ByteArray) ++ Bs (Lib.itoa n) ++ ⟨#[10]⟩ = Bs ([112, 105, 101, 99, 101, 115, 32] ++ (Lib.itoa n ++ [10]))) := Oi (by
    rw [← List.append_assoc, ← Vs, ← Vs]
    rfl)
   have HTS : Hid (((⟨#[112, 105, 101, 99, 101, 115, 32]⟩ : ByteArray) ++ Bs (Lib.itoa n) ++ ⟨#[10]⟩).size ≤ 100) := Oi (by rw [HT.out, Zd]; simp; omega)
   have hzI : (Bs (Lib.itoa n)).size ≤ 21 := by rw [Zd]; exact hil
   generalize Bs (Lib.itoa n) = IT at HT HTS hzI ⊢
   go_wp2_with fail
   refine (ws_any _ _ _ _ _ _ _ HS4.out.bld hsz4 ?_).mono ?_
   ·rw [Lib.byteCells_length]; have := HTS.out; have := HLN.out; omega
   rintro e w5 ⟨rfl, v5, hb5, hk5⟩
   rw [HT.out] at hb5
   have HS5 := Oi (HS4.out.wrote (by omega) (by omega) (by omega) (fun e => HB2.out e.symm) hb5 hk5)
   have hsz5 : w.heap.size + 1 ≤ w5.heap.size := Nat.le_trans hsz4 hk5.size
   rw [← HEE.out] at HS5
   clear hb5 hk5 HS4 hsz4
   go_wp2_with fail
   have hB := HS5.out.bld
   refine (Tryz.Builder_String_any (w.heap.size + 1) (w.heap.size + 1) RES w5 (.inr ⟨Nat.le_refl _, v5, hB.box, by have := hB.own; rw [Lib.byteCells_length] at this ⊢; exact this, fun e => Own.ne hB.own hB.box (by decide) e.symm⟩) hsz5).mono ?_
   rintro e w6 ⟨rfl, hb6⟩
   go_wp2
   refine Od (v := .string (Bs RES)) ?_ rfl ⟨rfl, Below.trans HS5.out.ex (Below.mono hb6 (by omega))⟩
   simp [results, Tryz.results9, go_sem]
   rfl
end
section
open Go.RowKit

attribute [local go_sem] Zq Zp
def StrD (m c bo : Nat) (A : Option Addr) (n cap a : Nat) (w : World) : Ending → World → Prop := fun e w' =>
 ∃ (s : ByteArray) (a' : Nat), e = .returned (.string s) ∧ s.size ≤ m ∧ a' ≤ a + c ∧ Dr bo w w' ∧ Rdr w' bo A n cap a'
theorem l92Piece_any (fb : Bool) {W : World} {A : Option Addr} {bs : List Int} (hB : Vt W A bs) (hl : bs.length ≤ 2000) (bo cap a : Nat) (w : World) (hE : Ex W w) (hbo : W.heap.size ≤ bo)
  (hb : Rdr w bo A bs.length cap a) (ha : a ≤ 900000) : Calls Tryz.prog 67 #[.pointer (some ⟨bo, 0, none⟩), .bool fb] w (StrD 20 10 bo A bs.length cap a w) := by
 have HP := Oi (fun a m w hE hb ha hm hm2 => Ps hB hl bo cap a m w hE hbo hb ha hm hm2)
 have hD := Dr.refl bo w
 clear hB hl
 go_enter Tryz.func67, Tryz.ntmps67
 go_wp2_with fail
 refine (HP.out a 5 _ hE hb (by omega) (by omega) (by omega)).mono ?_
 rintro e u1 ⟨v1, rfl, hv1a, hv1b, hd, hb2⟩
 replace hE := hd.ex W hE hbo
 replace hD := hD.trans hd
 replace hb := hb2
 clear hd hb2
 have w1 : IntKind.i64.wrap (v1 - 2) = v1 - 2 := Oc _ (by omega)
 go_wp2_with fail
 refine (Wm (v1 - 2) (by omega) (by omega) _).mono ?_
 rintro e u2 ⟨rfl, hx⟩
 replace hE := hE.trans hx
 replace hD := hD.trans (Dr.of_ex hx)
 replace hb : Rdr u2 bo A bs.length cap (a + 1) := Box.ex hb hx
 clear hx
 have hzP := Yg (n := v1 - 2) (by omega) (by omega)
 obtain ⟨P, hP⟩ : ∃ S, S = Bs (Lib.itoa (v1 - 2)) := ⟨_, rfl⟩
 rw [← hP]
 have hzP2 : P.size ≤ 4 := by rw [hP, Zd]; exact hzP
 clear hP hzP
 go_wp2_with fail
 refine (HP.out (a + 1) 2 _ hE hb (by omega) (by omega) (by omega)).mono ?_
 rintro e u3 ⟨v2, rfl, hv2a, hv2b, hd, hb2⟩
 replace hE := hd.ex W hE hbo
 replace hD := hD.trans hd
 replace hb := hb2
 clear hd hb2
 have w2 : IntKind.i64.wrap (1 + v2) = 1 + v2 := Oc _ (by omega)
 go_wp2_with fail
 refine (Wm (1 + v2) (by omega) (by omega) _).mono ?_
 rintro e u4 ⟨rfl, hx⟩
 replace hE := hE.trans hx
 replace hD := hD.trans (Dr.of_ex hx)
 replace hb : Rdr u4 bo A bs.length cap ((a + 1) + 1) := Box.ex hb hx
 clear hx
 have hzQ := Yg (n := 1 + v2) (by omega) (by omega)
 obtain ⟨Q, hQ⟩ : ∃ S, S = Bs (Lib.itoa (1 + v2)) := ⟨_, rfl⟩
 rw [← hQ]
 have hzQ2 : Q.size ≤ 4 := by rw [hQ, Zd]; exact hzQ
 clear hQ hzQ
 go_wp2_with fail
 refine (HP.out ((a + 1) + 1) 5 _ hE hb (by omega) (by omega) (by omega)).mono ?_
 rintro e u5 ⟨v3, rfl, hv3a, hv3b, hd, hb2⟩
 replace hE := hd.ex W hE hbo
 replace hD := hD.trans hd
 replace hb := hb2
 clear hd hb2
 obtain rfl | rfl | rfl | rfl | rfl : v3 = 0 ∨ v3 = 1 ∨ v3 = 2 ∨ v3 = 3 ∨ v3 = 4 := by omega
 ·go_wp2
  go_ret
  refine ⟨_, _, rfl, ?_, by omega, hD, hb⟩
  simp only [ByteArray.size_append]
  have l1 : (⟨#[58]⟩ : ByteArray).size = 1 := rfl
  have l2 : ∀ c : UInt8, (⟨#[c]⟩ : ByteArray).size = 1 := fun _ => rfl
  simp only [l2]
  omega
 ·go_wp2_with fail
  refine (HP.out (((a + 1) + 1) + 1) 4 _ hE hb (by omega) (by omega) (by omega)).mono ?_
  rintro e u6 ⟨v4, rfl, hv4a, hv4b, hd, hb2⟩
  replace hE := hd.ex W hE hbo
  replace hD := hD.trans hd
  replace hb := hb2
  clear hd hb2
  go_wp2_with fail
  refine (Wm (v4) (by omega) (by omega) _).mono ?_
  rintro e u7 ⟨rfl, hx⟩
  replace hE := hE.trans hx
  replace hD := hD.trans (Dr.of_ex hx)
  replace hb : Rdr u7 bo A bs.length cap ((((a + 1) + 1) + 1) + 1) := Box.ex hb hx
  clear hx
  have hzR := Yg (n := v4) (by omega) (by omega)
  obtain ⟨R, hR⟩ : ∃ S, S = Bs (Lib.itoa (v4)) := ⟨_, rfl⟩
  rw [← hR]
  have hzR2 : R.size ≤ 4 := by rw [hR, Zd]; exact hzR
  clear hR hzR
  go_wp2
  go_ret
  refine ⟨_, _, rfl, ?_, by omega, hD, hb⟩
  simp only [ByteArray.size_append]
  have l1 : (⟨#[58]⟩ : ByteArray).size = 1 := rfl
  have l2 : ∀ c : UInt8, (⟨#[c]⟩ : ByteArray).size = 1 := fun _ => rfl
  simp only [l2]
  omega
 ·go_wp2_with fail
  refine (HP.out (((a + 1) + 1) + 1) 4 _ hE hb (by omega) (by omega) (by omega)).mono ?_
  rintro e u6 ⟨v4, rfl, hv4a, hv4b, hd, hb2⟩
  replace hE := hd.ex W hE hbo
  replace hD := hD.trans hd
  replace hb := hb2
  clear hd hb2
  go_wp2_with fail
  refine (Wm (v4) (by omega) (by omega) _).mono ?_
  rintro e u7 ⟨rfl, hx⟩
  replace hE := hE.trans hx
  replace hD := hD.trans (Dr.of_ex hx)
  replace hb : Rdr u7 bo A bs.length cap ((((a + 1) + 1) + 1) + 1) := Box.ex hb hx
  clear hx
  have hzR := Yg (n := v4) (by omega) (by omega)
  obtain ⟨R, hR⟩ : ∃ S, S = Bs (Lib.itoa (v4)) := ⟨_, rfl⟩
  rw [← hR]
  have hzR2 : R.size ≤ 4 := by rw [hR, Zd]; exact hzR
  clear hR hzR
  go_wp2
  go_ret
  refine ⟨_, _, rfl, ?_, by omega, hD, hb⟩
  simp only [ByteArray.size_append]
  have l1 : (⟨#[58]⟩ : ByteArray).size = 1 := rfl
  have l2 : ∀ c : UInt8, (⟨#[c]⟩ : ByteArray).size = 1 := fun _ => rfl
  simp only [l2]
  omega
 ·go_wp2
  go_ret
  refine ⟨_, _, rfl, ?_, by omega, hD, hb⟩
  simp only [ByteArray.size_append]
  have l1 : (⟨#[58]⟩ : ByteArray).size = 1 := rfl
  have l2 : ∀ c : UInt8, (⟨#[c]⟩ : ByteArray).size = 1 := fun _ => rfl
  simp only [l2]
  omega
 ·go_wp2_with fail
  refine (HP.out (((a + 1) + 1) + 1) 4 _ hE hb (by omega) (by omega) (by omega)).mono ?_
  rintro e u6 ⟨v4, rfl, hv4a, hv4b, hd, hb2⟩
  replace hE := hd.ex W hE hbo
  replace hD := hD.trans hd
  replace hb := hb2
  clear hd hb2
  have w3 : IntKind.i64.wrap (1 + v4) = 1 + v4 := Oc _ (by omega)
  have w4 : IntKind.i64.wrap (1 + v4 + 1) = 1 + v4 + 1 := Oc _ (by omega)
  skip
  rcases fb with _ | _
  ·go_wp2_with fail
   refine (HP.out ((((a + 1) + 1) + 1) + 1) (1 + v4 + 1) _ hE hb (by omega) (by omega) (by omega)).mono ?_
   rintro e u7 ⟨v5, rfl, hv5a, hv5b, hd, hb2⟩
   replace hE := hd.ex W hE hbo
   replace hD := hD.trans hd
   replace hb := hb2
   clear hd hb2
   go_wp2_with fail
   refine (Wm (v5) (by omega) (by omega) _).mono ?_
   rintro e u8 ⟨rfl, hx⟩
   replace hE := hE.trans hx
   replace hD := hD.trans (Dr.of_ex hx)
   replace hb : Rdr u8 bo A bs.length cap (((((a + 1) + 1) + 1) + 1) + 1) := Box.ex hb hx
   clear hx
   have hzR := Yg (n := v5) (by omega) (by omega)
   obtain ⟨R, hR⟩ : ∃ S, S = Bs (Lib.itoa (v5)) := ⟨_, rfl⟩
   rw [← hR]
   have hzR2 : R.size ≤ 4 := by rw [hR, Zd]; exact hzR
   clear hR hzR
   go_wp2_with fail
   refine (Wm (1 + v4) (by omega) (by omega) _).mono ?_
   rintro e u9 ⟨rfl, hx⟩
   replace hE := hE.trans hx
   replace hD := hD.trans (Dr.of_ex hx)
   replace hb : Rdr u9 bo A bs.length cap (((((a + 1) + 1) + 1) + 1) + 1) := Box.ex hb hx
   clear hx
   have hzT := Yg (n := 1 + v4) (by omega) (by omega)
   obtain ⟨T, hT⟩ : ∃ S, S = Bs (Lib.itoa (1 + v4)) := ⟨_, rfl⟩
   rw [← hT]
   have hzT2 : T.size ≤ 4 := by rw [hT, Zd]; exact hzT
   clear hT hzT
   go_wp2
   go_ret
   refine ⟨_, _, rfl, ?_, by omega, hD, hb⟩
   simp only [ByteArray.size_append]
   have l1 : (⟨#[58]⟩ : ByteArray).size = 1 := rfl
   have l2 : ∀ c : UInt8, (⟨#[c]⟩ : ByteArray).size = 1 := fun _ => rfl
   simp only [l2]
   omega
  ·go_wp2_with fail
   refine (HP.out ((((a + 1) + 1) + 1) + 1) 2 _ hE hb (by omega) (by omega) (by omega)).mono ?_
   rintro e u7 ⟨v5, rfl, hv5a, hv5b, hd, hb2⟩
   replace hE := hd.ex W hE hbo
   replace hD := hD.trans hd
   replace hb := hb2
   clear hd hb2
   by_cases h5 : v5 = 0
   ·have h5b : (v5 == 0) = true := by simpa using h5
    go_wp2_with fail
    refine (HP.out (((((a + 1) + 1) + 1) + 1) + 1) (1 + v4 + 1) _ hE hb (by omega) (by omega) (by omega)).mono ?_
    rintro e u8 ⟨v6, rfl, hv6a, hv6b, hd, hb2⟩
    replace hE := hd.ex W hE hbo
    replace hD := hD.trans hd
    replace hb := hb2
    clear hd hb2
    go_wp2_with fail
    refine (Wm (v6) (by omega) (by omega) _).mono ?_
    rintro e u9 ⟨rfl, hx⟩
    replace hE := hE.trans hx
    replace hD := hD.trans (Dr.of_ex hx)
    replace hb : Rdr u9 bo A bs.length cap ((((((a + 1) + 1) + 1) + 1) + 1) + 1) := Box.ex hb hx
    clear hx
    have hzR := Yg (n := v6) (by omega) (by omega)
    obtain ⟨R, hR⟩ : ∃ S, S = Bs (Lib.itoa (v6)) := ⟨_, rfl⟩
    rw [← hR]
    have hzR2 : R.size ≤ 4 := by rw [hR, Zd]; exact hzR
    clear hR hzR
    go_wp2_with fail
    refine (Wm (1 + v4) (by omega) (by omega) _).mono ?_
    rintro e u10 ⟨rfl, hx⟩
    replace hE := hE.trans hx
    replace hD := hD.trans (Dr.of_ex hx)
    replace hb : Rdr u10 bo A bs.length cap ((((((a + 1) + 1) + 1) + 1) + 1) + 1) := Box.ex hb hx
    clear hx
    have hzT := Yg (n := 1 + v4) (by omega) (by omega)
    obtain ⟨T, hT⟩ : ∃ S, S = Bs (Lib.itoa (1 + v4)) := ⟨_, rfl⟩
    rw [← hT]
    have hzT2 : T.size ≤ 4 := by rw [hT, Zd]; exact hzT
    clear hT hzT
    go_wp2
    go_ret
    refine ⟨_, _, rfl, ?_, by omega, hD, hb⟩
    simp only [ByteArray.size_append]
    have l1 : (⟨#[58]⟩ : ByteArray).size = 1 := rfl
    have l2 : ∀ c : UInt8, (⟨#[c]⟩ : ByteArray).size = 1 := fun _ => rfl
    simp only [l2]
    omega
   ·have h5b : (v5 == 0) = false := by simpa using h5
    go_wp2_with fail
    refine (HP.out (((((a + 1) + 1) + 1) + 1) + 1) (1 + v4 + 1) _ hE hb (by omega) (by omega) (by omega)).mono ?_
    rintro e u8 ⟨v6, rfl, hv6a, hv6b, hd, hb2⟩
    replace hE := hd.ex W hE hbo
    replace hD := hD.trans hd
    replace hb := hb2
    clear hd hb2
    go_wp2_with fail
    refine (Wm (v6) (by omega) (by omega) _).mono ?_
    rintro e u9 ⟨rfl, hx⟩
    replace hE := hE.trans hx
    replace hD := hD.trans (Dr.of_ex hx)
    replace hb : Rdr u9 bo A bs.length cap ((((((a + 1) + 1) + 1) + 1) + 1) + 1) := Box.ex hb hx
    clear hx
    have hzR := Yg (n := v6) (by omega) (by omega)
    obtain ⟨R, hR⟩ : ∃ S, S = Bs (Lib.itoa (v6)) := ⟨_, rfl⟩
    rw [← hR]
    have hzR2 : R.size ≤ 4 := by rw [hR, Zd]; exact hzR
    clear hR hzR
    go_wp2_with fail
    refine (Wm (1 + v4) (by omega) (by omega) _).mono ?_
    rintro e u10 ⟨rfl, hx⟩
    replace hE := hE.trans hx
    replace hD := hD.trans (Dr.of_ex hx)
    replace hb : Rdr u10 bo A bs.length cap ((((((a + 1) + 1) + 1) + 1) + 1) + 1) := Box.ex hb hx
    clear hx
    have hzT := Yg (n := 1 + v4) (by omega) (by omega)
    obtain ⟨T, hT⟩ : ∃ S, S = Bs (Lib.itoa (1 + v4)) := ⟨_, rfl⟩
    rw [← hT]
    have hzT2 : T.size ≤ 4 := by rw [hT, Zd]; exact hzT
    clear hT hzT
    go_wp2
    go_ret
    refine ⟨_, _, rfl, ?_, by omega, hD, hb⟩
    simp only [ByteArray.size_append]
    have l1 : (⟨#[58]⟩ : ByteArray).size = 1 := rfl
    have l2 : ∀ c : UInt8, (⟨#[c]⟩ : ByteArray).size = 1 := fun _ => rfl
    simp only [l2]
    omega
end
end Go.Proofs.YtmjggolkopbcnaaGreatDoor
