/-
  Proved: what functions compute, part 25. No condition.
-/
import Derived.Test.YtmjggolkopbcnaaGreatDoorB24
import Derived.Test.YtmjggolkopbcnaaGreatDoorB07
import Derived.Test.YtmjggolkopbcnaaGreatDoorB19
import Derived.Test.YtmjggolkopbcnaaGreatDoorB01
set_option linter.unusedSimpArgs false
set_option linter.unusedVariables false
set_option maxRecDepth 20000
set_option maxHeartbeats 8000000
namespace Go.Proofs.YtmjggolkopbcnaaGreatDoor
section
open Go.RowKit

attribute [local go_sem] Zq Zp
theorem Ot (k : UInt8) (t : List UInt8) (hk119 : k = 119) (hl : (k :: t).length ≤ 1048576) (w : World) (hm : Xm w) : Calls Tryz.prog 69 #[.string (Bs (k :: t))] w (Ra w (k :: t)) := by
 have HK119 := Oi hk119
 clear hk119
 have hlt : t.length ≤ 1048576 := by simp at hl; omega
 have hx1 := Uw k t
 obtain ⟨S, HS⟩ : ∃ S, Hid (S = Bs (k :: t)) := ⟨_, Oi rfl⟩
 have hsz : S.size = t.length + 1 := by rw [HS.out]; rfl
 obtain ⟨hs0, hk0⟩ : ∃ hs : 0 < S.size, S[0]'hs = k := by
  obtain ⟨h1, h2⟩ := Th HS.out (i := 0) (by simp)
  exact ⟨h1, h2⟩
 rw [← HS.out] at hx1 ⊢
 have hne : ¬ S = (⟨#[]⟩ : ByteArray) := fun e => by rw [e] at hs0; exact absurd hs0 (by decide)
 have hne2 : S.toList.isEmpty = false := by simpa using Vf hne
 clear hne
 have ks := fun w hm => Pu t hlt w hm
 have HW : Hid (∀ x ∈ cds t, x.length ≤ 1048576) := Oi fun x hx => by
  have h1 := Wy t x hx
  omega
 have HCL : Hid ((cds t).length ≤ 1048576) := Oi (by have h1 := Uv t; simp only [List.length_cons] at hl; omega)
 generalize hT : Bs t = T at hx1 ks
 have HM := Oi hm
 have KS := Oi ks
 have HX1 := Oi hx1
 clear hm ks hT
 have hS := Zw.refl w
 have hC := True.intro
 go_enter Tryz.func69, Tryz.ntmps69
 go_upto_region 5 with fail
 have bR := (Box.new w #[.int .u8 0, .slice none 0 0, .string ⟨#[]⟩] 85).alloc (.cells #[.int .u8 (k.toNat : Int), .slice none 0 0, .string S] 85)
 have bP := Box.new (w.alloc (.cells #[.int .u8 0, .slice none 0 0, .string ⟨#[]⟩] 85)) #[.int .u8 (k.toNat : Int), .slice none 0 0, .string S] 85
 rw [Oh] at bP
 have hE1 : Ex w ((w.alloc (.cells #[.int .u8 0, .slice none 0 0, .string ⟨#[]⟩] 85)).alloc (.cells #[.int .u8 (k.toNat : Int), .slice none 0 0, .string S] 85)) := ((Ex.refl w).alloc _).alloc _
 have hz1 : ((w.alloc (.cells #[.int .u8 0, .slice none 0 0, .string ⟨#[]⟩] 85)).alloc (.cells #[.int .u8 (k.toNat : Int), .slice none 0 0, .string S] 85)).heap.size = w.heap.size + 2 := by simp only [Oh]
 generalize (w.alloc (.cells #[.int .u8 0, .slice none 0 0, .string ⟨#[]⟩] 85)).alloc (.cells #[.int .u8 (k.toNat : Int), .slice none 0 0, .string S] 85) = W1 at *
 clear hC hS hk0
 have hs1 : (1 : Int) ≤ (S.size : Int) := by omega
 clear hsz hl hlt
 go_wp2_with fail
 refine (KS.out _ (HM.out.ex hE1)).mono ?_
 rintro e W2 ⟨g, gc, cur, rfl, hg, bG, HG, hx⟩
 replace bR := bR.ex hx
 replace bP := bP.ex hx
 have hE2 := hE1.trans hx
 have hz2 := hx.size
 clear hx hE1 KS
 go_wp2_with fail
 have hO0 : Xn W2 (w.heap.size + 2) none 0 [] := ⟨by simp, .inl ⟨rfl, rfl⟩⟩
 go_loopw [25, 6, 7, 8] (fun i f n o wr => ∃ (j : Nat) (A : Option Addr) (cap : Nat) (ns : List Int), i = .int .i64 j ∧ j ≤ (cds t).length ∧ Hid (Yu Zh ((cds t).take j) = some ns) ∧ Box wr (w.heap.size + 1) 85 #[.int .u8 (k.toNat : Int), .slice A ns.length cap, .string S] ∧
   Box wr w.heap.size 85 #[.int .u8 0, .slice none 0 0, .string ⟨#[]⟩] ∧ Box wr g 9 cur ∧ Hid (Xn wr (w.heap.size + 2) A cap ns) ∧ Hid (Ex w wr)) (fun i _ _ _ _ => (cds t).length + 1 - (intOf i).toNat)
 case atStart => exact ⟨0, none, 0, [], rfl, by omega, Oi rfl, bP, bR, bG, Oi hO0, Oi hE2⟩
 case round =>
  clear bP bR bG hO0 hE2 hz2
  obtain ⟨j, A, cap, ns, rfl, hj, HN, bP, bR, bG, HO, HE⟩ := hrel
  have hnl : ns.length ≤ 1048576 := by
   have h1 := Xz HN.out
   have h2 := List.length_take_le j (cds t)
   have h3 := HCL.out
   omega
  by_cases hlt : j < (cds t).length
  ·have hcell := HG.out j hlt
   have hmem : (cds t)[j] ∈ cds t := List.getElem_mem hlt
   have hxl := HW.out _ hmem
   have HMs : Hid (Yu Zh ((cds t).take (j + 1)) = Yu Zh ((cds t).take j ++ [(cds t)[j]])) := Oi (by rw [Yk hlt])
   generalize (cds t)[j] = x at *
   have kp := fun w hm => Sz x hxl w hm
   have hlI : (j : Int) < ((cds t).length : Int) := by omega
   have hw5 : IntKind.i64.wrap ((j : Int) + 1) = (j : Int) + 1 := Oc _ (by have := HCL.out; omega)
   obtain ⟨X, HX⟩ : ∃ X, Hid (X = Bs x) := ⟨_, Oi rfl⟩
   rw [← HX.out] at hcell kp
   have KP := Oi kp
   have HMem := Oi hmem
   have cG := bG.cell
   have zG := bG.lt
   clear kp hmem hxl
   go_wp2_with fail
   refine (KP.out _ (HM.out.ex HE.out)).mono ?_
   rintro e w2 ⟨n, ok, rfl, hx, hn⟩
   have HNn := Oi hn
   replace bP := bP.ex hx
   replace bR := bR.ex hx
   replace bG := bG.ex hx
   have HE2 := Oi (HE.out.trans hx)
   have HO2 := Oi (HO.out.ex hx)
   clear hx hn cG zG KP hcell
   have cP := bP.cell
   have fP := bP.frozen
   have zP := bP.lt
   have cR := bR.cell
   have fR := bR.frozen
   have zR := bR.lt
   rcases ok with _ | _
   ·have HNo : Hid (Zo (k :: t) = none) := Oi (Wg (Vl HNn.out HMem.out))
    go_wp2
    refine Od ?_ rfl (.inr ⟨k.toNat, A, ns.length, cap, S, HNo.out, rfl, ?_⟩)
    ·simp [results, Tryz.results69, go_sem, cP, cR]
    ·have hE := HE2.out
     repeat' (with_reducible first | exact hE | refine Ex.setCell ?_ (by simp <;> omega) _)
   ·have hs2 := HE2.out.size
    go_wp2_with (at_builtin; refine Xs rfl _ _ w2 rfl (w.heap.size + 2) A cap ns n rfl HO2.out rfl hnl (by omega) ?_)
    intro A' cap' w' hown' hk'
    have HE3 := Oi (hk'.ex w HE2.out (by omega))
    replace bP := hk'.box _ _ _ bP (by decide)
    replace bR := hk'.box _ _ _ bR (by decide)
    replace bG := hk'.box _ _ _ bG (by decide)
    have HO3 := Oi hown'
    have cP := bP.cell
    have fP := bP.frozen
    have zP := bP.lt
    clear hown' hk' HO2 HE2 cR fR zR
    have HN3 : Hid (Yu Zh ((cds t).take (j + 1)) = some (ns ++ [n])) := Oi (by rw [HMs.out]; exact Xu HNn.out HN.out)
    clear HNn HMs
    go_wp2
    have bP3 : Box (w'.setCell ⟨w.heap.size + 1, 1, none⟩ (.slice A' (ns.length + 1) cap')) (w.heap.size + 1) 85 #[.int .u8 (k.toNat : Int), .slice A' (ns ++ [n]).length cap', .string S] := by
     have h := bP.set_ 1 (.slice A' (ns.length + 1) cap')
     simpa using h
    have bR3 := bR.far (p := ⟨w.heap.size + 1, 1, none⟩) (by simp) (.slice A' (ns.length + 1) cap')
    have bG3 := bG.far (p := ⟨w.heap.size + 1, 1, none⟩) (by simp; omega) (.slice A' (ns.length + 1) cap')
    have HO4 := Oi (HO3.out.setBelow (p := ⟨w.heap.size + 1, 1, none⟩) (by simp) (.slice A' (ns.length + 1) cap'))
    have HE4 := Oi (HE3.out.setCell (p := ⟨w.heap.size + 1, 1, none⟩) (by simp) (.slice A' (ns.length + 1) cap'))
    go_roundw
    case rel => exact ⟨j + 1, A', cap', ns ++ [n], by go_num, by omega, HN3, bP3, bR3, bG3, HO4, HE4⟩
    case measure => simp [intOf] <;> omega
  ·
   have hk119 := HK119.out
   obtain rfl : j = (cds t).length := by omega
   have hlI : ¬ ((cds t).length : Int) < ((cds t).length : Int) := by omega
   have HNN : Hid (Yu Zh (cds t) = some ns) := Oi (by have := HN.out; rwa [List.take_length] at this)
   clear HN HG bG hj hnl HM HW HX1
   clear hlt
   go_upto_region 13 with fail
   clear hlI
   have ek : ((k.toNat : Nat) : Int) = 119 := by rw [hk119]; rfl
   rw [ek] at bP
   have EK := Oi ek
   clear ek
   by_cases hn : ns.length = 3
   ·obtain ⟨p, q, m, rfl⟩ := list3 hn
    clear hn
    obtain ⟨ga, ca, rfl, hga, bA, hca⟩ := Own.box HO.out (by simp)
    clear HO
    simp only [List.length_cons, List.length_nil, Nat.reduceAdd] at bP
    have d0 : ca[0]? = some (.int .i64 p) := (hca 0 (by simp)).trans rfl
    have d1 : ca[1]? = some (.int .i64 q) := (hca 1 (by simp)).trans rfl
    have d2 : ca[2]? = some (.int .i64 m) := (hca 2 (by simp)).trans rfl
    have HCA : Hid (∀ j, j < [p, q, m].length → ca[j]? = some (.int .i64 ([p, q, m].getD j 0))) := Oi fun j hj => by
     simp only [List.length_cons, List.length_nil, Nat.reduceAdd] at hj
     obtain rfl | rfl | rfl : j = 0 ∨ j = 1 ∨ j = 2 := by omega
     ·exact d0
     ·exact d1
     ·exact d2
    clear hca
    have kd := fun w => Wh p q w
    rcases hd : Yi p q with _ | _
    ·simp only [Wn, hd, Bool.false_eq_true, if_false, Fr.v, Fr.none] at kd
     have HP : Hid (Zo (k :: t) = none) := Oi (by rw [Zi HNN.out, hk119]; simp [Yv, hd])
     clear HNN hd
     clear hk119
     have KD := Oi kd
     clear kd
     have hS : Zw w wr _ := Zw.put (Zw.put (⟨HE.out, trivial⟩ : Zw w wr []) bR) bP
     replace hS := Zw.put hS bA
     have hC := hS.reads
     simp only [Zz, Zy] at hC
     have hE := hS.ex
     go_upto_region 18 with fail
     clear hC hE
     have hS0 := hS
     refine Zm (St := Ex) (B := fun _ w' => InE _ _ w') 13 2 1 _ 27 (fun i => match i with | 0 => 10 | _ => 11) (fun i => match i with | 0 => 63 | _ => 64) (fun i => match i with | 0 => #[.int .i64 0, .int .i64 0, .int .i64 0] | _ => #[.int .i64 0, .int .i64 0, .int .i64 0]) (fun i => match i with | 0 => #[.int .i64 0, .int .i64 0, .int .i64 0] | _ => #[.int .i64 0, .int .i64 0, .int .i64 0]) false (by kernel_rfl) (by kernel_rfl) (InE.drew (InE.start hS0)) (by intro x y h1 h2 h3; revert h3; match x, y, h1, h2 with | 0, 0, _, _ => decide | 0, 1, _, _ => decide | 1, 0, _, _ => decide | 1, 1, _, _ => decide) (by intro x y h1 h2; match x, y, h1, h2 with | 0, 0, _, _ => decide | 0, 1, _, _ => decide | 1, 0, _, _ => decide | 1, 1, _, _ => decide) (fun _ _ h g cs _ hb => hb.ex h) (fun _ _ cs h => h.alloc _) (fun _ _ h => h.size) ?_
     iterate 8 (apply Zx; (· rfl); (· intro b wb hB Q1 hQ1; have hS := hB.sees; have hC := hS.reads; simp only [Zz, Zy] at hC; go_wp2_with fail; exact hQ1 _ (Ex.refl _) hB); (· exact ⟨_, rfl⟩))
     (apply Zx; (· rfl); (· intro b wb hB Q1 hQ1; go_wp2_with (go_at_call 95; (with_reducible refine (KD.out _).mono ?_); rintro e wn ⟨rfl, hx⟩); exact hQ1 _ hx (hB.go hx)); (· exact ⟨_, rfl⟩))
     iterate 4 (apply Zx; (· rfl); (· intro b wb hB Q1 hQ1; go_wp2_with fail; exact hQ1 _ (Ex.refl _) hB); (· exact ⟨_, rfl⟩))
     refine Zv ?_
     refine ⟨fun i hi => ?_, fun i hi => ?_, fun i hi => ?_, fun gg wz hz hbx hne => ?_⟩
     ·obtain rfl | rfl : i = 0 ∨ i = 1 := by omega
      all_goals exact ⟨_, rfl, Yt⟩
     ·obtain rfl | rfl : i = 0 ∨ i = 1 := by omega
      all_goals exact ⟨_, rfl, Zf Yn rfl (by kernel_rfl) (fun _ _ _ hg h => h.setRow hg _)⟩
     ·obtain rfl | rfl : i = 0 ∨ i = 1 := by omega
      ·exact (show (10 : Nat) < 105 by decide)
      ·exact (show (11 : Nat) < 105 by decide)
     obtain ⟨hg0, hb0⟩ := hbx 0 (by omega)
     obtain ⟨hg1, hb1⟩ := hbx 1 (by omega)
     replace hS := InE.join hS0 hz
     replace hS := Zw.put hS hb0
     replace hS := Zw.put hS hb1
     simp only [frN, Act.put, Og, Of, Oe, Nat.reduceAdd, List.drop_succ_cons, List.drop_zero]
     generalize gg 0 = g0 at *
     generalize gg 1 = g1 at *
     clear hbx hz hS0 hne
     replace hS := hS.tail.tail
     clear hb0 hb1 hg0 hg1
     have hC := hS.reads
     simp only [Zz, Zy] at hC
     have hE := hS.ex
     have hbA := hS.boxes.1
     have hl1 := hS.boxes.2.1.lt
     go_upto_region 24 with fail
     clear hC hE hbA hl1
     refine Yw (St := fun _ _ => True) false (B := fun b w2 => Zw w w2 [(ga, 3, ca), (w.heap.size + 1, 85, #[.int .u8 119, .slice (some ⟨ga, 0, none⟩) 3 cap, .string S]), (w.heap.size, 85, if b then #[.int .u8 119, .slice (some ⟨ga, 0, none⟩) 3 cap, .string S] else #[.int .u8 0, .slice none 0 0, .string ⟨#[]⟩])]) (by kernel_rfl) (by kernel_rfl) (hS.drewW) ?_
     iterate 3 (apply Zx; (· rfl); (· intro b wb hB Q1 hQ1; have hS := hB; have hC := hS.reads; simp only [Zz, Zy] at hC; go_wp2_with fail; exact hQ1 _ trivial hB); (· exact ⟨_, rfl⟩))
     refine Zr (by rfl) (by simp only [Act.put, Og, Of, Oe]; rfl) ?_
     refine Zr (by rfl) (by simp only [Act.put, Og, Of, Oe]; rfl) ?_
     refine Zr (by rfl) (by simp only [Act.put, Og, Of, Oe]; rfl) ?_
     refine Zr (by rfl) (by simp only [Act.put, Og, Of, Oe]; rfl) ?_
     refine Zr (by rfl) (by simp only [Act.put, Og, Of, Oe]; rfl) ?_
     (apply Zx; (· rfl); (· intro b wb hB Q1 hQ1; go_wp2_with fail; exact hQ1 _ trivial hB); (· exact ⟨_, rfl⟩))
     apply Zs (d := true)
     ·rfl
     ·intro b wb hB Q1 hQ1
      have hB2 := Zw.ret3 (by omega) (by omega) hB
      have hS := hB
      have hC := hS.reads
      simp only [Zz, Zy] at hC
      rcases b with _ | _
      ·simp only [Bool.false_eq_true, if_false] at hC
       go_wp2_with fail
       exact hQ1 _ trivial hB2
      ·simp only [if_true] at hC
       go_wp2_with fail
       exact hQ1 _ trivial hB2
     ·exact ⟨undef, rfl⟩
     (apply Zx; (· rfl); (· intro b wb hB Q1 hQ1; go_wp2_with fail; exact hQ1 _ trivial hB); (· exact ⟨_, rfl⟩))
     refine Zv ?_
     intro wy hy
     simp only [Bool.or_true, Bool.or_false, Bool.false_or, if_true] at hy
     have hC := hy.reads
     simp only [Zz, Zy] at hC
     have hE := hy.ex
     have hbA := hy.boxes.1
     have hl1 := hy.boxes.2.1.lt
     go_wp2_with fail
     refine Od ?_ rfl (.inr ⟨(k.toNat : Int), (some ⟨ga, 0, none⟩), 3, cap, S, HP.out, rfl, ?_⟩)
     ·simp [results, Tryz.results69, go_sem, hC, EK.out]
     ·repeat' (with_reducible first | exact hE | refine Ex.setCell ?_ (by simp <;> omega) _)
    ·simp only [Wn, hd, if_true, Fr.v] at kd
     generalize Xl p q = c at kd
     generalize Xk p q = e at kd
     obtain ⟨c1, c2, c3⟩ := c
     obtain ⟨e1, e2, e3⟩ := e
     simp only at kd
     rcases hm : Yo m 0 3 with _ | _
     ·have HP : Hid (Zo (k :: t) = none) := Oi (by rw [Zi HNN.out, hk119]; simp [Yv, hd, hm])
      have kw := fun w => Yz m 0 3 w
      rw [hm] at kw
      clear hm
      have KW := Oi kw
      clear kw
      clear HNN hd
      clear hk119
      have KD := Oi kd
      clear kd
      have hS : Zw w wr _ := Zw.put (Zw.put (⟨HE.out, trivial⟩ : Zw w wr []) bR) bP
      replace hS := Zw.put hS bA
      have hC := hS.reads
      simp only [Zz, Zy] at hC
      have hE := hS.ex
      go_upto_region 18 with fail
      clear hC hE
      have hS0 := hS
      refine Zm (St := Ex) (B := fun _ w' => InE _ _ w') 13 2 1 _ 27 (fun i => match i with | 0 => 10 | _ => 11) (fun i => match i with | 0 => 63 | _ => 64) (fun i => match i with | 0 => #[.int .i64 0, .int .i64 0, .int .i64 0] | _ => #[.int .i64 0, .int .i64 0, .int .i64 0]) (fun i => match i with | 0 => #[.int .i64 c1, .int .i64 c2, .int .i64 c3] | _ => #[.int .i64 e1, .int .i64 e2, .int .i64 e3]) false (by kernel_rfl) (by kernel_rfl) (InE.drew (InE.start hS0)) (by intro x y h1 h2 h3; revert h3; match x, y, h1, h2 with | 0, 0, _, _ => decide | 0, 1, _, _ => decide | 1, 0, _, _ => decide | 1, 1, _, _ => decide) (by intro x y h1 h2; match x, y, h1, h2 with | 0, 0, _, _ => decide | 0, 1, _, _ => decide | 1, 0, _, _ => decide | 1, 1, _, _ => decide) (fun _ _ h g cs _ hb => hb.ex h) (fun _ _ cs h => h.alloc _) (fun _ _ h => h.size) ?_
      iterate 8 (apply Zx; (· rfl); (· intro b wb hB Q1 hQ1; have hS := hB.sees; have hC := hS.reads; simp only [Zz, Zy] at hC; go_wp2_with fail; exact hQ1 _ (Ex.refl _) hB); (· exact ⟨_, rfl⟩))
      (apply Zx; (· rfl); (· intro b wb hB Q1 hQ1; go_wp2_with (go_at_call 95; (with_reducible refine (KD.out _).mono ?_); rintro e wn ⟨rfl, hx⟩); exact hQ1 _ hx (hB.go hx)); (· exact ⟨_, rfl⟩))
      iterate 4 (apply Zx; (· rfl); (· intro b wb hB Q1 hQ1; go_wp2_with fail; exact hQ1 _ (Ex.refl _) hB); (· exact ⟨_, rfl⟩))
      refine Zv ?_
      refine ⟨fun i hi => ?_, fun i hi => ?_, fun i hi => ?_, fun gg wz hz hbx hne => ?_⟩
      ·obtain rfl | rfl : i = 0 ∨ i = 1 := by omega
       all_goals exact ⟨_, rfl, Yt⟩
      ·obtain rfl | rfl : i = 0 ∨ i = 1 := by omega
       all_goals exact ⟨_, rfl, Zf Yn rfl (by kernel_rfl) (fun _ _ _ hg h => h.setRow hg _)⟩
      ·obtain rfl | rfl : i = 0 ∨ i = 1 := by omega
       ·exact (show (10 : Nat) < 105 by decide)
       ·exact (show (11 : Nat) < 105 by decide)
      obtain ⟨hg0, hb0⟩ := hbx 0 (by omega)
      obtain ⟨hg1, hb1⟩ := hbx 1 (by omega)
      replace hS := InE.join hS0 hz
      replace hS := Zw.put hS hb0
      replace hS := Zw.put hS hb1
      simp only [frN, Act.put, Og, Of, Oe, Nat.reduceAdd, List.drop_succ_cons, List.drop_zero]
      generalize gg 0 = g0 at *
      generalize gg 1 = g1 at *
      clear hbx hz hS0 hne
      replace hS := hS.tail.tail
      clear hb0 hb1 hg0 hg1
      have hC := hS.reads
      simp only [Zz, Zy] at hC
      have hE := hS.ex
      have hbA := hS.boxes.1
      have hl1 := hS.boxes.2.1.lt
      go_upto_region 24 with fail
      clear hC hE hbA hl1
      refine Yw (St := fun _ _ => True) false (B := fun b w2 => Zw w w2 [(ga, 3, ca), (w.heap.size + 1, 85, #[.int .u8 119, .slice (some ⟨ga, 0, none⟩) 3 cap, .string S]), (w.heap.size, 85, if b then #[.int .u8 119, .slice (some ⟨ga, 0, none⟩) 3 cap, .string S] else #[.int .u8 0, .slice none 0 0, .string ⟨#[]⟩])]) (by kernel_rfl) (by kernel_rfl) (hS.drewW) ?_
      iterate 7 (apply Zx; (· rfl); (· intro b wb hB Q1 hQ1; have hS := hB; have hC := hS.reads; simp only [Zz, Zy] at hC; go_wp2_with fail; exact hQ1 _ trivial hB); (· exact ⟨_, rfl⟩))
      (apply Zx; (· rfl); (· intro b wb hB Q1 hQ1; go_wp2_with (go_at_call 79; (with_reducible refine (KW.out _).mono ?_); rintro e wn ⟨rfl, rfl⟩); exact hQ1 _ trivial hB); (· exact ⟨_, rfl⟩))
      (apply Zx; (· rfl); (· intro b wb hB Q1 hQ1; go_wp2_with fail; exact hQ1 _ trivial hB); (· exact ⟨_, rfl⟩))
      apply Zs (d := true)
      ·rfl
      ·intro b wb hB Q1 hQ1
       have hB2 := Zw.ret3 (by omega) (by omega) hB
       have hS := hB
       have hC := hS.reads
       simp only [Zz, Zy] at hC
       rcases b with _ | _
       ·simp only [Bool.false_eq_true, if_false] at hC
        go_wp2_with fail
        exact hQ1 _ trivial hB2
       ·simp only [if_true] at hC
        go_wp2_with fail
        exact hQ1 _ trivial hB2
      ·exact ⟨undef, rfl⟩
      (apply Zx; (· rfl); (· intro b wb hB Q1 hQ1; go_wp2_with fail; exact hQ1 _ trivial hB); (· exact ⟨_, rfl⟩))
      refine Zv ?_
      intro wy hy
      simp only [Bool.or_true, Bool.or_false, Bool.false_or, if_true] at hy
      have hC := hy.reads
      simp only [Zz, Zy] at hC
      have hE := hy.ex
      have hbA := hy.boxes.1
      have hl1 := hy.boxes.2.1.lt
      go_wp2_with fail
      refine Od ?_ rfl (.inr ⟨(k.toNat : Int), (some ⟨ga, 0, none⟩), 3, cap, S, HP.out, rfl, ?_⟩)
      ·simp [results, Tryz.results69, go_sem, hC, EK.out]
      ·repeat' (with_reducible first | exact hE | refine Ex.setCell ?_ (by simp <;> omega) _)
     ·have HP : Hid (Zo (k :: t) = some (k, [p, q, m])) := Oi (by rw [Zi HNN.out, hk119]; simp [Yv, hd, hm])
      have kw := fun w => Yz m 0 3 w
      rw [hm] at kw
      clear hm
      have KW := Oi kw
      clear kw
      clear HNN hd
      clear hk119
      have KD := Oi kd
      clear kd
      have hS : Zw w wr _ := Zw.put (Zw.put (⟨HE.out, trivial⟩ : Zw w wr []) bR) bP
      replace hS := Zw.put hS bA
      have hC := hS.reads
      simp only [Zz, Zy] at hC
      have hE := hS.ex
      go_upto_region 18 with fail
      clear hC hE
      have hS0 := hS
      refine Zm (St := Ex) (B := fun _ w' => InE _ _ w') 13 2 1 _ 27 (fun i => match i with | 0 => 10 | _ => 11) (fun i => match i with | 0 => 63 | _ => 64) (fun i => match i with | 0 => #[.int .i64 0, .int .i64 0, .int .i64 0] | _ => #[.int .i64 0, .int .i64 0, .int .i64 0]) (fun i => match i with | 0 => #[.int .i64 c1, .int .i64 c2, .int .i64 c3] | _ => #[.int .i64 e1, .int .i64 e2, .int .i64 e3]) false (by kernel_rfl) (by kernel_rfl) (InE.drew (InE.start hS0)) (by intro x y h1 h2 h3; revert h3; match x, y, h1, h2 with | 0, 0, _, _ => decide | 0, 1, _, _ => decide | 1, 0, _, _ => decide | 1, 1, _, _ => decide) (by intro x y h1 h2; match x, y, h1, h2 with | 0, 0, _, _ => decide | 0, 1, _, _ => decide | 1, 0, _, _ => decide | 1, 1, _, _ => decide) (fun _ _ h g cs _ hb => hb.ex h) (fun _ _ cs h => h.alloc _) (fun _ _ h => h.size) ?_
      iterate 8 (apply Zx; (· rfl); (· intro b wb hB Q1 hQ1; have hS := hB.sees; have hC := hS.reads; simp only [Zz, Zy] at hC; go_wp2_with fail; exact hQ1 _ (Ex.refl _) hB); (· exact ⟨_, rfl⟩))
      (apply Zx; (· rfl); (· intro b wb hB Q1 hQ1; go_wp2_with (go_at_call 95; (with_reducible refine (KD.out _).mono ?_); rintro e wn ⟨rfl, hx⟩); exact hQ1 _ hx (hB.go hx)); (· exact ⟨_, rfl⟩))
      iterate 4 (apply Zx; (· rfl); (· intro b wb hB Q1 hQ1; go_wp2_with fail; exact hQ1 _ (Ex.refl _) hB); (· exact ⟨_, rfl⟩))
      refine Zv ?_
      refine ⟨fun i hi => ?_, fun i hi => ?_, fun i hi => ?_, fun gg wz hz hbx hne => ?_⟩
      ·obtain rfl | rfl : i = 0 ∨ i = 1 := by omega
       all_goals exact ⟨_, rfl, Yt⟩
      ·obtain rfl | rfl : i = 0 ∨ i = 1 := by omega
       all_goals exact ⟨_, rfl, Zf Yn rfl (by kernel_rfl) (fun _ _ _ hg h => h.setRow hg _)⟩
      ·obtain rfl | rfl : i = 0 ∨ i = 1 := by omega
       ·exact (show (10 : Nat) < 105 by decide)
       ·exact (show (11 : Nat) < 105 by decide)
      obtain ⟨hg0, hb0⟩ := hbx 0 (by omega)
      obtain ⟨hg1, hb1⟩ := hbx 1 (by omega)
      replace hS := InE.join hS0 hz
      replace hS := Zw.put hS hb0
      replace hS := Zw.put hS hb1
      simp only [frN, Act.put, Og, Of, Oe, Nat.reduceAdd, List.drop_succ_cons, List.drop_zero]
      generalize gg 0 = g0 at *
      generalize gg 1 = g1 at *
      clear hbx hz hS0 hne
      replace hS := hS.tail.tail
      clear hb0 hb1 hg0 hg1
      have hC := hS.reads
      simp only [Zz, Zy] at hC
      have hE := hS.ex
      have hbA := hS.boxes.1
      have hl1 := hS.boxes.2.1.lt
      go_upto_region 24 with fail
      clear hC hE hbA hl1
      refine Yw (St := fun _ _ => True) false (B := fun b w2 => Zw w w2 [(ga, 3, ca), (w.heap.size + 1, 85, #[.int .u8 119, .slice (some ⟨ga, 0, none⟩) 3 cap, .string S]), (w.heap.size, 85, if b then #[.int .u8 119, .slice (some ⟨ga, 0, none⟩) 3 cap, .string S] else #[.int .u8 0, .slice none 0 0, .string ⟨#[]⟩])]) (by kernel_rfl) (by kernel_rfl) (hS.drewW) ?_
      iterate 7 (apply Zx; (· rfl); (· intro b wb hB Q1 hQ1; have hS := hB; have hC := hS.reads; simp only [Zz, Zy] at hC; go_wp2_with fail; exact hQ1 _ trivial hB); (· exact ⟨_, rfl⟩))
      (apply Zx; (· rfl); (· intro b wb hB Q1 hQ1; go_wp2_with (go_at_call 79; (with_reducible refine (KW.out _).mono ?_); rintro e wn ⟨rfl, rfl⟩); exact hQ1 _ trivial hB); (· exact ⟨_, rfl⟩))
      (apply Zx; (· rfl); (· intro b wb hB Q1 hQ1; go_wp2_with fail; exact hQ1 _ trivial hB); (· exact ⟨_, rfl⟩))
      apply Zs (d := true)
      ·rfl
      ·intro b wb hB Q1 hQ1
       have hB2 := Zw.ret3 (by omega) (by omega) hB
       have hS := hB
       have hC := hS.reads
       simp only [Zz, Zy] at hC
       rcases b with _ | _
       ·simp only [Bool.false_eq_true, if_false] at hC
        go_wp2_with fail
        exact hQ1 _ trivial hB2
       ·simp only [if_true] at hC
        go_wp2_with fail
        exact hQ1 _ trivial hB2
      ·exact ⟨undef, rfl⟩
      (apply Zx; (· rfl); (· intro b wb hB Q1 hQ1; go_wp2_with fail; exact hQ1 _ trivial hB); (· exact ⟨_, rfl⟩))
      refine Zv ?_
      intro wy hy
      simp only [Bool.or_true, Bool.or_false, Bool.false_or, if_true] at hy
      have hC := hy.reads
      simp only [Zz, Zy] at hC
      have hE := hy.ex
      have hbA := hy.boxes.1
      have hl1 := hy.boxes.2.1.lt
      go_wp2_with fail
      refine Od ?_ rfl (.inl ⟨⟨k, ga, cap, ca, [p, q, m], S⟩, HP.out, rfl, ⟨?_, ?_⟩, ?_⟩)
      ·simp [results, Tryz.results69, go_sem, hC, Pc.ci, Pc.cs, EK.out]
      ·repeat' (with_reducible first | exact hbA | refine Box.far ?_ (by simp <;> omega) _)
      ·exact HCA.out
      ·repeat' (with_reducible first | exact hE | refine Ex.setCell ?_ (by simp <;> omega) _)
   ·have hnI : ((ns.length : Int) == 3) = false := by rw [beq_eq_false_iff_ne]; omega
    have hnI2 : ¬ (ns.length : Int) = 3 := by omega
    have HP : Hid (Zo (k :: t) = none) := Oi (by rw [Zi HNN.out, hk119]; simp [Yv, hn])
    clear hn HNN HO
    clear hk119
    have hS : Zw w wr _ := Zw.put (Zw.put (⟨HE.out, trivial⟩ : Zw w wr []) bR) bP
    have hC := hS.reads
    simp only [Zz, Zy] at hC
    have hE := hS.ex
    go_wp2_with fail
    refine Od ?_ rfl (.inr ⟨(k.toNat : Int), A, ns.length, cap, S, HP.out, rfl, ?_⟩)
    ·simp [results, Tryz.results69, go_sem, hC, EK.out]
    ·repeat' (with_reducible first | exact hE | refine Ex.setCell ?_ (by simp <;> omega) _)
end
section
open Go.RowKit

attribute [local go_sem] Zq Zp
theorem Qb (k : UInt8) (t : List UInt8) (hk119 : k ≠ 119) (hk114 : k ≠ 114) (hk102 : k ≠ 102) (hk97 : k ≠ 97) (hk100 : k ≠ 100) (hl : (k :: t).length ≤ 1048576) (w : World) (hm : Xm w) : Calls Tryz.prog 69 #[.string (Bs (k :: t))] w (Ra w (k :: t)) := by
 have HK119 := Oi hk119
 have HK114 := Oi hk114
 have HK102 := Oi hk102
 have HK97 := Oi hk97
 have HK100 := Oi hk100
 clear hk119 hk114 hk102 hk97 hk100
 have hlt : t.length ≤ 1048576 := by simp at hl; omega
 have hx1 := Uw k t
 obtain ⟨S, HS⟩ : ∃ S, Hid (S = Bs (k :: t)) := ⟨_, Oi rfl⟩
 have hsz : S.size = t.length + 1 := by rw [HS.out]; rfl
 obtain ⟨hs0, hk0⟩ : ∃ hs : 0 < S.size, S[0]'hs = k := by
  obtain ⟨h1, h2⟩ := Th HS.out (i := 0) (by simp)
  exact ⟨h1, h2⟩
 rw [← HS.out] at hx1 ⊢
 have hne : ¬ S = (⟨#[]⟩ : ByteArray) := fun e => by rw [e] at hs0; exact absurd hs0 (by decide)
 have hne2 : S.toList.isEmpty = false := by simpa using Vf hne
 clear hne
 have ks := fun w hm => Pu t hlt w hm
 have HW : Hid (∀ x ∈ cds t, x.length ≤ 1048576) := Oi fun x hx => by
  have h1 := Wy t x hx
  omega
 have HCL : Hid ((cds t).length ≤ 1048576) := Oi (by have h1 := Uv t; simp only [List.length_cons] at hl; omega)
 generalize hT : Bs t = T at hx1 ks
 have HM := Oi hm
 have KS := Oi ks
 have HX1 := Oi hx1
 clear hm ks hT
 have hS := Zw.refl w
 have hC := True.intro
 go_enter Tryz.func69, Tryz.ntmps69
 go_upto_region 5 with fail
 have bR := (Box.new w #[.int .u8 0, .slice none 0 0, .string ⟨#[]⟩] 85).alloc (.cells #[.int .u8 (k.toNat : Int), .slice none 0 0, .string S] 85)
 have bP := Box.new (w.alloc (.cells #[.int .u8 0, .slice none 0 0, .string ⟨#[]⟩] 85)) #[.int .u8 (k.toNat : Int), .slice none 0 0, .string S] 85
 rw [Oh] at bP
 have hE1 : Ex w ((w.alloc (.cells #[.int .u8 0, .slice none 0 0, .string ⟨#[]⟩] 85)).alloc (.cells #[.int .u8 (k.toNat : Int), .slice none 0 0, .string S] 85)) := ((Ex.refl w).alloc _).alloc _
 have hz1 : ((w.alloc (.cells #[.int .u8 0, .slice none 0 0, .string ⟨#[]⟩] 85)).alloc (.cells #[.int .u8 (k.toNat : Int), .slice none 0 0, .string S] 85)).heap.size = w.heap.size + 2 := by simp only [Oh]
 generalize (w.alloc (.cells #[.int .u8 0, .slice none 0 0, .string ⟨#[]⟩] 85)).alloc (.cells #[.int .u8 (k.toNat : Int), .slice none 0 0, .string S] 85) = W1 at *
 clear hC hS hk0
 have hs1 : (1 : Int) ≤ (S.size : Int) := by omega
 clear hsz hl hlt
 go_wp2_with fail
 refine (KS.out _ (HM.out.ex hE1)).mono ?_
 rintro e W2 ⟨g, gc, cur, rfl, hg, bG, HG, hx⟩
 replace bR := bR.ex hx
 replace bP := bP.ex hx
 have hE2 := hE1.trans hx
 have hz2 := hx.size
 clear hx hE1 KS
 go_wp2_with fail
 have hO0 : Xn W2 (w.heap.size + 2) none 0 [] := ⟨by simp, .inl ⟨rfl, rfl⟩⟩
 go_loopw [25, 6, 7, 8] (fun i f n o wr => ∃ (j : Nat) (A : Option Addr) (cap : Nat) (ns : List Int), i = .int .i64 j ∧ j ≤ (cds t).length ∧ Hid (Yu Zh ((cds t).take j) = some ns) ∧ Box wr (w.heap.size + 1) 85 #[.int .u8 (k.toNat : Int), .slice A ns.length cap, .string S] ∧
   Box wr w.heap.size 85 #[.int .u8 0, .slice none 0 0, .string ⟨#[]⟩] ∧ Box wr g 9 cur ∧ Hid (Xn wr (w.heap.size + 2) A cap ns) ∧ Hid (Ex w wr)) (fun i _ _ _ _ => (cds t).length + 1 - (intOf i).toNat)
 case atStart => exact ⟨0, none, 0, [], rfl, by omega, Oi rfl, bP, bR, bG, Oi hO0, Oi hE2⟩
 case round =>
  clear bP bR bG hO0 hE2 hz2
  obtain ⟨j, A, cap, ns, rfl, hj, HN, bP, bR, bG, HO, HE⟩ := hrel
  have hnl : ns.length ≤ 1048576 := by
   have h1 := Xz HN.out
   have h2 := List.length_take_le j (cds t)
   have h3 := HCL.out
   omega
  by_cases hlt : j < (cds t).length
  ·have hcell := HG.out j hlt
   have hmem : (cds t)[j] ∈ cds t := List.getElem_mem hlt
   have hxl := HW.out _ hmem
   have HMs : Hid (Yu Zh ((cds t).take (j + 1)) = Yu Zh ((cds t).take j ++ [(cds t)[j]])) := Oi (by rw [Yk hlt])
   generalize (cds t)[j] = x at *
   have kp := fun w hm => Sz x hxl w hm
   have hlI : (j : Int) < ((cds t).length : Int) := by omega
   have hw5 : IntKind.i64.wrap ((j : Int) + 1) = (j : Int) + 1 := Oc _ (by have := HCL.out; omega)
   obtain ⟨X, HX⟩ : ∃ X, Hid (X = Bs x) := ⟨_, Oi rfl⟩
   rw [← HX.out] at hcell kp
   have KP := Oi kp
   have HMem := Oi hmem
   have cG := bG.cell
   have zG := bG.lt
   clear kp hmem hxl
   go_wp2_with fail
   refine (KP.out _ (HM.out.ex HE.out)).mono ?_
   rintro e w2 ⟨n, ok, rfl, hx, hn⟩
   have HNn := Oi hn
   replace bP := bP.ex hx
   replace bR := bR.ex hx
   replace bG := bG.ex hx
   have HE2 := Oi (HE.out.trans hx)
   have HO2 := Oi (HO.out.ex hx)
   clear hx hn cG zG KP hcell
   have cP := bP.cell
   have fP := bP.frozen
   have zP := bP.lt
   have cR := bR.cell
   have fR := bR.frozen
   have zR := bR.lt
   rcases ok with _ | _
   ·have HNo : Hid (Zo (k :: t) = none) := Oi (Wg (Vl HNn.out HMem.out))
    go_wp2
    refine Od ?_ rfl (.inr ⟨k.toNat, A, ns.length, cap, S, HNo.out, rfl, ?_⟩)
    ·simp [results, Tryz.results69, go_sem, cP, cR]
    ·have hE := HE2.out
     repeat' (with_reducible first | exact hE | refine Ex.setCell ?_ (by simp <;> omega) _)
   ·have hs2 := HE2.out.size
    go_wp2_with (at_builtin; refine Xs rfl _ _ w2 rfl (w.heap.size + 2) A cap ns n rfl HO2.out rfl hnl (by omega) ?_)
    intro A' cap' w' hown' hk'
    have HE3 := Oi (hk'.ex w HE2.out (by omega))
    replace bP := hk'.box _ _ _ bP (by decide)
    replace bR := hk'.box _ _ _ bR (by decide)
    replace bG := hk'.box _ _ _ bG (by decide)
    have HO3 := Oi hown'
    have cP := bP.cell
    have fP := bP.frozen
    have zP := bP.lt
    clear hown' hk' HO2 HE2 cR fR zR
    have HN3 : Hid (Yu Zh ((cds t).take (j + 1)) = some (ns ++ [n])) := Oi (by rw [HMs.out]; exact Xu HNn.out HN.out)
    clear HNn HMs
    go_wp2
    have bP3 : Box (w'.setCell ⟨w.heap.size + 1, 1, none⟩ (.slice A' (ns.length + 1) cap')) (w.heap.size + 1) 85 #[.int .u8 (k.toNat : Int), .slice A' (ns ++ [n]).length cap', .string S] := by
     have h := bP.set_ 1 (.slice A' (ns.length + 1) cap')
     simpa using h
    have bR3 := bR.far (p := ⟨w.heap.size + 1, 1, none⟩) (by simp) (.slice A' (ns.length + 1) cap')
    have bG3 := bG.far (p := ⟨w.heap.size + 1, 1, none⟩) (by simp; omega) (.slice A' (ns.length + 1) cap')
    have HO4 := Oi (HO3.out.setBelow (p := ⟨w.heap.size + 1, 1, none⟩) (by simp) (.slice A' (ns.length + 1) cap'))
    have HE4 := Oi (HE3.out.setCell (p := ⟨w.heap.size + 1, 1, none⟩) (by simp) (.slice A' (ns.length + 1) cap'))
    go_roundw
    case rel => exact ⟨j + 1, A', cap', ns ++ [n], by go_num, by omega, HN3, bP3, bR3, bG3, HO4, HE4⟩
    case measure => simp [intOf] <;> omega
  ·
   have hk119 := HK119.out
   have hk114 := HK114.out
   have hk102 := HK102.out
   have hk97 := HK97.out
   have hk100 := HK100.out
   obtain rfl : j = (cds t).length := by omega
   have hlI : ¬ ((cds t).length : Int) < ((cds t).length : Int) := by omega
   have HNN : Hid (Yu Zh (cds t) = some ns) := Oi (by have := HN.out; rwa [List.take_length] at this)
   clear HN HG bG hj hnl HM HW HX1
   clear hlt
   go_upto_region 13 with fail
   clear hlI
   have e119 := Sw hk119
   have e114 := Sw hk114
   have e102 := Sw hk102
   have e97 := Sw hk97
   have e100 := Sw hk100
   simp only [show ((119 : UInt8).toNat : Int) = 119 from rfl] at e119
   simp only [show ((114 : UInt8).toNat : Int) = 114 from rfl] at e114
   simp only [show ((102 : UInt8).toNat : Int) = 102 from rfl] at e102
   simp only [show ((97 : UInt8).toNat : Int) = 97 from rfl] at e97
   simp only [show ((100 : UInt8).toNat : Int) = 100 from rfl] at e100
   by_cases hn : ns.length = 2
   ·obtain ⟨p, q, rfl⟩ := list2 hn
    clear hn
    obtain ⟨ga, ca, rfl, hga, bA, hca⟩ := Own.box HO.out (by simp)
    clear HO
    simp only [List.length_cons, List.length_nil, Nat.reduceAdd] at bP
    have d0 : ca[0]? = some (.int .i64 p) := (hca 0 (by simp)).trans rfl
    have d1 : ca[1]? = some (.int .i64 q) := (hca 1 (by simp)).trans rfl
    have HCA : Hid (∀ j, j < [p, q].length → ca[j]? = some (.int .i64 ([p, q].getD j 0))) := Oi fun j hj => by
     simp only [List.length_cons, List.length_nil, Nat.reduceAdd] at hj
     obtain rfl | rfl : j = 0 ∨ j = 1 := by omega
     ·exact d0
     ·exact d1
    clear hca
    have kd := fun w => Wh p q w
    rcases hd : Yi p q with _ | _
    ·simp only [Wn, hd, Bool.false_eq_true, if_false, Fr.v, Fr.none] at kd
     have HP : Hid (Zo (k :: t) = none) := Oi (by rw [Zi HNN.out]; simp [Yv, hd, hk119, hk114, hk102, hk97, hk100])
     clear HNN hd
     clear hk119 hk114 hk102 hk97 hk100
     have KD := Oi kd
     clear kd
     have hS : Zw w wr _ := Zw.put (Zw.put (⟨HE.out, trivial⟩ : Zw w wr []) bR) bP
     replace hS := Zw.put hS bA
     have hC := hS.reads
     simp only [Zz, Zy] at hC
     have hE := hS.ex
     go_upto_region 18 with fail
     clear hC hE
     have hS0 := hS
     refine Zm (St := Ex) (B := fun _ w' => InE _ _ w') 13 2 1 _ 27 (fun i => match i with | 0 => 10 | _ => 11) (fun i => match i with | 0 => 63 | _ => 64) (fun i => match i with | 0 => #[.int .i64 0, .int .i64 0, .int .i64 0] | _ => #[.int .i64 0, .int .i64 0, .int .i64 0]) (fun i => match i with | 0 => #[.int .i64 0, .int .i64 0, .int .i64 0] | _ => #[.int .i64 0, .int .i64 0, .int .i64 0]) false (by kernel_rfl) (by kernel_rfl) (InE.drew (InE.start hS0)) (by intro x y h1 h2 h3; revert h3; match x, y, h1, h2 with | 0, 0, _, _ => decide | 0, 1, _, _ => decide | 1, 0, _, _ => decide | 1, 1, _, _ => decide) (by intro x y h1 h2; match x, y, h1, h2 with | 0, 0, _, _ => decide | 0, 1, _, _ => decide | 1, 0, _, _ => decide | 1, 1, _, _ => decide) (fun _ _ h g cs _ hb => hb.ex h) (fun _ _ cs h => h.alloc _) (fun _ _ h => h.size) ?_
     iterate 8 (apply Zx; (· rfl); (· intro b wb hB Q1 hQ1; have hS := hB.sees; have hC := hS.reads; simp only [Zz, Zy] at hC; go_wp2_with fail; exact hQ1 _ (Ex.refl _) hB); (· exact ⟨_, rfl⟩))
     (apply Zx; (· rfl); (· intro b wb hB Q1 hQ1; go_wp2_with (go_at_call 95; (with_reducible refine (KD.out _).mono ?_); rintro e wn ⟨rfl, hx⟩); exact hQ1 _ hx (hB.go hx)); (· exact ⟨_, rfl⟩))
     iterate 4 (apply Zx; (· rfl); (· intro b wb hB Q1 hQ1; go_wp2_with fail; exact hQ1 _ (Ex.refl _) hB); (· exact ⟨_, rfl⟩))
     refine Zv ?_
     refine ⟨fun i hi => ?_, fun i hi => ?_, fun i hi => ?_, fun gg wz hz hbx hne => ?_⟩
     ·obtain rfl | rfl : i = 0 ∨ i = 1 := by omega
      all_goals exact ⟨_, rfl, Yt⟩
     ·obtain rfl | rfl : i = 0 ∨ i = 1 := by omega
      all_goals exact ⟨_, rfl, Zf Yn rfl (by kernel_rfl) (fun _ _ _ hg h => h.setRow hg _)⟩
     ·obtain rfl | rfl : i = 0 ∨ i = 1 := by omega
      ·exact (show (10 : Nat) < 105 by decide)
      ·exact (show (11 : Nat) < 105 by decide)
     obtain ⟨hg0, hb0⟩ := hbx 0 (by omega)
     obtain ⟨hg1, hb1⟩ := hbx 1 (by omega)
     replace hS := InE.join hS0 hz
     replace hS := Zw.put hS hb0
     replace hS := Zw.put hS hb1
     simp only [frN, Act.put, Og, Of, Oe, Nat.reduceAdd, List.drop_succ_cons, List.drop_zero]
     generalize gg 0 = g0 at *
     generalize gg 1 = g1 at *
     clear hbx hz hS0 hne
     replace hS := hS.tail.tail
     clear hb0 hb1 hg0 hg1
     have hC := hS.reads
     simp only [Zz, Zy] at hC
     have hE := hS.ex
     have hbA := hS.boxes.1
     have hl1 := hS.boxes.2.1.lt
     go_wp2_with fail
     refine Od ?_ rfl (.inr ⟨(k.toNat : Int), (some ⟨ga, 0, none⟩), 2, cap, S, HP.out, rfl, ?_⟩)
     ·simp [results, Tryz.results69, go_sem, hC]
     ·repeat' (with_reducible first | exact hE | refine Ex.setCell ?_ (by simp <;> omega) _)
    ·simp only [Wn, hd, if_true, Fr.v] at kd
     generalize Xl p q = c at kd
     generalize Xk p q = e at kd
     obtain ⟨c1, c2, c3⟩ := c
     obtain ⟨e1, e2, e3⟩ := e
     simp only at kd
     have HP : Hid (Zo (k :: t) = none) := Oi (by rw [Zi HNN.out]; simp [Yv, hd, hk119, hk114, hk102, hk97, hk100])
     clear HNN hd
     clear hk119 hk114 hk102 hk97 hk100
     have KD := Oi kd
     clear kd
     have hS : Zw w wr _ := Zw.put (Zw.put (⟨HE.out, trivial⟩ : Zw w wr []) bR) bP
     replace hS := Zw.put hS bA
     have hC := hS.reads
     simp only [Zz, Zy] at hC
     have hE := hS.ex
     go_upto_region 18 with fail
     clear hC hE
     have hS0 := hS
     refine Zm (St := Ex) (B := fun _ w' => InE _ _ w') 13 2 1 _ 27 (fun i => match i with | 0 => 10 | _ => 11) (fun i => match i with | 0 => 63 | _ => 64) (fun i => match i with | 0 => #[.int .i64 0, .int .i64 0, .int .i64 0] | _ => #[.int .i64 0, .int .i64 0, .int .i64 0]) (fun i => match i with | 0 => #[.int .i64 c1, .int .i64 c2, .int .i64 c3] | _ => #[.int .i64 e1, .int .i64 e2, .int .i64 e3]) false (by kernel_rfl) (by kernel_rfl) (InE.drew (InE.start hS0)) (by intro x y h1 h2 h3; revert h3; match x, y, h1, h2 with | 0, 0, _, _ => decide | 0, 1, _, _ => decide | 1, 0, _, _ => decide | 1, 1, _, _ => decide) (by intro x y h1 h2; match x, y, h1, h2 with | 0, 0, _, _ => decide | 0, 1, _, _ => decide | 1, 0, _, _ => decide | 1, 1, _, _ => decide) (fun _ _ h g cs _ hb => hb.ex h) (fun _ _ cs h => h.alloc _) (fun _ _ h => h.size) ?_
     iterate 8 (apply Zx; (· rfl); (· intro b wb hB Q1 hQ1; have hS := hB.sees; have hC := hS.reads; simp only [Zz, Zy] at hC; go_wp2_with fail; exact hQ1 _ (Ex.refl _) hB); (· exact ⟨_, rfl⟩))
     (apply Zx; (· rfl); (· intro b wb hB Q1 hQ1; go_wp2_with (go_at_call 95; (with_reducible refine (KD.out _).mono ?_); rintro e wn ⟨rfl, hx⟩); exact hQ1 _ hx (hB.go hx)); (· exact ⟨_, rfl⟩))
     iterate 4 (apply Zx; (· rfl); (· intro b wb hB Q1 hQ1; go_wp2_with fail; exact hQ1 _ (Ex.refl _) hB); (· exact ⟨_, rfl⟩))
     refine Zv ?_
     refine ⟨fun i hi => ?_, fun i hi => ?_, fun i hi => ?_, fun gg wz hz hbx hne => ?_⟩
     ·obtain rfl | rfl : i = 0 ∨ i = 1 := by omega
      all_goals exact ⟨_, rfl, Yt⟩
     ·obtain rfl | rfl : i = 0 ∨ i = 1 := by omega
      all_goals exact ⟨_, rfl, Zf Yn rfl (by kernel_rfl) (fun _ _ _ hg h => h.setRow hg _)⟩
     ·obtain rfl | rfl : i = 0 ∨ i = 1 := by omega
      ·exact (show (10 : Nat) < 105 by decide)
      ·exact (show (11 : Nat) < 105 by decide)
     obtain ⟨hg0, hb0⟩ := hbx 0 (by omega)
     obtain ⟨hg1, hb1⟩ := hbx 1 (by omega)
     replace hS := InE.join hS0 hz
     replace hS := Zw.put hS hb0
     replace hS := Zw.put hS hb1
     simp only [frN, Act.put, Og, Of, Oe, Nat.reduceAdd, List.drop_succ_cons, List.drop_zero]
     generalize gg 0 = g0 at *
     generalize gg 1 = g1 at *
     clear hbx hz hS0 hne
     replace hS := hS.tail.tail
     clear hb0 hb1 hg0 hg1
     have hC := hS.reads
     simp only [Zz, Zy] at hC
     have hE := hS.ex
     have hbA := hS.boxes.1
     have hl1 := hS.boxes.2.1.lt
     go_wp2_with fail
     refine Od ?_ rfl (.inr ⟨(k.toNat : Int), (some ⟨ga, 0, none⟩), 2, cap, S, HP.out, rfl, ?_⟩)
     ·simp [results, Tryz.results69, go_sem, hC]
     ·repeat' (with_reducible first | exact hE | refine Ex.setCell ?_ (by simp <;> omega) _)
   ·have hnI : ((ns.length : Int) == 2) = false := by rw [beq_eq_false_iff_ne]; omega
    have hnI2 : ¬ (ns.length : Int) = 2 := by omega
    have HP : Hid (Zo (k :: t) = none) := Oi (by rw [Zi HNN.out]; simp [Yv, hn, hk119, hk114, hk102, hk97, hk100])
    clear hn HNN HO
    clear hk119 hk114 hk102 hk97 hk100
    have hS : Zw w wr _ := Zw.put (Zw.put (⟨HE.out, trivial⟩ : Zw w wr []) bR) bP
    have hC := hS.reads
    simp only [Zz, Zy] at hC
    have hE := hS.ex
    go_wp2_with fail
    refine Od ?_ rfl (.inr ⟨(k.toNat : Int), A, ns.length, cap, S, HP.out, rfl, ?_⟩)
    ·simp [results, Tryz.results69, go_sem, hC]
    ·repeat' (with_reducible first | exact hE | refine Ex.setCell ?_ (by simp <;> omega) _)
end
section
open Go.RowKit

attribute [local go_sem] Zq Zp
theorem lns_len : ∀ l : List UInt8, (lns l).length ≤ l.length + 1
 | [] => by simp [lns]
 | b :: t => by
  have ih := lns_len t
  by_cases hb : b = 10
  ·subst hb
   rw [Qy, List.length_cons, List.length_cons]
   omega
  ·rw [Qx hb]
   have := List.length_pos_iff.2 (lns_ne t)
   simp only [pre, List.length_cons, List.length_tail]
   omega
theorem splitN_any (l : List UInt8) (hl : l.length ≤ 1048576) (w : World) (hm : Xm w) : Calls Tryz.prog 27 #[.string (Bs l), .string ⟨#[10]⟩] w fun e w' =>
  e = .returned (.slice (some ⟨w.heap.size, 0, none⟩) (lns l).length (lns l).length) ∧ w' = w.alloc (.cells (Yd (lns l)).toArray 9) := by
 obtain ⟨m, hm⟩ := hm.max
 refine (Tryz.strings_Split (Bs l) ⟨#[10]⟩ m w (by rw [Zd]; omega) hm (by decide)).mono ?_
 rintro e w' ⟨rfl, rfl⟩
 rw [split_lns _ l rfl, lns_count]
 refine ⟨rfl, ?_⟩
 unfold Yd
 rw [List.map_map]
 rfl
theorem cutl_any (l : List UInt8) (hl : l.length ≤ 1048576) (w : World) (hm : Xm w) : Calls Tryz.prog 28 #[.string (Bs l), .string ⟨#[32]⟩] w fun e w' =>
  e = .returned (.tuple #[.string (Bs (Sx l).1), .string (Bs (Sx l).2.1), .bool (Sx l).2.2]) ∧ Ex w w' := by
 obtain ⟨m, hm⟩ := hm.max
 refine (Tryz.strings_Cut (Bs l) ⟨#[32]⟩ m w (by rw [Zd]; omega) hm).mono ?_
 rintro e w' ⟨rfl, n, rfl⟩
 exact ⟨rfl, (Ex.refl _).drewN n⟩
def Si (bc : Nat) (w : World) (r : Con × List UInt8) : Ending → World → Prop := fun e w' =>
 ∃ (o : ByteArray) (ok told : Bool), e = .returned (.tuple #[.string o, .bool ok, .bool told]) ∧ answer o ok told = Bs r.2 ∧ w.grownBy w' (some bc) ∧ Box w' bc 67 r.1.cells
def Qv (st : Con → List UInt8 → Con × List UInt8) (Q : Con → Prop) (l : List UInt8) : Prop := ∀ c, Q c → Q (st c l).1 ∧ (st c l).2.length ≤ 10000 ∧
 ∀ (bc : Nat) (w : World), Ym w → Xm w → Box w bc 67 c.cells →
  (if (Sx l).2.2 then Calls Tryz.prog 29 #[.pointer (some ⟨bc, 0, none⟩), .string (Bs (Sx l).1), .string (Bs (Sx l).2.1)] w (Si bc w (st c l))
  else Calls Tryz.prog 30 #[.pointer (some ⟨bc, 0, none⟩), .string (Bs (Sx l).1)] w (Si bc w (st c l)))
theorem Bld.far {w w' : World} {lo b bc : Nat} {p v : Value} {bs : List Value} (h : Bld w lo b p v bs) (hg : w.grownBy w' (some bc)) (hne : b ≠ bc) (hbc : bc < lo) : Bld w' lo b p v bs := by
 refine ⟨h.box.grown hg (fun e => hne (by injection e)), h.own.kept hg ?_, h.ptr⟩
 cases hv : v.ownBlock with
 | none => exact .inl rfl
 | some g =>
  right
  intro e
  injection e with e
  have := (Own.lt h.own g hv).1
  omega
theorem Bld.ex {w w' : World} {lo b : Nat} {p v : Value} {bs : List Value} (h : Bld w lo b p v bs) (hx : Ex w w') : Bld w' lo b p v bs := ⟨h.box.ex hx, Own.ex h.own hx, h.ptr⟩
structure ExS (W w : World) (bc bo bl lo : Nat) (c : Con) (o : List UInt8) (p v : Value) (ls : Array Value) : Prop where
 ex : Ex W w
 con : Box w bc 67 c.cells
 bld : Bld w lo bo p v (Lib.byteCells o)
 lines : Box w bl 9 ls
section
variable {W w w' : World} {bc bo bl lo : Nat} {c : Con} {o : List UInt8} {p v : Value} {ls : Array Value}
theorem ExS.go (h : ExS W w bc bo bl lo c o p v ls) (hx : Ex w w') : ExS W w' bc bo bl lo c o p v ls := ⟨h.ex.trans hx, h.con.ex hx, h.bld.ex hx, h.lines.ex hx⟩
theorem ExS.ans {c' : Con} (h : ExS W w bc bo bl lo c o p v ls) (hbc : W.heap.size ≤ bc) (h1 : bo ≠ bc) (h2 : bl ≠ bc) (h3 : bc < lo) (hg : w.grownBy w' (some bc)) (hb : Box w' bc 67 c'.cells) : ExS W w' bc bo bl lo c' o p v ls :=
 ⟨h.ex.grown hg (fun k hk => by injection hk with hk; omega), hb, h.bld.far hg h1 h3, h.lines.grown hg (fun e => h2 (by injection e))⟩
theorem ExS.wrote {t : List UInt8} {p' v' : Value} (h : ExS W w bc bo bl lo c o p v ls) (h0 : W.heap.size ≤ lo) (h1 : W.heap.size ≤ bo) (h2 : bc ≠ bo) (h3 : bl ≠ bo) (hb : Bld w' lo bo p' v' (Lib.byteCells o ++ Lib.strCells (Bs t))) (hk : Ww w w' lo bo) :
  ExS W w' bc bo bl lo c (o ++ t) p' v' ls :=
 ⟨hk.ex W h.ex h0 h1, hk.box _ _ _ h2 (by decide) h.con, by rw [Lib.byteCells_append]; exact hb, hk.box _ _ _ h3 (by decide) h.lines⟩
end
end
end Go.Proofs.YtmjggolkopbcnaaGreatDoor
