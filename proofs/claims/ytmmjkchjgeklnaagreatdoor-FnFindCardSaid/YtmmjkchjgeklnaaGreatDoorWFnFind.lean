/-
  The walk of the law FnFind.
-/
import Derived.Test.YtmmjkchjgeklnaaGreatDoorK55
import Derived.Test.YtmmjkchjgeklnaaGreatDoorK52
import Derived.Test.YtmmjkchjgeklnaaGreatDoorK02
set_option linter.unusedSimpArgs false
set_option linter.unusedVariables false
namespace Go.Proofs.YtmmjkchjgeklnaaGreatDoor
open Go.RowKit

attribute [local go_sem] Zk Zj
theorem afind_spec : ∀ (rs : List Rc) (v : M4) (k : Nat), (Vt rs v k = -1) ∨ ∃ (j : Nat) (hj : j < rs.length), Vt rs v k = ((k + j : Nat) : Int) ∧ hit rs[j] v = true ∧ Vt (rs.take j) v k = -1
 | [], _, _ => .inl rfl
 | r :: t, v, k => by
  have e : Vt (r :: t) v k = if hit r v then (k : Int) else Vt t v (k + 1) := rfl
  by_cases h : hit r v = true
  ·rw [e, if_pos h]
   exact .inr ⟨0, by simp, by simp, h, rfl⟩
  ·rw [e, if_neg h]
   rcases afind_spec t v (k + 1) with h1 | ⟨j, hj, h1, h2, h3⟩
   ·exact .inl h1
   ·refine .inr ⟨j + 1, by simpa using hj, by rw [h1]; congr 1; omega, h2, ?_⟩
    rw [List.take_succ_cons, Vt, if_neg h]
    exact h3
/-- A guarded load of many cells, where the guard is met. -/
theorem wpList_load_midG {P : Program} {ops : Array Oper} {rest : List Oper} {op : Oper} {a : Act} {w : World} {Q : Exit → Act → World → Prop} (hw : Region.wanted op (yielded ops a.tmps) = true) (ty : TypeId) (x : Operand) (ho : op.op = .load ty x)
  (b o : Nat) (hx : a.eval x = .pointer (some ⟨b, o, none⟩)) (cs : List Value) (d : TypeDesc) (hc : w.rangeAt b o cs) (hu : P.underlying ty = some d) (hd : d.isRow = true) (hi : (P.info? ty).map (·.size) = some cs.length)
  (h : wpList P ops Q rest (a.put op.dst (.agg cs.toArray)) w) : wpList P ops Q (op :: rest) a w := by
 unfold wpList
 rw [if_pos hw]
 exact .inl (wp_load_mid ty x ho b o hx cs d hc hu hd hi h)
theorem slc_take {w : World} {A : Option Addr} {rs : List Rc} (h : Slc w A (Yn rs)) (j : Nat) : Slc w A (Yn (rs.take j)) := by
 have e : Yn rs = Yn (rs.take j) ++ Yn (rs.drop j) := by
  unfold Yn
  rw [← List.flatMap_append, List.take_append_drop]
 intro hp
 obtain ⟨b, off, rfl, hc⟩ := h (by rw [e, List.length_append]; omega)
 refine ⟨b, off, rfl, fun k hk => ?_⟩
 rw [hc k (by rw [e, List.length_append]; omega), e, List.getElem?_append_left hk]
theorem hit_parts {r : Rc} {v : M4} (h : hit r v = true) : Yp r.l r.v r.h = true ∧ Yj r.l r.v = (v, true) := by
 unfold hit at h
 rw [Bool.and_eq_true] at h
 refine ⟨h.1, ?_⟩
 have h1 := Np h.1
 have h2 := of_decide_eq_true h.2
 generalize Yj r.l r.v = X at h1 h2
 obtain ⟨x, ok⟩ := X
 simp only at h1 h2
 rw [h1, h2]
set_option maxRecDepth 10000 in
set_option maxHeartbeats 3000000 in
theorem law_FnFind (v0 : Value) (w : World) (h : Me w v0) (hm : Vv w ∧ Yf w) : Calls Tryz.prog 8 #[v0] w fun e w' => e = .returned (.bool true) ∧ Ex w w' := by
 obtain ⟨A, cap, xs, rfl, hl, hcap, hcap2, hS0, hbs⟩ := h
 have hB : Vd w A xs := ⟨hS0, hbs⟩
 clear hS0 hbs
 by_cases hbig : (1048576 : Int) < xs.length
 ·go_enter Tryz.func8, Tryz.ntmps8
  go_wp2
  go_ret
  exact ⟨rfl, Ex.refl _⟩
 have KD := Gv (fun w hB => It A xs cap w hB hl hcap hcap2)
 go_enter Tryz.func8, Tryz.ntmps8
 go_wp2_with fail
 refine (KD.out _ hB).mono ?_
 rintro e u1 ⟨B, cb, rs, v, rfl, hn, hcb, hz, hs, hx⟩
 clear hB hbig hl hcap hcap2 KD
 have HX := Gv hx
 have HSL := Gv hs
 have HM := Gv (hm.1.ex hx)
 have HG := Gv (hm.2.ex hx)
 clear hm hx hs
 have ki := fun w (_ : Yf w) hm hs => Or rs B cb v (by omega) (fun r hr => by have := hz r hr; omega) w hm hs
 have ks := fun w hs => Ks rs B cb v (by omega) (fun r hr => by have := hz r hr; omega) w hs
 rcases afind_spec rs v 0 with h0 | ⟨j, hlt, h0, hh, ht⟩
 ·rw [h0] at ki ks
  clear h0 hn hcb hz
  obtain ⟨⟨a1, a2, a3⟩, ⟨b1, b2, b3⟩, ⟨c1, c2, c3⟩, ⟨d1, d2, d3⟩⟩ := v
  simp only [M4.v] at ki ks ⊢
  have KI := Gv ki
  have KS := Gv ks
  clear ki ks
  have hS := Zw.refl u1
  go_upto_region 4 with fail
  replace hS := Zw.alloc (h := hS) (cs := #[.int .i64 a1, .int .i64 a2, .int .i64 a3, .int .i64 b1, .int .i64 b2, .int .i64 b3, .int .i64 c1, .int .i64 c2, .int .i64 c3, .int .i64 d1, .int .i64 d2, .int .i64 d3]) (t := 35)
  (try simp only [Gu] at hS)
  generalize World.alloc _ _ = W1 at *
  have hC := hS.reads
  simp only [Zz, Zy] at hC
  go_wp2_with (first | (go_at_call 25; (with_reducible refine (KI.out _ (HG.out.ex hS.ex) (HM.out.ex hS.ex) (Slc.ex HSL.out hS.ex)).mono ?_); rintro e wn ⟨rfl, hx⟩; replace hS := Zw.after (W := u1) hx; clear hx; replace hC := hS.reads; simp only [Zz, Zy, Gu] at hC) | (go_at_call 23; (with_reducible refine (KS.out _ (Slc.ex HSL.out hS.ex)).mono ?_); rintro e wn ⟨rfl, hx⟩; replace hS := Zw.after (W := u1) hx; clear hx; replace hC := hS.reads; simp only [Zz, Zy, Gu] at hC))
  refine Gq (v := .bool true) ?_ rfl ⟨rfl, HX.out.trans hS.ex⟩
  simp [results, Tryz.results8, go_sem]
 ·rw [Nat.zero_add] at h0
  rw [h0] at ki ks
  obtain ⟨hr1, hr2⟩ := hit_parts hh
  have hsz := hz _ (List.getElem_mem hlt)
  have kb := fun w (_ : Yf w) (hm : Vv w) => Rj (rs[j]).l (by rw [Rc.l, Array.length_toList]; exact Nat.le_trans hsz (by decide)) (rs[j]).v w hm
  have kr := fun w (_ : Yf w) (hm : Vv w) => Wj (rs[j]).l (by rw [Rc.l, Array.length_toList]; exact Nat.le_trans hsz (by decide)) (rs[j]).v (rs[j]).h w hm
  rw [hr2] at kb
  rw [hr1] at kr
  have kt := fun w (_ : Yf w) hm hs => Or (rs.take j) B cb v (by rw [List.length_take]; omega) (fun r hr => by have := hz r (List.mem_of_mem_take hr); omega) w hm hs
  rw [ht, List.length_take, Nat.min_eq_left (by omega)] at kt
  have HT := Gv (slc_take HSL.out j)
  have heq := fun w => eqlSt v v w
  simp only [decide_true] at heq
  obtain ⟨b, off, rfl, hc⟩ := HSL.out (by rw [Zf]; omega)
  have y0 := rc_cell0 hc j hlt
  have y1 := Xe hc j hlt 1 (by omega)
  have y2 := Xe hc j hlt 2 (by omega)
  have y3 := Xe hc j hlt 3 (by omega)
  have y4 := Xe hc j hlt 4 (by omega)
  have y5 := Xe hc j hlt 5 (by omega)
  have y6 := Xe hc j hlt 6 (by omega)
  have y7 := Xe hc j hlt 7 (by omega)
  have y8 := Xe hc j hlt 8 (by omega)
  have y9 := Xe hc j hlt 9 (by omega)
  have y10 := Xe hc j hlt 10 (by omega)
  have y11 := Xe hc j hlt 11 (by omega)
  have y12 := Xe hc j hlt 12 (by omega)
  have hr := No hc j hlt
  have hI : (j : Int) < (rs.length : Int) := by omega
  have hjc : (j : Int) ≤ (cb : Int) := by omega
  have hj0 : ¬ (j : Int) < 0 := by omega
  clear hh h0 ht hsz hr1 hr2 hc hz hn
  generalize rs[j] = r at y0 y1 y2 y3 y4 y5 y6 y7 y8 y9 y10 y11 y12 kb kr hr
  clear hlt
  obtain ⟨S, v1, h1⟩ := r
  have hSb : Bs (Rc.l ⟨S, v1, h1⟩) = S := (bs_of' S).symm
  generalize Rc.l ⟨S, v1, h1⟩ = l at *
  simp only at kb kr
  rw [hSb] at kb kr
  clear hSb
  obtain ⟨⟨d1, d2, d3⟩, ⟨e1, e2, e3⟩, ⟨f1, f2, f3⟩, ⟨g1, g2, g3⟩⟩ := v1
  simp only [Rc.cs, List.getElem?_cons_zero, List.getElem?_cons_succ] at y0 y1 y2 y3 y4 y5 y6 y7 y8 y9 y10 y11 y12 hr
  simp only [m4v, Ws, M4.v] at kb kr
  have HR := Gv hr
  clear hr
  obtain ⟨⟨a1, a2, a3⟩, ⟨b1, b2, b3⟩, ⟨c1, c2, c3⟩, ⟨d1, d2, d3⟩⟩ := v
  simp only [M4.v] at ki ks kt kb heq ⊢
  have KI := Gv ki
  have KS := Gv ks
  have KB := Gv kb
  have KR := Gv kr
  have KT := Gv kt
  have HEQ := Gv heq
  clear ki ks kb kr kt heq
  have HJ := Gv hj0
  clear hj0
  have hS := Zw.refl u1
  go_upto_region 4 with fail
  replace hS := Zw.alloc (h := hS) (cs := #[.int .i64 a1, .int .i64 a2, .int .i64 a3, .int .i64 b1, .int .i64 b2, .int .i64 b3, .int .i64 c1, .int .i64 c2, .int .i64 c3, .int .i64 d1, .int .i64 d2, .int .i64 d3]) (t := 35)
  (try simp only [Gu] at hS)
  generalize World.alloc _ _ = W1 at *
  have hC := hS.reads
  simp only [Zz, Zy] at hC
  have hj0 := HJ.out
  go_upto_region 8 with (first | (go_at_call 25; (with_reducible refine (KI.out _ (HG.out.ex hS.ex) (HM.out.ex hS.ex) (Slc.ex HSL.out hS.ex)).mono ?_); rintro e wn ⟨rfl, hx⟩; replace hS := Zw.after (W := u1) hx; clear hx; replace hC := hS.reads; simp only [Zz, Zy, Gu] at hC) | (go_at_call 23; (with_reducible refine (KS.out _ (Slc.ex HSL.out hS.ex)).mono ?_); rintro e wn ⟨rfl, hx⟩; replace hS := Zw.after (W := u1) hx; clear hx; replace hC := hS.reads; simp only [Zz, Zy, Gu] at hC))
  clear hC hj0
  have HE8 := Gv hS.ex
  replace y0 := hS.ex.get y0
  replace y1 := hS.ex.get y1
  replace y2 := hS.ex.get y2
  replace y3 := hS.ex.get y3
  replace y4 := hS.ex.get y4
  replace y5 := hS.ex.get y5
  replace y6 := hS.ex.get y6
  replace y7 := hS.ex.get y7
  replace y8 := hS.ex.get y8
  replace y9 := hS.ex.get y9
  replace y10 := hS.ex.get y10
  replace y11 := hS.ex.get y11
  replace y12 := hS.ex.get y12
  have hS0 := hS
  refine Zn (St := Ex) (B := fun _ w' => InE _ _ w') 14 1 1 _ 35 (fun _ => 7) (fun _ => 45) (fun _ => #[.int .i64 0, .int .i64 0, .int .i64 0, .int .i64 0, .int .i64 0, .int .i64 0, .int .i64 0, .int .i64 0, .int .i64 0, .int .i64 0, .int .i64 0, .int .i64 0]) (fun _ => #[.int .i64 a1, .int .i64 a2, .int .i64 a3, .int .i64 b1, .int .i64 b2, .int .i64 b3, .int .i64 c1, .int .i64 c2, .int .i64 c3, .int .i64 d1, .int .i64 d2, .int .i64 d3]) false (by kernel_rfl) (by kernel_rfl) (InE.drew (InE.start hS0)) (fun x y h1 h2 _ => by omega) (fun x y _ _ => by decide) (fun _ _ h g cs _ hb => hb.ex h) (fun _ _ cs h => h.alloc _) (fun _ _ h => h.size) ?_
  iterate 9 (apply Zx; (· rfl); (· intro b wb hB Q1 hQ1; have q0 := hB.sees.ex.get y0; go_wp2_with fail; exact hQ1 _ (Ex.refl _) hB); (· exact ⟨_, rfl⟩))
  (apply Zx; (· rfl); (· intro b wb hB Q1 hQ1; have q1 := hB.sees.ex.get y1; have q2 := hB.sees.ex.get y2; have q3 := hB.sees.ex.get y3; have q4 := hB.sees.ex.get y4; have q5 := hB.sees.ex.get y5; have q6 := hB.sees.ex.get y6; have q7 := hB.sees.ex.get y7; have q8 := hB.sees.ex.get y8; have q9 := hB.sees.ex.get y9; have q10 := hB.sees.ex.get y10; have q11 := hB.sees.ex.get y11; have q12 := hB.sees.ex.get y12; go_wp2_with fail; exact hQ1 _ (Ex.refl _) hB); (· exact ⟨_, rfl⟩))
  (apply Zx; (· rfl); (· intro b wb hB Q1 hQ1; go_wp2_with (go_at_call 28; (with_reducible refine (KB.out _ (HG.out.ex (HE8.out.trans hB.sees.ex)) (HM.out.ex (HE8.out.trans hB.sees.ex))).mono ?_); rintro e wn ⟨rfl, hx⟩); exact hQ1 _ hx (hB.go hx)); (· exact ⟨_, rfl⟩))
  iterate 3 (apply Zx; (· rfl); (· intro b wb hB Q1 hQ1; go_wp2_with fail; exact hQ1 _ (Ex.refl _) hB); (· exact ⟨_, rfl⟩))
  refine Zv ?_
  refine ⟨fun i hi => ?_, fun i hi => ?_, fun i hi => ?_, fun gg wz hz hbx hne => ?_⟩
  ·obtain rfl : i = 0 := by omega
   all_goals exact ⟨_, rfl, Oq⟩
  ·obtain rfl : i = 0 := by omega
   all_goals exact ⟨_, rfl, Zi Sr rfl (by kernel_rfl) (fun _ _ _ hg h => h.setRow hg _)⟩
  ·obtain rfl : i = 0 := by omega
   ·exact (show (7 : Nat) < 68 by decide)
  obtain ⟨hg0, hb0⟩ := hbx 0 (by omega)
  replace hS := InE.join hS0 hz
  replace hS := Zw.put hS hb0
  simp only [frN, Act.put, Gt, Gs, Gr, Nat.reduceAdd, List.drop_succ_cons, List.drop_zero]
  generalize gg 0 = g0 at *
  clear hbx hz hS0 hne
  clear y0 y1 y2 y3 y4 y5 y6 y7 y8 y9 y10 y11 y12
  go_upto_region 9 with fail
  refine Yz (St := fun _ _ => True) false (B := fun _ w2 => Zw u1 w2 [(g0, 35, #[.int .i64 a1, .int .i64 a2, .int .i64 a3, .int .i64 b1, .int .i64 b2, .int .i64 b3, .int .i64 c1, .int .i64 c2, .int .i64 c3, .int .i64 d1, .int .i64 d2, .int .i64 d3]), (u1.heap.size, 35, #[.int .i64 a1, .int .i64 a2, .int .i64 a3, .int .i64 b1, .int .i64 b2, .int .i64 b3, .int .i64 c1, .int .i64 c2, .int .i64 c3, .int .i64 d1, .int .i64 d2, .int .i64 d3])]) (by kernel_rfl) (by kernel_rfl) (hS.drewW) ?_
  apply Zx
  ·rfl
  ·intro b2 wb hB Q1 hQ1
   go_wp2_with fail
   exact hQ1 _ trivial hB
  ·exact ⟨_, rfl⟩
  apply Zx
  ·rfl
  ·intro b2 wb hB Q1 hQ1
   go_wp2_with fail
   exact hQ1 _ trivial hB
  ·exact ⟨_, rfl⟩
  apply Zx
  ·rfl
  ·intro b2 wb hB Q1 hQ1
   have hC := hB.reads
   simp only [Zz, Zy] at hC
   go_wp2_with fail
   exact hQ1 _ trivial hB
  ·exact ⟨_, rfl⟩
  apply Zx
  ·rfl
  ·intro b2 wb hB Q1 hQ1
   have hC := hB.reads
   simp only [Zz, Zy] at hC
   go_wp2_with fail
   exact hQ1 _ trivial hB
  ·exact ⟨_, rfl⟩
  apply Zx
  ·rfl
  ·intro b2 wb hB Q1 hQ1
   have heq := HEQ.out
   go_wp2_with (simp only [heq])
   exact hQ1 _ trivial hB
  ·exact ⟨_, rfl⟩
  apply Zx
  ·rfl
  ·intro b2 wb hB Q1 hQ1
   go_wp2_with fail
   exact hQ1 _ trivial hB
  ·exact ⟨_, rfl⟩
  apply Zx
  ·rfl
  ·intro b2 wb hB Q1 hQ1
   go_wp2_with fail
   exact hQ1 _ trivial hB
  ·exact ⟨_, rfl⟩
  apply Zx
  ·rfl
  ·intro b2 wb hB Q1 hQ1
   go_wp2_with fail
   exact hQ1 _ trivial hB
  ·exact ⟨_, rfl⟩
  apply Zx
  ·rfl
  ·intro b2 wb hB Q1 hQ1
   go_wp2_with fail
   exact hQ1 _ trivial hB
  ·exact ⟨_, rfl⟩
  apply Zx
  ·rfl
  ·intro b2 wb hB Q1 hQ1
   go_wp2_with fail
   exact hQ1 _ trivial hB
  ·exact ⟨_, rfl⟩
  apply Zx
  ·rfl
  ·intro b2 wb hB Q1 hQ1
   have hr := Mg HR.out hB.ex
   refine wpList_load_midG (by rfl) _ _ rfl _ _ rfl _ _ hr Tryz.underlying37 rfl cellIR2 ?_
   go_wp2_with fail
   exact hQ1 _ trivial hB
  ·exact ⟨_, rfl⟩
  apply Zx
  ·rfl
  ·intro b2 wb hB Q1 hQ1
   go_wp2_with (go_at_call 14; (with_reducible refine (KR.out _ (HG.out.ex hB.ex) (HM.out.ex hB.ex)).mono ?_); rintro e wn ⟨rfl, hx⟩)
   exact hQ1 _ trivial (Zw.after (h := hB) hx)
  ·exact ⟨_, rfl⟩
  apply Zx
  ·rfl
  ·intro b2 wb hB Q1 hQ1
   go_wp2_with fail
   exact hQ1 _ trivial hB
  ·exact ⟨_, rfl⟩
  apply Zx
  ·rfl
  ·intro b2 wb hB Q1 hQ1
   go_wp2_with fail
   exact hQ1 _ trivial hB
  ·exact ⟨_, rfl⟩
  apply Zx
  ·rfl
  ·intro b2 wb hB Q1 hQ1
   go_wp2_with fail
   exact hQ1 _ trivial hB
  ·exact ⟨_, rfl⟩
  apply Zx
  ·rfl
  ·intro b2 wb hB Q1 hQ1
   go_wp2_with fail
   exact hQ1 _ trivial hB
  ·exact ⟨_, rfl⟩
  apply Zx
  ·rfl
  ·intro b2 wb hB Q1 hQ1
   go_wp2_with fail
   exact hQ1 _ trivial hB
  ·exact ⟨_, rfl⟩
  apply Zx
  ·rfl
  ·intro b2 wb hB Q1 hQ1
   have hC := hB.reads
   simp only [Zz, Zy] at hC
   go_wp2_with fail
   exact hQ1 _ trivial hB
  ·exact ⟨_, rfl⟩
  apply Zx
  ·rfl
  ·intro b2 wb hB Q1 hQ1
   go_wp2_with (go_at_call 25; (with_reducible refine (KT.out _ (HG.out.ex hB.ex) (HM.out.ex hB.ex) (Slc.ex HT.out hB.ex)).mono ?_); rintro e wn ⟨rfl, hx⟩)
   exact hQ1 _ trivial (Zw.after (h := hB) hx)
  ·exact ⟨_, rfl⟩
  apply Zx
  ·rfl
  ·intro b2 wb hB Q1 hQ1
   go_wp2_with fail
   exact hQ1 _ trivial hB
  ·exact ⟨_, rfl⟩
  apply Zx
  ·rfl
  ·intro b2 wb hB Q1 hQ1
   go_wp2_with fail
   exact hQ1 _ trivial hB
  ·exact ⟨_, rfl⟩
  apply Zx
  ·rfl
  ·intro b2 wb hB Q1 hQ1
   go_wp2_with fail
   exact hQ1 _ trivial hB
  ·exact ⟨_, rfl⟩
  refine Zv ?_
  intro w9 hS9
  go_wp2_with fail
  refine Gq (v := .bool true) ?_ rfl ⟨rfl, HX.out.trans hS9.ex⟩
  simp [results, Tryz.results8, go_sem]
end Go.Proofs.YtmmjkchjgeklnaaGreatDoor
