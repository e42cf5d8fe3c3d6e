/-
  The walk of the law FnExactArchiveFind.
-/
import Derived.Test.YtmmjkchjgeklnaaGreatDoorK54
import Derived.Test.YtmmjkchjgeklnaaGreatDoorK50
import Derived.Test.YtmmjkchjgeklnaaGreatDoorK52
set_option linter.unusedSimpArgs false
set_option linter.unusedVariables false
namespace Go.Proofs.YtmmjkchjgeklnaaGreatDoor
open Go.RowKit

attribute [local go_sem] Zk Zj
set_option maxRecDepth 10000 in
set_option maxHeartbeats 4000000 in
theorem law_FnExactArchiveFind (v0 v1 : Value) (w : World) (h0 : IsRecords w v0) (h1 : Ik w v1) (hm : Vv w ∧ Yf w) : Calls Tryz.prog 7 #[v0, v1] w fun e w' => e = .returned (.bool true) ∧ Ex w w' := by
 obtain ⟨A, cap, rs, rfl, hl, hs, hz⟩ := h0
 obtain ⟨a, b, c, d, rfl⟩ := h1
 have HSL := Gv hs
 have kz := fun w hs => szRecordS_any rs A cap 1048576 (by omega) (by omega) hl hz w hs
 have hok := szrS_ok (rs := rs) (left := 1048576) (by omega)
 generalize szrS rs 1048576 = m at kz hok
 have KZ := Gv kz
 clear kz hz hl hs
 have HM := Gv hm.1
 have HG := Gv hm.2
 clear hm
 have hR := Zw.refl w
 by_cases hneg : m < 0
 ·clear hok
  have hS := hR
  have hC := True.intro
  go_enter Tryz.func7, Tryz.ntmps7
  go_upto_region 1 with fail
  replace hS := Zw.alloc (h := hS) (cs := #[.int .i64 a.re, .int .i64 a.im, .int .i64 a.den, .int .i64 b.re, .int .i64 b.im, .int .i64 b.den, .int .i64 c.re, .int .i64 c.im, .int .i64 c.den, .int .i64 d.re, .int .i64 d.im, .int .i64 d.den]) (t := 26)
  go_wp2_with (go_at_call 22; (with_reducible refine (KZ.out _ (Slc.ex HSL.out hS.ex)).mono ?_); rintro e wn ⟨rfl, hx⟩; replace hS := Zw.after (W := w) hx; clear hx; replace hC := hS.reads; simp only [Zz, Zy, Gu] at hC)
  refine Gq (v := .bool true) ?_ rfl ⟨rfl, ?_⟩
  ·simp [results, Tryz.results7, go_sem]
  ·repeat' (with_reducible first | exact hS.ex | exact Ex.refl _ | assumption | refine Ex.alloc ?_ _ | refine Ex.drewN ?_ _ | refine Ex.drew ?_ | refine Ex.setCell ?_ (by simp <;> omega) _)
 ·obtain ⟨hn, hzz⟩ := hok (by omega)
  have ki := fun A cap w (_ : Yf w) hm hs => Or rs A cap ⟨a, b, c, d⟩ hn hzz w hm hs
  have ks := fun A cap w hs => Ks rs A cap ⟨a, b, c, d⟩ hn hzz w hs
  have KR := Gv (fun w hs => toRecordS_any rs A cap hn w hs)
  have KQ := Gv (fun A2 A3 c2 c3 w h2 h3 => Gw rs A2 A3 c2 c3 hn w h2 h3)
  generalize Vt rs ⟨a, b, c, d⟩ 0 = R at ki ks
  obtain ⟨a1, a2, a3⟩ := a
  obtain ⟨b1, b2, b3⟩ := b
  obtain ⟨c1, c2, c3⟩ := c
  obtain ⟨d1, d2, d3⟩ := d
  simp only [M4.v] at ki ks ⊢
  have KI := Gv ki
  have KS := Gv ks
  have KT := Gv (fun w => Oy a1 a2 a3 b1 b2 b3 c1 c2 c3 d1 d2 d3 w)
  clear ki ks hn hzz
  have hS := hR
  have hC := True.intro
  go_enter Tryz.func7, Tryz.ntmps7
  go_upto_region 1 with fail
  replace hS := Zw.alloc (h := hS) (cs := #[.int .i64 a1, .int .i64 a2, .int .i64 a3, .int .i64 b1, .int .i64 b2, .int .i64 b3, .int .i64 c1, .int .i64 c2, .int .i64 c3, .int .i64 d1, .int .i64 d2, .int .i64 d3]) (t := 26)
  generalize World.alloc _ _ = W1 at *
  replace hC := hS.reads
  simp only [Zz, Zy] at hC
  go_upto_region 5 with (go_at_call 22; (with_reducible refine (KZ.out _ (Slc.ex HSL.out hS.ex)).mono ?_); rintro e wn ⟨rfl, hx⟩; replace hS := Zw.after (W := w) hx; clear hx; replace hC := hS.reads; simp only [Zz, Zy, Gu] at hC)
  clear hneg hC hR
  refine Td (σ := World → Prop) (St := fun w2 w3 => w3 = w2) (B := fun _ w2 => Zw w w2 [(w.heap.size, 26, #[.int .i64 a1, .int .i64 a2, .int .i64 a3, .int .i64 b1, .int .i64 b2, .int .i64 b3, .int .i64 c1, .int .i64 c2, .int .i64 c3, .int .i64 d1, .int .i64 d2, .int .i64 d3])]) (X := fun p w2 => p w2) [(0, false), (2, false), (1, true), (3, true), (4, true), (5, true)] (fun _ => True) false (by kernel_rfl) (by kernel_rfl) (fun _ _ _ h h2 => h ▸ h2) hS.drewW trivial ?_
  refine Sd rfl ?_
  (apply Zx; (· rfl); (· intro b wb hB Q1 hQ1; go_wp2_with fail; exact hQ1 _ rfl hB); (· exact ⟨_, rfl⟩))
  refine Zv ?_
  refine Sd rfl ?_
  (apply Zx; (· rfl); (· intro b wb hB Q1 hQ1; have hC := hB.reads; simp only [Zz, Zy] at hC; go_wp2_with fail; exact hQ1 _ rfl hB); (· exact ⟨_, rfl⟩))
  refine Zv ?_
  refine Tc false (fun u p => ∃ (A2 : Option Addr) (c2 : Nat), u = .slice A2 rs.length c2 ∧ p = fun w2 => Slc w2 A2 (Yn rs)) rfl rfl ?_ ?_
  ·intro b wb hB hp Q1 hQ1
   go_wp2_with (go_at_call 24; refine (KR.out wb (Slc.ex HSL.out hB.ex)).mono ?_; rintro e w5 ⟨A2, c2, rfl, ho, hx⟩)
   exact hQ1 _ _ _ ⟨A2, c2, rfl, rfl⟩ (Zw.after (h := hB) hx) (Own.slc ho)
  ·rintro u _ ⟨A2, k2, rfl, rfl⟩
   simp only [Act.put, Gt, Gs, Gr]
   refine Tc false (fun u p => u = .agg #[.int .i64 a1, .int .i64 a2, .int .i64 a3, .int .i64 b1, .int .i64 b2, .int .i64 b3, .int .i64 c1, .int .i64 c2, .int .i64 c3, .int .i64 d1, .int .i64 d2, .int .i64 d3] ∧ p = fun w2 => Slc w2 A2 (Yn rs)) rfl rfl ?_ ?_
   ·intro b wb hB hp Q1 hQ1
    go_wp2_with (go_at_call 16; refine (KT.out wb).mono ?_; rintro e w5 ⟨rfl, hx⟩)
    exact hQ1 _ _ _ ⟨rfl, rfl⟩ (Zw.after (h := hB) hx) (Slc.ex hp hx)
   ·rintro u _ ⟨rfl, rfl⟩
    simp only [Act.put, Gt, Gs, Gr]
    refine Tc false (fun u p => u = .int .i64 R ∧ p = fun _ => True) rfl rfl ?_ ?_
    ·intro b wb hB hp Q1 hQ1
     go_wp2_with (go_at_call 23; refine (KS.out _ _ wb hp).mono ?_; rintro e w5 ⟨rfl, hx⟩)
     exact hQ1 _ _ _ ⟨rfl, rfl⟩ (Zw.after (h := hB) hx) trivial
    ·rintro u _ ⟨rfl, rfl⟩
     simp only [Act.put, Gt, Gs, Gr]
     refine Tc false (fun u p => u = .int .i64 R ∧ p = fun _ => True) rfl rfl ?_ ?_
     ·intro b wb hB hp Q1 hQ1
      go_wp2_with fail
      exact hQ1 _ _ _ ⟨rfl, rfl⟩ hB trivial
     ·rintro u _ ⟨rfl, rfl⟩
      simp only [Act.put, Gt, Gs, Gr]
      intro w6 hS6 _
      replace hS := hS6
      clear hS6
      go_wp2_with fail
      refine (KR.out _ (Slc.ex HSL.out hS.ex)).mono ?_
      rintro e w7 ⟨A4, k4, rfl, ho, hx⟩
      replace hS := Zw.after (h := hS) hx
      have HO := Gv (Own.slc ho)
      clear hx ho
      have hC := hS.reads
      simp only [Zz, Zy] at hC
      go_wp2_with fail
      refine (KT.out _).mono ?_
      rintro e w8 ⟨rfl, hx⟩
      replace hS := Zw.after (h := hS) hx
      replace HO := Gv (Slc.ex HO.out hx)
      clear hx hC
      go_wp2_with fail
      refine (KI.out A4 k4 _ (HG.out.ex hS.ex) (HM.out.ex hS.ex) HO.out).mono ?_
      rintro e w9 ⟨rfl, hx⟩
      replace hS := Zw.after (h := hS) hx
      replace HO := Gv (Slc.ex HO.out hx)
      clear hx
      go_wp2_with fail
      refine (KR.out _ (Slc.ex HSL.out hS.ex)).mono ?_
      rintro e w10 ⟨A5, k5, rfl, ho, hx⟩
      replace hS := Zw.after (h := hS) hx
      replace HO := Gv (Slc.ex HO.out hx)
      have HO5 := Gv (Own.slc ho)
      clear hx ho
      go_wp2_with fail
      refine (KQ.out A4 A5 k4 k5 _ HO.out HO5.out).mono ?_
      rintro e w11 ⟨rfl, hx⟩
      replace hS := Zw.after (h := hS) hx
      clear hx
      go_wp2_with fail
      refine Gq (v := .bool true) ?_ rfl ⟨rfl, ?_⟩
      ·simp [results, Tryz.results7, go_sem]
      ·repeat' (with_reducible first | exact hS.ex | exact Ex.refl _ | assumption | refine Ex.alloc ?_ _ | refine Ex.drewN ?_ _ | refine Ex.drew ?_ | refine Ex.setCell ?_ (by simp <;> omega) _)
end Go.Proofs.YtmmjkchjgeklnaaGreatDoor
