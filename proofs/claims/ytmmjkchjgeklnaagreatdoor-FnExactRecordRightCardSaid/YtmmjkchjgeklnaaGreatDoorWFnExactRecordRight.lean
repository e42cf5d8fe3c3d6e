/-
  The walk of the law FnExactRecordRight.
-/
import Derived.Test.YtmmjkchjgeklnaaGreatDoorK36
import Derived.Test.YtmmjkchjgeklnaaGreatDoorK23
set_option linter.unusedSimpArgs false
set_option linter.unusedVariables false
namespace Go.Proofs.YtmmjkchjgeklnaaGreatDoor
open Go.RowKit

attribute [local go_sem] Zk Zj
set_option maxRecDepth 10000 in
set_option maxHeartbeats 4000000 in
theorem law_FnExactRecordRight (v0 : Value) (w : World) (h0 : Lj w v0) (hm : Vv w ∧ Yf w) : Calls Tryz.prog 3 #[v0] w fun e w' => e = .returned (.bool true) ∧ Ex w w' := by
 obtain ⟨S, v, n, rfl, hs⟩ := h0
 have kz := fun w => Se S v.a.re v.a.im v.a.den v.b.re v.b.im v.b.den v.c.re v.c.im v.c.den v.d.re v.d.im v.d.den n 1048576 (by omega) (by omega) hs w
 have kt := fun w => Sf S v.a.re v.a.im v.a.den v.b.re v.b.im v.b.den v.c.re v.c.im v.c.den v.d.re v.d.im v.d.den n w
 unfold szr at kz
 unfold Ws
 by_cases hl : S.size ≤ 1048576
 ·have hlI : ¬ (1048576 : Int) - (S.size : Int) < 0 := by omega
  rw [if_neg hlI] at kz
  have ki := fun w (_ : Yf w) hm => Wj S.data.toList (by rw [Wb]; exact hl) v n w hm
  have ks := fun w => Tp S.data.toList (by rw [Wb]; exact hl) v n w
  rw [← Qm] at ki ks
  unfold Ws at ki ks
  generalize Yp S.data.toList v n = ok at ki ks
  generalize (1048576 : Int) - (S.size : Int) = m at kz hlI
  have hm0 : 0 ≤ m := by omega
  have hmb : (m < 0) = False := eq_false (by omega)
  obtain ⟨⟨a1, a2, a3⟩, ⟨b1, b2, b3⟩, ⟨c1, c2, c3⟩, ⟨d1, d2, d3⟩⟩ := v
  simp only at ki ks kz kt ⊢
  have KI := Gv ki
  have KS := Gv ks
  have KZ := Gv kz
  have KT := Gv kt
  have HM := Gv hm.1
  have HG := Gv hm.2
  clear ki ks kz kt hm
  have hS := Zw.refl w
  have hC := True.intro
  rcases ok with _ | _
  all_goals
   go_enter Tryz.func3, Tryz.ntmps3
   go_wp2_with (first | (go_at_call 11; (with_reducible refine (KZ.out _).mono ?_); rintro e wn ⟨rfl, hx⟩; replace hS := Zw.after (W := w) hx; clear hx; replace hC := hS.reads; simp only [Zz, Zy, Gu] at hC) | (go_at_call 13; (with_reducible refine (KT.out _).mono ?_); rintro e wn ⟨rfl, hx⟩; replace hS := Zw.after (W := w) hx; clear hx; replace hC := hS.reads; simp only [Zz, Zy, Gu] at hC) | (go_at_call 12; (with_reducible refine (KS.out _).mono ?_); rintro e wn ⟨rfl, hx⟩; replace hS := Zw.after (W := w) hx; clear hx; replace hC := hS.reads; simp only [Zz, Zy, Gu] at hC) | (go_at_call 14; (with_reducible refine (KI.out _ (HG.out.ex hS.ex) (HM.out.ex hS.ex)).mono ?_); rintro e wn ⟨rfl, hx⟩; replace hS := Zw.after (W := w) hx; clear hx; replace hC := hS.reads; simp only [Zz, Zy, Gu] at hC))
   refine Gq (v := .bool true) ?_ rfl ⟨rfl, ?_⟩
   ·simp [results, Tryz.results3, go_sem]
   ·repeat' (with_reducible first | exact hS.ex | exact Ex.refl _ | assumption | refine Ex.alloc ?_ _ | refine Ex.drewN ?_ _ | refine Ex.drew ?_ | refine Ex.setCell ?_ (by simp <;> omega) _)
 ·have hlI : (1048576 : Int) - (S.size : Int) < 0 := by omega
  rw [if_pos hlI] at kz
  obtain ⟨⟨a1, a2, a3⟩, ⟨b1, b2, b3⟩, ⟨c1, c2, c3⟩, ⟨d1, d2, d3⟩⟩ := v
  simp only at kz ⊢
  have KZ := Gv kz
  clear kz kt hm hlI
  have hS := Zw.refl w
  have hC := True.intro
  go_enter Tryz.func3, Tryz.ntmps3
  go_wp2_with (go_at_call 11; (with_reducible refine (KZ.out _).mono ?_); rintro e wn ⟨rfl, hx⟩; replace hS := Zw.after (W := w) hx; clear hx; replace hC := hS.reads; simp only [Zz, Zy, Gu] at hC)
  refine Gq (v := .bool true) ?_ rfl ⟨rfl, ?_⟩
  ·simp [results, Tryz.results3, go_sem]
  ·repeat' (with_reducible first | exact hS.ex | exact Ex.refl _ | assumption | refine Ex.alloc ?_ _ | refine Ex.drewN ?_ _ | refine Ex.drew ?_ | refine Ex.setCell ?_ (by simp <;> omega) _)
end Go.Proofs.YtmmjkchjgeklnaaGreatDoor
