/-
  The walk of the law FnExactRecordMake.
-/
import Derived.Test.YtmmjkchjgeklnaaGreatDoorK36
import Derived.Test.YtmmjkchjgeklnaaGreatDoorK23
set_option linter.unusedSimpArgs false
set_option linter.unusedVariables false
namespace Go.Proofs.YtmmjkchjgeklnaaGreatDoor
open Go.RowKit

attribute [local go_sem] Zk Zj
set_option maxRecDepth 10000 in
set_option maxHeartbeats 4000000 in
theorem law_FnExactRecordMake (v0 v1 : Value) (w : World) (h0 : IsStr w v0) (h1 : Ik w v1) (hm : Vv w ∧ Yf w) : Calls Tryz.prog 4 #[v0, v1] w fun e w' => e = .returned (.bool true) ∧ Ex w w' := by
 obtain ⟨S, rfl, hs⟩ := h0
 obtain ⟨a, b, c, d, rfl⟩ := h1
 by_cases hl : S.size ≤ 1048576
 ·have hlI : ¬ (1048576 : Int) < (S.size : Int) := by omega
  have ki := fun w (_ : Yf w) hm => Qn S.data.toList (by rw [Wb]; exact hl) ⟨a, b, c, d⟩ w hm
  have ks := fun w => Ns S.data.toList (by rw [Wb]; exact hl) ⟨a, b, c, d⟩ w
  rw [← Qm] at ki ks
  obtain ⟨T, u, h, hr⟩ := recv_form S.data.toList ⟨a, b, c, d⟩ (Vw S.data.toList ⟨a, b, c, d⟩)
  rw [hr] at ki ks
  clear hr
  generalize (Vw S.data.toList ⟨a, b, c, d⟩).2 = ok at ki ks
  obtain ⟨a1, a2, a3⟩ := a
  obtain ⟨b1, b2, b3⟩ := b
  obtain ⟨c1, c2, c3⟩ := c
  obtain ⟨d1, d2, d3⟩ := d
  obtain ⟨⟨p1, p2, p3⟩, ⟨q1, q2, q3⟩, ⟨r1, r2, r3⟩, ⟨s1, s2, s3⟩⟩ := u
  simp only [M4.v, Ws] at ki ks ⊢
  have KI := Gv ki
  have KS := Gv ks
  have KT := Gv (fun w => Oy a1 a2 a3 b1 b2 b3 c1 c2 c3 d1 d2 d3 w)
  have KE := Gv (fun w => Mo T p1 p2 p3 q1 q2 q3 r1 r2 r3 s1 s2 s3 h w)
  have HM := Gv hm.1
  have HG := Gv hm.2
  clear ki ks hm
  have hS := Zw.refl w
  have hC := True.intro
  rcases ok with _ | _
  all_goals
   go_enter Tryz.func4, Tryz.ntmps4
   go_upto_region 4 with (first | (go_at_call 16; (with_reducible refine (KT.out _).mono ?_); rintro e wn ⟨rfl, hx⟩; replace hS := Zw.after (W := w) hx; clear hx; replace hC := hS.reads; simp only [Zz, Zy, Gu] at hC) | (go_at_call 15; (with_reducible refine (KS.out _).mono ?_); rintro e wn ⟨rfl, hx⟩; replace hS := Zw.after (W := w) hx; clear hx; replace hC := hS.reads; simp only [Zz, Zy, Gu] at hC))
   replace hS := Zw.alloc (h := hS) (cs := #[.string T, .int .i64 p1, .int .i64 p2, .int .i64 p3, .int .i64 q1, .int .i64 q2, .int .i64 q3, .int .i64 r1, .int .i64 r2, .int .i64 r3, .int .i64 s1, .int .i64 s2, .int .i64 s3, .int .u32 h]) (t := 37)
   (try simp only [Gu] at hS)
   generalize World.alloc _ (.cells #[.string T, .int .i64 p1, .int .i64 p2, .int .i64 p3, .int .i64 q1, .int .i64 q2, .int .i64 q3, .int .i64 r1, .int .i64 r2, .int .i64 r3, .int .i64 s1, .int .i64 s2, .int .i64 s3, .int .u32 h] 37) = W1 at *
   replace hC := hS.reads
   simp only [Zz, Zy] at hC
   go_wp2_with (first | (go_at_call 16; (with_reducible refine (KT.out _).mono ?_); rintro e wn ⟨rfl, hx⟩; replace hS := Zw.after (W := w) hx; clear hx; replace hC := hS.reads; simp only [Zz, Zy, Gu] at hC) | (go_at_call 17; (with_reducible refine (KI.out _ (HG.out.ex hS.ex) (HM.out.ex hS.ex)).mono ?_); rintro e wn ⟨rfl, hx⟩; replace hS := Zw.after (W := w) hx; clear hx; replace hC := hS.reads; simp only [Zz, Zy, Gu] at hC) | (go_at_call 18; (with_reducible refine (KE.out _).mono ?_); rintro e wn ⟨rfl, hx⟩; replace hS := Zw.after (W := w) hx; clear hx; replace hC := hS.reads; simp only [Zz, Zy, Gu] at hC))
   refine Gq (v := .bool true) ?_ rfl ⟨rfl, ?_⟩
   ·simp [results, Tryz.results4, go_sem]
   ·repeat' (with_reducible first | exact hS.ex | exact Ex.refl _ | assumption | refine Ex.alloc ?_ _ | refine Ex.drewN ?_ _ | refine Ex.drew ?_ | refine Ex.setCell ?_ (by simp <;> omega) _)
 ·have hlI : (1048576 : Int) < (S.size : Int) := by omega
  go_enter Tryz.func4, Tryz.ntmps4
  go_wp2
  refine Gq (v := .bool true) ?_ rfl ⟨rfl, ?_⟩
  ·simp [results, Tryz.results4, go_sem]
  ·repeat' (with_reducible first | exact Ex.refl _ | assumption | refine Ex.alloc ?_ _ | refine Ex.drewN ?_ _ | refine Ex.drew ?_ | refine Ex.setCell ?_ (by simp <;> omega) _)
end Go.Proofs.YtmmjkchjgeklnaaGreatDoor
