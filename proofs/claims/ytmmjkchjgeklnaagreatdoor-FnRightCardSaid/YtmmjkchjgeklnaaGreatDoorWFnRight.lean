/-
  The walk of the law FnRight.
-/
import Derived.Test.YtmmjkchjgeklnaaGreatDoorK41
import Derived.Test.YtmmjkchjgeklnaaGreatDoorK47
import Derived.Test.YtmmjkchjgeklnaaGreatDoorK02
set_option linter.unusedSimpArgs false
set_option linter.unusedVariables false
namespace Go.Proofs.YtmmjkchjgeklnaaGreatDoor
open Go.RowKit

attribute [local go_sem] Zk Zj
set_option maxRecDepth 10000 in
set_option maxHeartbeats 2000000 in
theorem law_FnRight (v0 : Value) (w : World) (h : Me w v0) (hm : Vv w ∧ Yf w) : Calls Tryz.prog 6 #[v0] w fun e w' => e = .returned (.bool true) ∧ Ex w w' := by
 obtain ⟨A, cap, xs, rfl, hl, hcap, hcap2, hS0, hbs⟩ := h
 have hB : Vd w A xs := ⟨hS0, hbs⟩
 clear hS0 hbs
 by_cases hbig : (1048576 : Int) < xs.length
 ·go_enter Tryz.func6, Tryz.ntmps6
  go_wp2
  go_ret
  exact ⟨rfl, Ex.refl _⟩
 have HM := Gv hm.1
 have HG := Gv hm.2
 clear hm
 have KD := Gv (fun w hB => Iu A xs cap w hB hl hcap hcap2)
 have hR := Zw.refl w
 go_enter Tryz.func6, Tryz.ntmps6
 go_wp2_with fail
 refine (KD.out _ hB).mono ?_
 rintro e u1 ⟨S, v, n, rfl, hs, hx⟩
 clear hB hbig hl hcap hcap2 KD
 have ki := fun w (_ : Yf w) hm => Wj S.data.toList (by rw [Wb]; omega) v n w hm
 have ks := fun w => Tp S.data.toList (by rw [Wb]; omega) v n w
 have kr := fun w (_ : Yf w) hm => Qn S.data.toList (by rw [Wb]; omega) v w hm
 rw [← Qm] at ki ks kr
 have hri := right_is (l := S.data.toList) (v := v) (h := n)
 have hSb : Bs S.data.toList = S := (Qm S).symm
 generalize Yp S.data.toList v n = ok at *
 generalize Vw S.data.toList v = R at *
 simp only [Hk, hSb] at kr
 clear hSb hs
 have hq := fun w => eqlRc S v n w
 have hS : Zw w u1 [] := ⟨hx, trivial⟩
 clear hx hR
 obtain ⟨⟨a1, a2, a3⟩, ⟨b1, b2, b3⟩, ⟨c1, c2, c3⟩, ⟨d1, d2, d3⟩⟩ := v
 rcases ok with _ | _
 ·clear hri hq kr
  simp only [Ws, M4.v] at ki ks ⊢
  have KI := Gv ki
  have KS := Gv ks
  clear ki ks
  go_upto_region 4 with fail
  replace hS := Zw.alloc (h := hS) (cs := #[.string S, .int .i64 a1, .int .i64 a2, .int .i64 a3, .int .i64 b1, .int .i64 b2, .int .i64 b3, .int .i64 c1, .int .i64 c2, .int .i64 c3, .int .i64 d1, .int .i64 d2, .int .i64 d3, .int .u32 n]) (t := 37)
  generalize World.alloc _ _ = W1 at *
  have hC := hS.reads
  simp only [Zz, Zy] at hC
  go_wp2_with (first | (go_at_call 14; (with_reducible refine (KI.out _ (HG.out.ex hS.ex) (HM.out.ex hS.ex)).mono ?_); rintro e wn ⟨rfl, hx⟩; replace hS := Zw.after (W := w) hx; clear hx; replace hC := hS.reads; simp only [Zz, Zy, Gu] at hC) | (go_at_call 12; (with_reducible refine (KS.out _).mono ?_); rintro e wn ⟨rfl, hx⟩; replace hS := Zw.after (W := w) hx; clear hx; replace hC := hS.reads; simp only [Zz, Zy, Gu] at hC))
  refine Gq (v := .bool true) ?_ rfl ⟨rfl, ?_⟩
  ·simp [results, Tryz.results6, go_sem]
  ·repeat' (with_reducible first | exact hS.ex | exact Ex.refl _ | assumption | refine Ex.alloc ?_ _ | refine Ex.drewN ?_ _ | refine Ex.drew ?_ | refine Ex.setCell ?_ (by simp <;> omega) _)
 ·have e := hri rfl
  subst e
  clear hri
  simp only [if_true, Ws, M4.v] at ki ks kr hq ⊢
  have KI := Gv ki
  have KS := Gv ks
  have KR := Gv kr
  have HQ := Gv hq
  clear ki ks kr hq
  go_upto_region 4 with fail
  replace hS := Zw.alloc (h := hS) (cs := #[.string S, .int .i64 a1, .int .i64 a2, .int .i64 a3, .int .i64 b1, .int .i64 b2, .int .i64 b3, .int .i64 c1, .int .i64 c2, .int .i64 c3, .int .i64 d1, .int .i64 d2, .int .i64 d3, .int .u32 n]) (t := 37)
  generalize World.alloc _ _ = W1 at *
  have hC := hS.reads
  simp only [Zz, Zy] at hC
  go_upto_region 9 with (first | (go_at_call 14; (with_reducible refine (KI.out _ (HG.out.ex hS.ex) (HM.out.ex hS.ex)).mono ?_); rintro e wn ⟨rfl, hx⟩; replace hS := Zw.after (W := w) hx; clear hx; replace hC := hS.reads; simp only [Zz, Zy, Gu] at hC) | (go_at_call 12; (with_reducible refine (KS.out _).mono ?_); rintro e wn ⟨rfl, hx⟩; replace hS := Zw.after (W := w) hx; clear hx; replace hC := hS.reads; simp only [Zz, Zy, Gu] at hC) | (go_at_call 17; (with_reducible refine (KR.out _ (HG.out.ex hS.ex) (HM.out.ex hS.ex)).mono ?_); rintro e wn ⟨rfl, hx⟩; replace hS := Zw.after (W := w) hx; clear hx; replace hC := hS.reads; simp only [Zz, Zy, Gu] at hC))
  replace hS := Zw.alloc (h := hS) (cs := #[.string S, .int .i64 a1, .int .i64 a2, .int .i64 a3, .int .i64 b1, .int .i64 b2, .int .i64 b3, .int .i64 c1, .int .i64 c2, .int .i64 c3, .int .i64 d1, .int .i64 d2, .int .i64 d3, .int .u32 n]) (t := 37)
  generalize World.alloc _ _ = W2 at *
  replace hC := hS.reads
  simp only [Zz, Zy] at hC
  have hq := HQ.out
  go_wp2_with (simp only [hq])
  refine Gq (v := .bool true) ?_ rfl ⟨rfl, ?_⟩
  ·simp [results, Tryz.results6, go_sem]
  ·repeat' (with_reducible first | exact hS.ex | exact Ex.refl _ | assumption | refine Ex.alloc ?_ _ | refine Ex.drewN ?_ _ | refine Ex.drew ?_ | refine Ex.setCell ?_ (by simp <;> omega) _)
end Go.Proofs.YtmmjkchjgeklnaaGreatDoor
