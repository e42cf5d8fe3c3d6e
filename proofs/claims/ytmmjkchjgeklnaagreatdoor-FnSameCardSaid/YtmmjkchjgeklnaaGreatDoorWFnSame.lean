/-
  The walk of the law FnSame.
-/
import Derived.Test.YtmmjkchjgeklnaaGreatDoorK51
import Derived.Test.YtmmjkchjgeklnaaGreatDoorK49
import Derived.Test.YtmmjkchjgeklnaaGreatDoorK35
import Derived.Test.YtmmjkchjgeklnaaGreatDoorK02
set_option linter.unusedSimpArgs false
set_option linter.unusedVariables false
namespace Go.Proofs.YtmmjkchjgeklnaaGreatDoor
open Go.RowKit

attribute [local go_sem] Zk Zj
theorem same_right {l1 l2 : List UInt8} {v1 v2 : M4} {h1 h2 : Int} (h : Uk l1 v1 h1 l2 v2 h2 = true) : Yp l1 v1 h1 = true ∧ Yp l2 v2 h2 = true := by
 unfold Uk at h
 simp only [Bool.and_eq_true] at h
 exact h.1
set_option maxRecDepth 10000 in
set_option maxHeartbeats 4000000 in
theorem law_FnSame (v0 : Value) (w : World) (h : Me w v0) (hm : Vv w ∧ Yf w) : Calls Tryz.prog 10 #[v0] w fun e w' => e = .returned (.bool true) ∧ Ex w w' := by
 obtain ⟨A, cap, xs, rfl, hl, hcap, hcap2, hS0, hbs⟩ := h
 have hB : Vd w A xs := ⟨hS0, hbs⟩
 clear hS0 hbs
 by_cases hbig : (1048576 : Int) < xs.length
 ·go_enter Tryz.func10, Tryz.ntmps10
  go_wp2
  go_ret
  exact ⟨rfl, Ex.refl _⟩
 have HM := Gv hm.1
 have HG := Gv hm.2
 clear hm
 have KD := Gv (fun w hB => Gy A xs cap w hB hl hcap hcap2)
 have hR := Zw.refl w
 go_enter Tryz.func10, Tryz.ntmps10
 go_wp2_with fail
 refine (KD.out _ hB).mono ?_
 rintro e u1 ⟨S, v, n, T, u, j, rfl, hs, ht, hx⟩
 clear hB hbig hl hcap hcap2 KD
 have ki := fun w (_ : Yf w) hm => Nr S.data.toList (by rw [Wb]; omega) v n T.data.toList (by rw [Wb]; omega) u j w hm
 have ks := fun w => Je S.data.toList (by rw [Wb]; omega) v n T.data.toList (by rw [Wb]; omega) u j w
 have kb := fun w (_ : Yf w) hm => Nr T.data.toList (by rw [Wb]; omega) u j S.data.toList (by rw [Wb]; omega) v n w hm
 have k1 := fun w (_ : Yf w) hm => Wj S.data.toList (by rw [Wb]; omega) v n w hm
 have k2 := fun w (_ : Yf w) hm => Wj T.data.toList (by rw [Wb]; omega) u j w hm
 rw [recSame_comm T.data.toList u j S.data.toList v n] at kb
 rw [← Qm, ← Qm] at ki ks kb
 rw [← Qm] at k1 k2
 have hrr := same_right (l1 := S.data.toList) (v1 := v) (h1 := n) (l2 := T.data.toList) (v2 := u) (h2 := j)
 generalize Uk S.data.toList v n T.data.toList u j = ok at ki ks kb hrr
 generalize Yp S.data.toList v n = x1 at k1 hrr
 generalize Yp T.data.toList u j = x2 at k2 hrr
 clear hs ht
 have hS : Zw w u1 [] := ⟨hx, trivial⟩
 clear hx hR
 obtain ⟨⟨a1, a2, a3⟩, ⟨b1, b2, b3⟩, ⟨c1, c2, c3⟩, ⟨d1, d2, d3⟩⟩ := v
 obtain ⟨⟨p1, p2, p3⟩, ⟨q1, q2, q3⟩, ⟨r1, r2, r3⟩, ⟨m1, m2, m3⟩⟩ := u
 simp only [Ws] at ki ks kb k1 k2 ⊢
 have KI := Gv ki
 have KS := Gv ks
 have KB := Gv kb
 have K1 := Gv k1
 have K2 := Gv k2
 clear ki ks kb k1 k2
 go_upto_region 4 with fail
 replace hS := Zw.alloc (h := Zw.alloc (h := hS) (cs := #[.string S, .int .i64 a1, .int .i64 a2, .int .i64 a3, .int .i64 b1, .int .i64 b2, .int .i64 b3, .int .i64 c1, .int .i64 c2, .int .i64 c3, .int .i64 d1, .int .i64 d2, .int .i64 d3, .int .u32 n]) (t := 37)) (cs := #[.string T, .int .i64 p1, .int .i64 p2, .int .i64 p3, .int .i64 q1, .int .i64 q2, .int .i64 q3, .int .i64 r1, .int .i64 r2, .int .i64 r3, .int .i64 m1, .int .i64 m2, .int .i64 m3, .int .u32 j]) (t := 37)
 (try simp only [Gu] at hS)
 generalize World.alloc (World.alloc _ _) _ = W1 at *
 have hC := hS.reads
 simp only [Zz, Zy] at hC
 rcases ok with _ | _
 ·clear KB K1 K2 hrr
  go_wp2_with (first | (go_at_call 20; (with_reducible refine (KI.out _ (HG.out.ex hS.ex) (HM.out.ex hS.ex)).mono ?_); rintro e wn ⟨rfl, hx⟩; replace hS := Zw.after (W := w) hx; clear hx; replace hC := hS.reads; simp only [Zz, Zy, Gu] at hC) | (go_at_call 19; (with_reducible refine (KS.out _).mono ?_); rintro e wn ⟨rfl, hx⟩; replace hS := Zw.after (W := w) hx; clear hx; replace hC := hS.reads; simp only [Zz, Zy, Gu] at hC))
  refine Gq (v := .bool true) ?_ rfl ⟨rfl, ?_⟩
  ·simp [results, Tryz.results10, go_sem]
  ·repeat' (with_reducible first | exact hS.ex | exact Ex.refl _ | assumption | refine Ex.alloc ?_ _ | refine Ex.drewN ?_ _ | refine Ex.drew ?_ | refine Ex.setCell ?_ (by simp <;> omega) _)
 ·obtain ⟨rfl, rfl⟩ := hrr rfl
  go_wp2_with (first | (go_at_call 20; (with_reducible refine (KI.out _ (HG.out.ex hS.ex) (HM.out.ex hS.ex)).mono ?_); rintro e wn ⟨rfl, hx⟩; replace hS := Zw.after (W := w) hx; clear hx; replace hC := hS.reads; simp only [Zz, Zy, Gu] at hC) | (go_at_call 19; (with_reducible refine (KS.out _).mono ?_); rintro e wn ⟨rfl, hx⟩; replace hS := Zw.after (W := w) hx; clear hx; replace hC := hS.reads; simp only [Zz, Zy, Gu] at hC) | (go_at_call 20; (with_reducible refine (KB.out _ (HG.out.ex hS.ex) (HM.out.ex hS.ex)).mono ?_); rintro e wn ⟨rfl, hx⟩; replace hS := Zw.after (W := w) hx; clear hx; replace hC := hS.reads; simp only [Zz, Zy, Gu] at hC) | (go_at_call 14; (with_reducible refine (K1.out _ (HG.out.ex hS.ex) (HM.out.ex hS.ex)).mono ?_); rintro e wn ⟨rfl, hx⟩; replace hS := Zw.after (W := w) hx; clear hx; replace hC := hS.reads; simp only [Zz, Zy, Gu] at hC) | (go_at_call 14; (with_reducible refine (K2.out _ (HG.out.ex hS.ex) (HM.out.ex hS.ex)).mono ?_); rintro e wn ⟨rfl, hx⟩; replace hS := Zw.after (W := w) hx; clear hx; replace hC := hS.reads; simp only [Zz, Zy, Gu] at hC))
  refine Gq (v := .bool true) ?_ rfl ⟨rfl, ?_⟩
  ·simp [results, Tryz.results10, go_sem]
  ·repeat' (with_reducible first | exact hS.ex | exact Ex.refl _ | assumption | refine Ex.alloc ?_ _ | refine Ex.drewN ?_ _ | refine Ex.drew ?_ | refine Ex.setCell ?_ (by simp <;> omega) _)
end Go.Proofs.YtmmjkchjgeklnaaGreatDoor
