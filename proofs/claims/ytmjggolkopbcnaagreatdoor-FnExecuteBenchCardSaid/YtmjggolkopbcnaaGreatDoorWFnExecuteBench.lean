/-
  The walk of the law FnExecuteBench.
-/
import Derived.Test.YtmjggolkopbcnaaGreatDoorB31
import Derived.Test.YtmjggolkopbcnaaGreatDoorB32
import Derived.Test.YtmjggolkopbcnaaGreatDoorB27
import Derived.Test.YtmjggolkopbcnaaGreatDoorB02
set_option linter.unusedSimpArgs false
set_option linter.unusedVariables false
namespace Go.Proofs.YtmjggolkopbcnaaGreatDoor
open Go.RowKit

attribute [local go_sem] Zq Zp
set_option maxHeartbeats 1000000 in
theorem sBenchValid (l : List UInt8) (hl : l.length ≤ 1048576) (w : World) : Calls Tryz.prog 8 #[.string (Bs l)] w fun e w' => e = .returned (.bool (Zj l).isSome) ∧ Ex w w' := by
 have KB := Oi (sL7Bench l hl w)
 obtain ⟨n, HN⟩ : ∃ n, Hid (n = (Zj l).isSome) := ⟨_, Oi rfl⟩
 rw [← HN.out]
 generalize Bs l = S at *
 clear hl
 go_enter Tryz.func8, Tryz.ntmps8
 go_wp2_with fail
 refine KB.out.mono ?_
 rintro e w1 (⟨qs, A, cap, hbn, rfl, hsl, hps, hx⟩ | ⟨A, m, cap, hbn, rfl, hx⟩)
 ·have hn : n = true := by rw [HN.out, hbn]; rfl
  subst hn
  clear HN KB hsl hps hbn
  go_wp2
  go_ret
  exact ⟨rfl, hx⟩
 ·have hn : n = false := by rw [HN.out, hbn]; rfl
  subst hn
  clear HN KB hbn
  go_wp2
  go_ret
  exact ⟨rfl, hx⟩
set_option maxRecDepth 10000 in
set_option maxHeartbeats 4000000 in
theorem law_FnExecuteBench (v0 : Value) (w : World) (h : IsBytes w v0) (hm : Xm w ∧ Ym w) : Calls Tryz.prog 3 #[v0] w fun e w' => e = .returned (.bool true) ∧ Ex w w' := by
 obtain ⟨A, cap, xs, rfl, hl, hcap, hcap2, hS0, hbs⟩ := h
 have hB : Vt w A xs := ⟨hS0, hbs⟩
 clear hS0 hbs
 by_cases hbig : (1048576 : Int) < xs.length
 ·go_enter Tryz.func3, Tryz.ntmps3
  go_wp2
  go_ret
  exact ⟨rfl, Ex.refl _⟩
 have HM := Oi hm.1
 have HG := Oi hm.2
 clear hm
 have KD := Oi (fun w hB => Ok A xs cap w hB hl hcap hcap2)
 go_enter Tryz.func3, Tryz.ntmps3
 go_wp2_with fail
 refine (KD.out _ hB).mono ?_
 rintro e u1 ⟨S, rfl, hs, hx⟩
 clear hB hbig hl hcap hcap2 KD
 obtain ⟨l, rfl⟩ : ∃ l, S = Bs l := ⟨_, ba_of S⟩
 rw [Zd] at hs
 have ki := fun w hm => Qj l (by omega) w hm
 have ks := fun w => sBenchValid l (by omega) w
 have hS : Zw w u1 [] := ⟨hx, trivial⟩
 have hC := True.intro
 clear hx
 rcases hv : Zj l with _ | ps
 ·rw [hv] at ki ks
  simp only [Option.isSome_none] at ki ks
  generalize Bs l = S at *
  have KI := Oi ki
  have KS := Oi ks
  clear ki ks hv
  go_wp2_with (first | (go_at_call 7; (with_reducible refine (KI.out _ (HM.out.ex Zw.exOf)).mono ?_); rintro e wn ⟨rfl, hx⟩; replace hS := Zw.after (W := w) hx; clear hx; replace hC := hS.reads; simp only [Zz, Zy, Oh] at hC) | (go_at_call 8; (with_reducible refine (KS.out _).mono ?_); rintro e wn ⟨rfl, hx⟩; replace hS := Zw.after (W := w) hx; clear hx; replace hC := hS.reads; simp only [Zz, Zy, Oh] at hC))
  refine Od (v := .bool true) ?_ rfl ⟨rfl, ?_⟩
  ·simp [results, Tryz.results3, go_sem]
  ·repeat' (with_reducible first | exact hS.ex | exact Ex.refl _ | assumption | refine Ex.alloc ?_ _ | refine Ex.drewN ?_ _ | refine Ex.drew ?_ | refine Ex.setCell ?_ (by simp <;> omega) _)
 rw [hv] at ki ks
 simp only [Option.isSome_some] at ki ks
 obtain ⟨htl, htn, hps⟩ := Xa hv
 by_cases hne : l = []
 ·subst hne
  have k1 := fun w (_ : Ym w) hm => Om stB QB tShow (by decide) (by simp [QB, Con.new]) (by
   have e : (lns tShow).dropLast = [Wc] := by decide
   rw [e]
   intro x hx
   obtain rfl := List.mem_singleton.1 hx
   exact lineShow) piecesQ w hm
  rw [exec_show] at k1
  have k2 : ∀ w, Ym w → Xm w → Calls Tryz.prog 9 #[.string ⟨#[115, 104, 111, 119, 10]⟩] w fun e w' => e = .returned (.string ⟨#[45, 10, 112, 105, 101, 99, 101, 115, 32, 48, 10]⟩) ∧ Ex w w' := k1
  have e0 : Bs [] = (⟨#[]⟩ : ByteArray) := rfl
  rw [e0] at ki ks ⊢
  have KI := Oi ki
  have KS := Oi ks
  have K2 := Oi k2
  clear ki ks k1 k2 e0 hv
  go_wp2_with (first | (go_at_call 7; (with_reducible refine (KI.out _ (HM.out.ex Zw.exOf)).mono ?_); rintro e wn ⟨rfl, hx⟩; replace hS := Zw.after (W := w) hx; clear hx; replace hC := hS.reads; simp only [Zz, Zy, Oh] at hC) | (go_at_call 8; (with_reducible refine (KS.out _).mono ?_); rintro e wn ⟨rfl, hx⟩; replace hS := Zw.after (W := w) hx; clear hx; replace hC := hS.reads; simp only [Zz, Zy, Oh] at hC) | (go_at_call 9; (with_reducible refine (K2.out _ (HG.out.ex Zw.exOf) (HM.out.ex Zw.exOf)).mono ?_); rintro e wn ⟨rfl, hx⟩; replace hS := Zw.after (W := w) hx; clear hx; replace hC := hS.reads; simp only [Zz, Zy, Oh] at hC))
  refine Od (v := .bool true) ?_ rfl ⟨rfl, ?_⟩
  ·simp [results, Tryz.results3, go_sem]
  ·repeat' (with_reducible first | exact hS.ex | exact Ex.refl _ | assumption | refine Ex.alloc ?_ _ | refine Ex.drewN ?_ _ | refine Ex.drew ?_ | refine Ex.setCell ?_ (by simp <;> omega) _)
 have hstr := Vf (Bs_ne hne)
 have e0 : Bs [] = (⟨#[]⟩ : ByteArray) := rfl
 rw [e0] at hstr
 have hstr2 : (Bs l).toList.isEmpty = false := by simpa using hstr
 clear hstr e0
 have k1 := fun w (_ : Ym w) hm => Om stB QB (Sg l) (by simp [Sg, Xy, Wc, Wf]; omega) (by simp [QB, Con.new]) (by
  rw [lns_bench l htn]
  intro x hx
  simp only [List.mem_cons, List.not_mem_nil, or_false] at hx
  rcases hx with rfl | rfl | rfl
  ·exact lineBench l (by omega)
  ·exact lineShow
  ·exact lineKeeps) piecesQ w hm
 rw [exec_bench hv hne] at k1
 have kp := fun w hm => Ty l (by omega) w hm
 have hpb := bpcs_bd l
 have kd := fun w => dig_any (Wk l) (by omega) (by omega) w
 have hdl := Ur (Wk l) (by omega) (by omega)
 have kb := fun w (_ : Ym w) hm => Qw l (by omega) w hm
 have hkz : (Wt l).length ≤ 3 := by unfold Wt; split <;> simp
 have harg : (⟨#[98, 101, 110, 99, 104, 32]⟩ : ByteArray) ++ Bs l ++ ⟨#[10, 115, 104, 111, 119, 10, 107, 101, 101, 112, 115, 10]⟩ = Bs (Sg l) := by
  unfold Sg Xy Wc Wf
  apply Wv
  simp [Tr, Bs]
 have hres : (⟨#[111, 107, 10]⟩ : ByteArray) ++ Bs l ++ ⟨#[10]⟩ ++ Bs (Wt l) ++ ⟨#[10, 112, 105, 101, 99, 101, 115, 32]⟩ ++ Bs (Lib.itoa (Wk l)) ++ ⟨#[10]⟩ = Bs ([111, 107, 10] ++ l ++ [10] ++ Wt l ++ [10, 112, 105, 101, 99, 101, 115, 32] ++ Lib.itoa (Wk l) ++ [10]) := by
  apply Wv
  simp [Tr, Bs]
 rw [← hres, ← harg] at k1
 clear hres harg
 have hlz : (Bs l).size ≤ 200 := by rw [Zd]; omega
 have hdz : (Bs (Lib.itoa (Wk l))).size ≤ 21 := by rw [Zd]; exact hdl
 obtain ⟨K, HK⟩ : ∃ K, Hid (K = Wt l) := ⟨_, Oi rfl⟩
 rw [← HK.out] at k1
 unfold Wt at HK
 rcases hbm : Xo l with ⟨m, okm⟩
 rw [hbm] at kb HK
 have kl := fun w (_ : Ym w) => Rq m w
 clear hv hdl hs htl htn hps hne hkz hbm
 generalize Bs (Lib.itoa (Wk l)) = D at *
 generalize Wk l = n at *
 generalize Bs l = S at *
 generalize mless m = ml at *
 obtain ⟨⟨m1, m2, m3⟩, ⟨m4, m5, m6⟩, ⟨m7, m8, m9⟩, ⟨n1, n2, n3⟩⟩ := m
 simp only [m4v, M4.v] at kb kl
 have KI := Oi ki
 have KS := Oi ks
 have KP := Oi kp
 have KDg := Oi kd
 have KB := Oi kb
 have KL := Oi kl
 clear ki ks kp kd kb kl
 rcases okm with _ | _
 ·have e := HK.out
  simp only [Bool.false_and, Bool.false_eq_true, if_false] at e
  subst e
  have k2 : ∀ w, Ym w → Xm w → Calls Tryz.prog 9 #[.string (⟨#[98, 101, 110, 99, 104, 32]⟩ ++ S ++ ⟨#[10, 115, 104, 111, 119, 10, 107, 101, 101, 112, 115, 10]⟩)] w fun e w' => e = .returned (.string (⟨#[111, 107, 10]⟩ ++ S ++ ⟨#[10]⟩ ++ ⟨#[110, 111, 116]⟩ ++ ⟨#[10, 112, 105, 101, 99, 101, 115, 32]⟩ ++ D ++ ⟨#[10]⟩)) ∧ Ex w w' := k1
  have K2 := Oi k2
  clear k1 k2 HK KL
  go_wp2_with (first | (go_at_call 7; (with_reducible refine (KI.out _ (HM.out.ex Zw.exOf)).mono ?_); rintro e wn ⟨rfl, hx⟩; replace hS := Zw.after (W := w) hx; clear hx; replace hC := hS.reads; simp only [Zz, Zy, Oh] at hC) | (go_at_call 8; (with_reducible refine (KS.out _).mono ?_); rintro e wn ⟨rfl, hx⟩; replace hS := Zw.after (W := w) hx; clear hx; replace hC := hS.reads; simp only [Zz, Zy, Oh] at hC) | (go_at_call 10; (with_reducible refine (KB.out _ (HG.out.ex Zw.exOf) (HM.out.ex Zw.exOf)).mono ?_); rintro e wn ⟨rfl, hx⟩; replace hS := Zw.after (W := w) hx; clear hx; replace hC := hS.reads; simp only [Zz, Zy, Oh] at hC) | (go_at_call 9; (with_reducible refine (K2.out _ (HG.out.ex Zw.exOf) (HM.out.ex Zw.exOf)).mono ?_); rintro e wn ⟨rfl, hx⟩; replace hS := Zw.after (W := w) hx; clear hx; replace hC := hS.reads; simp only [Zz, Zy, Oh] at hC) | (go_at_call 13; (with_reducible refine (KP.out _ (HM.out.ex Zw.exOf)).mono ?_); rintro e wn ⟨rfl, hx⟩; replace hS := Zw.after (W := w) hx; clear hx; replace hC := hS.reads; simp only [Zz, Zy, Oh] at hC) | (go_at_call 12; (with_reducible refine (KDg.out _).mono ?_); rintro e wn ⟨rfl, hx⟩; replace hS := Zw.after (W := w) hx; clear hx; replace hC := hS.reads; simp only [Zz, Zy, Oh] at hC))
  refine Od (v := .bool true) ?_ rfl ⟨rfl, ?_⟩
  ·simp [results, Tryz.results3, go_sem]
  ·repeat' (with_reducible first | exact hS.ex | exact Ex.refl _ | assumption | refine Ex.alloc ?_ _ | refine Ex.drewN ?_ _ | refine Ex.drew ?_ | refine Ex.setCell ?_ (by simp <;> omega) _)
 ·rcases ml with _ | _
  ·have e := HK.out
   simp only [Bool.and_false, Bool.false_eq_true, if_false] at e
   subst e
   have k2 : ∀ w, Ym w → Xm w → Calls Tryz.prog 9 #[.string (⟨#[98, 101, 110, 99, 104, 32]⟩ ++ S ++ ⟨#[10, 115, 104, 111, 119, 10, 107, 101, 101, 112, 115, 10]⟩)] w fun e w' => e = .returned (.string (⟨#[111, 107, 10]⟩ ++ S ++ ⟨#[10]⟩ ++ ⟨#[110, 111, 116]⟩ ++ ⟨#[10, 112, 105, 101, 99, 101, 115, 32]⟩ ++ D ++ ⟨#[10]⟩)) ∧ Ex w w' := k1
   have K2 := Oi k2
   clear k1 k2 HK
   go_wp2_with (first | (go_at_call 7; (with_reducible refine (KI.out _ (HM.out.ex Zw.exOf)).mono ?_); rintro e wn ⟨rfl, hx⟩; replace hS := Zw.after (W := w) hx; clear hx; replace hC := hS.reads; simp only [Zz, Zy, Oh] at hC) | (go_at_call 8; (with_reducible refine (KS.out _).mono ?_); rintro e wn ⟨rfl, hx⟩; replace hS := Zw.after (W := w) hx; clear hx; replace hC := hS.reads; simp only [Zz, Zy, Oh] at hC) | (go_at_call 10; (with_reducible refine (KB.out _ (HG.out.ex Zw.exOf) (HM.out.ex Zw.exOf)).mono ?_); rintro e wn ⟨rfl, hx⟩; replace hS := Zw.after (W := w) hx; clear hx; replace hC := hS.reads; simp only [Zz, Zy, Oh] at hC) | (go_at_call 11; (with_reducible refine (KL.out _ (HG.out.ex Zw.exOf)).mono ?_); rintro e wn ⟨rfl, hx⟩; replace hS := Zw.after (W := w) hx; clear hx; replace hC := hS.reads; simp only [Zz, Zy, Oh] at hC) | (go_at_call 9; (with_reducible refine (K2.out _ (HG.out.ex Zw.exOf) (HM.out.ex Zw.exOf)).mono ?_); rintro e wn ⟨rfl, hx⟩; replace hS := Zw.after (W := w) hx; clear hx; replace hC := hS.reads; simp only [Zz, Zy, Oh] at hC) | (go_at_call 13; (with_reducible refine (KP.out _ (HM.out.ex Zw.exOf)).mono ?_); rintro e wn ⟨rfl, hx⟩; replace hS := Zw.after (W := w) hx; clear hx; replace hC := hS.reads; simp only [Zz, Zy, Oh] at hC) | (go_at_call 12; (with_reducible refine (KDg.out _).mono ?_); rintro e wn ⟨rfl, hx⟩; replace hS := Zw.after (W := w) hx; clear hx; replace hC := hS.reads; simp only [Zz, Zy, Oh] at hC))
   refine Od (v := .bool true) ?_ rfl ⟨rfl, ?_⟩
   ·simp [results, Tryz.results3, go_sem]
   ·repeat' (with_reducible first | exact hS.ex | exact Ex.refl _ | assumption | refine Ex.alloc ?_ _ | refine Ex.drewN ?_ _ | refine Ex.drew ?_ | refine Ex.setCell ?_ (by simp <;> omega) _)
  ·have e := HK.out
   simp only [Bool.and_self, if_true] at e
   subst e
   have k2 : ∀ w, Ym w → Xm w → Calls Tryz.prog 9 #[.string (⟨#[98, 101, 110, 99, 104, 32]⟩ ++ S ++ ⟨#[10, 115, 104, 111, 119, 10, 107, 101, 101, 112, 115, 10]⟩)] w fun e w' => e = .returned (.string (⟨#[111, 107, 10]⟩ ++ S ++ ⟨#[10]⟩ ++ ⟨#[121, 101, 115]⟩ ++ ⟨#[10, 112, 105, 101, 99, 101, 115, 32]⟩ ++ D ++ ⟨#[10]⟩)) ∧ Ex w w' := k1
   have K2 := Oi k2
   clear k1 k2 HK
   go_wp2_with (first | (go_at_call 7; (with_reducible refine (KI.out _ (HM.out.ex Zw.exOf)).mono ?_); rintro e wn ⟨rfl, hx⟩; replace hS := Zw.after (W := w) hx; clear hx; replace hC := hS.reads; simp only [Zz, Zy, Oh] at hC) | (go_at_call 8; (with_reducible refine (KS.out _).mono ?_); rintro e wn ⟨rfl, hx⟩; replace hS := Zw.after (W := w) hx; clear hx; replace hC := hS.reads; simp only [Zz, Zy, Oh] at hC) | (go_at_call 10; (with_reducible refine (KB.out _ (HG.out.ex Zw.exOf) (HM.out.ex Zw.exOf)).mono ?_); rintro e wn ⟨rfl, hx⟩; replace hS := Zw.after (W := w) hx; clear hx; replace hC := hS.reads; simp only [Zz, Zy, Oh] at hC) | (go_at_call 11; (with_reducible refine (KL.out _ (HG.out.ex Zw.exOf)).mono ?_); rintro e wn ⟨rfl, hx⟩; replace hS := Zw.after (W := w) hx; clear hx; replace hC := hS.reads; simp only [Zz, Zy, Oh] at hC) | (go_at_call 9; (with_reducible refine (K2.out _ (HG.out.ex Zw.exOf) (HM.out.ex Zw.exOf)).mono ?_); rintro e wn ⟨rfl, hx⟩; replace hS := Zw.after (W := w) hx; clear hx; replace hC := hS.reads; simp only [Zz, Zy, Oh] at hC) | (go_at_call 13; (with_reducible refine (KP.out _ (HM.out.ex Zw.exOf)).mono ?_); rintro e wn ⟨rfl, hx⟩; replace hS := Zw.after (W := w) hx; clear hx; replace hC := hS.reads; simp only [Zz, Zy, Oh] at hC) | (go_at_call 12; (with_reducible refine (KDg.out _).mono ?_); rintro e wn ⟨rfl, hx⟩; replace hS := Zw.after (W := w) hx; clear hx; replace hC := hS.reads; simp only [Zz, Zy, Oh] at hC))
   refine Od (v := .bool true) ?_ rfl ⟨rfl, ?_⟩
   ·simp [results, Tryz.results3, go_sem]
   ·repeat' (with_reducible first | exact hS.ex | exact Ex.refl _ | assumption | refine Ex.alloc ?_ _ | refine Ex.drewN ?_ _ | refine Ex.drew ?_ | refine Ex.setCell ?_ (by simp <;> omega) _)
end Go.Proofs.YtmjggolkopbcnaaGreatDoor
