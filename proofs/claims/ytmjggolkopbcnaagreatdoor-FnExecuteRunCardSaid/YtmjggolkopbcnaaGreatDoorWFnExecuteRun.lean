/-
  The walk of the law FnExecuteRun.
-/
import Derived.Test.YtmjggolkopbcnaaGreatDoorB37
import Derived.Test.YtmjggolkopbcnaaGreatDoorB32
import Derived.Test.YtmjggolkopbcnaaGreatDoorB34
import Derived.Test.YtmjggolkopbcnaaGreatDoorB27
import Derived.Test.YtmjggolkopbcnaaGreatDoorB02
set_option linter.unusedSimpArgs false
set_option linter.unusedVariables false
namespace Go.Proofs.YtmjggolkopbcnaaGreatDoor
open Go.RowKit

attribute [local go_sem] Zq Zp
set_option maxRecDepth 10000 in
set_option maxHeartbeats 4000000 in
theorem law_FnExecuteRun (v0 : Value) (w : World) (h : IsBytes w v0) (hm : Xm w ∧ Ym w) : Calls Tryz.prog 5 #[v0] w fun e w' => e = .returned (.bool true) ∧ Ex w w' := by
 obtain ⟨A, cap, xs, rfl, hl, hcap, hcap2, hS0, hbs⟩ := h
 have hB : Vt w A xs := ⟨hS0, hbs⟩
 clear hS0 hbs
 by_cases hbig : (1048576 : Int) < xs.length
 ·go_enter Tryz.func5, Tryz.ntmps5
  go_wp2
  go_ret
  exact ⟨rfl, Ex.refl _⟩
 have HM := Oi hm.1
 have HG := Oi hm.2
 clear hm
 have KD := Oi (fun w hB => drawBenchMat A xs cap w hB hl hcap hcap2)
 go_enter Tryz.func5, Tryz.ntmps5
 go_wp2_with fail
 refine (KD.out _ hB).mono ?_
 rintro e u1 ⟨S, rfl, hs, hx⟩
 clear hB hbig hl hcap hcap2 KD
 obtain ⟨l, rfl⟩ : ∃ l, S = Bs l := ⟨_, ba_of S⟩
 rw [Zd] at hs
 have ki := fun w (_ : Ym w) hm => Qw l (by omega) w hm
 have ks := fun w => sBenchMat l (by omega) w
 have hS : Zw w u1 [] := ⟨hx, trivial⟩
 have hC := True.intro
 clear hx
 rcases hbm : Xo l with ⟨m, okm⟩
 rw [hbm] at ki ks
 have heq := fun w => eqlMt m m w
 have hneq := fun w => neqMt m m w
 simp only [decide_true, Bool.not_true] at heq hneq
 have hsome := fun (e : okm = true) => bmatOf_some (m := m) (by rw [hbm, e])
 clear hbm
 obtain ⟨⟨m1, m2, m3⟩, ⟨m4, m5, m6⟩, ⟨m7, m8, m9⟩, ⟨n1, n2, n3⟩⟩ := m
 simp only [m4v, M4.v] at ki ks heq hneq
 have KI := Oi ki
 have KS := Oi ks
 clear ki ks
 rcases okm with _ | _
 ·clear hsome
  generalize Bs l = S at *
  go_wp2_with (first | (simp only [heq]) | (simp only [hneq]) | (go_at_call 10; (with_reducible refine (KI.out _ (HG.out.ex Zw.exOf) (HM.out.ex Zw.exOf)).mono ?_); rintro e wn ⟨rfl, hx⟩; replace hS := Zw.after (W := w) hx; clear hx; replace hC := hS.reads; simp only [Zz, Zy, Oh] at hC) | (go_at_call 21; (with_reducible refine (KS.out _).mono ?_); rintro e wn ⟨rfl, hx⟩; replace hS := Zw.after (W := w) hx; clear hx; replace hC := hS.reads; simp only [Zz, Zy, Oh] at hC))
  refine Od (v := .bool true) ?_ rfl ⟨rfl, ?_⟩
  ·simp [results, Tryz.results5, go_sem]
  ·repeat' (with_reducible first | exact hS.ex | exact Ex.refl _ | assumption | refine Ex.alloc ?_ _ | refine Ex.drewN ?_ _ | refine Ex.drew ?_ | refine Ex.setCell ?_ (by simp <;> omega) _)
 obtain ⟨ps, hv⟩ := hsome rfl
 clear hsome
 obtain ⟨htl, htn, hps⟩ := Xa hv
 have kr := fun w (_ : Ym w) hm => iBenchRun l (by omega) (⟨1, 0, 1⟩, ⟨0, 0, 1⟩) w hm
 simp only at kr
 rcases hbr : Wx l ⟨1, 0, 1⟩ ⟨0, 0, 1⟩ with ⟨⟨x, y⟩, fine⟩
 rw [hbr] at kr
 have kx := fun w ht => Ta x w ht
 have ky := fun w ht => Ta y w ht
 by_cases hne : l = []
 ·subst hne
  have e0 : Bs [] = (⟨#[]⟩ : ByteArray) := rfl
  rw [e0] at KI KS kr ⊢
  generalize Xe x = fx at kx
  generalize Xe y = fy at ky
  clear hbr hv e0
  have kx : ∀ w, Tab w → Calls _ _ #[x.v] w fun e w' => e = .returned (.tuple #[.string (Bs fx.1), .bool fx.2]) ∧ Ex w w' := kx
  have ky : ∀ w, Tab w → Calls _ _ #[y.v] w fun e w' => e = .returned (.tuple #[.string (Bs fy.1), .bool fy.2]) ∧ Ex w w' := ky
  obtain ⟨x1, x2, x3⟩ := x
  obtain ⟨y1, y2, y3⟩ := y
  simp only [jvv, v2v, Fr.v] at kr kx ky
  have KR := Oi kr
  have KX := Oi kx
  have KY := Oi ky
  clear kr kx ky
  go_wp2_with (first | (simp only [heq]) | (simp only [hneq]) | (go_at_call 10; (with_reducible refine (KI.out _ (HG.out.ex Zw.exOf) (HM.out.ex Zw.exOf)).mono ?_); rintro e wn ⟨rfl, hx⟩; replace hS := Zw.after (W := w) hx; clear hx; replace hC := hS.reads; simp only [Zz, Zy, Oh] at hC) | (go_at_call 21; (with_reducible refine (KS.out _).mono ?_); rintro e wn ⟨rfl, hx⟩; replace hS := Zw.after (W := w) hx; clear hx; replace hC := hS.reads; simp only [Zz, Zy, Oh] at hC) | (go_at_call 22; (with_reducible refine (KR.out _ (HG.out.ex Zw.exOf) (HM.out.ex Zw.exOf)).mono ?_); rintro e wn ⟨rfl, hx⟩; replace hS := Zw.after (W := w) hx; clear hx; replace hC := hS.reads; simp only [Zz, Zy, Oh] at hC) | (go_at_call 19; (with_reducible refine (KX.out _ (HM.out.ex Zw.exOf).tab).mono ?_); rintro e wn ⟨rfl, hx⟩; replace hS := Zw.after (W := w) hx; clear hx; replace hC := hS.reads; simp only [Zz, Zy, Oh] at hC) | (go_at_call 19; (with_reducible refine (KY.out _ (HM.out.ex Zw.exOf).tab).mono ?_); rintro e wn ⟨rfl, hx⟩; replace hS := Zw.after (W := w) hx; clear hx; replace hC := hS.reads; simp only [Zz, Zy, Oh] at hC))
  refine Od (v := .bool true) ?_ rfl ⟨rfl, ?_⟩
  ·simp [results, Tryz.results5, go_sem]
  ·repeat' (with_reducible first | exact hS.ex | exact Ex.refl _ | assumption | refine Ex.alloc ?_ _ | refine Ex.drewN ?_ _ | refine Ex.drew ?_ | refine Ex.setCell ?_ (by simp <;> omega) _)
 have hstr := Vf (Bs_ne hne)
 have e0 : Bs [] = (⟨#[]⟩ : ByteArray) := rfl
 rw [e0] at hstr
 have hstr2 : (Bs l).toList.isEmpty = false := by simpa using hstr
 clear hstr e0
 by_cases hok : fine = true ∧ x.valid = true ∧ y.valid = true
 ·obtain ⟨rfl, hvx, hvy⟩ := hok
  have k1 := fun w (_ : Ym w) hm => Om stR QB (tRun l) (by simp [tRun, Xy, Qt]; omega) (by simp [QB, Con.new]) (by
   rw [lns_run l htn]
   intro x hx
   simp only [List.mem_cons, List.not_mem_nil, or_false] at hx
   rcases hx with rfl | rfl
   ·exact lineBenchR l (by omega)
   ·exact lineRun) piecesQ w hm
  rw [exec_run hv hbr hvx hvy] at k1
  have kp := fun w hm => Ty l (by omega) w hm
  have hpb := bpcs_bd l
  have kd := fun w => dig_any (Wk l) (by omega) (by omega) w
  have hdl := Ur (Wk l) (by omega) (by omega)
  have hfx : Xe x = (txt x, true) := by simp only [Xe, hvx, if_true]
  have hfy : Xe y = (txt y, true) := by simp only [Xe, hvy, if_true]
  rw [hfx] at kx
  rw [hfy] at ky
  have hxl := (Tb hvx).2.2.2.2
  have hyl := (Tb hvy).2.2.2.2
  have harg : (⟨#[98, 101, 110, 99, 104, 32]⟩ : ByteArray) ++ Bs l ++ ⟨#[10, 114, 117, 110, 10]⟩ = Bs (tRun l) := by
   unfold tRun Xy Qt
   apply Wv
   simp [Tr, Bs]
  have hres : (⟨#[111, 107, 10]⟩ : ByteArray) ++ Bs (txt x) ++ ⟨#[32]⟩ ++ Bs (txt y) ++ ⟨#[10, 112, 105, 101, 99, 101, 115, 32]⟩ ++ Bs (Lib.itoa (Wk l)) ++ ⟨#[10]⟩ = Bs ([111, 107, 10] ++ txt x ++ [32] ++ txt y ++ [10, 112, 105, 101, 99, 101, 115, 32] ++ Lib.itoa (Wk l) ++ [10]) := by
   apply Wv
   simp [Tr, Bs]
  rw [← hres, ← harg] at k1
  clear hres harg hfx hfy hbr
  have hlz : (Bs l).size ≤ 200 := by rw [Zd]; omega
  have hdz : (Bs (Lib.itoa (Wk l))).size ≤ 21 := by rw [Zd]; exact hdl
  have hxz : (Bs (txt x)).size ≤ 67 := by rw [Zd]; exact hxl
  have hyz : (Bs (txt y)).size ≤ 67 := by rw [Zd]; exact hyl
  clear hv hdl hs htl htn hps hne hxl hyl hvx hvy
  have kx : ∀ w, Tab w → Calls _ _ #[x.v] w fun e w' => e = .returned (.tuple #[.string _, .bool _]) ∧ Ex w w' := kx
  have ky : ∀ w, Tab w → Calls _ _ #[y.v] w fun e w' => e = .returned (.tuple #[.string _, .bool _]) ∧ Ex w w' := ky
  generalize Bs (txt x) = TX at *
  generalize Bs (txt y) = TY at *
  generalize Bs (Lib.itoa (Wk l)) = D at *
  generalize Wk l = n at *
  generalize Bs l = S at *
  obtain ⟨x1, x2, x3⟩ := x
  obtain ⟨y1, y2, y3⟩ := y
  simp only [jvv, v2v, Fr.v] at kr kx ky
  have KR := Oi kr
  have KX := Oi kx
  have KY := Oi ky
  have KP := Oi kp
  have KDg := Oi kd
  have K2 := Oi k1
  clear kr kx ky kp kd k1
  go_wp2_with (first | (simp only [heq]) | (simp only [hneq]) | (go_at_call 10; (with_reducible refine (KI.out _ (HG.out.ex Zw.exOf) (HM.out.ex Zw.exOf)).mono ?_); rintro e wn ⟨rfl, hx⟩; replace hS := Zw.after (W := w) hx; clear hx; replace hC := hS.reads; simp only [Zz, Zy, Oh] at hC) | (go_at_call 21; (with_reducible refine (KS.out _).mono ?_); rintro e wn ⟨rfl, hx⟩; replace hS := Zw.after (W := w) hx; clear hx; replace hC := hS.reads; simp only [Zz, Zy, Oh] at hC) | (go_at_call 22; (with_reducible refine (KR.out _ (HG.out.ex Zw.exOf) (HM.out.ex Zw.exOf)).mono ?_); rintro e wn ⟨rfl, hx⟩; replace hS := Zw.after (W := w) hx; clear hx; replace hC := hS.reads; simp only [Zz, Zy, Oh] at hC) | (go_at_call 19; (with_reducible refine (KX.out _ (HM.out.ex Zw.exOf).tab).mono ?_); rintro e wn ⟨rfl, hx⟩; replace hS := Zw.after (W := w) hx; clear hx; replace hC := hS.reads; simp only [Zz, Zy, Oh] at hC) | (go_at_call 19; (with_reducible refine (KY.out _ (HM.out.ex Zw.exOf).tab).mono ?_); rintro e wn ⟨rfl, hx⟩; replace hS := Zw.after (W := w) hx; clear hx; replace hC := hS.reads; simp only [Zz, Zy, Oh] at hC) | (go_at_call 9; (with_reducible refine (K2.out _ (HG.out.ex Zw.exOf) (HM.out.ex Zw.exOf)).mono ?_); rintro e wn ⟨rfl, hx⟩; replace hS := Zw.after (W := w) hx; clear hx; replace hC := hS.reads; simp only [Zz, Zy, Oh] at hC) | (go_at_call 13; (with_reducible refine (KP.out _ (HM.out.ex Zw.exOf)).mono ?_); rintro e wn ⟨rfl, hx⟩; replace hS := Zw.after (W := w) hx; clear hx; replace hC := hS.reads; simp only [Zz, Zy, Oh] at hC) | (go_at_call 12; (with_reducible refine (KDg.out _).mono ?_); rintro e wn ⟨rfl, hx⟩; replace hS := Zw.after (W := w) hx; clear hx; replace hC := hS.reads; simp only [Zz, Zy, Oh] at hC))
  refine Od (v := .bool true) ?_ rfl ⟨rfl, ?_⟩
  ·simp [results, Tryz.results5, go_sem]
  ·repeat' (with_reducible first | exact hS.ex | exact Ex.refl _ | assumption | refine Ex.alloc ?_ _ | refine Ex.drewN ?_ _ | refine Ex.drew ?_ | refine Ex.setCell ?_ (by simp <;> omega) _)
 ·rcases hfx : Xe x with ⟨tx, okx⟩
  rcases hfy : Xe y with ⟨ty, oky⟩
  have hokx : okx = x.valid := by
   unfold Xe at hfx
   split at hfx <;> rename_i h <;> injection hfx with h1 h2 <;> subst h2
   ·exact h.symm
   ·simpa using h
  have hoky : oky = y.valid := by
   unfold Xe at hfy
   split at hfy <;> rename_i h <;> injection hfy with h1 h2 <;> subst h2
   ·exact h.symm
   ·simpa using h
  have hcase : fine = false ∨ (fine = true ∧ okx = false) ∨ (fine = true ∧ okx = true ∧ oky = false) := by
   rw [hokx, hoky]
   revert hok
   cases fine <;> cases x.valid <;> cases y.valid <;> simp
  rw [hfx] at kx
  rw [hfy] at ky
  clear hfx hfy hokx hoky hok hbr hv
  have kx : ∀ w, Tab w → Calls _ _ #[x.v] w fun e w' => e = .returned (.tuple #[.string _, .bool _]) ∧ Ex w w' := kx
  have ky : ∀ w, Tab w → Calls _ _ #[y.v] w fun e w' => e = .returned (.tuple #[.string _, .bool _]) ∧ Ex w w' := ky
  generalize Bs tx = TX at *
  generalize Bs ty = TY at *
  generalize Bs l = S at *
  obtain ⟨x1, x2, x3⟩ := x
  obtain ⟨y1, y2, y3⟩ := y
  simp only [jvv, v2v, Fr.v] at kr kx ky
  have KR := Oi kr
  have KX := Oi kx
  have KY := Oi ky
  clear kr kx ky
  rcases hcase with rfl | ⟨rfl, rfl⟩ | ⟨rfl, rfl, rfl⟩
  all_goals
   go_wp2_with (first | (simp only [heq]) | (simp only [hneq]) | (go_at_call 10; (with_reducible refine (KI.out _ (HG.out.ex Zw.exOf) (HM.out.ex Zw.exOf)).mono ?_); rintro e wn ⟨rfl, hx⟩; replace hS := Zw.after (W := w) hx; clear hx; replace hC := hS.reads; simp only [Zz, Zy, Oh] at hC) | (go_at_call 21; (with_reducible refine (KS.out _).mono ?_); rintro e wn ⟨rfl, hx⟩; replace hS := Zw.after (W := w) hx; clear hx; replace hC := hS.reads; simp only [Zz, Zy, Oh] at hC) | (go_at_call 22; (with_reducible refine (KR.out _ (HG.out.ex Zw.exOf) (HM.out.ex Zw.exOf)).mono ?_); rintro e wn ⟨rfl, hx⟩; replace hS := Zw.after (W := w) hx; clear hx; replace hC := hS.reads; simp only [Zz, Zy, Oh] at hC) | (go_at_call 19; (with_reducible refine (KX.out _ (HM.out.ex Zw.exOf).tab).mono ?_); rintro e wn ⟨rfl, hx⟩; replace hS := Zw.after (W := w) hx; clear hx; replace hC := hS.reads; simp only [Zz, Zy, Oh] at hC) | (go_at_call 19; (with_reducible refine (KY.out _ (HM.out.ex Zw.exOf).tab).mono ?_); rintro e wn ⟨rfl, hx⟩; replace hS := Zw.after (W := w) hx; clear hx; replace hC := hS.reads; simp only [Zz, Zy, Oh] at hC))
   refine Od (v := .bool true) ?_ rfl ⟨rfl, ?_⟩
   ·simp [results, Tryz.results5, go_sem]
   ·repeat' (with_reducible first | exact hS.ex | exact Ex.refl _ | assumption | refine Ex.alloc ?_ _ | refine Ex.drewN ?_ _ | refine Ex.drew ?_ | refine Ex.setCell ?_ (by simp <;> omega) _)
end Go.Proofs.YtmjggolkopbcnaaGreatDoor
