/-
  Proved: what functions compute, part 35. No condition.
-/
import Derived.Test.YtmmjkchjgeklnaaGreatDoorK34
set_option linter.unusedSimpArgs false
set_option linter.unusedVariables false
set_option maxRecDepth 20000
set_option maxHeartbeats 8000000
namespace Go.Proofs.YtmmjkchjgeklnaaGreatDoor
section
open Go.RowKit

attribute [local go_sem] Zk Zj
def Yp (l : List UInt8) (v : M4) (h : Int) : Bool := (Vw l v).2 && decide ((Vw l v).1 = h)
theorem Ns (l : List UInt8) (hl : l.length ≤ 1048576) (v : M4) (w : World) : Calls Tryz.prog 15 #[.string (Bs l), v.v] w (fun e w' => e = .returned (Hk l v (Vw l v)) ∧ Ex w w') := by
 have kb := fun w => sL14Sum l hl v w
 generalize Vw l v = R at kb ⊢
 generalize hV : Hk l v R = V
 simp only [Hk, Ws] at hV
 obtain ⟨⟨a1, a2, a3⟩, ⟨b1, b2, b3⟩, ⟨c1, c2, c3⟩, ⟨d1, d2, d3⟩⟩ := v
 obtain ⟨h, ok⟩ := R
 simp only [M4.v] at kb hV ⊢
 generalize Bs l = S at *
 have KB := Gv kb
 have HV := Gv hV.symm
 clear kb hV
 have hS := Zw.refl w
 have hC := True.intro
 rcases ok with _ | _
 ·go_enter Tryz.func15, Tryz.ntmps15
  go_wp2_with (go_at_call 31; (with_reducible refine (KB.out _).mono ?_); rintro e wn ⟨rfl, hx⟩; replace hS := Zw.after (W := w) hx; clear hx; replace hC := hS.reads; simp only [Zz, Zy, Gu] at hC)
  refine Gq (v := .tuple #[.agg #[.string ⟨#[]⟩, .int .i64 0, .int .i64 0, .int .i64 0, .int .i64 0, .int .i64 0, .int .i64 0, .int .i64 0, .int .i64 0, .int .i64 0, .int .i64 0, .int .i64 0, .int .i64 0, .int .u32 0], .bool false]) ?_ rfl ⟨by rw [HV.out]; simp [M4.none, Fr.none], ?_⟩
  ·simp [results, Tryz.results15, go_sem, hC]
  ·repeat' (with_reducible first | exact hS.ex | exact Ex.refl _ | assumption | apply Ex.alloc | apply Ex.drewN | apply Ex.drew | refine Ex.setCell ?_ (by simp <;> omega) _)
 ·go_enter Tryz.func15, Tryz.ntmps15
  go_wp2_with (go_at_call 31; (with_reducible refine (KB.out _).mono ?_); rintro e wn ⟨rfl, hx⟩; replace hS := Zw.after (W := w) hx; clear hx; replace hC := hS.reads; simp only [Zz, Zy, Gu] at hC)
  refine Gq (v := .tuple #[.agg #[.string S, .int .i64 a1, .int .i64 a2, .int .i64 a3, .int .i64 b1, .int .i64 b2, .int .i64 b3, .int .i64 c1, .int .i64 c2, .int .i64 c3, .int .i64 d1, .int .i64 d2, .int .i64 d3, .int .u32 h], .bool true]) ?_ rfl ⟨by rw [HV.out]; simp, ?_⟩
  ·simp [results, Tryz.results15, go_sem, hC]
  ·repeat' (with_reducible first | exact hS.ex | exact Ex.refl _ | assumption | apply Ex.alloc | apply Ex.drewN | apply Ex.drew | refine Ex.setCell ?_ (by simp <;> omega) _)
theorem Wj (l : List UInt8) (hl : l.length ≤ 1048576) (v : M4) (h : Int) (w : World) [hG : Yf w] (hm : Vv w) : Calls Tryz.prog 14 #[Ws (Bs l) v h] w (fun e w' => e = .returned (.bool (Yp l v h)) ∧ Ex w w') := by
 have kb := fun w (_ : Yf w) (hm : Vv w) => Qn l hl v w hm
 have he : Yp l v h = ((Vw l v).2 && decide ((Vw l v).1 = h)) := rfl
 generalize Yp l v h = T at he ⊢
 generalize Vw l v = R at kb he
 unfold Ws
 simp only [Hk, Ws] at kb
 obtain ⟨⟨a1, a2, a3⟩, ⟨b1, b2, b3⟩, ⟨c1, c2, c3⟩, ⟨d1, d2, d3⟩⟩ := v
 obtain ⟨h1, ok⟩ := R
 simp only [M4.v] at kb he ⊢
 generalize Bs l = S at *
 have HE := Gv he
 have HG := Gv hG
 have HM := Gv hm
 clear hG hm
 clear he
 have hS := Zw.refl w
 have hC := True.intro
 rcases ok with _ | _
 ·simp only [Bool.false_eq_true, if_false, M4.none, Fr.none] at kb
  have KB := Gv kb
  clear kb
  go_enter Tryz.func14, Tryz.ntmps14
  go_wp2_with (go_at_call 17; (with_reducible refine (KB.out _ (HG.out.ex (hS.ex.alloc _)) (HM.out.ex (hS.ex.alloc _))).mono ?_); rintro e wn ⟨rfl, hx⟩; replace hS := Zw.after (W := w) hx; clear hx; replace hC := hS.reads; simp only [Zz, Zy, Gu] at hC)
  refine Gq (v := .bool false) ?_ rfl ⟨by rw [HE.out]; simp, ?_⟩
  ·simp [results, Tryz.results14, go_sem]
  ·repeat' (with_reducible first | exact hS.ex | exact Ex.refl _ | assumption | apply Ex.alloc | apply Ex.drewN | apply Ex.drew | refine Ex.setCell ?_ (by simp <;> omega) _)
 ·simp only [if_true] at kb
  have KB := Gv kb
  clear kb
  by_cases hh : h1 = h
  ·have hb : (h1 == h) = true := by simpa using hh
   go_enter Tryz.func14, Tryz.ntmps14
   go_wp2_with (go_at_call 17; (with_reducible refine (KB.out _ (HG.out.ex (hS.ex.alloc _)) (HM.out.ex (hS.ex.alloc _))).mono ?_); rintro e wn ⟨rfl, hx⟩; replace hS := Zw.after (W := w) hx; clear hx; replace hC := hS.reads; simp only [Zz, Zy, Gu] at hC)
   refine Gq (v := .bool true) ?_ rfl ⟨by rw [HE.out]; simp [hh], ?_⟩
   ·simp [results, Tryz.results14, go_sem]
   ·repeat' (with_reducible first | exact hS.ex | exact Ex.refl _ | assumption | apply Ex.alloc | apply Ex.drewN | apply Ex.drew | refine Ex.setCell ?_ (by simp <;> omega) _)
  ·have hb : (h1 == h) = false := by simpa using hh
   go_enter Tryz.func14, Tryz.ntmps14
   go_wp2_with (go_at_call 17; (with_reducible refine (KB.out _ (HG.out.ex (hS.ex.alloc _)) (HM.out.ex (hS.ex.alloc _))).mono ?_); rintro e wn ⟨rfl, hx⟩; replace hS := Zw.after (W := w) hx; clear hx; replace hC := hS.reads; simp only [Zz, Zy, Gu] at hC)
   refine Gq (v := .bool false) ?_ rfl ⟨by rw [HE.out]; simp [hh], ?_⟩
   ·simp [results, Tryz.results14, go_sem]
   ·repeat' (with_reducible first | exact hS.ex | exact Ex.refl _ | assumption | apply Ex.alloc | apply Ex.drewN | apply Ex.drew | refine Ex.setCell ?_ (by simp <;> omega) _)
theorem Tp (l : List UInt8) (hl : l.length ≤ 1048576) (v : M4) (h : Int) (w : World) : Calls Tryz.prog 12 #[Ws (Bs l) v h] w (fun e w' => e = .returned (.bool (Yp l v h)) ∧ Ex w w') := by
 have kb := fun w => sL14Sum l hl v w
 have he : Yp l v h = ((Vw l v).2 && decide ((Vw l v).1 = h)) := rfl
 generalize Yp l v h = T at he ⊢
 generalize Vw l v = R at kb he
 unfold Ws
 obtain ⟨⟨a1, a2, a3⟩, ⟨b1, b2, b3⟩, ⟨c1, c2, c3⟩, ⟨d1, d2, d3⟩⟩ := v
 obtain ⟨h1, ok⟩ := R
 simp only [M4.v] at kb he ⊢
 generalize Bs l = S at *
 have HE := Gv he
 clear he
 have hS := Zw.refl w
 have hC := True.intro
 rcases ok with _ | _
 ·have KB := Gv kb
  clear kb
  go_enter Tryz.func12, Tryz.ntmps12
  go_wp2_with (go_at_call 31; (with_reducible refine (KB.out _).mono ?_); rintro e wn ⟨rfl, hx⟩; replace hS := Zw.after (W := w) hx; clear hx; replace hC := hS.reads; simp only [Zz, Zy, Gu] at hC)
  refine Gq (v := .bool false) ?_ rfl ⟨by rw [HE.out]; simp, ?_⟩
  ·simp [results, Tryz.results12, go_sem]
  ·repeat' (with_reducible first | exact hS.ex | exact Ex.refl _ | assumption | apply Ex.alloc | apply Ex.drewN | apply Ex.drew | refine Ex.setCell ?_ (by simp <;> omega) _)
 ·have KB := Gv kb
  clear kb
  by_cases hh : h1 = h
  ·have hb : (h1 == h) = true := by simpa using hh
   go_enter Tryz.func12, Tryz.ntmps12
   go_wp2_with (go_at_call 31; (with_reducible refine (KB.out _).mono ?_); rintro e wn ⟨rfl, hx⟩; replace hS := Zw.after (W := w) hx; clear hx; replace hC := hS.reads; simp only [Zz, Zy, Gu] at hC)
   refine Gq (v := .bool true) ?_ rfl ⟨by rw [HE.out]; simp [hh], ?_⟩
   ·simp [results, Tryz.results12, go_sem]
   ·repeat' (with_reducible first | exact hS.ex | exact Ex.refl _ | assumption | apply Ex.alloc | apply Ex.drewN | apply Ex.drew | refine Ex.setCell ?_ (by simp <;> omega) _)
  ·have hb : (h1 == h) = false := by simpa using hh
   go_enter Tryz.func12, Tryz.ntmps12
   go_wp2_with (go_at_call 31; (with_reducible refine (KB.out _).mono ?_); rintro e wn ⟨rfl, hx⟩; replace hS := Zw.after (W := w) hx; clear hx; replace hC := hS.reads; simp only [Zz, Zy, Gu] at hC)
   refine Gq (v := .bool false) ?_ rfl ⟨by rw [HE.out]; simp [hh], ?_⟩
   ·simp [results, Tryz.results12, go_sem]
   ·repeat' (with_reducible first | exact hS.ex | exact Ex.refl _ | assumption | apply Ex.alloc | apply Ex.drewN | apply Ex.drew | refine Ex.setCell ?_ (by simp <;> omega) _)
end
end Go.Proofs.YtmmjkchjgeklnaaGreatDoor
