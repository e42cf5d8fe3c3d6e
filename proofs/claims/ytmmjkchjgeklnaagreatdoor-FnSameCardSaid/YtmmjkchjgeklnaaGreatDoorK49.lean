/-
  Proved: what functions compute, part 49. No condition.
-/
import Derived.Test.YtmmjkchjgeklnaaGreatDoorK35
import Derived.Test.YtmmjkchjgeklnaaGreatDoorK48
set_option linter.unusedSimpArgs false
set_option linter.unusedVariables false
set_option maxRecDepth 20000
set_option maxHeartbeats 8000000
namespace Go.Proofs.YtmmjkchjgeklnaaGreatDoor
section
open Go.RowKit

attribute [local go_sem] Zk Zj
def Uk (l1 : List UInt8) (v1 : M4) (h1 : Int) (l2 : List UInt8) (v2 : M4) (h2 : Int) : Bool := Yp l1 v1 h1 && Yp l2 v2 h2 && Tr (Yj l1 v1).1 (Yj l2 v2).1
theorem recSame_comm (l1 : List UInt8) (v1 : M4) (h1 : Int) (l2 : List UInt8) (v2 : M4) (h2 : Int) : Uk l1 v1 h1 l2 v2 h2 = Uk l2 v2 h2 l1 v1 h1 := by
 unfold Uk
 rw [salike_comm, Bool.and_comm (Yp l1 v1 h1)]
theorem Nr (l1 : List UInt8) (hl1 : l1.length ≤ 1048576) (v1 : M4) (h1 : Int) (l2 : List UInt8) (hl2 : l2.length ≤ 1048576) (v2 : M4) (h2 : Int) (w : World) [hG : Yf w] (hm : Vv w) : Calls Tryz.prog 20 #[Ws (Bs l1) v1 h1, Ws (Bs l2) v2 h2] w (fun e w' => e = .returned (.bool (Uk l1 v1 h1 l2 v2 h2)) ∧ Ex w w') := by
 have k1 := fun w (_ : Yf w) (hm : Vv w) => Wj l1 hl1 v1 h1 w hm
 have k2 := fun w (_ : Yf w) (hm : Vv w) => Wj l2 hl2 v2 h2 w hm
 have b1 := fun w (_ : Yf w) (hm : Vv w) => Rj l1 hl1 v1 w hm
 have b2 := fun w (_ : Yf w) (hm : Vv w) => Rj l2 hl2 v2 w hm
 have he : Uk l1 v1 h1 l2 v2 h2 = (Yp l1 v1 h1 && Yp l2 v2 h2 && Tr (Yj l1 v1).1 (Yj l2 v2).1) := rfl
 generalize Uk l1 v1 h1 l2 v2 h2 = R at he ⊢
 generalize Yp l1 v1 h1 = r1 at k1 he
 generalize Yp l2 v2 h2 = r2 at k2 he
 generalize Yj l1 v1 = x at b1 he
 generalize Yj l2 v2 = y at b2 he
 obtain ⟨x, okx⟩ := x
 obtain ⟨y, oky⟩ := y
 have ka := fun w => iStokesAlike x y w
 simp only at he
 generalize Tr x y = q at ka he
 obtain ⟨⟨a1, a2, a3⟩, ⟨b1, b2, b3⟩, ⟨c1, c2, c3⟩, ⟨d1, d2, d3⟩⟩ := v1
 obtain ⟨⟨e1, e2, e3⟩, ⟨f1, f2, f3⟩, ⟨g1, g2, g3⟩, ⟨j1, j2, j3⟩⟩ := v2
 obtain ⟨⟨m1, m2, m3⟩, ⟨n1, n2, n3⟩, ⟨o1, o2, o3⟩, ⟨p1, p2, p3⟩⟩ := x
 obtain ⟨⟨s1, s2, s3⟩, ⟨t1, t2, t3⟩, ⟨u1, u2, u3⟩, ⟨v1, v2, v3⟩⟩ := y
 simp only [Ws, m4v, M4.v] at k1 k2 b1 b2 ka ⊢
 generalize Bs l1 = S1 at *
 generalize Bs l2 = S2 at *
 have K1 := Gv k1
 have K2 := Gv k2
 have B1 := Gv b1
 have B2 := Gv b2
 have KA := Gv ka
 have HE := Gv he
 have HG := Gv hG
 have HM := Gv hm
 clear hG hm
 clear k1 k2 b1 b2 ka he hl1 hl2
 have hS := Zw.refl w
 have hC := True.intro
 go_enter Tryz.func20, Tryz.ntmps20
 go_upto_region 1 with fail
 replace hS := Zw.alloc (h := Zw.alloc (h := hS) (cs := #[.string S1, .int .i64 a1, .int .i64 a2, .int .i64 a3, .int .i64 b1, .int .i64 b2, .int .i64 b3, .int .i64 c1, .int .i64 c2, .int .i64 c3, .int .i64 d1, .int .i64 d2, .int .i64 d3, .int .u32 h1]) (t := 37)) (cs := #[.string S2, .int .i64 e1, .int .i64 e2, .int .i64 e3, .int .i64 f1, .int .i64 f2, .int .i64 f3, .int .i64 g1, .int .i64 g2, .int .i64 g3, .int .i64 j1, .int .i64 j2, .int .i64 j3, .int .u32 h2]) (t := 37)
 simp only [Gu] at hS
 generalize World.alloc _ _ = W0 at *
 clear hC
 have hC := hS.reads
 simp only [Zz, Zy] at hC
 rcases r1 with _ | _
 ·go_wp2_with (go_at_call 14; (first | (with_reducible refine (K1.out _ (HG.out.ex hS.ex) (HM.out.ex hS.ex)).mono ?_) | (with_reducible refine (K2.out _ (HG.out.ex hS.ex) (HM.out.ex hS.ex)).mono ?_)); rintro e wn ⟨rfl, hx⟩; replace hS := Zw.after (W := w) hx; clear hx; replace hC := hS.reads; simp only [Zz, Zy, Gu] at hC)
  refine Gq (v := .bool false) ?_ rfl ⟨by rw [HE.out]; first | done | rfl, ?_⟩
  ·simp [results, Tryz.results20, go_sem]
  ·repeat' (with_reducible first | exact hS.ex | exact Ex.refl _ | assumption | apply Ex.alloc | apply Ex.drewN | apply Ex.drew | refine Ex.setCell ?_ (by simp <;> omega) _)
 ·rcases r2 with _ | _
  ·go_wp2_with (go_at_call 14; (first | (with_reducible refine (K1.out _ (HG.out.ex hS.ex) (HM.out.ex hS.ex)).mono ?_) | (with_reducible refine (K2.out _ (HG.out.ex hS.ex) (HM.out.ex hS.ex)).mono ?_)); rintro e wn ⟨rfl, hx⟩; replace hS := Zw.after (W := w) hx; clear hx; replace hC := hS.reads; simp only [Zz, Zy, Gu] at hC)
   refine Gq (v := .bool false) ?_ rfl ⟨by rw [HE.out]; first | done | rfl, ?_⟩
   ·simp [results, Tryz.results20, go_sem]
   ·repeat' (with_reducible first | exact hS.ex | exact Ex.refl _ | assumption | apply Ex.alloc | apply Ex.drewN | apply Ex.drew | refine Ex.setCell ?_ (by simp <;> omega) _)
  ·go_upto_region 4 with (first | (go_at_call 14; (first | (with_reducible refine (K1.out _ (HG.out.ex hS.ex) (HM.out.ex hS.ex)).mono ?_) | (with_reducible refine (K2.out _ (HG.out.ex hS.ex) (HM.out.ex hS.ex)).mono ?_)); rintro e wn ⟨rfl, hx⟩; replace hS := Zw.after (W := w) hx; clear hx; replace hC := hS.reads; simp only [Zz, Zy, Gu] at hC) | (go_at_call 28; (first | (with_reducible refine (B1.out _ (HG.out.ex hS.ex) (HM.out.ex hS.ex)).mono ?_) | (with_reducible refine (B2.out _ (HG.out.ex hS.ex) (HM.out.ex hS.ex)).mono ?_)); rintro e wn ⟨rfl, hx⟩; replace hS := Zw.after (W := w) hx; clear hx; replace hC := hS.reads; simp only [Zz, Zy, Gu] at hC))
   replace hS := Zw.alloc (h := hS) (cs := #[.int .i64 m1, .int .i64 m2, .int .i64 m3, .int .i64 n1, .int .i64 n2, .int .i64 n3, .int .i64 o1, .int .i64 o2, .int .i64 o3, .int .i64 p1, .int .i64 p2, .int .i64 p3]) (t := 35)
   generalize World.alloc _ _ = W1 at *
   clear hC
   have hC := hS.reads
   simp only [Zz, Zy] at hC
   go_upto_region 5 with (go_at_call 28; (first | (with_reducible refine (B1.out _ (HG.out.ex hS.ex) (HM.out.ex hS.ex)).mono ?_) | (with_reducible refine (B2.out _ (HG.out.ex hS.ex) (HM.out.ex hS.ex)).mono ?_)); rintro e wn ⟨rfl, hx⟩; replace hS := Zw.after (W := w) hx; clear hx; replace hC := hS.reads; simp only [Zz, Zy, Gu] at hC)
   replace hS := Zw.alloc (h := hS) (cs := #[.int .i64 s1, .int .i64 s2, .int .i64 s3, .int .i64 t1, .int .i64 t2, .int .i64 t3, .int .i64 u1, .int .i64 u2, .int .i64 u3, .int .i64 v1, .int .i64 v2, .int .i64 v3]) (t := 35)
   generalize World.alloc _ _ = W2 at *
   clear hC
   have hC := hS.reads
   simp only [Zz, Zy] at hC
   go_wp2_with (go_at_call 39; (with_reducible refine (KA.out _).mono ?_); rintro e wn ⟨rfl, hx⟩; replace hS := Zw.after (W := w) hx; clear hx; replace hC := hS.reads; simp only [Zz, Zy, Gu] at hC)
   refine Gq (v := .bool q) ?_ rfl ⟨by rw [HE.out]; simp, ?_⟩
   ·simp [results, Tryz.results20, go_sem]
   ·repeat' (with_reducible first | exact hS.ex | exact Ex.refl _ | assumption | apply Ex.alloc | apply Ex.drewN | apply Ex.drew | refine Ex.setCell ?_ (by simp <;> omega) _)
theorem Je (l1 : List UInt8) (hl1 : l1.length ≤ 1048576) (v1 : M4) (h1 : Int) (l2 : List UInt8) (hl2 : l2.length ≤ 1048576) (v2 : M4) (h2 : Int) (w : World) : Calls Tryz.prog 19 #[Ws (Bs l1) v1 h1, Ws (Bs l2) v2 h2] w (fun e w' => e = .returned (.bool (Uk l1 v1 h1 l2 v2 h2)) ∧ Ex w w') := by
 have k1 := fun w => Tp l1 hl1 v1 h1 w
 have k2 := fun w => Tp l2 hl2 v2 h2 w
 have b1 := fun w => Ri l1 hl1 v1 w
 have b2 := fun w => Ri l2 hl2 v2 w
 have he : Uk l1 v1 h1 l2 v2 h2 = (Yp l1 v1 h1 && Yp l2 v2 h2 && Tr (Yj l1 v1).1 (Yj l2 v2).1) := rfl
 generalize Uk l1 v1 h1 l2 v2 h2 = R at he ⊢
 generalize Yp l1 v1 h1 = r1 at k1 he
 generalize Yp l2 v2 h2 = r2 at k2 he
 generalize Yj l1 v1 = x at b1 he
 generalize Yj l2 v2 = y at b2 he
 obtain ⟨x, okx⟩ := x
 obtain ⟨y, oky⟩ := y
 have ka := fun w => sStokesAlike x y w
 simp only at he
 generalize Tr x y = q at ka he
 obtain ⟨⟨a1, a2, a3⟩, ⟨b1, b2, b3⟩, ⟨c1, c2, c3⟩, ⟨d1, d2, d3⟩⟩ := v1
 obtain ⟨⟨e1, e2, e3⟩, ⟨f1, f2, f3⟩, ⟨g1, g2, g3⟩, ⟨j1, j2, j3⟩⟩ := v2
 obtain ⟨⟨m1, m2, m3⟩, ⟨n1, n2, n3⟩, ⟨o1, o2, o3⟩, ⟨p1, p2, p3⟩⟩ := x
 obtain ⟨⟨s1, s2, s3⟩, ⟨t1, t2, t3⟩, ⟨u1, u2, u3⟩, ⟨v1, v2, v3⟩⟩ := y
 simp only [Ws, m4v, M4.v] at k1 k2 b1 b2 ka ⊢
 generalize Bs l1 = S1 at *
 generalize Bs l2 = S2 at *
 have K1 := Gv k1
 have K2 := Gv k2
 have B1 := Gv b1
 have B2 := Gv b2
 have KA := Gv ka
 have HE := Gv he
 clear k1 k2 b1 b2 ka he hl1 hl2
 have hS := Zw.refl w
 have hC := True.intro
 go_enter Tryz.func19, Tryz.ntmps19
 go_upto_region 1 with fail
 replace hS := Zw.alloc (h := Zw.alloc (h := hS) (cs := #[.string S1, .int .i64 a1, .int .i64 a2, .int .i64 a3, .int .i64 b1, .int .i64 b2, .int .i64 b3, .int .i64 c1, .int .i64 c2, .int .i64 c3, .int .i64 d1, .int .i64 d2, .int .i64 d3, .int .u32 h1]) (t := 37)) (cs := #[.string S2, .int .i64 e1, .int .i64 e2, .int .i64 e3, .int .i64 f1, .int .i64 f2, .int .i64 f3, .int .i64 g1, .int .i64 g2, .int .i64 g3, .int .i64 j1, .int .i64 j2, .int .i64 j3, .int .u32 h2]) (t := 37)
 simp only [Gu] at hS
 generalize World.alloc _ _ = W0 at *
 clear hC
 have hC := hS.reads
 simp only [Zz, Zy] at hC
 rcases r1 with _ | _
 ·go_wp2_with (go_at_call 12; (first | (with_reducible refine (K1.out _).mono ?_) | (with_reducible refine (K2.out _).mono ?_)); rintro e wn ⟨rfl, hx⟩; replace hS := Zw.after (W := w) hx; clear hx; replace hC := hS.reads; simp only [Zz, Zy, Gu] at hC)
  refine Gq (v := .bool false) ?_ rfl ⟨by rw [HE.out]; first | done | rfl, ?_⟩
  ·simp [results, Tryz.results19, go_sem]
  ·repeat' (with_reducible first | exact hS.ex | exact Ex.refl _ | assumption | apply Ex.alloc | apply Ex.drewN | apply Ex.drew | refine Ex.setCell ?_ (by simp <;> omega) _)
 ·rcases r2 with _ | _
  ·go_wp2_with (go_at_call 12; (first | (with_reducible refine (K1.out _).mono ?_) | (with_reducible refine (K2.out _).mono ?_)); rintro e wn ⟨rfl, hx⟩; replace hS := Zw.after (W := w) hx; clear hx; replace hC := hS.reads; simp only [Zz, Zy, Gu] at hC)
   refine Gq (v := .bool false) ?_ rfl ⟨by rw [HE.out]; first | done | rfl, ?_⟩
   ·simp [results, Tryz.results19, go_sem]
   ·repeat' (with_reducible first | exact hS.ex | exact Ex.refl _ | assumption | apply Ex.alloc | apply Ex.drewN | apply Ex.drew | refine Ex.setCell ?_ (by simp <;> omega) _)
  ·go_upto_region 4 with (first | (go_at_call 12; (first | (with_reducible refine (K1.out _).mono ?_) | (with_reducible refine (K2.out _).mono ?_)); rintro e wn ⟨rfl, hx⟩; replace hS := Zw.after (W := w) hx; clear hx; replace hC := hS.reads; simp only [Zz, Zy, Gu] at hC) | (go_at_call 37; (first | (with_reducible refine (B1.out _).mono ?_) | (with_reducible refine (B2.out _).mono ?_)); rintro e wn ⟨rfl, hx⟩; replace hS := Zw.after (W := w) hx; clear hx; replace hC := hS.reads; simp only [Zz, Zy, Gu] at hC))
   replace hS := Zw.alloc (h := hS) (cs := #[.int .i64 m1, .int .i64 m2, .int .i64 m3, .int .i64 n1, .int .i64 n2, .int .i64 n3, .int .i64 o1, .int .i64 o2, .int .i64 o3, .int .i64 p1, .int .i64 p2, .int .i64 p3]) (t := 35)
   generalize World.alloc _ _ = W1 at *
   clear hC
   have hC := hS.reads
   simp only [Zz, Zy] at hC
   go_upto_region 5 with (go_at_call 37; (first | (with_reducible refine (B1.out _).mono ?_) | (with_reducible refine (B2.out _).mono ?_)); rintro e wn ⟨rfl, hx⟩; replace hS := Zw.after (W := w) hx; clear hx; replace hC := hS.reads; simp only [Zz, Zy, Gu] at hC)
   replace hS := Zw.alloc (h := hS) (cs := #[.int .i64 s1, .int .i64 s2, .int .i64 s3, .int .i64 t1, .int .i64 t2, .int .i64 t3, .int .i64 u1, .int .i64 u2, .int .i64 u3, .int .i64 v1, .int .i64 v2, .int .i64 v3]) (t := 35)
   generalize World.alloc _ _ = W2 at *
   clear hC
   have hC := hS.reads
   simp only [Zz, Zy] at hC
   go_wp2_with (go_at_call 38; (with_reducible refine (KA.out _).mono ?_); rintro e wn ⟨rfl, hx⟩; replace hS := Zw.after (W := w) hx; clear hx; replace hC := hS.reads; simp only [Zz, Zy, Gu] at hC)
   refine Gq (v := .bool q) ?_ rfl ⟨by rw [HE.out]; simp, ?_⟩
   ·simp [results, Tryz.results19, go_sem]
   ·repeat' (with_reducible first | exact hS.ex | exact Ex.refl _ | assumption | apply Ex.alloc | apply Ex.drewN | apply Ex.drew | refine Ex.setCell ?_ (by simp <;> omega) _)
end
end Go.Proofs.YtmmjkchjgeklnaaGreatDoor
