/-
  Proved: what functions compute, part 35. No condition.
-/
import Derived.Test.YtiommfmaleeibaaGreatDoorB34
import Derived.Test.YtiommfmaleeibaaGreatDoorB23
import Derived.Test.YtiommfmaleeibaaGreatDoorB01
import Derived.Test.YtiommfmaleeibaaGreatDoorB28
import Derived.Test.YtiommfmaleeibaaGreatDoorB25
import Derived.Test.YtiommfmaleeibaaGreatDoorB31
import Derived.Test.YtiommfmaleeibaaGreatDoorB12
import Derived.Test.YtiommfmaleeibaaGreatDoorB18
import Derived.Test.YtiommfmaleeibaaGreatDoorB22
import Derived.Test.YtiommfmaleeibaaGreatDoorB24
set_option linter.unusedSimpArgs false
set_option linter.unusedVariables false
set_option maxRecDepth 20000
set_option maxHeartbeats 8000000
namespace Go.Proofs.YtiommfmaleeibaaGreatDoor
section
open Go.RowKit

attribute [local go_sem] Zi Zh
theorem slFm : SlT 40 30 (.agg #[.int .i64 0, .int .i64 0, .int .i64 0]) 3 24 := ⟨Tryz.underlying40, by kernel_rfl, rfl, by omega, by omega⟩
def MrGot (w : World) (r : Fr × Bool) : Ending → World → Prop := fun e w' => ∃ (A : Option Addr) (n cap : Nat), e = .returned (.tuple #[.slice A n cap, .bool r.2]) ∧ Ex w w' ∧
 (r.2 = true → n = 1 ∧ Own w' w.heap.size 30 3 (.slice A 1 cap) 1 [.int .i64 r.1.re, .int .i64 r.1.im, .int .i64 r.1.den])
theorem My (p q : Int) (v : M4) (b : Nat) (w : World) [hG : Yc w] (hb : Box w b 27 #[.int .i64 p, .int .i64 q]) : Calls Tryz.prog 17 #[.slice (some ⟨b, 0, none⟩) 1 1, v.v] w (MrGot w (Tp p q v)) := by
 have hq : Tp p q v = if Rq v && (Vm p q).2 && (Vp (Vm p q).1 0 v).2 then ((Vp (Vm p q).1 0 v).1, true) else (Fr.none, false) := rfl
 have ks : ∀ w, Calls Tryz.prog 57 #[.agg (Zs v.l)] w fun e w' => e = .returned (.bool (Rq v)) ∧ Ex w w' := fun w => Sd v.a v.b v.c v.d w
 have km := fun w (_ : Yc w) => iMeterRow p q w
 have hml := mtrow_len p q
 have kr := fun bs bad w hb => reading_any bs bad (Vm p q).1 hml v w hb
 rw [M4.l_arr]
 have sV : (Zs v.l).size = 12 := rfl
 have sR : (Zs (Vm p q).1).size = 12 := by rw [Ym, hml]
 have oR := Yw (Vm p q).1
 generalize Tp p q v = R at hq ⊢
 generalize Vp (Vm p q).1 0 v = T at hq kr
 obtain ⟨⟨t1, t2, t3⟩, kt⟩ := T
 unfold Xe at kr
 simp only [Fr.v] at kr
 rcases hM : Vm p q with ⟨M, ko⟩
 rw [hM] at km kr sR oR hq
 simp only at km kr sR oR hq
 clear hM hml
 generalize Zs M = mc at *
 generalize Zs v.l = vc at *
 generalize Rq v = sv at *
 have KS := Kw ks
 have KM := Kw km
 have KR := Kw kr
 have HQ := Kw hq
 have HG := Kw hG
 clear ks km kr hq
 have hV := Zw.put (Zw.refl w) hb
 go_enter Tryz.func17, Tryz.ntmps17
 go_upto_region 1 with fail
 replace hV := hV.grow ((Ex.refl w).alloc (.cells vc 35))
 replace hV := Zw.put hV (Box.new w vc 35)
 have hO := Ox (w.alloc (.cells vc 35)) w.heap.size 30 3 (by simp)
 simp only [Kv] at hO
 go_upto_region 2 with fail
 replace hV := hV.grow ((Ex.refl _).alloc (.cells #[] 30))
 generalize (w.alloc (.cells vc 35)).alloc (.cells #[] 30) = W0 at *
 have bV := hV.boxes.1
 have HO := Kw hO
 clear hO
 rcases sv with _ | _
 ·go_wp2_with (first | (refine Yl (by rfl) _ _ rfl _ _ _ rfl bV Tryz.underlying35 rfl (Pg sV) ?_) | (go_at_call 57; (with_reducible refine (KS.out _).mono ?_); rintro e w1 ⟨rfl, hx⟩; replace hV := Zw.after (W := w) hx))
  have hE := hV.ex
  refine Kr (v := .tuple #[.slice (some ⟨w.heap.size + 1, 0, none⟩) 0 0, .bool false]) ?_ rfl ⟨_, _, _, by rw [HQ.out]; rfl, hE, by rw [HQ.out]; simp⟩
  simp [results, Tryz.results17, go_sem]
 go_upto_region 5 with (first | (refine Yl (by rfl) _ _ rfl _ _ _ rfl bV Tryz.underlying35 rfl (Pg sV) ?_) | (go_at_call 57; (with_reducible refine (KS.out _).mono ?_); rintro e w1 ⟨rfl, hx⟩; replace hV := Zw.after (W := w) hx; replace HO := Kw (Own.ex HO.out hx)))
 clear bV
 have hE0 := hV.ex
 have HV := Kw hV
 clear hV hE0
 go_loopw [25, 6, 8, 9, 10, 11, 12] (fun i o _ _ _ _ _ wr => (i = .int .i64 0 ∧ o = .slice (some ⟨w.heap.size + 1, 0, none⟩) 0 0 ∧ Hid (Zw w wr [(w.heap.size, 35, vc), (b, 27, #[.int .i64 p, .int .i64 q])]) ∧ Hid (Own wr w.heap.size 30 3 (.slice (some ⟨w.heap.size + 1, 0, none⟩) 0 0) 0 [])) ∨ (i = .int .i64 1 ∧ ∃ (A : Option Addr) (cap : Nat), o = .slice A 1 cap ∧ Hid (R = (⟨t1, t2, t3⟩, true)) ∧ Hid (Own wr w.heap.size 30 3 (.slice A 1 cap) 1 [.int .i64 t1, .int .i64 t2, .int .i64 t3]) ∧ Hid (Ex w wr))) (fun i _ _ _ _ _ _ _ => 2 - (intOf i).toNat)
 case atStart => exact .inl ⟨rfl, rfl, HV, HO⟩
 case round =>
  clear HV HO
  rcases hrel with ⟨rfl, rfl, HV, HO⟩ | ⟨rfl, A, cap, rfl, HR, HO, HE⟩
  ·have hV := HV.out
   have bS := hV.boxes.2.1
   have hC := hV.reads
   simp only [Zz, Zy] at hC
   clear HV
   go_upto_region 7 with fail
   have hx0 := (Ex.refl wr).alloc (.cells #[.int .i64 p, .int .i64 q] 27)
   have bO := Own.ex HO.out hx0
   replace hV := Zw.put (hV.grow hx0) (Box.new wr #[.int .i64 p, .int .i64 q] 27)
   have HO1 := Kw bO
   generalize hw1 : wr.alloc (.cells #[.int .i64 p, .int .i64 q] 27) = W1 at *
   clear hC bO hx0 bS HO hw1
   generalize wr.heap.size = g8 at *
   have hC := hV.reads
   simp only [Zz, Zy] at hC
   go_upto_region 8 with (first | (go_at_call 14; (with_reducible refine (KM.out _ (HG.out.ex hV.ex)).mono ?_); rintro e u1 ⟨rfl, hx⟩; replace HO1 := Kw (Own.ex HO1.out hx); replace hV := Zw.after (W := w) hx; clear hx) | (refine wpList_store_row rfl _ _ _ rfl _ _ rfl rfl _ _ (Box.new u1 _ _) (Xi sR) (by rw [sR]; rfl) oR ?_))
   have hB7 := (Box.new u1 #[.int .i64 0, .int .i64 0, .int .i64 0, .int .i64 0, .int .i64 0, .int .i64 0, .int .i64 0, .int .i64 0, .int .i64 0, .int .i64 0, .int .i64 0, .int .i64 0] 31).setRow mc
   have hx1 := ((Ex.refl u1).alloc (.cells #[.int .i64 0, .int .i64 0, .int .i64 0, .int .i64 0, .int .i64 0, .int .i64 0, .int .i64 0, .int .i64 0, .int .i64 0, .int .i64 0, .int .i64 0, .int .i64 0] 31)).setRow (Nat.le_refl _) mc
   replace hV := hV.grow hx1
   replace HO1 := Kw (Own.ex HO1.out hx1)
   generalize (u1.alloc (.cells #[.int .i64 0, .int .i64 0, .int .i64 0, .int .i64 0, .int .i64 0, .int .i64 0, .int .i64 0, .int .i64 0, .int .i64 0, .int .i64 0, .int .i64 0, .int .i64 0] 31)).setRow u1.heap.size mc = V7 at *
   replace hV := Zw.put hV hB7
   clear hB7 hx1 hC
   generalize u1.heap.size = g9 at *
   have hS0 : Zt w (V7.alloc (.cells #[.bool false] 92)) V7.heap.size false _ := Zt.start (h := hV)
   have hle : w.heap.size ≤ V7.heap.size := hV.ex.size
   replace HO1 := Kw (Own.ex HO1.out ((Ex.refl V7).alloc (.cells #[.bool false] 92)))
   go_upto_region 9 with (go_at_call 46; (with_reducible refine (Uz _ false ko _ hS0.sum).mono ?_); rintro e u2 ⟨rfl, hsm, hbx⟩; have hS := Zt.call hS0 hsm hbx; replace HO1 := Kw (hsm.own _ _ _ _ _ _ (by decide) HO1.out))
   clear hS0 hV hsm hbx
   generalize V7.heap.size = bs at *
   rcases ko with _ | _
   ·have hE := hS.rel hle
    have hEE := hE.alloc (.cells #[] 30)
    go_wp2_with fail
    refine Kr (v := .tuple #[.slice (some ⟨u2.heap.size, 0, none⟩) 0 0, .bool false]) ?_ rfl ⟨_, _, _, by rw [HQ.out]; rfl, hEE, by rw [HQ.out]; simp⟩
    simp [results, Tryz.results17, go_sem]
   have b9 := hS.boxes.1
   have bV := hS.boxes.2.2.1
   rcases kt with _ | _
   ·go_wp2_with (first | (refine Yl (by rfl) _ _ rfl _ _ _ rfl b9 Tryz.underlying31 rfl (Xi sR) ?_) | (refine Yl (by rfl) _ _ rfl _ _ _ rfl bV Tryz.underlying31 rfl (Xi sV) ?_) | (go_at_call 58; (with_reducible refine (KR.out _ _ _ hS.sum).mono ?_); rintro e u3 ⟨rfl, hsm, hbx⟩; have hS3 := Zt.call hS hsm hbx; have hS4 : Zt w (u3.alloc (.cells #[.int .i64 t1, .int .i64 t2, .int .i64 t3] 30)) bs _ _ := Zt.alloc (h := hS3); have hC := hS4.reads; simp only [Zz, Zy] at hC))
    have hEE := (hS4.rel hle).alloc (.cells #[] 30)
    refine Kr (v := .tuple #[.slice (some ⟨u3.heap.size + 1, 0, none⟩) 0 0, .bool false]) ?_ rfl ⟨_, _, _, by rw [HQ.out]; rfl, hEE, by rw [HQ.out]; simp⟩
    simp [results, Tryz.results17, go_sem]
   have HR : Hid (R = (⟨t1, t2, t3⟩, true)) := Kw HQ.out
   go_wp2_with (first | (refine Yl (by rfl) _ _ rfl _ _ _ rfl b9 Tryz.underlying31 rfl (Xi sR) ?_) | (refine Yl (by rfl) _ _ rfl _ _ _ rfl bV Tryz.underlying31 rfl (Xi sV) ?_) | (go_at_call 58; (with_reducible refine (KR.out _ _ _ hS.sum).mono ?_); rintro e u3 ⟨rfl, hsm, hbx⟩; have hS3 := Zt.call hS hsm hbx; have hS4 : Zt w (u3.alloc (.cells #[.int .i64 t1, .int .i64 t2, .int .i64 t3] 30)) bs _ _ := Zt.alloc (h := hS3); have hC := hS4.reads; simp only [Zz, Zy] at hC; have HO4 := Kw (Own.ex (hsm.own _ _ _ _ _ _ (by decide) HO1.out) ((Ex.refl u3).alloc (.cells #[.int .i64 t1, .int .i64 t2, .int .i64 t3] 30))); have hE4 := hS4.rel hle; have hsz := hE4.size) | (at_builtin; refine Tk slFm rfl _ _ (u3.alloc (.cells #[.int .i64 t1, .int .i64 t2, .int .i64 t3] 30)) rfl w.heap.size (some ⟨w.heap.size + 1, 0, none⟩) 0 0 [] [.int .i64 t1, .int .i64 t2, .int .i64 t3] rfl (by simp [Value.oneCell']) rfl HO4.out (by rw [Kv]; rfl) (by omega) hsz ?_; intro A' cap' w' hown hk; have HE4 := Kw (hk.ex w hE4 (Nat.le_refl _)); have HO5 := Kw hown))
   go_roundw
   case rel => exact .inr ⟨by go_num, A', cap', rfl, HR, HO5, HE4⟩
   case measure => simp [intOf] <;> omega
  ·have hE := HE.out
   have hO := HO.out
   go_wp2_with fail
   refine Kr (v := .tuple #[.slice A 1 cap, .bool true]) ?_ rfl ⟨_, _, _, by rw [HR.out], hE, fun _ => ⟨rfl, by rw [HR.out]; exact hO⟩⟩
   simp [results, Tryz.results17, go_sem]
end
section
open Go.RowKit

attribute [local go_sem] Zi Zh
def stoA (c : Con) : M4 × Bool := ((Vo c.b (sof c.x c.y).1).1, (sof c.x c.y).2 && (Vo c.b (sof c.x c.y).1).2)
theorem makes_Stokes {p : Nat} {ty' : TypeId} {pos : String} {after : Array Edge} : Oh Tryz.prog 35 { dst := some p, op := .alloc 35, type := ty', pos := pos, after := after, guard := none } p #[.int .i64 0, .int .i64 0, .int .i64 0, .int .i64 0, .int .i64 0, .int .i64 0, .int .i64 0, .int .i64 0, .int .i64 0, .int .i64 0, .int .i64 0, .int .i64 0] := ⟨rfl, rfl, fun ρ w => by simp [execOp, go_sem]⟩
theorem info_Stokes : (Tryz.prog.info? 35).map (·.size) = some 12 := by kernel_rfl
theorem iStokesC (c : Con) (hl : c.b.length ≤ 1048576) (bc : Nat) (w : World) (hG : Yc w) (hm : Vs w) (hb : Box w bc 55 c.cells) : Calls Tryz.prog 74 #[.pointer (some ⟨bc, 0, none⟩)] w (fun e w' => e = .returned (m4v (stoA c)) ∧ Ex w w') := by
 have k1 := fun w => iStokesOf c.x c.y w
 have k2 := fun v w (_ : Yc w) hm => iBenchRead c.b hl v w hm
 unfold stoA
 rcases hv : sof c.x c.y with ⟨v, okv⟩
 rw [hv] at k1
 replace k2 := k2 v
 rcases hx : Vo c.b v with ⟨x, okx⟩
 rw [hx] at k2
 clear hv hx
 obtain ⟨⟨a1, a2, a3⟩, ⟨b1, b2, b3⟩, ⟨c1, c2, c3⟩, ⟨d1, d2, d3⟩⟩ := v
 obtain ⟨⟨e1, e2, e3⟩, ⟨f1, f2, f3⟩, ⟨g1, g2, g3⟩, ⟨h1, h2, h3⟩⟩ := x
 simp only [m4v, M4.v, jvv] at k1 k2 ⊢
 have K1 := Kw k1
 have K2 := Kw k2
 have HM := Kw hm
 have HG := Kw hG
 clear k1 k2 hm hG
 have hS : Zw w w [(bc, 55, c.cells)] := ⟨Ex.refl w, hb, trivial⟩
 have hC := hS.reads
 simp only [Zz, Zy] at hC
 unfold Con.cells at hC
 have z0 := hb.lt
 clear hb
 have hle := Nat.le_refl w.heap.size
 go_enter Tryz.func74, Tryz.ntmps74
 go_upto_region 2 with (go_at_call 16; (with_reducible refine (K1.out _).mono ?_); rintro e w1 ⟨rfl, hx⟩; replace hS := Zw.after (W := w) hx; clear hx; replace hC := hS.reads; simp only [Zz, Zy, Kv] at hC; unfold Con.cells at hC)
 replace hS : Zw w (w1.alloc (.cells #[.int .i64 a1, .int .i64 a2, .int .i64 a3, .int .i64 b1, .int .i64 b2, .int .i64 b3, .int .i64 c1, .int .i64 c2, .int .i64 c3, .int .i64 d1, .int .i64 d2, .int .i64 d3] 35)) _ := inferInstance
 clear hC z0 K1 hle
 have hS0 := hS
 refine Zm (St := Ex) (B := fun _ w' => InE _ _ w') 9 1 1 _ 35 (fun _ => 6) (fun _ => 23) (fun _ => #[.int .i64 0, .int .i64 0, .int .i64 0, .int .i64 0, .int .i64 0, .int .i64 0, .int .i64 0, .int .i64 0, .int .i64 0, .int .i64 0, .int .i64 0, .int .i64 0]) (fun _ => #[.int .i64 e1, .int .i64 e2, .int .i64 e3, .int .i64 f1, .int .i64 f2, .int .i64 f3, .int .i64 g1, .int .i64 g2, .int .i64 g3, .int .i64 h1, .int .i64 h2, .int .i64 h3]) false (by kernel_rfl) (by kernel_rfl) (InE.drew (InE.start hS0)) (fun x y h1 h2 _ => by omega) (fun x y _ _ => by decide) (fun _ _ h g cs _ hb => hb.ex h) (fun _ _ cs h => h.alloc _) (fun _ _ h => h.size) ?_
 iterate 5 (apply Zx; (· rfl); (· intro b wb hB Q1 hQ1; have hS := hB.sees; have hC := hS.reads; simp only [Zz, Zy] at hC; unfold Con.cells at hC; go_wp2_with fail; exact hQ1 _ (Ex.refl _) hB); (· exact ⟨_, rfl⟩))
 (apply Zx; (· rfl); (· intro b wb hB Q1 hQ1; go_wp2_with (go_at_call 138; (with_reducible refine (K2.out _ (HG.out.ex (hS0.ex.trans hB.sees.ex)) (HM.out.ex (hS0.ex.trans hB.sees.ex))).mono ?_); rintro e wn ⟨rfl, hx⟩); exact hQ1 _ hx (hB.go hx)); (· exact ⟨_, rfl⟩))
 iterate 3 (apply Zx; (· rfl); (· intro b wb hB Q1 hQ1; go_wp2_with fail; exact hQ1 _ (Ex.refl _) hB); (· exact ⟨_, rfl⟩))
 refine Zq ?_
 refine ⟨fun i hi => ?_, fun i hi => ?_, fun i hi => ?_, fun gg wz hz hbx hne => ?_⟩
 ·obtain rfl : i = 0 := by omega
  all_goals exact ⟨_, rfl, makes_Stokes⟩
 ·obtain rfl : i = 0 := by omega
  all_goals exact ⟨_, rfl, Zf info_Stokes rfl (by kernel_rfl) (fun _ _ _ hg h => h.setRow hg _)⟩
 ·obtain rfl : i = 0 := by omega
  ·exact (show (6 : Nat) < 30 by decide)
 obtain ⟨hg0, hb0⟩ := hbx 0 (by omega)
 replace hS := InE.join hS0 hz
 replace hS := Zw.put hS hb0
 simp only [frN, Act.put, Ku, Kt, Ks, Nat.reduceAdd, List.drop_succ_cons, List.drop_zero]
 generalize gg 0 = g0 at *
 clear hbx hz hS0 hne
 have hC := hS.reads
 simp only [Zz, Zy] at hC
 have hE := hS.ex
 rcases okv with _ | _ <;> rcases okx with _ | _
 all_goals
  go_wp2
 ·refine Kr (v := .tuple #[.agg #[.int .i64 e1, .int .i64 e2, .int .i64 e3, .int .i64 f1, .int .i64 f2, .int .i64 f3, .int .i64 g1, .int .i64 g2, .int .i64 g3, .int .i64 h1, .int .i64 h2, .int .i64 h3], .bool false]) ?_ rfl ⟨rfl, ?_⟩
  ·simp [results, Tryz.results74, go_sem, hC]
  ·repeat' (with_reducible first | exact hE | exact Ex.refl _ | assumption | apply Ex.alloc | apply Ex.drewN | apply Ex.drew | refine Ex.setCell ?_ (by simp <;> omega) _)
 ·refine Kr (v := .tuple #[.agg #[.int .i64 e1, .int .i64 e2, .int .i64 e3, .int .i64 f1, .int .i64 f2, .int .i64 f3, .int .i64 g1, .int .i64 g2, .int .i64 g3, .int .i64 h1, .int .i64 h2, .int .i64 h3], .bool false]) ?_ rfl ⟨rfl, ?_⟩
  ·simp [results, Tryz.results74, go_sem, hC]
  ·repeat' (with_reducible first | exact hE | exact Ex.refl _ | assumption | apply Ex.alloc | apply Ex.drewN | apply Ex.drew | refine Ex.setCell ?_ (by simp <;> omega) _)
 ·refine Kr (v := .tuple #[.agg #[.int .i64 e1, .int .i64 e2, .int .i64 e3, .int .i64 f1, .int .i64 f2, .int .i64 f3, .int .i64 g1, .int .i64 g2, .int .i64 g3, .int .i64 h1, .int .i64 h2, .int .i64 h3], .bool false]) ?_ rfl ⟨rfl, ?_⟩
  ·simp [results, Tryz.results74, go_sem, hC]
  ·repeat' (with_reducible first | exact hE | exact Ex.refl _ | assumption | apply Ex.alloc | apply Ex.drewN | apply Ex.drew | refine Ex.setCell ?_ (by simp <;> omega) _)
 ·refine Kr (v := .tuple #[.agg #[.int .i64 e1, .int .i64 e2, .int .i64 e3, .int .i64 f1, .int .i64 f2, .int .i64 f3, .int .i64 g1, .int .i64 g2, .int .i64 g3, .int .i64 h1, .int .i64 h2, .int .i64 h3], .bool true]) ?_ rfl ⟨rfl, ?_⟩
  ·simp [results, Tryz.results74, go_sem, hC]
  ·repeat' (with_reducible first | exact hE | exact Ex.refl _ | assumption | apply Ex.alloc | apply Ex.drewN | apply Ex.drew | refine Ex.setCell ?_ (by simp <;> omega) _)
theorem numsOf_two {s : List UInt8} {m : Nat} {ns : List Int} (h : Wa s m = some ns) : ns.length = m := by
 unfold Wa at h
 split at h
 ·split at h
  ·rename_i h2
   injection h with h
   subst h
   exact h2
  ·cases h
 ·cases h
theorem two_of {ns : List Int} (h : ns.length = 2) : ∃ p q, ns = [p, q] := by
 match ns, h with
 | [p, q], _ => exact ⟨p, q, rfl⟩
def Rv (c : Con) (r : Option (List Int)) : Fr × Bool := match r with
 | some [p, q] => if (stoA c).2 then Tp p q (stoA c).1 else (Fr.none, false)
 | _ => (Fr.none, false)
def Pw (c : Con) (s : List UInt8) : List UInt8 := if (Rv c (Wa s 2)).2 && (Rr [(Rv c (Wa s 2)).1]).2 then (Rr [(Rv c (Wa s 2)).1]).1 else [110, 111]
theorem meterA_len (c : Con) (s : List UInt8) : (Pw c s).length ≤ 1000 := by
 unfold Pw
 split
 ·have := txsOf_len [(Rv c (Wa s 2)).1]
  simp only [List.length_cons, List.length_nil] at this
  omega
 ·simp
theorem fracs1 {w : World} {lo cap : Nat} {A : Option Addr} {x : Fr} (h : Own w lo 30 3 (.slice A 1 cap) 1 [.int .i64 x.re, .int .i64 x.im, .int .i64 x.den]) : Uj w A [x] := by
 have := Own.slc h
 simpa [Uj, Ut, Fr.cs] using this
theorem rest_meter (c : Con) (hl : c.b.length ≤ 1048576) (s : List UInt8) (hl2 : s.length ≤ 1048576) (bc : Nat) (w : World) (hG : Yc w) (hm : Vs w) (hb : Box w bc 55 c.cells) : Calls Tryz.prog 26 #[.pointer (some ⟨bc, 0, none⟩), .string ⟨#[109, 101, 116, 101, 114]⟩, .string (Bs s)] w (AnsGot bc w (c, Pw c s)) := by
 have k1 := fun w hm => iNumbers s hl2 2 (by omega) w hm
 have k2 := fun w hG hm hb => iStokesC c hl bc w hG hm hb
 obtain ⟨a, HA⟩ : ∃ a, Hid (a = Pw c s) := ⟨_, Kw rfl⟩
 rw [← HA.out]
 unfold Pw at HA
 have hn2 : ∀ ns, Wa s 2 = some ns → ns.length = 2 := fun ns h => numsOf_two h
 obtain ⟨S, HSS⟩ : ∃ S, Hid (S = Bs s) := ⟨_, Kw rfl⟩
 rw [← HSS.out] at k1 ⊢
 generalize Wa s 2 = N at *
 rcases hsto : stoA c with ⟨v, okv⟩
 rw [hsto] at k2
 have hmf : ∀ p q, N = some [p, q] → Rv c N = if okv then Tp p q v else (Fr.none, false) := fun p q e => by rw [e]; simp only [Rv, hsto]
 have hmn : N = none → Rv c N = (Fr.none, false) := fun e => by rw [e]; rfl
 clear hsto hl2 hl
 generalize Rv c N = MF at *
 have k3 := fun p q b w (_ : Yc w) hb => My p q v b w hb
 have HMF := Kw hmf
 have HMN := Kw hmn
 have HN2 := Kw hn2
 have K1 := Kw k1
 have K2 := Kw k2
 have K3 := Kw k3
 have HM := Kw hm
 have HG := Kw hG
 have HB := Kw hb
 clear hmf hmn hn2 k1 k2 k3 hm hG
 have hS : Zw w w [(bc, 55, c.cells)] := ⟨Ex.refl w, hb, trivial⟩
 have z0 := hb.lt
 clear hb
 go_enter Tryz.func26, Tryz.ntmps26
 go_upto_region 29 with fail
 go_wp2_with fail
 refine (K1.out _ HM.out).mono ?_
 rintro e w1 (⟨ns, A, cap, hns, rfl, hO, hx⟩ | ⟨hns, rfl, hx⟩)
 ·obtain ⟨p, q, rfl⟩ : ∃ p q, ns = [p, q] := two_of (HN2.out _ hns)
  have hmf := HMF.out p q hns
  clear HMF HMN HN2 hns
  obtain ⟨g, rfl, hg1, hg2, hgc⟩ := hO.at (by simp)
  simp only [List.length_cons, List.length_nil] at hgc ⊢
  have ce0 := hgc.1 0 (by simp)
  have ce1 := hgc.1 1 (by simp)
  simp only [List.getD_cons_zero, List.getD_cons_succ, Nat.zero_add] at ce0 ce1
  replace hS := hS.grow hx
  have hbc := hS.boxes.1
  have hE1 := hS.ex
  go_wp2_with fail
  refine (K2.out _ (HG.out.ex hE1) (HM.out.ex hE1) hbc).mono ?_
  rintro e w2 ⟨rfl, hx2⟩
  replace hS := hS.grow hx2
  replace ce0 := hx2.get ce0
  replace ce1 := hx2.get ce1
  have hg2b := Nat.lt_of_lt_of_le hg2 hx2.size
  have hE := hS.ex
  clear hx hx2 hbc hgc hO hE1
  have HE := Kw hE
  have k3 := fun b w (_ : Yc w) hb => K3.out p q b w ‹_› hb
  clear K3
  generalize Tp p q v = MR at hmf k3
  obtain ⟨⟨r1, r2, r3⟩, okr⟩ := MR
  obtain ⟨⟨a1, a2, a3⟩, ⟨b1, b2, b3⟩, ⟨c1, c2, c3⟩, ⟨d1, d2, d3⟩⟩ := v
  simp only [m4v, M4.v, MrGot] at k3 ⊢
  have K3 := Kw k3
  clear k3
  rcases okv with _ | _
  ·rw [hmf] at HA
   simp only [Bool.false_and, Bool.false_eq_true, if_false] at HA
   have e := HA.out
   subst e
   clear HA K3 hmf ce0 ce1
   go_wp2_with fail
   refine Kr (v := .tuple #[.string ⟨#[]⟩, .bool false, .bool true]) ?_ rfl (Lb HB.out rfl ?_)
   ·simp [results, Tryz.results26, go_sem]
   ·repeat' (with_reducible first | exact hE | exact Ex.refl _ | assumption | apply Ex.alloc | apply Ex.drewN | apply Ex.drew | refine Ex.setCell ?_ (by simp <;> omega) _)
  ·rw [hmf] at HA
   simp only [if_true] at HA
   clear hmf
   have kt := fun A cap w h ht => texts_gen A [⟨r1, r2, r3⟩] cap w h (by simp) (by simp) ht
   rcases hT : Rr [⟨r1, r2, r3⟩] with ⟨t, okt⟩
   rw [hT] at kt HA
   simp only at HA
   clear hT
   obtain ⟨TS, HTS⟩ : ∃ TS, Hid (TS = Bs t) := ⟨_, Kw rfl⟩
   have KT : Hid (∀ (A : Option Addr) (cap : Nat) (w : World), Uj w A [⟨r1, r2, r3⟩] → Tab w → Calls Tryz.prog 72 #[.slice A 1 cap] w fun e w' => e = .returned (.tuple #[.string TS, .bool okt]) ∧ Ex w w') := Kw (by rw [HTS.out]; exact kt)
   clear kt
   go_upto_region 32 with fail
   have bV := Box.new w2 #[.int .i64 a1, .int .i64 a2, .int .i64 a3, .int .i64 b1, .int .i64 b2, .int .i64 b3, .int .i64 c1, .int .i64 c2, .int .i64 c3, .int .i64 d1, .int .i64 d2, .int .i64 d3] 35
   have hg3 : g ≠ w2.heap.size := Nat.ne_of_lt hg2b
   replace hE := hE.alloc (.cells #[.int .i64 a1, .int .i64 a2, .int .i64 a3, .int .i64 b1, .int .i64 b2, .int .i64 b3, .int .i64 c1, .int .i64 c2, .int .i64 c3, .int .i64 d1, .int .i64 d2, .int .i64 d3] 35)
   replace ce0 := ((Ex.refl w2).alloc (.cells #[.int .i64 a1, .int .i64 a2, .int .i64 a3, .int .i64 b1, .int .i64 b2, .int .i64 b3, .int .i64 c1, .int .i64 c2, .int .i64 c3, .int .i64 d1, .int .i64 d2, .int .i64 d3] 35)).get ce0
   replace ce1 := ((Ex.refl w2).alloc (.cells #[.int .i64 a1, .int .i64 a2, .int .i64 a3, .int .i64 b1, .int .i64 b2, .int .i64 b3, .int .i64 c1, .int .i64 c2, .int .i64 c3, .int .i64 d1, .int .i64 d2, .int .i64 d3] 35)).get ce1
   clear hS hg3 z0 hg1 hg2 hg2b
   generalize w2.alloc (.cells #[.int .i64 a1, .int .i64 a2, .int .i64 a3, .int .i64 b1, .int .i64 b2, .int .i64 b3, .int .i64 c1, .int .i64 c2, .int .i64 c3, .int .i64 d1, .int .i64 d2, .int .i64 d3] 35) = W3 at *
   generalize w2.heap.size = g3 at *
   have de0 : W3.cell? ⟨g3, 0, none⟩ = some (.int .i64 a1) := bV.cell 0
   have de1 : W3.cell? ⟨g3, 1, none⟩ = some (.int .i64 a2) := bV.cell 1
   have de2 : W3.cell? ⟨g3, 2, none⟩ = some (.int .i64 a3) := bV.cell 2
   have de3 : W3.cell? ⟨g3, 3, none⟩ = some (.int .i64 b1) := bV.cell 3
   have de4 : W3.cell? ⟨g3, 4, none⟩ = some (.int .i64 b2) := bV.cell 4
   have de5 : W3.cell? ⟨g3, 5, none⟩ = some (.int .i64 b3) := bV.cell 5
   have de6 : W3.cell? ⟨g3, 6, none⟩ = some (.int .i64 c1) := bV.cell 6
   have de7 : W3.cell? ⟨g3, 7, none⟩ = some (.int .i64 c2) := bV.cell 7
   have de8 : W3.cell? ⟨g3, 8, none⟩ = some (.int .i64 c3) := bV.cell 8
   have de9 : W3.cell? ⟨g3, 9, none⟩ = some (.int .i64 d1) := bV.cell 9
   have de10 : W3.cell? ⟨g3, 10, none⟩ = some (.int .i64 d2) := bV.cell 10
   have de11 : W3.cell? ⟨g3, 11, none⟩ = some (.int .i64 d3) := bV.cell 11
   have hE3 := hE
   clear bV
   go_region_held3 (fun w' => w'.cell? ⟨g, 0, none⟩ = some (.int .i64 p) ∧ w'.cell? ⟨g, 1, none⟩ = some (.int .i64 q) ∧ w'.cell? ⟨g3, 0, none⟩ = some (.int .i64 a1) ∧ w'.cell? ⟨g3, 1, none⟩ = some (.int .i64 a2) ∧ w'.cell? ⟨g3, 2, none⟩ = some (.int .i64 a3) ∧ w'.cell? ⟨g3, 3, none⟩ = some (.int .i64 b1) ∧ w'.cell? ⟨g3, 4, none⟩ = some (.int .i64 b2) ∧ w'.cell? ⟨g3, 5, none⟩ = some (.int .i64 b3) ∧ w'.cell? ⟨g3, 6, none⟩ = some (.int .i64 c1) ∧ w'.cell? ⟨g3, 7, none⟩ = some (.int .i64 c2) ∧ w'.cell? ⟨g3, 8, none⟩ = some (.int .i64 c3) ∧ w'.cell? ⟨g3, 9, none⟩ = some (.int .i64 d1) ∧ w'.cell? ⟨g3, 10, none⟩ = some (.int .i64 d2) ∧ w'.cell? ⟨g3, 11, none⟩ = some (.int .i64 d3)) (go_keep) ((go_at_call 17; (refine (K3.out _ _ (HG.out.ex ((hE.drew).alloc _)) (Box.new _ _ _)).mono ?_); rintro e w4 ⟨B, n, cp, rfl, hx4, hown⟩; have hY := (((Ex.refl W3).drew).alloc _).trans hx4; replace hE := hE.trans hY; replace ce0 := hY.get ce0; replace ce1 := hY.get ce1; replace de0 := hY.get de0; replace de1 := hY.get de1; replace de2 := hY.get de2; replace de3 := hY.get de3; replace de4 := hY.get de4; replace de5 := hY.get de5; replace de6 := hY.get de6; replace de7 := hY.get de7; replace de8 := hY.get de8; replace de9 := hY.get de9; replace de10 := hY.get de10; replace de11 := hY.get de11))
   clear de0 de1 de2 de3 de4 de5 de6 de7 de8 de9 de10 de11 ce0 ce1 hY
   rcases okr with _ | _
   ·simp only [Bool.false_and, Bool.false_eq_true, if_false] at HA
    have e := HA.out
    subst e
    clear HA
    go_wp2_with fail
    refine Kr (v := .tuple #[.string ⟨#[]⟩, .bool false, .bool true]) ?_ rfl (Lb HB.out rfl ?_)
    ·simp [results, Tryz.results26, go_sem]
    ·repeat' (with_reducible first | exact hE | exact Ex.refl _ | assumption | apply Ex.alloc | apply Ex.drewN | apply Ex.drew | refine Ex.setCell ?_ (by simp <;> omega) _)
   ·obtain ⟨rfl, hO⟩ := hown rfl
    have HFR := Kw (fracs1 (x := ⟨r1, r2, r3⟩) hO)
    clear hO hown
    go_wp2_with fail
    refine (KT.out _ _ _ HFR.out (HM.out.ex hE).tab).mono ?_
    rintro e w5 ⟨rfl, hx5⟩
    replace hE := hE.trans hx5
    rcases okt with _ | _
    ·simp only [Bool.and_false, Bool.false_eq_true, if_false] at HA
     have e := HA.out
     subst e
     clear HA
     go_wp2_with fail
     refine Kr (v := .tuple #[.string TS, .bool false, .bool true]) ?_ rfl (Lb HB.out rfl ?_)
     ·simp [results, Tryz.results26, go_sem]
     ·repeat' (with_reducible first | exact hE | exact Ex.refl _ | assumption | apply Ex.alloc | apply Ex.drewN | apply Ex.drew | refine Ex.setCell ?_ (by simp <;> omega) _)
    ·simp only [Bool.and_self, if_true] at HA
     have e := HA.out
     subst e
     clear HA
     go_wp2_with fail
     refine Kr (v := .tuple #[.string TS, .bool true, .bool true]) ?_ rfl (Lb HB.out HTS.out ?_)
     ·simp [results, Tryz.results26, go_sem]
     ·repeat' (with_reducible first | exact hE | exact Ex.refl _ | assumption | apply Ex.alloc | apply Ex.drewN | apply Ex.drew | refine Ex.setCell ?_ (by simp <;> omega) _)
 ·rw [HMN.out hns] at HA
  simp only [Bool.false_and, Bool.false_eq_true, if_false] at HA
  have e := HA.out
  subst e
  clear HA HMF HMN HN2
  replace hS := hS.grow hx
  have hbc := hS.boxes.1
  go_wp2_with fail
  refine (K2.out _ (HG.out.ex hS.ex) (HM.out.ex hS.ex) hbc).mono ?_
  rintro e w2 ⟨rfl, hx2⟩
  obtain ⟨⟨a1, a2, a3⟩, ⟨b1, b2, b3⟩, ⟨c1, c2, c3⟩, ⟨d1, d2, d3⟩⟩ := v
  simp only [m4v, M4.v]
  replace hS := hS.grow hx2
  have hE := hS.ex
  clear hx hx2 hbc
  go_wp2_with fail
  refine Kr (v := .tuple #[.string ⟨#[]⟩, .bool false, .bool true]) ?_ rfl (Lb HB.out rfl ?_)
  ·simp [results, Tryz.results26, go_sem]
  ·repeat' (with_reducible first | exact hE | exact Ex.refl _ | assumption | apply Ex.alloc | apply Ex.drewN | apply Ex.drew | refine Ex.setCell ?_ (by simp <;> omega) _)
end
section
open Go.RowKit

attribute [local go_sem] Zi Zh
theorem tg_take4 (t : List Fr) (h : t.length = 16) : [tg t (4 * 0), tg t (4 * 0 + 1), tg t (4 * 0 + 2), tg t (4 * 0 + 3)] = t.take 4 := by
 match t, h with
 | a :: b :: c :: d :: r, _ => rfl
theorem sMeterRow (p q : Int) (w : World) : Calls Tryz.prog 15 #[.agg #[.int .i64 p, .int .i64 q]] w (fun e w' => e = .returned (.tuple #[.agg (Zs (Vm p q).1), .bool (Vm p q).2]) ∧ Ex w w') := by
 have k1 := fun w => sMatPlate p q 1 w
 have k2 := fun w => sMatFilter 1 0 w
 have hq : Vm p q = if (Yn p q 1).2 && (Yb 1 0).2 && (Xg (Yb 1 0).1).2 && (Xg (Yn p q 1).1).2 && (Wd (Xg (Yb 1 0).1).1 (Xg (Yn p q 1).1).1).2 then ((Wd (Xg (Yb 1 0).1).1 (Xg (Yn p q 1).1).1).1.take 4, true) else (Wn 4, false) := rfl
 generalize Vm p q = R at hq ⊢
 rcases hP : Yn p q 1 with ⟨P, kp⟩
 rcases hF : Yb 1 0 with ⟨M, kf⟩
 rw [hP] at k1
 rw [hF] at k2
 simp only [hP, hF] at hq
 clear hP hF
 have k3 := fun w => sTableOf M w
 have k4 := fun w => sTableOf P w
 have hA := Ua M
 have hB := Ua P
 rcases hTA : Xg M with ⟨A, ka⟩
 rcases hTB : Xg P with ⟨B, kb⟩
 rw [hTA] at k3 hA
 rw [hTB] at k4 hB
 simp only [hTA, hTB] at hq
 simp only at hA hB
 clear hTA hTB
 have k5 := fun w => sTableTimes A B hA hB w
 have hC := Py A B
 rcases hTC : Wd A B with ⟨C, kc⟩
 rw [hTC] at k5 hC
 simp only [hTC] at hq
 simp only at hC
 clear hTC
 have k6 := fun w => l6tOf_any C hC 0 (by decide) w
 rw [tg_take4 C hC] at k6
 rw [show ((0 : Nat) : Int) = 0 from rfl] at k6
 simp only [Sg, m4v, M4.l_arr] at k1 k2 k3 k4 k5
 have sA : (Zs A).size = 48 := by rw [Ym, hA]
 have sB : (Zs B).size = 48 := by rw [Ym, hB]
 have sC : (Zs C).size = 48 := by rw [Ym, hC]
 have oA := Yw A
 have oB := Yw B
 have oC := Yw C
 have sP : (Zs P.l).size = 12 := rfl
 have sM : (Zs M.l).size = 12 := rfl
 have oP := Yw P.l
 have oM := Yw M.l
 have sT : (Zs (C.take 4)).toList.length = 12 := by rw [Array.length_toList, Ym, List.length_take, hC]; rfl
 have oT := Yw (C.take 4)
 have HQ := Kw hq
 clear hq hA hB hC
 generalize Zs A = ac at *
 generalize Zs B = bc at *
 generalize Zs C = cc at *
 generalize Zs P.l = pc at *
 generalize Zs M.l = mc at *
 obtain ⟨tc, htc⟩ : ∃ tc, Hid (tc = Zs (C.take 4)) := ⟨_, Kw rfl⟩
 rw [← htc.out] at sT oT k6
 have K1 := Kw k1
 have K2 := Kw k2
 have K3 := Kw k3
 have K4 := Kw k4
 have K5 := Kw k5
 have K6 := Kw k6
 clear k1 k2 k3 k4 k5 k6
 have hR := Zw.refl w
 go_enter Tryz.func15, Tryz.ntmps15
 go_upto_region 1 with fail
 have hV : Zw w ((w.alloc (.cells #[.int .i64 p, .int .i64 q] 27)).alloc (.cells #[.int .i64 0, .int .i64 0, .int .i64 0, .int .i64 0, .int .i64 0, .int .i64 0, .int .i64 0, .int .i64 0, .int .i64 0, .int .i64 0, .int .i64 0, .int .i64 0] 31)) _ := inferInstance
 clear hR
 simp only [Kv] at hV
 generalize (w.alloc (.cells #[.int .i64 p, .int .i64 q] 27)).alloc (.cells #[.int .i64 0, .int .i64 0, .int .i64 0, .int .i64 0, .int .i64 0, .int .i64 0, .int .i64 0, .int .i64 0, .int .i64 0, .int .i64 0, .int .i64 0, .int .i64 0] 31) = W0 at *
 have hC := hV.reads
 simp only [Zz, Zy] at hC
 skip
 go_upto_region 2 with (first | (go_at_call 41; (with_reducible refine (K1.out _).mono ?_); rintro e u1 ⟨rfl, hx⟩; replace hV := Zw.after (W := w) hx; clear hx) | (refine wpList_store_row rfl _ _ _ rfl _ _ rfl rfl _ _ (Box.new u1 _ _) (Qt sP) (by rw [sP]; rfl) oP ?_))
 have hB2 := (Box.new u1 #[.int .i64 0, .int .i64 0, .int .i64 0, .int .i64 0, .int .i64 0, .int .i64 0, .int .i64 0, .int .i64 0, .int .i64 0, .int .i64 0, .int .i64 0, .int .i64 0] 79).setRow pc
 replace hV := hV.grow (((Ex.refl u1).alloc (.cells #[.int .i64 0, .int .i64 0, .int .i64 0, .int .i64 0, .int .i64 0, .int .i64 0, .int .i64 0, .int .i64 0, .int .i64 0, .int .i64 0, .int .i64 0, .int .i64 0] 79)).setRow (Nat.le_refl _) pc)
 generalize (u1.alloc (.cells #[.int .i64 0, .int .i64 0, .int .i64 0, .int .i64 0, .int .i64 0, .int .i64 0, .int .i64 0, .int .i64 0, .int .i64 0, .int .i64 0, .int .i64 0, .int .i64 0] 79)).setRow u1.heap.size pc = V2 at *
 replace hV := Zw.put hV hB2
 clear hB2
 generalize u1.heap.size = g2 at *
 clear hC
 go_upto_region 3 with (first | (go_at_call 42; (with_reducible refine (K2.out _).mono ?_); rintro e u2 ⟨rfl, hx⟩; replace hV := Zw.after (W := w) hx; clear hx) | (refine wpList_store_row rfl _ _ _ rfl _ _ rfl rfl _ _ (Box.new u2 _ _) (Qt sM) (by rw [sM]; rfl) oM ?_))
 have hB3 := (Box.new u2 #[.int .i64 0, .int .i64 0, .int .i64 0, .int .i64 0, .int .i64 0, .int .i64 0, .int .i64 0, .int .i64 0, .int .i64 0, .int .i64 0, .int .i64 0, .int .i64 0] 79).setRow mc
 replace hV := hV.grow (((Ex.refl u2).alloc (.cells #[.int .i64 0, .int .i64 0, .int .i64 0, .int .i64 0, .int .i64 0, .int .i64 0, .int .i64 0, .int .i64 0, .int .i64 0, .int .i64 0, .int .i64 0, .int .i64 0] 79)).setRow (Nat.le_refl _) mc)
 generalize (u2.alloc (.cells #[.int .i64 0, .int .i64 0, .int .i64 0, .int .i64 0, .int .i64 0, .int .i64 0, .int .i64 0, .int .i64 0, .int .i64 0, .int .i64 0, .int .i64 0, .int .i64 0] 79)).setRow u2.heap.size mc = V3 at *
 replace hV := Zw.put hV hB3
 clear hB3
 generalize u2.heap.size = g3 at *
 have bR := hV.boxes.2.2.1
 have hE := hV.ex
 rcases kp with _ | _
 ·go_wp2_with (refine wpList_store_row rfl _ _ _ rfl _ _ rfl rfl _ _ bR (Xi rfl) rfl Qc ?_)
  exact Kr (Zl Tryz.results15 _ _ _ _ _ (0, 0) _ rfl (bR.setRow _) Tryz.underlying31 rfl (Xi rfl)) rfl ⟨by rw [HQ.out]; simp; rfl, hE.setRow (by omega) _⟩
 rcases kf with _ | _
 ·go_wp2_with (refine wpList_store_row rfl _ _ _ rfl _ _ rfl rfl _ _ bR (Xi rfl) rfl Qc ?_)
  exact Kr (Zl Tryz.results15 _ _ _ _ _ (0, 0) _ rfl (bR.setRow _) Tryz.underlying31 rfl (Xi rfl)) rfl ⟨by rw [HQ.out]; simp; rfl, hE.setRow (by omega) _⟩
 clear bR hE
 have bM := hV.boxes.1
 go_upto_region 6 with (first | (refine wpList_load_row rfl _ _ rfl _ rfl _ _ (0, 0) _ bM Tryz.underlying79 rfl (Qt sM) ?_) | (go_at_call 43; (with_reducible refine (K3.out _).mono ?_); rintro e u3 ⟨rfl, hx⟩; replace hV := Zw.after (W := w) hx; clear hx) | (refine wpList_store_row rfl _ _ _ rfl _ _ rfl rfl _ _ (Box.new u3 _ _) (Yz sA) (by rw [sA]; rfl) oA ?_))
 have hB6 := (Box.new u3 #[.int .i64 0, .int .i64 0, .int .i64 0, .int .i64 0, .int .i64 0, .int .i64 0, .int .i64 0, .int .i64 0, .int .i64 0, .int .i64 0, .int .i64 0, .int .i64 0, .int .i64 0, .int .i64 0, .int .i64 0, .int .i64 0, .int .i64 0, .int .i64 0, .int .i64 0, .int .i64 0, .int .i64 0, .int .i64 0, .int .i64 0, .int .i64 0, .int .i64 0, .int .i64 0, .int .i64 0, .int .i64 0, .int .i64 0, .int .i64 0, .int .i64 0, .int .i64 0, .int .i64 0, .int .i64 0, .int .i64 0, .int .i64 0, .int .i64 0, .int .i64 0, .int .i64 0, .int .i64 0, .int .i64 0, .int .i64 0, .int .i64 0, .int .i64 0, .int .i64 0, .int .i64 0, .int .i64 0, .int .i64 0] 85).setRow ac
 replace hV := hV.grow (((Ex.refl u3).alloc (.cells #[.int .i64 0, .int .i64 0, .int .i64 0, .int .i64 0, .int .i64 0, .int .i64 0, .int .i64 0, .int .i64 0, .int .i64 0, .int .i64 0, .int .i64 0, .int .i64 0, .int .i64 0, .int .i64 0, .int .i64 0, .int .i64 0, .int .i64 0, .int .i64 0, .int .i64 0, .int .i64 0, .int .i64 0, .int .i64 0, .int .i64 0, .int .i64 0, .int .i64 0, .int .i64 0, .int .i64 0, .int .i64 0, .int .i64 0, .int .i64 0, .int .i64 0, .int .i64 0, .int .i64 0, .int .i64 0, .int .i64 0, .int .i64 0, .int .i64 0, .int .i64 0, .int .i64 0, .int .i64 0, .int .i64 0, .int .i64 0, .int .i64 0, .int .i64 0, .int .i64 0, .int .i64 0, .int .i64 0, .int .i64 0] 85)).setRow (Nat.le_refl _) ac)
 generalize (u3.alloc (.cells #[.int .i64 0, .int .i64 0, .int .i64 0, .int .i64 0, .int .i64 0, .int .i64 0, .int .i64 0, .int .i64 0, .int .i64 0, .int .i64 0, .int .i64 0, .int .i64 0, .int .i64 0, .int .i64 0, .int .i64 0, .int .i64 0, .int .i64 0, .int .i64 0, .int .i64 0, .int .i64 0, .int .i64 0, .int .i64 0, .int .i64 0, .int .i64 0, .int .i64 0, .int .i64 0, .int .i64 0, .int .i64 0, .int .i64 0, .int .i64 0, .int .i64 0, .int .i64 0, .int .i64 0, .int .i64 0, .int .i64 0, .int .i64 0, .int .i64 0, .int .i64 0, .int .i64 0, .int .i64 0, .int .i64 0, .int .i64 0, .int .i64 0, .int .i64 0, .int .i64 0, .int .i64 0, .int .i64 0, .int .i64 0] 85)).setRow u3.heap.size ac = V6 at *
 replace hV := Zw.put hV hB6
 clear hB6
 generalize u3.heap.size = g6 at *
 clear bM
 have bP := hV.boxes.2.2.1
 go_upto_region 7 with (first | (refine wpList_load_row rfl _ _ rfl _ rfl _ _ (0, 0) _ bP Tryz.underlying79 rfl (Qt sP) ?_) | (go_at_call 43; (with_reducible refine (K4.out _).mono ?_); rintro e u4 ⟨rfl, hx⟩; replace hV := Zw.after (W := w) hx; clear hx) | (refine wpList_store_row rfl _ _ _ rfl _ _ rfl rfl _ _ (Box.new u4 _ _) (Yz sB) (by rw [sB]; rfl) oB ?_))
 have hB7 := (Box.new u4 #[.int .i64 0, .int .i64 0, .int .i64 0, .int .i64 0, .int .i64 0, .int .i64 0, .int .i64 0, .int .i64 0, .int .i64 0, .int .i64 0, .int .i64 0, .int .i64 0, .int .i64 0, .int .i64 0, .int .i64 0, .int .i64 0, .int .i64 0, .int .i64 0, .int .i64 0, .int .i64 0, .int .i64 0, .int .i64 0, .int .i64 0, .int .i64 0, .int .i64 0, .int .i64 0, .int .i64 0, .int .i64 0, .int .i64 0, .int .i64 0, .int .i64 0, .int .i64 0, .int .i64 0, .int .i64 0, .int .i64 0, .int .i64 0, .int .i64 0, .int .i64 0, .int .i64 0, .int .i64 0, .int .i64 0, .int .i64 0, .int .i64 0, .int .i64 0, .int .i64 0, .int .i64 0, .int .i64 0, .int .i64 0] 85).setRow bc
 replace hV := hV.grow (((Ex.refl u4).alloc (.cells #[.int .i64 0, .int .i64 0, .int .i64 0, .int .i64 0, .int .i64 0, .int .i64 0, .int .i64 0, .int .i64 0, .int .i64 0, .int .i64 0, .int .i64 0, .int .i64 0, .int .i64 0, .int .i64 0, .int .i64 0, .int .i64 0, .int .i64 0, .int .i64 0, .int .i64 0, .int .i64 0, .int .i64 0, .int .i64 0, .int .i64 0, .int .i64 0, .int .i64 0, .int .i64 0, .int .i64 0, .int .i64 0, .int .i64 0, .int .i64 0, .int .i64 0, .int .i64 0, .int .i64 0, .int .i64 0, .int .i64 0, .int .i64 0, .int .i64 0, .int .i64 0, .int .i64 0, .int .i64 0, .int .i64 0, .int .i64 0, .int .i64 0, .int .i64 0, .int .i64 0, .int .i64 0, .int .i64 0, .int .i64 0] 85)).setRow (Nat.le_refl _) bc)
 generalize (u4.alloc (.cells #[.int .i64 0, .int .i64 0, .int .i64 0, .int .i64 0, .int .i64 0, .int .i64 0, .int .i64 0, .int .i64 0, .int .i64 0, .int .i64 0, .int .i64 0, .int .i64 0, .int .i64 0, .int .i64 0, .int .i64 0, .int .i64 0, .int .i64 0, .int .i64 0, .int .i64 0, .int .i64 0, .int .i64 0, .int .i64 0, .int .i64 0, .int .i64 0, .int .i64 0, .int .i64 0, .int .i64 0, .int .i64 0, .int .i64 0, .int .i64 0, .int .i64 0, .int .i64 0, .int .i64 0, .int .i64 0, .int .i64 0, .int .i64 0, .int .i64 0, .int .i64 0, .int .i64 0, .int .i64 0, .int .i64 0, .int .i64 0, .int .i64 0, .int .i64 0, .int .i64 0, .int .i64 0, .int .i64 0, .int .i64 0] 85)).setRow u4.heap.size bc = V7 at *
 replace hV := Zw.put hV hB7
 clear hB7
 generalize u4.heap.size = g7 at *
 clear bP
 have bR := hV.boxes.2.2.2.2.1
 have hE := hV.ex
 rcases ka with _ | _
 ·go_wp2_with (refine wpList_store_row rfl _ _ _ rfl _ _ rfl rfl _ _ bR (Xi rfl) rfl Qc ?_)
  exact Kr (Zl Tryz.results15 _ _ _ _ _ (0, 0) _ rfl (bR.setRow _) Tryz.underlying31 rfl (Xi rfl)) rfl ⟨by rw [HQ.out]; simp; rfl, hE.setRow (by omega) _⟩
 rcases kb with _ | _
 ·go_wp2_with (refine wpList_store_row rfl _ _ _ rfl _ _ rfl rfl _ _ bR (Xi rfl) rfl Qc ?_)
  exact Kr (Zl Tryz.results15 _ _ _ _ _ (0, 0) _ rfl (bR.setRow _) Tryz.underlying31 rfl (Xi rfl)) rfl ⟨by rw [HQ.out]; simp; rfl, hE.setRow (by omega) _⟩
 clear bR hE
 have bB := hV.boxes.1
 have bA := hV.boxes.2.1
 go_upto_region 10 with (first | (refine wpList_load_row rfl _ _ rfl _ rfl _ _ (0, 0) _ bA Tryz.underlying85 rfl (Yz sA) ?_) | (refine wpList_load_row rfl _ _ rfl _ rfl _ _ (0, 0) _ bB Tryz.underlying85 rfl (Yz sB) ?_) | (go_at_call 44; (with_reducible refine (K5.out _).mono ?_); rintro e u5 ⟨rfl, hx⟩; replace hV := Zw.after (W := w) hx; clear hx) | (refine wpList_store_row rfl _ _ _ rfl _ _ rfl rfl _ _ (Box.new u5 _ _) (Yz sC) (by rw [sC]; rfl) oC ?_))
 have hB10 := (Box.new u5 #[.int .i64 0, .int .i64 0, .int .i64 0, .int .i64 0, .int .i64 0, .int .i64 0, .int .i64 0, .int .i64 0, .int .i64 0, .int .i64 0, .int .i64 0, .int .i64 0, .int .i64 0, .int .i64 0, .int .i64 0, .int .i64 0, .int .i64 0, .int .i64 0, .int .i64 0, .int .i64 0, .int .i64 0, .int .i64 0, .int .i64 0, .int .i64 0, .int .i64 0, .int .i64 0, .int .i64 0, .int .i64 0, .int .i64 0, .int .i64 0, .int .i64 0, .int .i64 0, .int .i64 0, .int .i64 0, .int .i64 0, .int .i64 0, .int .i64 0, .int .i64 0, .int .i64 0, .int .i64 0, .int .i64 0, .int .i64 0, .int .i64 0, .int .i64 0, .int .i64 0, .int .i64 0, .int .i64 0, .int .i64 0] 85).setRow cc
 replace hV := hV.grow (((Ex.refl u5).alloc (.cells #[.int .i64 0, .int .i64 0, .int .i64 0, .int .i64 0, .int .i64 0, .int .i64 0, .int .i64 0, .int .i64 0, .int .i64 0, .int .i64 0, .int .i64 0, .int .i64 0, .int .i64 0, .int .i64 0, .int .i64 0, .int .i64 0, .int .i64 0, .int .i64 0, .int .i64 0, .int .i64 0, .int .i64 0, .int .i64 0, .int .i64 0, .int .i64 0, .int .i64 0, .int .i64 0, .int .i64 0, .int .i64 0, .int .i64 0, .int .i64 0, .int .i64 0, .int .i64 0, .int .i64 0, .int .i64 0, .int .i64 0, .int .i64 0, .int .i64 0, .int .i64 0, .int .i64 0, .int .i64 0, .int .i64 0, .int .i64 0, .int .i64 0, .int .i64 0, .int .i64 0, .int .i64 0, .int .i64 0, .int .i64 0] 85)).setRow (Nat.le_refl _) cc)
 generalize (u5.alloc (.cells #[.int .i64 0, .int .i64 0, .int .i64 0, .int .i64 0, .int .i64 0, .int .i64 0, .int .i64 0, .int .i64 0, .int .i64 0, .int .i64 0, .int .i64 0, .int .i64 0, .int .i64 0, .int .i64 0, .int .i64 0, .int .i64 0, .int .i64 0, .int .i64 0, .int .i64 0, .int .i64 0, .int .i64 0, .int .i64 0, .int .i64 0, .int .i64 0, .int .i64 0, .int .i64 0, .int .i64 0, .int .i64 0, .int .i64 0, .int .i64 0, .int .i64 0, .int .i64 0, .int .i64 0, .int .i64 0, .int .i64 0, .int .i64 0, .int .i64 0, .int .i64 0, .int .i64 0, .int .i64 0, .int .i64 0, .int .i64 0, .int .i64 0, .int .i64 0, .int .i64 0, .int .i64 0, .int .i64 0, .int .i64 0] 85)).setRow u5.heap.size cc = V10 at *
 replace hV := Zw.put hV hB10
 clear hB10
 generalize u5.heap.size = g10 at *
 clear bA bB
 have bR := hV.boxes.2.2.2.2.2.1
 have hE := hV.ex
 rcases kc with _ | _
 ·go_wp2_with (refine wpList_store_row rfl _ _ _ rfl _ _ rfl rfl _ _ bR (Xi rfl) rfl Qc ?_)
  exact Kr (Zl Tryz.results15 _ _ _ _ _ (0, 0) _ rfl (bR.setRow _) Tryz.underlying31 rfl (Xi rfl)) rfl ⟨by rw [HQ.out]; simp; rfl, hE.setRow (by omega) _⟩
 clear bR hE
 have sT1 : tc.size = 12 := by rw [← Array.length_toList]; exact sT
 have bC := hV.boxes.1
 go_wp2_with (first | (refine wpList_load_row rfl _ _ rfl _ rfl _ _ (0, 0) _ bC Tryz.underlying85 rfl (Yz sC) ?_) | (go_at_call 45; (with_reducible refine (K6.out _).mono ?_); rintro e u6 ⟨rfl, hx⟩; replace hV := Zw.after (W := w) hx; clear hx; have bR := hV.boxes.2.2.2.2.2.1) | (refine wpList_store_row rfl _ _ _ rfl _ _ rfl rfl _ _ bR (Xi sT1) (by rw [sT1]; rfl) oT ?_))
 have hE := hV.ex
 exact Kr (Zl Tryz.results15 _ _ _ _ _ (0, 0) _ rfl (bR.setRow _) Tryz.underlying31 rfl (Xi sT1)) rfl ⟨by rw [HQ.out, htc.out]; rfl, hE.setRow (by omega) _⟩
end
end Go.Proofs.YtiommfmaleeibaaGreatDoor
