/-
  Proved: what functions compute, part 48. No condition.
-/
import Derived.Test.YtmmjkchjgeklnaaGreatDoorK46
import Derived.Test.YtmmjkchjgeklnaaGreatDoorK19
import Derived.Test.YtmmjkchjgeklnaaGreatDoorK22
import Derived.Test.YtmmjkchjgeklnaaGreatDoorK21
import Derived.Test.YtmmjkchjgeklnaaGreatDoorK07
set_option linter.unusedSimpArgs false
set_option linter.unusedVariables false
set_option maxRecDepth 20000
set_option maxHeartbeats 8000000
namespace Go.Proofs.YtmmjkchjgeklnaaGreatDoor
section
open Go.RowKit

attribute [local go_sem] Zk Zj
theorem Xh {xs ys : List Fr} {i k : Nat} (hi : i < 4) (hk : k < 4) (hne : i ≠ k) (h : Ux xs ys i k = false) : Vy xs ys = false := by
 cases hc : Vy xs ys with
 | false => rfl
 | true => rw [(Ls xs ys).1 hc i k hi hk hne] at h; cases h
theorem Ku {xs ys : List Fr} (h : ∀ i k, i < 4 → k < 4 → i ≠ k → Ux xs ys i k = true) : Vy xs ys = true := (Ls xs ys).2 h
theorem iCrossed (v u : M4) (ga gb : Nat) (w : World) (ha : Box w ga 35 (Zo v.l)) (hb : Box w gb 35 (Zo u.l)) : Calls Tryz.prog 62 #[.slice (some ⟨ga, 0, none⟩) 4 4, .slice (some ⟨gb, 0, none⟩) 4 4] w (fun e w' => e = .returned (.bool (Vy v.l u.l)) ∧ Ex w w') := by
 have HVA := Gv (fun k (hk : k < 4) => Rk v.l k (by simp [M4.l]; omega))
 have HUA := Gv (fun k (hk : k < 4) => Rk u.l k (by simp [M4.l]; omega))
 generalize Zo v.l = vc at *
 generalize Zo u.l = uc at *
 have hR : Zw w w [(gb, 35, uc), (ga, 35, vc)] := ⟨Ex.refl w, hb, ha, trivial⟩
 clear ha hb
 go_enter Tryz.func62, Tryz.ntmps62
 go_upto_region 2 with fail
 have hS : Zq w (w.alloc (.cells #[.bool false] 128)) w.heap.size false [(gb, 35, uc), (ga, 35, vc)] := Zq.start (h := hR)
 clear hR
 generalize w.alloc (.cells #[.bool false] 128) = W0 at *
 go_wp2_with fail
 go_loopw [12, 6, 7] (fun m _ _ wr => ∃ i : Nat, m = .int .i64 i ∧ i ≤ 4 ∧ Hid (∀ a b, a < i → b < 4 → a ≠ b → Ux v.l u.l a b = true) ∧ Hid (Zq w wr w.heap.size false [(gb, 35, uc), (ga, 35, vc)])) (fun m _ _ _ => 5 - (intOf m).toNat)
 case atStart => exact ⟨0, rfl, by omega, Gv (fun a b h _ _ => absurd h (by omega)), Gv hS⟩
 case round =>
  clear hS
  obtain ⟨i, rfl, hi, HD, HS⟩ := hrel
  by_cases hlt : i < 4
  ·have hI : (i : Int) < 4 := by omega
   have hwi : IntKind.i64.wrap ((i : Int) + 1) = (i : Int) + 1 := Gp _ (by omega)
   go_wp2_with fail
   go_loopw [17, 7] (fun m _ wy => ∃ j : Nat, m = .int .i64 j ∧ j ≤ 4 ∧ Hid (∀ b, b < j → i ≠ b → Ux v.l u.l i b = true) ∧ Hid (Zq w wy w.heap.size false [(gb, 35, uc), (ga, 35, vc)])) (fun m _ _ => 5 - (intOf m).toNat)
   case atStart => exact ⟨0, rfl, by omega, Gv (fun b h _ => absurd h (by omega)), HS⟩
   case round =>
    clear HS
    obtain ⟨j, rfl, hj, HJ, HS⟩ := hrel
    by_cases hltj : j < 4
    ·have hJ : (j : Int) < 4 := by omega
     have hwj : IntKind.i64.wrap ((j : Int) + 1) = (j : Int) + 1 := Gp _ (by omega)
     by_cases he : i = j
     ·have hb : ((i : Int) != (j : Int)) = false := by rw [bne_eq_false_iff_eq]; omega
      have hS := HS.out
      have HE := Gv he
      clear HS he
      go_upto_region 8 with fail
      refine Zd (St := fun _ _ => True) 27 false (B := fun b w2 => Zq w w2 w.heap.size b [(gb, 35, uc), (ga, 35, vc)]) (by kernel_rfl) (by kernel_rfl) (hS.drewW) (by exact fun _ _ _ _ _ h => h) ?_
      iterate 4 (apply Zx; (· rfl); (· intro b wb hB Q1 hQ1; go_wp2_with fail; exact hQ1 _ trivial hB); (· exact ⟨_, rfl⟩))
      refine Zu (by rfl) (by simp only [Act.put, Gt, Gs, Gr]; rfl) ?_
      refine Zu (by rfl) (by simp only [Act.put, Gt, Gs, Gr]; rfl) ?_
      refine Zu (by rfl) (by simp only [Act.put, Gt, Gs, Gr]; rfl) ?_
      refine Zu (by rfl) (by simp only [Act.put, Gt, Gs, Gr]; rfl) ?_
      refine Zu (by rfl) (by simp only [Act.put, Gt, Gs, Gr]; rfl) ?_
      refine Zu (by rfl) (by simp only [Act.put, Gt, Gs, Gr]; rfl) ?_
      refine Zu (by rfl) (by simp only [Act.put, Gt, Gs, Gr]; rfl) ?_
      refine Zu (by rfl) (by simp only [Act.put, Gt, Gs, Gr]; rfl) ?_
      refine Zu (by rfl) (by simp only [Act.put, Gt, Gs, Gr]; rfl) ?_
      refine Zu (by rfl) (by simp only [Act.put, Gt, Gs, Gr]; rfl) ?_
      refine Zu (by rfl) (by simp only [Act.put, Gt, Gs, Gr]; rfl) ?_
      refine Zu (by rfl) (by simp only [Act.put, Gt, Gs, Gr]; rfl) ?_
      refine Zu (by rfl) (by simp only [Act.put, Gt, Gs, Gr]; rfl) ?_
      refine Zu (by rfl) (by simp only [Act.put, Gt, Gs, Gr]; rfl) ?_
      refine Zu (by rfl) (by simp only [Act.put, Gt, Gs, Gr]; rfl) ?_
      refine Zu (by rfl) (by simp only [Act.put, Gt, Gs, Gr]; rfl) ?_
      refine Zu (by rfl) (by simp only [Act.put, Gt, Gs, Gr]; rfl) ?_
      refine Zu (by rfl) (by simp only [Act.put, Gt, Gs, Gr]; rfl) ?_
      refine Zu (by rfl) (by simp only [Act.put, Gt, Gs, Gr]; rfl) ?_
      refine Zu (by rfl) (by simp only [Act.put, Gt, Gs, Gr]; rfl) ?_
      refine Zu (by rfl) (by simp only [Act.put, Gt, Gs, Gr]; rfl) ?_
      iterate 2 (apply Zx; (· rfl); (· intro b wb hB Q1 hQ1; go_wp2_with fail; exact hQ1 _ trivial hB); (· exact ⟨_, rfl⟩))
      refine Zv ?_
      intro wz hz
      clear hS
      have hC := hz.reads
      simp only [Zz, Zy] at hC
      go_wp2_with fail
      have HZ := Gv hz
      clear hz hC
      go_roundw
      case rel => exact ⟨j + 1, by go_num, by omega, Gv (fun b hb hne => by
        rcases Nat.lt_or_ge b j with h | h
        ·exact HJ.out b h hne
        ·exact absurd (by have := HE.out; omega) hne), HZ⟩
      case measure => simp [intOf] <;> omega
     ·have hb : ((i : Int) != (j : Int)) = true := by rw [bne_iff_ne]; omega
      have HNE := Gv he
      clear he
      obtain ⟨fx0, fx1, fx2⟩ := HVA.out i (by omega)
      rw [Nat.mul_comm 3 i] at fx0 fx1 fx2
      obtain ⟨fy0, fy1, fy2⟩ := HUA.out j (by omega)
      rw [Nat.mul_comm 3 j] at fy0 fy1 fy2
      obtain ⟨fz0, fz1, fz2⟩ := HVA.out j (by omega)
      rw [Nat.mul_comm 3 j] at fz0 fz1 fz2
      obtain ⟨ft0, ft1, ft2⟩ := HUA.out i (by omega)
      rw [Nat.mul_comm 3 i] at ft0 ft1 ft2
      have HCR : Hid (Ux v.l u.l i j = ((Zs (tg v.l i) (tg u.l j)).2 && (Zs (tg v.l j) (tg u.l i)).2 && decide ((Zs (tg v.l i) (tg u.l j)).1 = (Zs (tg v.l j) (tg u.l i)).1))) := Gv rfl
      obtain ⟨cr, HC⟩ : ∃ cr, Hid (Ux v.l u.l i j = cr) := ⟨_, Gv rfl⟩
      rw [HC.out] at HCR
      generalize tg v.l i = x at fx0 fx1 fx2 HCR
      obtain ⟨x1, x2, x3⟩ := x
      simp only at fx0 fx1 fx2
      generalize tg u.l j = y at fy0 fy1 fy2 HCR
      obtain ⟨y1, y2, y3⟩ := y
      simp only at fy0 fy1 fy2
      generalize tg v.l j = z at fz0 fz1 fz2 HCR
      obtain ⟨z1, z2, z3⟩ := z
      simp only at fz0 fz1 fz2
      generalize tg u.l i = t at ft0 ft1 ft2 HCR
      obtain ⟨t1, t2, t3⟩ := t
      simp only at ft0 ft1 ft2
      rcases hp : Zs ⟨x1, x2, x3⟩ ⟨y1, y2, y3⟩ with ⟨⟨p1, p2, p3⟩, kp⟩
      rcases hq : Zs ⟨z1, z2, z3⟩ ⟨t1, t2, t3⟩ with ⟨⟨q1, q2, q3⟩, kq⟩
      have hcr := HCR.out
      rw [hp, hq] at hcr
      simp only at hcr
      clear HCR
      have hneq := fun w => neqFr p1 p2 p3 q1 q2 q3 w
      generalize decide ((⟨p1, p2, p3⟩ : Fr) = ⟨q1, q2, q3⟩) = dq at hneq hcr
      have HP := Gv hp
      have HQ := Gv hq
      have HR := Gv hcr
      have HN := Gv hneq
      clear hp hq hcr hneq
      have hS := HS.out
      clear HS
      go_upto_region 8 with fail
      refine Zd (St := fun _ _ => True) 27 false (B := fun b w2 => Zq w w2 w.heap.size b [(gb, 35, uc), (ga, 35, vc)]) (by kernel_rfl) (by kernel_rfl) (hS.drewW) (by exact fun _ _ _ _ _ h => h) ?_
      iterate 13 (apply Zx; (· rfl); (· intro b wb hB Q1 hQ1; have hS := hB; have hC := hS.reads; simp only [Zz, Zy] at hC; go_wp2_with fail; exact hQ1 _ trivial hB); (· exact ⟨_, rfl⟩))
      (apply Zp; (· rfl); (· intro b wb hB Q1 hQ1; go_wp2_with (go_at_call 74; (with_reducible refine (Xm hB HP.out).mono ?_); rintro e wn ⟨rfl, hN, hM⟩); exact hQ1 _ trivial hN); (· exact ⟨_, rfl⟩))
      iterate 9 (apply Zx; (· rfl); (· intro b wb hB Q1 hQ1; have hS := hB; have hC := hS.reads; simp only [Zz, Zy] at hC; go_wp2_with fail; exact hQ1 _ trivial hB); (· exact ⟨_, rfl⟩))
      (apply Zp; (· rfl); (· intro b wb hB Q1 hQ1; go_wp2_with (go_at_call 74; (with_reducible refine (Xm hB HQ.out).mono ?_); rintro e wn ⟨rfl, hN, hM⟩); exact hQ1 _ trivial hN); (· exact ⟨_, rfl⟩))
      iterate 3 (apply Zx; (· rfl); (· intro b wb hB Q1 hQ1; have hneq := HN.out; go_wp2_with (simp only [hneq]); exact hQ1 _ trivial hB); (· exact ⟨_, rfl⟩))
      refine Zv ?_
      intro wz hz
      have hle := hz.sm.size
      rcases dq with _ | _ <;> rcases kp with _ | _ <;> rcases kq with _ | _
      ·have hC := hz.reads
       simp only [Zz, Zy] at hC
       have hE := hz.rel (Nat.le_refl _)
       go_wp2_with fail
       refine Gq (v := .bool false) ?_ rfl ⟨by rw [Xh hlt hltj HNE.out (HC.out.trans HR.out)], hE⟩
       simp [results, Tryz.results62, go_sem]
      ·have hC := hz.reads
       simp only [Zz, Zy] at hC
       have hE := hz.rel (Nat.le_refl _)
       go_wp2_with fail
       refine Gq (v := .bool false) ?_ rfl ⟨by rw [Xh hlt hltj HNE.out (HC.out.trans HR.out)], hE⟩
       simp [results, Tryz.results62, go_sem]
      ·have hC := hz.reads
       simp only [Zz, Zy] at hC
       have hE := hz.rel (Nat.le_refl _)
       go_wp2_with fail
       refine Gq (v := .bool false) ?_ rfl ⟨by rw [Xh hlt hltj HNE.out (HC.out.trans HR.out)], hE⟩
       simp [results, Tryz.results62, go_sem]
      ·have hC := hz.reads
       simp only [Zz, Zy] at hC
       have hE := hz.rel (Nat.le_refl _)
       go_wp2_with fail
       refine Gq (v := .bool false) ?_ rfl ⟨by rw [Xh hlt hltj HNE.out (HC.out.trans HR.out)], hE⟩
       simp [results, Tryz.results62, go_sem]
      ·have hC := hz.reads
       simp only [Zz, Zy] at hC
       have hE := hz.rel (Nat.le_refl _)
       go_wp2_with fail
       refine Gq (v := .bool false) ?_ rfl ⟨by rw [Xh hlt hltj HNE.out (HC.out.trans HR.out)], hE⟩
       simp [results, Tryz.results62, go_sem]
      ·have hC := hz.reads
       simp only [Zz, Zy] at hC
       have hE := hz.rel (Nat.le_refl _)
       go_wp2_with fail
       refine Gq (v := .bool false) ?_ rfl ⟨by rw [Xh hlt hltj HNE.out (HC.out.trans HR.out)], hE⟩
       simp [results, Tryz.results62, go_sem]
      ·have hC := hz.reads
       simp only [Zz, Zy] at hC
       have hE := hz.rel (Nat.le_refl _)
       go_wp2_with fail
       refine Gq (v := .bool false) ?_ rfl ⟨by rw [Xh hlt hltj HNE.out (HC.out.trans HR.out)], hE⟩
       simp [results, Tryz.results62, go_sem]
      ·have HZ := Gv hz
       have hC := hz.reads
       simp only [Zz, Zy] at hC
       go_wp2_with fail
       clear hz hC
       go_roundw
       case rel => exact ⟨j + 1, by go_num, by omega, Gv (fun b hb hne => by
         rcases Nat.lt_or_ge b j with h | h
         ·exact HJ.out b h hne
         ·obtain rfl : b = j := by omega
          exact HC.out.trans HR.out), HZ⟩
       case measure => simp [intOf] <;> omega
    ·obtain rfl : j = 4 := by omega
     have hJ : ¬ ((4 : Nat) : Int) < 4 := by omega
     clear hltj
     go_wp2_with fail
     go_roundw
     case rel => exact ⟨i + 1, by go_num, by omega, Gv (fun a b ha hb hne => by
       rcases Nat.lt_or_ge a i with h | h
       ·exact HD.out a b h hb hne
       ·obtain rfl : a = i := by omega
        exact HJ.out b hb hne), HS⟩
     case measure => simp [intOf] <;> omega
  ·obtain rfl : i = 4 := by omega
   have hI : ¬ ((4 : Nat) : Int) < 4 := by omega
   have hE := HS.out.rel (Nat.le_refl _)
   have HY := Gv (Ku HD.out)
   clear hlt HS HD
   go_wp2_with fail
   refine Gq (v := .bool true) ?_ rfl ⟨by rw [HY.out], hE⟩
   simp [results, Tryz.results62, go_sem]
end
section
open Go.RowKit

attribute [local go_sem] Zk Zj
theorem iSign_any (n : Int) (w : World) : Calls Tryz.prog 61 #[.int .i64 n] w fun e w' => e = .returned (.int .i64 (Uw n)) ∧ w' = w := by
 unfold Uw
 by_cases h1 : n < 0
 ·rw [if_pos h1]
  go_enter Tryz.func61, Tryz.ntmps61
  go_wp2
  go_ret
  exact ⟨rfl, rfl⟩
 ·rw [if_neg h1]
  by_cases h2 : 0 < n
  ·rw [if_pos h2]
   go_enter Tryz.func61, Tryz.ntmps61
   go_wp2
   go_ret
   exact ⟨rfl, rfl⟩
  ·rw [if_neg h2]
   go_enter Tryz.func61, Tryz.ntmps61
   go_wp2
   go_ret
   exact ⟨rfl, rfl⟩
theorem iStokesAlike (v u : M4) (w : World) : Calls Tryz.prog 39 #[v.v, u.v] w (fun e w' => e = .returned (.bool (Tr v u)) ∧ Ex w w') := by
 have kv : ∀ w, Calls Tryz.prog 45 #[v.v] w fun e w' => e = .returned (.bool (Uz v)) ∧ Ex w w' := fun w => Ts v.a v.b v.c v.d w
 have ku : ∀ w, Calls Tryz.prog 45 #[u.v] w fun e w' => e = .returned (.bool (Uz u)) ∧ Ex w w' := fun w => Ts u.a u.b u.c u.d w
 have he : Tr v u = (Uz v && Uz u && decide (Uw v.a.re = Uw u.a.re) && Vy v.l u.l) := rfl
 generalize Tr v u = R at he ⊢
 generalize Uz v = va at kv he
 generalize Uz u = vb at ku he
 have ka := fun w => iSign_any v.a.re w
 have kb := fun w => iSign_any u.a.re w
 have kc := fun ga gb w => iCrossed v u ga gb w
 generalize Uw v.a.re = sa at ka he
 generalize Uw u.a.re = sb at kb he
 have hva : #[.int .i64 v.a.re, .int .i64 v.a.im, .int .i64 v.a.den, .int .i64 v.b.re, .int .i64 v.b.im, .int .i64 v.b.den, .int .i64 v.c.re, .int .i64 v.c.im, .int .i64 v.c.den, .int .i64 v.d.re, .int .i64 v.d.im, .int .i64 v.d.den] = Zo v.l := rfl
 have hub : #[.int .i64 u.a.re, .int .i64 u.a.im, .int .i64 u.a.den, .int .i64 u.b.re, .int .i64 u.b.im, .int .i64 u.b.den, .int .i64 u.c.re, .int .i64 u.c.im, .int .i64 u.c.den, .int .i64 u.d.re, .int .i64 u.d.im, .int .i64 u.d.den] = Zo u.l := rfl
 have HA12 := Gv hva
 have HB12 := Gv hub
 clear hva hub
 unfold M4.v at kv ku ⊢
 have KV := Gv kv
 have KU := Gv ku
 have KA := Gv ka
 have KB := Gv kb
 have HE := Gv he
 have KC := Gv kc
 clear kc
 clear kv ku ka kb he
 have hR := Zw.refl w
 go_enter Tryz.func39, Tryz.ntmps39
 go_upto_region 1 with fail
 have hS : Zw w ((w.alloc (.cells #[.int .i64 v.a.re, .int .i64 v.a.im, .int .i64 v.a.den, .int .i64 v.b.re, .int .i64 v.b.im, .int .i64 v.b.den, .int .i64 v.c.re, .int .i64 v.c.im, .int .i64 v.c.den, .int .i64 v.d.re, .int .i64 v.d.im, .int .i64 v.d.den] 35)).alloc (.cells #[.int .i64 u.a.re, .int .i64 u.a.im, .int .i64 u.a.den, .int .i64 u.b.re, .int .i64 u.b.im, .int .i64 u.b.den, .int .i64 u.c.re, .int .i64 u.c.im, .int .i64 u.c.den, .int .i64 u.d.re, .int .i64 u.d.im, .int .i64 u.d.den] 35)) _ := inferInstance
 clear hR
 simp only [Gu] at hS
 generalize (w.alloc (.cells #[.int .i64 v.a.re, .int .i64 v.a.im, .int .i64 v.a.den, .int .i64 v.b.re, .int .i64 v.b.im, .int .i64 v.b.den, .int .i64 v.c.re, .int .i64 v.c.im, .int .i64 v.c.den, .int .i64 v.d.re, .int .i64 v.d.im, .int .i64 v.d.den] 35)).alloc (.cells #[.int .i64 u.a.re, .int .i64 u.a.im, .int .i64 u.a.den, .int .i64 u.b.re, .int .i64 u.b.im, .int .i64 u.b.den, .int .i64 u.c.re, .int .i64 u.c.im, .int .i64 u.c.den, .int .i64 u.d.re, .int .i64 u.d.im, .int .i64 u.d.den] 35) = W0 at *
 rcases va with _ | _
 ·refine Yz (St := fun _ _ => True) false (B := fun _ w2 => Zw w w2 [(w.heap.size + 1, 35, #[.int .i64 u.a.re, .int .i64 u.a.im, .int .i64 u.a.den, .int .i64 u.b.re, .int .i64 u.b.im, .int .i64 u.b.den, .int .i64 u.c.re, .int .i64 u.c.im, .int .i64 u.c.den, .int .i64 u.d.re, .int .i64 u.d.im, .int .i64 u.d.den]), (w.heap.size, 35, #[.int .i64 v.a.re, .int .i64 v.a.im, .int .i64 v.a.den, .int .i64 v.b.re, .int .i64 v.b.im, .int .i64 v.b.den, .int .i64 v.c.re, .int .i64 v.c.im, .int .i64 v.c.den, .int .i64 v.d.re, .int .i64 v.d.im, .int .i64 v.d.den])]) (by kernel_rfl) (by kernel_rfl) (hS.drewW) ?_
  (apply Zx; (· rfl); (· intro b wb hB Q1 hQ1; have hC := hB.reads; simp only [Zz, Zy] at hC; go_wp2_with fail; exact hQ1 _ trivial hB); (· exact ⟨_, rfl⟩))
  (apply Zx; (· rfl); (· intro b wb hB Q1 hQ1; go_wp2_with (go_at_call 45; (with_reducible refine (KV.out _).mono ?_); rintro e wn ⟨rfl, hx⟩); exact hQ1 _ trivial (hB.go hx)); (· exact ⟨_, rfl⟩))
  iterate 2 (apply Zx; (· rfl); (· intro b wb hB Q1 hQ1; go_wp2_with fail; exact hQ1 _ trivial hB); (· exact ⟨_, rfl⟩))
  refine Zu (by rfl) (by simp only [Act.put, Gt, Gs, Gr]; rfl) ?_
  refine Zu (by rfl) (by simp only [Act.put, Gt, Gs, Gr]; rfl) ?_
  refine Zu (by rfl) (by simp only [Act.put, Gt, Gs, Gr]; rfl) ?_
  iterate 2 (apply Zx; (· rfl); (· intro b wb hB Q1 hQ1; go_wp2_with fail; exact hQ1 _ trivial hB); (· exact ⟨_, rfl⟩))
  refine Zu (by rfl) (by simp only [Act.put, Gt, Gs, Gr]; rfl) ?_
  refine Zu (by rfl) (by simp only [Act.put, Gt, Gs, Gr]; rfl) ?_
  refine Zu (by rfl) (by simp only [Act.put, Gt, Gs, Gr]; rfl) ?_
  refine Zu (by rfl) (by simp only [Act.put, Gt, Gs, Gr]; rfl) ?_
  refine Zu (by rfl) (by simp only [Act.put, Gt, Gs, Gr]; rfl) ?_
  refine Zu (by rfl) (by simp only [Act.put, Gt, Gs, Gr]; rfl) ?_
  refine Zu (by rfl) (by simp only [Act.put, Gt, Gs, Gr]; rfl) ?_
  refine Zu (by rfl) (by simp only [Act.put, Gt, Gs, Gr]; rfl) ?_
  refine Zu (by rfl) (by simp only [Act.put, Gt, Gs, Gr]; rfl) ?_
  refine Zu (by rfl) (by simp only [Act.put, Gt, Gs, Gr]; rfl) ?_
  refine Zu (by rfl) (by simp only [Act.put, Gt, Gs, Gr]; rfl) ?_
  (apply Zx; (· rfl); (· intro b wb hB Q1 hQ1; go_wp2_with fail; exact hQ1 _ trivial hB); (· exact ⟨_, rfl⟩))
  refine Zv ?_
  intro wz hz
  clear hS
  have hE := hz.ex
  go_wp2_with fail
  refine Gq (v := .bool false) ?_ rfl ⟨by rw [HE.out]; rfl, hE⟩
  simp [results, Tryz.results39, go_sem]
 ·rcases vb with _ | _
  ·refine Yz (St := fun _ _ => True) false (B := fun _ w2 => Zw w w2 [(w.heap.size + 1, 35, #[.int .i64 u.a.re, .int .i64 u.a.im, .int .i64 u.a.den, .int .i64 u.b.re, .int .i64 u.b.im, .int .i64 u.b.den, .int .i64 u.c.re, .int .i64 u.c.im, .int .i64 u.c.den, .int .i64 u.d.re, .int .i64 u.d.im, .int .i64 u.d.den]), (w.heap.size, 35, #[.int .i64 v.a.re, .int .i64 v.a.im, .int .i64 v.a.den, .int .i64 v.b.re, .int .i64 v.b.im, .int .i64 v.b.den, .int .i64 v.c.re, .int .i64 v.c.im, .int .i64 v.c.den, .int .i64 v.d.re, .int .i64 v.d.im, .int .i64 v.d.den])]) (by kernel_rfl) (by kernel_rfl) (hS.drewW) ?_
   (apply Zx; (· rfl); (· intro b wb hB Q1 hQ1; have hC := hB.reads; simp only [Zz, Zy] at hC; go_wp2_with fail; exact hQ1 _ trivial hB); (· exact ⟨_, rfl⟩))
   (apply Zx; (· rfl); (· intro b wb hB Q1 hQ1; go_wp2_with (go_at_call 45; (with_reducible refine (KV.out _).mono ?_); rintro e wn ⟨rfl, hx⟩); exact hQ1 _ trivial (hB.go hx)); (· exact ⟨_, rfl⟩))
   iterate 3 (apply Zx; (· rfl); (· intro b wb hB Q1 hQ1; have hC := hB.reads; simp only [Zz, Zy] at hC; go_wp2_with fail; exact hQ1 _ trivial hB); (· exact ⟨_, rfl⟩))
   (apply Zx; (· rfl); (· intro b wb hB Q1 hQ1; go_wp2_with (go_at_call 45; (with_reducible refine (KU.out _).mono ?_); rintro e wn ⟨rfl, hx⟩); exact hQ1 _ trivial (hB.go hx)); (· exact ⟨_, rfl⟩))
   iterate 3 (apply Zx; (· rfl); (· intro b wb hB Q1 hQ1; go_wp2_with fail; exact hQ1 _ trivial hB); (· exact ⟨_, rfl⟩))
   refine Zu (by rfl) (by simp only [Act.put, Gt, Gs, Gr]; rfl) ?_
   refine Zu (by rfl) (by simp only [Act.put, Gt, Gs, Gr]; rfl) ?_
   refine Zu (by rfl) (by simp only [Act.put, Gt, Gs, Gr]; rfl) ?_
   refine Zu (by rfl) (by simp only [Act.put, Gt, Gs, Gr]; rfl) ?_
   refine Zu (by rfl) (by simp only [Act.put, Gt, Gs, Gr]; rfl) ?_
   refine Zu (by rfl) (by simp only [Act.put, Gt, Gs, Gr]; rfl) ?_
   refine Zu (by rfl) (by simp only [Act.put, Gt, Gs, Gr]; rfl) ?_
   refine Zu (by rfl) (by simp only [Act.put, Gt, Gs, Gr]; rfl) ?_
   refine Zu (by rfl) (by simp only [Act.put, Gt, Gs, Gr]; rfl) ?_
   refine Zu (by rfl) (by simp only [Act.put, Gt, Gs, Gr]; rfl) ?_
   refine Zu (by rfl) (by simp only [Act.put, Gt, Gs, Gr]; rfl) ?_
   (apply Zx; (· rfl); (· intro b wb hB Q1 hQ1; go_wp2_with fail; exact hQ1 _ trivial hB); (· exact ⟨_, rfl⟩))
   refine Zv ?_
   intro wz hz
   clear hS
   have hE := hz.ex
   go_wp2_with fail
   refine Gq (v := .bool false) ?_ rfl ⟨by rw [HE.out]; simp, hE⟩
   simp [results, Tryz.results39, go_sem]
  ·by_cases hsg : sa = sb
   ·have hb : (sa != sb) = false := by rw [bne_eq_false_iff_eq]; exact hsg
    refine Yz (St := fun _ _ => True) false (B := fun _ w2 => Zw w w2 [(w.heap.size + 1, 35, #[.int .i64 u.a.re, .int .i64 u.a.im, .int .i64 u.a.den, .int .i64 u.b.re, .int .i64 u.b.im, .int .i64 u.b.den, .int .i64 u.c.re, .int .i64 u.c.im, .int .i64 u.c.den, .int .i64 u.d.re, .int .i64 u.d.im, .int .i64 u.d.den]), (w.heap.size, 35, #[.int .i64 v.a.re, .int .i64 v.a.im, .int .i64 v.a.den, .int .i64 v.b.re, .int .i64 v.b.im, .int .i64 v.b.den, .int .i64 v.c.re, .int .i64 v.c.im, .int .i64 v.c.den, .int .i64 v.d.re, .int .i64 v.d.im, .int .i64 v.d.den])]) (by kernel_rfl) (by kernel_rfl) (hS.drewW) ?_
    (apply Zx; (· rfl); (· intro b wb hB Q1 hQ1; have hC := hB.reads; simp only [Zz, Zy] at hC; go_wp2_with fail; exact hQ1 _ trivial hB); (· exact ⟨_, rfl⟩))
    (apply Zx; (· rfl); (· intro b wb hB Q1 hQ1; go_wp2_with (go_at_call 45; (with_reducible refine (KV.out _).mono ?_); rintro e wn ⟨rfl, hx⟩); exact hQ1 _ trivial (hB.go hx)); (· exact ⟨_, rfl⟩))
    iterate 3 (apply Zx; (· rfl); (· intro b wb hB Q1 hQ1; have hC := hB.reads; simp only [Zz, Zy] at hC; go_wp2_with fail; exact hQ1 _ trivial hB); (· exact ⟨_, rfl⟩))
    (apply Zx; (· rfl); (· intro b wb hB Q1 hQ1; go_wp2_with (go_at_call 45; (with_reducible refine (KU.out _).mono ?_); rintro e wn ⟨rfl, hx⟩); exact hQ1 _ trivial (hB.go hx)); (· exact ⟨_, rfl⟩))
    iterate 7 (apply Zx; (· rfl); (· intro b wb hB Q1 hQ1; have hC := hB.reads; simp only [Zz, Zy] at hC; go_wp2_with fail; exact hQ1 _ trivial hB); (· exact ⟨_, rfl⟩))
    (apply Zx; (· rfl); (· intro b wb hB Q1 hQ1; go_wp2_with (go_at_call 61; (with_reducible refine (KA.out _).mono ?_); rintro e wn ⟨rfl, rfl⟩); exact hQ1 _ trivial hB); (· exact ⟨_, rfl⟩))
    iterate 4 (apply Zx; (· rfl); (· intro b wb hB Q1 hQ1; have hC := hB.reads; simp only [Zz, Zy] at hC; go_wp2_with fail; exact hQ1 _ trivial hB); (· exact ⟨_, rfl⟩))
    (apply Zx; (· rfl); (· intro b wb hB Q1 hQ1; go_wp2_with (go_at_call 61; (with_reducible refine (KB.out _).mono ?_); rintro e wn ⟨rfl, rfl⟩); exact hQ1 _ trivial hB); (· exact ⟨_, rfl⟩))
    iterate 2 (apply Zx; (· rfl); (· intro b wb hB Q1 hQ1; go_wp2_with fail; exact hQ1 _ trivial hB); (· exact ⟨_, rfl⟩))
    refine Zv ?_
    intro wz hz
    clear hS
    clear hb
    go_upto_region 3 with fail
    have hS := hz
    clear hz
    refine Yz (St := fun _ _ => True) false (B := fun _ w2 => Zw w w2 [(w.heap.size + 1, 35, #[.int .i64 u.a.re, .int .i64 u.a.im, .int .i64 u.a.den, .int .i64 u.b.re, .int .i64 u.b.im, .int .i64 u.b.den, .int .i64 u.c.re, .int .i64 u.c.im, .int .i64 u.c.den, .int .i64 u.d.re, .int .i64 u.d.im, .int .i64 u.d.den]), (w.heap.size, 35, #[.int .i64 v.a.re, .int .i64 v.a.im, .int .i64 v.a.den, .int .i64 v.b.re, .int .i64 v.b.im, .int .i64 v.b.den, .int .i64 v.c.re, .int .i64 v.c.im, .int .i64 v.c.den, .int .i64 v.d.re, .int .i64 v.d.im, .int .i64 v.d.den])]) (by kernel_rfl) (by kernel_rfl) (hS.drewW) ?_
    iterate 4 (apply Zx; (· rfl); (· intro b wb hB Q1 hQ1; go_wp2_with fail; exact hQ1 _ trivial hB); (· exact ⟨_, rfl⟩))
    (apply Zx; (· rfl); (· intro b wb hB Q1 hQ1; (have hb1 : Box wb w.heap.size 35 (Zo v.l) := by rw [← HA12.out]; exact hB.boxes.2.1); (have hb2 : Box wb (w.heap.size + 1) 35 (Zo u.l) := by rw [← HB12.out]; exact hB.boxes.1); go_wp2_with (go_at_call 62; (with_reducible refine (KC.out _ _ _ hb1 hb2).mono ?_); rintro e wn ⟨rfl, hx⟩); exact hQ1 _ trivial (hB.go hx)); (· exact ⟨_, rfl⟩))
    (apply Zx; (· rfl); (· intro b wb hB Q1 hQ1; go_wp2_with fail; exact hQ1 _ trivial hB); (· exact ⟨_, rfl⟩))
    refine Zv ?_
    intro wy hy
    have hE := hy.ex
    go_wp2_with fail
    refine Gq (v := .bool (Vy v.l u.l)) ?_ rfl ⟨by rw [HE.out]; simp [hsg], hE⟩
    simp [results, Tryz.results39, go_sem]
   ·have hb : (sa != sb) = true := by rw [bne_iff_ne]; exact hsg
    refine Yz (St := fun _ _ => True) false (B := fun _ w2 => Zw w w2 [(w.heap.size + 1, 35, #[.int .i64 u.a.re, .int .i64 u.a.im, .int .i64 u.a.den, .int .i64 u.b.re, .int .i64 u.b.im, .int .i64 u.b.den, .int .i64 u.c.re, .int .i64 u.c.im, .int .i64 u.c.den, .int .i64 u.d.re, .int .i64 u.d.im, .int .i64 u.d.den]), (w.heap.size, 35, #[.int .i64 v.a.re, .int .i64 v.a.im, .int .i64 v.a.den, .int .i64 v.b.re, .int .i64 v.b.im, .int .i64 v.b.den, .int .i64 v.c.re, .int .i64 v.c.im, .int .i64 v.c.den, .int .i64 v.d.re, .int .i64 v.d.im, .int .i64 v.d.den])]) (by kernel_rfl) (by kernel_rfl) (hS.drewW) ?_
    (apply Zx; (· rfl); (· intro b wb hB Q1 hQ1; have hC := hB.reads; simp only [Zz, Zy] at hC; go_wp2_with fail; exact hQ1 _ trivial hB); (· exact ⟨_, rfl⟩))
    (apply Zx; (· rfl); (· intro b wb hB Q1 hQ1; go_wp2_with (go_at_call 45; (with_reducible refine (KV.out _).mono ?_); rintro e wn ⟨rfl, hx⟩); exact hQ1 _ trivial (hB.go hx)); (· exact ⟨_, rfl⟩))
    iterate 3 (apply Zx; (· rfl); (· intro b wb hB Q1 hQ1; have hC := hB.reads; simp only [Zz, Zy] at hC; go_wp2_with fail; exact hQ1 _ trivial hB); (· exact ⟨_, rfl⟩))
    (apply Zx; (· rfl); (· intro b wb hB Q1 hQ1; go_wp2_with (go_at_call 45; (with_reducible refine (KU.out _).mono ?_); rintro e wn ⟨rfl, hx⟩); exact hQ1 _ trivial (hB.go hx)); (· exact ⟨_, rfl⟩))
    iterate 7 (apply Zx; (· rfl); (· intro b wb hB Q1 hQ1; have hC := hB.reads; simp only [Zz, Zy] at hC; go_wp2_with fail; exact hQ1 _ trivial hB); (· exact ⟨_, rfl⟩))
    (apply Zx; (· rfl); (· intro b wb hB Q1 hQ1; go_wp2_with (go_at_call 61; (with_reducible refine (KA.out _).mono ?_); rintro e wn ⟨rfl, rfl⟩); exact hQ1 _ trivial hB); (· exact ⟨_, rfl⟩))
    iterate 4 (apply Zx; (· rfl); (· intro b wb hB Q1 hQ1; have hC := hB.reads; simp only [Zz, Zy] at hC; go_wp2_with fail; exact hQ1 _ trivial hB); (· exact ⟨_, rfl⟩))
    (apply Zx; (· rfl); (· intro b wb hB Q1 hQ1; go_wp2_with (go_at_call 61; (with_reducible refine (KB.out _).mono ?_); rintro e wn ⟨rfl, rfl⟩); exact hQ1 _ trivial hB); (· exact ⟨_, rfl⟩))
    iterate 2 (apply Zx; (· rfl); (· intro b wb hB Q1 hQ1; go_wp2_with fail; exact hQ1 _ trivial hB); (· exact ⟨_, rfl⟩))
    refine Zv ?_
    intro wz hz
    clear hS
    have hE := hz.ex
    go_wp2_with fail
    refine Gq (v := .bool false) ?_ rfl ⟨by rw [HE.out]; simp [hsg], hE⟩
    simp [results, Tryz.results39, go_sem]
end
section
open Go.RowKit

attribute [local go_sem] Zk Zj
theorem sStokesAlike (v u : M4) (w : World) : Calls Tryz.prog 38 #[v.v, u.v] w (fun e w' => e = .returned (.bool (Tr v u)) ∧ Ex w w') := by
 have kv : ∀ w, Calls Tryz.prog 56 #[v.v] w fun e w' => e = .returned (.bool (Uz v)) ∧ Ex w w' := fun w => Ve v.a v.b v.c v.d w
 have ku : ∀ w, Calls Tryz.prog 56 #[u.v] w fun e w' => e = .returned (.bool (Uz u)) ∧ Ex w w' := fun w => Ve u.a u.b u.c u.d w
 have he : Tr v u = (Uz v && Uz u && decide (Uw v.a.re = Uw u.a.re) && Vy v.l u.l) := rfl
 generalize Tr v u = R at he ⊢
 generalize Uz v = va at kv he
 generalize Uz u = vb at ku he
 have ka := fun w => Mj v.a.re w
 have kb := fun w => Mj u.a.re w
 have HVA := Gv (fun k (hk : k < 4) => Rk v.l k (by simp [M4.l]; omega))
 have HUA := Gv (fun k (hk : k < 4) => Rk u.l k (by simp [M4.l]; omega))
 generalize Uw v.a.re = sa at ka he
 generalize Uw u.a.re = sb at kb he
 have hva : #[.int .i64 v.a.re, .int .i64 v.a.im, .int .i64 v.a.den, .int .i64 v.b.re, .int .i64 v.b.im, .int .i64 v.b.den, .int .i64 v.c.re, .int .i64 v.c.im, .int .i64 v.c.den, .int .i64 v.d.re, .int .i64 v.d.im, .int .i64 v.d.den] = Zo v.l := rfl
 have hub : #[.int .i64 u.a.re, .int .i64 u.a.im, .int .i64 u.a.den, .int .i64 u.b.re, .int .i64 u.b.im, .int .i64 u.b.den, .int .i64 u.c.re, .int .i64 u.c.im, .int .i64 u.c.den, .int .i64 u.d.re, .int .i64 u.d.im, .int .i64 u.d.den] = Zo u.l := rfl
 have HA12 := Gv hva
 have HB12 := Gv hub
 clear hva hub
 unfold M4.v at kv ku ⊢
 generalize Zo v.l = vc at *
 generalize Zo u.l = uc at *
 have KV := Gv kv
 have KU := Gv ku
 have KA := Gv ka
 have KB := Gv kb
 have HE := Gv he
 clear kv ku ka kb he
 have hR := Zw.refl w
 go_enter Tryz.func38, Tryz.ntmps38
 go_upto_region 1 with fail
 have hS : Zw w ((w.alloc (.cells #[.int .i64 v.a.re, .int .i64 v.a.im, .int .i64 v.a.den, .int .i64 v.b.re, .int .i64 v.b.im, .int .i64 v.b.den, .int .i64 v.c.re, .int .i64 v.c.im, .int .i64 v.c.den, .int .i64 v.d.re, .int .i64 v.d.im, .int .i64 v.d.den] 35)).alloc (.cells #[.int .i64 u.a.re, .int .i64 u.a.im, .int .i64 u.a.den, .int .i64 u.b.re, .int .i64 u.b.im, .int .i64 u.b.den, .int .i64 u.c.re, .int .i64 u.c.im, .int .i64 u.c.den, .int .i64 u.d.re, .int .i64 u.d.im, .int .i64 u.d.den] 35)) _ := inferInstance
 clear hR
 simp only [Gu] at hS
 generalize (w.alloc (.cells #[.int .i64 v.a.re, .int .i64 v.a.im, .int .i64 v.a.den, .int .i64 v.b.re, .int .i64 v.b.im, .int .i64 v.b.den, .int .i64 v.c.re, .int .i64 v.c.im, .int .i64 v.c.den, .int .i64 v.d.re, .int .i64 v.d.im, .int .i64 v.d.den] 35)).alloc (.cells #[.int .i64 u.a.re, .int .i64 u.a.im, .int .i64 u.a.den, .int .i64 u.b.re, .int .i64 u.b.im, .int .i64 u.b.den, .int .i64 u.c.re, .int .i64 u.c.im, .int .i64 u.c.den, .int .i64 u.d.re, .int .i64 u.d.im, .int .i64 u.d.den] 35) = W0 at *
 rcases va with _ | _
 ·refine Yz (St := fun _ _ => True) false (B := fun _ w2 => Zw w w2 [(w.heap.size + 1, 35, #[.int .i64 u.a.re, .int .i64 u.a.im, .int .i64 u.a.den, .int .i64 u.b.re, .int .i64 u.b.im, .int .i64 u.b.den, .int .i64 u.c.re, .int .i64 u.c.im, .int .i64 u.c.den, .int .i64 u.d.re, .int .i64 u.d.im, .int .i64 u.d.den]), (w.heap.size, 35, #[.int .i64 v.a.re, .int .i64 v.a.im, .int .i64 v.a.den, .int .i64 v.b.re, .int .i64 v.b.im, .int .i64 v.b.den, .int .i64 v.c.re, .int .i64 v.c.im, .int .i64 v.c.den, .int .i64 v.d.re, .int .i64 v.d.im, .int .i64 v.d.den])]) (by kernel_rfl) (by kernel_rfl) (hS.drewW) ?_
  (apply Zx; (· rfl); (· intro b wb hB Q1 hQ1; have hC := hB.reads; simp only [Zz, Zy] at hC; go_wp2_with fail; exact hQ1 _ trivial hB); (· exact ⟨_, rfl⟩))
  (apply Zx; (· rfl); (· intro b wb hB Q1 hQ1; go_wp2_with (go_at_call 56; (with_reducible refine (KV.out _).mono ?_); rintro e wn ⟨rfl, hx⟩); exact hQ1 _ trivial (hB.go hx)); (· exact ⟨_, rfl⟩))
  iterate 2 (apply Zx; (· rfl); (· intro b wb hB Q1 hQ1; go_wp2_with fail; exact hQ1 _ trivial hB); (· exact ⟨_, rfl⟩))
  refine Zu (by rfl) (by simp only [Act.put, Gt, Gs, Gr]; rfl) ?_
  refine Zu (by rfl) (by simp only [Act.put, Gt, Gs, Gr]; rfl) ?_
  refine Zu (by rfl) (by simp only [Act.put, Gt, Gs, Gr]; rfl) ?_
  iterate 2 (apply Zx; (· rfl); (· intro b wb hB Q1 hQ1; go_wp2_with fail; exact hQ1 _ trivial hB); (· exact ⟨_, rfl⟩))
  refine Zu (by rfl) (by simp only [Act.put, Gt, Gs, Gr]; rfl) ?_
  refine Zu (by rfl) (by simp only [Act.put, Gt, Gs, Gr]; rfl) ?_
  refine Zu (by rfl) (by simp only [Act.put, Gt, Gs, Gr]; rfl) ?_
  refine Zu (by rfl) (by simp only [Act.put, Gt, Gs, Gr]; rfl) ?_
  refine Zu (by rfl) (by simp only [Act.put, Gt, Gs, Gr]; rfl) ?_
  refine Zu (by rfl) (by simp only [Act.put, Gt, Gs, Gr]; rfl) ?_
  refine Zu (by rfl) (by simp only [Act.put, Gt, Gs, Gr]; rfl) ?_
  refine Zu (by rfl) (by simp only [Act.put, Gt, Gs, Gr]; rfl) ?_
  refine Zu (by rfl) (by simp only [Act.put, Gt, Gs, Gr]; rfl) ?_
  refine Zu (by rfl) (by simp only [Act.put, Gt, Gs, Gr]; rfl) ?_
  refine Zu (by rfl) (by simp only [Act.put, Gt, Gs, Gr]; rfl) ?_
  (apply Zx; (· rfl); (· intro b wb hB Q1 hQ1; go_wp2_with fail; exact hQ1 _ trivial hB); (· exact ⟨_, rfl⟩))
  refine Zv ?_
  intro wz hz
  clear hS
  have hE := hz.ex
  go_wp2_with fail
  refine Gq (v := .bool false) ?_ rfl ⟨by rw [HE.out]; rfl, hE⟩
  simp [results, Tryz.results38, go_sem]
 ·rcases vb with _ | _
  ·refine Yz (St := fun _ _ => True) false (B := fun _ w2 => Zw w w2 [(w.heap.size + 1, 35, #[.int .i64 u.a.re, .int .i64 u.a.im, .int .i64 u.a.den, .int .i64 u.b.re, .int .i64 u.b.im, .int .i64 u.b.den, .int .i64 u.c.re, .int .i64 u.c.im, .int .i64 u.c.den, .int .i64 u.d.re, .int .i64 u.d.im, .int .i64 u.d.den]), (w.heap.size, 35, #[.int .i64 v.a.re, .int .i64 v.a.im, .int .i64 v.a.den, .int .i64 v.b.re, .int .i64 v.b.im, .int .i64 v.b.den, .int .i64 v.c.re, .int .i64 v.c.im, .int .i64 v.c.den, .int .i64 v.d.re, .int .i64 v.d.im, .int .i64 v.d.den])]) (by kernel_rfl) (by kernel_rfl) (hS.drewW) ?_
   (apply Zx; (· rfl); (· intro b wb hB Q1 hQ1; have hC := hB.reads; simp only [Zz, Zy] at hC; go_wp2_with fail; exact hQ1 _ trivial hB); (· exact ⟨_, rfl⟩))
   (apply Zx; (· rfl); (· intro b wb hB Q1 hQ1; go_wp2_with (go_at_call 56; (with_reducible refine (KV.out _).mono ?_); rintro e wn ⟨rfl, hx⟩); exact hQ1 _ trivial (hB.go hx)); (· exact ⟨_, rfl⟩))
   iterate 3 (apply Zx; (· rfl); (· intro b wb hB Q1 hQ1; have hC := hB.reads; simp only [Zz, Zy] at hC; go_wp2_with fail; exact hQ1 _ trivial hB); (· exact ⟨_, rfl⟩))
   (apply Zx; (· rfl); (· intro b wb hB Q1 hQ1; go_wp2_with (go_at_call 56; (with_reducible refine (KU.out _).mono ?_); rintro e wn ⟨rfl, hx⟩); exact hQ1 _ trivial (hB.go hx)); (· exact ⟨_, rfl⟩))
   iterate 3 (apply Zx; (· rfl); (· intro b wb hB Q1 hQ1; go_wp2_with fail; exact hQ1 _ trivial hB); (· exact ⟨_, rfl⟩))
   refine Zu (by rfl) (by simp only [Act.put, Gt, Gs, Gr]; rfl) ?_
   refine Zu (by rfl) (by simp only [Act.put, Gt, Gs, Gr]; rfl) ?_
   refine Zu (by rfl) (by simp only [Act.put, Gt, Gs, Gr]; rfl) ?_
   refine Zu (by rfl) (by simp only [Act.put, Gt, Gs, Gr]; rfl) ?_
   refine Zu (by rfl) (by simp only [Act.put, Gt, Gs, Gr]; rfl) ?_
   refine Zu (by rfl) (by simp only [Act.put, Gt, Gs, Gr]; rfl) ?_
   refine Zu (by rfl) (by simp only [Act.put, Gt, Gs, Gr]; rfl) ?_
   refine Zu (by rfl) (by simp only [Act.put, Gt, Gs, Gr]; rfl) ?_
   refine Zu (by rfl) (by simp only [Act.put, Gt, Gs, Gr]; rfl) ?_
   refine Zu (by rfl) (by simp only [Act.put, Gt, Gs, Gr]; rfl) ?_
   refine Zu (by rfl) (by simp only [Act.put, Gt, Gs, Gr]; rfl) ?_
   (apply Zx; (· rfl); (· intro b wb hB Q1 hQ1; go_wp2_with fail; exact hQ1 _ trivial hB); (· exact ⟨_, rfl⟩))
   refine Zv ?_
   intro wz hz
   clear hS
   have hE := hz.ex
   go_wp2_with fail
   refine Gq (v := .bool false) ?_ rfl ⟨by rw [HE.out]; simp, hE⟩
   simp [results, Tryz.results38, go_sem]
  ·by_cases hsg : sa = sb
   ·have hb : (sa != sb) = false := by rw [bne_eq_false_iff_eq]; exact hsg
    refine Yz (St := fun _ _ => True) false (B := fun _ w2 => Zw w w2 [(w.heap.size + 1, 35, #[.int .i64 u.a.re, .int .i64 u.a.im, .int .i64 u.a.den, .int .i64 u.b.re, .int .i64 u.b.im, .int .i64 u.b.den, .int .i64 u.c.re, .int .i64 u.c.im, .int .i64 u.c.den, .int .i64 u.d.re, .int .i64 u.d.im, .int .i64 u.d.den]), (w.heap.size, 35, #[.int .i64 v.a.re, .int .i64 v.a.im, .int .i64 v.a.den, .int .i64 v.b.re, .int .i64 v.b.im, .int .i64 v.b.den, .int .i64 v.c.re, .int .i64 v.c.im, .int .i64 v.c.den, .int .i64 v.d.re, .int .i64 v.d.im, .int .i64 v.d.den])]) (by kernel_rfl) (by kernel_rfl) (hS.drewW) ?_
    (apply Zx; (· rfl); (· intro b wb hB Q1 hQ1; have hC := hB.reads; simp only [Zz, Zy] at hC; go_wp2_with fail; exact hQ1 _ trivial hB); (· exact ⟨_, rfl⟩))
    (apply Zx; (· rfl); (· intro b wb hB Q1 hQ1; go_wp2_with (go_at_call 56; (with_reducible refine (KV.out _).mono ?_); rintro e wn ⟨rfl, hx⟩); exact hQ1 _ trivial (hB.go hx)); (· exact ⟨_, rfl⟩))
    iterate 3 (apply Zx; (· rfl); (· intro b wb hB Q1 hQ1; have hC := hB.reads; simp only [Zz, Zy] at hC; go_wp2_with fail; exact hQ1 _ trivial hB); (· exact ⟨_, rfl⟩))
    (apply Zx; (· rfl); (· intro b wb hB Q1 hQ1; go_wp2_with (go_at_call 56; (with_reducible refine (KU.out _).mono ?_); rintro e wn ⟨rfl, hx⟩); exact hQ1 _ trivial (hB.go hx)); (· exact ⟨_, rfl⟩))
    iterate 7 (apply Zx; (· rfl); (· intro b wb hB Q1 hQ1; have hC := hB.reads; simp only [Zz, Zy] at hC; go_wp2_with fail; exact hQ1 _ trivial hB); (· exact ⟨_, rfl⟩))
    (apply Zx; (· rfl); (· intro b wb hB Q1 hQ1; go_wp2_with (go_at_call 59; (with_reducible refine (KA.out _).mono ?_); rintro e wn ⟨rfl, rfl⟩); exact hQ1 _ trivial hB); (· exact ⟨_, rfl⟩))
    iterate 4 (apply Zx; (· rfl); (· intro b wb hB Q1 hQ1; have hC := hB.reads; simp only [Zz, Zy] at hC; go_wp2_with fail; exact hQ1 _ trivial hB); (· exact ⟨_, rfl⟩))
    (apply Zx; (· rfl); (· intro b wb hB Q1 hQ1; go_wp2_with (go_at_call 59; (with_reducible refine (KB.out _).mono ?_); rintro e wn ⟨rfl, rfl⟩); exact hQ1 _ trivial hB); (· exact ⟨_, rfl⟩))
    iterate 2 (apply Zx; (· rfl); (· intro b wb hB Q1 hQ1; go_wp2_with fail; exact hQ1 _ trivial hB); (· exact ⟨_, rfl⟩))
    refine Zv ?_
    intro wz hz
    clear hS
    clear hb
    have hS : Zw w wz [(w.heap.size + 1, 35, uc), (w.heap.size, 35, vc)] := by rw [← HA12.out, ← HB12.out]; exact hz
    have HSG := Gv hsg
    clear hz KV KU KA KB HA12 HB12 hsg
    go_wp2_with fail
    go_loopw [5, 6, 7, 8, 9, 10] (fun m _ _ _ _ _ wr => ∃ i : Nat, m = .int .i64 i ∧ i ≤ 4 ∧ Hid (∀ a b, a < i → b < a → Ux v.l u.l a b = true) ∧ Hid (Zw w wr [(w.heap.size + 1, 35, uc), (w.heap.size, 35, vc)])) (fun m _ _ _ _ _ _ => 5 - (intOf m).toNat)
    case atStart => exact ⟨0, rfl, by omega, Gv (fun a b h _ => absurd h (by omega)), Gv hS⟩
    case round =>
     clear hS
     obtain ⟨i, rfl, hi, HD, HS⟩ := hrel
     by_cases hlt : i < 4
     ·have hI : (i : Int) < 4 := by omega
      have hwi : IntKind.i64.wrap ((i : Int) + 1) = (i : Int) + 1 := Gp _ (by omega)
      go_wp2_with fail
      go_loopw [6, 7, 8, 9, 10] (fun m _ _ _ _ wy => ∃ j : Nat, m = .int .i64 j ∧ j ≤ i ∧ Hid (∀ b, b < j → Ux v.l u.l i b = true) ∧ Hid (Zw w wy [(w.heap.size + 1, 35, uc), (w.heap.size, 35, vc)])) (fun m _ _ _ _ _ => 5 - (intOf m).toNat)
      case atStart => exact ⟨0, rfl, by omega, Gv (fun b h => absurd h (by omega)), HS⟩
      case round =>
       clear HS
       obtain ⟨j, rfl, hj, HJ, HS⟩ := hrel
       by_cases hltj : j < i
       ·have hJ : (j : Int) < (i : Int) := by omega
        have hj4 : (j : Int) < 4 := by omega
        have hwj : IntKind.i64.wrap ((j : Int) + 1) = (j : Int) + 1 := Gp _ (by omega)
        obtain ⟨fx0, fx1, fx2⟩ := HVA.out i (by omega)
        rw [Nat.mul_comm 3 i] at fx0 fx1 fx2
        obtain ⟨fy0, fy1, fy2⟩ := HUA.out j (by omega)
        rw [Nat.mul_comm 3 j] at fy0 fy1 fy2
        obtain ⟨fz0, fz1, fz2⟩ := HVA.out j (by omega)
        rw [Nat.mul_comm 3 j] at fz0 fz1 fz2
        obtain ⟨ft0, ft1, ft2⟩ := HUA.out i (by omega)
        rw [Nat.mul_comm 3 i] at ft0 ft1 ft2
        have HCR : Hid (Ux v.l u.l i j = ((Zs (tg v.l i) (tg u.l j)).2 && (Zs (tg v.l j) (tg u.l i)).2 && decide ((Zs (tg v.l i) (tg u.l j)).1 = (Zs (tg v.l j) (tg u.l i)).1))) := Gv rfl
        obtain ⟨cr, HC⟩ : ∃ cr, Hid (Ux v.l u.l i j = cr) := ⟨_, Gv rfl⟩
        rw [HC.out] at HCR
        generalize tg v.l i = x at fx0 fx1 fx2 HCR
        obtain ⟨x1, x2, x3⟩ := x
        simp only at fx0 fx1 fx2
        generalize tg u.l j = y at fy0 fy1 fy2 HCR
        obtain ⟨y1, y2, y3⟩ := y
        simp only at fy0 fy1 fy2
        generalize tg v.l j = z at fz0 fz1 fz2 HCR
        obtain ⟨z1, z2, z3⟩ := z
        simp only at fz0 fz1 fz2
        generalize tg u.l i = t at ft0 ft1 ft2 HCR
        obtain ⟨t1, t2, t3⟩ := t
        simp only at ft0 ft1 ft2
        rcases hp : Zs ⟨x1, x2, x3⟩ ⟨y1, y2, y3⟩ with ⟨⟨p1, p2, p3⟩, kp⟩
        rcases hq : Zs ⟨z1, z2, z3⟩ ⟨t1, t2, t3⟩ with ⟨⟨q1, q2, q3⟩, kq⟩
        have hcr := HCR.out
        rw [hp, hq] at hcr
        simp only at hcr
        clear HCR
        have hneq := fun w => neqFr p1 p2 p3 q1 q2 q3 w
        generalize decide ((⟨p1, p2, p3⟩ : Fr) = ⟨q1, q2, q3⟩) = dq at hneq hcr
        have HP := Gv hp
        have HQ := Gv hq
        have HR := Gv hcr
        have HN := Gv hneq
        clear hp hq hcr hneq
        have kp1 : ∀ w, Calls Tryz.prog 60 #[.agg #[.int .i64 x1, .int .i64 x2, .int .i64 x3], .agg #[.int .i64 y1, .int .i64 y2, .int .i64 y3]] w _ := fun w => Yu.spell (by have := Xd ⟨x1, x2, x3⟩ ⟨y1, y2, y3⟩ w; rw [HP.out] at this; exact this)
        have kq1 : ∀ w, Calls Tryz.prog 60 #[.agg #[.int .i64 z1, .int .i64 z2, .int .i64 z3], .agg #[.int .i64 t1, .int .i64 t2, .int .i64 t3]] w _ := fun w => Yu.spell (by have := Xd ⟨z1, z2, z3⟩ ⟨t1, t2, t3⟩ w; rw [HQ.out] at this; exact this)
        have KP := Gv kp1
        have KQ := Gv kq1
        clear kp1 kq1
        have hS := HS.out
        clear HS
        go_upto_region 9 with fail
        have hS0 := hS
        refine Zn (St := Ex) (B := fun _ w' => InE _ _ w') 12 1 1 _ 32 (fun _ => 7) (fun _ => 51) (fun _ => #[.int .i64 0, .int .i64 0, .int .i64 0]) (fun _ => #[.int .i64 p1, .int .i64 p2, .int .i64 p3]) false (by kernel_rfl) (by kernel_rfl) (InE.drew (InE.start hS0)) (fun x y h1 h2 _ => by omega) (fun x y _ _ => by decide) (fun _ _ h g cs _ hb => hb.ex h) (fun _ _ cs h => h.alloc _) (fun _ _ h => h.size) ?_
        iterate 8 (apply Zx; (· rfl); (· intro b wb hB Q1 hQ1; have hC := hB.sees.reads; simp only [Zz, Zy] at hC; go_wp2_with fail; exact hQ1 _ (Ex.refl _) hB); (· exact ⟨_, rfl⟩))
        (apply Zx; (· rfl); (· intro b wb hB Q1 hQ1; go_wp2_with (go_at_call 60; (with_reducible refine (KP.out _).mono ?_); rintro e wn ⟨rfl, hx⟩); exact hQ1 _ hx (hB.go hx)); (· exact ⟨_, rfl⟩))
        iterate 3 (apply Zx; (· rfl); (· intro b wb hB Q1 hQ1; go_wp2_with fail; exact hQ1 _ (Ex.refl _) hB); (· exact ⟨_, rfl⟩))
        refine Zv ?_
        refine ⟨fun i hi => ?_, fun i hi => ?_, fun i hi => ?_, fun gg wz hz hbx hne => ?_⟩
        ·obtain rfl : i = 0 := by omega
         all_goals exact ⟨_, rfl, Zc⟩
        ·obtain rfl : i = 0 := by omega
         all_goals exact ⟨_, rfl, Zi Za rfl (by kernel_rfl) (fun _ _ _ hg h => h.setRow hg _)⟩
        ·obtain rfl : i = 0 := by omega
         ·exact (show (7 : Nat) < 76 by decide)
        obtain ⟨hg0, hb0⟩ := hbx 0 (by omega)
        replace hS := InE.join hS0 hz
        replace hS := Zw.put hS hb0
        simp only [frN, Act.put, Gt, Gs, Gr, Nat.reduceAdd, List.drop_succ_cons, List.drop_zero]
        generalize gg 0 = g0 at *
        clear hbx hz hS0 hne
        go_upto_region 10 with fail
        have hS1 := hS
        refine Zn (St := Ex) (B := fun _ w' => InE _ _ w') 12 1 1 _ 32 (fun _ => 9) (fun _ => 63) (fun _ => #[.int .i64 0, .int .i64 0, .int .i64 0]) (fun _ => #[.int .i64 q1, .int .i64 q2, .int .i64 q3]) false (by kernel_rfl) (by kernel_rfl) (InE.drew (InE.start hS1)) (fun x y h1 h2 _ => by omega) (fun x y _ _ => by decide) (fun _ _ h g cs _ hb => hb.ex h) (fun _ _ cs h => h.alloc _) (fun _ _ h => h.size) ?_
        iterate 8 (apply Zx; (· rfl); (· intro b wb hB Q1 hQ1; have hC := hB.sees.reads; simp only [Zz, Zy] at hC; go_wp2_with fail; exact hQ1 _ (Ex.refl _) hB); (· exact ⟨_, rfl⟩))
        (apply Zx; (· rfl); (· intro b wb hB Q1 hQ1; go_wp2_with (go_at_call 60; (with_reducible refine (KQ.out _).mono ?_); rintro e wn ⟨rfl, hx⟩); exact hQ1 _ hx (hB.go hx)); (· exact ⟨_, rfl⟩))
        iterate 3 (apply Zx; (· rfl); (· intro b wb hB Q1 hQ1; go_wp2_with fail; exact hQ1 _ (Ex.refl _) hB); (· exact ⟨_, rfl⟩))
        refine Zv ?_
        refine ⟨fun i hi => ?_, fun i hi => ?_, fun i hi => ?_, fun gg wz hz hbx hne => ?_⟩
        ·obtain rfl : i = 0 := by omega
         all_goals exact ⟨_, rfl, Zc⟩
        ·obtain rfl : i = 0 := by omega
         all_goals exact ⟨_, rfl, Zi Za rfl (by kernel_rfl) (fun _ _ _ hg h => h.setRow hg _)⟩
        ·obtain rfl : i = 0 := by omega
         ·exact (show (9 : Nat) < 76 by decide)
        obtain ⟨hh0, hb9⟩ := hbx 0 (by omega)
        replace hS := InE.join hS1 hz
        replace hS := Zw.put hS hb9
        simp only [frN, Act.put, Gt, Gs, Gr, Nat.reduceAdd, List.drop_succ_cons, List.drop_zero]
        generalize gg 0 = g9 at *
        clear hbx hz hS1 hne
        have hC := hS.reads
        simp only [Zz, Zy] at hC
        have hneq := HN.out
        have hE := hS.ex
        have HS2 := Gv (Zw.tl (Zw.tl hS))
        clear hS
        rcases dq with _ | _ <;> rcases kp with _ | _ <;> rcases kq with _ | _
        ·go_wp2_with (simp only [hneq])
         refine Gq (v := .bool false) ?_ rfl ⟨by rw [HE.out, Xh hlt (by omega) (by omega) (HC.out.trans HR.out)]; simp, hE⟩
         simp [results, Tryz.results38, go_sem]
        ·go_wp2_with (simp only [hneq])
         refine Gq (v := .bool false) ?_ rfl ⟨by rw [HE.out, Xh hlt (by omega) (by omega) (HC.out.trans HR.out)]; simp, hE⟩
         simp [results, Tryz.results38, go_sem]
        ·go_wp2_with (simp only [hneq])
         refine Gq (v := .bool false) ?_ rfl ⟨by rw [HE.out, Xh hlt (by omega) (by omega) (HC.out.trans HR.out)]; simp, hE⟩
         simp [results, Tryz.results38, go_sem]
        ·go_wp2_with (simp only [hneq])
         refine Gq (v := .bool false) ?_ rfl ⟨by rw [HE.out, Xh hlt (by omega) (by omega) (HC.out.trans HR.out)]; simp, hE⟩
         simp [results, Tryz.results38, go_sem]
        ·go_wp2_with (simp only [hneq])
         refine Gq (v := .bool false) ?_ rfl ⟨by rw [HE.out, Xh hlt (by omega) (by omega) (HC.out.trans HR.out)]; simp, hE⟩
         simp [results, Tryz.results38, go_sem]
        ·go_wp2_with (simp only [hneq])
         refine Gq (v := .bool false) ?_ rfl ⟨by rw [HE.out, Xh hlt (by omega) (by omega) (HC.out.trans HR.out)]; simp, hE⟩
         simp [results, Tryz.results38, go_sem]
        ·go_wp2_with (simp only [hneq])
         refine Gq (v := .bool false) ?_ rfl ⟨by rw [HE.out, Xh hlt (by omega) (by omega) (HC.out.trans HR.out)]; simp, hE⟩
         simp [results, Tryz.results38, go_sem]
        ·go_wp2_with (simp only [hneq])
         clear hC hE hneq
         go_roundw
         case rel => exact ⟨j + 1, by go_num, by omega, Gv (fun b hb => by
           rcases Nat.lt_or_ge b j with h | h
           ·exact HJ.out b h
           ·obtain rfl : b = j := by omega
            exact HC.out.trans HR.out), HS2⟩
         case measure => simp [intOf] <;> omega
       ·obtain rfl : j = i := by omega
        have hJ : ¬ (j : Int) < (j : Int) := by omega
        clear hltj
        go_wp2_with fail
        clear hJ
        go_roundw
        case rel => exact ⟨j + 1, by go_num, by omega, Gv (fun a b ha hb => by
          rcases Nat.lt_or_ge a j with h | h
          ·exact HD.out a b h hb
          ·obtain rfl : a = j := by omega
           exact HJ.out b hb), HS⟩
        case measure => simp [intOf] <;> omega
     ·obtain rfl : i = 4 := by omega
      have hI : ¬ ((4 : Nat) : Int) < 4 := by omega
      have hE := HS.out.ex
      have HY : Hid (Vy v.l u.l = true) := Gv (Ku (fun a b ha hb hne => by
       rcases Nat.lt_or_ge b a with h | h
       ·exact HD.out a b ha h
       ·rw [crossL_swap]; exact HD.out b a hb (by omega)))
      clear hlt HS HD
      go_wp2_with fail
      refine Gq (v := .bool true) ?_ rfl ⟨by rw [HE.out, HY.out]; simp [HSG.out], hE⟩
      simp [results, Tryz.results38, go_sem]
   ·have hb : (sa != sb) = true := by rw [bne_iff_ne]; exact hsg
    refine Yz (St := fun _ _ => True) false (B := fun _ w2 => Zw w w2 [(w.heap.size + 1, 35, #[.int .i64 u.a.re, .int .i64 u.a.im, .int .i64 u.a.den, .int .i64 u.b.re, .int .i64 u.b.im, .int .i64 u.b.den, .int .i64 u.c.re, .int .i64 u.c.im, .int .i64 u.c.den, .int .i64 u.d.re, .int .i64 u.d.im, .int .i64 u.d.den]), (w.heap.size, 35, #[.int .i64 v.a.re, .int .i64 v.a.im, .int .i64 v.a.den, .int .i64 v.b.re, .int .i64 v.b.im, .int .i64 v.b.den, .int .i64 v.c.re, .int .i64 v.c.im, .int .i64 v.c.den, .int .i64 v.d.re, .int .i64 v.d.im, .int .i64 v.d.den])]) (by kernel_rfl) (by kernel_rfl) (hS.drewW) ?_
    (apply Zx; (· rfl); (· intro b wb hB Q1 hQ1; have hC := hB.reads; simp only [Zz, Zy] at hC; go_wp2_with fail; exact hQ1 _ trivial hB); (· exact ⟨_, rfl⟩))
    (apply Zx; (· rfl); (· intro b wb hB Q1 hQ1; go_wp2_with (go_at_call 56; (with_reducible refine (KV.out _).mono ?_); rintro e wn ⟨rfl, hx⟩); exact hQ1 _ trivial (hB.go hx)); (· exact ⟨_, rfl⟩))
    iterate 3 (apply Zx; (· rfl); (· intro b wb hB Q1 hQ1; have hC := hB.reads; simp only [Zz, Zy] at hC; go_wp2_with fail; exact hQ1 _ trivial hB); (· exact ⟨_, rfl⟩))
    (apply Zx; (· rfl); (· intro b wb hB Q1 hQ1; go_wp2_with (go_at_call 56; (with_reducible refine (KU.out _).mono ?_); rintro e wn ⟨rfl, hx⟩); exact hQ1 _ trivial (hB.go hx)); (· exact ⟨_, rfl⟩))
    iterate 7 (apply Zx; (· rfl); (· intro b wb hB Q1 hQ1; have hC := hB.reads; simp only [Zz, Zy] at hC; go_wp2_with fail; exact hQ1 _ trivial hB); (· exact ⟨_, rfl⟩))
    (apply Zx; (· rfl); (· intro b wb hB Q1 hQ1; go_wp2_with (go_at_call 59; (with_reducible refine (KA.out _).mono ?_); rintro e wn ⟨rfl, rfl⟩); exact hQ1 _ trivial hB); (· exact ⟨_, rfl⟩))
    iterate 4 (apply Zx; (· rfl); (· intro b wb hB Q1 hQ1; have hC := hB.reads; simp only [Zz, Zy] at hC; go_wp2_with fail; exact hQ1 _ trivial hB); (· exact ⟨_, rfl⟩))
    (apply Zx; (· rfl); (· intro b wb hB Q1 hQ1; go_wp2_with (go_at_call 59; (with_reducible refine (KB.out _).mono ?_); rintro e wn ⟨rfl, rfl⟩); exact hQ1 _ trivial hB); (· exact ⟨_, rfl⟩))
    iterate 2 (apply Zx; (· rfl); (· intro b wb hB Q1 hQ1; go_wp2_with fail; exact hQ1 _ trivial hB); (· exact ⟨_, rfl⟩))
    refine Zv ?_
    intro wz hz
    clear hS
    have hE := hz.ex
    go_wp2_with fail
    refine Gq (v := .bool false) ?_ rfl ⟨by rw [HE.out]; simp [hsg], hE⟩
    simp [results, Tryz.results38, go_sem]
end
end Go.Proofs.YtmmjkchjgeklnaaGreatDoor
