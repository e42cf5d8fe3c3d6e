/-
  Proved: what functions compute, part 18. No condition.
-/
import Derived.Test.YtmmjkchjgeklnaaGreatDoorK17
import Derived.Deep.RegionHeld3
import Derived.Deep.DeepCutAuto
import Derived.LoopN
import Derived.Test.YtmmjkchjgeklnaaGreatDoorK04
set_option linter.unusedSimpArgs false
set_option linter.unusedVariables false
set_option maxRecDepth 20000
set_option maxHeartbeats 8000000
namespace Go.Proofs.YtmmjkchjgeklnaaGreatDoor
section
open Go.RowKit

theorem Sq {u : Nat} (h : u < 10) : Lib.decDigits u = [UInt8.ofNat (48 + u)] := by
 unfold Lib.decDigits
 rw [dif_pos h]
theorem Mu {u : Nat} (h : ¬ u < 10) : Lib.decDigits u = Lib.decDigits (u / 10) ++ [UInt8.ofNat (48 + u % 10)] := by
 conv => lhs; unfold Lib.decDigits
 rw [dif_neg h]
theorem dec_len (m : Nat) (h : m < 9223372036854775808) : (Lib.decDigits m).length ≤ 21 := by
 have := Lib.itoa_length_le (m : Int) (by omega) (by omega)
 rw [Lib.itoa_nonneg] at this
 exact this

theorem run_one {w : World} {b : Nat} {n : Int} {t : TypeId} (h : Box w b t #[.int .u8 n]) (h0 : 0 ≤ n) (h1 : n < 256) : (convert 46 9 (.slice (some ⟨b, 0, none⟩) 1 1)).run Tryz.prog w = .ok (.string (Bs [UInt8.ofNat n.toNat])) w := by
 refine run_convert_bytes_back _ _ _ 5 ⟨b, 0, none⟩ 1 [UInt8.ofNat n.toNat] Tryz.underlying46 Tryz.underlying5 Tryz.underlying9 ?_
 intro j hj
 have hj0 : j = 0 := by simpa using hj
 subst hj0
 have e : ((⟨b, 0, none⟩ : Addr).add 0) = ⟨b, 0, none⟩ := rfl
 rw [e, h.cell 0]
 have e2 : ((UInt8.ofNat n.toNat).toNat : Int) = n := by
  have : (UInt8.ofNat n.toNat).toNat = n.toNat % 256 := UInt8.toNat_ofNat'
  omega
 simp only [List.getElem_cons_zero]
 rw [e2]
 rfl
theorem dec_nat (m : Nat) : m < 9223372036854775808 → ∀ w, Calls Tryz.prog 148 #[.int .i64 m] w fun e w' => e = .returned (.string (Bs (Lib.decDigits m))) ∧ Ex w w' := by
 induction m using Nat.strongRecOn with
 | _ m ih =>
  intro hm w
  by_cases h10 : m < 10
  ·rw [Sq h10]
   have h10i : (m : Int) < 10 := by omega
   have hw1 : IntKind.i64.wrap (48 + (m : Int)) = 48 + (m : Int) := Gp _ (by omega)
   have hcv := run_one (Box.new w #[.int .u8 (48 + (m : Int))] 5) (by omega) (by omega)
   have htn : (48 + (m : Int)).toNat = 48 + m := by omega
   rw [htn] at hcv
   clear htn
   generalize Bs [UInt8.ofNat (48 + m)] = S1 at hcv ⊢
   go_enter Tryz.func148, Tryz.ntmps148
   go_wp2
   go_ret
   exact ⟨rfl, (Ex.refl _).alloc _⟩
  ·rw [Mu h10]
   have h10i : ¬ (m : Int) < 10 := by omega
   have hih := ih (m / 10) (by omega) (by omega)
   have hl1 : (Lib.decDigits (m / 10)).length ≤ 21 := dec_len _ (by omega)
   obtain ⟨q, hq⟩ : ∃ q, q = m / 10 := ⟨_, rfl⟩
   obtain ⟨r, hr⟩ : ∃ r, r = m % 10 := ⟨_, rfl⟩
   have hqm : q ≤ 922337203685477581 := by omega
   have hq2 : (m : Int).tdiv 10 = (q : Int) := by rw [hq]; exact (Int.ofNat_tdiv m 10).symm
   have hr2 : (m : Int).tmod 10 = (r : Int) := by rw [hr]; exact (Int.ofNat_tmod m 10).symm
   have hr3 : r < 10 := by omega
   rw [← hq] at hih hl1 ⊢
   rw [← hr]
   clear hq hr ih
   have hw1 : IntKind.i64.wrap (48 + (r : Int)) = 48 + (r : Int) := Gp _ (by omega)
   have hw2 : IntKind.i64.wrap (q : Int) = (q : Int) := Gp _ (by omega)
   have hw3 : IntKind.u8.wrap (48 + (r : Int)) = 48 + (r : Int) := by
    show (48 + (r : Int)) % 256 = _
    omega
   obtain ⟨hz, hcat⟩ := cat_facts (Lib.decDigits q) [UInt8.ofNat (48 + r)] (by simp; omega)
   have hone : ∀ W b, Box W b 5 #[.int .u8 (48 + (r : Int))] → (convert 46 9 (.slice (some ⟨b, 0, none⟩) 1 1)).run Tryz.prog W = .ok (.string (Bs [UInt8.ofNat (48 + r)])) W := fun W b hb => by
    have h := run_one hb (by omega) (by omega)
    have htn : (48 + (r : Int)).toNat = 48 + r := by omega
    rw [htn] at h
    exact h
   generalize Bs (Lib.decDigits q ++ [UInt8.ofNat (48 + r)]) = S3 at hcat ⊢
   generalize Bs [UInt8.ofNat (48 + r)] = S2 at hcat hz hone
   generalize Bs (Lib.decDigits q) = S1 at hcat hz hih
   have HO := Gv hone
   have HI := Gv hih
   clear hone hih hl1
   go_enter Tryz.func148, Tryz.ntmps148
   go_wp2_with fail
   have hcv0 := HO.out _ _ (Box.new w #[.int .u8 (48 + (r : Int))] 5)
   have hcv1 := HO.out (w.alloc (.cells #[.int .u8 (48 + (r : Int))] 5)).drew _ (Box.drew (Box.new w #[.int .u8 (48 + (r : Int))] 5))
   go_region_law (first
    | (go_simp; go_at_call 148; refine (HI.out w.drew).mono ?_; rintro e w3 ⟨rfl, hx3⟩; have hx4 : Ex w w3 := Ex.trans (Ex.refl _).drew hx3; have hcv2 := HO.out (w3.alloc (.cells #[.int .u8 (48 + (r : Int))] 5)) w3.heap.size (Box.new w3 _ _))
    | (go_simp; go_at_call 148; refine (HI.out (w.alloc (.cells #[.int .u8 (48 + (r : Int))] 5)).drew).mono ?_; rintro e w3 ⟨rfl, hx3⟩; have hx4 : Ex w w3 := Ex.trans ((Ex.refl _).alloc _).drew hx3; have hcv2 := HO.out w3 w.heap.size ((Box.drew (Box.new w _ _)).ex hx3)))
   all_goals
    go_wp2
    go_ret
    exact ⟨rfl, by repeat' (with_reducible first | exact Ex.refl _ | assumption | apply Ex.alloc | apply Ex.drewN | apply Ex.drew | refine Ex.setCell ?_ (by simp <;> omega) _)⟩
theorem dec_neg (m : Nat) (h1 : 1 ≤ m) (h : m < 9223372036854775808) (w : World) : Calls Tryz.prog 148 #[.int .i64 (-(m : Int))] w fun e w' => e = .returned (.string (Bs (45 :: Lib.decDigits m))) ∧ Ex w w' := by
 have hih := dec_nat m h
 have hl1 : (Lib.decDigits m).length ≤ 21 := dec_len _ h
 obtain ⟨hz, hcat⟩ := cat_front 45 (Lib.decDigits m) (by omega)
 generalize Bs (45 :: Lib.decDigits m) = S3 at hcat ⊢
 generalize Bs (Lib.decDigits m) = S1 at hcat hz hih
 clear hl1
 have HI := Gv hih
 clear hih
 have hlo : ¬ (-(m : Int)) < -9223372036854775807 := by omega
 have hlo2 : (-(m : Int)) < 0 := by omega
 have hng : IntKind.i64.wrap (- -(m : Int)) = (m : Int) := by rw [Int.neg_neg]; exact Gp _ (by omega)
 have hng2 : IntKind.i64.wrap (m : Int) = (m : Int) := Gp _ (by omega)
 go_enter Tryz.func148, Tryz.ntmps148
 go_wp2_with fail
 refine (HI.out _).mono ?_
 rintro e w1 ⟨rfl, hx⟩
 go_wp2
 go_ret
 exact ⟨rfl, hx⟩
theorem Sk (n : Int) (h0 : -9223372036854775807 ≤ n) (h1 : n ≤ 9223372036854775807) (w : World) : Calls Tryz.prog 148 #[.int .i64 n] w fun e w' => e = .returned (.string (Bs (Lib.itoa n))) ∧ Ex w w' := by
 by_cases hn : n < 0
 ·obtain ⟨m, rfl⟩ : ∃ m : Nat, n = -(m : Int) := ⟨n.natAbs, by omega⟩
  rw [Lib.itoa_neg m (by omega)]
  exact dec_neg m (by omega) (by omega) w
 ·obtain ⟨m, rfl⟩ : ∃ m : Nat, n = (m : Int) := ⟨n.toNat, by omega⟩
  rw [Lib.itoa_nonneg]
  exact dec_nat m (by omega) w
def GotS (w : World) (r : List UInt8 × Bool) : Ending → World → Prop := fun e w' => e = .returned (.tuple #[.string (Bs r.1), .bool r.2]) ∧ Ex w w'
def txtI (x : Fr) : List UInt8 := sgn x.re ++ sgn x.im ++ [105]
end
section
open Go.RowKit

def Sv (a b c d : Fr) : Value := .agg #[.int .i64 a.re, .int .i64 a.im, .int .i64 a.den, .int .i64 b.re, .int .i64 b.im, .int .i64 b.den, .int .i64 c.re, .int .i64 c.im, .int .i64 c.den, .int .i64 d.re, .int .i64 d.im, .int .i64 d.den]
def rok (x : Fr) : Bool := x.valid && decide (x.im = 0)
def Pf (a b c d : Fr) : Bool := rok a && (rok b && (rok c && rok d))
theorem Rq (x : Fr) (w : World) : Calls Tryz.prog 67 #[x.v] w fun e w' => e = .returned (.bool (rok x)) ∧ Ex w w' := by
 have kv := fun w => Xx x.re x.im x.den w
 have hvv : Zh x.re x.im x.den = x.valid := rfl
 simp only [hvv] at kv
 have hr : rok x = (x.valid && decide (x.im = 0)) := rfl
 rw [hr]
 generalize x.valid = v at kv ⊢
 obtain ⟨a1, a2, a3⟩ := x
 have KV := Gv kv
 clear kv hvv hr
 show Calls _ _ #[.agg #[.int .i64 a1, .int .i64 a2, .int .i64 a3]] _ _
 rcases v with _ | _
 ·go_enter Tryz.func67, Tryz.ntmps67
  go_wp2_with fail
  refine (KV.out _).mono ?_
  rintro e w1 ⟨rfl, hx⟩
  have hE := ((Ex.refl w).alloc _).trans hx
  clear hx
  go_wp2
  go_ret
  exact ⟨rfl, hE⟩
 ·by_cases h : a2 = 0
  ·subst h
   go_enter Tryz.func67, Tryz.ntmps67
   go_wp2_with fail
   refine (KV.out _).mono ?_
   rintro e w1 ⟨rfl, hx⟩
   have bA := (Box.new w #[.int .i64 a1, .int .i64 0, .int .i64 a3] 32).ex hx
   have cA := bA.cell
   have hE := ((Ex.refl w).alloc _).trans hx
   clear hx
   go_wp2
   go_ret
   exact ⟨rfl, hE⟩
  ·have h2 : (a2 == 0) = false := by simpa using h
   go_enter Tryz.func67, Tryz.ntmps67
   go_wp2_with fail
   refine (KV.out _).mono ?_
   rintro e w1 ⟨rfl, hx⟩
   have bA := (Box.new w #[.int .i64 a1, .int .i64 a2, .int .i64 a3] 32).ex hx
   have cA := bA.cell
   have hE := ((Ex.refl w).alloc _).trans hx
   clear hx
   go_wp2
   go_ret
   exact ⟨Xk (by simp [h]), hE⟩

theorem Ts (a b c d : Fr) (w : World) : Calls Tryz.prog 45 #[Sv a b c d] w fun e w' => e = .returned (.bool (Pf a b c d)) ∧ Ex w w' := by
 have ka := fun w => Rq a w
 have kb := fun w => Rq b w
 have kc := fun w => Rq c w
 have kd := fun w => Rq d w
 unfold Pf
 generalize rok a = va at ka ⊢
 generalize rok b = vb at kb ⊢
 generalize rok c = vc at kc ⊢
 generalize rok d = vd at kd ⊢
 obtain ⟨a1, a2, a3⟩ := a
 obtain ⟨b1, b2, b3⟩ := b
 obtain ⟨c1, c2, c3⟩ := c
 obtain ⟨d1, d2, d3⟩ := d
 have Ka : Hid (∀ w, Calls Tryz.prog 67 #[.agg #[.int .i64 a1, .int .i64 a2, .int .i64 a3]] w fun e w' => e = .returned (.bool va) ∧ Ex w w') := ka
 have Kb : Hid (∀ w, Calls Tryz.prog 67 #[.agg #[.int .i64 b1, .int .i64 b2, .int .i64 b3]] w fun e w' => e = .returned (.bool vb) ∧ Ex w w') := kb
 have Kc : Hid (∀ w, Calls Tryz.prog 67 #[.agg #[.int .i64 c1, .int .i64 c2, .int .i64 c3]] w fun e w' => e = .returned (.bool vc) ∧ Ex w w') := kc
 have Kd : Hid (∀ w, Calls Tryz.prog 67 #[.agg #[.int .i64 d1, .int .i64 d2, .int .i64 d3]] w fun e w' => e = .returned (.bool vd) ∧ Ex w w') := kd
 clear ka kb kc kd
 show Calls _ _ #[.agg #[.int .i64 a1, .int .i64 a2, .int .i64 a3, .int .i64 b1, .int .i64 b2, .int .i64 b3, .int .i64 c1, .int .i64 c2, .int .i64 c3, .int .i64 d1, .int .i64 d2, .int .i64 d3]] _ _
 rcases va with _ | _
 ·go_enter Tryz.func45, Tryz.ntmps45
  go_wp2
  have hE := (Ex.refl w).alloc (.cells #[.int .i64 a1, .int .i64 a2, .int .i64 a3, .int .i64 b1, .int .i64 b2, .int .i64 b3, .int .i64 c1, .int .i64 c2, .int .i64 c3, .int .i64 d1, .int .i64 d2, .int .i64 d3] 35)
  have i0 := fun w => index4_0 a1 a2 a3 b1 b2 b3 c1 c2 c3 d1 d2 d3 w
  have i1 := fun w => index4_1 a1 a2 a3 b1 b2 b3 c1 c2 c3 d1 d2 d3 w
  have i2 := fun w => index4_2 a1 a2 a3 b1 b2 b3 c1 c2 c3 d1 d2 d3 w
  have i3 := fun w => index4_3 a1 a2 a3 b1 b2 b3 c1 c2 c3 d1 d2 d3 w
  refine wp_loop_rounds 5 ?_
  rw [rounds_succ]
  go_wp2_with fail
  refine (Ka.out _).mono ?_
  rintro e w1 ⟨rfl, hx⟩
  replace hE := (hE.alloc _).trans hx
  clear hx
  go_wp2_with fail
  go_ret
  exact ⟨rfl, hE⟩
 rcases vb with _ | _
 ·go_enter Tryz.func45, Tryz.ntmps45
  go_wp2
  have hE := (Ex.refl w).alloc (.cells #[.int .i64 a1, .int .i64 a2, .int .i64 a3, .int .i64 b1, .int .i64 b2, .int .i64 b3, .int .i64 c1, .int .i64 c2, .int .i64 c3, .int .i64 d1, .int .i64 d2, .int .i64 d3] 35)
  have i0 := fun w => index4_0 a1 a2 a3 b1 b2 b3 c1 c2 c3 d1 d2 d3 w
  have i1 := fun w => index4_1 a1 a2 a3 b1 b2 b3 c1 c2 c3 d1 d2 d3 w
  have i2 := fun w => index4_2 a1 a2 a3 b1 b2 b3 c1 c2 c3 d1 d2 d3 w
  have i3 := fun w => index4_3 a1 a2 a3 b1 b2 b3 c1 c2 c3 d1 d2 d3 w
  refine wp_loop_rounds 5 ?_
  rw [rounds_succ]
  go_wp2_with fail
  refine (Ka.out _).mono ?_
  rintro e w1 ⟨rfl, hx⟩
  replace hE := (hE.alloc _).trans hx
  clear hx
  go_wp2_with fail
  rw [rounds_succ]
  go_wp2_with fail
  refine (Kb.out _).mono ?_
  rintro e w2 ⟨rfl, hx⟩
  replace hE := (hE.alloc _).trans hx
  clear hx
  go_wp2_with fail
  go_ret
  exact ⟨rfl, hE⟩
 rcases vc with _ | _
 ·go_enter Tryz.func45, Tryz.ntmps45
  go_wp2
  have hE := (Ex.refl w).alloc (.cells #[.int .i64 a1, .int .i64 a2, .int .i64 a3, .int .i64 b1, .int .i64 b2, .int .i64 b3, .int .i64 c1, .int .i64 c2, .int .i64 c3, .int .i64 d1, .int .i64 d2, .int .i64 d3] 35)
  have i0 := fun w => index4_0 a1 a2 a3 b1 b2 b3 c1 c2 c3 d1 d2 d3 w
  have i1 := fun w => index4_1 a1 a2 a3 b1 b2 b3 c1 c2 c3 d1 d2 d3 w
  have i2 := fun w => index4_2 a1 a2 a3 b1 b2 b3 c1 c2 c3 d1 d2 d3 w
  have i3 := fun w => index4_3 a1 a2 a3 b1 b2 b3 c1 c2 c3 d1 d2 d3 w
  refine wp_loop_rounds 5 ?_
  rw [rounds_succ]
  go_wp2_with fail
  refine (Ka.out _).mono ?_
  rintro e w1 ⟨rfl, hx⟩
  replace hE := (hE.alloc _).trans hx
  clear hx
  go_wp2_with fail
  rw [rounds_succ]
  go_wp2_with fail
  refine (Kb.out _).mono ?_
  rintro e w2 ⟨rfl, hx⟩
  replace hE := (hE.alloc _).trans hx
  clear hx
  go_wp2_with fail
  rw [rounds_succ]
  go_wp2_with fail
  refine (Kc.out _).mono ?_
  rintro e w3 ⟨rfl, hx⟩
  replace hE := (hE.alloc _).trans hx
  clear hx
  go_wp2_with fail
  go_ret
  exact ⟨rfl, hE⟩
 rcases vd with _ | _
 ·go_enter Tryz.func45, Tryz.ntmps45
  go_wp2
  have hE := (Ex.refl w).alloc (.cells #[.int .i64 a1, .int .i64 a2, .int .i64 a3, .int .i64 b1, .int .i64 b2, .int .i64 b3, .int .i64 c1, .int .i64 c2, .int .i64 c3, .int .i64 d1, .int .i64 d2, .int .i64 d3] 35)
  have i0 := fun w => index4_0 a1 a2 a3 b1 b2 b3 c1 c2 c3 d1 d2 d3 w
  have i1 := fun w => index4_1 a1 a2 a3 b1 b2 b3 c1 c2 c3 d1 d2 d3 w
  have i2 := fun w => index4_2 a1 a2 a3 b1 b2 b3 c1 c2 c3 d1 d2 d3 w
  have i3 := fun w => index4_3 a1 a2 a3 b1 b2 b3 c1 c2 c3 d1 d2 d3 w
  refine wp_loop_rounds 5 ?_
  rw [rounds_succ]
  go_wp2_with fail
  refine (Ka.out _).mono ?_
  rintro e w1 ⟨rfl, hx⟩
  replace hE := (hE.alloc _).trans hx
  clear hx
  go_wp2_with fail
  rw [rounds_succ]
  go_wp2_with fail
  refine (Kb.out _).mono ?_
  rintro e w2 ⟨rfl, hx⟩
  replace hE := (hE.alloc _).trans hx
  clear hx
  go_wp2_with fail
  rw [rounds_succ]
  go_wp2_with fail
  refine (Kc.out _).mono ?_
  rintro e w3 ⟨rfl, hx⟩
  replace hE := (hE.alloc _).trans hx
  clear hx
  go_wp2_with fail
  rw [rounds_succ]
  go_wp2_with fail
  refine (Kd.out _).mono ?_
  rintro e w4 ⟨rfl, hx⟩
  replace hE := (hE.alloc _).trans hx
  clear hx
  go_wp2_with fail
  go_ret
  exact ⟨rfl, hE⟩
 ·go_enter Tryz.func45, Tryz.ntmps45
  go_wp2
  have hE := (Ex.refl w).alloc (.cells #[.int .i64 a1, .int .i64 a2, .int .i64 a3, .int .i64 b1, .int .i64 b2, .int .i64 b3, .int .i64 c1, .int .i64 c2, .int .i64 c3, .int .i64 d1, .int .i64 d2, .int .i64 d3] 35)
  have i0 := fun w => index4_0 a1 a2 a3 b1 b2 b3 c1 c2 c3 d1 d2 d3 w
  have i1 := fun w => index4_1 a1 a2 a3 b1 b2 b3 c1 c2 c3 d1 d2 d3 w
  have i2 := fun w => index4_2 a1 a2 a3 b1 b2 b3 c1 c2 c3 d1 d2 d3 w
  have i3 := fun w => index4_3 a1 a2 a3 b1 b2 b3 c1 c2 c3 d1 d2 d3 w
  refine wp_loop_rounds 5 ?_
  rw [rounds_succ]
  go_wp2_with fail
  refine (Ka.out _).mono ?_
  rintro e w1 ⟨rfl, hx⟩
  replace hE := (hE.alloc _).trans hx
  clear hx
  go_wp2_with fail
  rw [rounds_succ]
  go_wp2_with fail
  refine (Kb.out _).mono ?_
  rintro e w2 ⟨rfl, hx⟩
  replace hE := (hE.alloc _).trans hx
  clear hx
  go_wp2_with fail
  rw [rounds_succ]
  go_wp2_with fail
  refine (Kc.out _).mono ?_
  rintro e w3 ⟨rfl, hx⟩
  replace hE := (hE.alloc _).trans hx
  clear hx
  go_wp2_with fail
  rw [rounds_succ]
  go_wp2_with fail
  refine (Kd.out _).mono ?_
  rintro e w4 ⟨rfl, hx⟩
  replace hE := (hE.alloc _).trans hx
  clear hx
  go_wp2_with fail
  rw [rounds_succ]
  go_wp2
  go_ret
  exact ⟨rfl, hE⟩
theorem Ve (a b c d : Fr) (w : World) : Calls Tryz.prog 56 #[Sv a b c d] w fun e w' => e = .returned (.bool (Pf a b c d)) ∧ Ex w w' := by
 have ka := fun w => Xw a.re a.im a.den w
 have ra : rok a = (Zh a.re a.im a.den && decide (a.im = 0)) := rfl
 have kb := fun w => Xw b.re b.im b.den w
 have rb : rok b = (Zh b.re b.im b.den && decide (b.im = 0)) := rfl
 have kc := fun w => Xw c.re c.im c.den w
 have rc : rok c = (Zh c.re c.im c.den && decide (c.im = 0)) := rfl
 have kd := fun w => Xw d.re d.im d.den w
 have rd : rok d = (Zh d.re d.im d.den && decide (d.im = 0)) := rfl
 unfold Pf
 rw [ra, rb, rc, rd]
 generalize Zh a.re a.im a.den = va at ka ⊢
 generalize Zh b.re b.im b.den = vb at kb ⊢
 generalize Zh c.re c.im c.den = vc at kc ⊢
 generalize Zh d.re d.im d.den = vd at kd ⊢
 clear ra rb rc rd
 obtain ⟨a1, a2, a3⟩ := a
 obtain ⟨b1, b2, b3⟩ := b
 obtain ⟨c1, c2, c3⟩ := c
 obtain ⟨d1, d2, d3⟩ := d
 have Ka : Hid (∀ w, Calls Tryz.prog 87 #[.agg #[.int .i64 a1, .int .i64 a2, .int .i64 a3]] w fun e w' => e = .returned (.bool va) ∧ Ex w w') := Gv ka
 have Kb : Hid (∀ w, Calls Tryz.prog 87 #[.agg #[.int .i64 b1, .int .i64 b2, .int .i64 b3]] w fun e w' => e = .returned (.bool vb) ∧ Ex w w') := Gv kb
 have Kc : Hid (∀ w, Calls Tryz.prog 87 #[.agg #[.int .i64 c1, .int .i64 c2, .int .i64 c3]] w fun e w' => e = .returned (.bool vc) ∧ Ex w w') := Gv kc
 have Kd : Hid (∀ w, Calls Tryz.prog 87 #[.agg #[.int .i64 d1, .int .i64 d2, .int .i64 d3]] w fun e w' => e = .returned (.bool vd) ∧ Ex w w') := Gv kd
 clear ka kb kc kd
 show Calls _ _ #[.agg #[.int .i64 a1, .int .i64 a2, .int .i64 a3, .int .i64 b1, .int .i64 b2, .int .i64 b3, .int .i64 c1, .int .i64 c2, .int .i64 c3, .int .i64 d1, .int .i64 d2, .int .i64 d3]] _ _
 dsimp only
 rcases va with _ | _
 ·go_enter Tryz.func56, Tryz.ntmps56
  go_wp2
  have bA := Box.new w #[.int .i64 a1, .int .i64 a2, .int .i64 a3, .int .i64 b1, .int .i64 b2, .int .i64 b3, .int .i64 c1, .int .i64 c2, .int .i64 c3, .int .i64 d1, .int .i64 d2, .int .i64 d3] 35
  have hE := (Ex.refl w).alloc (.cells #[.int .i64 a1, .int .i64 a2, .int .i64 a3, .int .i64 b1, .int .i64 b2, .int .i64 b3, .int .i64 c1, .int .i64 c2, .int .i64 c3, .int .i64 d1, .int .i64 d2, .int .i64 d3] 35)
  have cA := bA.cell
  refine wp_loop_rounds 5 ?_
  rw [rounds_succ]
  go_wp2_with fail
  refine (Ka.out _).mono ?_
  rintro e w1 ⟨rfl, hx⟩
  replace hE := hE.trans hx
  replace bA := bA.ex hx
  replace cA := bA.cell
  clear hx
  go_wp2_with fail
  go_ret
  exact ⟨rfl, hE⟩
 ·by_cases ha : a2 = 0
  ·subst ha
   rcases vb with _ | _
   ·go_enter Tryz.func56, Tryz.ntmps56
    go_wp2
    have bA := Box.new w #[.int .i64 a1, .int .i64 0, .int .i64 a3, .int .i64 b1, .int .i64 b2, .int .i64 b3, .int .i64 c1, .int .i64 c2, .int .i64 c3, .int .i64 d1, .int .i64 d2, .int .i64 d3] 35
    have hE := (Ex.refl w).alloc (.cells #[.int .i64 a1, .int .i64 0, .int .i64 a3, .int .i64 b1, .int .i64 b2, .int .i64 b3, .int .i64 c1, .int .i64 c2, .int .i64 c3, .int .i64 d1, .int .i64 d2, .int .i64 d3] 35)
    have cA := bA.cell
    refine wp_loop_rounds 5 ?_
    rw [rounds_succ]
    go_wp2_with fail
    refine (Ka.out _).mono ?_
    rintro e w1 ⟨rfl, hx⟩
    replace hE := hE.trans hx
    replace bA := bA.ex hx
    replace cA := bA.cell
    clear hx
    go_wp2_with fail
    rw [rounds_succ]
    go_wp2_with fail
    refine (Kb.out _).mono ?_
    rintro e w2 ⟨rfl, hx⟩
    replace hE := hE.trans hx
    replace bA := bA.ex hx
    replace cA := bA.cell
    clear hx
    go_wp2_with fail
    go_ret
    exact ⟨rfl, hE⟩
   ·by_cases hb : b2 = 0
    ·subst hb
     rcases vc with _ | _
     ·go_enter Tryz.func56, Tryz.ntmps56
      go_wp2
      have bA := Box.new w #[.int .i64 a1, .int .i64 0, .int .i64 a3, .int .i64 b1, .int .i64 0, .int .i64 b3, .int .i64 c1, .int .i64 c2, .int .i64 c3, .int .i64 d1, .int .i64 d2, .int .i64 d3] 35
      have hE := (Ex.refl w).alloc (.cells #[.int .i64 a1, .int .i64 0, .int .i64 a3, .int .i64 b1, .int .i64 0, .int .i64 b3, .int .i64 c1, .int .i64 c2, .int .i64 c3, .int .i64 d1, .int .i64 d2, .int .i64 d3] 35)
      have cA := bA.cell
      refine wp_loop_rounds 5 ?_
      rw [rounds_succ]
      go_wp2_with fail
      refine (Ka.out _).mono ?_
      rintro e w1 ⟨rfl, hx⟩
      replace hE := hE.trans hx
      replace bA := bA.ex hx
      replace cA := bA.cell
      clear hx
      go_wp2_with fail
      rw [rounds_succ]
      go_wp2_with fail
      refine (Kb.out _).mono ?_
      rintro e w2 ⟨rfl, hx⟩
      replace hE := hE.trans hx
      replace bA := bA.ex hx
      replace cA := bA.cell
      clear hx
      go_wp2_with fail
      rw [rounds_succ]
      go_wp2_with fail
      refine (Kc.out _).mono ?_
      rintro e w3 ⟨rfl, hx⟩
      replace hE := hE.trans hx
      replace bA := bA.ex hx
      replace cA := bA.cell
      clear hx
      go_wp2_with fail
      go_ret
      exact ⟨rfl, hE⟩
     ·by_cases hc : c2 = 0
      ·subst hc
       rcases vd with _ | _
       ·go_enter Tryz.func56, Tryz.ntmps56
        go_wp2
        have bA := Box.new w #[.int .i64 a1, .int .i64 0, .int .i64 a3, .int .i64 b1, .int .i64 0, .int .i64 b3, .int .i64 c1, .int .i64 0, .int .i64 c3, .int .i64 d1, .int .i64 d2, .int .i64 d3] 35
        have hE := (Ex.refl w).alloc (.cells #[.int .i64 a1, .int .i64 0, .int .i64 a3, .int .i64 b1, .int .i64 0, .int .i64 b3, .int .i64 c1, .int .i64 0, .int .i64 c3, .int .i64 d1, .int .i64 d2, .int .i64 d3] 35)
        have cA := bA.cell
        refine wp_loop_rounds 5 ?_
        rw [rounds_succ]
        go_wp2_with fail
        refine (Ka.out _).mono ?_
        rintro e w1 ⟨rfl, hx⟩
        replace hE := hE.trans hx
        replace bA := bA.ex hx
        replace cA := bA.cell
        clear hx
        go_wp2_with fail
        rw [rounds_succ]
        go_wp2_with fail
        refine (Kb.out _).mono ?_
        rintro e w2 ⟨rfl, hx⟩
        replace hE := hE.trans hx
        replace bA := bA.ex hx
        replace cA := bA.cell
        clear hx
        go_wp2_with fail
        rw [rounds_succ]
        go_wp2_with fail
        refine (Kc.out _).mono ?_
        rintro e w3 ⟨rfl, hx⟩
        replace hE := hE.trans hx
        replace bA := bA.ex hx
        replace cA := bA.cell
        clear hx
        go_wp2_with fail
        rw [rounds_succ]
        go_wp2_with fail
        refine (Kd.out _).mono ?_
        rintro e w4 ⟨rfl, hx⟩
        replace hE := hE.trans hx
        replace bA := bA.ex hx
        replace cA := bA.cell
        clear hx
        go_wp2_with fail
        go_ret
        exact ⟨rfl, hE⟩
       ·by_cases hd : d2 = 0
        ·subst hd
         go_enter Tryz.func56, Tryz.ntmps56
         go_wp2
         have bA := Box.new w #[.int .i64 a1, .int .i64 0, .int .i64 a3, .int .i64 b1, .int .i64 0, .int .i64 b3, .int .i64 c1, .int .i64 0, .int .i64 c3, .int .i64 d1, .int .i64 0, .int .i64 d3] 35
         have hE := (Ex.refl w).alloc (.cells #[.int .i64 a1, .int .i64 0, .int .i64 a3, .int .i64 b1, .int .i64 0, .int .i64 b3, .int .i64 c1, .int .i64 0, .int .i64 c3, .int .i64 d1, .int .i64 0, .int .i64 d3] 35)
         have cA := bA.cell
         refine wp_loop_rounds 5 ?_
         rw [rounds_succ]
         go_wp2_with fail
         refine (Ka.out _).mono ?_
         rintro e w1 ⟨rfl, hx⟩
         replace hE := hE.trans hx
         replace bA := bA.ex hx
         replace cA := bA.cell
         clear hx
         go_wp2_with fail
         rw [rounds_succ]
         go_wp2_with fail
         refine (Kb.out _).mono ?_
         rintro e w2 ⟨rfl, hx⟩
         replace hE := hE.trans hx
         replace bA := bA.ex hx
         replace cA := bA.cell
         clear hx
         go_wp2_with fail
         rw [rounds_succ]
         go_wp2_with fail
         refine (Kc.out _).mono ?_
         rintro e w3 ⟨rfl, hx⟩
         replace hE := hE.trans hx
         replace bA := bA.ex hx
         replace cA := bA.cell
         clear hx
         go_wp2_with fail
         rw [rounds_succ]
         go_wp2_with fail
         refine (Kd.out _).mono ?_
         rintro e w4 ⟨rfl, hx⟩
         replace hE := hE.trans hx
         replace bA := bA.ex hx
         replace cA := bA.cell
         clear hx
         go_wp2_with fail
         rw [rounds_succ]
         go_wp2
         go_ret
         exact ⟨rfl, hE⟩
        ·have qd : (d2 == 0) = false := by simpa using hd
         have pd : decide (d2 = 0) = false := by simpa using hd
         rw [pd]
         go_enter Tryz.func56, Tryz.ntmps56
         go_wp2
         have bA := Box.new w #[.int .i64 a1, .int .i64 0, .int .i64 a3, .int .i64 b1, .int .i64 0, .int .i64 b3, .int .i64 c1, .int .i64 0, .int .i64 c3, .int .i64 d1, .int .i64 d2, .int .i64 d3] 35
         have hE := (Ex.refl w).alloc (.cells #[.int .i64 a1, .int .i64 0, .int .i64 a3, .int .i64 b1, .int .i64 0, .int .i64 b3, .int .i64 c1, .int .i64 0, .int .i64 c3, .int .i64 d1, .int .i64 d2, .int .i64 d3] 35)
         have cA := bA.cell
         refine wp_loop_rounds 5 ?_
         rw [rounds_succ]
         go_wp2_with fail
         refine (Ka.out _).mono ?_
         rintro e w1 ⟨rfl, hx⟩
         replace hE := hE.trans hx
         replace bA := bA.ex hx
         replace cA := bA.cell
         clear hx
         go_wp2_with fail
         rw [rounds_succ]
         go_wp2_with fail
         refine (Kb.out _).mono ?_
         rintro e w2 ⟨rfl, hx⟩
         replace hE := hE.trans hx
         replace bA := bA.ex hx
         replace cA := bA.cell
         clear hx
         go_wp2_with fail
         rw [rounds_succ]
         go_wp2_with fail
         refine (Kc.out _).mono ?_
         rintro e w3 ⟨rfl, hx⟩
         replace hE := hE.trans hx
         replace bA := bA.ex hx
         replace cA := bA.cell
         clear hx
         go_wp2_with fail
         rw [rounds_succ]
         go_wp2_with fail
         refine (Kd.out _).mono ?_
         rintro e w4 ⟨rfl, hx⟩
         replace hE := hE.trans hx
         replace bA := bA.ex hx
         replace cA := bA.cell
         clear hx
         go_wp2_with fail
         go_ret
         exact ⟨rfl, hE⟩
      ·have qc : (c2 == 0) = false := by simpa using hc
       have pc : decide (c2 = 0) = false := by simpa using hc
       rw [pc]
       go_enter Tryz.func56, Tryz.ntmps56
       go_wp2
       have bA := Box.new w #[.int .i64 a1, .int .i64 0, .int .i64 a3, .int .i64 b1, .int .i64 0, .int .i64 b3, .int .i64 c1, .int .i64 c2, .int .i64 c3, .int .i64 d1, .int .i64 d2, .int .i64 d3] 35
       have hE := (Ex.refl w).alloc (.cells #[.int .i64 a1, .int .i64 0, .int .i64 a3, .int .i64 b1, .int .i64 0, .int .i64 b3, .int .i64 c1, .int .i64 c2, .int .i64 c3, .int .i64 d1, .int .i64 d2, .int .i64 d3] 35)
       have cA := bA.cell
       refine wp_loop_rounds 5 ?_
       rw [rounds_succ]
       go_wp2_with fail
       refine (Ka.out _).mono ?_
       rintro e w1 ⟨rfl, hx⟩
       replace hE := hE.trans hx
       replace bA := bA.ex hx
       replace cA := bA.cell
       clear hx
       go_wp2_with fail
       rw [rounds_succ]
       go_wp2_with fail
       refine (Kb.out _).mono ?_
       rintro e w2 ⟨rfl, hx⟩
       replace hE := hE.trans hx
       replace bA := bA.ex hx
       replace cA := bA.cell
       clear hx
       go_wp2_with fail
       rw [rounds_succ]
       go_wp2_with fail
       refine (Kc.out _).mono ?_
       rintro e w3 ⟨rfl, hx⟩
       replace hE := hE.trans hx
       replace bA := bA.ex hx
       replace cA := bA.cell
       clear hx
       go_wp2_with fail
       go_ret
       exact ⟨rfl, hE⟩
    ·have qb : (b2 == 0) = false := by simpa using hb
     have pb : decide (b2 = 0) = false := by simpa using hb
     rw [pb]
     go_enter Tryz.func56, Tryz.ntmps56
     go_wp2
     have bA := Box.new w #[.int .i64 a1, .int .i64 0, .int .i64 a3, .int .i64 b1, .int .i64 b2, .int .i64 b3, .int .i64 c1, .int .i64 c2, .int .i64 c3, .int .i64 d1, .int .i64 d2, .int .i64 d3] 35
     have hE := (Ex.refl w).alloc (.cells #[.int .i64 a1, .int .i64 0, .int .i64 a3, .int .i64 b1, .int .i64 b2, .int .i64 b3, .int .i64 c1, .int .i64 c2, .int .i64 c3, .int .i64 d1, .int .i64 d2, .int .i64 d3] 35)
     have cA := bA.cell
     refine wp_loop_rounds 5 ?_
     rw [rounds_succ]
     go_wp2_with fail
     refine (Ka.out _).mono ?_
     rintro e w1 ⟨rfl, hx⟩
     replace hE := hE.trans hx
     replace bA := bA.ex hx
     replace cA := bA.cell
     clear hx
     go_wp2_with fail
     rw [rounds_succ]
     go_wp2_with fail
     refine (Kb.out _).mono ?_
     rintro e w2 ⟨rfl, hx⟩
     replace hE := hE.trans hx
     replace bA := bA.ex hx
     replace cA := bA.cell
     clear hx
     go_wp2_with fail
     go_ret
     exact ⟨rfl, hE⟩
  ·have qa : (a2 == 0) = false := by simpa using ha
   have pa : decide (a2 = 0) = false := by simpa using ha
   rw [pa]
   go_enter Tryz.func56, Tryz.ntmps56
   go_wp2
   have bA := Box.new w #[.int .i64 a1, .int .i64 a2, .int .i64 a3, .int .i64 b1, .int .i64 b2, .int .i64 b3, .int .i64 c1, .int .i64 c2, .int .i64 c3, .int .i64 d1, .int .i64 d2, .int .i64 d3] 35
   have hE := (Ex.refl w).alloc (.cells #[.int .i64 a1, .int .i64 a2, .int .i64 a3, .int .i64 b1, .int .i64 b2, .int .i64 b3, .int .i64 c1, .int .i64 c2, .int .i64 c3, .int .i64 d1, .int .i64 d2, .int .i64 d3] 35)
   have cA := bA.cell
   refine wp_loop_rounds 5 ?_
   rw [rounds_succ]
   go_wp2_with fail
   refine (Ka.out _).mono ?_
   rintro e w1 ⟨rfl, hx⟩
   replace hE := hE.trans hx
   replace bA := bA.ex hx
   replace cA := bA.cell
   clear hx
   go_wp2_with fail
   go_ret
   exact ⟨rfl, hE⟩
end
section
theorem Ob {n : Int} (h : 0 ≤ n) : Lib.itoa n = Lib.decDigits n.natAbs := by
 by_cases h1 : 1 ≤ n
 ·exact itoa_den h1
 ·have : n = 0 := by omega
  subst this
  rfl
theorem itoa_neg {n : Int} (h : n < 0) : Lib.itoa n = 45 :: Lib.decDigits n.natAbs := by
 have := sgn_form n
 unfold sgn sign1 at this
 rw [if_pos h, if_pos h] at this
 exact this
theorem dec_head (u : Nat) : ∀ t, Lib.decDigits u ≠ 45 :: t := by
 intro t h
 have := Lp u 45 (by rw [h]; exact List.mem_cons_self)
 revert this
 decide
theorem Vu {n : Int} (h0 : -100 ≤ n) (h1 : n ≤ 100) : (Lib.itoa n).length ≤ 4 := by
 have h : (Lib.decDigits n.natAbs).length ≤ 3 := dec_short _ 2 (by omega)
 by_cases hn : n < 0
 ·rw [itoa_neg hn]; simp; omega
 ·rw [Ob (by omega)]; omega
theorem itoa_pos (n : Int) : 1 ≤ (Lib.itoa n).length := by
 by_cases hn : n < 0
 ·rw [itoa_neg hn]; simp
 ·rw [Ob (by omega)]
  have : (Lib.decDigits n.natAbs).length ≠ 0 := fun e => dec_ne _ (List.length_eq_zero_iff.1 e)
  omega

def nfold (n : Nat) (c : UInt8) : Nat := 10 * n + (c.toNat - 48)
theorem fold_dec : ∀ u : Nat, (Lib.decDigits u).foldl nfold 0 = u := by
 intro u
 induction u using Nat.strongRecOn with
 | ind u ih =>
  by_cases hu : u < 10
  ·rw [Sq hu]
   show 10 * 0 + ((UInt8.ofNat (48 + u)).toNat - 48) = u
   rw [Um hu]
   omega
  ·rw [Mu hu, List.foldl_append, ih (u / 10) (by omega)]
   show 10 * (u / 10) + ((UInt8.ofNat (48 + u % 10)).toNat - 48) = u
   rw [Um (Nat.mod_lt _ (by omega))]
   omega

def Yl (l : List UInt8) : Option Int := match Lib.atoiAll l with
 | .ok n => if Lib.itoa n = l then some n else none
 | _ => none
theorem Tg {l : List UInt8} {n : Int} (h : Yl l = some n) : Lib.atoiAll l = .ok n ∧ Lib.itoa n = l := by
 unfold Yl at h
 rcases ha : Lib.atoiAll l with m | _ | _
 ·
  rw [ha] at h
  simp only at h
  split at h
  ·injection h with h
   subst h
   exact ⟨rfl, by assumption⟩
  ·cases h
 · rw [ha] at h; cases h
 · rw [ha] at h; cases h
theorem Hp {l : List UInt8} {n : Int} (h : Lib.atoiAll l = .ok n) : Yl l = if Lib.itoa n = l then some n else none := by
 unfold Yl
 rw [h]
theorem numOf_itoa {n : Int} (h0 : -2000000000 ≤ n) (h1 : n ≤ 2000000000) : Yl (Lib.itoa n) = some n := by
 have : Lib.atoiAll (Lib.itoa n) = .ok n := by
  by_cases hn : n < 0
  ·have e : Lib.itoa n = sgn n := by unfold sgn; rw [if_pos hn]
   rw [e]
   exact atoi_sgn h0 h1
  ·by_cases hz : n = 0
   ·subst hz
    rw [Ob (Int.le_refl 0), show (0 : Int).natAbs = 0 from rfl, Sq (by omega)]
    rfl
   ·exact atoi_den (by omega) h1
 rw [Hp this, if_pos rfl]
theorem numOf_nil : Yl [] = none := rfl
def Qc : List UInt8 → List UInt8
 | [] => []
 | c :: t => if c = 45 then t else c :: t
theorem strip_snoc {l : List UInt8} {c : UInt8} (h : l = [] → c ≠ 45) : Qc (l ++ [c]) = Qc l ++ [c] := by
 cases l with
 | nil => simp [Qc, h rfl]
 | cons d t =>
  simp only [List.cons_append, Qc]
  split <;> simp
def numB (k : Nat) (c : UInt8) : Bool := (decide (k = 0) && decide (c = 45)) || Rm c
theorem itoa_bytes {n : Int} {k : Nat} {c : UInt8} {t : List UInt8} {p : List UInt8} (h : Lib.itoa n = p ++ c :: t) (hk : p.length = k) : numB k c = true := by
 unfold numB
 by_cases hn : n < 0
 ·rw [itoa_neg hn] at h
  cases p with
  | nil =>
   simp only [List.nil_append] at h
   injection h with h1 h2
   subst h1
   simp at hk
   subst hk
   simp
  | cons d p =>
   injection h with h1 h2
   rw [Lp n.natAbs c (by rw [h2]; simp)]
   simp
 ·rw [Ob (by omega)] at h
  rw [Lp n.natAbs c (by rw [h]; simp)]
  simp
def sg (l : List UInt8) : Int := if l.head? = some 45 then -1 else 1
theorem strip_itoa {n : Int} : sg (Lib.itoa n) * ((Qc (Lib.itoa n)).foldl nfold 0 : Nat) = n := by
 by_cases hn : n < 0
 ·rw [itoa_neg hn]
  simp only [Qc, sg, List.head?_cons, if_true]
  rw [fold_dec]
  omega
 ·rw [Ob (by omega)]
  have e : Qc (Lib.decDigits n.natAbs) = Lib.decDigits n.natAbs ∧ sg (Lib.decDigits n.natAbs) = 1 := by
   cases hd : Lib.decDigits n.natAbs with
   | nil => exact absurd hd (dec_ne _)
   | cons c t =>
    have hc : c ≠ 45 := fun e => dec_head n.natAbs t (by rw [hd, e])
    simp [Qc, sg, hc]
  rw [e.1, e.2, fold_dec]
  omega
section
variable {α β : Type} {f : α → Option β}
def Xn (f : α → Option β) : List α → Option (List β)
 | [] => some []
 | a :: t => match f a, Xn f t with
  | some b, some r => some (b :: r)
  | _, _ => none
theorem mapO_cons {a : α} {t : List α} {b : β} {r : List β} (h : f a = some b) (k : Xn f t = some r) : Xn f (a :: t) = some (b :: r) := by
 simp [Xn, h, k]
theorem Pe {a : α} {t : List α} {r : List β} (h : Xn f (a :: t) = some r) : ∃ b r', f a = some b ∧ Xn f t = some r' ∧ r = b :: r' := by
 unfold Xn at h
 split at h
 ·rename_i b r' h1 h2
  exact ⟨b, r', h1, h2, by injection h with h; exact h.symm⟩
 ·cases h
theorem Vl {a : α} {b : β} (ha : f a = some b) : ∀ {l : List α} {r : List β}, Xn f l = some r → Xn f (l ++ [a]) = some (r ++ [b])
 | [], r, h => by
  simp only [Xn] at h
  injection h with h
  subst h
  exact mapO_cons ha rfl
 | x :: t, r, h => by
  obtain ⟨y, r', h1, h2, rfl⟩ := Pe h
  exact mapO_cons h1 (Vl ha h2)
theorem Ln {l : List α} : ∀ {r : List β}, Xn f l = some r → ∀ a ∈ l, ∃ b ∈ r, f a = some b := by
 induction l with
 | nil => intro r _ a ha; cases ha
 | cons x t ih =>
  intro r h a ha
  obtain ⟨y, r', h1, h2, rfl⟩ := Pe h
  rcases List.mem_cons.1 ha with rfl | ha
  ·exact ⟨y, by simp, h1⟩
  ·obtain ⟨b, hb, he⟩ := ih h2 a ha
   exact ⟨b, by simp [hb], he⟩
theorem Ry {l : List α} {a : α} (h : f a = none) (ha : a ∈ l) : Xn f l = none := by
 cases hr : Xn f l with
 | none => rfl
 | some r =>
  obtain ⟨b, -, hb⟩ := Ln hr a ha
  rw [h] at hb
  cases hb
theorem Vx : ∀ {l : List α} {r : List β}, Xn f l = some r → r.length = l.length
 | [], r, h => by
  simp only [Xn] at h
  injection h with h
  subst h
  rfl
 | x :: t, r, h => by
  obtain ⟨y, r', h1, h2, rfl⟩ := Pe h
  simp [Vx h2]
theorem Wx {l : List α} {k : Nat} (h : k < l.length) : l.take (k + 1) = l.take k ++ [l[k]] := List.take_succ_eq_append_getElem h
end

def Xq (k : UInt8) (ns : List Int) : Bool :=
 if k = 114 ∨ k = 102 then decide (ns.length = 2) && Xa (ns.getD 0 0) (ns.getD 1 0)
 else if k = 119 then decide (ns.length = 3) && Xa (ns.getD 0 0) (ns.getD 1 0) && Xs (ns.getD 2 0) 0 3
 else if k = 97 ∨ k = 100 then decide (ns.length = 2) && (Xs (ns.getD 1 0) 1 100 && Xs (ns.getD 0 0) 0 (ns.getD 1 0))
 else false
theorem dirOk_out {p q : Int} (h : Xa p q = true) : (-100 ≤ p ∧ p ≤ 100) ∧ (-100 ≤ q ∧ q ≤ 100) ∧ ¬ (p = 0 ∧ q = 0) := by
 unfold Xa at h
 simp only [Bool.and_eq_true, Bool.not_eq_true', Bool.and_eq_false_iff, decide_eq_false_iff_not] at h
 refine ⟨Xz h.1.1, Xz h.1.2, fun e => ?_⟩
 rcases h.2 with h2 | h2
 ·exact h2 e.1
 ·exact h2 e.2
def Zb : List UInt8 → Option (UInt8 × List Int)
 | [] => none
 | k :: t => match Xn Yl (cds t) with
  | some ns => if Xq k ns then some (k, ns) else none
  | none => none
def Xi (l : List UInt8) : Option (List (UInt8 × List Int)) :=
 if l = [] then some [] else match Xn Zb (wds l) with
  | some ps => if ps.length ≤ 12 then some ps else none
  | none => none
theorem Jm {l : List UInt8} {k : UInt8} {ns : List Int} (h : Zb l = some (k, ns)) : ∃ t, l = k :: t ∧ Xn Yl (cds t) = some ns ∧ Xq k ns = true := by
 cases l with
 | nil => cases h
 | cons c t =>
  rw [Zb] at h
  split at h
  ·rename_i ns' hn
   split at h
   ·rename_i hv
    injection h with h
    injection h with h1 h2
    subst h1 h2
    exact ⟨t, rfl, hn, hv⟩
   ·cases h
  ·cases h
theorem Yq {k : UInt8} {t : List UInt8} {ns : List Int} (h : Xn Yl (cds t) = some ns) : Zb (k :: t) = if Xq k ns then some (k, ns) else none := by
 rw [Zb, h]
theorem Tf {k : UInt8} {t : List UInt8} (h : Xn Yl (cds t) = none) : Zb (k :: t) = none := by
 rw [Zb, h]
theorem Pd {k : UInt8} {ns : List Int} (h : Xq k ns = true) :
  (ns.length = 2 ∨ ns.length = 3) ∧ (∀ n ∈ ns, -100 ≤ n ∧ n ≤ 100) ∧
  (((k = 114 ∨ k = 102) ∧ ∃ p q, ns = [p, q] ∧ Xa p q = true) ∨ (k = 119 ∧ ∃ p q m, ns = [p, q, m] ∧ Xa p q = true ∧ Xs m 0 3 = true) ∨
   ((k = 97 ∨ k = 100) ∧ ∃ p q, ns = [p, q] ∧ 1 ≤ q ∧ q ≤ 100 ∧ 0 ≤ p ∧ p ≤ q)) := by
 unfold Xq at h
 split at h
 ·rename_i hk
  simp only [Bool.and_eq_true, decide_eq_true_eq] at h
  obtain ⟨h1, h2⟩ := h
  match ns, h1 with
  | [p, q], _ =>
   simp only [List.getD_cons_zero, List.getD_cons_succ] at h2
   obtain ⟨b1, b2, -⟩ := dirOk_out h2
   exact ⟨.inl rfl, fun n hn => by rcases List.mem_cons.1 hn with rfl | hn; exact b1; rw [List.mem_singleton.1 hn]; exact b2, .inl ⟨hk, p, q, rfl, h2⟩⟩
 ·split at h
  ·rename_i hk
   simp only [Bool.and_eq_true, decide_eq_true_eq] at h
   obtain ⟨⟨h1, h2⟩, h3⟩ := h
   match ns, h1 with
   | [p, q, m], _ =>
    simp only [List.getD_cons_zero, List.getD_cons_succ] at h2 h3
    obtain ⟨b1, b2, -⟩ := dirOk_out h2
    have b3 := Xz h3
    exact ⟨.inr rfl, fun n hn => by
     rcases List.mem_cons.1 hn with rfl | hn
     ·exact b1
     rcases List.mem_cons.1 hn with rfl | hn
     ·exact b2
     ·rw [List.mem_singleton.1 hn]; omega, .inr (.inl ⟨hk, p, q, m, rfl, h2, h3⟩)⟩
  ·split at h
   ·rename_i hk
    simp only [Bool.and_eq_true, decide_eq_true_eq] at h
    obtain ⟨h1, h2, h3⟩ := h
    match ns, h1 with
    | [p, q], _ =>
     simp only [List.getD_cons_zero, List.getD_cons_succ] at h2 h3
     have b2 := Xz h2
     have b3 := Xz h3
     exact ⟨.inl rfl, fun n hn => by
      rcases List.mem_cons.1 hn with rfl | hn
      ·omega
      ·rw [List.mem_singleton.1 hn]; omega, .inr (.inr ⟨hk, p, q, rfl, by omega, by omega, by omega, by omega⟩)⟩
   ·cases h
theorem Sj {k : UInt8} {t x : List UInt8} (hx : x ∈ cds t) (h : ∀ m, Yl x = some m → 4 < x.length) : Zb (k :: t) = none := by
 cases hn : Xn Yl (cds t) with
 | none => exact Tf hn
 | some ns =>
  rw [Yq hn]
  split
  ·rename_i hv
   obtain ⟨-, hb, -⟩ := Pd hv
   obtain ⟨n, hn1, hn2⟩ := Ln hn x hx
   have h1 := h n hn2
   have h2 := Vu (hb n hn1).1 (hb n hn1).2
   rw [(Tg hn2).2] at h2
   omega
  ·rfl
theorem pieceOf_short {l : List UInt8} (h : l.length < 2) : Zb l = none := by
 match l, h with
 | [], _ => rfl
 | [k], _ => exact Tf (Ry (a := []) numOf_nil (by simp [cds]))
def tot (ws : List (List UInt8)) : Nat := (ws.map fun x => x.length + 1).sum
theorem tot_le {m : Nat} : ∀ {ws : List (List UInt8)}, (∀ x ∈ ws, x.length ≤ m) → tot ws ≤ ws.length * (m + 1)
 | [], _ => by simp [tot]
 | x :: ws, h => by
  have h1 := h x (by simp)
  have h2 := tot_le (m := m) (ws := ws) fun y hy => h y (by simp [hy])
  simp only [tot, List.map_cons, List.sum_cons, List.length_cons] at h2 ⊢
  rw [Nat.succ_mul]
  omega
theorem wds_tot : ∀ l : List UInt8, tot (wds l) = l.length + 1
 | [] => by simp [wds, tot]
 | b :: t => by
  have ih := wds_tot t
  by_cases hb : b = 32
  ·subst hb
   rw [Nc]
   simp only [tot, List.map_cons, List.sum_cons, List.length_cons, List.length_nil] at ih ⊢
   omega
  ·rw [Nb hb]
   cases hw : wds t with
   | nil => exact absurd hw (Jx t)
   | cons x r =>
    rw [hw] at ih
    simp only [pre, tot, List.headD_cons, List.tail_cons, List.map_cons, List.sum_cons, List.length_cons, List.length_append, List.length_nil] at ih ⊢
    omega
theorem cds_tot : ∀ l : List UInt8, tot (cds l) = l.length + 1
 | [] => by simp [cds, tot]
 | b :: t => by
  have ih := cds_tot t
  by_cases hb : b = 58
  ·subst hb
   rw [Na]
   simp only [tot, List.map_cons, List.sum_cons, List.length_cons, List.length_nil] at ih ⊢
   omega
  ·rw [Mz hb]
   cases hw : cds t with
   | nil => exact absurd hw (Jv t)
   | cons x r =>
    rw [hw] at ih
    simp only [pre, tot, List.headD_cons, List.tail_cons, List.map_cons, List.sum_cons, List.length_cons, List.length_append, List.length_nil] at ih ⊢
    omega
theorem pieceOf_len {l : List UInt8} {p : UInt8 × List Int} (h : Zb l = some p) : l.length ≤ 15 := by
 obtain ⟨k, ns⟩ := p
 obtain ⟨t, rfl, hn, hv⟩ := Jm h
 obtain ⟨hl, hb, -⟩ := Pd hv
 have h1 : tot (cds t) ≤ (cds t).length * (4 + 1) := tot_le fun x hx => by
  obtain ⟨n, hn1, hn2⟩ := Ln hn x hx
  have h2 := Vu (hb n hn1).1 (hb n hn1).2
  rw [(Tg hn2).2] at h2
  exact h2
 rw [cds_tot] at h1
 have h2 := Vx hn
 have h3 : (cds t).length ≤ 3 := by omega
 have h4 : (cds t).length * (4 + 1) ≤ 3 * (4 + 1) := Nat.mul_le_mul_right _ h3
 simp only [List.length_cons]
 omega
theorem Qz {l : List UInt8} {ps : List (UInt8 × List Int)} (h : Xi l = some ps) (hne : l ≠ []) : Xn Zb (wds l) = some ps ∧ ps.length ≤ 12 := by
 unfold Xi at h
 rw [if_neg hne] at h
 split at h
 ·rename_i qs hq
  split at h
  ·injection h with h
   subst h
   exact ⟨hq, by assumption⟩
  ·cases h
 ·cases h
theorem Ho {l : List UInt8} {ps : List (UInt8 × List Int)} (hne : l ≠ []) (h : Xn Zb (wds l) = some ps) : Xi l = if ps.length ≤ 12 then some ps else none := by
 unfold Xi
 rw [if_neg hne, h]
theorem benchOf_no {l : List UInt8} (hne : l ≠ []) (h : Xn Zb (wds l) = none) : Xi l = none := by
 unfold Xi
 rw [if_neg hne, h]
theorem Jl : Xi [] = some [] := rfl
theorem benchOf_len {l : List UInt8} {ps : List (UInt8 × List Int)} (h : Xi l = some ps) : l.length ≤ 300 := by
 by_cases hne : l = []
 ·subst hne; simp
 ·obtain ⟨h1, h2⟩ := Qz h hne
  have h3 : tot (wds l) ≤ (wds l).length * (15 + 1) := tot_le fun x hx => by
   obtain ⟨p, -, hp⟩ := Ln h1 x hx
   exact pieceOf_len hp
  rw [wds_tot, ← Vx h1] at h3
  have h4 : ps.length * (15 + 1) ≤ 12 * (15 + 1) := Nat.mul_le_mul_right _ h2
  omega
theorem benchOf_many {l : List UInt8} (hne : l ≠ []) (h : 12 < (wds l).length) : Xi l = none := by
 cases hb : Xi l with
 | none => rfl
 | some ps =>
  obtain ⟨h1, h2⟩ := Qz hb hne
  rw [Vx h1] at h2
  omega
theorem Jk {l x : List UInt8} (hne : l ≠ []) (hx : x ∈ wds l) (h : Zb x = none) : Xi l = none := benchOf_no hne (Ry h hx)
end
section
open Go.RowKit

theorem Oz (a1 a2 a3 : Int) (w : World) : Calls Tryz.prog 51 #[.agg #[.int .i64 a1, .int .i64 a2, .int .i64 a3]] w fun e w' => e = .returned (.agg #[.int .i64 a1, .int .i64 a2, .int .i64 a3]) ∧ Ex w w' := by
 go_enter Tryz.func51, Tryz.ntmps51
 go_wp2
 refine Gq (v := .agg #[.int .i64 a1, .int .i64 a2, .int .i64 a3]) ?_ rfl ⟨rfl, ?_⟩
 ·simp [results, Tryz.results51, go_sem]
 ·repeat' (with_reducible first | exact Ex.refl _ | assumption | apply Ex.alloc | apply Ex.drewN | apply Ex.drew | refine Ex.setCell ?_ (by simp <;> omega) _)
theorem Qr (a1 a2 a3 : Int) (w : World) : Calls Tryz.prog 84 #[.agg #[.int .i64 a1, .int .i64 a2, .int .i64 a3], .agg #[.int .i64 a1, .int .i64 a2, .int .i64 a3]] w fun e w' => e = .returned (.bool true) ∧ Ex w w' := by
 go_enter Tryz.func84, Tryz.ntmps84
 go_wp2
 go_ret
 exact ⟨rfl, ((Ex.refl _).alloc _).alloc _⟩
end
section
open Go.RowKit

theorem Own.box {w : World} {lo : Nat} {e : TypeId} {sz : Nat} {A : Option Addr} {n cap : Nat} {cs : List Value} (h : Own w lo e sz (.slice A n cap) n cs) (hn : 0 < n) :
  ∃ g cur, A = some ⟨g, 0, none⟩ ∧ lo ≤ g ∧ Box w g e cur ∧ ∀ k, k < n * sz → cur[k]? = cs[k]? := by
 have h' := h
 rcases h.2 with ⟨hv, _⟩ | ⟨g, cap', cur, hv, hg, hh, hr⟩
 ·injection hv with e1 e2 e3
  omega
 ·injection hv with e1 e2 e3
  subst e1 e3
  refine ⟨g, cur, rfl, hg, hh, fun k hk => ?_⟩
  rw [← Box.cell (show Box w g e cur from hh) k]
  exact World.ownsRow.cellAt h' k hk
def BoxW (w : World) (g : Nat) (ls : List (List UInt8)) : Prop := ∃ cur, Box w g 9 cur ∧ ∀ k (hk : k < ls.length), cur[k]? = some (.string (Bs ls[k]))
def GotB (w : World) (ls : List (List UInt8)) : Ending → World → Prop := fun e w' =>
 ∃ g cap cur, e = .returned (.slice (some ⟨g, 0, none⟩) ls.length cap) ∧ w.heap.size ≤ g ∧ Box w' g 9 cur ∧ Hid (∀ k (hk : k < ls.length), cur[k]? = some (.string (Bs ls[k]))) ∧ Ex w w'
theorem splitBB (l : List UInt8) (hl : l.length ≤ 1048576) (w : World) (hm : Vv w) : Calls Tryz.prog 65 #[.string (Bs l), .string ⟨#[32]⟩] w (GotB w (wds l)) := by
 obtain ⟨m, hm⟩ := hm.max
 refine (Tryz.strings_Split (Bs l) ⟨#[32]⟩ m w (by rw [Wa]; omega) hm (by decide)).mono ?_
 rintro e w' ⟨rfl, rfl⟩
 rw [split_wds _ l rfl]
 refine ⟨w.heap.size, Lib.countB (Bs l) ⟨#[32]⟩ + 1, _, by rw [wds_count], Nat.le_refl _, Box.new w _ 9, Gv fun k hk => ?_, (Ex.refl _).alloc _⟩
 have hk0 := hk
 rw [wds_count] at hk
 simp [Lib.cellsOf, hk]
 exact ⟨_, List.getElem?_eq_getElem hk0, rfl⟩
theorem Io (l : List UInt8) (hl : l.length ≤ 1048576) (w : World) (hm : Vv w) : Calls Tryz.prog 65 #[.string (Bs l), .string ⟨#[58]⟩] w (GotB w (cds l)) := by
 obtain ⟨m, hm⟩ := hm.max
 refine (Tryz.strings_Split (Bs l) ⟨#[58]⟩ m w (by rw [Wa]; omega) hm (by decide)).mono ?_
 rintro e w' ⟨rfl, rfl⟩
 rw [split_cds _ l rfl]
 refine ⟨w.heap.size, Lib.countB (Bs l) ⟨#[58]⟩ + 1, _, by rw [cds_count], Nat.le_refl _, Box.new w _ 9, Gv fun k hk => ?_, (Ex.refl _).alloc _⟩
 have hk0 := hk
 rw [cds_count] at hk
 simp [Lib.cellsOf, hk]
 exact ⟨_, List.getElem?_eq_getElem hk0, rfl⟩
theorem gotO_box {w : World} {ls : List (List UInt8)} (hne : ls ≠ []) {f : FuncId} {args : Array Value} (h : Calls Tryz.prog f args w (GotO w ls)) : Calls Tryz.prog f args w (GotB w ls) := by
 refine h.mono ?_
 rintro e w' ⟨A, cap, rfl, ho, hx⟩
 have hp : 0 < ls.length := List.length_pos_iff.2 hne
 obtain ⟨g, cur, rfl, hg, hb, hc⟩ := Own.box ho hp
 refine ⟨g, cap, cur, rfl, hg, hb, Gv fun k hk => ?_, hx⟩
 rw [hc k (by omega)]
 simp [Sh, hk]
theorem cutBB (l : List UInt8) (hl : l.length ≤ 1048576) (w : World) : Calls Tryz.prog 85 #[.string (Bs l), .int .u8 32] w (GotB w (wds l)) := gotO_box (Jx l) (l7Cut_own l hl w)
theorem cutCB (l : List UInt8) (hl : l.length ≤ 1048576) (w : World) : Calls Tryz.prog 85 #[.string (Bs l), .int .u8 58] w (GotB w (cds l)) := gotO_box (Jv l) (l7CutC_own l hl w)
structure Pc where
 k : UInt8
 g : Nat
 cap : Nat
 cur : Array Value
 ns : List Int
 S : ByteArray
def Pc.ok (w : World) (q : Pc) : Prop := Box w q.g 3 q.cur ∧ ∀ j, j < q.ns.length → q.cur[j]? = some (.int .i64 (q.ns.getD j 0))
def Pc.p (q : Pc) : UInt8 × List Int := (q.k, q.ns)
def Pc.ci (q : Pc) : List Value := [.int .u8 q.k.toNat, .slice (some ⟨q.g, 0, none⟩) q.ns.length q.cap, .string q.S]
def Pc.cs (q : Pc) : List Value := [.int .u8 q.k.toNat, .slice (some ⟨q.g, 0, none⟩) q.ns.length q.cap]
theorem Pc.ok.ex {w w' : World} {q : Pc} (h : q.ok w) (he : Ex w w') : q.ok w' := ⟨h.1.ex he, h.2⟩
def Pcs (w : World) (qs : List Pc) : Prop := ∀ q ∈ qs, q.ok w
theorem Pcs.ex {w w' : World} {qs : List Pc} (h : Pcs w qs) (he : Ex w w') : Pcs w' qs := fun q hq => (h q hq).ex he
theorem Pcs.keeps {w w' : World} {qs : List Pc} {lo : Nat} {e : TypeId} (h : Pcs w qs) (hk : Rx lo e w w') (hne : e ≠ 3) : Pcs w' qs := fun q hq => ⟨hk.box _ _ _ (h q hq).1 hne, (h q hq).2⟩
theorem Pcs.snoc {w : World} {qs : List Pc} {q : Pc} (h : Pcs w qs) (hq : q.ok w) : Pcs w (qs ++ [q]) := fun x hx => by
 rcases List.mem_append.1 hx with hx | hx
 ·exact h x hx
 ·rw [List.mem_singleton.1 hx]; exact hq
theorem Pcs.nil (w : World) : Pcs w [] := fun q hq => by cases hq
def Wc (qs : List Pc) : List Value := qs.flatMap Pc.ci
def Vk (qs : List Pc) : List Value := qs.flatMap Pc.cs
theorem cellsI_snoc (qs : List Pc) (q : Pc) : Wc (qs ++ [q]) = Wc qs ++ q.ci := by simp [Wc]
theorem cellsS_snoc (qs : List Pc) (q : Pc) : Vk (qs ++ [q]) = Vk qs ++ q.cs := by simp [Vk]
theorem Ov (qs : List Pc) : (Wc qs).length = 3 * qs.length := by
 induction qs with
 | nil => rfl
 | cons q t ih => simp only [Wc, List.flatMap_cons, List.length_append, Pc.ci, List.length_cons, List.length_nil] at ih ⊢; omega
theorem Mi (qs : List Pc) : (Vk qs).length = 2 * qs.length := by
 induction qs with
 | nil => rfl
 | cons q t ih => simp only [Vk, List.flatMap_cons, List.length_append, Pc.cs, List.length_cons, List.length_nil] at ih ⊢; omega
theorem cellsI_at : ∀ (qs : List Pc) (k : Nat) (hk : k < qs.length), (Wc qs)[3 * k]? = some (.int .u8 qs[k].k.toNat) ∧ (Wc qs)[3 * k + 1]? = some (.slice (some ⟨qs[k].g, 0, none⟩) qs[k].ns.length qs[k].cap) ∧ (Wc qs)[3 * k + 2]? = some (.string qs[k].S)
 | [], k, hk => by simp at hk
 | q :: t, 0, hk => by simp [Wc, Pc.ci]
 | q :: t, k + 1, hk => by
  have ih := cellsI_at t k (by simpa using hk)
  rw [show 3 * (k + 1) = 3 * k + 3 by omega, show 3 * k + 3 + 1 = 3 * k + 1 + 3 by omega, show 3 * k + 3 + 2 = 3 * k + 2 + 3 by omega]
  simpa [Wc, Pc.ci] using ih
theorem cellsS_at : ∀ (qs : List Pc) (k : Nat) (hk : k < qs.length), (Vk qs)[2 * k]? = some (.int .u8 qs[k].k.toNat) ∧ (Vk qs)[2 * k + 1]? = some (.slice (some ⟨qs[k].g, 0, none⟩) qs[k].ns.length qs[k].cap)
 | [], k, hk => by simp at hk
 | q :: t, 0, hk => by simp [Vk, Pc.cs]
 | q :: t, k + 1, hk => by
  have ih := cellsS_at t k (by simpa using hk)
  rw [show 2 * (k + 1) = 2 * k + 2 by omega, show 2 * k + 2 + 1 = 2 * k + 1 + 2 by omega]
  simpa [Vk, Pc.cs] using ih
def Jt (w : World) (l : List UInt8) : Ending → World → Prop := fun e w' =>
 (∃ q : Pc, Zb l = some q.p ∧ e = .returned (.tuple #[.agg q.ci.toArray, .bool true]) ∧ q.ok w' ∧ Ex w w') ∨
 (∃ (k : Int) (A : Option Addr) (n cap : Nat) (S : ByteArray), Zb l = none ∧ e = .returned (.tuple #[.agg #[.int .u8 k, .slice A n cap, .string S], .bool false]) ∧ Ex w w')
def Mh (w : World) (l : List UInt8) : Ending → World → Prop := fun e w' =>
 (∃ q : Pc, Zb l = some q.p ∧ e = .returned (.tuple #[.agg q.cs.toArray, .bool true]) ∧ q.ok w' ∧ Ex w w') ∨
 (∃ (k : Int) (A : Option Addr) (n cap : Nat), Zb l = none ∧ e = .returned (.tuple #[.agg #[.int .u8 k, .slice A n cap], .bool false]) ∧ Ex w w')
def BnGot (cells : List Pc → List Value) (w : World) (l : List UInt8) : Ending → World → Prop := fun e w' =>
 (∃ (qs : List Pc) (A : Option Addr) (cap : Nat), Xi l = some (qs.map Pc.p) ∧ e = .returned (.tuple #[.slice A qs.length cap, .bool true]) ∧ Slc w' A (cells qs) ∧ Pcs w' qs ∧ Ex w w') ∨
 (∃ (A : Option Addr) (n cap : Nat), Xi l = none ∧ e = .returned (.tuple #[.slice A n cap, .bool false]) ∧ Ex w w')
end
end Go.Proofs.YtmmjkchjgeklnaaGreatDoor
