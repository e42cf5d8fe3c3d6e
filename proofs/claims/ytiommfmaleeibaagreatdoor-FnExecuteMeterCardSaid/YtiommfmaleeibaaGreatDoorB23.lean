/-
  Proved: what functions compute, part 23. No condition.
-/
import Derived.Test.YtiommfmaleeibaaGreatDoorB07
import Derived.Deep.RegionHeld3
import Derived.Deep.DeepCutAuto
import Derived.LoopN
import Derived.Test.YtiommfmaleeibaaGreatDoorB05
import Derived.Test.YtiommfmaleeibaaGreatDoorB14
import Derived.Test.YtiommfmaleeibaaGreatDoorB12
set_option linter.unusedSimpArgs false
set_option linter.unusedVariables false
set_option maxRecDepth 20000
set_option maxHeartbeats 8000000
namespace Go.Proofs.YtiommfmaleeibaaGreatDoor
section
open Go.RowKit

theorem Um {u : Nat} (h : u < 10) : Lib.decDigits u = [UInt8.ofNat (48 + u)] := by
 unfold Lib.decDigits
 rw [dif_pos h]
theorem Qi {u : Nat} (h : ¬ u < 10) : Lib.decDigits u = Lib.decDigits (u / 10) ++ [UInt8.ofNat (48 + u % 10)] := by
 conv => lhs; unfold Lib.decDigits
 rw [dif_neg h]
theorem dec_len (m : Nat) (h : m < 9223372036854775808) : (Lib.decDigits m).length ≤ 21 := by
 have := Lib.itoa_length_le (m : Int) (by omega) (by omega)
 rw [Lib.itoa_nonneg] at this
 exact this

theorem run_one {w : World} {b : Nat} {n : Int} {t : TypeId} (h : Box w b t #[.int .u8 n]) (h0 : 0 ≤ n) (h1 : n < 256) : (convert 22 9 (.slice (some ⟨b, 0, none⟩) 1 1)).run Tryz.prog w = .ok (.string (Bs [UInt8.ofNat n.toNat])) w := by
 refine run_convert_bytes_back _ _ _ 5 ⟨b, 0, none⟩ 1 [UInt8.ofNat n.toNat] Tryz.underlying22 Tryz.underlying5 Tryz.underlying9 ?_
 intro j hj
 have hj0 : j = 0 := by simpa using hj
 subst hj0
 have e : ((⟨b, 0, none⟩ : Addr).add 0) = ⟨b, 0, none⟩ := rfl
 rw [e, h.cell 0]
 have e2 : ((UInt8.ofNat n.toNat).toNat : Int) = n := by
  have : (UInt8.ofNat n.toNat).toNat = n.toNat % 256 := UInt8.toNat_ofNat'
  omega
 simp only [List.getElem_cons_zero]
 rw [e2]
 rfl
theorem Lm (n : Int) (h0 : -9223372036854775807 ≤ n) (h1 : n ≤ 9223372036854775807) (w : World) (ht : Tab w) : Calls Tryz.prog 60 #[.int .i64 n] w fun e w' => e = .returned (.string (Bs (sgn n))) ∧ Ex w w' := by
 have hk := fun w ht => Pr n (by omega) (by omega) w ht
 have hl := Vk n (by omega) (by omega)
 obtain ⟨hz, hcat⟩ := Ot 43 (Lib.itoa n) (by omega)
 by_cases hn : n < 0
 ·have e : sgn n = Lib.itoa n := if_pos hn
  rw [e]
  clear e hz hcat hl
  generalize Bs (Lib.itoa n) = S1 at hk ⊢
  have HK := Kw hk
  have HT := Kw ht
  clear hk ht
  go_enter Tryz.func60, Tryz.ntmps60
  go_wp2_with fail
  refine (HK.out _ HT.out).mono ?_
  rintro e w1 ⟨rfl, hx⟩
  go_wp2
  go_ret
  exact ⟨rfl, hx⟩
 ·have e : sgn n = 43 :: Lib.itoa n := if_neg hn
  rw [e]
  clear e hl
  generalize Bs (43 :: Lib.itoa n) = S2 at hcat ⊢
  generalize Bs (Lib.itoa n) = S1 at hk hz hcat
  have HK := Kw hk
  have HT := Kw ht
  clear hk ht
  go_enter Tryz.func60, Tryz.ntmps60
  go_wp2_with fail
  refine (HK.out _ HT.out).mono ?_
  rintro e w1 ⟨rfl, hx⟩
  go_wp2
  go_ret
  exact ⟨rfl, hx⟩
def GotS (w : World) (r : List UInt8 × Bool) : Ending → World → Prop := fun e w' => e = .returned (.tuple #[.string (Bs r.1), .bool r.2]) ∧ Ex w w'
def Mv (x : Fr) : List UInt8 := sgn x.re ++ sgn x.im ++ [105]
theorem txt_one {x : Fr} (h : x.den = 1) : txt x = Mv x := by simp [txt, Mv, h]
theorem txt_more {x : Fr} (h : ¬ x.den = 1) : txt x = Mv x ++ 47 :: Lib.itoa x.den := by simp [txt, Mv, h]
theorem Ny {x : Fr} (h : x.valid = true) : (sgn x.re).length ≤ 22 ∧ (sgn x.im).length ≤ 22 ∧ (Lib.itoa x.den).length ≤ 21 ∧ (Mv x).length ≤ 45 ∧ (txt x).length ≤ 67 := by
 obtain ⟨p1, p2, p3, -⟩ := Fr.valid_out h
 have l1 := sgn_len x.re (by omega) (by omega)
 have l2 := sgn_len x.im (by omega) (by omega)
 have l3 := Vk x.den (by omega) (by omega)
 have l4 : (Mv x).length ≤ 45 := by simp [Mv]; omega
 refine ⟨l1, l2, l3, l4, ?_⟩
 by_cases h1 : x.den = 1
 ·rw [txt_one h1]; omega
 ·rw [txt_more h1]; simp; omega

theorem Nx (x : Fr) (w : World) (ht : Tab w) : Calls Tryz.prog 18 #[x.v] w (GotS w (Tx x)) := by
 have kv := fun w => Yk x.re x.im x.den w
 have hvv : Zg x.re x.im x.den = x.valid := rfl
 simp only [hvv] at kv
 rcases hv : x.valid with _ | _
 ·have e : Tx x = ([], false) := by simp [Tx, hv]
  rw [e]
  rw [hv] at kv
  clear e hv hvv
  obtain ⟨a1, a2, a3⟩ := x
  show Calls _ _ #[.agg #[.int .i64 a1, .int .i64 a2, .int .i64 a3]] _ _
  have KV := Kw kv
  clear kv
  go_enter Tryz.func18, Tryz.ntmps18
  go_wp2_with fail
  refine (KV.out _).mono ?_
  rintro e w1 ⟨rfl, hx⟩
  go_wp2
  refine Kr (v := .tuple #[.string ⟨#[]⟩, .bool false]) ?_ rfl ⟨rfl, ?_⟩
  ·simp [results, Tryz.results18, go_sem]
  ·exact ((Ex.refl _).alloc _).trans hx
 ·have e : Tx x = (txt x, true) := by simp [Tx, hv]
  rw [e]
  rw [hv] at kv
  obtain ⟨p1, p2, p3, -⟩ := Fr.valid_out hv
  obtain ⟨l1, l2, l3, l4, l5⟩ := Ny hv
  have k1 := fun w ht => Lm x.re (by omega) (by omega) w ht
  have k2 := fun w ht => Lm x.im (by omega) (by omega) w ht
  have k3 := fun w ht => Pr x.den (by omega) (by omega) w ht
  obtain ⟨z1, t1⟩ := Ou (sgn x.re) (sgn x.im) (by omega)
  obtain ⟨z2, t2⟩ := cat_back (sgn x.re ++ sgn x.im) 105 (by simp; omega)
  obtain ⟨z3, t3⟩ := Ot 47 (Lib.itoa x.den) (by omega)
  obtain ⟨z4, t4⟩ := Ou (Mv x) (47 :: Lib.itoa x.den) (by simp; omega)
  have e2 : sgn x.re ++ sgn x.im ++ [105] = Mv x := rfl
  rw [e2] at t2
  have HT := Kw ht
  have HD : Hid (if x.den = 1 then txt x = Mv x else txt x = Mv x ++ 47 :: Lib.itoa x.den) := Kw (by split; exact txt_one ‹_›; exact txt_more ‹_›)
  clear e hv hvv l1 l2 l3 l4 l5 e2 ht p1 p2
  obtain ⟨a1, a2, a3⟩ := x
  simp only at k1 k2 k3 z1 t1 z2 t2 z3 t3 z4 t4 kv HD p3
  show Calls _ _ #[.agg #[.int .i64 a1, .int .i64 a2, .int .i64 a3]] _ _
  generalize txt ⟨a1, a2, a3⟩ = T at HD ⊢
  generalize Mv ⟨a1, a2, a3⟩ = TI at HD t2 z4 t4
  show Calls _ _ _ w fun e w' => e = .returned (.tuple #[.string (Bs T), .bool true]) ∧ Ex w w'
  have HDB : Hid (if a3 = 1 then Bs T = Bs TI else Bs T = Bs (TI ++ 47 :: Lib.itoa a3)) := Kw (by
   have := HD.out
   split at this
   ·rw [if_pos (by assumption), this]
   ·rw [if_neg (by assumption), this])
  generalize Bs T = ST at HDB ⊢
  generalize Bs (TI ++ 47 :: Lib.itoa a3) = S6 at t4 HDB
  generalize Bs (47 :: Lib.itoa a3) = S5 at t3 z4 t4
  generalize Bs TI = SI at t2 z4 t4 HDB
  generalize Bs (sgn a1 ++ sgn a2) = S12 at t1 z2 t2
  generalize Bs (sgn a1) = S1 at k1 z1 t1
  generalize Bs (sgn a2) = S2 at k2 z1 t1
  generalize Bs (Lib.itoa a3) = S4 at k3 z3 t3
  clear HD
  have KV := Kw kv
  have K1 := Kw k1
  have K2 := Kw k2
  have K3 := Kw k3
  clear kv k1 k2 k3 p3
  go_enter Tryz.func18, Tryz.ntmps18
  go_wp2_with fail
  refine (KV.out _).mono ?_
  rintro e w1 ⟨rfl, hx⟩
  have bA := (Box.new _ _ _).ex hx
  replace hx := ((Ex.refl _).alloc _).trans hx
  have d1 : w1.cell? ⟨w.heap.size, 0, none⟩ = some (.int .i64 a1) := bA.cell 0
  have d2 : w1.cell? ⟨w.heap.size, 1, none⟩ = some (.int .i64 a2) := bA.cell 1
  have d3 : w1.cell? ⟨w.heap.size, 2, none⟩ = some (.int .i64 a3) := bA.cell 2
  have HTr : Hid (∀ W, Ex w1 W → Tab W) := Kw (fun W h => HT.out.ex (hx.trans h))
  have hE := Kw hx
  clear KV hx
  go_upto_region 3 with fail
  go_cut [4] (fun s wx => s = .string SI ∧ Ex w1 wx)
  case first =>
   clear bA HDB
   go_region_held3 (fun w' => w'.cell? ⟨w.heap.size, 0, none⟩ = some (.int .i64 a1) ∧ w'.cell? ⟨w.heap.size, 1, none⟩ = some (.int .i64 a2) ∧ w'.cell? ⟨w.heap.size, 2, none⟩ = some (.int .i64 a3)) (go_keep) (first
    | (go_at_call 60; refine (K2.out wn (HTr.out wn hF)).mono ?_; rintro e wm ⟨rfl, hx⟩; have hG := Ex.trans hF hx; have d1 := hx.get d1; have d2 := hx.get d2; have d3 := hx.get d3)
    | (go_at_call 60; refine (K1.out w1.drew (HTr.out w1.drew (Ex.refl w1).drew)).mono ?_; rintro e wn ⟨rfl, hx⟩; have hF := Ex.trans (Ex.refl w1).drew hx; have d1 := hx.get d1; have d2 := hx.get d2; have d3 := hx.get d3))
   all_goals
    go_wp2_with fail
    go_meet
    exact ⟨rfl, by repeat' (with_reducible first | exact Ex.refl _ | assumption | apply Ex.alloc | apply Ex.drewN | apply Ex.drew | refine Ex.setCell ?_ (by simp <;> omega) _)⟩
  case rest =>
   obtain ⟨rfl, hx⟩ := hcut
   have hE2 := hE.out.trans hx
   have HT2 := Kw (HTr.out _ hx)
   have bA2 := bA.ex hx
   have cA2 := bA2.cell
   clear hx d1 d2 d3 bA K1 K2 hE HTr
   by_cases h1 : a3 = 1
   ·have hd := HDB.out
    rw [if_pos h1] at hd
    subst h1 hd
    go_wp2
    refine Kr (v := .tuple #[.string ST, .bool true]) ?_ rfl ⟨rfl, hE2⟩
    simp [results, Tryz.results18, go_sem]
   ·have hd := HDB.out
    rw [if_neg h1] at hd
    subst hd
    have h1b : (a3 == 1) = false := by simpa using h1
    go_wp2_with fail
    refine (K3.out _ HT2.out).mono ?_
    rintro e w3 ⟨rfl, hx⟩
    go_wp2
    refine Kr (v := .tuple #[.string ST, .bool true]) ?_ rfl ⟨rfl, hE2.trans hx⟩
    simp [results, Tryz.results18, go_sem]
end
section
open Go.RowKit

def Sv (a b c d : Fr) : Value := .agg #[.int .i64 a.re, .int .i64 a.im, .int .i64 a.den, .int .i64 b.re, .int .i64 b.im, .int .i64 b.den, .int .i64 c.re, .int .i64 c.im, .int .i64 c.den, .int .i64 d.re, .int .i64 d.im, .int .i64 d.den]
def rok (x : Fr) : Bool := x.valid && decide (x.im = 0)
def svalid (a b c d : Fr) : Bool := rok a && (rok b && (rok c && rok d))
theorem Tq (x : Fr) (w : World) : Calls Tryz.prog 122 #[x.v] w fun e w' => e = .returned (.bool (rok x)) ∧ Ex w w' := by
 have kv := fun w => Yk x.re x.im x.den w
 have hvv : Zg x.re x.im x.den = x.valid := rfl
 simp only [hvv] at kv
 have hr : rok x = (x.valid && decide (x.im = 0)) := rfl
 rw [hr]
 generalize x.valid = v at kv ⊢
 obtain ⟨a1, a2, a3⟩ := x
 have KV := Kw kv
 clear kv hvv hr
 show Calls _ _ #[.agg #[.int .i64 a1, .int .i64 a2, .int .i64 a3]] _ _
 rcases v with _ | _
 ·go_enter Tryz.func122, Tryz.ntmps122
  go_wp2_with fail
  refine (KV.out _).mono ?_
  rintro e w1 ⟨rfl, hx⟩
  have hE := ((Ex.refl w).alloc _).trans hx
  clear hx
  go_wp2
  go_ret
  exact ⟨rfl, hE⟩
 ·by_cases h : a2 = 0
  ·subst h
   go_enter Tryz.func122, Tryz.ntmps122
   go_wp2_with fail
   refine (KV.out _).mono ?_
   rintro e w1 ⟨rfl, hx⟩
   have bA := (Box.new w #[.int .i64 a1, .int .i64 0, .int .i64 a3] 30).ex hx
   have cA := bA.cell
   have hE := ((Ex.refl w).alloc _).trans hx
   clear hx
   go_wp2
   go_ret
   exact ⟨rfl, hE⟩
  ·have h2 : (a2 == 0) = false := by simpa using h
   go_enter Tryz.func122, Tryz.ntmps122
   go_wp2_with fail
   refine (KV.out _).mono ?_
   rintro e w1 ⟨rfl, hx⟩
   have bA := (Box.new w #[.int .i64 a1, .int .i64 a2, .int .i64 a3] 30).ex hx
   have cA := bA.cell
   have hE := ((Ex.refl w).alloc _).trans hx
   clear hx
   go_wp2
   go_ret
   exact ⟨Ya (by simp [h]), hE⟩

theorem Sd (a b c d : Fr) (w : World) : Calls Tryz.prog 57 #[Sv a b c d] w fun e w' => e = .returned (.bool (svalid a b c d)) ∧ Ex w w' := by
 have ka := fun w => Tq a w
 have kb := fun w => Tq b w
 have kc := fun w => Tq c w
 have kd := fun w => Tq d w
 unfold svalid
 generalize rok a = va at ka ⊢
 generalize rok b = vb at kb ⊢
 generalize rok c = vc at kc ⊢
 generalize rok d = vd at kd ⊢
 obtain ⟨a1, a2, a3⟩ := a
 obtain ⟨b1, b2, b3⟩ := b
 obtain ⟨c1, c2, c3⟩ := c
 obtain ⟨d1, d2, d3⟩ := d
 have Ka : Hid (∀ w, Calls Tryz.prog 122 #[.agg #[.int .i64 a1, .int .i64 a2, .int .i64 a3]] w fun e w' => e = .returned (.bool va) ∧ Ex w w') := ka
 have Kb : Hid (∀ w, Calls Tryz.prog 122 #[.agg #[.int .i64 b1, .int .i64 b2, .int .i64 b3]] w fun e w' => e = .returned (.bool vb) ∧ Ex w w') := kb
 have Kc : Hid (∀ w, Calls Tryz.prog 122 #[.agg #[.int .i64 c1, .int .i64 c2, .int .i64 c3]] w fun e w' => e = .returned (.bool vc) ∧ Ex w w') := kc
 have Kd : Hid (∀ w, Calls Tryz.prog 122 #[.agg #[.int .i64 d1, .int .i64 d2, .int .i64 d3]] w fun e w' => e = .returned (.bool vd) ∧ Ex w w') := kd
 clear ka kb kc kd
 show Calls _ _ #[.agg #[.int .i64 a1, .int .i64 a2, .int .i64 a3, .int .i64 b1, .int .i64 b2, .int .i64 b3, .int .i64 c1, .int .i64 c2, .int .i64 c3, .int .i64 d1, .int .i64 d2, .int .i64 d3]] _ _
 rcases va with _ | _
 ·go_enter Tryz.func57, Tryz.ntmps57
  go_wp2
  have hE := (Ex.refl w).alloc (.cells #[.int .i64 a1, .int .i64 a2, .int .i64 a3, .int .i64 b1, .int .i64 b2, .int .i64 b3, .int .i64 c1, .int .i64 c2, .int .i64 c3, .int .i64 d1, .int .i64 d2, .int .i64 d3] 35)
  have i0 := fun w => index4_0 a1 a2 a3 b1 b2 b3 c1 c2 c3 d1 d2 d3 w
  have i1 := fun w => index4_1 a1 a2 a3 b1 b2 b3 c1 c2 c3 d1 d2 d3 w
  have i2 := fun w => index4_2 a1 a2 a3 b1 b2 b3 c1 c2 c3 d1 d2 d3 w
  have i3 := fun w => index4_3 a1 a2 a3 b1 b2 b3 c1 c2 c3 d1 d2 d3 w
  refine wp_loop_rounds 5 ?_
  rw [rounds_succ]
  go_wp2_with fail
  refine (Ka.out _).mono ?_
  rintro e w1 ⟨rfl, hx⟩
  replace hE := (hE.alloc _).trans hx
  clear hx
  go_wp2_with fail
  go_ret
  exact ⟨rfl, hE⟩
 rcases vb with _ | _
 ·go_enter Tryz.func57, Tryz.ntmps57
  go_wp2
  have hE := (Ex.refl w).alloc (.cells #[.int .i64 a1, .int .i64 a2, .int .i64 a3, .int .i64 b1, .int .i64 b2, .int .i64 b3, .int .i64 c1, .int .i64 c2, .int .i64 c3, .int .i64 d1, .int .i64 d2, .int .i64 d3] 35)
  have i0 := fun w => index4_0 a1 a2 a3 b1 b2 b3 c1 c2 c3 d1 d2 d3 w
  have i1 := fun w => index4_1 a1 a2 a3 b1 b2 b3 c1 c2 c3 d1 d2 d3 w
  have i2 := fun w => index4_2 a1 a2 a3 b1 b2 b3 c1 c2 c3 d1 d2 d3 w
  have i3 := fun w => index4_3 a1 a2 a3 b1 b2 b3 c1 c2 c3 d1 d2 d3 w
  refine wp_loop_rounds 5 ?_
  rw [rounds_succ]
  go_wp2_with fail
  refine (Ka.out _).mono ?_
  rintro e w1 ⟨rfl, hx⟩
  replace hE := (hE.alloc _).trans hx
  clear hx
  go_wp2_with fail
  rw [rounds_succ]
  go_wp2_with fail
  refine (Kb.out _).mono ?_
  rintro e w2 ⟨rfl, hx⟩
  replace hE := (hE.alloc _).trans hx
  clear hx
  go_wp2_with fail
  go_ret
  exact ⟨rfl, hE⟩
 rcases vc with _ | _
 ·go_enter Tryz.func57, Tryz.ntmps57
  go_wp2
  have hE := (Ex.refl w).alloc (.cells #[.int .i64 a1, .int .i64 a2, .int .i64 a3, .int .i64 b1, .int .i64 b2, .int .i64 b3, .int .i64 c1, .int .i64 c2, .int .i64 c3, .int .i64 d1, .int .i64 d2, .int .i64 d3] 35)
  have i0 := fun w => index4_0 a1 a2 a3 b1 b2 b3 c1 c2 c3 d1 d2 d3 w
  have i1 := fun w => index4_1 a1 a2 a3 b1 b2 b3 c1 c2 c3 d1 d2 d3 w
  have i2 := fun w => index4_2 a1 a2 a3 b1 b2 b3 c1 c2 c3 d1 d2 d3 w
  have i3 := fun w => index4_3 a1 a2 a3 b1 b2 b3 c1 c2 c3 d1 d2 d3 w
  refine wp_loop_rounds 5 ?_
  rw [rounds_succ]
  go_wp2_with fail
  refine (Ka.out _).mono ?_
  rintro e w1 ⟨rfl, hx⟩
  replace hE := (hE.alloc _).trans hx
  clear hx
  go_wp2_with fail
  rw [rounds_succ]
  go_wp2_with fail
  refine (Kb.out _).mono ?_
  rintro e w2 ⟨rfl, hx⟩
  replace hE := (hE.alloc _).trans hx
  clear hx
  go_wp2_with fail
  rw [rounds_succ]
  go_wp2_with fail
  refine (Kc.out _).mono ?_
  rintro e w3 ⟨rfl, hx⟩
  replace hE := (hE.alloc _).trans hx
  clear hx
  go_wp2_with fail
  go_ret
  exact ⟨rfl, hE⟩
 rcases vd with _ | _
 ·go_enter Tryz.func57, Tryz.ntmps57
  go_wp2
  have hE := (Ex.refl w).alloc (.cells #[.int .i64 a1, .int .i64 a2, .int .i64 a3, .int .i64 b1, .int .i64 b2, .int .i64 b3, .int .i64 c1, .int .i64 c2, .int .i64 c3, .int .i64 d1, .int .i64 d2, .int .i64 d3] 35)
  have i0 := fun w => index4_0 a1 a2 a3 b1 b2 b3 c1 c2 c3 d1 d2 d3 w
  have i1 := fun w => index4_1 a1 a2 a3 b1 b2 b3 c1 c2 c3 d1 d2 d3 w
  have i2 := fun w => index4_2 a1 a2 a3 b1 b2 b3 c1 c2 c3 d1 d2 d3 w
  have i3 := fun w => index4_3 a1 a2 a3 b1 b2 b3 c1 c2 c3 d1 d2 d3 w
  refine wp_loop_rounds 5 ?_
  rw [rounds_succ]
  go_wp2_with fail
  refine (Ka.out _).mono ?_
  rintro e w1 ⟨rfl, hx⟩
  replace hE := (hE.alloc _).trans hx
  clear hx
  go_wp2_with fail
  rw [rounds_succ]
  go_wp2_with fail
  refine (Kb.out _).mono ?_
  rintro e w2 ⟨rfl, hx⟩
  replace hE := (hE.alloc _).trans hx
  clear hx
  go_wp2_with fail
  rw [rounds_succ]
  go_wp2_with fail
  refine (Kc.out _).mono ?_
  rintro e w3 ⟨rfl, hx⟩
  replace hE := (hE.alloc _).trans hx
  clear hx
  go_wp2_with fail
  rw [rounds_succ]
  go_wp2_with fail
  refine (Kd.out _).mono ?_
  rintro e w4 ⟨rfl, hx⟩
  replace hE := (hE.alloc _).trans hx
  clear hx
  go_wp2_with fail
  go_ret
  exact ⟨rfl, hE⟩
 ·go_enter Tryz.func57, Tryz.ntmps57
  go_wp2
  have hE := (Ex.refl w).alloc (.cells #[.int .i64 a1, .int .i64 a2, .int .i64 a3, .int .i64 b1, .int .i64 b2, .int .i64 b3, .int .i64 c1, .int .i64 c2, .int .i64 c3, .int .i64 d1, .int .i64 d2, .int .i64 d3] 35)
  have i0 := fun w => index4_0 a1 a2 a3 b1 b2 b3 c1 c2 c3 d1 d2 d3 w
  have i1 := fun w => index4_1 a1 a2 a3 b1 b2 b3 c1 c2 c3 d1 d2 d3 w
  have i2 := fun w => index4_2 a1 a2 a3 b1 b2 b3 c1 c2 c3 d1 d2 d3 w
  have i3 := fun w => index4_3 a1 a2 a3 b1 b2 b3 c1 c2 c3 d1 d2 d3 w
  refine wp_loop_rounds 5 ?_
  rw [rounds_succ]
  go_wp2_with fail
  refine (Ka.out _).mono ?_
  rintro e w1 ⟨rfl, hx⟩
  replace hE := (hE.alloc _).trans hx
  clear hx
  go_wp2_with fail
  rw [rounds_succ]
  go_wp2_with fail
  refine (Kb.out _).mono ?_
  rintro e w2 ⟨rfl, hx⟩
  replace hE := (hE.alloc _).trans hx
  clear hx
  go_wp2_with fail
  rw [rounds_succ]
  go_wp2_with fail
  refine (Kc.out _).mono ?_
  rintro e w3 ⟨rfl, hx⟩
  replace hE := (hE.alloc _).trans hx
  clear hx
  go_wp2_with fail
  rw [rounds_succ]
  go_wp2_with fail
  refine (Kd.out _).mono ?_
  rintro e w4 ⟨rfl, hx⟩
  replace hE := (hE.alloc _).trans hx
  clear hx
  go_wp2_with fail
  rw [rounds_succ]
  go_wp2
  go_ret
  exact ⟨rfl, hE⟩
end
section
theorem Qy {n : Int} (h : 0 ≤ n) : Lib.itoa n = Lib.decDigits n.natAbs := by
 by_cases h1 : 1 ≤ n
 ·exact itoa_den h1
 ·have : n = 0 := by omega
  subst this
  rfl
theorem itoa_neg {n : Int} (h : n < 0) : Lib.itoa n = 45 :: Lib.decDigits n.natAbs := by
 have := sgn_form n
 unfold sgn sign1 at this
 rw [if_pos h, if_pos h] at this
 exact this
theorem dec_head (u : Nat) : ∀ t, Lib.decDigits u ≠ 45 :: t := by
 intro t h
 have := Tv u 45 (by rw [h]; exact List.mem_cons_self)
 revert this
 decide
theorem itoa_short {n : Int} (h0 : -100 ≤ n) (h1 : n ≤ 100) : (Lib.itoa n).length ≤ 4 := by
 have h : (Lib.decDigits n.natAbs).length ≤ 3 := Oq _ 2 (by omega)
 by_cases hn : n < 0
 ·rw [itoa_neg hn]; simp; omega
 ·rw [Qy (by omega)]; omega
def Ww (n : Nat) (c : UInt8) : Nat := 10 * n + (c.toNat - 48)
theorem fold_dec : ∀ u : Nat, (Lib.decDigits u).foldl Ww 0 = u := by
 intro u
 induction u using Nat.strongRecOn with
 | ind u ih =>
  by_cases hu : u < 10
  ·rw [Um hu]
   show 10 * 0 + ((UInt8.ofNat (48 + u)).toNat - 48) = u
   rw [Or hu]
   omega
  ·rw [Qi hu, List.foldl_append, ih (u / 10) (by omega)]
   show 10 * (u / 10) + ((UInt8.ofNat (48 + u % 10)).toNat - 48) = u
   rw [Or (Nat.mod_lt _ (by omega))]
   omega

def Xa (l : List UInt8) : Option Int := match Lib.atoiAll l with
 | .ok n => if Lib.itoa n = l then some n else none
 | _ => none
theorem numOf_out {l : List UInt8} {n : Int} (h : Xa l = some n) : Lib.atoiAll l = .ok n ∧ Lib.itoa n = l := by
 unfold Xa at h
 rcases ha : Lib.atoiAll l with m | _ | _
 ·
  rw [ha] at h
  simp only at h
  split at h
  ·injection h with h
   subst h
   exact ⟨rfl, by assumption⟩
  ·cases h
 ·rw [ha] at h; cases h
 ·rw [ha] at h; cases h
theorem numOf_ok {l : List UInt8} {n : Int} (h : Lib.atoiAll l = .ok n) : Xa l = if Lib.itoa n = l then some n else none := by
 unfold Xa
 rw [h]
def Yg : List UInt8 → List UInt8
 | [] => []
 | c :: t => if c = 45 then t else c :: t
def numB (k : Nat) (c : UInt8) : Bool := (decide (k = 0) && decide (c = 45)) || Wt c
theorem itoa_bytes {n : Int} {k : Nat} {c : UInt8} {t : List UInt8} {p : List UInt8} (h : Lib.itoa n = p ++ c :: t) (hk : p.length = k) : numB k c = true := by
 unfold numB
 by_cases hn : n < 0
 ·rw [itoa_neg hn] at h
  cases p with
  | nil =>
   simp only [List.nil_append] at h
   injection h with h1 h2
   subst h1
   simp at hk
   subst hk
   simp
  | cons d p =>
   injection h with h1 h2
   rw [Tv n.natAbs c (by rw [h2]; simp)]
   simp
 ·rw [Qy (by omega)] at h
  rw [Tv n.natAbs c (by rw [h]; simp)]
  simp
def sg (l : List UInt8) : Int := if l.head? = some 45 then -1 else 1
theorem strip_itoa {n : Int} : sg (Lib.itoa n) * ((Yg (Lib.itoa n)).foldl Ww 0 : Nat) = n := by
 by_cases hn : n < 0
 ·rw [itoa_neg hn]
  simp only [Yg, sg, List.head?_cons, if_true]
  rw [fold_dec]
  omega
 ·rw [Qy (by omega)]
  have e : Yg (Lib.decDigits n.natAbs) = Lib.decDigits n.natAbs ∧ sg (Lib.decDigits n.natAbs) = 1 := by
   cases hd : Lib.decDigits n.natAbs with
   | nil => exact absurd hd (dec_ne _)
   | cons c t =>
    have hc : c ≠ 45 := fun e => dec_head n.natAbs t (by rw [hd, e])
    simp [Yg, sg, hc]
  rw [e.1, e.2, fold_dec]
  omega
theorem fold_le : ∀ (l : List UInt8) (n : Nat), (∀ c ∈ l, Wt c = true) → l.foldl Ww n < (n + 1) * 10 ^ l.length
 | [], n, _ => by simp
 | c :: t, n, h => by
  have hc : 48 ≤ c.toNat ∧ c.toNat ≤ 57 := by simpa [Wt] using h c List.mem_cons_self
  have ih := fold_le t (Ww n c) fun d hd => h d (List.mem_cons_of_mem _ hd)
  rw [List.foldl_cons, List.length_cons, Nat.pow_succ]
  have h2 : (Ww n c + 1) * 10 ^ t.length ≤ ((n + 1) * 10) * 10 ^ t.length := Nat.mul_le_mul_right _ (by unfold Ww; omega)
  rw [Nat.mul_assoc, Nat.mul_comm 10] at h2
  omega
theorem fold_bd (l : List UInt8) (h : ∀ c ∈ l, Wt c = true) : l.foldl Ww 0 < 10 ^ l.length := by
 have := fold_le l 0 h
 omega

section
variable {α β : Type} {f : α → Option β}
def Xf (f : α → Option β) : List α → Option (List β)
 | [] => some []
 | a :: t => match f a, Xf f t with
  | some b, some r => some (b :: r)
  | _, _ => none
theorem mapO_cons {a : α} {t : List α} {b : β} {r : List β} (h : f a = some b) (k : Xf f t = some r) : Xf f (a :: t) = some (b :: r) := by
 simp [Xf, h, k]
theorem Rz {a : α} {t : List α} {r : List β} (h : Xf f (a :: t) = some r) : ∃ b r', f a = some b ∧ Xf f t = some r' ∧ r = b :: r' := by
 unfold Xf at h
 split at h
 ·rename_i b r' h1 h2
  exact ⟨b, r', h1, h2, by injection h with h; exact h.symm⟩
 ·cases h
theorem Uu {a : α} {b : β} (ha : f a = some b) : ∀ {l : List α} {r : List β}, Xf f l = some r → Xf f (l ++ [a]) = some (r ++ [b])
 | [], r, h => by
  simp only [Xf] at h
  injection h with h
  subst h
  exact mapO_cons ha rfl
 | x :: t, r, h => by
  obtain ⟨y, r', h1, h2, rfl⟩ := Rz h
  exact mapO_cons h1 (Uu ha h2)
theorem Lh {l : List α} : ∀ {r : List β}, Xf f l = some r → ∀ a ∈ l, ∃ b ∈ r, f a = some b := by
 induction l with
 | nil => intro r _ a ha; cases ha
 | cons x t ih =>
  intro r h a ha
  obtain ⟨y, r', h1, h2, rfl⟩ := Rz h
  rcases List.mem_cons.1 ha with rfl | ha
  ·exact ⟨y, by simp, h1⟩
  ·obtain ⟨b, hb, he⟩ := ih h2 a ha
   exact ⟨b, by simp [hb], he⟩
theorem Tz {l : List α} {a : α} (h : f a = none) (ha : a ∈ l) : Xf f l = none := by
 cases hr : Xf f l with
 | none => rfl
 | some r =>
  obtain ⟨b, -, hb⟩ := Lh hr a ha
  rw [h] at hb
  cases hb
theorem Wk : ∀ {l : List α} {r : List β}, Xf f l = some r → r.length = l.length
 | [], r, h => by
  simp only [Xf] at h
  injection h with h
  subst h
  rfl
 | x :: t, r, h => by
  obtain ⟨y, r', h1, h2, rfl⟩ := Rz h
  simp [Wk h2]
theorem Wb {l : List α} {k : Nat} (h : k < l.length) : l.take (k + 1) = l.take k ++ [l[k]] := List.take_succ_eq_append_getElem h
end

def Ws (k : UInt8) (ns : List Int) : Bool :=
 if k = 114 ∨ k = 102 then decide (ns.length = 2) && Xd (ns.getD 0 0) (ns.getD 1 0)
 else if k = 119 then decide (ns.length = 3) && Xd (ns.getD 0 0) (ns.getD 1 0) && Xu (ns.getD 2 0) 0 3
 else if k = 97 ∨ k = 100 then decide (ns.length = 2) && (Xu (ns.getD 1 0) 1 100 && Xu (ns.getD 0 0) 0 (ns.getD 1 0))
 else false
theorem dirOk_out {p q : Int} (h : Xd p q = true) : (-100 ≤ p ∧ p ≤ 100) ∧ (-100 ≤ q ∧ q ≤ 100) ∧ ¬ (p = 0 ∧ q = 0) := by
 unfold Xd at h
 simp only [Bool.and_eq_true, Bool.not_eq_true', Bool.and_eq_false_iff, decide_eq_false_iff_not] at h
 refine ⟨Xt h.1.1, Xt h.1.2, fun e => ?_⟩
 rcases h.2 with h2 | h2
 ·exact h2 e.1
 ·exact h2 e.2
def Yq : List UInt8 → Option (UInt8 × List Int)
 | [] => none
 | k :: t => match Xf Xa (cds t) with
  | some ns => if Ws k ns then some (k, ns) else none
  | none => none
def Yd (l : List UInt8) : Option (List (UInt8 × List Int)) :=
 if l = [] then some [] else match Xf Yq (wds l) with
  | some ps => if ps.length ≤ 12 then some ps else none
  | none => none
theorem Nb {l : List UInt8} {k : UInt8} {ns : List Int} (h : Yq l = some (k, ns)) : ∃ t, l = k :: t ∧ Xf Xa (cds t) = some ns ∧ Ws k ns = true := by
 cases l with
 | nil => cases h
 | cons c t =>
  rw [Yq] at h
  split at h
  ·rename_i ns' hn
   split at h
   ·rename_i hv
    injection h with h
    injection h with h1 h2
    subst h1 h2
    exact ⟨t, rfl, hn, hv⟩
   ·cases h
  ·cases h
theorem Xj {k : UInt8} {t : List UInt8} {ns : List Int} (h : Xf Xa (cds t) = some ns) : Yq (k :: t) = if Ws k ns then some (k, ns) else none := by
 rw [Yq, h]
theorem Ry {k : UInt8} {t : List UInt8} (h : Xf Xa (cds t) = none) : Yq (k :: t) = none := by
 rw [Yq, h]
theorem Lg {k : UInt8} {ns : List Int} (h : Ws k ns = true) :
  (ns.length = 2 ∨ ns.length = 3) ∧ (∀ n ∈ ns, -100 ≤ n ∧ n ≤ 100) ∧
  (((k = 114 ∨ k = 102) ∧ ∃ p q, ns = [p, q] ∧ Xd p q = true) ∨ (k = 119 ∧ ∃ p q m, ns = [p, q, m] ∧ Xd p q = true ∧ Xu m 0 3 = true) ∨
   ((k = 97 ∨ k = 100) ∧ ∃ p q, ns = [p, q] ∧ 1 ≤ q ∧ q ≤ 100 ∧ 0 ≤ p ∧ p ≤ q)) := by
 unfold Ws at h
 split at h
 ·rename_i hk
  simp only [Bool.and_eq_true, decide_eq_true_eq] at h
  obtain ⟨h1, h2⟩ := h
  match ns, h1 with
  | [p, q], _ =>
   simp only [List.getD_cons_zero, List.getD_cons_succ] at h2
   obtain ⟨b1, b2, -⟩ := dirOk_out h2
   exact ⟨.inl rfl, fun n hn => by rcases List.mem_cons.1 hn with rfl | hn; exact b1; rw [List.mem_singleton.1 hn]; exact b2, .inl ⟨hk, p, q, rfl, h2⟩⟩
 ·split at h
  ·rename_i hk
   simp only [Bool.and_eq_true, decide_eq_true_eq] at h
   obtain ⟨⟨h1, h2⟩, h3⟩ := h
   match ns, h1 with
   | [p, q, m], _ =>
    simp only [List.getD_cons_zero, List.getD_cons_succ] at h2 h3
    obtain ⟨b1, b2, -⟩ := dirOk_out h2
    have b3 := Xt h3
    exact ⟨.inr rfl, fun n hn => by
     rcases List.mem_cons.1 hn with rfl | hn
     ·exact b1
     rcases List.mem_cons.1 hn with rfl | hn
     ·exact b2
     ·rw [List.mem_singleton.1 hn]; omega, .inr (.inl ⟨hk, p, q, m, rfl, h2, h3⟩)⟩
  ·split at h
   ·rename_i hk
    simp only [Bool.and_eq_true, decide_eq_true_eq] at h
    obtain ⟨h1, h2, h3⟩ := h
    match ns, h1 with
    | [p, q], _ =>
     simp only [List.getD_cons_zero, List.getD_cons_succ] at h2 h3
     have b2 := Xt h2
     have b3 := Xt h3
     exact ⟨.inl rfl, fun n hn => by
      rcases List.mem_cons.1 hn with rfl | hn
      ·omega
      ·rw [List.mem_singleton.1 hn]; omega, .inr (.inr ⟨hk, p, q, rfl, by omega, by omega, by omega, by omega⟩)⟩
   ·cases h
def tot (ws : List (List UInt8)) : Nat := (ws.map fun x => x.length + 1).sum
theorem wds_tot : ∀ l : List UInt8, tot (wds l) = l.length + 1
 | [] => by simp [wds, tot]
 | b :: t => by
  have ih := wds_tot t
  by_cases hb : b = 32
  ·subst hb
   rw [Tf]
   simp only [tot, List.map_cons, List.sum_cons, List.length_cons, List.length_nil] at ih ⊢
   omega
  ·rw [Te hb]
   cases hw : wds t with
   | nil => exact absurd hw (Nv t)
   | cons x r =>
    rw [hw] at ih
    simp only [pre, tot, List.headD_cons, List.tail_cons, List.map_cons, List.sum_cons, List.length_cons, List.length_append, List.length_nil] at ih ⊢
    omega
theorem cds_tot : ∀ l : List UInt8, tot (cds l) = l.length + 1
 | [] => by simp [cds, tot]
 | b :: t => by
  have ih := cds_tot t
  by_cases hb : b = 58
  ·subst hb
   rw [Td]
   simp only [tot, List.map_cons, List.sum_cons, List.length_cons, List.length_nil] at ih ⊢
   omega
  ·rw [Tc hb]
   cases hw : cds t with
   | nil => exact absurd hw (Li t)
   | cons x r =>
    rw [hw] at ih
    simp only [pre, tot, List.headD_cons, List.tail_cons, List.map_cons, List.sum_cons, List.length_cons, List.length_append, List.length_nil] at ih ⊢
    omega
theorem Qw {l : List UInt8} {ps : List (UInt8 × List Int)} (h : Yd l = some ps) (hne : l ≠ []) : Xf Yq (wds l) = some ps ∧ ps.length ≤ 12 := by
 unfold Yd at h
 rw [if_neg hne] at h
 split at h
 ·rename_i qs hq
  split at h
  ·injection h with h
   subst h
   exact ⟨hq, by assumption⟩
  ·cases h
 ·cases h
theorem benchOf_is {l : List UInt8} {ps : List (UInt8 × List Int)} (hne : l ≠ []) (h : Xf Yq (wds l) = some ps) : Yd l = if ps.length ≤ 12 then some ps else none := by
 unfold Yd
 rw [if_neg hne, h]
theorem benchOf_no {l : List UInt8} (hne : l ≠ []) (h : Xf Yq (wds l) = none) : Yd l = none := by
 unfold Yd
 rw [if_neg hne, h]
theorem Na : Yd [] = some [] := rfl
theorem benchOf_many {l : List UInt8} (hne : l ≠ []) (h : 12 < (wds l).length) : Yd l = none := by
 cases hb : Yd l with
 | none => rfl
 | some ps =>
  obtain ⟨h1, h2⟩ := Qw hb hne
  rw [Wk h1] at h2
  omega
theorem benchOf_bad {l x : List UInt8} (hne : l ≠ []) (hx : x ∈ wds l) (h : Yq x = none) : Yd l = none := benchOf_no hne (Tz h hx)
end
section
open Go.RowKit

theorem Own.box {w : World} {lo : Nat} {e : TypeId} {sz : Nat} {A : Option Addr} {n cap : Nat} {cs : List Value} (h : Own w lo e sz (.slice A n cap) n cs) (hn : 0 < n) :
  ∃ g cur, A = some ⟨g, 0, none⟩ ∧ lo ≤ g ∧ Box w g e cur ∧ ∀ k, k < n * sz → cur[k]? = cs[k]? := by
 have h' := h
 rcases h.2 with ⟨hv, _⟩ | ⟨g, cap', cur, hv, hg, hh, hr⟩
 ·injection hv with e1 e2 e3
  omega
 ·injection hv with e1 e2 e3
  subst e1 e3
  refine ⟨g, cur, rfl, hg, hh, fun k hk => ?_⟩
  rw [← Box.cell (show Box w g e cur from hh) k]
  exact World.ownsRow.cellAt h' k hk
def BoxW (w : World) (g : Nat) (ls : List (List UInt8)) : Prop := ∃ cur, Box w g 9 cur ∧ ∀ k (hk : k < ls.length), cur[k]? = some (.string (Bs ls[k]))
def GotB (w : World) (ls : List (List UInt8)) : Ending → World → Prop := fun e w' =>
 ∃ g cap cur, e = .returned (.slice (some ⟨g, 0, none⟩) ls.length cap) ∧ w.heap.size ≤ g ∧ Box w' g 9 cur ∧ Hid (∀ k (hk : k < ls.length), cur[k]? = some (.string (Bs ls[k]))) ∧ Ex w w'
theorem splitBB (l : List UInt8) (hl : l.length ≤ 1048576) (w : World) (hm : Vs w) : Calls Tryz.prog 24 #[.string (Bs l), .string ⟨#[32]⟩] w (GotB w (wds l)) := by
 obtain ⟨m, hm⟩ := hm.max
 refine (Tryz.strings_Split (Bs l) ⟨#[32]⟩ m w (by rw [Xp]; omega) hm (by decide)).mono ?_
 rintro e w' ⟨rfl, rfl⟩
 rw [Nu _ l rfl]
 refine ⟨w.heap.size, Lib.countB (Bs l) ⟨#[32]⟩ + 1, _, by rw [Nt], Nat.le_refl _, Box.new w _ 9, Kw fun k hk => ?_, (Ex.refl _).alloc _⟩
 have hk0 := hk
 rw [Nt] at hk
 simp [Lib.cellsOf, hk]
 exact ⟨_, List.getElem?_eq_getElem hk0, rfl⟩
theorem Mp (l : List UInt8) (hl : l.length ≤ 1048576) (w : World) (hm : Vs w) : Calls Tryz.prog 24 #[.string (Bs l), .string ⟨#[58]⟩] w (GotB w (cds l)) := by
 obtain ⟨m, hm⟩ := hm.max
 refine (Tryz.strings_Split (Bs l) ⟨#[58]⟩ m w (by rw [Xp]; omega) hm (by decide)).mono ?_
 rintro e w' ⟨rfl, rfl⟩
 rw [split_cds _ l rfl]
 refine ⟨w.heap.size, Lib.countB (Bs l) ⟨#[58]⟩ + 1, _, by rw [cds_count], Nat.le_refl _, Box.new w _ 9, Kw fun k hk => ?_, (Ex.refl _).alloc _⟩
 have hk0 := hk
 rw [cds_count] at hk
 simp [Lib.cellsOf, hk]
 exact ⟨_, List.getElem?_eq_getElem hk0, rfl⟩
structure Pc where
 k : UInt8
 g : Nat
 cap : Nat
 cur : Array Value
 ns : List Int
 S : ByteArray
def Pc.ok (w : World) (q : Pc) : Prop := Box w q.g 3 q.cur ∧ ∀ j, j < q.ns.length → q.cur[j]? = some (.int .i64 (q.ns.getD j 0))
def Pc.p (q : Pc) : UInt8 × List Int := (q.k, q.ns)
def Pc.ci (q : Pc) : List Value := [.int .u8 q.k.toNat, .slice (some ⟨q.g, 0, none⟩) q.ns.length q.cap, .string q.S]
def Pc.cs (q : Pc) : List Value := [.int .u8 q.k.toNat, .slice (some ⟨q.g, 0, none⟩) q.ns.length q.cap]
theorem Pc.ok.ex {w w' : World} {q : Pc} (h : q.ok w) (he : Ex w w') : q.ok w' := ⟨h.1.ex he, h.2⟩
def Pcs (w : World) (qs : List Pc) : Prop := ∀ q ∈ qs, q.ok w
theorem Pcs.ex {w w' : World} {qs : List Pc} (h : Pcs w qs) (he : Ex w w') : Pcs w' qs := fun q hq => (h q hq).ex he
theorem Pcs.keeps {w w' : World} {qs : List Pc} {lo : Nat} {e : TypeId} (h : Pcs w qs) (hk : Ty lo e w w') (hne : e ≠ 3) : Pcs w' qs := fun q hq => ⟨hk.box _ _ _ (h q hq).1 hne, (h q hq).2⟩
theorem Pcs.snoc {w : World} {qs : List Pc} {q : Pc} (h : Pcs w qs) (hq : q.ok w) : Pcs w (qs ++ [q]) := fun x hx => by
 rcases List.mem_append.1 hx with hx | hx
 ·exact h x hx
 ·rw [List.mem_singleton.1 hx]; exact hq
theorem Pcs.nil (w : World) : Pcs w [] := fun q hq => by cases hq
def Wu (qs : List Pc) : List Value := qs.flatMap Pc.ci
def cellsS (qs : List Pc) : List Value := qs.flatMap Pc.cs
theorem cellsI_snoc (qs : List Pc) (q : Pc) : Wu (qs ++ [q]) = Wu qs ++ q.ci := by simp [Wu]
theorem Rx (qs : List Pc) : (Wu qs).length = 3 * qs.length := by
 induction qs with
 | nil => rfl
 | cons q t ih => simp only [Wu, List.flatMap_cons, List.length_append, Pc.ci, List.length_cons, List.length_nil] at ih ⊢; omega
theorem cellsI_at : ∀ (qs : List Pc) (k : Nat) (hk : k < qs.length), (Wu qs)[3 * k]? = some (.int .u8 qs[k].k.toNat) ∧ (Wu qs)[3 * k + 1]? = some (.slice (some ⟨qs[k].g, 0, none⟩) qs[k].ns.length qs[k].cap) ∧ (Wu qs)[3 * k + 2]? = some (.string qs[k].S)
 | [], k, hk => by simp at hk
 | q :: t, 0, hk => by simp [Wu, Pc.ci]
 | q :: t, k + 1, hk => by
  have ih := cellsI_at t k (by simpa using hk)
  rw [show 3 * (k + 1) = 3 * k + 3 by omega, show 3 * k + 3 + 1 = 3 * k + 1 + 3 by omega, show 3 * k + 3 + 2 = 3 * k + 2 + 3 by omega]
  simpa [Wu, Pc.ci] using ih
def Nr (w : World) (l : List UInt8) : Ending → World → Prop := fun e w' =>
 (∃ q : Pc, Yq l = some q.p ∧ e = .returned (.tuple #[.agg q.ci.toArray, .bool true]) ∧ Hid (q.S = Bs l) ∧ q.ok w' ∧ Ex w w') ∨
 (∃ (k : Int) (A : Option Addr) (n cap : Nat) (S : ByteArray), Yq l = none ∧ e = .returned (.tuple #[.agg #[.int .u8 k, .slice A n cap, .string S], .bool false]) ∧ Ex w w')
def PcGotS (w : World) (l : List UInt8) : Ending → World → Prop := fun e w' =>
 (∃ q : Pc, Yq l = some q.p ∧ e = .returned (.tuple #[.agg q.cs.toArray, .bool true]) ∧ q.ok w' ∧ Ex w w') ∨
 (∃ (k : Int) (A : Option Addr) (n cap : Nat), Yq l = none ∧ e = .returned (.tuple #[.agg #[.int .u8 k, .slice A n cap], .bool false]) ∧ Ex w w')
def BnGot (cells : List Pc → List Value) (w : World) (l : List UInt8) : Ending → World → Prop := fun e w' =>
 (∃ (qs : List Pc) (A : Option Addr) (cap : Nat), Yd l = some (qs.map Pc.p) ∧ e = .returned (.tuple #[.slice A qs.length cap, .bool true]) ∧ Slc w' A (cells qs) ∧ Pcs w' qs ∧ Ex w w') ∨
 (∃ (A : Option Addr) (n cap : Nat), Yd l = none ∧ e = .returned (.tuple #[.slice A n cap, .bool false]) ∧ Ex w w')
end
section
open Go.RowKit

theorem atoi_fit {l : List UInt8} (hl : l.length ≤ 1048576) {v : Int} (h : Lib.atoiAll l = .ok v) (w : World) : Calls Tryz.prog 133 #[.string (Bs l)] w fun e w' => e = .returned (.tuple #[.int .i64 v, .nilIface]) ∧ Ex w w' := by
 refine (Tryz.strconv_Atoi_ok (Bs l) (by rw [Xp]; omega) v h w).mono ?_
 rintro e w' ⟨rfl, hw⟩
 refine ⟨rfl, ?_⟩
 rcases hw with rfl | ⟨t, rfl⟩
 ·exact Ex.refl _
 ·exact Lib.bytesWorld_below _ _ _
theorem atoi_bad {l : List UInt8} (hl : l.length ≤ 1048576) (h : ∀ v, Lib.atoiAll l ≠ .ok v) (w : World) (hm : Vs w) : Calls Tryz.prog 133 #[.string (Bs l)] w fun e w' =>
  ∃ (v : Int) (N : Nat), e = .returned (.tuple #[.int .i64 v, .iface 249 (.pointer (some ⟨N, 0, none⟩))]) ∧ Ex w w' := by
 rcases hc : Lib.atoiAll l with v | _ | _
 ·exact absurd hc (h v)
 ·
  obtain ⟨t, p, hp⟩ := hm.syn
  refine (Tryz.strconv_Atoi_syntax (Bs l) (by rw [Xp]; omega) hc _ w hp (.inr ⟨t, p, rfl⟩)).mono ?_
  rintro e w' ⟨N, rfl, -, -, hb⟩
  exact ⟨0, N, rfl, hb⟩
 ·
  obtain ⟨t, p, hp⟩ := hm.rng
  refine (Tryz.strconv_Atoi_range (Bs l) (by rw [Xp]; omega) hc _ w hp (.inr ⟨t, p, rfl⟩)).mono ?_
  rintro e w' ⟨N, rfl, -, -, hb⟩
  exact ⟨_, N, rfl, hb⟩
theorem numOf_bad {l : List UInt8} (h : ∀ v, Lib.atoiAll l ≠ .ok v) : Xa l = none := by
 cases hn : Xa l with
 | none => rfl
 | some n => exact absurd (numOf_out hn).1 (h n)
def NumG (w : World) (l : List UInt8) : Ending → World → Prop := fun e w' => ∃ (n : Int) (ok : Bool), e = .returned (.tuple #[.int .i64 n, .bool ok]) ∧ Ex w w' ∧ Xa l = if ok then some n else none
theorem Qo (l : List UInt8) (hl : l.length ≤ 1048576) (w : World) (hm : Vs w) : Calls Tryz.prog 210 #[.string (Bs l)] w (NumG w l) := by
 by_cases h : ∃ v, Lib.atoiAll l = .ok v
 ·obtain ⟨v, h⟩ := h
  have hb := Lib.atoiAll_bounds h
  have ka := fun w => atoi_fit hl h w
  have ki := fun w ht => Pr v hb.1 hb.2 w ht
  have hT := Kw hm.tab
  by_cases he : Lib.itoa v = l
  ·have hn : Xa l = some v := by rw [numOf_ok h, if_pos he]
   rw [he] at ki
   generalize Bs l = S at ka ki ⊢
   have KA := Kw ka
   have KI := Kw ki
   have HN := Kw hn
   clear ka ki hn he h hb hm
   go_enter Tryz.func210, Tryz.ntmps210
   go_wp2_with fail
   refine (KA.out _).mono ?_
   rintro e w1 ⟨rfl, hx⟩
   go_wp2_with fail
   refine (KI.out _ (hT.out.ex hx)).mono ?_
   rintro e w2 ⟨rfl, hx2⟩
   go_wp2
   refine Kr (v := .tuple #[.int .i64 v, .bool true]) ?_ rfl ⟨v, true, rfl, hx.trans hx2, HN.out⟩
   simp [results, Tryz.results210, go_sem]
  ·have hn : Xa l = none := by rw [numOf_ok h, if_neg he]
   have hne : ¬ Bs (Lib.itoa v) = Bs l := Bs_ne he
   have hne2 := Qv hne
   generalize Bs l = S at ka hne2 ⊢
   generalize Bs (Lib.itoa v) = T at ki hne2
   have KA := Kw ka
   have KI := Kw ki
   have HN := Kw hn
   clear ka ki hn he h hb hm hne
   go_enter Tryz.func210, Tryz.ntmps210
   go_wp2_with fail
   refine (KA.out _).mono ?_
   rintro e w1 ⟨rfl, hx⟩
   go_wp2_with fail
   refine (KI.out _ (hT.out.ex hx)).mono ?_
   rintro e w2 ⟨rfl, hx2⟩
   go_wp2
   refine Kr (v := .tuple #[.int .i64 v, .bool false]) ?_ rfl ⟨v, false, rfl, hx.trans hx2, HN.out⟩
   simp [results, Tryz.results210, go_sem]
 ·have h2 : ∀ v, Lib.atoiAll l ≠ .ok v := fun v e => h ⟨v, e⟩
  have ka := fun w hm => atoi_bad hl h2 w hm
  have hn := numOf_bad h2
  generalize Bs l = S at ka ⊢
  have KA := Kw ka
  have HN := Kw hn
  have HM := Kw hm
  clear ka hn h h2 hm
  go_enter Tryz.func210, Tryz.ntmps210
  go_wp2_with fail
  refine (KA.out _ HM.out).mono ?_
  rintro e w1 ⟨v, N, rfl, hx⟩
  go_wp2
  refine Kr (v := .tuple #[.int .i64 v, .bool false]) ?_ rfl ⟨v, false, rfl, hx, HN.out⟩
  simp [results, Tryz.results210, go_sem]
def NumS (w : World) (l : List UInt8) : Ending → World → Prop := fun e w' => ∃ (n : Int) (ok : Bool), e = .returned (.tuple #[.int .i64 n, .bool ok]) ∧ Ex w w' ∧ if ok then Xa l = some n else ∀ m, Xa l = some m → 4 < l.length
def NumI (l : List UInt8) (k : Nat) (n : Nat) (s : Int) : Prop := n = (Yg (l.take k)).foldl Ww 0 ∧ n < 10 ^ k ∧ s = (if 0 < k then sg l else 1) ∧ ∀ j (hj : j < l.length), j < k → numB j l[j] = true
end
section
open Go.RowKit

attribute [local go_sem] Zi Zh
theorem Zw.tail {W w : World} {x : Nat × TypeId × Array Value} {L : List (Nat × TypeId × Array Value)} (h : Zw W w (x :: L)) : Zw W w L := ⟨h.ex, h.boxes.2⟩
section
variable {W w : World} {ga pb rb : Nat} {ti T : TypeId} {ca : Array Value} {b : Bool} {x y z o1 o2 o3 : Value}
theorem Zw.ret3 (hg : ga ≠ W.heap.size) (hp : pb ≠ W.heap.size) (h : Zw W w [(ga, ti, ca), (pb, T, #[x, y, z]), (W.heap.size, T, if b then #[x, y, z] else #[o1, o2, o3])]) :
  Zw W (((w.setCell ⟨W.heap.size, 0, none⟩ x).setCell ⟨W.heap.size, 1, none⟩ y).setCell ⟨W.heap.size, 2, none⟩ z) [(ga, ti, ca), (pb, T, #[x, y, z]), (W.heap.size, T, if (b || true) then #[x, y, z] else #[o1, o2, o3])] := by
 obtain ⟨he, b1, b2, b3, -⟩ := h
 refine ⟨((he.setCell (p := ⟨W.heap.size, 0, none⟩) (Nat.le_refl _) x).setCell (p := ⟨W.heap.size, 1, none⟩) (Nat.le_refl _) y).setCell (p := ⟨W.heap.size, 2, none⟩) (Nat.le_refl _) z, ((b1.far (p := ⟨W.heap.size, 0, none⟩) hg x).far (p := ⟨W.heap.size, 1, none⟩) hg y).far (p := ⟨W.heap.size, 2, none⟩) hg z, ((b2.far (p := ⟨W.heap.size, 0, none⟩) hp x).far (p := ⟨W.heap.size, 1, none⟩) hp y).far (p := ⟨W.heap.size, 2, none⟩) hp z, ?_, trivial⟩
 have h3 := ((b3.set_ 0 x).set_ 1 y).set_ 2 z
 cases b <;> simpa using h3
end
theorem dirv_any (p q : Int) : ∃ (c1 c2 c3 e1 e2 e3 : Int) (tl : Bool), Un p q = .tuple #[.agg #[.int .i64 c1, .int .i64 c2, .int .i64 c3], .agg #[.int .i64 e1, .int .i64 e2, .int .i64 e3], .bool tl] := by
 unfold Un
 split
 ·exact ⟨_, _, _, _, _, _, _, rfl⟩
 ·exact ⟨_, _, _, _, _, _, _, rfl⟩
theorem u8_ne {k c : UInt8} (h : k ≠ c) : ((k.toNat : Int) == (c.toNat : Int)) = false := by
 rw [beq_eq_false_iff_ne]
 exact fun e => h (UInt8.toNat_inj.1 (by omega))
theorem list2 {α : Type} {l : List α} (h : l.length = 2) : ∃ a b, l = [a, b] := by
 match l, h with
 | [a, b], _ => exact ⟨a, b, rfl⟩
theorem list3 {α : Type} {l : List α} (h : l.length = 3) : ∃ a b c, l = [a, b, c] := by
 match l, h with
 | [a, b, c], _ => exact ⟨a, b, c, rfl⟩
theorem Mo (k : UInt8) (t : List UInt8) : (Bs (k :: t)).extract 1 (Bs (k :: t)).size = Bs t := by rw [Sa]; rfl
theorem Mn (t : List UInt8) : (cds t).length ≤ t.length + 1 := by
 rw [← cds_tot t]
 unfold tot
 generalize cds t = ws
 induction ws with
 | nil => simp
 | cons x ws ih => simp only [List.map_cons, List.sum_cons, List.length_cons]; omega
end
section
open Go.RowKit

attribute [local go_sem] Zi Zh
end
section
open Go.RowKit

attribute [local go_sem] Zi Zh
end
section
open Go.RowKit

attribute [local go_sem] Zi Zh
end
section
open Go.RowKit

attribute [local go_sem] Zi Zh
end
end Go.Proofs.YtiommfmaleeibaaGreatDoor
