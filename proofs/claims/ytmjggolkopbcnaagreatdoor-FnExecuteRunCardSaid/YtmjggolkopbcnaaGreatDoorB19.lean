/-
  Proved: what functions compute, part 19. No condition.
-/
import Derived.Test.YtmjggolkopbcnaaGreatDoorB07
import Derived.Deep.RegionHeld3
import Derived.Deep.DeepCutAuto
import Derived.LoopN
import Derived.Test.YtmjggolkopbcnaaGreatDoorB10
import Derived.Test.YtmjggolkopbcnaaGreatDoorB05
import Derived.Test.YtmjggolkopbcnaaGreatDoorB12
set_option linter.unusedSimpArgs false
set_option linter.unusedVariables false
set_option maxRecDepth 20000
set_option maxHeartbeats 8000000
namespace Go.Proofs.YtmjggolkopbcnaaGreatDoor
section
open Go.RowKit

theorem Xj {u : Nat} (h : u < 10) : Lib.decDigits u = [UInt8.ofNat (48 + u)] := by
 unfold Lib.decDigits
 rw [dif_pos h]
theorem Us {u : Nat} (h : ¬ u < 10) : Lib.decDigits u = Lib.decDigits (u / 10) ++ [UInt8.ofNat (48 + u % 10)] := by
 conv => lhs; unfold Lib.decDigits
 rw [dif_neg h]
theorem Pw (m : Nat) (h : m < 9223372036854775808) : (Lib.decDigits m).length ≤ 21 := by
 have := Lib.itoa_length_le (m : Int) (by omega) (by omega)
 rw [Lib.itoa_nonneg] at this
 exact this

theorem Pv {w : World} {b : Nat} {n : Int} {t : TypeId} (h : Box w b t #[.int .u8 n]) (h0 : 0 ≤ n) (h1 : n < 256) : (convert 22 9 (.slice (some ⟨b, 0, none⟩) 1 1)).run Tryz.prog w = .ok (.string (Bs [UInt8.ofNat n.toNat])) w := by
 refine run_convert_bytes_back _ _ _ 5 ⟨b, 0, none⟩ 1 [UInt8.ofNat n.toNat] Tryz.underlying22 Tryz.underlying5 Tryz.underlying9 ?_
 intro j hj
 have hj0 : j = 0 := by simpa using hj
 subst hj0
 have e : ((⟨b, 0, none⟩ : Addr).add 0) = ⟨b, 0, none⟩ := rfl
 rw [e, h.cell 0]
 have e2 : ((UInt8.ofNat n.toNat).toNat : Int) = n := by
  have : (UInt8.ofNat n.toNat).toNat = n.toNat % 256 := UInt8.toNat_ofNat'
  omega
 simp only [List.getElem_cons_zero]
 rw [e2]
 rfl
theorem dec_nat (m : Nat) : m < 9223372036854775808 → ∀ w, Calls Tryz.prog 127 #[.int .i64 m] w fun e w' => e = .returned (.string (Bs (Lib.decDigits m))) ∧ Ex w w' := by
 induction m using Nat.strongRecOn with
 | _ m ih =>
  intro hm w
  by_cases h10 : m < 10
  ·rw [Xj h10]
   have h10i : (m : Int) < 10 := by omega
   have hw1 : IntKind.i64.wrap (48 + (m : Int)) = 48 + (m : Int) := Oc _ (by omega)
   have hcv := Pv (Box.new w #[.int .u8 (48 + (m : Int))] 5) (by omega) (by omega)
   have htn : (48 + (m : Int)).toNat = 48 + m := by omega
   rw [htn] at hcv
   clear htn
   generalize Bs [UInt8.ofNat (48 + m)] = S1 at hcv ⊢
   go_enter Tryz.func127, Tryz.ntmps127
   go_wp2
   go_ret
   exact ⟨rfl, (Ex.refl _).alloc _⟩
  ·rw [Us h10]
   have h10i : ¬ (m : Int) < 10 := by omega
   have hih := ih (m / 10) (by omega) (by omega)
   have hl1 : (Lib.decDigits (m / 10)).length ≤ 21 := Pw _ (by omega)
   obtain ⟨q, hq⟩ : ∃ q, q = m / 10 := ⟨_, rfl⟩
   obtain ⟨r, hr⟩ : ∃ r, r = m % 10 := ⟨_, rfl⟩
   have hqm : q ≤ 922337203685477581 := by omega
   have hq2 : (m : Int).tdiv 10 = (q : Int) := by rw [hq]; exact (Int.ofNat_tdiv m 10).symm
   have hr2 : (m : Int).tmod 10 = (r : Int) := by rw [hr]; exact (Int.ofNat_tmod m 10).symm
   have hr3 : r < 10 := by omega
   rw [← hq] at hih hl1 ⊢
   rw [← hr]
   clear hq hr ih
   have hw1 : IntKind.i64.wrap (48 + (r : Int)) = 48 + (r : Int) := Oc _ (by omega)
   have hw2 : IntKind.i64.wrap (q : Int) = (q : Int) := Oc _ (by omega)
   have hw3 : IntKind.u8.wrap (48 + (r : Int)) = 48 + (r : Int) := by
    show (48 + (r : Int)) % 256 = _
    omega
   obtain ⟨hz, hcat⟩ := Te (Lib.decDigits q) [UInt8.ofNat (48 + r)] (by simp; omega)
   have hone : ∀ W b, Box W b 5 #[.int .u8 (48 + (r : Int))] → (convert 22 9 (.slice (some ⟨b, 0, none⟩) 1 1)).run Tryz.prog W = .ok (.string (Bs [UInt8.ofNat (48 + r)])) W := fun W b hb => by
    have h := Pv hb (by omega) (by omega)
    have htn : (48 + (r : Int)).toNat = 48 + r := by omega
    rw [htn] at h
    exact h
   generalize Bs (Lib.decDigits q ++ [UInt8.ofNat (48 + r)]) = S3 at hcat ⊢
   generalize Bs [UInt8.ofNat (48 + r)] = S2 at hcat hz hone
   generalize Bs (Lib.decDigits q) = S1 at hcat hz hih
   have HO := Oi hone
   have HI := Oi hih
   clear hone hih hl1
   go_enter Tryz.func127, Tryz.ntmps127
   go_wp2_with fail
   have hcv0 := HO.out _ _ (Box.new w #[.int .u8 (48 + (r : Int))] 5)
   have hcv1 := HO.out (w.alloc (.cells #[.int .u8 (48 + (r : Int))] 5)).drew _ (Box.drew (Box.new w #[.int .u8 (48 + (r : Int))] 5))
   go_region_law (first
    | (go_simp; go_at_call 127; refine (HI.out w.drew).mono ?_; rintro e w3 ⟨rfl, hx3⟩; have hx4 : Ex w w3 := Ex.trans (Ex.refl _).drew hx3; have hcv2 := HO.out (w3.alloc (.cells #[.int .u8 (48 + (r : Int))] 5)) w3.heap.size (Box.new w3 _ _))
    | (go_simp; go_at_call 127; refine (HI.out (w.alloc (.cells #[.int .u8 (48 + (r : Int))] 5)).drew).mono ?_; rintro e w3 ⟨rfl, hx3⟩; have hx4 : Ex w w3 := Ex.trans ((Ex.refl _).alloc _).drew hx3; have hcv2 := HO.out w3 w.heap.size ((Box.drew (Box.new w _ _)).ex hx3)))
   all_goals
    go_wp2
    go_ret
    exact ⟨rfl, by repeat' (with_reducible first | exact Ex.refl _ | assumption | apply Ex.alloc | apply Ex.drewN | apply Ex.drew | refine Ex.setCell ?_ (by simp <;> omega) _)⟩
theorem dec_neg (m : Nat) (h1 : 1 ≤ m) (h : m < 9223372036854775808) (w : World) : Calls Tryz.prog 127 #[.int .i64 (-(m : Int))] w fun e w' => e = .returned (.string (Bs (45 :: Lib.decDigits m))) ∧ Ex w w' := by
 have hih := dec_nat m h
 have hl1 : (Lib.decDigits m).length ≤ 21 := Pw _ h
 obtain ⟨hz, hcat⟩ := Td 45 (Lib.decDigits m) (by omega)
 generalize Bs (45 :: Lib.decDigits m) = S3 at hcat ⊢
 generalize Bs (Lib.decDigits m) = S1 at hcat hz hih
 clear hl1
 have HI := Oi hih
 clear hih
 have hlo : ¬ (-(m : Int)) < -9223372036854775807 := by omega
 have hlo2 : (-(m : Int)) < 0 := by omega
 have hng : IntKind.i64.wrap (- -(m : Int)) = (m : Int) := by rw [Int.neg_neg]; exact Oc _ (by omega)
 have hng2 : IntKind.i64.wrap (m : Int) = (m : Int) := Oc _ (by omega)
 go_enter Tryz.func127, Tryz.ntmps127
 go_wp2_with fail
 refine (HI.out _).mono ?_
 rintro e w1 ⟨rfl, hx⟩
 go_wp2
 go_ret
 exact ⟨rfl, hx⟩
theorem Wm (n : Int) (h0 : -9223372036854775807 ≤ n) (h1 : n ≤ 9223372036854775807) (w : World) : Calls Tryz.prog 127 #[.int .i64 n] w fun e w' => e = .returned (.string (Bs (Lib.itoa n))) ∧ Ex w w' := by
 by_cases hn : n < 0
 ·obtain ⟨m, rfl⟩ : ∃ m : Nat, n = -(m : Int) := ⟨n.natAbs, by omega⟩
  rw [Lib.itoa_neg m (by omega)]
  exact dec_neg m (by omega) (by omega) w
 ·obtain ⟨m, rfl⟩ : ∃ m : Nat, n = (m : Int) := ⟨n.toNat, by omega⟩
  rw [Lib.itoa_nonneg]
  exact dec_nat m (by omega) w
theorem Oz (n : Int) (h0 : -9223372036854775807 ≤ n) (h1 : n ≤ 9223372036854775807) (w : World) (ht : Tab w) : Calls Tryz.prog 61 #[.int .i64 n] w fun e w' => e = .returned (.string (Bs (sgn n))) ∧ Ex w w' := by
 have hk := fun w ht => Sa n (by omega) (by omega) w ht
 have hl := Ur n (by omega) (by omega)
 obtain ⟨hz, hcat⟩ := Td 43 (Lib.itoa n) (by omega)
 by_cases hn : n < 0
 ·have e : sgn n = Lib.itoa n := if_pos hn
  rw [e]
  clear e hz hcat hl
  generalize Bs (Lib.itoa n) = S1 at hk ⊢
  have HK := Oi hk
  have HT := Oi ht
  clear hk ht
  go_enter Tryz.func61, Tryz.ntmps61
  go_wp2_with fail
  refine (HK.out _ HT.out).mono ?_
  rintro e w1 ⟨rfl, hx⟩
  go_wp2
  go_ret
  exact ⟨rfl, hx⟩
 ·have e : sgn n = 43 :: Lib.itoa n := if_neg hn
  rw [e]
  clear e hl
  generalize Bs (43 :: Lib.itoa n) = S2 at hcat ⊢
  generalize Bs (Lib.itoa n) = S1 at hk hz hcat
  have HK := Oi hk
  have HT := Oi ht
  clear hk ht
  go_enter Tryz.func61, Tryz.ntmps61
  go_wp2_with fail
  refine (HK.out _ HT.out).mono ?_
  rintro e w1 ⟨rfl, hx⟩
  go_wp2
  go_ret
  exact ⟨rfl, hx⟩
def GotS (w : World) (r : List UInt8 × Bool) : Ending → World → Prop := fun e w' => e = .returned (.tuple #[.string (Bs r.1), .bool r.2]) ∧ Ex w w'
def Qc (x : Fr) : List UInt8 := sgn x.re ++ sgn x.im ++ [105]
theorem txt_one {x : Fr} (h : x.den = 1) : txt x = Qc x := by simp [txt, Qc, h]
theorem txt_more {x : Fr} (h : ¬ x.den = 1) : txt x = Qc x ++ 47 :: Lib.itoa x.den := by simp [txt, Qc, h]
theorem Tb {x : Fr} (h : x.valid = true) : (sgn x.re).length ≤ 22 ∧ (sgn x.im).length ≤ 22 ∧ (Lib.itoa x.den).length ≤ 21 ∧ (Qc x).length ≤ 45 ∧ (txt x).length ≤ 67 := by
 obtain ⟨p1, p2, p3, -⟩ := Fr.valid_out h
 have l1 := sgn_len x.re (by omega) (by omega)
 have l2 := sgn_len x.im (by omega) (by omega)
 have l3 := Ur x.den (by omega) (by omega)
 have l4 : (Qc x).length ≤ 45 := by simp [Qc]; omega
 refine ⟨l1, l2, l3, l4, ?_⟩
 by_cases h1 : x.den = 1
 ·rw [txt_one h1]; omega
 ·rw [txt_more h1]; simp; omega

theorem Ta (x : Fr) (w : World) (ht : Tab w) : Calls Tryz.prog 19 #[x.v] w (GotS w (Xe x)) := by
 have kv := fun w => Ya x.re x.im x.den w
 have hvv : Zk x.re x.im x.den = x.valid := rfl
 simp only [hvv] at kv
 rcases hv : x.valid with _ | _
 ·have e : Xe x = ([], false) := by simp [Xe, hv]
  rw [e]
  rw [hv] at kv
  clear e hv hvv
  obtain ⟨a1, a2, a3⟩ := x
  show Calls _ _ #[.agg #[.int .i64 a1, .int .i64 a2, .int .i64 a3]] _ _
  have KV := Oi kv
  clear kv
  go_enter Tryz.func19, Tryz.ntmps19
  go_wp2_with fail
  refine (KV.out _).mono ?_
  rintro e w1 ⟨rfl, hx⟩
  go_wp2
  refine Od (v := .tuple #[.string ⟨#[]⟩, .bool false]) ?_ rfl ⟨rfl, ?_⟩
  ·simp [results, Tryz.results19, go_sem]
  ·exact ((Ex.refl _).alloc _).trans hx
 ·have e : Xe x = (txt x, true) := by simp [Xe, hv]
  rw [e]
  rw [hv] at kv
  obtain ⟨p1, p2, p3, -⟩ := Fr.valid_out hv
  obtain ⟨l1, l2, l3, l4, l5⟩ := Tb hv
  have k1 := fun w ht => Oz x.re (by omega) (by omega) w ht
  have k2 := fun w ht => Oz x.im (by omega) (by omega) w ht
  have k3 := fun w ht => Sa x.den (by omega) (by omega) w ht
  obtain ⟨z1, t1⟩ := Te (sgn x.re) (sgn x.im) (by omega)
  obtain ⟨z2, t2⟩ := cat_back (sgn x.re ++ sgn x.im) 105 (by simp; omega)
  obtain ⟨z3, t3⟩ := Td 47 (Lib.itoa x.den) (by omega)
  obtain ⟨z4, t4⟩ := Te (Qc x) (47 :: Lib.itoa x.den) (by simp; omega)
  have e2 : sgn x.re ++ sgn x.im ++ [105] = Qc x := rfl
  rw [e2] at t2
  have HT := Oi ht
  have HD : Hid (if x.den = 1 then txt x = Qc x else txt x = Qc x ++ 47 :: Lib.itoa x.den) := Oi (by split; exact txt_one ‹_›; exact txt_more ‹_›)
  clear e hv hvv l1 l2 l3 l4 l5 e2 ht p1 p2
  obtain ⟨a1, a2, a3⟩ := x
  simp only at k1 k2 k3 z1 t1 z2 t2 z3 t3 z4 t4 kv HD p3
  show Calls _ _ #[.agg #[.int .i64 a1, .int .i64 a2, .int .i64 a3]] _ _
  generalize txt ⟨a1, a2, a3⟩ = T at HD ⊢
  generalize Qc ⟨a1, a2, a3⟩ = TI at HD t2 z4 t4
  show Calls _ _ _ w fun e w' => e = .returned (.tuple #[.string (Bs T), .bool true]) ∧ Ex w w'
  have HDB : Hid (if a3 = 1 then Bs T = Bs TI else Bs T = Bs (TI ++ 47 :: Lib.itoa a3)) := Oi (by
   have := HD.out
   split at this
   ·rw [if_pos (by assumption), this]
   ·rw [if_neg (by assumption), this])
  generalize Bs T = ST at HDB ⊢
  generalize Bs (TI ++ 47 :: Lib.itoa a3) = S6 at t4 HDB
  generalize Bs (47 :: Lib.itoa a3) = S5 at t3 z4 t4
  generalize Bs TI = SI at t2 z4 t4 HDB
  generalize Bs (sgn a1 ++ sgn a2) = S12 at t1 z2 t2
  generalize Bs (sgn a1) = S1 at k1 z1 t1
  generalize Bs (sgn a2) = S2 at k2 z1 t1
  generalize Bs (Lib.itoa a3) = S4 at k3 z3 t3
  clear HD
  have KV := Oi kv
  have K1 := Oi k1
  have K2 := Oi k2
  have K3 := Oi k3
  clear kv k1 k2 k3 p3
  go_enter Tryz.func19, Tryz.ntmps19
  go_wp2_with fail
  refine (KV.out _).mono ?_
  rintro e w1 ⟨rfl, hx⟩
  have bA := (Box.new _ _ _).ex hx
  replace hx := ((Ex.refl _).alloc _).trans hx
  have d1 : w1.cell? ⟨w.heap.size, 0, none⟩ = some (.int .i64 a1) := bA.cell 0
  have d2 : w1.cell? ⟨w.heap.size, 1, none⟩ = some (.int .i64 a2) := bA.cell 1
  have d3 : w1.cell? ⟨w.heap.size, 2, none⟩ = some (.int .i64 a3) := bA.cell 2
  have HTr : Hid (∀ W, Ex w1 W → Tab W) := Oi (fun W h => HT.out.ex (hx.trans h))
  have hE := Oi hx
  clear KV hx
  go_upto_region 3 with fail
  go_cut [4] (fun s wx => s = .string SI ∧ Ex w1 wx)
  case first =>
   clear bA HDB
   go_region_held3 (fun w' => w'.cell? ⟨w.heap.size, 0, none⟩ = some (.int .i64 a1) ∧ w'.cell? ⟨w.heap.size, 1, none⟩ = some (.int .i64 a2) ∧ w'.cell? ⟨w.heap.size, 2, none⟩ = some (.int .i64 a3)) (go_keep) (first
    | (go_at_call 61; refine (K2.out wn (HTr.out wn hF)).mono ?_; rintro e wm ⟨rfl, hx⟩; have hG := Ex.trans hF hx; have d1 := hx.get d1; have d2 := hx.get d2; have d3 := hx.get d3)
    | (go_at_call 61; refine (K1.out w1.drew (HTr.out w1.drew (Ex.refl w1).drew)).mono ?_; rintro e wn ⟨rfl, hx⟩; have hF := Ex.trans (Ex.refl w1).drew hx; have d1 := hx.get d1; have d2 := hx.get d2; have d3 := hx.get d3))
   all_goals
    go_wp2_with fail
    go_meet
    exact ⟨rfl, by repeat' (with_reducible first | exact Ex.refl _ | assumption | apply Ex.alloc | apply Ex.drewN | apply Ex.drew | refine Ex.setCell ?_ (by simp <;> omega) _)⟩
  case rest =>
   obtain ⟨rfl, hx⟩ := hcut
   have hE2 := hE.out.trans hx
   have HT2 := Oi (HTr.out _ hx)
   have bA2 := bA.ex hx
   have cA2 := bA2.cell
   clear hx d1 d2 d3 bA K1 K2 hE HTr
   by_cases h1 : a3 = 1
   ·have hd := HDB.out
    rw [if_pos h1] at hd
    subst h1 hd
    go_wp2
    refine Od (v := .tuple #[.string ST, .bool true]) ?_ rfl ⟨rfl, hE2⟩
    simp [results, Tryz.results19, go_sem]
   ·have hd := HDB.out
    rw [if_neg h1] at hd
    subst hd
    have h1b : (a3 == 1) = false := by simpa using h1
    go_wp2_with fail
    refine (K3.out _ HT2.out).mono ?_
    rintro e w3 ⟨rfl, hx⟩
    go_wp2
    refine Od (v := .tuple #[.string ST, .bool true]) ?_ rfl ⟨rfl, hE2.trans hx⟩
    simp [results, Tryz.results19, go_sem]
end
section
open Go.RowKit

def Sv (a b c d : Fr) : Value := .agg #[.int .i64 a.re, .int .i64 a.im, .int .i64 a.den, .int .i64 b.re, .int .i64 b.im, .int .i64 b.den, .int .i64 c.re, .int .i64 c.im, .int .i64 c.den, .int .i64 d.re, .int .i64 d.im, .int .i64 d.den]
def rok (x : Fr) : Bool := x.valid && decide (x.im = 0)
def svalid (a b c d : Fr) : Bool := rok a && (rok b && (rok c && rok d))
end
section
theorem Tk {n : Int} (h : 0 ≤ n) : Lib.itoa n = Lib.decDigits n.natAbs := by
 by_cases h1 : 1 ≤ n
 ·exact itoa_den h1
 ·have : n = 0 := by omega
  subst this
  rfl
theorem itoa_neg {n : Int} (h : n < 0) : Lib.itoa n = 45 :: Lib.decDigits n.natAbs := by
 have := sgn_form n
 unfold sgn sign1 at this
 rw [if_pos h, if_pos h] at this
 exact this
theorem dec_head (u : Nat) : ∀ t, Lib.decDigits u ≠ 45 :: t := by
 intro t h
 have := Ry u 45 (by rw [h]; exact List.mem_cons_self)
 revert this
 decide
theorem Yg {n : Int} (h0 : -100 ≤ n) (h1 : n ≤ 100) : (Lib.itoa n).length ≤ 4 := by
 have h : (Lib.decDigits n.natAbs).length ≤ 3 := dec_short _ 2 (by omega)
 by_cases hn : n < 0
 ·rw [itoa_neg hn]; simp; omega
 ·rw [Tk (by omega)]; omega
theorem itoa_pos (n : Int) : 1 ≤ (Lib.itoa n).length := by
 by_cases hn : n < 0
 ·rw [itoa_neg hn]; simp
 ·rw [Tk (by omega)]
  have : (Lib.decDigits n.natAbs).length ≠ 0 := fun e => dec_ne _ (List.length_eq_zero_iff.1 e)
  omega

def nfold (n : Nat) (c : UInt8) : Nat := 10 * n + (c.toNat - 48)
theorem fold_dec : ∀ u : Nat, (Lib.decDigits u).foldl nfold 0 = u := by
 intro u
 induction u using Nat.strongRecOn with
 | ind u ih =>
  by_cases hu : u < 10
  ·rw [Xj hu]
   show 10 * 0 + ((UInt8.ofNat (48 + u)).toNat - 48) = u
   rw [Wj hu]
   omega
  ·rw [Us hu, List.foldl_append, ih (u / 10) (by omega)]
   show 10 * (u / 10) + ((UInt8.ofNat (48 + u % 10)).toNat - 48) = u
   rw [Wj (Nat.mod_lt _ (by omega))]
   omega

def Zh (l : List UInt8) : Option Int := match Lib.atoiAll l with
 | .ok n => if Lib.itoa n = l then some n else none
 | _ => none
theorem Wp {l : List UInt8} {n : Int} (h : Zh l = some n) : Lib.atoiAll l = .ok n ∧ Lib.itoa n = l := by
 unfold Zh at h
 rcases ha : Lib.atoiAll l with m | _ | _
 ·
  rw [ha] at h
  simp only at h
  split at h
  ·injection h with h
   subst h
   exact ⟨rfl, by assumption⟩
  ·cases h
 · rw [ha] at h; cases h
 · rw [ha] at h; cases h
theorem Oy {l : List UInt8} {n : Int} (h : Lib.atoiAll l = .ok n) : Zh l = if Lib.itoa n = l then some n else none := by
 unfold Zh
 rw [h]
theorem numOf_itoa {n : Int} (h0 : -2000000000 ≤ n) (h1 : n ≤ 2000000000) : Zh (Lib.itoa n) = some n := by
 have : Lib.atoiAll (Lib.itoa n) = .ok n := by
  by_cases hn : n < 0
  ·have e : Lib.itoa n = sgn n := by unfold sgn; rw [if_pos hn]
   rw [e]
   exact atoi_sgn h0 h1
  ·by_cases hz : n = 0
   ·subst hz
    rw [Tk (Int.le_refl 0), show (0 : Int).natAbs = 0 from rfl, Xj (by omega)]
    rfl
   ·exact atoi_den (by omega) h1
 rw [Oy this, if_pos rfl]
theorem numOf_nil : Zh [] = none := rfl
def Up : List UInt8 → List UInt8
 | [] => []
 | c :: t => if c = 45 then t else c :: t
theorem strip_snoc {l : List UInt8} {c : UInt8} (h : l = [] → c ≠ 45) : Up (l ++ [c]) = Up l ++ [c] := by
 cases l with
 | nil => simp [Up, h rfl]
 | cons d t =>
  simp only [List.cons_append, Up]
  split <;> simp
def numB (k : Nat) (c : UInt8) : Bool := (decide (k = 0) && decide (c = 45)) || Uz c
theorem Ox {n : Int} {k : Nat} {c : UInt8} {t : List UInt8} {p : List UInt8} (h : Lib.itoa n = p ++ c :: t) (hk : p.length = k) : numB k c = true := by
 unfold numB
 by_cases hn : n < 0
 ·rw [itoa_neg hn] at h
  cases p with
  | nil =>
   simp only [List.nil_append] at h
   injection h with h1 h2
   subst h1
   simp at hk
   subst hk
   simp
  | cons d p =>
   injection h with h1 h2
   rw [Ry n.natAbs c (by rw [h2]; simp)]
   simp
 ·rw [Tk (by omega)] at h
  rw [Ry n.natAbs c (by rw [h]; simp)]
  simp
def sg (l : List UInt8) : Int := if l.head? = some 45 then -1 else 1
theorem strip_itoa {n : Int} : sg (Lib.itoa n) * ((Up (Lib.itoa n)).foldl nfold 0 : Nat) = n := by
 by_cases hn : n < 0
 ·rw [itoa_neg hn]
  simp only [Up, sg, List.head?_cons, if_true]
  rw [fold_dec]
  omega
 ·rw [Tk (by omega)]
  have e : Up (Lib.decDigits n.natAbs) = Lib.decDigits n.natAbs ∧ sg (Lib.decDigits n.natAbs) = 1 := by
   cases hd : Lib.decDigits n.natAbs with
   | nil => exact absurd hd (dec_ne _)
   | cons c t =>
    have hc : c ≠ 45 := fun e => dec_head n.natAbs t (by rw [hd, e])
    simp [Up, sg, hc]
  rw [e.1, e.2, fold_dec]
  omega
section
variable {α β : Type} {f : α → Option β}
def Yu (f : α → Option β) : List α → Option (List β)
 | [] => some []
 | a :: t => match f a, Yu f t with
  | some b, some r => some (b :: r)
  | _, _ => none
theorem mapO_cons {a : α} {t : List α} {b : β} {r : List β} (h : f a = some b) (k : Yu f t = some r) : Yu f (a :: t) = some (b :: r) := by
 simp [Yu, h, k]
theorem Ub {a : α} {t : List α} {r : List β} (h : Yu f (a :: t) = some r) : ∃ b r', f a = some b ∧ Yu f t = some r' ∧ r = b :: r' := by
 unfold Yu at h
 split at h
 ·rename_i b r' h1 h2
  exact ⟨b, r', h1, h2, by injection h with h; exact h.symm⟩
 ·cases h
theorem Xu {a : α} {b : β} (ha : f a = some b) : ∀ {l : List α} {r : List β}, Yu f l = some r → Yu f (l ++ [a]) = some (r ++ [b])
 | [], r, h => by
  simp only [Yu] at h
  injection h with h
  subst h
  exact mapO_cons ha rfl
 | x :: t, r, h => by
  obtain ⟨y, r', h1, h2, rfl⟩ := Ub h
  exact mapO_cons h1 (Xu ha h2)
theorem Uo {l : List α} : ∀ {r : List β}, Yu f l = some r → ∀ a ∈ l, ∃ b ∈ r, f a = some b := by
 induction l with
 | nil => intro r _ a ha; cases ha
 | cons x t ih =>
  intro r h a ha
  obtain ⟨y, r', h1, h2, rfl⟩ := Ub h
  rcases List.mem_cons.1 ha with rfl | ha
  ·exact ⟨y, by simp, h1⟩
  ·obtain ⟨b, hb, he⟩ := ih h2 a ha
   exact ⟨b, by simp [hb], he⟩
theorem Vl {l : List α} {a : α} (h : f a = none) (ha : a ∈ l) : Yu f l = none := by
 cases hr : Yu f l with
 | none => rfl
 | some r =>
  obtain ⟨b, -, hb⟩ := Uo hr a ha
  rw [h] at hb
  cases hb
theorem Xz : ∀ {l : List α} {r : List β}, Yu f l = some r → r.length = l.length
 | [], r, h => by
  simp only [Yu] at h
  injection h with h
  subst h
  rfl
 | x :: t, r, h => by
  obtain ⟨y, r', h1, h2, rfl⟩ := Ub h
  simp [Xz h2]
theorem Yk {l : List α} {k : Nat} (h : k < l.length) : l.take (k + 1) = l.take k ++ [l[k]] := List.take_succ_eq_append_getElem h
end

def Yv (k : UInt8) (ns : List Int) : Bool :=
 if k = 114 ∨ k = 102 then decide (ns.length = 2) && Yi (ns.getD 0 0) (ns.getD 1 0)
 else if k = 119 then decide (ns.length = 3) && Yi (ns.getD 0 0) (ns.getD 1 0) && Yo (ns.getD 2 0) 0 3
 else if k = 97 ∨ k = 100 then decide (ns.length = 2) && (Yo (ns.getD 1 0) 1 100 && Yo (ns.getD 0 0) 0 (ns.getD 1 0))
 else false
theorem dirOk_out {p q : Int} (h : Yi p q = true) : (-100 ≤ p ∧ p ≤ 100) ∧ (-100 ≤ q ∧ q ≤ 100) ∧ ¬ (p = 0 ∧ q = 0) := by
 unfold Yi at h
 simp only [Bool.and_eq_true, Bool.not_eq_true', Bool.and_eq_false_iff, decide_eq_false_iff_not] at h
 refine ⟨Yq h.1.1, Yq h.1.2, fun e => ?_⟩
 rcases h.2 with h2 | h2
 ·exact h2 e.1
 ·exact h2 e.2
def Zo : List UInt8 → Option (UInt8 × List Int)
 | [] => none
 | k :: t => match Yu Zh (cds t) with
  | some ns => if Yv k ns then some (k, ns) else none
  | none => none
def Zj (l : List UInt8) : Option (List (UInt8 × List Int)) :=
 if l = [] then some [] else match Yu Zo (wds l) with
  | some ps => if ps.length ≤ 12 then some ps else none
  | none => none
theorem Tj {l : List UInt8} {k : UInt8} {ns : List Int} (h : Zo l = some (k, ns)) : ∃ t, l = k :: t ∧ Yu Zh (cds t) = some ns ∧ Yv k ns = true := by
 cases l with
 | nil => cases h
 | cons c t =>
  rw [Zo] at h
  split at h
  ·rename_i ns' hn
   split at h
   ·rename_i hv
    injection h with h
    injection h with h1 h2
    subst h1 h2
    exact ⟨t, rfl, hn, hv⟩
   ·cases h
  ·cases h
theorem Zi {k : UInt8} {t : List UInt8} {ns : List Int} (h : Yu Zh (cds t) = some ns) : Zo (k :: t) = if Yv k ns then some (k, ns) else none := by
 rw [Zo, h]
theorem Wg {k : UInt8} {t : List UInt8} (h : Yu Zh (cds t) = none) : Zo (k :: t) = none := by
 rw [Zo, h]
theorem Vg {k : UInt8} {ns : List Int} (h : Yv k ns = true) :
  (ns.length = 2 ∨ ns.length = 3) ∧ (∀ n ∈ ns, -100 ≤ n ∧ n ≤ 100) ∧
  (((k = 114 ∨ k = 102) ∧ ∃ p q, ns = [p, q] ∧ Yi p q = true) ∨ (k = 119 ∧ ∃ p q m, ns = [p, q, m] ∧ Yi p q = true ∧ Yo m 0 3 = true) ∨
   ((k = 97 ∨ k = 100) ∧ ∃ p q, ns = [p, q] ∧ 1 ≤ q ∧ q ≤ 100 ∧ 0 ≤ p ∧ p ≤ q)) := by
 unfold Yv at h
 split at h
 ·rename_i hk
  simp only [Bool.and_eq_true, decide_eq_true_eq] at h
  obtain ⟨h1, h2⟩ := h
  match ns, h1 with
  | [p, q], _ =>
   simp only [List.getD_cons_zero, List.getD_cons_succ] at h2
   obtain ⟨b1, b2, -⟩ := dirOk_out h2
   exact ⟨.inl rfl, fun n hn => by rcases List.mem_cons.1 hn with rfl | hn; exact b1; rw [List.mem_singleton.1 hn]; exact b2, .inl ⟨hk, p, q, rfl, h2⟩⟩
 ·split at h
  ·rename_i hk
   simp only [Bool.and_eq_true, decide_eq_true_eq] at h
   obtain ⟨⟨h1, h2⟩, h3⟩ := h
   match ns, h1 with
   | [p, q, m], _ =>
    simp only [List.getD_cons_zero, List.getD_cons_succ] at h2 h3
    obtain ⟨b1, b2, -⟩ := dirOk_out h2
    have b3 := Yq h3
    exact ⟨.inr rfl, fun n hn => by
     rcases List.mem_cons.1 hn with rfl | hn
     ·exact b1
     rcases List.mem_cons.1 hn with rfl | hn
     ·exact b2
     ·rw [List.mem_singleton.1 hn]; omega, .inr (.inl ⟨hk, p, q, m, rfl, h2, h3⟩)⟩
  ·split at h
   ·rename_i hk
    simp only [Bool.and_eq_true, decide_eq_true_eq] at h
    obtain ⟨h1, h2, h3⟩ := h
    match ns, h1 with
    | [p, q], _ =>
     simp only [List.getD_cons_zero, List.getD_cons_succ] at h2 h3
     have b2 := Yq h2
     have b3 := Yq h3
     exact ⟨.inl rfl, fun n hn => by
      rcases List.mem_cons.1 hn with rfl | hn
      ·omega
      ·rw [List.mem_singleton.1 hn]; omega, .inr (.inr ⟨hk, p, q, rfl, by omega, by omega, by omega, by omega⟩)⟩
   ·cases h
theorem Vw {k : UInt8} {t x : List UInt8} (hx : x ∈ cds t) (h : ∀ m, Zh x = some m → 4 < x.length) : Zo (k :: t) = none := by
 cases hn : Yu Zh (cds t) with
 | none => exact Wg hn
 | some ns =>
  rw [Zi hn]
  split
  ·rename_i hv
   obtain ⟨-, hb, -⟩ := Vg hv
   obtain ⟨n, hn1, hn2⟩ := Uo hn x hx
   have h1 := h n hn2
   have h2 := Yg (hb n hn1).1 (hb n hn1).2
   rw [(Wp hn2).2] at h2
   omega
  ·rfl
theorem pieceOf_short {l : List UInt8} (h : l.length < 2) : Zo l = none := by
 match l, h with
 | [], _ => rfl
 | [k], _ => exact Wg (Vl (a := []) numOf_nil (by simp [cds]))
def tot (ws : List (List UInt8)) : Nat := (ws.map fun x => x.length + 1).sum
theorem tot_le {m : Nat} : ∀ {ws : List (List UInt8)}, (∀ x ∈ ws, x.length ≤ m) → tot ws ≤ ws.length * (m + 1)
 | [], _ => by simp [tot]
 | x :: ws, h => by
  have h1 := h x (by simp)
  have h2 := tot_le (m := m) (ws := ws) fun y hy => h y (by simp [hy])
  simp only [tot, List.map_cons, List.sum_cons, List.length_cons] at h2 ⊢
  rw [Nat.succ_mul]
  omega
theorem wds_tot : ∀ l : List UInt8, tot (wds l) = l.length + 1
 | [] => by simp [wds, tot]
 | b :: t => by
  have ih := wds_tot t
  by_cases hb : b = 32
  ·subst hb
   rw [Vp]
   simp only [tot, List.map_cons, List.sum_cons, List.length_cons, List.length_nil] at ih ⊢
   omega
  ·rw [Vo hb]
   cases hw : wds t with
   | nil => exact absurd hw (To t)
   | cons x r =>
    rw [hw] at ih
    simp only [pre, tot, List.headD_cons, List.tail_cons, List.map_cons, List.sum_cons, List.length_cons, List.length_append, List.length_nil] at ih ⊢
    omega
theorem cds_tot : ∀ l : List UInt8, tot (cds l) = l.length + 1
 | [] => by simp [cds, tot]
 | b :: t => by
  have ih := cds_tot t
  by_cases hb : b = 58
  ·subst hb
   rw [Vn]
   simp only [tot, List.map_cons, List.sum_cons, List.length_cons, List.length_nil] at ih ⊢
   omega
  ·rw [Vm hb]
   cases hw : cds t with
   | nil => exact absurd hw (Tm t)
   | cons x r =>
    rw [hw] at ih
    simp only [pre, tot, List.headD_cons, List.tail_cons, List.map_cons, List.sum_cons, List.length_cons, List.length_append, List.length_nil] at ih ⊢
    omega
theorem pieceOf_len {l : List UInt8} {p : UInt8 × List Int} (h : Zo l = some p) : l.length ≤ 15 := by
 obtain ⟨k, ns⟩ := p
 obtain ⟨t, rfl, hn, hv⟩ := Tj h
 obtain ⟨hl, hb, -⟩ := Vg hv
 have h1 : tot (cds t) ≤ (cds t).length * (4 + 1) := tot_le fun x hx => by
  obtain ⟨n, hn1, hn2⟩ := Uo hn x hx
  have h2 := Yg (hb n hn1).1 (hb n hn1).2
  rw [(Wp hn2).2] at h2
  exact h2
 rw [cds_tot] at h1
 have h2 := Xz hn
 have h3 : (cds t).length ≤ 3 := by omega
 have h4 : (cds t).length * (4 + 1) ≤ 3 * (4 + 1) := Nat.mul_le_mul_right _ h3
 simp only [List.length_cons]
 omega
theorem Ti {l : List UInt8} {ps : List (UInt8 × List Int)} (h : Zj l = some ps) (hne : l ≠ []) : Yu Zo (wds l) = some ps ∧ ps.length ≤ 12 := by
 unfold Zj at h
 rw [if_neg hne] at h
 split at h
 ·rename_i qs hq
  split at h
  ·injection h with h
   subst h
   exact ⟨hq, by assumption⟩
  ·cases h
 ·cases h
theorem Ow {l : List UInt8} {ps : List (UInt8 × List Int)} (hne : l ≠ []) (h : Yu Zo (wds l) = some ps) : Zj l = if ps.length ≤ 12 then some ps else none := by
 unfold Zj
 rw [if_neg hne, h]
theorem benchOf_no {l : List UInt8} (hne : l ≠ []) (h : Yu Zo (wds l) = none) : Zj l = none := by
 unfold Zj
 rw [if_neg hne, h]
theorem benchOf_nil : Zj [] = some [] := rfl
theorem benchOf_len {l : List UInt8} {ps : List (UInt8 × List Int)} (h : Zj l = some ps) : l.length ≤ 300 := by
 by_cases hne : l = []
 ·subst hne; simp
 ·obtain ⟨h1, h2⟩ := Ti h hne
  have h3 : tot (wds l) ≤ (wds l).length * (15 + 1) := tot_le fun x hx => by
   obtain ⟨p, -, hp⟩ := Uo h1 x hx
   exact pieceOf_len hp
  rw [wds_tot, ← Xz h1] at h3
  have h4 : ps.length * (15 + 1) ≤ 12 * (15 + 1) := Nat.mul_le_mul_right _ h2
  omega
theorem benchOf_many {l : List UInt8} (hne : l ≠ []) (h : 12 < (wds l).length) : Zj l = none := by
 cases hb : Zj l with
 | none => rfl
 | some ps =>
  obtain ⟨h1, h2⟩ := Ti hb hne
  rw [Xz h1] at h2
  omega
theorem Ql {l x : List UInt8} (hne : l ≠ []) (hx : x ∈ wds l) (h : Zo x = none) : Zj l = none := benchOf_no hne (Vl h hx)
end
section
open Go.RowKit

theorem Own.box {w : World} {lo : Nat} {e : TypeId} {sz : Nat} {A : Option Addr} {n cap : Nat} {cs : List Value} (h : Own w lo e sz (.slice A n cap) n cs) (hn : 0 < n) :
  ∃ g cur, A = some ⟨g, 0, none⟩ ∧ lo ≤ g ∧ Box w g e cur ∧ ∀ k, k < n * sz → cur[k]? = cs[k]? := by
 have h' := h
 rcases h.2 with ⟨hv, _⟩ | ⟨g, cap', cur, hv, hg, hh, hr⟩
 ·injection hv with e1 e2 e3
  omega
 ·injection hv with e1 e2 e3
  subst e1 e3
  refine ⟨g, cur, rfl, hg, hh, fun k hk => ?_⟩
  rw [← Box.cell (show Box w g e cur from hh) k]
  exact World.ownsRow.cellAt h' k hk
def BoxW (w : World) (g : Nat) (ls : List (List UInt8)) : Prop := ∃ cur, Box w g 9 cur ∧ ∀ k (hk : k < ls.length), cur[k]? = some (.string (Bs ls[k]))
def GotB (w : World) (ls : List (List UInt8)) : Ending → World → Prop := fun e w' =>
 ∃ g cap cur, e = .returned (.slice (some ⟨g, 0, none⟩) ls.length cap) ∧ w.heap.size ≤ g ∧ Box w' g 9 cur ∧ Hid (∀ k (hk : k < ls.length), cur[k]? = some (.string (Bs ls[k]))) ∧ Ex w w'
theorem splitBB (l : List UInt8) (hl : l.length ≤ 1048576) (w : World) (hm : Xm w) : Calls Tryz.prog 27 #[.string (Bs l), .string ⟨#[32]⟩] w (GotB w (wds l)) := by
 obtain ⟨m, hm⟩ := hm.max
 refine (Tryz.strings_Split (Bs l) ⟨#[32]⟩ m w (by rw [Zd]; omega) hm (by decide)).mono ?_
 rintro e w' ⟨rfl, rfl⟩
 rw [split_wds _ l rfl]
 refine ⟨w.heap.size, Lib.countB (Bs l) ⟨#[32]⟩ + 1, _, by rw [wds_count], Nat.le_refl _, Box.new w _ 9, Oi fun k hk => ?_, (Ex.refl _).alloc _⟩
 have hk0 := hk
 rw [wds_count] at hk
 simp [Lib.cellsOf, hk]
 exact ⟨_, List.getElem?_eq_getElem hk0, rfl⟩
theorem Pu (l : List UInt8) (hl : l.length ≤ 1048576) (w : World) (hm : Xm w) : Calls Tryz.prog 27 #[.string (Bs l), .string ⟨#[58]⟩] w (GotB w (cds l)) := by
 obtain ⟨m, hm⟩ := hm.max
 refine (Tryz.strings_Split (Bs l) ⟨#[58]⟩ m w (by rw [Zd]; omega) hm (by decide)).mono ?_
 rintro e w' ⟨rfl, rfl⟩
 rw [split_cds _ l rfl]
 refine ⟨w.heap.size, Lib.countB (Bs l) ⟨#[58]⟩ + 1, _, by rw [cds_count], Nat.le_refl _, Box.new w _ 9, Oi fun k hk => ?_, (Ex.refl _).alloc _⟩
 have hk0 := hk
 rw [cds_count] at hk
 simp [Lib.cellsOf, hk]
 exact ⟨_, List.getElem?_eq_getElem hk0, rfl⟩
theorem gotO_box {w : World} {ls : List (List UInt8)} (hne : ls ≠ []) {f : FuncId} {args : Array Value} (h : Calls Tryz.prog f args w (GotO w ls)) : Calls Tryz.prog f args w (GotB w ls) := by
 refine h.mono ?_
 rintro e w' ⟨A, cap, rfl, ho, hx⟩
 have hp : 0 < ls.length := List.length_pos_iff.2 hne
 obtain ⟨g, cur, rfl, hg, hb, hc⟩ := Own.box ho hp
 refine ⟨g, cap, cur, rfl, hg, hb, Oi fun k hk => ?_, hx⟩
 rw [hc k (by omega)]
 simp [Yd, hk]
theorem cutBB (l : List UInt8) (hl : l.length ≤ 1048576) (w : World) : Calls Tryz.prog 70 #[.string (Bs l), .int .u8 32] w (GotB w (wds l)) := gotO_box (To l) (l7Cut_own l hl w)
theorem cutCB (l : List UInt8) (hl : l.length ≤ 1048576) (w : World) : Calls Tryz.prog 70 #[.string (Bs l), .int .u8 58] w (GotB w (cds l)) := gotO_box (Tm l) (l7CutC_own l hl w)
structure Pc where
 k : UInt8
 g : Nat
 cap : Nat
 cur : Array Value
 ns : List Int
 S : ByteArray
def Pc.ok (w : World) (q : Pc) : Prop := Box w q.g 3 q.cur ∧ ∀ j, j < q.ns.length → q.cur[j]? = some (.int .i64 (q.ns.getD j 0))
def Pc.p (q : Pc) : UInt8 × List Int := (q.k, q.ns)
def Pc.ci (q : Pc) : List Value := [.int .u8 q.k.toNat, .slice (some ⟨q.g, 0, none⟩) q.ns.length q.cap, .string q.S]
def Pc.cs (q : Pc) : List Value := [.int .u8 q.k.toNat, .slice (some ⟨q.g, 0, none⟩) q.ns.length q.cap]
theorem Pc.ok.ex {w w' : World} {q : Pc} (h : q.ok w) (he : Ex w w') : q.ok w' := ⟨h.1.ex he, h.2⟩
def Pcs (w : World) (qs : List Pc) : Prop := ∀ q ∈ qs, q.ok w
theorem Pcs.ex {w w' : World} {qs : List Pc} (h : Pcs w qs) (he : Ex w w') : Pcs w' qs := fun q hq => (h q hq).ex he
theorem Pcs.keeps {w w' : World} {qs : List Pc} {lo : Nat} {e : TypeId} (h : Pcs w qs) (hk : Vk lo e w w') (hne : e ≠ 3) : Pcs w' qs := fun q hq => ⟨hk.box _ _ _ (h q hq).1 hne, (h q hq).2⟩
theorem Pcs.snoc {w : World} {qs : List Pc} {q : Pc} (h : Pcs w qs) (hq : q.ok w) : Pcs w (qs ++ [q]) := fun x hx => by
 rcases List.mem_append.1 hx with hx | hx
 ·exact h x hx
 ·rw [List.mem_singleton.1 hx]; exact hq
theorem Pcs.nil (w : World) : Pcs w [] := fun q hq => by cases hq
def Yb (qs : List Pc) : List Value := qs.flatMap Pc.ci
def Xt (qs : List Pc) : List Value := qs.flatMap Pc.cs
theorem cellsI_snoc (qs : List Pc) (q : Pc) : Yb (qs ++ [q]) = Yb qs ++ q.ci := by simp [Yb]
theorem cellsS_snoc (qs : List Pc) (q : Pc) : Xt (qs ++ [q]) = Xt qs ++ q.cs := by simp [Xt]
theorem Xb (qs : List Pc) : (Yb qs).length = 3 * qs.length := by
 induction qs with
 | nil => rfl
 | cons q t ih => simp only [Yb, List.flatMap_cons, List.length_append, Pc.ci, List.length_cons, List.length_nil] at ih ⊢; omega
theorem So (qs : List Pc) : (Xt qs).length = 2 * qs.length := by
 induction qs with
 | nil => rfl
 | cons q t ih => simp only [Xt, List.flatMap_cons, List.length_append, Pc.cs, List.length_cons, List.length_nil] at ih ⊢; omega
theorem Rb : ∀ (qs : List Pc) (k : Nat) (hk : k < qs.length), (Yb qs)[3 * k]? = some (.int .u8 qs[k].k.toNat) ∧ (Yb qs)[3 * k + 1]? = some (.slice (some ⟨qs[k].g, 0, none⟩) qs[k].ns.length qs[k].cap) ∧ (Yb qs)[3 * k + 2]? = some (.string qs[k].S)
 | [], k, hk => by simp at hk
 | q :: t, 0, hk => by simp [Yb, Pc.ci]
 | q :: t, k + 1, hk => by
  have ih := Rb t k (by simpa using hk)
  rw [show 3 * (k + 1) = 3 * k + 3 by omega, show 3 * k + 3 + 1 = 3 * k + 1 + 3 by omega, show 3 * k + 3 + 2 = 3 * k + 2 + 3 by omega]
  simpa [Yb, Pc.ci] using ih
theorem cellsS_at : ∀ (qs : List Pc) (k : Nat) (hk : k < qs.length), (Xt qs)[2 * k]? = some (.int .u8 qs[k].k.toNat) ∧ (Xt qs)[2 * k + 1]? = some (.slice (some ⟨qs[k].g, 0, none⟩) qs[k].ns.length qs[k].cap)
 | [], k, hk => by simp at hk
 | q :: t, 0, hk => by simp [Xt, Pc.cs]
 | q :: t, k + 1, hk => by
  have ih := cellsS_at t k (by simpa using hk)
  rw [show 2 * (k + 1) = 2 * k + 2 by omega, show 2 * k + 2 + 1 = 2 * k + 1 + 2 by omega]
  simpa [Xt, Pc.cs] using ih
def Ra (w : World) (l : List UInt8) : Ending → World → Prop := fun e w' =>
 (∃ q : Pc, Zo l = some q.p ∧ e = .returned (.tuple #[.agg q.ci.toArray, .bool true]) ∧ q.ok w' ∧ Ex w w') ∨
 (∃ (k : Int) (A : Option Addr) (n cap : Nat) (S : ByteArray), Zo l = none ∧ e = .returned (.tuple #[.agg #[.int .u8 k, .slice A n cap, .string S], .bool false]) ∧ Ex w w')
def Sn (w : World) (l : List UInt8) : Ending → World → Prop := fun e w' =>
 (∃ q : Pc, Zo l = some q.p ∧ e = .returned (.tuple #[.agg q.cs.toArray, .bool true]) ∧ q.ok w' ∧ Ex w w') ∨
 (∃ (k : Int) (A : Option Addr) (n cap : Nat), Zo l = none ∧ e = .returned (.tuple #[.agg #[.int .u8 k, .slice A n cap], .bool false]) ∧ Ex w w')
def BnGot (cells : List Pc → List Value) (w : World) (l : List UInt8) : Ending → World → Prop := fun e w' =>
 (∃ (qs : List Pc) (A : Option Addr) (cap : Nat), Zj l = some (qs.map Pc.p) ∧ e = .returned (.tuple #[.slice A qs.length cap, .bool true]) ∧ Slc w' A (cells qs) ∧ Pcs w' qs ∧ Ex w w') ∨
 (∃ (A : Option Addr) (n cap : Nat), Zj l = none ∧ e = .returned (.tuple #[.slice A n cap, .bool false]) ∧ Ex w w')
end
section
theorem Pt {α : Type} {l : List α} (h : l ≠ []) : ∃ x r, l = x :: r := by
 cases l with
 | nil => exact absurd rfl h
 | cons x r => exact ⟨x, r, rfl⟩
theorem wds_sum : ∀ l : List UInt8, l.length + 1 = ((wds l).map (fun x => x.length + 1)).sum
 | [] => rfl
 | b :: t => by
  have ih := wds_sum t
  obtain ⟨x, r, e⟩ := Pt (To t)
  by_cases hb : b = 32
  ·subst hb
   rw [Vp, List.map_cons, List.sum_cons, ← ih]
   simp
   omega
  ·rw [Vo hb, e]
   rw [e] at ih
   simp only [pre, List.headD_cons, List.tail_cons, List.map_cons, List.sum_cons, List.length_cons, List.length_append, List.length_nil] at ih ⊢
   omega
theorem wds_mem : ∀ (l : List UInt8), ∀ b ∈ l, b = 32 ∨ ∃ x ∈ wds l, b ∈ x
 | [], b, h => by cases h
 | c :: t, b, h => by
  obtain ⟨x, r, e⟩ := Pt (To t)
  by_cases hc : c = 32
  ·subst hc
   rcases List.mem_cons.1 h with rfl | h
   ·exact .inl rfl
   ·rcases wds_mem t b h with h1 | ⟨y, hy, hb⟩
    ·exact .inl h1
    ·exact .inr ⟨y, by rw [Vp]; exact List.mem_cons_of_mem _ hy, hb⟩
  ·rw [Vo hc, e]
   simp only [pre, List.headD_cons, List.tail_cons]
   rcases List.mem_cons.1 h with rfl | h
   ·exact .inr ⟨_, List.mem_cons_self, by simp⟩
   ·rcases wds_mem t b h with h1 | ⟨y, hy, hb⟩
    ·exact .inl h1
    ·rw [e] at hy
     rcases List.mem_cons.1 hy with rfl | hy
     ·exact .inr ⟨_, List.mem_cons_self, by simp [hb]⟩
     ·exact .inr ⟨y, List.mem_cons_of_mem _ hy, hb⟩
theorem cds_sum : ∀ l : List UInt8, l.length + 1 = ((cds l).map (fun x => x.length + 1)).sum
 | [] => rfl
 | b :: t => by
  have ih := cds_sum t
  obtain ⟨x, r, e⟩ := Pt (Tm t)
  by_cases hb : b = 58
  ·subst hb
   rw [Vn, List.map_cons, List.sum_cons, ← ih]
   simp
   omega
  ·rw [Vm hb, e]
   rw [e] at ih
   simp only [pre, List.headD_cons, List.tail_cons, List.map_cons, List.sum_cons, List.length_cons, List.length_append, List.length_nil] at ih ⊢
   omega
theorem cds_mem : ∀ (l : List UInt8), ∀ b ∈ l, b = 58 ∨ ∃ x ∈ cds l, b ∈ x
 | [], b, h => by cases h
 | c :: t, b, h => by
  obtain ⟨x, r, e⟩ := Pt (Tm t)
  by_cases hc : c = 58
  ·subst hc
   rcases List.mem_cons.1 h with rfl | h
   ·exact .inl rfl
   ·rcases cds_mem t b h with h1 | ⟨y, hy, hb⟩
    ·exact .inl h1
    ·exact .inr ⟨y, by rw [Vn]; exact List.mem_cons_of_mem _ hy, hb⟩
  ·rw [Vm hc, e]
   simp only [pre, List.headD_cons, List.tail_cons]
   rcases List.mem_cons.1 h with rfl | h
   ·exact .inr ⟨_, List.mem_cons_self, by simp⟩
   ·rcases cds_mem t b h with h1 | ⟨y, hy, hb⟩
    ·exact .inl h1
    ·rw [e] at hy
     rcases List.mem_cons.1 hy with rfl | hy
     ·exact .inr ⟨_, List.mem_cons_self, by simp [hb]⟩
     ·exact .inr ⟨y, List.mem_cons_of_mem _ hy, hb⟩
theorem sum_le {m : Nat} : ∀ (l : List (List UInt8)), (∀ x ∈ l, x.length ≤ m) → (l.map (fun x => x.length + 1)).sum ≤ l.length * (m + 1)
 | [], _ => by simp
 | x :: l, h => by
  have h1 := h x List.mem_cons_self
  have ih := sum_le l fun y hy => h y (List.mem_cons_of_mem _ hy)
  rw [List.map_cons, List.sum_cons, List.length_cons, Nat.add_mul]
  omega
theorem itoa_no {n : Int} {c : UInt8} (h : c ∈ Lib.itoa n) : c ≠ 10 := by
 obtain ⟨p, t, e⟩ := List.append_of_mem h
 have hb := Ox e rfl
 intro hc
 subst hc
 unfold numB at hb
 simp only [Bool.or_eq_true, Bool.and_eq_true, decide_eq_true_eq] at hb
 rcases hb with ⟨-, hb⟩ | hb
 ·exact absurd hb (by decide)
 ·exact absurd hb (by decide)
theorem piece_text {x : List UInt8} {k : UInt8} {ns : List Int} (h : Zo x = some (k, ns)) : x.length ≤ 15 ∧ ∀ b ∈ x, b ≠ 10 := by
 obtain ⟨t, rfl, hm, hv⟩ := Tj h
 obtain ⟨hl, hbd, hk⟩ := Vg hv
 have each : ∀ y ∈ cds t, y.length ≤ 4 ∧ ∀ b ∈ y, b ≠ 10 := by
  intro y hy
  obtain ⟨n, hn, he⟩ := Uo hm y hy
  obtain ⟨-, hi⟩ := Wp he
  have h1 := hbd n hn
  exact ⟨by rw [← hi]; exact Yg h1.1 h1.2, fun b hb => itoa_no (n := n) (by rw [hi]; exact hb)⟩
 have hs := cds_sum t
 have h2 := sum_le (m := 4) (cds t) fun y hy => (each y hy).1
 have h3 := Xz hm
 refine ⟨?_, fun b hb => ?_⟩
 ·rw [List.length_cons]
  have : (cds t).length ≤ 3 := by omega
  have h4 : (cds t).length * (4 + 1) ≤ 3 * (4 + 1) := Nat.mul_le_mul_right _ this
  omega
 ·rcases List.mem_cons.1 hb with rfl | hb
  ·intro e
   subst e
   rcases hk with ⟨h1 | h1, -⟩ | ⟨h1, -⟩ | ⟨h1 | h1, -⟩ <;> exact absurd h1 (by decide)
  ·rcases cds_mem t b hb with rfl | ⟨y, hy, hb⟩
   ·decide
   ·exact (each y hy).2 b hb
theorem Xa {l : List UInt8} {ps : List (UInt8 × List Int)} (h : Zj l = some ps) : l.length ≤ 191 ∧ (∀ b ∈ l, b ≠ 10) ∧ ps.length ≤ 12 := by
 unfold Zj at h
 split at h
 ·rename_i he
  subst he
  injection h with h
  subst h
  exact ⟨by simp, by simp, by simp⟩
 ·split at h
  ·rename_i ps' hm
   split at h
   ·rename_i hn
    injection h with h
    subst h
    have each : ∀ x ∈ wds l, x.length ≤ 15 ∧ ∀ b ∈ x, b ≠ 10 := by
     intro x hx
     obtain ⟨⟨k, ns⟩, -, he⟩ := Uo hm x hx
     exact piece_text he
    have hs := wds_sum l
    have h2 := sum_le (m := 15) (wds l) fun y hy => (each y hy).1
    have h3 := Xz hm
    have h4 : (wds l).length * (15 + 1) ≤ 12 * (15 + 1) := Nat.mul_le_mul_right _ (by omega)
    refine ⟨by omega, fun b hb => ?_, hn⟩
    rcases wds_mem l b hb with rfl | ⟨y, hy, hb⟩
    ·decide
    ·exact (each y hy).2 b hb
   ·cases h
  ·cases h
end
section
structure Con where
 b : List UInt8
 x : Fr
 y : Fr
def Con.new : Con := ⟨[], ⟨1, 0, 1⟩, ⟨0, 0, 1⟩⟩
def Con.cells (c : Con) : Array Value := #[.string (Bs c.b), .int .i64 c.x.re, .int .i64 c.x.im, .int .i64 c.x.den, .int .i64 c.y.re, .int .i64 c.y.im, .int .i64 c.y.den]
def Wk (l : List UInt8) : Int := match Zj l with
 | some ps => ps.length
 | none => -1
section
variable (st : Con → List UInt8 → Con × List UInt8)
def Rr : Con → List (List UInt8) → List UInt8 → Con × List UInt8
 | c, [], o => (c, o)
 | c, l :: ls, o => Rr (st c l).1 ls (o ++ ((st c l).2 ++ [10]))
theorem crun_end (c : Con) (ls : List (List UInt8)) (o : List UInt8) : Rr st c (ls.drop ls.length) o = (c, o) := by
 rw [List.drop_length]
 rfl
theorem crun_step {ls : List (List UInt8)} {i : Nat} (hi : i < ls.length) (c : Con) (o : List UInt8) : Rr st c (ls.drop i) o = Rr st (st c ls[i]).1 (ls.drop (i + 1)) (o ++ ((st c ls[i]).2 ++ [10])) := by
 rw [List.drop_eq_getElem_cons hi]
 rfl
def said (r : Con × List UInt8) : List UInt8 := r.2 ++ ([112, 105, 101, 99, 101, 115, 32] ++ (Lib.itoa (Wk r.1.b) ++ [10]))
def exec (text : List UInt8) : List UInt8 := said (Rr st Con.new (lns text).dropLast [])
end
def answer (o : ByteArray) (ok told : Bool) : ByteArray := if told then if ok then o else ⟨#[110, 111]⟩ else ⟨#[119, 104, 97, 116]⟩
def Sx (l : List UInt8) : List UInt8 × List UInt8 × Bool := Lib.cut l [32]
theorem bpcs_bd (l : List UInt8) : -1 ≤ Wk l ∧ Wk l ≤ 12 := by
 unfold Wk
 split
 ·rename_i h
  have := (Xa h).2.2
  omega
 ·omega
end
section
open Go.RowKit

def Shorts (cs : Array Value) (m : Nat) : Prop := ∀ k, k < cs.size → ∃ s : ByteArray, cs[k]? = some (.string s) ∧ s.size ≤ m
def OfD (m bo : Nat) (A : Option Addr) (n cap a : Nat) (w : World) : Ending → World → Prop := fun e w' =>
 ∃ s : ByteArray, e = .returned (.string s) ∧ s.size ≤ m ∧ Dr bo w w' ∧ Rdr w' bo A n cap (a + 1)
theorem of_any {W : World} {A : Option Addr} {bs : List Int} (hB : Vt W A bs) (hl : bs.length ≤ 2000) (bo cap a : Nat) (w : World) (hE : Ex W w) (hbo : W.heap.size ≤ bo)
  (hb : Rdr w bo A bs.length cap a) (ha : a ≤ 1000000) (g n m : Nat) (cs : Array Value) (t : TypeId) (hg : Box w g t cs) (hne : g ≠ bo) (hn : cs.size = n) (h1 : 1 ≤ n) (h2 : n ≤ 1000) (hs : Shorts cs m) :
  Calls Tryz.prog 68 #[.pointer (some ⟨bo, 0, none⟩), .slice (some ⟨g, 0, none⟩) n n] w (OfD m bo A bs.length cap a w) := by
 have hp := Ps hB hl bo cap a (n : Int) w hE hbo hb (by omega) (by omega) (by omega)
 have HP := Oi hp
 clear hp hB hl hb ha hE hbo
 go_enter Tryz.func68, Tryz.ntmps68
 go_wp2_with fail
 refine HP.out.mono ?_
 rintro e w1 ⟨v, rfl, hv0, hv1, hd, hb1⟩
 obtain ⟨j, rfl⟩ := Int.eq_ofNat_of_zero_le hv0
 have hj : j < cs.size := by omega
 obtain ⟨s, hs1, hs2⟩ := hs j hj
 have hc : w1.cell? ⟨g, j, none⟩ = some (.string s) := by rw [(hd.box _ _ _ hne hg).cell j, hs1]
 have hjI : (j : Int) < (n : Int) := hv1
 clear HP
 go_wp2
 go_ret
 exact ⟨s, rfl, hs2, hd, hb1⟩
theorem shorts_list {ss : List ByteArray} {m : Nat} (h : ∀ s ∈ ss, s.size ≤ m) : Shorts ((ss.map Value.string).toArray) m := by
 intro k hk
 have hk2 : k < ss.length := by simpa using hk
 refine ⟨ss[k], ?_, h _ (List.getElem_mem hk2)⟩
 simp [hk2]
end
end Go.Proofs.YtmjggolkopbcnaaGreatDoor
