/-
  Walks: texts of numbers and of fractions, the program's and the reference's.
-/
import Derived.Test.YtklkfkgpjjpaiaaGreatDoorTxtP
import Derived.Deep.RegionHeld3
import Derived.Deep.DeepCutAuto
set_option linter.unusedSimpArgs false
set_option linter.unusedVariables false
namespace Go.Proofs.YtklkfkgpjjpaiaaGreatDoor
open Go.RowKit

theorem decDigits_small {u : Nat} (h : u < 10) : Lib.decDigits u = [UInt8.ofNat (48 + u)] := by
  unfold Lib.decDigits
  rw [dif_pos h]
theorem decDigits_big {u : Nat} (h : ¬ u < 10) : Lib.decDigits u = Lib.decDigits (u / 10) ++ [UInt8.ofNat (48 + u % 10)] := by
  conv => lhs; unfold Lib.decDigits
  rw [dif_neg h]
theorem dec_len (m : Nat) (h : m < 9223372036854775808) : (Lib.decDigits m).length ≤ 21 := by
  have := Lib.itoa_length_le (m : Int) (by omega) (by omega)
  rw [Lib.itoa_nonneg] at this
  exact this

/-- A text of one byte, made of a slice of its own. -/
theorem run_one {w : World} {b : Nat} {n : Int} {t : TypeId} (h : Box w b t #[.int .u8 n]) (h0 : 0 ≤ n) (h1 : n < 256) : (convert 22 9 (.slice (some ⟨b, 0, none⟩) 1 1)).run Tryz.prog w = .ok (.string (Bs [UInt8.ofNat n.toNat])) w := by
  refine run_convert_bytes_back _ _ _ 5 ⟨b, 0, none⟩ 1 [UInt8.ofNat n.toNat] Tryz.underlying22 Tryz.underlying5 Tryz.underlying9 ?_
  intro j hj
  have hj0 : j = 0 := by simpa using hj
  subst hj0
  have e : ((⟨b, 0, none⟩ : Addr).add 0) = ⟨b, 0, none⟩ := rfl
  rw [e, h.cell 0]
  have e2 : ((UInt8.ofNat n.toNat).toNat : Int) = n := by
    have : (UInt8.ofNat n.toNat).toNat = n.toNat % 256 := UInt8.toNat_ofNat'
    omega
  simp only [List.getElem_cons_zero]
  rw [e2]
  rfl
set_option maxRecDepth 10000 in
set_option maxHeartbeats 1000000 in
theorem dec_nat (m : Nat) : m < 9223372036854775808 → ∀ w, Calls Tryz.prog 32 #[.int .i64 m] w fun e w' => e = .returned (.string (Bs (Lib.decDigits m))) ∧ Ex w w' := by
  induction m using Nat.strongRecOn with
  | _ m ih =>
    intro hm w
    by_cases h10 : m < 10
    · rw [decDigits_small h10]
      have h10i : (m : Int) < 10 := by omega
      have hw1 : IntKind.i64.wrap (48 + (m : Int)) = 48 + (m : Int) := IntWalk.i64_in _ (by omega)
      have hcv := run_one (Box.new w #[.int .u8 (48 + (m : Int))] 5) (by omega) (by omega)
      have htn : (48 + (m : Int)).toNat = 48 + m := by omega
      rw [htn] at hcv
      clear htn
      generalize Bs [UInt8.ofNat (48 + m)] = S1 at hcv ⊢
      go_enter Tryz.func32, Tryz.ntmps32
      go_wp2
      go_ret
      exact ⟨rfl, (Ex.refl _).alloc _⟩
    · rw [decDigits_big h10]
      have h10i : ¬ (m : Int) < 10 := by omega
      have hih := ih (m / 10) (by omega) (by omega)
      have hl1 : (Lib.decDigits (m / 10)).length ≤ 21 := dec_len _ (by omega)
      obtain ⟨q, hq⟩ : ∃ q, q = m / 10 := ⟨_, rfl⟩
      obtain ⟨r, hr⟩ : ∃ r, r = m % 10 := ⟨_, rfl⟩
      have hqm : q ≤ 922337203685477581 := by omega
      have hq2 : (m : Int).tdiv 10 = (q : Int) := by rw [hq]; exact (Int.ofNat_tdiv m 10).symm
      have hr2 : (m : Int).tmod 10 = (r : Int) := by rw [hr]; exact (Int.ofNat_tmod m 10).symm
      have hr3 : r < 10 := by omega
      rw [← hq] at hih hl1 ⊢
      rw [← hr]
      clear hq hr ih
      have hw1 : IntKind.i64.wrap (48 + (r : Int)) = 48 + (r : Int) := IntWalk.i64_in _ (by omega)
      have hw2 : IntKind.i64.wrap (q : Int) = (q : Int) := IntWalk.i64_in _ (by omega)
      have hw3 : IntKind.u8.wrap (48 + (r : Int)) = 48 + (r : Int) := by
        show (48 + (r : Int)) % 256 = _
        omega
      obtain ⟨hz, hcat⟩ := cat_facts (Lib.decDigits q) [UInt8.ofNat (48 + r)] (by simp; omega)
      have hone : ∀ W b, Box W b 5 #[.int .u8 (48 + (r : Int))] → (convert 22 9 (.slice (some ⟨b, 0, none⟩) 1 1)).run Tryz.prog W = .ok (.string (Bs [UInt8.ofNat (48 + r)])) W := fun W b hb => by
        have h := run_one hb (by omega) (by omega)
        have htn : (48 + (r : Int)).toNat = 48 + r := by omega
        rw [htn] at h
        exact h
      generalize Bs (Lib.decDigits q ++ [UInt8.ofNat (48 + r)]) = S3 at hcat ⊢
      generalize Bs [UInt8.ofNat (48 + r)] = S2 at hcat hz hone
      generalize Bs (Lib.decDigits q) = S1 at hcat hz hih
      have HO := Lib.hid hone
      have HI := Lib.hid hih
      clear hone hih hl1
      go_enter Tryz.func32, Tryz.ntmps32
      go_wp2_with fail
      have hcv0 := HO.out _ _ (Box.new w #[.int .u8 (48 + (r : Int))] 5)
      have hcv1 := HO.out (w.alloc (.cells #[.int .u8 (48 + (r : Int))] 5)).drew _ (Box.drew (Box.new w #[.int .u8 (48 + (r : Int))] 5))
      go_region_law (first
        | (go_simp; go_at_call 32; refine (HI.out w.drew).mono ?_; rintro e w3 ⟨rfl, hx3⟩; have hx4 : Ex w w3 := Ex.trans (Ex.refl _).drew hx3; have hcv2 := HO.out (w3.alloc (.cells #[.int .u8 (48 + (r : Int))] 5)) w3.heap.size (Box.new w3 _ _))
        | (go_simp; go_at_call 32; refine (HI.out (w.alloc (.cells #[.int .u8 (48 + (r : Int))] 5)).drew).mono ?_; rintro e w3 ⟨rfl, hx3⟩; have hx4 : Ex w w3 := Ex.trans ((Ex.refl _).alloc _).drew hx3; have hcv2 := HO.out w3 w.heap.size ((Box.drew (Box.new w _ _)).ex hx3)))
      all_goals
        go_wp2
        go_ret
        exact ⟨rfl, by repeat' (with_reducible first | exact Ex.refl _ | assumption | refine Ex.alloc ?_ _ | refine Ex.drewN ?_ _ | refine Ex.drew ?_ | refine Ex.setCell ?_ (by simp <;> omega) _)⟩
set_option maxRecDepth 10000 in
set_option maxHeartbeats 1000000 in
/-- A text of a number below zero. -/
theorem dec_neg (m : Nat) (h1 : 1 ≤ m) (h : m < 9223372036854775808) (w : World) : Calls Tryz.prog 32 #[.int .i64 (-(m : Int))] w fun e w' => e = .returned (.string (Bs (45 :: Lib.decDigits m))) ∧ Ex w w' := by
  have hih := dec_nat m h
  have hl1 : (Lib.decDigits m).length ≤ 21 := dec_len _ h
  obtain ⟨hz, hcat⟩ := cat_front 45 (Lib.decDigits m) (by omega)
  generalize Bs (45 :: Lib.decDigits m) = S3 at hcat ⊢
  generalize Bs (Lib.decDigits m) = S1 at hcat hz hih
  clear hl1
  have HI := Lib.hid hih
  clear hih
  have hlo : ¬ (-(m : Int)) < -9223372036854775807 := by omega
  have hlo2 : (-(m : Int)) < 0 := by omega
  have hng : IntKind.i64.wrap (- -(m : Int)) = (m : Int) := by rw [Int.neg_neg]; exact IntWalk.i64_in _ (by omega)
  have hng2 : IntKind.i64.wrap (m : Int) = (m : Int) := IntWalk.i64_in _ (by omega)
  go_enter Tryz.func32, Tryz.ntmps32
  go_wp2_with fail
  refine (HI.out _).mono ?_
  rintro e w1 ⟨rfl, hx⟩
  go_wp2
  go_ret
  exact ⟨rfl, hx⟩
theorem dec_any (n : Int) (h0 : -9223372036854775807 ≤ n) (h1 : n ≤ 9223372036854775807) (w : World) : Calls Tryz.prog 32 #[.int .i64 n] w fun e w' => e = .returned (.string (Bs (Lib.itoa n))) ∧ Ex w w' := by
  by_cases hn : n < 0
  · obtain ⟨m, rfl⟩ : ∃ m : Nat, n = -(m : Int) := ⟨n.natAbs, by omega⟩
    rw [Lib.itoa_neg m (by omega)]
    exact dec_neg m (by omega) (by omega) w
  · obtain ⟨m, rfl⟩ : ∃ m : Nat, n = (m : Int) := ⟨n.toNat, by omega⟩
    rw [Lib.itoa_nonneg]
    exact dec_nat m (by omega) w
set_option maxRecDepth 10000 in
set_option maxHeartbeats 1000000 in
theorem signed_any (n : Int) (h0 : -9223372036854775807 ≤ n) (h1 : n ≤ 9223372036854775807) (w : World) (ht : Tab w) : Calls Tryz.prog 50 #[.int .i64 n] w fun e w' => e = .returned (.string (Bs (sgn n))) ∧ Ex w w' := by
  have hk := fun w ht => itoa_any n (by omega) (by omega) w ht
  have hl := itoa_len n (by omega) (by omega)
  obtain ⟨hz, hcat⟩ := cat_front 43 (Lib.itoa n) (by omega)
  by_cases hn : n < 0
  · have e : sgn n = Lib.itoa n := if_pos hn
    rw [e]
    clear e hz hcat hl
    generalize Bs (Lib.itoa n) = S1 at hk ⊢
    have HK := Lib.hid hk
    have HT := Lib.hid ht
    clear hk ht
    go_enter Tryz.func50, Tryz.ntmps50
    go_wp2_with fail
    refine (HK.out _ HT.out).mono ?_
    rintro e w1 ⟨rfl, hx⟩
    go_wp2
    go_ret
    exact ⟨rfl, hx⟩
  · have e : sgn n = 43 :: Lib.itoa n := if_neg hn
    rw [e]
    clear e hl
    generalize Bs (43 :: Lib.itoa n) = S2 at hcat ⊢
    generalize Bs (Lib.itoa n) = S1 at hk hz hcat
    have HK := Lib.hid hk
    have HT := Lib.hid ht
    clear hk ht
    go_enter Tryz.func50, Tryz.ntmps50
    go_wp2_with fail
    refine (HK.out _ HT.out).mono ?_
    rintro e w1 ⟨rfl, hx⟩
    go_wp2
    go_ret
    exact ⟨rfl, hx⟩
set_option maxRecDepth 10000 in
set_option maxHeartbeats 1000000 in
theorem l14Signed_any (n : Int) (h0 : -9223372036854775807 ≤ n) (h1 : n ≤ 9223372036854775807) (w : World) : Calls Tryz.prog 31 #[.int .i64 n] w fun e w' => e = .returned (.string (Bs (sgn n))) ∧ Ex w w' := by
  have hk := fun w => dec_any n h0 h1 w
  have hl := itoa_len n (by omega) (by omega)
  obtain ⟨hz, hcat⟩ := cat_front 43 (Lib.itoa n) (by omega)
  by_cases hn : n < 0
  · have e : sgn n = Lib.itoa n := if_pos hn
    rw [e]
    clear e hz hcat hl
    generalize Bs (Lib.itoa n) = S1 at hk ⊢
    have HK := Lib.hid hk
    clear hk
    go_enter Tryz.func31, Tryz.ntmps31
    go_wp2_with fail
    refine (HK.out _).mono ?_
    rintro e w1 ⟨rfl, hx⟩
    go_wp2
    go_ret
    exact ⟨rfl, hx⟩
  · have e : sgn n = 43 :: Lib.itoa n := if_neg hn
    rw [e]
    clear e hl
    generalize Bs (43 :: Lib.itoa n) = S2 at hcat ⊢
    generalize Bs (Lib.itoa n) = S1 at hk hz hcat
    have HK := Lib.hid hk
    clear hk
    go_enter Tryz.func31, Tryz.ntmps31
    go_wp2_with fail
    refine (HK.out _).mono ?_
    rintro e w1 ⟨rfl, hx⟩
    go_wp2
    go_ret
    exact ⟨rfl, hx⟩

def GotS (w : World) (r : List UInt8 × Bool) : Ending → World → Prop := fun e w' => e = .returned (.tuple #[.string (Bs r.1), .bool r.2]) ∧ Ex w w'
def txtI (x : Fr) : List UInt8 := sgn x.re ++ sgn x.im ++ [105]
theorem txt_one {x : Fr} (h : x.den = 1) : txt x = txtI x := by simp [txt, txtI, h]
theorem txt_more {x : Fr} (h : ¬ x.den = 1) : txt x = txtI x ++ 47 :: Lib.itoa x.den := by simp [txt, txtI, h]
/-- What is known of the parts of a text. -/
theorem txt_facts {x : Fr} (h : x.valid = true) : (sgn x.re).length ≤ 22 ∧ (sgn x.im).length ≤ 22 ∧ (Lib.itoa x.den).length ≤ 21 ∧ (txtI x).length ≤ 45 ∧ (txt x).length ≤ 67 := by
  obtain ⟨p1, p2, p3, -⟩ := Fr.valid_out h
  have l1 := sgn_len x.re (by omega) (by omega)
  have l2 := sgn_len x.im (by omega) (by omega)
  have l3 := itoa_len x.den (by omega) (by omega)
  have l4 : (txtI x).length ≤ 45 := by simp [txtI]; omega
  refine ⟨l1, l2, l3, l4, ?_⟩
  by_cases h1 : x.den = 1
  · rw [txt_one h1]; omega
  · rw [txt_more h1]; simp; omega

set_option maxRecDepth 10000 in
set_option maxHeartbeats 1000000 in
theorem iFracText (x : Fr) (w : World) (ht : Tab w) : Calls Tryz.prog 28 #[x.v] w (GotS w (ftext x)) := by
  have kv := fun w => iFracValid x.re x.im x.den w
  have hvv : fvalid x.re x.im x.den = x.valid := rfl
  simp only [hvv] at kv
  rcases hv : x.valid with _ | _
  · have e : ftext x = ([], false) := by simp [ftext, hv]
    rw [e]
    rw [hv] at kv
    clear e hv hvv
    obtain ⟨a1, a2, a3⟩ := x
    show Calls _ _ #[.agg #[.int .i64 a1, .int .i64 a2, .int .i64 a3]] _ _
    have KV := Lib.hid kv
    clear kv
    go_enter Tryz.func28, Tryz.ntmps28
    go_wp2_with fail
    refine (KV.out _).mono ?_
    rintro e w1 ⟨rfl, hx⟩
    go_wp2
    refine bodyPost_ret (v := .tuple #[.string ⟨#[]⟩, .bool false]) ?_ rfl ⟨rfl, ?_⟩
    · simp [results, Tryz.results28, go_sem]
    · exact ((Ex.refl _).alloc _).trans hx
  · have e : ftext x = (txt x, true) := by simp [ftext, hv]
    rw [e]
    rw [hv] at kv
    obtain ⟨p1, p2, p3, -⟩ := Fr.valid_out hv
    obtain ⟨l1, l2, l3, l4, l5⟩ := txt_facts hv
    have k1 := fun w ht => signed_any x.re (by omega) (by omega) w ht
    have k2 := fun w ht => signed_any x.im (by omega) (by omega) w ht
    have k3 := fun w ht => itoa_any x.den (by omega) (by omega) w ht
    obtain ⟨z1, t1⟩ := cat_facts (sgn x.re) (sgn x.im) (by omega)
    obtain ⟨z2, t2⟩ := cat_back (sgn x.re ++ sgn x.im) 105 (by simp; omega)
    obtain ⟨z3, t3⟩ := cat_front 47 (Lib.itoa x.den) (by omega)
    obtain ⟨z4, t4⟩ := cat_facts (txtI x) (47 :: Lib.itoa x.den) (by simp; omega)
    have e2 : sgn x.re ++ sgn x.im ++ [105] = txtI x := rfl
    rw [e2] at t2
    have HT := Lib.hid ht
    have HD : Hid (if x.den = 1 then txt x = txtI x else txt x = txtI x ++ 47 :: Lib.itoa x.den) := Lib.hid (by split; exact txt_one ‹_›; exact txt_more ‹_›)
    clear e hv hvv l1 l2 l3 l4 l5 e2 ht p1 p2
    obtain ⟨a1, a2, a3⟩ := x
    simp only at k1 k2 k3 z1 t1 z2 t2 z3 t3 z4 t4 kv HD p3
    show Calls _ _ #[.agg #[.int .i64 a1, .int .i64 a2, .int .i64 a3]] _ _
    generalize txt ⟨a1, a2, a3⟩ = T at HD ⊢
    generalize txtI ⟨a1, a2, a3⟩ = TI at HD t2 z4 t4
    show Calls _ _ _ w fun e w' => e = .returned (.tuple #[.string (Bs T), .bool true]) ∧ Ex w w'
    have HDB : Hid (if a3 = 1 then Bs T = Bs TI else Bs T = Bs (TI ++ 47 :: Lib.itoa a3)) := Lib.hid (by
      have := HD.out
      split at this
      · rw [if_pos (by assumption), this]
      · rw [if_neg (by assumption), this])
    generalize Bs T = ST at HDB ⊢
    generalize Bs (TI ++ 47 :: Lib.itoa a3) = S6 at t4 HDB
    generalize Bs (47 :: Lib.itoa a3) = S5 at t3 z4 t4
    generalize Bs TI = SI at t2 z4 t4 HDB
    generalize Bs (sgn a1 ++ sgn a2) = S12 at t1 z2 t2
    generalize Bs (sgn a1) = S1 at k1 z1 t1
    generalize Bs (sgn a2) = S2 at k2 z1 t1
    generalize Bs (Lib.itoa a3) = S4 at k3 z3 t3
    clear HD
    have KV := Lib.hid kv
    have K1 := Lib.hid k1
    have K2 := Lib.hid k2
    have K3 := Lib.hid k3
    clear kv k1 k2 k3 p3
    go_enter Tryz.func28, Tryz.ntmps28
    go_wp2_with fail
    refine (KV.out _).mono ?_
    rintro e w1 ⟨rfl, hx⟩
    have bA := (Box.new _ _ _).ex hx
    replace hx := ((Ex.refl _).alloc _).trans hx
    have d1 : w1.cell? ⟨w.heap.size, 0, none⟩ = some (.int .i64 a1) := bA.cell 0
    have d2 : w1.cell? ⟨w.heap.size, 1, none⟩ = some (.int .i64 a2) := bA.cell 1
    have d3 : w1.cell? ⟨w.heap.size, 2, none⟩ = some (.int .i64 a3) := bA.cell 2
    have HTr : Hid (∀ W, Ex w1 W → Tab W) := Lib.hid (fun W h => HT.out.ex (hx.trans h))
    have hE := Lib.hid hx
    clear KV hx
    go_upto_region 3 with fail
    go_cut [4] (fun s wx => s = .string SI ∧ Ex w1 wx)
    case first =>
      clear bA HDB
      go_region_held3 (fun w' => w'.cell? ⟨w.heap.size, 0, none⟩ = some (.int .i64 a1) ∧ w'.cell? ⟨w.heap.size, 1, none⟩ = some (.int .i64 a2) ∧ w'.cell? ⟨w.heap.size, 2, none⟩ = some (.int .i64 a3)) (go_keep) (first
        | (go_at_call 50; refine (K2.out wn (HTr.out wn hF)).mono ?_; rintro e wm ⟨rfl, hx⟩; have hG := Ex.trans hF hx; have d1 := hx.get d1; have d2 := hx.get d2; have d3 := hx.get d3)
        | (go_at_call 50; refine (K1.out w1.drew (HTr.out w1.drew (Ex.refl w1).drew)).mono ?_; rintro e wn ⟨rfl, hx⟩; have hF := Ex.trans (Ex.refl w1).drew hx; have d1 := hx.get d1; have d2 := hx.get d2; have d3 := hx.get d3))
      all_goals
        go_wp2_with fail
        go_meet
        exact ⟨rfl, by repeat' (with_reducible first | exact Ex.refl _ | assumption | refine Ex.alloc ?_ _ | refine Ex.drewN ?_ _ | refine Ex.drew ?_ | refine Ex.setCell ?_ (by simp <;> omega) _)⟩
    case rest =>
      obtain ⟨rfl, hx⟩ := hcut
      have hE2 := hE.out.trans hx
      have HT2 := Lib.hid (HTr.out _ hx)
      have bA2 := bA.ex hx
      have cA2 := bA2.cell
      clear hx d1 d2 d3 bA K1 K2 hE HTr
      by_cases h1 : a3 = 1
      · have hd := HDB.out
        rw [if_pos h1] at hd
        subst h1 hd
        go_wp2
        refine bodyPost_ret (v := .tuple #[.string ST, .bool true]) ?_ rfl ⟨rfl, hE2⟩
        simp [results, Tryz.results28, go_sem]
      · have hd := HDB.out
        rw [if_neg h1] at hd
        subst hd
        have h1b : (a3 == 1) = false := by simpa using h1
        go_wp2_with fail
        refine (K3.out _ HT2.out).mono ?_
        rintro e w3 ⟨rfl, hx⟩
        go_wp2
        refine bodyPost_ret (v := .tuple #[.string ST, .bool true]) ?_ rfl ⟨rfl, hE2.trans hx⟩
        simp [results, Tryz.results28, go_sem]
set_option maxRecDepth 10000 in
set_option maxHeartbeats 1000000 in
theorem l14Text_any (x : Fr) (hv : x.valid = true) (w : World) : Calls Tryz.prog 16 #[x.v] w fun e w' => e = .returned (.string (Bs (txt x))) ∧ Ex w w' := by
  obtain ⟨p1, p2, p3, -⟩ := Fr.valid_out hv
  obtain ⟨l1, l2, l3, l4, l5⟩ := txt_facts hv
  have k1 := fun w => l14Signed_any x.re (by omega) (by omega) w
  have k2 := fun w => l14Signed_any x.im (by omega) (by omega) w
  have k3 := fun w => dec_any x.den (by omega) (by omega) w
  obtain ⟨z1, t1⟩ := cat_facts (sgn x.re) (sgn x.im) (by omega)
  obtain ⟨z2, t2⟩ := cat_back (sgn x.re ++ sgn x.im) 105 (by simp; omega)
  obtain ⟨z3, t3⟩ := cat_back (txtI x) 47 (by omega)
  obtain ⟨z4, t4⟩ := cat_facts (txtI x ++ [47]) (Lib.itoa x.den) (by simp; omega)
  have e3 : txtI x ++ [47] ++ Lib.itoa x.den = txtI x ++ 47 :: Lib.itoa x.den := by simp
  rw [e3] at t4
  have e2 : sgn x.re ++ sgn x.im ++ [105] = txtI x := rfl
  rw [e2] at t2
  have HD : Hid (if x.den = 1 then txt x = txtI x else txt x = txtI x ++ 47 :: Lib.itoa x.den) := Lib.hid (by split; exact txt_one ‹_›; exact txt_more ‹_›)
  clear hv l1 l2 l3 l4 l5 e2 e3 p1 p2
  obtain ⟨a1, a2, a3⟩ := x
  simp only at k1 k2 k3 z1 t1 z2 t2 z3 t3 z4 t4 HD p3
  show Calls _ _ #[.agg #[.int .i64 a1, .int .i64 a2, .int .i64 a3]] _ _
  generalize txt ⟨a1, a2, a3⟩ = T at HD ⊢
  generalize txtI ⟨a1, a2, a3⟩ = TI at HD t2 z3 t3 z4 t4
  show Calls _ _ _ w fun e w' => e = .returned (.string (Bs T)) ∧ Ex w w'
  have HDB : Hid (if a3 = 1 then Bs T = Bs TI else Bs T = Bs (TI ++ 47 :: Lib.itoa a3)) := Lib.hid (by
    have := HD.out
    split at this
    · rw [if_pos (by assumption), this]
    · rw [if_neg (by assumption), this])
  generalize Bs T = ST at HDB ⊢
  generalize Bs (TI ++ 47 :: Lib.itoa a3) = S6 at t4 HDB
  generalize Bs (TI ++ [47]) = S5 at t3 z4 t4
  generalize Bs TI = SI at t2 z3 t3 HDB
  generalize Bs (sgn a1 ++ sgn a2) = S12 at t1 z2 t2
  generalize Bs (sgn a1) = S1 at k1 z1 t1
  generalize Bs (sgn a2) = S2 at k2 z1 t1
  generalize Bs (Lib.itoa a3) = S4 at k3 z4 t4
  clear HD
  have K1 := Lib.hid k1
  have K2 := Lib.hid k2
  have K3 := Lib.hid k3
  clear k1 k2 k3 p3
  go_enter Tryz.func16, Tryz.ntmps16
  go_upto_region 1 with fail
  have bA : Box (w.alloc (.cells #[.int .i64 a1, .int .i64 a2, .int .i64 a3] 24)) w.heap.size 24 #[.int .i64 a1, .int .i64 a2, .int .i64 a3] := Box.new _ _ _
  have hE := Lib.hid ((Ex.refl w).alloc (.cells #[.int .i64 a1, .int .i64 a2, .int .i64 a3] 24))
  generalize hw1 : w.alloc (.cells #[.int .i64 a1, .int .i64 a2, .int .i64 a3] 24) = w1 at *
  clear hw1
  have d1 : w1.cell? ⟨w.heap.size, 0, none⟩ = some (.int .i64 a1) := bA.cell 0
  have d2 : w1.cell? ⟨w.heap.size, 1, none⟩ = some (.int .i64 a2) := bA.cell 1
  have d3 : w1.cell? ⟨w.heap.size, 2, none⟩ = some (.int .i64 a3) := bA.cell 2
  go_cut [3] (fun s wx => s = .string SI ∧ Ex w1 wx)
  case first =>
    clear bA HDB
    go_region_held3 (fun w' => w'.cell? ⟨w.heap.size, 0, none⟩ = some (.int .i64 a1) ∧ w'.cell? ⟨w.heap.size, 1, none⟩ = some (.int .i64 a2) ∧ w'.cell? ⟨w.heap.size, 2, none⟩ = some (.int .i64 a3)) (go_keep) (first
      | (go_at_call 31; refine (K2.out wn).mono ?_; rintro e wm ⟨rfl, hx⟩; have hG := Ex.trans hF hx; have d1 := hx.get d1; have d2 := hx.get d2; have d3 := hx.get d3)
      | (go_at_call 31; refine (K1.out w1.drew).mono ?_; rintro e wn ⟨rfl, hx⟩; have hF := Ex.trans (Ex.refl w1).drew hx; have d1 := hx.get d1; have d2 := hx.get d2; have d3 := hx.get d3))
    all_goals
      go_wp2_with fail
      go_meet
      exact ⟨rfl, by repeat' (with_reducible first | exact Ex.refl _ | assumption | refine Ex.alloc ?_ _ | refine Ex.drewN ?_ _ | refine Ex.drew ?_ | refine Ex.setCell ?_ (by simp <;> omega) _)⟩
  case rest =>
    obtain ⟨rfl, hx⟩ := hcut
    have hE2 := hE.out.trans hx
    have bA2 := bA.ex hx
    have cA2 := bA2.cell
    clear hx d1 d2 d3 bA K1 K2 hE
    by_cases h1 : a3 = 1
    · have hd := HDB.out
      rw [if_pos h1] at hd
      subst h1 hd
      go_wp2
      go_ret
      exact ⟨rfl, hE2⟩
    · have hd := HDB.out
      rw [if_neg h1] at hd
      subst hd
      have h1b : (a3 == 1) = false := by simpa using h1
      go_wp2_with fail
      refine (K3.out _).mono ?_
      rintro e w3 ⟨rfl, hx⟩
      go_wp2
      go_ret
      exact ⟨rfl, hE2.trans hx⟩
set_option maxRecDepth 10000 in
set_option maxHeartbeats 1000000 in
theorem sFracText (x : Fr) (w : World) : Calls Tryz.prog 41 #[x.v] w (GotS w (ftext x)) := by
  have kv := fun w => sFracValid x.re x.im x.den w
  have hvv : fvalid x.re x.im x.den = x.valid := rfl
  simp only [hvv] at kv
  rcases hv : x.valid with _ | _
  · have e : ftext x = ([], false) := by simp [ftext, hv]
    rw [e]
    rw [hv] at kv
    clear e hv hvv
    obtain ⟨a1, a2, a3⟩ := x
    show Calls _ _ #[.agg #[.int .i64 a1, .int .i64 a2, .int .i64 a3]] _ _
    have KV := Lib.hid kv
    clear kv
    go_enter Tryz.func41, Tryz.ntmps41
    go_wp2_with fail
    refine (KV.out _).mono ?_
    rintro e w1 ⟨rfl, hx⟩
    go_wp2
    refine bodyPost_ret (v := .tuple #[.string ⟨#[]⟩, .bool false]) ?_ rfl ⟨rfl, ?_⟩
    · simp [results, Tryz.results41, go_sem]
    · exact ((Ex.refl _).alloc _).trans hx
  · have e : ftext x = (txt x, true) := by simp [ftext, hv]
    rw [e]
    rw [hv] at kv
    have kt := fun w => l14Text_any x hv w
    show Calls _ _ _ w fun e w' => e = .returned (.tuple #[.string (Bs (txt x)), .bool true]) ∧ Ex w w'
    generalize Bs (txt x) = ST at kt ⊢
    clear e hv hvv
    obtain ⟨a1, a2, a3⟩ := x
    have KT : Hid (∀ w, Calls Tryz.prog 16 #[.agg #[.int .i64 a1, .int .i64 a2, .int .i64 a3]] w fun e w' => e = .returned (.string ST) ∧ Ex w w') := kt
    show Calls _ _ #[.agg #[.int .i64 a1, .int .i64 a2, .int .i64 a3]] _ _
    have KV := Lib.hid kv
    clear kv kt
    go_enter Tryz.func41, Tryz.ntmps41
    go_wp2_with fail
    refine (KV.out _).mono ?_
    rintro e w1 ⟨rfl, hx⟩
    have bA := (Box.new _ _ _).ex hx
    have cA := bA.cell
    replace hx := ((Ex.refl _).alloc _).trans hx
    go_wp2_with fail
    refine (KT.out _).mono ?_
    rintro e w2 ⟨rfl, hx2⟩
    go_wp2
    refine bodyPost_ret (v := .tuple #[.string ST, .bool true]) ?_ rfl ⟨rfl, hx.trans hx2⟩
    simp [results, Tryz.results41, go_sem]
end Go.Proofs.YtklkfkgpjjpaiaaGreatDoor
