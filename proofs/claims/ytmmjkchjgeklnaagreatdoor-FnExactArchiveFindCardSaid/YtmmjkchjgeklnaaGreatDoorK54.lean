/-
  Proved: what functions compute, part 54. No condition.
-/
import Derived.Test.YtmmjkchjgeklnaaGreatDoorK53
import Derived.Test.YtmmjkchjgeklnaaGreatDoorK07
import Derived.Test.YtmmjkchjgeklnaaGreatDoorK23
import Derived.Test.YtmmjkchjgeklnaaGreatDoorK52
set_option linter.unusedSimpArgs false
set_option linter.unusedVariables false
set_option maxRecDepth 20000
set_option maxHeartbeats 8000000
namespace Go.Proofs.YtmmjkchjgeklnaaGreatDoor
section
open Go.RowKit

attribute [local go_sem] Zk Zj
def Kt : List Rc → Int → Int
 | [], m => m
 | r :: t, m => if szr m r.S < 0 then -1 else Kt t (szr m r.S)
def szrS (rs : List Rc) (left : Int) : Int := if left - (rs.length : Int) < 0 then -1 else Kt rs (left - (rs.length : Int))
theorem szrs_neg {rs : List Rc} {m : Int} {k : Nat} (hk : k < rs.length) (h : szr m rs[k].S < 0) : Kt (rs.drop k) m = -1 := by
 rw [List.drop_eq_getElem_cons hk, Kt, if_pos h]
theorem szrs_go {rs : List Rc} {m : Int} {k : Nat} (hk : k < rs.length) (h : ¬ szr m rs[k].S < 0) : Kt (rs.drop k) m = Kt (rs.drop (k + 1)) (szr m rs[k].S) := by
 rw [List.drop_eq_getElem_cons hk, Kt, if_neg h]
theorem szrs_end (rs : List Rc) (m : Int) : Kt (rs.drop rs.length) m = m := by
 rw [List.drop_length]
 rfl
theorem szr_le {m : Int} {S : ByteArray} (h : ¬ szr m S < 0) : szr m S ≤ m ∧ (S.size : Int) ≤ m := by
 unfold szr at h ⊢
 split
 ·rename_i h1; rw [if_pos h1] at h; omega
 ·omega
theorem szrs_ok : ∀ (rs : List Rc) (m : Int), m ≤ 1048576 → 0 ≤ Kt rs m → ∀ r ∈ rs, r.S.size ≤ 1048576
 | [], _, _, _, r, hr => by cases hr
 | x :: t, m, hm, h, r, hr => by
  unfold Kt at h
  split at h
  ·omega
  ·rename_i h1
   have h2 := szr_le h1
   rcases List.mem_cons.1 hr with rfl | hr
   ·omega
   ·exact szrs_ok t _ (by omega) h r hr
theorem szrS_ok {rs : List Rc} {left : Int} (hl : left ≤ 1048576) (h : 0 ≤ szrS rs left) : rs.length ≤ 1048576 ∧ ∀ r ∈ rs, r.S.size ≤ 1048576 := by
 unfold szrS at h
 split at h
 ·omega
 ·exact ⟨by omega, szrs_ok rs _ (by omega) h⟩
theorem cellLR : (Tryz.prog.info? 29).map (·.size) = some 14 := by kernel_rfl
theorem cellIR : (Tryz.prog.info? 37).map (·.size) = some 14 := by kernel_rfl
theorem szRecordS_any (rs : List Rc) (A : Option Addr) (cap : Nat) (left : Int) (h0 : 0 ≤ left) (h1 : left ≤ 1048576) (hn : rs.length ≤ 9223372036854775807) (hz : ∀ r ∈ rs, r.S.size ≤ 9223372036854775807) (w : World) (hs : Slc w A (Yn rs)) :
  Calls Tryz.prog 22 #[.slice A rs.length cap, .int .i64 left] w (fun e w' => e = .returned (.int .i64 (szrS rs left)) ∧ Ex w w') := by
 unfold szrS
 have hw := Gp (left - (rs.length : Int)) (by omega)
 by_cases hm : left - (rs.length : Int) < 0
 ·rw [if_pos hm]
  go_enter Tryz.func22, Tryz.ntmps22
  go_wp2
  refine Gq (v := .int .i64 (-1)) ?_ rfl ⟨rfl, Ex.refl _⟩
  simp [results, Tryz.results22, go_sem]
 ·rw [if_neg hm]
  have HSL := Gv hs
  have HZ := Gv hz
  have HN := Gv hn
  have HH := Gv h1
  have HS0 : Hid (Kt rs (left - (rs.length : Int)) = Kt (rs.drop 0) (left - (rs.length : Int))) := Gv (by rw [List.drop_zero])
  have HHM := Gv hm
  have HGO := Gv (fun k m (hk : k < rs.length) => szrs_go (rs := rs) (m := m) hk)
  have HNE := Gv (fun k m (hk : k < rs.length) => szrs_neg (rs := rs) (m := m) hk)
  have HEN := Gv (szrs_end rs)
  clear hs hz hn h1
  generalize Kt rs (left - (rs.length : Int)) = R at HS0 ⊢
  go_enter Tryz.func22, Tryz.ntmps22
  go_wp2_with fail
  go_loopw [1, 5] (fun l i wr => ∃ (k : Nat) (m : Int), i = .int .i64 k ∧ l = .int .i64 m ∧ k ≤ rs.length ∧ Hid (0 ≤ m ∧ m ≤ 1048576) ∧ Hid (R = Kt (rs.drop k) m) ∧ Hid (Ex w wr)) (fun _ i _ => rs.length + 1 - (intOf i).toNat)
  case atStart => exact ⟨0, _, rfl, rfl, by omega, Gv ⟨by have := HHM.out; omega, by have := HH.out; omega⟩, HS0, Gv (Ex.refl _)⟩
  case round =>
   clear hm hw HS0 HHM h0
   obtain ⟨k, m, rfl, rfl, hk, HM, HK, HE⟩ := hrel
   by_cases hlt : k < rs.length
   ·have hI : (k : Int) < (rs.length : Int) := by omega
    have hn := HN.out
    have hwk : IntKind.i64.wrap ((k : Int) + 1) = (k : Int) + 1 := Gp _ (by omega)
    have hc0 := Slc.ex HSL.out HE.out
    obtain ⟨b, off, rfl, hc⟩ := hc0 (by rw [Zf]; omega)
    have hr := No hc k hlt
    have hmem : rs[k] ∈ rs := List.getElem_mem hlt
    have hrz := HZ.out _ hmem
    have HGk := Gv (HGO.out k m hlt)
    have HNk := Gv (HNE.out k m hlt)
    have kz := fun w => Se rs[k].S rs[k].v.a.re rs[k].v.a.im rs[k].v.a.den rs[k].v.b.re rs[k].v.b.im rs[k].v.b.den rs[k].v.c.re rs[k].v.c.im rs[k].v.c.den rs[k].v.d.re rs[k].v.d.im rs[k].v.d.den rs[k].h m HM.out.1 HM.out.2 hrz w
    have HP := Gv (fun (h : ¬ szr m rs[k].S < 0) => szr_le h)
    clear hmem hc hc0 hrz
    generalize rs[k] = r at *
    obtain ⟨S, ⟨⟨a1, a2, a3⟩, ⟨b1, b2, b3⟩, ⟨c1, c2, c3⟩, ⟨d1, d2, d3⟩⟩, n⟩ := r
    simp only [Rc.cs] at hr kz HP HGk HNk
    generalize szr m S = q at *
    have KZ := Gv kz
    clear kz
    go_wp2_with (first | (refine wpList_load_mid rfl _ _ rfl _ _ rfl _ _ hr Tryz.underlying29 rfl cellLR ?_))
    refine (KZ.out _).mono ?_
    rintro e w1 ⟨rfl, hx⟩
    have HE2 := Gv (HE.out.trans hx)
    clear hx hr HE
    rcases hq : decide (q < 0) with _ | _
    ·have hq0 : ¬ q < 0 := of_decide_eq_false hq
     clear hq
     have h2 := HP.out (by omega)
     have HK2 := Gv (HK.out.trans (HGk.out (by omega)))
     have HM2 : Hid (0 ≤ q ∧ q ≤ 1048576) := Gv ⟨by omega, by have := HM.out; omega⟩
     clear h2
     go_wp2_with fail
     go_roundw
     case rel => exact ⟨k + 1, q, by go_num, rfl, by omega, HM2, HK2, HE2⟩
     case measure => simp [intOf] <;> omega
    ·have hq1 : q < 0 := of_decide_eq_true hq
     clear hq
     go_wp2_with fail
     refine Gq (v := .int .i64 (-1)) ?_ rfl ⟨by rw [HK.out, HNk.out hq1], HE2.out⟩
     simp [results, Tryz.results22, go_sem]
   ·obtain rfl : k = rs.length := by omega
    have hI : ¬ ((rs.length : Nat) : Int) < (rs.length : Int) := by omega
    have HY := Gv (HK.out.trans (HEN.out m))
    clear hlt HK hk
    go_wp2_with fail
    refine Gq (v := .int .i64 m) ?_ rfl ⟨by rw [HY.out], HE.out⟩
    simp [results, Tryz.results22, go_sem]
def OwnR (w : World) (lo : Nat) (A : Option Addr) (cap : Nat) (rs : List Rc) : Prop := Own w lo 37 14 (.slice A rs.length cap) rs.length (Yn rs)
def GotR (w : World) (rs : List Rc) (e : Ending) (w' : World) : Prop := ∃ A cap, e = .returned (.slice A rs.length cap) ∧ OwnR w' w.heap.size A cap rs ∧ Ex w w'
theorem toRecordS_any (rs : List Rc) (A : Option Addr) (cap : Nat) (hl : rs.length ≤ 1048576) (w : World) (hs : Slc w A (Yn rs)) :
  Calls Tryz.prog 24 #[.slice A rs.length cap] w (GotR w rs) := by
 obtain ⟨i0, hi, hz0, hz1, hz2⟩ := info_parts (show (Tryz.prog.info? 37).map (fun i => (i.zero, i.size, i.bytes)) = some (some (.agg #[.string ⟨#[]⟩, .int .i64 0, .int .i64 0, .int .i64 0, .int .i64 0, .int .i64 0, .int .i64 0, .int .i64 0, .int .i64 0, .int .i64 0, .int .i64 0, .int .i64 0, .int .i64 0, .int .u32 0]), 14, 120) by kernel_rfl)
 have HSL := Gv hs
 clear hs
 go_enter Tryz.func24, Tryz.ntmps24
 go_wp2_with (refine wpList_make_full _ rfl _ _ 52 rfl w.heap.size 37 i0 (.agg #[.string ⟨#[]⟩, .int .i64 0, .int .i64 0, .int .i64 0, .int .i64 0, .int .i64 0, .int .i64 0, .int .i64 0, .int .i64 0, .int .i64 0, .int .i64 0, .int .i64 0, .int .i64 0, .int .u32 0]) 14 Tryz.underlying52 hi hz0 hz1 .i64 .i64 _ _ rs.length rfl rfl rfl rfl (by rw [hz2]; omega) (by unfold maxLen; omega) (Nat.le_refl _) ?_; intro w1 hown1 hg1)
 go_loopw [4] (fun i wr => ∃ (k : Nat) (cs : List Value), k ≤ rs.length ∧ i = .int .i64 k ∧ Hid (cs.length = rs.length * 14 ∧ cs.take (k * 14) = (Yn rs).take (k * 14)) ∧
   Hid (Own wr w.heap.size 37 14 (.slice (some ⟨w.heap.size, 0, none⟩) rs.length rs.length) rs.length cs) ∧ Hid (Ex w wr)) (fun i _ => rs.length - (intOf i).toNat)
 case atStart => exact ⟨0, _, by omega, rfl, Gv ⟨hown1.1, by simp⟩, Gv hown1, Gv ((Ex.refl _).grown hg1 (by simp))⟩
 case round =>
  obtain ⟨k, cs, hk, rfl, HC, HO, HE⟩ := hrel
  clear hown1 hg1 hi hz0 hz1 hz2
  by_cases hlt : k < rs.length
  ·have hI : (k : Int) < (rs.length : Int) := by omega
   have hwk : IntKind.i64.wrap ((k : Int) + 1) = (k : Int) + 1 := Gp _ (by omega)
   have hc0 := Slc.ex HSL.out HE.out
   obtain ⟨b, off, rfl, hc⟩ := hc0 (by rw [Zf]; omega)
   have hr := No hc k hlt
   have HA := Gv (Yw rs k hlt)
   have kt := fun w => Sf rs[k].S rs[k].v.a.re rs[k].v.a.im rs[k].v.a.den rs[k].v.b.re rs[k].v.b.im rs[k].v.b.den rs[k].v.c.re rs[k].v.c.im rs[k].v.c.den rs[k].v.d.re rs[k].v.d.im rs[k].v.d.den rs[k].h w
   have hone := Ql rs[k].S rs[k].v.a.re rs[k].v.a.im rs[k].v.a.den rs[k].v.b.re rs[k].v.b.im rs[k].v.b.den rs[k].v.c.re rs[k].v.c.im rs[k].v.c.den rs[k].v.d.re rs[k].v.d.im rs[k].v.d.den rs[k].h
   clear hc hc0
   generalize rs[k] = r at *
   obtain ⟨S, ⟨⟨a1, a2, a3⟩, ⟨b1, b2, b3⟩, ⟨c1, c2, c3⟩, ⟨d1, d2, d3⟩⟩, n⟩ := r
   simp only [Rc.cs] at hr kt hone HA
   have KT := Gv kt
   have HONE := Gv hone
   clear kt hone
   go_wp2_with (first | (refine wpList_load_mid rfl _ _ rfl _ _ rfl _ _ hr Tryz.underlying29 rfl cellLR ?_))
   refine (KT.out _).mono ?_
   rintro e w3 ⟨rfl, hx⟩
   have HO2 := Gv (HO.out.ex hx)
   have HE2 := Gv (HE.out.trans hx)
   clear hx HO HE hr
   have HT : Hid (w3.there w.heap.size (k * 14) (#[.string S, .int .i64 a1, .int .i64 a2, .int .i64 a3, .int .i64 b1, .int .i64 b2, .int .i64 b3, .int .i64 c1, .int .i64 c2, .int .i64 c3, .int .i64 d1, .int .i64 d2, .int .i64 d3, .int .u32 n] : Array Value).size) := Gv (by
    rw [show (#[.string S, .int .i64 a1, .int .i64 a2, .int .i64 a3, .int .i64 b1, .int .i64 b2, .int .i64 b3, .int .i64 c1, .int .i64 c2, .int .i64 c3, .int .i64 d1, .int .i64 d2, .int .i64 d3, .int .u32 n] : Array Value).size = 14 from rfl]
    exact own_there HO2.out _ _ (by have := HC.out.1; omega))
   have hone := HONE.out
   go_wp2_with (first | (refine wpList_store_mid rfl _ _ _ rfl w.heap.size (k * 14) #[.string S, .int .i64 a1, .int .i64 a2, .int .i64 a3, .int .i64 b1, .int .i64 b2, .int .i64 b3, .int .i64 c1, .int .i64 c2, .int .i64 c3, .int .i64 d1, .int .i64 d2, .int .i64 d3, .int .u32 n] ?_ ?_ ?_ ?_ ?_ ?_; (· rfl); (· rfl); (· exact HT.out); (· exact Uy rfl); (· exact hone)))
   clear HT hone
   go_roundw
   case rel =>
    obtain ⟨hcl, hct⟩ := HC.out
    refine ⟨k + 1, over cs (k * 14) ([.string S, .int .i64 a1, .int .i64 a2, .int .i64 a3, .int .i64 b1, .int .i64 b2, .int .i64 b3, .int .i64 c1, .int .i64 c2, .int .i64 c3, .int .i64 d1, .int .i64 d2, .int .i64 d3, .int .u32 n]), by omega, by go_num, Gv ⟨by rw [over_len]; exact hcl, ?_⟩, Gv (own_over _ _ HO2.out), Gv (ex_cells (Nat.le_refl _) _ _ HE2.out)⟩
    have t1 := over_take (ds := Yn rs) ([.string S, .int .i64 a1, .int .i64 a2, .int .i64 a3, .int .i64 b1, .int .i64 b2, .int .i64 b3, .int .i64 c1, .int .i64 c2, .int .i64 c3, .int .i64 d1, .int .i64 d2, .int .i64 d3, .int .u32 n]) cs (k * 14) hct (by simp only [List.length_cons, List.length_nil]; omega) (fun j hj => by rw [Nat.mul_comm]; exact HA.out j (by simpa using hj))
    rw [show (k + 1) * 14 = k * 14 + 14 by omega]
    exact t1
   case measure => simp [intOf]; omega
  ·have hcs : cs = Yn rs := by
    obtain ⟨h1, h2⟩ := HC.out
    rw [List.take_of_length_le (by omega), List.take_of_length_le (by rw [Zf]; omega)] at h2
    exact h2
   obtain rfl : k = rs.length := by omega
   have hI : ¬ ((rs.length : Nat) : Int) < (rs.length : Int) := by omega
   clear hlt
   go_wp2_with fail
   refine Gq (v := .slice (some ⟨w.heap.size, 0, none⟩) rs.length rs.length) ?_ rfl ⟨_, _, rfl, ?_, HE.out⟩
   ·simp [results, Tryz.results24, go_sem]
   ·rw [hcs] at HO
    exact HO.out
theorem Gw (rs : List Rc) (A B : Option Addr) (ca cb : Nat) (hl : rs.length ≤ 1048576) (w : World) (hA : Slc w A (Yn rs)) (hB : Slc w B (Yn rs)) :
  Calls Tryz.prog 26 #[.slice A rs.length ca, .slice B rs.length cb] w (fun e w' => e = .returned (.bool true) ∧ Ex w w') := by
 have HA := Gv hA
 have HB := Gv hB
 clear hA hB
 go_enter Tryz.func26, Tryz.ntmps26
 go_wp2_with fail
 go_loopw [5] (fun i wr => ∃ (k : Nat), k ≤ rs.length ∧ i = .int .i64 k ∧ Hid (Ex w wr)) (fun i _ => rs.length - (intOf i).toNat)
 case atStart => exact ⟨0, by omega, rfl, Gv (Ex.refl _)⟩
 case round =>
  obtain ⟨k, hk, rfl, HE⟩ := hrel
  by_cases hlt : k < rs.length
  ·have hI : (k : Int) < (rs.length : Int) := by omega
   have hwk : IntKind.i64.wrap ((k : Int) + 1) = (k : Int) + 1 := Gp _ (by omega)
   obtain ⟨b, off, rfl, hc⟩ := HA.out (by rw [Zf]; omega)
   obtain ⟨b2, off2, rfl, hc2⟩ := HB.out (by rw [Zf]; omega)
   have hr := No hc k hlt
   have hr2 := No hc2 k hlt
   have kt := fun w => Mo rs[k].S rs[k].v.a.re rs[k].v.a.im rs[k].v.a.den rs[k].v.b.re rs[k].v.b.im rs[k].v.b.den rs[k].v.c.re rs[k].v.c.im rs[k].v.c.den rs[k].v.d.re rs[k].v.d.im rs[k].v.d.den rs[k].h w
   clear hc hc2
   generalize rs[k] = r at *
   obtain ⟨S, ⟨⟨a1, a2, a3⟩, ⟨b1, b2, b3⟩, ⟨c1, c2, c3⟩, ⟨d1, d2, d3⟩⟩, n⟩ := r
   simp only [Rc.cs] at hr kt hr2
   have KT := Gv kt
   have HR := Gv hr
   have HR2 := Gv hr2
   clear kt hr hr2
   go_upto_region 1 with fail
   refine Zd (St := fun _ _ => True) 8 false (B := fun _ w2 => Ex w w2) (by kernel_rfl) (by kernel_rfl) HE.out.drew (by exact fun _ _ _ _ _ h => h) ?_
   iterate 7 (apply Zx; (· rfl); (· intro b wb hB Q1 hQ1; have hr := Mg HR.out hB; go_wp2_with (refine wpList_load_mid rfl _ _ rfl _ _ rfl _ _ hr Tryz.underlying37 rfl cellIR ?_); exact hQ1 _ trivial hB); (· exact ⟨_, rfl⟩))
   (apply Zx; (· rfl); (· intro b wb hB Q1 hQ1; have hr := Mg HR2.out hB; go_wp2_with (refine wpList_load_mid rfl _ _ rfl _ _ rfl _ _ hr Tryz.underlying37 rfl cellIR ?_); exact hQ1 _ trivial hB); (· exact ⟨_, rfl⟩))
   refine Zv ?_
   intro w2 hE2
   go_wp2_with (go_at_call 18; (with_reducible refine (KT.out _).mono ?_); rintro e w3 ⟨rfl, hx⟩; replace hE2 := hE2.trans hx; clear hx)
   have HE3 := Gv hE2
   clear hE2
   go_roundw
   case rel => exact ⟨k + 1, by omega, by go_num, HE3⟩
   case measure => simp [intOf]; omega
  ·obtain rfl : k = rs.length := by omega
   have hI : ¬ ((rs.length : Nat) : Int) < (rs.length : Int) := by omega
   clear hlt
   go_wp2_with fail
   refine Gq (v := .bool true) ?_ rfl ⟨rfl, HE.out⟩
   simp [results, Tryz.results26, go_sem]
end
section
open Go.ChangeShapes Go.WideShapes Go.ChangeAt Go.RowKit Go.Joins Go.Deep

section
variable {H : Type} {enc : TypeId × Value → H} {w : World} {base : Nat} {r : Reach} {b0 : Nat} {d : DataW H} {p : List MemPlace} {v : Value}
def IsRecords (w : World) (v : Value) : Prop := ∃ (A : Option Addr) (cap : Nat) (rs : List Rc), v = .slice A rs.length cap ∧ rs.length ≤ 9223372036854775807 ∧ Slc w A (Yn rs) ∧ ∀ r ∈ rs, r.S.size ≤ 9223372036854775807
theorem read_records (hv : Value.okWide Tryz.prog w r b0 49 v) (h : DataW.Trod enc Tryz.prog w base (fun _ => true) true 49 v d p) : IsRecords w v := by
 obtain ⟨a0, len0, cap0, rfl⟩ := okWide_slice Tryz.underlying49 hv
 obtain ⟨fuel, hf⟩ := h
 rcases open_slice Tryz.underlying49 hf with ⟨hcs, _⟩ | ⟨a, len, cap, m, n, D, Pl, hcs, hb, hl, hm, hmm, hx, hi⟩
 ·simp [Value.cells] at hcs
  obtain ⟨rfl, rfl, rfl⟩ := hcs
  exact ⟨none, 0, [], rfl, by simp, Slc.nil _ _, by simp⟩
 ·simp [Value.cells] at hcs
  obtain ⟨rfl, rfl, rfl⟩ := hcs
  have hC : Tryz.prog.cellsOf 29 = 14 := by kernel_rfl
  simp only [hC] at hi
  unfold maxLen at hm
  have hlm : len0 ≤ m := by rw [hmm]; simpa using hl
  have each : ∀ i, i < m → ∃ x : Rc, w.cells? base (a.add (i * 14)) 14 = some x.cs ∧ x.S.size ≤ 9223372036854775807 := by
   intro i him
   obtain ⟨cs', hc, ht⟩ := hi i him
   obtain ⟨S, u, k, rfl, hs⟩ := Nz (World.cells?_some hc).2.1 ht
   exact ⟨⟨S, u, k⟩, hc, hs⟩
  obtain ⟨f, hf⟩ : ∃ f : Nat → Rc, ∀ i, i < m → w.cells? base (a.add (i * 14)) 14 = some (f i).cs ∧ (f i).S.size ≤ 9223372036854775807 :=
   ⟨fun i => if h : i < m then Classical.choose (each i h) else ⟨⟨#[]⟩, .none, 0⟩, fun i him => by simp only [dif_pos him]; exact Classical.choose_spec (each i him)⟩
  refine ⟨some a, cap0, (List.range len0).map f, by simp, by simp; omega, ?_, ?_⟩
  ·intro hp
   have hlen : (Yn ((List.range len0).map f)).length = 14 * len0 := by rw [Zf]; simp
   obtain ⟨b, off, spot⟩ := a
   have hcell : ∀ i, i < m → ∀ j, j < 14 → w.cell? ((Addr.add ⟨b, off, spot⟩ (i * 14)).add j) = (f i).cs[j]? := fun i him j hj => (World.cells?_some (hf i him).1).2.2 j hj
   have h0 : w.cell? ((Addr.add ⟨b, off, spot⟩ (0 * 14)).add 0) = some (.string (f 0).S) := hcell 0 (by omega) 0 (by omega)
   have hspot : spot = none := by simpa [Addr.add] using World.cell?_spot h0
   subst hspot
   refine ⟨b, off, rfl, fun k hk => ?_⟩
   rw [hlen] at hk
   obtain ⟨i, j, hj, rfl⟩ : ∃ i j, j < 14 ∧ k = 14 * i + j := ⟨k / 14, k % 14, Nat.mod_lt _ (by omega), by omega⟩
   have hi2 : i < len0 := by omega
   have h1 := hcell i (by omega) j hj
   rw [Go.WideShapes.add_plain, Go.WideShapes.add_plain] at h1
   rw [show off + (14 * i + j) = off + i * 14 + j by omega, h1, Yw _ i (by simpa using hi2) j hj]
   simp
  ·intro x hx
   obtain ⟨i, hi3, rfl⟩ := List.mem_map.1 hx
   exact (hf i (by have := List.mem_range.1 hi3; omega)).2
end
end
end Go.Proofs.YtmmjkchjgeklnaaGreatDoor
