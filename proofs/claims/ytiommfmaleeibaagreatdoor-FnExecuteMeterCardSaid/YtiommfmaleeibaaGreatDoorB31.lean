/-
  Proved: what functions compute, part 31. No condition.
-/
import Derived.Test.YtiommfmaleeibaaGreatDoorB23
import Derived.Test.YtiommfmaleeibaaGreatDoorB29
import Derived.Test.YtiommfmaleeibaaGreatDoorB30
import Derived.Lib.SlTrimSet
import Derived.Test.YtiommfmaleeibaaGreatDoorB07
import Derived.Test.YtiommfmaleeibaaGreatDoorB06
import Derived.Shelf.Strings.SlTrimAscii
import Derived.Test.YtiommfmaleeibaaGreatDoorB01
import Derived.Test.YtiommfmaleeibaaGreatDoorB05
set_option linter.unusedSimpArgs false
set_option linter.unusedVariables false
set_option maxRecDepth 20000
set_option maxHeartbeats 8000000
namespace Go.Proofs.YtiommfmaleeibaaGreatDoor
section
open Go.RowKit

attribute [local go_sem] Zi Zh
theorem wds_len (t : List UInt8) : (wds t).length ≤ t.length + 1 := by
 rw [← wds_tot t]
 unfold tot
 generalize wds t = ws
 induction ws with
 | nil => simp
 | cons x ws ih => simp only [List.map_cons, List.sum_cons, List.length_cons]; omega
theorem slPI : SlT 133 169 (.agg #[.int .u8 0, .slice none 0 0, .string ⟨#[]⟩]) 3 48 := ⟨Tryz.underlying133, by kernel_rfl, rfl, by omega, by omega⟩
theorem ci_one (q : Pc) : ∀ u ∈ q.ci, u.oneCell' = true := fun u hu => by
 simp only [Pc.ci, List.mem_cons, List.not_mem_nil, or_false] at hu
 rcases hu with rfl | rfl | rfl <;> rfl
def bwds (l : List UInt8) : List ByteArray := if l = [] then [] else (wds l).map Bs
def Qu (cells : List Pc → List Value) (w : World) (l : List UInt8) : Ending → World → Prop := fun e w' =>
 (∃ (qs : List Pc) (g cap : Nat), Yd l = some (qs.map Pc.p) ∧ e = .returned (.tuple #[.slice (some ⟨g, 0, none⟩) qs.length cap, .bool true]) ∧ Own w' w.heap.size 169 3 (.slice (some ⟨g, 0, none⟩) qs.length cap) qs.length (cells qs) ∧ Hid (qs.map Pc.S = bwds l) ∧ Pcs w' qs ∧ Ex w w') ∨
 (Yd l = none ∧ e = .returned (.tuple #[.slice none 0 0, .bool false]) ∧ Ex w w')
theorem iReadBench_of (hp : ∀ l : List UInt8, l.length ≤ 1048576 → ∀ w, Vs w → Calls Tryz.prog 149 #[.string (Bs l)] w (Nr w l)) (l : List UInt8) (hl : l.length ≤ 1048576) (w : World) (hm : Vs w) : Calls Tryz.prog 85 #[.string (Bs l)] w (Qu Wu w l) := by
 by_cases hne : l = []
 ·subst hne
  have he : Bs [] = (⟨#[]⟩ : ByteArray) := rfl
  rw [he]
  clear hm hp
  have hS := Zw.refl w
  have hC := True.intro
  go_enter Tryz.func85, Tryz.ntmps85
  go_wp2
  refine Kr ?_ rfl (.inl ⟨[], w.heap.size, 0, rfl, rfl, Ox w w.heap.size 169 3 (Nat.le_refl _), Kw rfl, Pcs.nil _, ?_⟩)
  ·simp [results, Tryz.results85, go_sem]
  ·repeat' (with_reducible first | exact hS.ex | exact Ex.refl _ | assumption | apply Ex.alloc | apply Ex.drewN | apply Ex.drew | refine Ex.setCell ?_ (by simp <;> omega) _)
 ·have ks := fun w hm => splitBB l (by omega) w hm
  have HW : Hid (∀ x ∈ wds l, x.length ≤ 1048576) := Kw fun x hx => by
   have h1 := Ns l x hx
   omega
  have hE0 : Bs l ≠ (⟨#[]⟩ : ByteArray) := fun e => hne (by
   have := congrArg (fun b : ByteArray => b.data.toList) e
   simpa [Bs] using this)
  have hne2 : (Bs l).toList.isEmpty = false := by simpa using Qv hE0
  have HNE := Kw hne
  have HWL : Hid ((wds l).length ≤ 1048577) := Kw (by have h1 := wds_len l; omega)
  generalize Bs l = S at ks hne2 ⊢
  have HP := Kw hp
  have HM := Kw hm
  have KS := Kw ks
  clear hp hm ks hE0 hne hl
  go_enter Tryz.func85, Tryz.ntmps85
  go_wp2_with fail
  refine (KS.out _ (HM.out.alloc _)).mono ?_
  rintro e W2 ⟨g, gc, cur, rfl, hg, bG, HG, hx⟩
  have hE2 := ((Ex.refl w).alloc (.cells #[] 169)).trans hx
  have hO0 : Own W2 w.heap.size 169 3 (.slice (some ⟨w.heap.size, 0, none⟩) 0 0) 0 [] := (Ox w w.heap.size 169 3 (Nat.le_refl _)).ex hx
  clear hx KS hg
  go_wp2_with fail
  go_loopw [16, 4, 6, 7, 8] (fun i v f p o wr => ∃ (j : Nat) (A : Option Addr) (cap : Nat) (qs : List Pc), i = .int .i64 j ∧ v = .slice A qs.length cap ∧ j ≤ (wds l).length ∧ qs.length ≤ 12 ∧ Hid (Xf Yq ((wds l).take j) = some (qs.map Pc.p)) ∧ Hid (qs.map Pc.S = ((wds l).take j).map Bs) ∧
    Hid (Own wr w.heap.size 169 3 (.slice A qs.length cap) qs.length (Wu qs)) ∧ Hid (Pcs wr qs) ∧ Box wr g 9 cur ∧ Hid (Ex w wr)) (fun i _ _ _ _ _ => (wds l).length + 1 - (intOf i).toNat)
  case atStart => exact ⟨0, _, 0, [], rfl, rfl, by omega, by simp, Kw rfl, Kw rfl, Kw hO0, Kw (Pcs.nil _), bG, Kw hE2⟩
  case round =>
   clear bG hO0 hE2
   obtain ⟨j, A, cap, qs, rfl, rfl, hj, hq, HN, HTX, HO, HQ, bG, HE⟩ := hrel
   have hsz := HE.out.size
   by_cases hlt : j < (wds l).length
   ·have hcell := HG.out j hlt
    have hmem : (wds l)[j] ∈ wds l := List.getElem_mem hlt
    have hxl := HW.out _ hmem
    have HMs : Hid (Xf Yq ((wds l).take (j + 1)) = Xf Yq ((wds l).take j ++ [(wds l)[j]])) := Kw (by rw [Wb hlt])
    have HMt : Hid (((wds l).take (j + 1)).map Bs = ((wds l).take j).map Bs ++ [Bs (wds l)[j]]) := Kw (by rw [Wb hlt, List.map_append]; rfl)
    have HLN : Hid (qs.length = j) := Kw (by have := Wk HN.out; rw [List.length_map, List.length_take] at this; omega)
    generalize (wds l)[j] = x at *
    have kp := fun w hm => HP.out x hxl w hm
    have hlI : (j : Int) < ((wds l).length : Int) := by omega
    have hw5 : IntKind.i64.wrap ((j : Int) + 1) = (j : Int) + 1 := Kq _ (by have := HWL.out; omega)
    obtain ⟨X, HX⟩ : ∃ X, Hid (X = Bs x) := ⟨_, Kw rfl⟩
    rw [← HX.out] at hcell kp
    have KP := Kw kp
    have HMem := Kw hmem
    have cG := bG.cell
    have zG := bG.lt
    clear kp hmem hxl
    go_wp2_with fail
    refine (KP.out _ (HM.out.ex HE.out)).mono ?_
    rintro e w2 (⟨q, hq2, rfl, hqS, hqo, hx⟩ | ⟨k2, A2, n2, c2, S2, hq2, rfl, hx⟩)
    ·have HO2 := Kw (Own.ex HO.out hx)
     have HQ2 := Kw ((HQ.out.ex hx))
     have HQo := Kw hqo
     have HE2 := Kw (HE.out.trans hx)
     have bG2 := bG.ex hx
     have HN3 : Hid (Xf Yq ((wds l).take (j + 1)) = some ((qs ++ [q]).map Pc.p)) := Kw (by rw [HMs.out, List.map_append]; exact Uu hq2 HN.out)
     have HTX3 : Hid ((qs ++ [q]).map Pc.S = ((wds l).take (j + 1)).map Bs) := Kw (by rw [HMt.out, List.map_append, HTX.out, List.map_cons, List.map_nil, hqS.out])
     clear hx hqo hq2 hqS cG zG KP hcell bG HMt HTX
     simp only [Pc.ci]
     by_cases h12 : qs.length = 12
     ·have h12I : ((qs.length : Int) == 12) = true := by simp; omega
      have HB : Hid (Yd l = none) := Kw (benchOf_many HNE.out (by have := HLN.out; omega))
      go_wp2
      refine Kr ?_ rfl (.inr ⟨HB.out, rfl, ?_⟩)
      ·simp [results, Tryz.results85, go_sem]
      ·have hE := HE2.out
       repeat' (with_reducible first | exact hE | refine Ex.alloc ?_ _)
     ·have h12I : ((qs.length : Int) == 12) = false := by simp; omega
      have HO3 := Kw (Own.alloc HO2.out (.cells #[.int .u8 q.k.toNat, .slice (some ⟨q.g, 0, none⟩) q.ns.length q.cap, .string q.S] 169))
      have HQ3 := Kw (HQ2.out.snoc HQo.out)
      have hs2 := HE2.out.size
      have hq3 : (qs ++ [q]).length = qs.length + 1 := by simp
      have HQL := Kw hq3
      clear HQ2 HQo HO2 hq3
      go_wp2_with (at_builtin; refine Tk slPI rfl _ _ (w2.alloc (.cells #[.int .u8 q.k.toNat, .slice (some ⟨q.g, 0, none⟩) q.ns.length q.cap, .string q.S] 169)) rfl w.heap.size A cap qs.length (Wu qs) [.int .u8 q.k.toNat, .slice (some ⟨q.g, 0, none⟩) q.ns.length q.cap, .string q.S] rfl (ci_one q) rfl HO3.out (by rw [Kv]; rfl) (by omega) (by simp; omega) ?_)
      intro A' cap' w' hown' hk'
      have HE3 := Kw (hk'.ex w (HE2.out.alloc _) (Nat.le_refl _))
      have HQ4 := Kw (Pcs.keeps (HQ3.out.ex ((Ex.refl w2).alloc (.cells #[.int .u8 q.k.toNat, .slice (some ⟨q.g, 0, none⟩) q.ns.length q.cap, .string q.S] 169))) hk' (by decide))
      have bG3 := hk'.box _ _ _ (bG2.alloc (.cells #[.int .u8 q.k.toNat, .slice (some ⟨q.g, 0, none⟩) q.ns.length q.cap, .string q.S] 169)) (by decide)
      have HO4 : Hid (Own w' w.heap.size 169 3 (.slice A' (qs ++ [q]).length cap') (qs ++ [q]).length (Wu (qs ++ [q]))) := Kw (by rw [HQL.out, cellsI_snoc]; exact hown')
      clear hown' hk' HO3 HQ3 HE2 bG2
      go_wp2
      go_roundw
      case rel => exact ⟨j + 1, A', cap', qs ++ [q], by go_num, by rw [HQL.out], by omega, by rw [HQL.out]; omega, HN3, HTX3, HO4, HQ4, bG3, HE3⟩
      case measure => simp [intOf] <;> omega
    ·have HB : Hid (Yd l = none) := Kw (benchOf_bad HNE.out HMem.out hq2)
     have HE2 := Kw (HE.out.trans hx)
     clear hx hq2 cG zG KP hcell
     go_wp2
     refine Kr ?_ rfl (.inr ⟨HB.out, rfl, ?_⟩)
     ·simp [results, Tryz.results85, go_sem]
     ·have hE := HE2.out
      repeat' (with_reducible first | exact hE | refine Ex.alloc ?_ _)
   ·obtain rfl : j = (wds l).length := by omega
    have hlI : ¬ ((wds l).length : Int) < ((wds l).length : Int) := by omega
    have HB : Hid (Yd l = some (qs.map Pc.p)) := Kw (by
     have h1 := HN.out
     rw [List.take_length] at h1
     rw [benchOf_is HNE.out h1, if_pos (by rw [List.length_map]; exact hq)])
    obtain ⟨g9, hA9⟩ : ∃ g9, A = some ⟨g9, 0, none⟩ := by
     rcases HO.out.2 with ⟨-, h2⟩ | ⟨g9, c9, cur9, h1, -⟩
     ·have h3 := Wk HN.out
      rw [List.take_length, List.length_map] at h3
      have h4 := List.length_pos_iff.2 (Nv l)
      omega
     ·injection h1 with e1 e2 e3
      exact ⟨g9, e1⟩
    subst hA9
    have HTE : Hid (qs.map Pc.S = bwds l) := Kw (by rw [HTX.out, List.take_length, bwds, if_neg HNE.out])
    clear hlt
    go_wp2
    refine Kr ?_ rfl (.inl ⟨qs, g9, cap, HB.out, rfl, HO.out, HTE, HQ.out, HE.out⟩)
    simp [results, Tryz.results85, go_sem]
end
section
open Go.RowKit

attribute [local go_sem] Zi Zh
theorem iReadPiece (l : List UInt8) (hl : l.length ≤ 1048576) (w : World) (hm : Vs w) : Calls Tryz.prog 149 #[.string (Bs l)] w (Nr w l) := by
 cases l with
 | nil =>
  have he : Bs [] = (⟨#[]⟩ : ByteArray) := rfl
  rw [he]
  clear hm
  have hS := Zw.refl w
  have hC := True.intro
  go_enter Tryz.func149, Tryz.ntmps149
  go_wp2
  refine Kr ?_ rfl (.inr ⟨0, none, 0, 0, ⟨#[]⟩, rfl, rfl, ?_⟩)
  ·simp [results, Tryz.results149, go_sem]
  ·repeat' (with_reducible first | exact hS.ex | exact Ex.refl _ | assumption | apply Ex.alloc | apply Ex.drewN | apply Ex.drew | refine Ex.setCell ?_ (by simp <;> omega) _)
 | cons k t =>
  by_cases h1 : k = 114
  ·exact Qg 114 (.inl rfl) k t h1 hl w hm
  by_cases h2 : k = 119
  ·exact Lf k t h2 hl w hm
  by_cases h3 : k = 102
  ·exact Qg 102 (.inr rfl) k t h3 hl w hm
  by_cases h4 : k = 97
  ·exact Qe 97 (.inl rfl) k t h4 hl w hm
  by_cases h5 : k = 100
  ·exact Qe 100 (.inr rfl) k t h5 hl w hm
  exact Mu k t h2 h1 h3 h4 h5 hl w hm
theorem Le (l : List UInt8) (hl : l.length ≤ 1048576) (w : World) (hm : Vs w) : Calls Tryz.prog 85 #[.string (Bs l)] w (Qu Wu w l) := iReadBench_of iReadPiece l hl w hm
end
section
def Nq (l : List UInt8) : Option Int :=
 if 1 ≤ (Yg l).length ∧ (Yg l).length ≤ 3 ∧ (Yg l).all Wt = true then some (sg l * ((Yg l).foldl Ww 0 : Nat)) else none
def Wa (l : List UInt8) (m : Nat) : Option (List Int) := match Xf Nq (wds l) with
 | some ns => if ns.length = m then some ns else none
 | none => none
theorem sg_strip (l : List UInt8) : (sg l = 1 ∧ Yg l = l) ∨ (sg l = -1 ∧ l = 45 :: Yg l) := by
 cases l with
 | nil => exact .inl ⟨rfl, rfl⟩
 | cons c t =>
  by_cases hc : c = 45
  ·subst hc
   exact .inr ⟨rfl, rfl⟩
  ·refine .inl ⟨?_, ?_⟩
   ·simp [sg, hc]
   ·simp [Yg, hc]
theorem parse_digits : ∀ (l : List UInt8) (acc : Nat), l.all Wt = true → acc * 10 ^ l.length ≤ 1000000 → l.length ≤ 3 → Lib.parseUint10 acc l = .ok (l.foldl Ww acc)
 | [], acc, _, _, _ => rfl
 | c :: t, acc, h, ha, hl => by
  simp only [List.all_cons, Bool.and_eq_true] at h
  obtain ⟨hc, ht⟩ := h
  have hc' : 48 ≤ c.toNat ∧ c.toNat ≤ 57 := by simpa [Wt] using hc
  have hacc : acc ≤ 1000000 := Nat.le_trans (Nat.le_mul_of_pos_right acc (Nat.pow_pos (by omega))) ha
  rw [Lib.parseUint10, if_pos hc', if_neg (by omega), if_neg (by omega)]
  have e : acc * 10 + (c.toNat - 48) = Ww acc c := by unfold Ww; omega
  rw [e]
  exact parse_digits3 t acc c ht hc' hacc (by simpa using hl)
where
 parse_digits3 (t : List UInt8) (acc : Nat) (c : UInt8) (ht : t.all Wt = true) (hc : 48 ≤ c.toNat ∧ c.toNat ≤ 57) (hacc : acc ≤ 1000000) (hl : t.length ≤ 2) : Lib.parseUint10 (Ww acc c) t = .ok (t.foldl Ww (Ww acc c)) := by
  have hn : Ww acc c ≤ 10000009 := by unfold Ww; omega
  generalize Ww acc c = a at hn ⊢
  match t, ht, hl with
  | [], _, _ => rfl
  | [x], ht, _ =>
   have hx : 48 ≤ x.toNat ∧ x.toNat ≤ 57 := by simpa [Wt] using ht
   rw [Lib.parseUint10, if_pos hx, if_neg (by omega), if_neg (by omega)]
   have e : a * 10 + (x.toNat - 48) = Ww a x := by unfold Ww; omega
   rw [e]
   rfl
  | [x, y], ht, _ =>
   have hxy : (48 ≤ x.toNat ∧ x.toNat ≤ 57) ∧ (48 ≤ y.toNat ∧ y.toNat ≤ 57) := by simpa [Wt] using ht
   obtain ⟨hx, hy⟩ := hxy
   rw [Lib.parseUint10, if_pos hx, if_neg (by omega), if_neg (by omega)]
   have e : a * 10 + (x.toNat - 48) = Ww a x := by unfold Ww; omega
   rw [e]
   have hn2 : Ww a x ≤ 100000099 := by unfold Ww; omega
   rw [Lib.parseUint10, if_pos hy, if_neg (by omega), if_neg (by omega)]
   have e2 : Ww a x * 10 + (y.toNat - 48) = Ww (Ww a x) y := by unfold Ww; omega
   rw [e2]
   rfl
theorem atoi_digits {l : List UInt8} (h : l.all Wt = true) (h1 : 1 ≤ l.length) (h3 : l.length ≤ 3) : Lib.atoiAll l = .ok ((l.foldl Ww 0 : Nat) : Int) := by
 cases l with
 | nil => simp at h1
 | cons c t =>
  have hc : 48 ≤ c.toNat ∧ c.toNat ≤ 57 := by
   simp only [List.all_cons, Bool.and_eq_true] at h
   simpa [Wt] using h.1
  rw [Lib.atoiAll_plain c t (by omega) (by omega)]
  have hb := fold_bd (c :: t) (fun x hx => List.all_eq_true.1 h x hx)
  have hp : 10 ^ (c :: t).length ≤ 10 ^ 3 := Nat.pow_le_pow_right (by omega) h3
  have e : Lib.parseMag (c :: t) = .ok ((c :: t).foldl Ww 0) := by
   unfold Lib.parseMag
   rw [if_neg (by simp), parse_digits (c :: t) 0 h (by simp) h3]
  rw [e]
  unfold Lib.signless
  simp only
  rw [if_neg (by omega)]
def Rw : List UInt8 := [48, 49, 50, 51, 52, 53, 54, 55, 56, 57]
theorem digSet_has (c : UInt8) : Rw.contains c = Wt c := by
 have key : ∀ n : Fin 256, Rw.contains (UInt8.ofNat n.val) = Wt (UInt8.ofNat n.val) := by decide
 have := key ⟨c.toNat, c.toNat_lt⟩
 simpa using this
theorem Ow {p : UInt8 → Bool} : ∀ {l : List UInt8}, l.dropWhile p = [] ↔ l.all p = true
 | [] => by simp
 | c :: t => by
  by_cases hc : p c = true
  ·simp [hc, Ow (l := t)]
  ·simp [hc]
theorem drop_head {p : UInt8 → Bool} : ∀ {l : List UInt8} {x : UInt8} {t : List UInt8}, l.dropWhile p = x :: t → p x = false
 | [], _, _, h => by simp at h
 | c :: l, x, t, h => by
  rw [List.dropWhile_cons] at h
  split at h
  ·exact drop_head h
  ·rename_i hc
   injection h with h1 h2
   subst h1
   simpa using hc
theorem Mz (l : List UInt8) : Lib.trimS l Rw = [] ↔ l.all Wt = true := by
 have hp : (fun x => Rw.contains x) = Wt := funext digSet_has
 unfold Lib.trimS Lib.trimLeftS Lib.trimRightS
 rw [hp, Ow]
 constructor
 ·intro h
  have h2 : ∀ x ∈ l.reverse.dropWhile Wt, Wt x = true := fun x hx => List.all_eq_true.1 h x (List.mem_reverse.2 hx)
  cases hd : l.reverse.dropWhile Wt with
  | nil =>
   have := (Ow (p := Wt) (l := l.reverse)).1 hd
   simpa using this
  | cons x t =>
   have hx := h2 x (by rw [hd]; exact List.mem_cons_self)
   rw [drop_head hd] at hx
   cases hx
 ·intro h
  have : l.reverse.all Wt = true := by simpa using h
  rw [(Ow (p := Wt) (l := l.reverse)).2 this]
  rfl
theorem num3_itoa {n : Int} (h0 : -999 ≤ n) (h1 : n ≤ 999) : Nq (Lib.itoa n) = some n := by
 unfold Nq
 have hs := strip_itoa (n := n)
 by_cases hn : n < 0
 ·have e : Yg (Lib.itoa n) = Lib.decDigits n.natAbs := by rw [itoa_neg hn]; rfl
  have hl := Oq n.natAbs 2 (by omega)
  rw [if_pos, hs]
  refine ⟨?_, by rw [e]; omega, ?_⟩
  ·rw [e]
   have : (Lib.decDigits n.natAbs).length ≠ 0 := fun e => dec_ne _ (List.length_eq_zero_iff.1 e)
   omega
  ·rw [e]
   exact List.all_eq_true.2 (Tv _)
 ·have e : Yg (Lib.itoa n) = Lib.decDigits n.natAbs := by
   rw [Qy (by omega)]
   cases hd : Lib.decDigits n.natAbs with
   | nil => exact absurd hd (dec_ne _)
   | cons c t =>
    have hc : c ≠ 45 := fun e => dec_head n.natAbs t (by rw [hd, e])
    simp [Yg, hc]
  have hl := Oq n.natAbs 2 (by omega)
  rw [if_pos, hs]
  refine ⟨?_, by rw [e]; omega, ?_⟩
  ·rw [e]
   have : (Lib.decDigits n.natAbs).length ≠ 0 := fun e => dec_ne _ (List.length_eq_zero_iff.1 e)
   omega
  ·rw [e]
   exact List.all_eq_true.2 (Tv _)
end
section
open Go.RowKit

attribute [local go_sem] Zi Zh
theorem trimPre_any (l : List UInt8) (w : World) : Calls Tryz.prog 131 #[.string (Bs l), .string ⟨#[45]⟩] w fun e w' => e = .returned (.string (Bs (Yg l))) ∧ w' = w := by
 refine (Tryz.strings_TrimPrefix (Bs l) ⟨#[45]⟩ w).mono ?_
 rintro e w' ⟨rfl, rfl⟩
 refine ⟨?_, rfl⟩
 have e : Lib.trimPrefix l [45] = Yg l := by
  cases l with
  | nil => rfl
  | cons c t =>
   unfold Lib.trimPrefix
   by_cases hc : c = 45
   ·subst hc
    simp [Yg, Lib.hasPrefix, List.isPrefixOf]
   ·have hp : Lib.hasPrefix (c :: t) [45] = false := by
     simp [Lib.hasPrefix, List.isPrefixOf]
     exact fun e => hc e.symm
    rw [hp]
    simp [Yg, hc]
 show Ending.returned (.string (Bs (Lib.trimPrefix l [45]))) = _
 rw [e]
theorem trimDig_any (l : List UInt8) (hl : l.length ≤ 1048576) (w : World) : Calls Tryz.prog 132 #[.string (Bs l), .string ⟨#[48, 49, 50, 51, 52, 53, 54, 55, 56, 57]⟩] w fun e w' => e = .returned (.string (Bs (Lib.trimS l Rw))) ∧ Ex w w' := by
 refine (Any.strings_Trim_laid Tryz.lays160 (by kernel_rfl) (Bs l) ⟨#[48, 49, 50, 51, 52, 53, 54, 55, 56, 57]⟩ w (by rw [Xp]; omega) (by decide) (ascii_of_all (by decide))).mono ?_
 rintro e w' ⟨rfl, hb⟩
 exact ⟨rfl, hb⟩
theorem atoiDig_any (l : List UInt8) (h : l.all Wt = true) (h1 : 1 ≤ l.length) (h3 : l.length ≤ 3) (w : World) (hm : Vs w) : Calls Tryz.prog 133 #[.string (Bs l)] w fun e w' =>
  e = .returned (.tuple #[.int .i64 ((l.foldl Ww 0 : Nat) : Int), .nilIface]) ∧ Ex w w' := by
 refine (atoiB_any l (by omega) w hm).mono ?_
 rintro e w' ⟨v, er, rfl, hx, -, hv⟩
 obtain ⟨rfl, rfl⟩ := hv _ (atoi_digits h h1 h3)
 exact ⟨rfl, hx⟩
def GotN (w : World) (r : Option (List Int)) : Ending → World → Prop := fun e w' =>
 (∃ (ns : List Int) (A : Option Addr) (cap : Nat), r = some ns ∧ e = .returned (.tuple #[.slice A ns.length cap, .bool true]) ∧ Vt w' w.heap.size A cap ns ∧ Ex w w') ∨
 (r = none ∧ e = .returned (.tuple #[.slice none 0 0, .bool false]) ∧ Ex w w')
theorem num3_no {l : List UInt8} (h : ¬ (1 ≤ (Yg l).length ∧ (Yg l).length ≤ 3 ∧ (Yg l).all Wt = true)) : Nq l = none := if_neg h
theorem num3_yes {l : List UInt8} (h : 1 ≤ (Yg l).length ∧ (Yg l).length ≤ 3 ∧ (Yg l).all Wt = true) : Nq l = some (sg l * ((Yg l).foldl Ww 0 : Nat)) := if_pos h
theorem numsOf_no {l : List UInt8} {m : Nat} {x : List UInt8} (hx : x ∈ wds l) (h : Nq x = none) : Wa l m = none := by
 unfold Wa
 rw [Tz h hx]
theorem numsOf_len {l : List UInt8} {m : Nat} (h : (wds l).length ≠ m) : Wa l m = none := by
 unfold Wa
 cases hm : Xf Nq (wds l) with
 | none => rfl
 | some ns =>
  have := Wk hm
  simp only
  rw [if_neg (by omega)]
theorem numsOf_yes {l : List UInt8} {ns : List Int} (h : Xf Nq (wds l) = some ns) : Wa l (wds l).length = some ns := by
 unfold Wa
 rw [h]
 simp only
 rw [if_pos (Wk h)]
theorem iNumbers (l : List UInt8) (hl : l.length ≤ 1048576) (m : Nat) (hm4 : m ≤ 100) (w : World) (hm : Vs w) : Calls Tryz.prog 68 #[.string (Bs l), .int .i64 m] w (GotN w (Wa l m)) := by
 have KS := Kw (splitB_any l hl w hm)
 have HWB : Hid (∀ x ∈ wds l, x.length ≤ 1048576) := Kw fun x hx => Nat.le_trans (Ns l x hx) hl
 obtain ⟨R, HR⟩ : ∃ R, Hid (R = Wa l m) := ⟨_, Kw rfl⟩
 rw [← HR.out]
 generalize Bs l = S at *
 have HM := Kw hm
 clear hm hl
 go_enter Tryz.func68, Tryz.ntmps68
 go_wp2_with fail
 refine KS.out.mono ?_
 rintro e w1 ⟨A, cap, rfl, hST, hx⟩
 have HE1 := Kw hx
 have HST := Kw hST
 clear hx hST KS
 by_cases hlen : (wds l).length = m
 rotate_left
 ·have hn : ((((wds l).length : Nat) : Int) == (m : Int)) = false := by rw [beq_eq_false_iff_ne]; omega
  have hn2 : ¬ (((wds l).length : Nat) : Int) = (m : Int) := by omega
  have HNO := Kw (HR.out.trans (numsOf_len hlen))
  clear hlen
  go_wp2
  refine Kr (v := .tuple #[.slice none 0 0, .bool false]) ?_ rfl (.inr ⟨HNO.out, rfl, HE1.out⟩)
  simp [results, Tryz.results68, go_sem]
 have HY := Kw (fun ns h => HR.out.trans ((congrArg (Wa l) hlen.symm).trans (numsOf_yes (l := l) (ns := ns) h)))
 have HN := Kw (fun x hx h => HR.out.trans (numsOf_no (l := l) (m := m) (x := x) hx h))
 generalize wds l = ls at *
 have hlm : ls.length ≤ 100 := by omega
 subst hlen
 clear HR hm4
 have HO0 := Kw (Ox w1 w1.heap.size 3 1 (Nat.le_refl _))
 have hE0 := (Ex.refl w1).alloc (.cells #[] 3)
 go_upto_region 6 with fail
 have HE0 := Kw hE0
 clear hE0
 go_loopw [22, 7, 9, 10, 11, 12] (fun i o _ _ _ _ wr => ∃ (j : Nat) (B : Option Addr) (cb : Nat) (ns : List Int), i = .int .i64 j ∧ j ≤ ls.length ∧ o = .slice B ns.length cb ∧ Hid (Xf Nq (ls.take j) = some ns) ∧ Hid (Vt wr w1.heap.size B cb ns) ∧ Hid (Ex w1 wr)) (fun i _ _ _ _ _ _ => ls.length + 1 - (intOf i).toNat)
 case atStart => exact ⟨0, _, 0, [], rfl, by omega, rfl, Kw rfl, HO0, HE0⟩
 case round =>
  clear HO0 HE0
  obtain ⟨j, B, cb, ns, rfl, hj, rfl, HM1, HO, HE⟩ := hrel
  have hnl : ns.length ≤ 100 := by
   have h1 := Wk HM1.out
   have h2 := List.length_take_le j ls
   omega
  by_cases hlt : j < ls.length
  ·obtain ⟨b, off, rfl, hc⟩ := (HST.out.ex HE.out) (by simp only [Wv, List.length_map]; omega)
   have hcell := hc j (by simp only [Wv, List.length_map]; omega)
   simp only [Wv, List.getElem?_map, List.getElem?_eq_getElem hlt, Option.map_some] at hcell
   have hmem := List.getElem_mem hlt
   have HXL := Kw (HWB.out _ hmem)
   have HNX := Kw (HN.out _ hmem)
   have HMs : Hid (Xf Nq (ls.take (j + 1)) = Xf Nq (ls.take j ++ [ls[j]])) := Kw (by rw [Wb hlt])
   have hI : (j : Int) < (ls.length : Int) := by omega
   have hw5 : IntKind.i64.wrap ((j : Int) + 1) = (j : Int) + 1 := Kq _ (by omega)
   clear hc hmem
   generalize ls[j] = x at *
   have KT := Kw (fun w => trimPre_any x w)
   have hsg := sg_strip x
   have hdl : (Yg x).length ≤ 1048576 := by
    rcases hsg with ⟨-, h⟩ | ⟨-, h⟩
    ·rw [h]; exact HXL.out
    ·have h2 := HXL.out
     rw [h] at h2
     simp only [List.length_cons] at h2
     omega
   have KD := Kw (fun w => trimDig_any (Yg x) hdl w)
   have KW := Kw (fun w => Yf ((Yg x).length : Nat) 1 3 w)
   have hsz : (Bs (Yg x)).size = (Yg x).length := Xp _
   have HEw := Kw (HE1.out.trans HE.out)
   by_cases hin : 1 ≤ (Yg x).length ∧ (Yg x).length ≤ 3
   rotate_left
   ·have hb : Xu ((Yg x).length : Nat) 1 3 = false := by
     unfold Xu
     simp only [Bool.and_eq_false_iff, decide_eq_false_iff_not]
     omega
    have HNO := Kw (HNX.out (num3_no (fun h => hin ⟨h.1, h.2.1⟩)))
    rw [hb] at KW
    clear hb hin KD hdl hsg
    generalize Bs (Yg x) = D at *
    generalize (Yg x).length = dn at *
    generalize Bs x = X at *
    go_wp2_with (first | (go_at_call 131; (with_reducible refine (KT.out _).mono ?_); rintro e wn ⟨rfl, rfl⟩) | (go_at_call 71; (with_reducible refine (KW.out _).mono ?_); rintro e wn ⟨rfl, rfl⟩))
    refine Kr (v := .tuple #[.slice none 0 0, .bool false]) ?_ rfl (.inr ⟨HNO.out, rfl, HEw.out⟩)
    simp [results, Tryz.results68, go_sem]
   have hb : Xu ((Yg x).length : Nat) 1 3 = true := by
    unfold Xu
    simp only [Bool.and_eq_true, decide_eq_true_eq]
    omega
   rw [hb] at KW
   clear hb
   by_cases hall : (Yg x).all Wt = true
   rotate_left
   ·have hne := fun e => hall ((Mz (Yg x)).1 e)
    have hst := Qv (Bs_ne (a := Lib.trimS (Yg x) Rw) (b := []) hne)
    have e0 : Bs [] = (⟨#[]⟩ : ByteArray) := rfl
    rw [e0] at hst
    have hst2 : (Bs (Lib.trimS (Yg x) Rw)).toList.isEmpty = false := by simpa using hst
    have HNO := Kw (HNX.out (num3_no (fun h => hall h.2.2)))
    clear hst e0 hne hall hin hdl hsg
    generalize Bs (Lib.trimS (Yg x) Rw) = T at *
    generalize Bs (Yg x) = D at *
    generalize (Yg x).length = dn at *
    generalize Bs x = X at *
    go_wp2_with (first | (go_at_call 131; (with_reducible refine (KT.out _).mono ?_); rintro e wn ⟨rfl, rfl⟩) | (go_at_call 71; (with_reducible refine (KW.out _).mono ?_); rintro e wn ⟨rfl, rfl⟩) | (go_at_call 132; (with_reducible refine (KD.out _).mono ?_); rintro e wn ⟨rfl, hx⟩))
    refine Kr (v := .tuple #[.slice none 0 0, .bool false]) ?_ rfl (.inr ⟨HNO.out, rfl, HEw.out.trans hx⟩)
    simp [results, Tryz.results68, go_sem]
   have htr : Lib.trimS (Yg x) Rw = [] := (Mz (Yg x)).2 hall
   rw [htr] at KD
   have KA := Kw (fun w hm => atoiDig_any (Yg x) hall hin.1 hin.2 w hm)
   have hn3 := num3_yes (l := x) ⟨hin.1, hin.2, hall⟩
   have hfb := fold_bd (Yg x) (fun c hc => List.all_eq_true.1 hall c hc)
   have hfb2 : (Yg x).foldl Ww 0 < 1000 := Nat.lt_of_lt_of_le hfb (Nat.pow_le_pow_right (by omega) hin.2)
   have HM3 : Hid (∀ n, Nq x = some n → Xf Nq (ls.take (j + 1)) = some (ns ++ [n])) := Kw fun n h => by rw [HMs.out]; exact Uu h HM1.out
   have e0 : Bs [] = (⟨#[]⟩ : ByteArray) := rfl
   rw [e0] at KD
   have HE2w := HE.out.size
   have hlo1 := HE1.out.size
   have hsg2 : (sg x = 1 ∧ Bs (Yg x) = Bs x) ∨ (sg x = -1 ∧ ¬ Bs x = Bs (Yg x)) := by
    rcases hsg with ⟨h1, h2⟩ | ⟨h1, h2⟩
    ·exact .inl ⟨h1, by rw [h2]⟩
    ·refine .inr ⟨h1, Bs_ne fun e => ?_⟩
     have := congrArg List.length (e.symm.trans h2)
     simp at this
   clear hsg hall hin htr e0 hdl hfb HNX HXL HMs
   generalize Bs (Yg x) = D at *
   generalize (Yg x).length = dn at *
   generalize (Yg x).foldl Ww 0 = f at *
   generalize Bs x = X at *
   generalize sg x = sx at *
   rcases hsg2 with ⟨rfl, rfl⟩ | ⟨rfl, hXD⟩
   ·have HM4 := Kw (HM3.out _ (by rw [hn3, Int.one_mul]))
    clear HM3 hn3
    go_wp2_with (first | (go_at_call 131; (with_reducible refine (KT.out _).mono ?_); rintro e wn ⟨rfl, rfl⟩) | (go_at_call 71; (with_reducible refine (KW.out _).mono ?_); rintro e wn ⟨rfl, rfl⟩) | (go_at_call 132; (with_reducible refine (KD.out _).mono ?_); rintro e w8 ⟨rfl, hx8⟩) | (go_at_call 133; (with_reducible refine (KA.out _ (HM.out.ex (HEw.out.trans hx8))).mono ?_); rintro e w9 ⟨rfl, hx9⟩; have HE9 := Kw ((HE.out.trans hx8).trans hx9); have HO9 := Kw ((HO.out.ex hx8).ex hx9); have hlo9 : w1.heap.size ≤ w9.heap.size := HE9.out.size) | (at_builtin; refine Vf rfl _ _ w9 rfl w1.heap.size B cb ns _ rfl HO9.out rfl (by omega) hlo9 ?_; intro A' cap' w' hown' hk'))
    refine ⟨⟨j + 1, A', cap', _, by go_num, by omega, by simp, HM4, Kw hown', Kw (hk'.ex w1 HE9.out (Nat.le_refl _))⟩, ?_⟩
    simp [intOf] <;> omega
   ·have HM4 := Kw (HM3.out _ hn3)
    rw [Int.neg_mul, Int.one_mul] at HM4
    have hng : IntKind.i64.wrap (-(f : Int)) = -(f : Int) := Kq _ (by omega)
    have hst := Qv hXD
    clear HM3 hn3 hXD
    go_wp2_with (first | (go_at_call 131; (with_reducible refine (KT.out _).mono ?_); rintro e wn ⟨rfl, rfl⟩) | (go_at_call 71; (with_reducible refine (KW.out _).mono ?_); rintro e wn ⟨rfl, rfl⟩) | (go_at_call 132; (with_reducible refine (KD.out _).mono ?_); rintro e w8 ⟨rfl, hx8⟩) | (go_at_call 133; (with_reducible refine (KA.out _ (HM.out.ex (HEw.out.trans hx8))).mono ?_); rintro e w9 ⟨rfl, hx9⟩; have HE9 := Kw ((HE.out.trans hx8).trans hx9); have HO9 := Kw ((HO.out.ex hx8).ex hx9); have hlo9 : w1.heap.size ≤ w9.heap.size := HE9.out.size) | (at_builtin; refine Vf rfl _ _ w9 rfl w1.heap.size B cb ns _ rfl HO9.out rfl (by omega) hlo9 ?_; intro A' cap' w' hown' hk'))
    refine ⟨⟨j + 1, A', cap', _, by go_num, by omega, by simp, HM4, Kw hown', Kw (hk'.ex w1 HE9.out (Nat.le_refl _))⟩, ?_⟩
    simp [intOf] <;> omega
  ·obtain rfl : j = ls.length := by omega
   have hI : ¬ ((ls.length : Nat) : Int) < (ls.length : Int) := by omega
   have HRS := Kw (HY.out ns (by have := HM1.out; rwa [List.take_length] at this))
   have HEw := Kw (HE1.out.trans HE.out)
   have hlo1 := HE1.out.size
   clear hlt
   go_wp2
   refine Kr (v := .tuple #[.slice B ns.length cb, .bool true]) ?_ rfl (.inl ⟨ns, B, cb, HRS.out, rfl, HO.out.wide hlo1, HEw.out⟩)
   simp [results, Tryz.results68, go_sem]
end
section
open Go.RowKit

attribute [local go_sem] Zi Zh
theorem lns_len : ∀ l : List UInt8, (lns l).length ≤ l.length + 1
 | [] => by simp [lns]
 | b :: t => by
  have ih := lns_len t
  by_cases hb : b = 10
  ·subst hb
   rw [Np, List.length_cons, List.length_cons]
   omega
  ·rw [No hb]
   have := List.length_pos_iff.2 (lns_ne t)
   simp only [pre, List.length_cons, List.length_tail]
   omega
theorem splitN_any (l : List UInt8) (hl : l.length ≤ 1048576) (w : World) (hm : Vs w) : Calls Tryz.prog 24 #[.string (Bs l), .string ⟨#[10]⟩] w fun e w' =>
  e = .returned (.slice (some ⟨w.heap.size, 0, none⟩) (lns l).length (lns l).length) ∧ w' = w.alloc (.cells (Wv (lns l)).toArray 9) := by
 obtain ⟨m, hm⟩ := hm.max
 refine (Tryz.strings_Split (Bs l) ⟨#[10]⟩ m w (by rw [Xp]; omega) hm (by decide)).mono ?_
 rintro e w' ⟨rfl, rfl⟩
 rw [split_lns _ l rfl, lns_count]
 refine ⟨rfl, ?_⟩
 unfold Wv
 rw [List.map_map]
 rfl
theorem cutl_any (l : List UInt8) (hl : l.length ≤ 1048576) (w : World) (hm : Vs w) : Calls Tryz.prog 25 #[.string (Bs l), .string ⟨#[32]⟩] w fun e w' =>
  e = .returned (.tuple #[.string (Bs (Nm l).1), .string (Bs (Nm l).2.1), .bool (Nm l).2.2]) ∧ Ex w w' := by
 obtain ⟨m, hm⟩ := hm.max
 refine (Tryz.strings_Cut (Bs l) ⟨#[32]⟩ m w (by rw [Xp]; omega) hm).mono ?_
 rintro e w' ⟨rfl, n, rfl⟩
 exact ⟨rfl, (Ex.refl _).drewN n⟩
def AnsGot (bc : Nat) (w : World) (r : Con × List UInt8) : Ending → World → Prop := fun e w' =>
 ∃ (o : ByteArray) (ok told : Bool), e = .returned (.tuple #[.string o, .bool ok, .bool told]) ∧ answer o ok told = Bs r.2 ∧ w.grownBy w' (some bc) ∧ Box w' bc 55 r.1.cells
def LineOk (st : Con → List UInt8 → Con × List UInt8) (Q : Con → Prop) (l : List UInt8) : Prop := ∀ c, Q c → Q (st c l).1 ∧ (st c l).2.length ≤ 10000 ∧
 ∀ (bc : Nat) (w : World), Yc w → Vs w → Box w bc 55 c.cells →
  (if (Nm l).2.2 then Calls Tryz.prog 26 #[.pointer (some ⟨bc, 0, none⟩), .string (Bs (Nm l).1), .string (Bs (Nm l).2.1)] w (AnsGot bc w (st c l))
  else Calls Tryz.prog 27 #[.pointer (some ⟨bc, 0, none⟩), .string (Bs (Nm l).1)] w (AnsGot bc w (st c l)))
theorem Bld.far {w w' : World} {lo b bc : Nat} {p v : Value} {bs : List Value} (h : Bld w lo b p v bs) (hg : w.grownBy w' (some bc)) (hne : b ≠ bc) (hbc : bc < lo) : Bld w' lo b p v bs := by
 refine ⟨h.box.grown hg (fun e => hne (by injection e)), h.own.kept hg ?_, h.ptr⟩
 cases hv : v.ownBlock with
 | none => exact .inl rfl
 | some g =>
  right
  intro e
  injection e with e
  have := (Own.lt h.own g hv).1
  omega
theorem Bld.ex {w w' : World} {lo b : Nat} {p v : Value} {bs : List Value} (h : Bld w lo b p v bs) (hx : Ex w w') : Bld w' lo b p v bs := ⟨h.box.ex hx, Own.ex h.own hx, h.ptr⟩
structure ExS (W w : World) (bc bo bl lo : Nat) (c : Con) (o : List UInt8) (p v : Value) (ls : Array Value) : Prop where
 ex : Ex W w
 con : Box w bc 55 c.cells
 bld : Bld w lo bo p v (Lib.byteCells o)
 lines : Box w bl 9 ls
section
variable {W w w' : World} {bc bo bl lo : Nat} {c : Con} {o : List UInt8} {p v : Value} {ls : Array Value}
theorem ExS.go (h : ExS W w bc bo bl lo c o p v ls) (hx : Ex w w') : ExS W w' bc bo bl lo c o p v ls := ⟨h.ex.trans hx, h.con.ex hx, h.bld.ex hx, h.lines.ex hx⟩
theorem ExS.ans {c' : Con} (h : ExS W w bc bo bl lo c o p v ls) (hbc : W.heap.size ≤ bc) (h1 : bo ≠ bc) (h2 : bl ≠ bc) (h3 : bc < lo) (hg : w.grownBy w' (some bc)) (hb : Box w' bc 55 c'.cells) : ExS W w' bc bo bl lo c' o p v ls :=
 ⟨h.ex.grown hg (fun k hk => by injection hk with hk; omega), hb, h.bld.far hg h1 h3, h.lines.grown hg (fun e => h2 (by injection e))⟩
theorem ExS.wrote {t : List UInt8} {p' v' : Value} (h : ExS W w bc bo bl lo c o p v ls) (h0 : W.heap.size ≤ lo) (h1 : W.heap.size ≤ bo) (h2 : bc ≠ bo) (h3 : bl ≠ bo) (hb : Bld w' lo bo p' v' (Lib.byteCells o ++ Lib.strCells (Bs t))) (hk : Vj w w' lo bo) :
  ExS W w' bc bo bl lo c (o ++ t) p' v' ls :=
 ⟨hk.ex W h.ex h0 h1, hk.box _ _ _ h2 (by decide) h.con, by rw [Lib.byteCells_append]; exact hb, hk.box _ _ _ h3 (by decide) h.lines⟩
end
end
section
open Go.RowKit

theorem map_take_txt {xs : List Fr} {k : Nat} (hk : k < xs.length) : (xs.take (k + 1)).map txt = (xs.take k).map txt ++ [txt (xs.getD k .zero)] := by
 rw [List.take_succ_eq_append_getElem hk, List.map_append]
 simp [hk]

theorem map_bs (ls : List (List UInt8)) : (ls.map Bs).map (·.data.toList) = ls := by
 rw [List.map_map]
 exact List.map_id ls
theorem Qm.join {w : World} {lo : Nat} {B : Option Addr} {cb : Nat} {ls : List (List UInt8)} (h : Qm w lo B cb ls) (hp : 0 < ls.length) (hl : ls.length ≤ 1048576) (hlen : (Lib.join ls [32]).length ≤ 1048576) :
  Calls Tryz.prog 136 #[.slice B ls.length cb, .string ⟨#[32]⟩] w fun e w' => e = .returned (.string (Bs (Lib.join ls [32]))) ∧ Ex w w' := by
 obtain ⟨b, off, hB, hc⟩ := Own.slc h (by simpa [Wv] using hp)
 subst hB
 have hcl : (Wv ls).length = ls.length := by simp [Wv]
 have hcell : ∀ (j : Nat) x, (ls.map Bs)[j]? = some x → w.cell? ⟨b, off + j, none⟩ = some (.string x) := fun j x hx => by
  have hj : j < ls.length := by
   rcases Nat.lt_or_ge j ls.length with hj | hj
   ·exact hj
   ·rw [List.getElem?_eq_none (by simpa using hj)] at hx; cases hx
  rw [hc j (by omega)]
  unfold Wv
  rw [List.getElem?_map] at hx ⊢
  cases hq : ls[j]? with
  | none => rw [hq] at hx; cases hx
  | some l => rw [hq] at hx; injection hx with hx; rw [← hx]; rfl
 have hcap : ls.length ≤ cb := by
  rcases h.2 with ⟨h0, h1⟩ | ⟨g, cap, cur, hv, hg, hh, h1, h2, h3⟩
  ·omega
  ·injection hv with e1 e2 e3
   omega
 have hb0 : w.cell? ⟨b, off + 0, none⟩ = (Wv ls)[0]? := hc 0 (by omega)
 have hlt : b < w.heap.size := by
  rw [List.getElem?_eq_getElem (by omega)] at hb0
  exact World.block_lt_of_cell? w _ hb0
 have hj := Tryz.strings_Join b off cb (ls.map Bs) ⟨#[32]⟩ w hcell hlt (by rw [List.length_map]; omega) (by rw [List.length_map]; exact hcap) (by rw [map_bs]; show (Lib.join ls [32]).length ≤ _; omega)
 rw [map_bs, List.length_map] at hj
 exact hj.mono fun e w' ⟨h1, h2⟩ => ⟨h1, h2⟩

theorem texts_any (A : Option Addr) (xs : List Fr) (cap : Nat) (w : World) (hS : Uj w A xs) (hl : xs.length ≤ 4) (hp : 0 < xs.length) (hj : (Lib.join (xs.map txt) [32]).length ≤ 1048576) (hv : ∀ k, k < xs.length → (xs.getD k .zero).valid = true) (ht : Tab w) :
  Calls Tryz.prog 72 #[.slice A xs.length cap] w fun e w' => e = .returned (.tuple #[.string (Bs (Lib.join (xs.map txt) [32])), .bool true]) ∧ Ex w w' := by
 have HT := Kw ht
 have HV := Kw hv
 clear ht hv
 go_enter Tryz.func72, Tryz.ntmps72
 go_wp2
 have hO := ownS_nil w _ (Nat.le_refl _)
 have hE := (Ex.refl w).alloc (.cells #[] 9)
 go_loopw [12, 4, 6, 7, 8] (fun i v f s1 k1 wr => ∃ (k : Nat) (B : Option Addr) (cb : Nat) (ys : List (List UInt8)), k ≤ xs.length ∧ i = .int .i64 k ∧ v = .slice B ys.length cb ∧ Hid (ys = (xs.take k).map txt) ∧ Hid (Qm wr w.heap.size B cb ys) ∧ Ex w wr) (fun i _ _ _ _ _ => xs.length - (intOf i).toNat)
 case atStart => exact ⟨0, _, 0, [], by omega, rfl, rfl, Kw (by simp), Kw hO, hE⟩
 case round =>
  obtain ⟨k, B, cb, ys, hk, rfl, rfl, HY, HO, hEr⟩ := hrel
  have hsz := hEr.size
  by_cases hlt : k < xs.length
  ·obtain ⟨b, off, rfl, hc⟩ := (hS.ex hEr).at (by omega)
   obtain ⟨c1, c2, c3⟩ := hc k hlt
   have hyl : ys.length ≤ 1048576 := by rw [HY.out, List.length_map, List.length_take]; omega
   have HYn : Hid (ys ++ [txt (xs.getD k .zero)] = (xs.take (k + 1)).map txt) := Kw (by rw [map_take_txt hlt, HY.out])
   have hvk := HV.out k hlt
   have hft : Tx (xs.getD k .zero) = (txt (xs.getD k .zero), true) := by simp only [Tx, hvk, if_true]
   have k2 : ∀ w, Tab w → Calls _ _ #[.agg #[.int .i64 (xs.getD k .zero).re, .int .i64 (xs.getD k .zero).im, .int .i64 (xs.getD k .zero).den]] w (GotS w (Tx (xs.getD k .zero))) := fun w ht => Nx (xs.getD k .zero) w ht
   rw [hft] at k2
   have k3 : ∀ w, Tab w → Calls _ _ #[.agg #[.int .i64 (xs.getD k .zero).re, .int .i64 (xs.getD k .zero).im, .int .i64 (xs.getD k .zero).den]] w fun e w' => e = .returned (.tuple #[.string (Bs (txt (xs.getD k .zero))), .bool true]) ∧ Ex w w' := k2
   clear hvk hft k2
   generalize txt (xs.getD k .zero) = l at k3 HYn
   generalize (xs.getD k .zero).re = r1 at c1 k3
   generalize (xs.getD k .zero).im = r2 at c2 k3
   generalize (xs.getD k .zero).den = r3 at c3 k3
   have K3 := Kw k3
   have HT2 : Hid (Tab wr) := Kw (HT.out.ex hEr)
   clear hc k3
   go_wp2_with fail
   refine (K3.out _ (HT2.out.ex ((Ex.refl _).alloc _))).mono ?_
   rintro e w2 ⟨rfl, hx⟩
   have HO2 := Kw ((HO.out.ex ((Ex.refl _).alloc _)).ex hx)
   have hE2 := (hEr.alloc _).trans hx
   have hs2 := hE2.size
   clear hx K3 c1 c2 c3
   go_wp2_with (at_builtin; refine Tk slS rfl _ _ w2 rfl w.heap.size B cb ys.length (Wv ys) [.string (Bs l)] rfl (by simp [Value.oneCell']) rfl HO2.out rfl hyl hs2 ?_)
   intro A' cap' w' hown' hk'
   have hE3 := hk'.ex w hE2 (Nat.le_refl _)
   have HO3 := Kw (Qm.snoc (l := l) hown')
   clear hown' hk'
   go_wp2
   go_roundw
   case rel => exact ⟨k + 1, A', cap', ys ++ [l], by omega, by go_num, by simp, HYn, HO3, hE3⟩
   case measure => simp [intOf]; omega
  ·have e1 : ys = xs.map txt := by rw [HY.out, List.take_of_length_le (by omega)]
   have hjn := fun (hO : Qm wr w.heap.size B cb ys) => Qm.join hO (by rw [e1, List.length_map]; exact hp) (by rw [e1, List.length_map]; omega) (by rw [e1]; exact hj)
   have hjn := hjn HO.out
   obtain ⟨S, HS⟩ : ∃ S, Hid (S = Bs (Lib.join (xs.map txt) [32])) := ⟨_, Kw rfl⟩
   rw [e1, ← HS.out, ← e1] at hjn
   clear e1 HY HO hO hE hj
   go_wp2_with fail
   refine hjn.mono ?_
   rintro e w2 ⟨rfl, hx⟩
   go_wp2
   refine Kr (v := .tuple #[.string S, .bool true]) ?_ rfl ⟨by rw [HS.out], hEr.trans hx⟩
   simp [results, Tryz.results72, go_sem]

def jtxt (a b c d : Fr) : List UInt8 := Lib.join [txt a, txt b, txt c, txt d] [32]
def stext (a b c d : Fr) : List UInt8 × Bool := if svalid a b c d then (jtxt a b c d, true) else ([], false)
end
section
open Go.RowKit

def Rr (xs : List Fr) : List UInt8 × Bool := if xs.all (·.valid) then (Lib.join (xs.map txt) [32], true) else ([], false)
theorem Ov : ∀ (xs : List Fr), xs.all (·.valid) = true → (Lib.join (xs.map txt) [32]).length ≤ 68 * xs.length
 | [], _ => by simp [Lib.join_nil]
 | x :: xs, h => by
  rw [List.map_cons, Lib.join_length]
  have key : ∀ ys : List Fr, ys.all (·.valid) = true → Lib.lens (ys.map txt) ≤ 67 * ys.length := by
   intro ys
   induction ys with
   | nil => intro _; simp [Lib.lens]
   | cons y ys ih =>
    intro hy
    simp only [List.all_cons, Bool.and_eq_true] at hy
    have h1 := (Ny hy.1).2.2.2.2
    have h2 := ih hy.2
    simp only [Lib.lens, List.map_cons, List.sum_cons, List.length_cons] at h2 ⊢
    omega
  have := key (x :: xs) h
  simp only [List.map_cons, List.length_cons, List.length_map, List.length_nil] at this ⊢
  omega
theorem txsOf_len (xs : List Fr) : (Rr xs).1.length ≤ 68 * xs.length := by
 unfold Rr
 split
 ·rename_i h
  exact Ov xs h
 ·simp
theorem La {xs : List Fr} (h : xs.all (·.valid) = true) {k : Nat} (hk : k < xs.length) : (xs.getD k .zero).valid = true := by
 rw [List.getD_eq_getElem?_getD, List.getElem?_eq_getElem hk]
 exact List.all_eq_true.1 h _ (List.getElem_mem hk)
theorem txsOf_no {xs : List Fr} {k : Nat} (hk : k < xs.length) (h : (xs.getD k .zero).valid = false) : Rr xs = ([], false) := by
 unfold Rr
 rw [if_neg]
 intro ha
 rw [La ha hk] at h
 cases h
theorem texts_gen (A : Option Addr) (xs : List Fr) (cap : Nat) (w : World) (hS : Uj w A xs) (hl : xs.length ≤ 4) (hp : 0 < xs.length) (ht : Tab w) :
  Calls Tryz.prog 72 #[.slice A xs.length cap] w (GotS w (Rr xs)) := by
 by_cases hall : xs.all (·.valid) = true
 ·refine (texts_any A xs cap w hS hl hp (by have := Ov xs hall; omega) (fun k hk => La hall hk) ht).mono ?_
  rintro e w' ⟨rfl, hx⟩
  unfold Rr
  rw [if_pos hall]
  exact ⟨rfl, hx⟩
 have HT := Kw ht
 clear ht
 obtain ⟨R, HR⟩ : ∃ R, Hid (R = Rr xs) := ⟨_, Kw rfl⟩
 rw [← HR.out]
 have HNA := Kw hall
 clear hall
 go_enter Tryz.func72, Tryz.ntmps72
 go_wp2
 have hO := ownS_nil w _ (Nat.le_refl _)
 have hE := (Ex.refl w).alloc (.cells #[] 9)
 go_loopw [12, 4, 6, 7, 8] (fun i v f s1 k1 wr => ∃ (k : Nat) (B : Option Addr) (cb : Nat) (ys : List (List UInt8)), k ≤ xs.length ∧ i = .int .i64 k ∧ v = .slice B ys.length cb ∧ ys.length ≤ k ∧ Hid (∀ j, j < k → (xs.getD j .zero).valid = true) ∧ Hid (Qm wr w.heap.size B cb ys) ∧ Ex w wr) (fun i _ _ _ _ _ => xs.length + 1 - (intOf i).toNat)
 case atStart => exact ⟨0, _, 0, [], by omega, rfl, rfl, by simp, Kw (fun j hj => by omega), Kw hO, hE⟩
 case round =>
  obtain ⟨k, B, cb, ys, hk, rfl, rfl, hyk, HV, HO, hEr⟩ := hrel
  have hsz := hEr.size
  by_cases hlt : k < xs.length
  ·obtain ⟨b, off, rfl, hc⟩ := (hS.ex hEr).at (by omega)
   obtain ⟨c1, c2, c3⟩ := hc k hlt
   have hyl : ys.length ≤ 1048576 := by omega
   have k2 : ∀ w, Tab w → Calls _ _ #[.agg #[.int .i64 (xs.getD k .zero).re, .int .i64 (xs.getD k .zero).im, .int .i64 (xs.getD k .zero).den]] w (GotS w (Tx (xs.getD k .zero))) := fun w ht => Nx (xs.getD k .zero) w ht
   have HT2 : Hid (Tab wr) := Kw (HT.out.ex hEr)
   rcases hvk : (xs.getD k .zero).valid with _ | _
   ·have hft : Tx (xs.getD k .zero) = ([], false) := by simp only [Tx, hvk, Bool.false_eq_true, if_false]
    have HN := Kw (HR.out.trans (txsOf_no hlt hvk))
    rw [hft] at k2
    have k3 : ∀ w, Tab w → Calls _ _ #[.agg #[.int .i64 (xs.getD k .zero).re, .int .i64 (xs.getD k .zero).im, .int .i64 (xs.getD k .zero).den]] w fun e w' => e = .returned (.tuple #[.string ⟨#[]⟩, .bool false]) ∧ Ex w w' := k2
    clear hvk hft k2
    generalize (xs.getD k .zero).re = r1 at c1 k3
    generalize (xs.getD k .zero).im = r2 at c2 k3
    generalize (xs.getD k .zero).den = r3 at c3 k3
    have K3 := Kw k3
    clear hc k3
    go_wp2_with fail
    refine (K3.out _ (HT2.out.ex ((Ex.refl _).alloc _))).mono ?_
    rintro e w2 ⟨rfl, hx⟩
    have hE2 := (hEr.alloc _).trans hx
    clear hx K3 c1 c2 c3
    go_wp2
    refine Kr (v := .tuple #[.string ⟨#[]⟩, .bool false]) ?_ rfl ⟨by rw [HN.out]; rfl, hE2⟩
    simp [results, Tryz.results72, go_sem]
   ·have hft : Tx (xs.getD k .zero) = (txt (xs.getD k .zero), true) := by simp only [Tx, hvk, if_true]
    rw [hft] at k2
    have k3 : ∀ w, Tab w → Calls _ _ #[.agg #[.int .i64 (xs.getD k .zero).re, .int .i64 (xs.getD k .zero).im, .int .i64 (xs.getD k .zero).den]] w fun e w' => e = .returned (.tuple #[.string (Bs (txt (xs.getD k .zero))), .bool true]) ∧ Ex w w' := k2
    have HV2 : Hid (∀ j, j < k + 1 → (xs.getD j .zero).valid = true) := Kw fun j hj => by
     rcases Nat.lt_or_ge j k with h | h
     ·exact HV.out j h
     ·obtain rfl : j = k := by omega
      exact hvk
    clear hft k2 HV hvk
    generalize txt (xs.getD k .zero) = l at k3
    generalize (xs.getD k .zero).re = r1 at c1 k3
    generalize (xs.getD k .zero).im = r2 at c2 k3
    generalize (xs.getD k .zero).den = r3 at c3 k3
    have K3 := Kw k3
    clear hc k3
    go_wp2_with fail
    refine (K3.out _ (HT2.out.ex ((Ex.refl _).alloc _))).mono ?_
    rintro e w2 ⟨rfl, hx⟩
    have HO2 := Kw ((HO.out.ex ((Ex.refl _).alloc _)).ex hx)
    have hE2 := (hEr.alloc _).trans hx
    have hs2 := hE2.size
    clear hx K3 c1 c2 c3
    go_wp2_with (at_builtin; refine Tk slS rfl _ _ w2 rfl w.heap.size B cb ys.length (Wv ys) [.string (Bs l)] rfl (by simp [Value.oneCell']) rfl HO2.out rfl hyl hs2 ?_)
    intro A' cap' w' hown' hk'
    have hE3 := hk'.ex w hE2 (Nat.le_refl _)
    have HO3 := Kw (Qm.snoc (l := l) hown')
    clear hown' hk'
    go_wp2
    go_roundw
    case rel => exact ⟨k + 1, A', cap', ys ++ [l], by omega, by go_num, by simp, by simp; omega, HV2, HO3, hE3⟩
    case measure => simp [intOf]; omega
  ·exfalso
   refine HNA.out (List.all_eq_true.2 fun x hx => ?_)
   obtain ⟨j, hj, rfl⟩ := List.getElem_of_mem hx
   have := HV.out j (by omega)
   rw [List.getD_eq_getElem?_getD, List.getElem?_eq_getElem hj] at this
   exact this
end
end Go.Proofs.YtiommfmaleeibaaGreatDoor
