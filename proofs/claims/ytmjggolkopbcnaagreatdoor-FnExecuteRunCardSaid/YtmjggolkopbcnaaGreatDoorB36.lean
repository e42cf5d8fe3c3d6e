/-
  Proved: what functions compute, part 36. No condition.
-/
import Derived.Test.YtmjggolkopbcnaaGreatDoorB19
import Derived.Test.YtmjggolkopbcnaaGreatDoorB06
import Derived.Test.YtmjggolkopbcnaaGreatDoorB01
import Derived.Test.YtmjggolkopbcnaaGreatDoorB07
import Derived.Test.YtmjggolkopbcnaaGreatDoorB35
set_option linter.unusedSimpArgs false
set_option linter.unusedVariables false
set_option maxRecDepth 20000
set_option maxHeartbeats 8000000
namespace Go.Proofs.YtmjggolkopbcnaaGreatDoor
section
open Go.RowKit

theorem map_take_txt {xs : List Fr} {k : Nat} (hk : k < xs.length) : (xs.take (k + 1)).map txt = (xs.take k).map txt ++ [txt (xs.getD k .zero)] := by
 rw [List.take_succ_eq_append_getElem hk, List.map_append]
 simp [hk]

theorem map_bs (ls : List (List UInt8)) : (ls.map Bs).map (·.data.toList) = ls := by
 rw [List.map_map]
 exact List.map_id ls
theorem Vc.join {w : World} {lo : Nat} {B : Option Addr} {cb : Nat} {ls : List (List UInt8)} (h : Vc w lo B cb ls) (hp : 0 < ls.length) (hl : ls.length ≤ 1048576) (hlen : (Lib.join ls [32]).length ≤ 1048576) :
  Calls Tryz.prog 140 #[.slice B ls.length cb, .string ⟨#[32]⟩] w fun e w' => e = .returned (.string (Bs (Lib.join ls [32]))) ∧ Ex w w' := by
 obtain ⟨b, off, hB, hc⟩ := Own.slc h (by simpa [Yd] using hp)
 subst hB
 have hcl : (Yd ls).length = ls.length := by simp [Yd]
 have hcell : ∀ (j : Nat) x, (ls.map Bs)[j]? = some x → w.cell? ⟨b, off + j, none⟩ = some (.string x) := fun j x hx => by
  have hj : j < ls.length := by
   rcases Nat.lt_or_ge j ls.length with hj | hj
   ·exact hj
   ·rw [List.getElem?_eq_none (by simpa using hj)] at hx; cases hx
  rw [hc j (by omega)]
  unfold Yd
  rw [List.getElem?_map] at hx ⊢
  cases hq : ls[j]? with
  | none => rw [hq] at hx; cases hx
  | some l => rw [hq] at hx; injection hx with hx; rw [← hx]; rfl
 have hcap : ls.length ≤ cb := by
  rcases h.2 with ⟨h0, h1⟩ | ⟨g, cap, cur, hv, hg, hh, h1, h2, h3⟩
  ·omega
  ·injection hv with e1 e2 e3
   omega
 have hb0 : w.cell? ⟨b, off + 0, none⟩ = (Yd ls)[0]? := hc 0 (by omega)
 have hlt : b < w.heap.size := by
  rw [List.getElem?_eq_getElem (by omega)] at hb0
  exact World.block_lt_of_cell? w _ hb0
 have hj := Tryz.strings_Join b off cb (ls.map Bs) ⟨#[32]⟩ w hcell hlt (by rw [List.length_map]; omega) (by rw [List.length_map]; exact hcap) (by rw [map_bs]; show (Lib.join ls [32]).length ≤ _; omega)
 rw [map_bs, List.length_map] at hj
 exact hj.mono fun e w' ⟨h1, h2⟩ => ⟨h1, h2⟩

theorem texts_any (A : Option Addr) (xs : List Fr) (cap : Nat) (w : World) (hS : Vd w A xs) (hl : xs.length ≤ 4) (hp : 0 < xs.length) (hj : (Lib.join (xs.map txt) [32]).length ≤ 1048576) (hv : ∀ k, k < xs.length → (xs.getD k .zero).valid = true) (ht : Tab w) :
  Calls Tryz.prog 80 #[.slice A xs.length cap] w fun e w' => e = .returned (.tuple #[.string (Bs (Lib.join (xs.map txt) [32])), .bool true]) ∧ Ex w w' := by
 have HT := Oi ht
 have HV := Oi hv
 clear ht hv
 go_enter Tryz.func80, Tryz.ntmps80
 go_wp2
 have hO := Ru w _ (Nat.le_refl _)
 have hE := (Ex.refl w).alloc (.cells #[] 9)
 go_loopw [12, 4, 6, 7, 8] (fun i v f s1 k1 wr => ∃ (k : Nat) (B : Option Addr) (cb : Nat) (ys : List (List UInt8)), k ≤ xs.length ∧ i = .int .i64 k ∧ v = .slice B ys.length cb ∧ Hid (ys = (xs.take k).map txt) ∧ Hid (Vc wr w.heap.size B cb ys) ∧ Ex w wr) (fun i _ _ _ _ _ => xs.length - (intOf i).toNat)
 case atStart => exact ⟨0, _, 0, [], by omega, rfl, rfl, Oi (by simp), Oi hO, hE⟩
 case round =>
  obtain ⟨k, B, cb, ys, hk, rfl, rfl, HY, HO, hEr⟩ := hrel
  have hsz := hEr.size
  by_cases hlt : k < xs.length
  ·obtain ⟨b, off, rfl, hc⟩ := (hS.ex hEr).at (by omega)
   obtain ⟨c1, c2, c3⟩ := hc k hlt
   have hyl : ys.length ≤ 1048576 := by rw [HY.out, List.length_map, List.length_take]; omega
   have HYn : Hid (ys ++ [txt (xs.getD k .zero)] = (xs.take (k + 1)).map txt) := Oi (by rw [map_take_txt hlt, HY.out])
   have hvk := HV.out k hlt
   have hft : Xe (xs.getD k .zero) = (txt (xs.getD k .zero), true) := by simp only [Xe, hvk, if_true]
   have k2 : ∀ w, Tab w → Calls _ _ #[.agg #[.int .i64 (xs.getD k .zero).re, .int .i64 (xs.getD k .zero).im, .int .i64 (xs.getD k .zero).den]] w (GotS w (Xe (xs.getD k .zero))) := fun w ht => Ta (xs.getD k .zero) w ht
   rw [hft] at k2
   have k3 : ∀ w, Tab w → Calls _ _ #[.agg #[.int .i64 (xs.getD k .zero).re, .int .i64 (xs.getD k .zero).im, .int .i64 (xs.getD k .zero).den]] w fun e w' => e = .returned (.tuple #[.string (Bs (txt (xs.getD k .zero))), .bool true]) ∧ Ex w w' := k2
   clear hvk hft k2
   generalize txt (xs.getD k .zero) = l at k3 HYn
   generalize (xs.getD k .zero).re = r1 at c1 k3
   generalize (xs.getD k .zero).im = r2 at c2 k3
   generalize (xs.getD k .zero).den = r3 at c3 k3
   have K3 := Oi k3
   have HT2 : Hid (Tab wr) := Oi (HT.out.ex hEr)
   clear hc k3
   go_wp2_with fail
   refine (K3.out _ (HT2.out.ex ((Ex.refl _).alloc _))).mono ?_
   rintro e w2 ⟨rfl, hx⟩
   have HO2 := Oi ((HO.out.ex ((Ex.refl _).alloc _)).ex hx)
   have hE2 := (hEr.alloc _).trans hx
   have hs2 := hE2.size
   clear hx K3 c1 c2 c3
   go_wp2_with (at_builtin; refine Xr slS rfl _ _ w2 rfl w.heap.size B cb ys.length (Yd ys) [.string (Bs l)] rfl (by simp [Value.oneCell']) rfl HO2.out rfl hyl hs2 ?_)
   intro A' cap' w' hown' hk'
   have hE3 := hk'.ex w hE2 (Nat.le_refl _)
   have HO3 := Oi (Vc.snoc (l := l) hown')
   clear hown' hk'
   go_wp2
   go_roundw
   case rel => exact ⟨k + 1, A', cap', ys ++ [l], by omega, by go_num, by simp, HYn, HO3, hE3⟩
   case measure => simp [intOf]; omega
  ·have e1 : ys = xs.map txt := by rw [HY.out, List.take_of_length_le (by omega)]
   have hjn := fun (hO : Vc wr w.heap.size B cb ys) => Vc.join hO (by rw [e1, List.length_map]; exact hp) (by rw [e1, List.length_map]; omega) (by rw [e1]; exact hj)
   have hjn := hjn HO.out
   obtain ⟨S, HS⟩ : ∃ S, Hid (S = Bs (Lib.join (xs.map txt) [32])) := ⟨_, Oi rfl⟩
   rw [e1, ← HS.out, ← e1] at hjn
   clear e1 HY HO hO hE hj
   go_wp2_with fail
   refine hjn.mono ?_
   rintro e w2 ⟨rfl, hx⟩
   go_wp2
   refine Od (v := .tuple #[.string S, .bool true]) ?_ rfl ⟨by rw [HS.out], hEr.trans hx⟩
   simp [results, Tryz.results80, go_sem]

def jtxt (a b c d : Fr) : List UInt8 := Lib.join [txt a, txt b, txt c, txt d] [32]
def stext (a b c d : Fr) : List UInt8 × Bool := if svalid a b c d then (jtxt a b c d, true) else ([], false)
end
section
open Go.RowKit

def Tv (xs : List Fr) : List UInt8 × Bool := if xs.all (·.valid) then (Lib.join (xs.map txt) [32], true) else ([], false)
theorem Rl : ∀ (xs : List Fr), xs.all (·.valid) = true → (Lib.join (xs.map txt) [32]).length ≤ 68 * xs.length
 | [], _ => by simp [Lib.join_nil]
 | x :: xs, h => by
  rw [List.map_cons, Lib.join_length]
  have key : ∀ ys : List Fr, ys.all (·.valid) = true → Lib.lens (ys.map txt) ≤ 67 * ys.length := by
   intro ys
   induction ys with
   | nil => intro _; simp [Lib.lens]
   | cons y ys ih =>
    intro hy
    simp only [List.all_cons, Bool.and_eq_true] at hy
    have h1 := (Tb hy.1).2.2.2.2
    have h2 := ih hy.2
    simp only [Lib.lens, List.map_cons, List.sum_cons, List.length_cons] at h2 ⊢
    omega
  have := key (x :: xs) h
  simp only [List.map_cons, List.length_cons, List.length_map, List.length_nil] at this ⊢
  omega
theorem txsOf_len (xs : List Fr) : (Tv xs).1.length ≤ 68 * xs.length := by
 unfold Tv
 split
 ·rename_i h
  exact Rl xs h
 ·simp
theorem Oj {xs : List Fr} (h : xs.all (·.valid) = true) {k : Nat} (hk : k < xs.length) : (xs.getD k .zero).valid = true := by
 rw [List.getD_eq_getElem?_getD, List.getElem?_eq_getElem hk]
 exact List.all_eq_true.1 h _ (List.getElem_mem hk)
theorem txsOf_no {xs : List Fr} {k : Nat} (hk : k < xs.length) (h : (xs.getD k .zero).valid = false) : Tv xs = ([], false) := by
 unfold Tv
 rw [if_neg]
 intro ha
 rw [Oj ha hk] at h
 cases h
theorem texts_gen (A : Option Addr) (xs : List Fr) (cap : Nat) (w : World) (hS : Vd w A xs) (hl : xs.length ≤ 4) (hp : 0 < xs.length) (ht : Tab w) :
  Calls Tryz.prog 80 #[.slice A xs.length cap] w (GotS w (Tv xs)) := by
 by_cases hall : xs.all (·.valid) = true
 ·refine (texts_any A xs cap w hS hl hp (by have := Rl xs hall; omega) (fun k hk => Oj hall hk) ht).mono ?_
  rintro e w' ⟨rfl, hx⟩
  unfold Tv
  rw [if_pos hall]
  exact ⟨rfl, hx⟩
 have HT := Oi ht
 clear ht
 obtain ⟨R, HR⟩ : ∃ R, Hid (R = Tv xs) := ⟨_, Oi rfl⟩
 rw [← HR.out]
 have HNA := Oi hall
 clear hall
 go_enter Tryz.func80, Tryz.ntmps80
 go_wp2
 have hO := Ru w _ (Nat.le_refl _)
 have hE := (Ex.refl w).alloc (.cells #[] 9)
 go_loopw [12, 4, 6, 7, 8] (fun i v f s1 k1 wr => ∃ (k : Nat) (B : Option Addr) (cb : Nat) (ys : List (List UInt8)), k ≤ xs.length ∧ i = .int .i64 k ∧ v = .slice B ys.length cb ∧ ys.length ≤ k ∧ Hid (∀ j, j < k → (xs.getD j .zero).valid = true) ∧ Hid (Vc wr w.heap.size B cb ys) ∧ Ex w wr) (fun i _ _ _ _ _ => xs.length + 1 - (intOf i).toNat)
 case atStart => exact ⟨0, _, 0, [], by omega, rfl, rfl, by simp, Oi (fun j hj => by omega), Oi hO, hE⟩
 case round =>
  obtain ⟨k, B, cb, ys, hk, rfl, rfl, hyk, HV, HO, hEr⟩ := hrel
  have hsz := hEr.size
  by_cases hlt : k < xs.length
  ·obtain ⟨b, off, rfl, hc⟩ := (hS.ex hEr).at (by omega)
   obtain ⟨c1, c2, c3⟩ := hc k hlt
   have hyl : ys.length ≤ 1048576 := by omega
   have k2 : ∀ w, Tab w → Calls _ _ #[.agg #[.int .i64 (xs.getD k .zero).re, .int .i64 (xs.getD k .zero).im, .int .i64 (xs.getD k .zero).den]] w (GotS w (Xe (xs.getD k .zero))) := fun w ht => Ta (xs.getD k .zero) w ht
   have HT2 : Hid (Tab wr) := Oi (HT.out.ex hEr)
   rcases hvk : (xs.getD k .zero).valid with _ | _
   ·have hft : Xe (xs.getD k .zero) = ([], false) := by simp only [Xe, hvk, Bool.false_eq_true, if_false]
    have HN := Oi (HR.out.trans (txsOf_no hlt hvk))
    rw [hft] at k2
    have k3 : ∀ w, Tab w → Calls _ _ #[.agg #[.int .i64 (xs.getD k .zero).re, .int .i64 (xs.getD k .zero).im, .int .i64 (xs.getD k .zero).den]] w fun e w' => e = .returned (.tuple #[.string ⟨#[]⟩, .bool false]) ∧ Ex w w' := k2
    clear hvk hft k2
    generalize (xs.getD k .zero).re = r1 at c1 k3
    generalize (xs.getD k .zero).im = r2 at c2 k3
    generalize (xs.getD k .zero).den = r3 at c3 k3
    have K3 := Oi k3
    clear hc k3
    go_wp2_with fail
    refine (K3.out _ (HT2.out.ex ((Ex.refl _).alloc _))).mono ?_
    rintro e w2 ⟨rfl, hx⟩
    have hE2 := (hEr.alloc _).trans hx
    clear hx K3 c1 c2 c3
    go_wp2
    refine Od (v := .tuple #[.string ⟨#[]⟩, .bool false]) ?_ rfl ⟨by rw [HN.out]; rfl, hE2⟩
    simp [results, Tryz.results80, go_sem]
   ·have hft : Xe (xs.getD k .zero) = (txt (xs.getD k .zero), true) := by simp only [Xe, hvk, if_true]
    rw [hft] at k2
    have k3 : ∀ w, Tab w → Calls _ _ #[.agg #[.int .i64 (xs.getD k .zero).re, .int .i64 (xs.getD k .zero).im, .int .i64 (xs.getD k .zero).den]] w fun e w' => e = .returned (.tuple #[.string (Bs (txt (xs.getD k .zero))), .bool true]) ∧ Ex w w' := k2
    have HV2 : Hid (∀ j, j < k + 1 → (xs.getD j .zero).valid = true) := Oi fun j hj => by
     rcases Nat.lt_or_ge j k with h | h
     ·exact HV.out j h
     ·obtain rfl : j = k := by omega
      exact hvk
    clear hft k2 HV hvk
    generalize txt (xs.getD k .zero) = l at k3
    generalize (xs.getD k .zero).re = r1 at c1 k3
    generalize (xs.getD k .zero).im = r2 at c2 k3
    generalize (xs.getD k .zero).den = r3 at c3 k3
    have K3 := Oi k3
    clear hc k3
    go_wp2_with fail
    refine (K3.out _ (HT2.out.ex ((Ex.refl _).alloc _))).mono ?_
    rintro e w2 ⟨rfl, hx⟩
    have HO2 := Oi ((HO.out.ex ((Ex.refl _).alloc _)).ex hx)
    have hE2 := (hEr.alloc _).trans hx
    have hs2 := hE2.size
    clear hx K3 c1 c2 c3
    go_wp2_with (at_builtin; refine Xr slS rfl _ _ w2 rfl w.heap.size B cb ys.length (Yd ys) [.string (Bs l)] rfl (by simp [Value.oneCell']) rfl HO2.out rfl hyl hs2 ?_)
    intro A' cap' w' hown' hk'
    have hE3 := hk'.ex w hE2 (Nat.le_refl _)
    have HO3 := Oi (Vc.snoc (l := l) hown')
    clear hown' hk'
    go_wp2
    go_roundw
    case rel => exact ⟨k + 1, A', cap', ys ++ [l], by omega, by go_num, by simp, by simp; omega, HV2, HO3, hE3⟩
    case measure => simp [intOf]; omega
  ·exfalso
   refine HNA.out (List.all_eq_true.2 fun x hx => ?_)
   obtain ⟨j, hj, rfl⟩ := List.getElem_of_mem hx
   have := HV.out j (by omega)
   rw [List.getD_eq_getElem?_getD, List.getElem?_eq_getElem hj] at this
   exact this
end
end Go.Proofs.YtmjggolkopbcnaaGreatDoor
