/-
  Proved: what functions compute, part 24. No condition.
-/
import Derived.Test.YtmjggolkopbcnaaGreatDoorB19
import Derived.Test.YtmjggolkopbcnaaGreatDoorB05
import Derived.Test.YtmjggolkopbcnaaGreatDoorB13
import Derived.Test.YtmjggolkopbcnaaGreatDoorB11
import Derived.Deep.RegionHeld3
set_option linter.unusedSimpArgs false
set_option linter.unusedVariables false
set_option maxRecDepth 20000
set_option maxHeartbeats 8000000
namespace Go.Proofs.YtmjggolkopbcnaaGreatDoor
section
open Go.RowKit

theorem atoi_fit {l : List UInt8} (hl : l.length ≤ 1048576) {v : Int} (h : Lib.atoiAll l = .ok v) (w : World) : Calls Tryz.prog 137 #[.string (Bs l)] w fun e w' => e = .returned (.tuple #[.int .i64 v, .nilIface]) ∧ Ex w w' := by
 refine (Tryz.strconv_Atoi_ok (Bs l) (by rw [Zd]; omega) v h w).mono ?_
 rintro e w' ⟨rfl, hw⟩
 refine ⟨rfl, ?_⟩
 rcases hw with rfl | ⟨t, rfl⟩
 ·exact Ex.refl _
 ·exact Lib.bytesWorld_below _ _ _
theorem atoi_bad {l : List UInt8} (hl : l.length ≤ 1048576) (h : ∀ v, Lib.atoiAll l ≠ .ok v) (w : World) (hm : Xm w) : Calls Tryz.prog 137 #[.string (Bs l)] w fun e w' =>
  ∃ (v : Int) (N : Nat), e = .returned (.tuple #[.int .i64 v, .iface 231 (.pointer (some ⟨N, 0, none⟩))]) ∧ Ex w w' := by
 rcases hc : Lib.atoiAll l with v | _ | _
 · exact absurd hc (h v)
 ·
  obtain ⟨t, p, hp⟩ := hm.syn
  refine (Tryz.strconv_Atoi_syntax (Bs l) (by rw [Zd]; omega) hc _ w hp (.inr ⟨t, p, rfl⟩)).mono ?_
  rintro e w' ⟨N, rfl, -, -, hb⟩
  exact ⟨0, N, rfl, hb⟩
 ·
  obtain ⟨t, p, hp⟩ := hm.rng
  refine (Tryz.strconv_Atoi_range (Bs l) (by rw [Zd]; omega) hc _ w hp (.inr ⟨t, p, rfl⟩)).mono ?_
  rintro e w' ⟨N, rfl, -, -, hb⟩
  exact ⟨_, N, rfl, hb⟩
theorem numOf_bad {l : List UInt8} (h : ∀ v, Lib.atoiAll l ≠ .ok v) : Zh l = none := by
 cases hn : Zh l with
 | none => rfl
 | some n => exact absurd (Wp hn).1 (h n)
def NumG (w : World) (l : List UInt8) : Ending → World → Prop := fun e w' => ∃ (n : Int) (ok : Bool), e = .returned (.tuple #[.int .i64 n, .bool ok]) ∧ Ex w w' ∧ Zh l = if ok then some n else none
theorem Sz (l : List UInt8) (hl : l.length ≤ 1048576) (w : World) (hm : Xm w) : Calls Tryz.prog 128 #[.string (Bs l)] w (NumG w l) := by
 by_cases h : ∃ v, Lib.atoiAll l = .ok v
 ·obtain ⟨v, h⟩ := h
  have hb := Lib.atoiAll_bounds h
  have ka := fun w => atoi_fit hl h w
  have ki := fun w ht => Sa v hb.1 hb.2 w ht
  have hT := Oi hm.tab
  by_cases he : Lib.itoa v = l
  ·have hn : Zh l = some v := by rw [Oy h, if_pos he]
   rw [he] at ki
   generalize Bs l = S at ka ki ⊢
   have KA := Oi ka
   have KI := Oi ki
   have HN := Oi hn
   clear ka ki hn he h hb hm
   go_enter Tryz.func128, Tryz.ntmps128
   go_wp2_with fail
   refine (KA.out _).mono ?_
   rintro e w1 ⟨rfl, hx⟩
   go_wp2_with fail
   refine (KI.out _ (hT.out.ex hx)).mono ?_
   rintro e w2 ⟨rfl, hx2⟩
   go_wp2
   refine Od (v := .tuple #[.int .i64 v, .bool true]) ?_ rfl ⟨v, true, rfl, hx.trans hx2, HN.out⟩
   simp [results, Tryz.results128, go_sem]
  ·have hn : Zh l = none := by rw [Oy h, if_neg he]
   have hne : ¬ Bs (Lib.itoa v) = Bs l := Bs_ne he
   have hne2 := Vf hne
   generalize Bs l = S at ka hne2 ⊢
   generalize Bs (Lib.itoa v) = T at ki hne2
   have KA := Oi ka
   have KI := Oi ki
   have HN := Oi hn
   clear ka ki hn he h hb hm hne
   go_enter Tryz.func128, Tryz.ntmps128
   go_wp2_with fail
   refine (KA.out _).mono ?_
   rintro e w1 ⟨rfl, hx⟩
   go_wp2_with fail
   refine (KI.out _ (hT.out.ex hx)).mono ?_
   rintro e w2 ⟨rfl, hx2⟩
   go_wp2
   refine Od (v := .tuple #[.int .i64 v, .bool false]) ?_ rfl ⟨v, false, rfl, hx.trans hx2, HN.out⟩
   simp [results, Tryz.results128, go_sem]
 ·have h2 : ∀ v, Lib.atoiAll l ≠ .ok v := fun v e => h ⟨v, e⟩
  have ka := fun w hm => atoi_bad hl h2 w hm
  have hn := numOf_bad h2
  generalize Bs l = S at ka ⊢
  have KA := Oi ka
  have HN := Oi hn
  have HM := Oi hm
  clear ka hn h h2 hm
  go_enter Tryz.func128, Tryz.ntmps128
  go_wp2_with fail
  refine (KA.out _ HM.out).mono ?_
  rintro e w1 ⟨v, N, rfl, hx⟩
  go_wp2
  refine Od (v := .tuple #[.int .i64 v, .bool false]) ?_ rfl ⟨v, false, rfl, hx, HN.out⟩
  simp [results, Tryz.results128, go_sem]
def NumS (w : World) (l : List UInt8) : Ending → World → Prop := fun e w' => ∃ (n : Int) (ok : Bool), e = .returned (.tuple #[.int .i64 n, .bool ok]) ∧ Ex w w' ∧ if ok then Zh l = some n else ∀ m, Zh l = some m → 4 < l.length
theorem strip_take {l : List UInt8} {k : Nat} (hk : k < l.length) (h : k = 0 → l[k] ≠ 45) : Up (l.take (k + 1)) = Up (l.take k) ++ [l[k]] := by
 rw [Yk hk]
 refine strip_snoc fun he => h ?_
 rcases Nat.eq_zero_or_pos k with h0 | h0
 ·exact h0
 ·have := congrArg List.length he
  rw [List.length_take, List.length_nil] at this
  omega
def Ou (l : List UInt8) (k : Nat) (n : Nat) (s : Int) : Prop := n = (Up (l.take k)).foldl nfold 0 ∧ n < 10 ^ k ∧ s = (if 0 < k then sg l else 1) ∧ ∀ j (hj : j < l.length), j < k → numB j l[j] = true
theorem numI_zero (l : List UInt8) : Ou l 0 0 1 := ⟨by simp [Up], by decide, by simp, fun j _ h => by omega⟩
theorem numI_minus {l : List UInt8} (hk : 0 < l.length) (h : l[0] = 45) {n : Nat} {s : Int} (hi : Ou l 0 n s) : Ou l 1 n (-1) := by
 obtain ⟨h1, h2, h3, h4⟩ := hi
 cases l with
 | nil => simp at hk
 | cons c t =>
  have hc : c = 45 := h
  subst hc
  refine ⟨by rw [h1]; simp [Up], by omega, by simp [sg], fun j hj hj1 => ?_⟩
  have : j = 0 := by omega
  subst this
  simp [numB]
theorem numI_digit {l : List UInt8} {k : Nat} (hk : k < l.length) (h1 : 48 ≤ l[k].toNat) (h2 : l[k].toNat ≤ 57) {n : Nat} {s : Int} (hi : Ou l k n s) : Ou l (k + 1) (10 * n + (l[k].toNat - 48)) s := by
 obtain ⟨e1, e2, e3, e4⟩ := hi
 have hne : l[k] ≠ 45 := fun e => by rw [e] at h1; exact absurd h1 (by decide)
 refine ⟨?_, ?_, ?_, fun j hj hj1 => ?_⟩
 ·rw [strip_take hk fun _ => hne, List.foldl_append, ← e1]
  rfl
 ·rw [Nat.pow_succ]
  omega
 ·rw [e3, if_pos (by omega : 0 < k + 1)]
  rcases Nat.eq_zero_or_pos k with h0 | h0
  ·subst h0
   rw [if_neg (by omega)]
   unfold sg
   cases l with
   | nil => simp at hk
   | cons c t =>
    have : c ≠ 45 := hne
    simp [this]
  ·rw [if_pos h0]
 ·by_cases hjk : j = k
  ·subst hjk
   simp [numB, Uz, h1, h2]
  ·exact e4 j hj (by omega)
theorem numI_bad {l : List UInt8} {k : Nat} (hk : k < l.length) (h : numB k l[k] = false) : ∀ m, Zh l = some m → 4 < l.length := by
 intro m hm
 have e := (Wp hm).2
 have hs : l = l.take k ++ l[k] :: l.drop (k + 1) := by
  conv => lhs; rw [← List.take_append_drop k l, List.drop_eq_getElem_cons hk]
 rw [Ox (e.trans hs) (by rw [List.length_take]; omega)] at h
 cases h
theorem numI_end {l : List UInt8} {n : Nat} {s : Int} (hp : 0 < l.length) (hi : Ou l l.length n s) : ∀ m, Zh l = some m → m = s * n := by
 intro m hm
 obtain ⟨e1, -, e3, -⟩ := hi
 rw [List.take_length] at e1
 rw [if_pos hp] at e3
 have := strip_itoa (n := m)
 rw [(Wp hm).2, ← e1, ← e3] at this
 exact this.symm
theorem Vu (l : List UInt8) (hl : l.length ≤ 1048576) (w : World) : Calls Tryz.prog 129 #[.string (Bs l)] w (NumS w l) := by
 obtain ⟨S, HS⟩ : ∃ S, Hid (S = Bs l) := ⟨_, Oi rfl⟩
 rw [← HS.out]
 have hsz : S.size = l.length := by rw [HS.out]; rfl
 have ki := fun w => Xg (S.size : Int) 1 4 w
 by_cases hr : 1 ≤ l.length ∧ l.length ≤ 4
 ·have e : Yo (S.size : Int) 1 4 = true := by rw [hsz]; simp [Yo]; omega
  rw [e] at ki
  have KI := Oi ki
  have HZ := Oi hsz
  clear ki e hsz
  go_enter Tryz.func129, Tryz.ntmps129
  go_wp2_with (go_at_call 102; (with_reducible refine (KI.out _).mono ?_); rintro e wn ⟨rfl, rfl⟩)
  go_loopw [6, 4, 5] (fun i n s wr => ∃ (k m : Nat) (sn : Int), i = .int .i64 k ∧ n = .int .i64 m ∧ s = .int .i64 sn ∧ k ≤ l.length ∧ Hid (Ou l k m sn) ∧ Hid (Ex wn wr)) (fun i _ _ _ => 6 - (intOf i).toNat)
  case atStart => exact ⟨0, 0, 1, rfl, rfl, rfl, by omega, Oi (numI_zero l), Oi (Ex.refl _)⟩
  case round =>
   obtain ⟨k, m, sn, rfl, rfl, rfl, hk, HI, HE⟩ := hrel
   by_cases hlt : k < l.length
   ·obtain ⟨hs, hc⟩ := Th HS.out hlt
    have hkI : (k : Int) < (S.size : Int) := by rw [HZ.out]; omega
    have hm : m < 10 ^ 4 := Nat.lt_of_lt_of_le HI.out.2.1 (Nat.pow_le_pow_right (by omega) (by omega))
    have hm2 : m < 10000 := hm
    clear hm
    have hw5 : IntKind.i64.wrap ((k : Int) + 1) = (k : Int) + 1 := Oc _ (by omega)
    have HND : Hid (48 ≤ l[k].toNat → l[k].toNat ≤ 57 → Ou l (k + 1) (10 * m + (l[k].toNat - 48)) sn) := Oi fun a b => numI_digit hlt a b HI.out
    have HBD0 := Oi (numI_bad hlt)
    by_cases hk0 : k = 0
    ·subst hk0
     have HNM : Hid (l[0] = 45 → Ou l 1 m (-1)) := Oi fun h => numI_minus hlt h HI.out
     generalize l[0] = c at hc HND HBD0 HNM
     by_cases h45 : c = 45
     ·have b0 : (c.toNat : Int) = 45 := by rw [h45]; rfl
      have HN := Oi (HNM.out h45)
      clear HNM HND HBD0 h45
      go_wp2
      go_roundw
      case rel => exact ⟨1, m, -1, by go_num, rfl, rfl, by omega, HN, HE⟩
      case measure => simp [intOf]
     ·have b0 : ¬ (c.toNat : Int) = 45 := fun e => h45 (UInt8.toNat_inj.1 (by show c.toNat = 45; omega))
      have b0b : ((c.toNat : Int) == 45) = false := by simpa using b0
      have HBD : Hid (Uz c = false → ∀ m, Zh l = some m → 4 < l.length) := Oi fun h => HBD0.out (by simp [numB, h, h45])
      clear HNM HBD0 h45
      by_cases hd : 48 ≤ c.toNat ∧ c.toNat ≤ 57
      ·have HN : Hid (Ou l (0 + 1) (10 * m + (c.toNat - 48)) sn) := Oi (HND.out hd.1 hd.2)
       have b1 : (48 : Int) ≤ (c.toNat : Int) := by omega
       have b2 : (c.toNat : Int) ≤ 57 := by omega
       have w1 : IntKind.i64.wrap (10 * (m : Int)) = 10 * (m : Int) := Oc _ (by omega)
       have w2 : IntKind.u8.wrap ((c.toNat : Int) - 48) = (c.toNat : Int) - 48 := by
        show ((c.toNat : Int) - 48) % 256 = _
        omega
       have w3 : IntKind.i64.wrap ((c.toNat : Int) - 48) = (c.toNat : Int) - 48 := Oc _ (by omega)
       have w4 : IntKind.i64.wrap (10 * (m : Int) + ((c.toNat : Int) - 48)) = 10 * (m : Int) + ((c.toNat : Int) - 48) := Oc _ (by omega)
       clear HND
       go_wp2
       go_roundw
       case rel => exact ⟨0 + 1, 10 * m + (c.toNat - 48), sn, by go_num, by go_num, rfl, by omega, HN, HE⟩
       case measure => simp [intOf] <;> omega
      ·have HB : Hid (∀ m, Zh l = some m → 4 < l.length) := Oi (HBD.out (by simp only [Uz, decide_eq_false_iff_not]; exact hd))
       by_cases hd1 : 48 ≤ c.toNat
       ·have b1 : (48 : Int) ≤ (c.toNat : Int) := by omega
        have b2 : ¬ (c.toNat : Int) ≤ 57 := by omega
        clear hd hd1 HND HBD
        go_wp2
        refine Od (v := .tuple #[.int .i64 0, .bool false]) ?_ rfl ⟨0, false, rfl, HE.out, HB.out⟩
        simp [results, Tryz.results129, go_sem]
       ·have b1 : ¬ (48 : Int) ≤ (c.toNat : Int) := by omega
        clear hd hd1 HND HBD
        go_wp2
        refine Od (v := .tuple #[.int .i64 0, .bool false]) ?_ rfl ⟨0, false, rfl, HE.out, HB.out⟩
        simp [results, Tryz.results129, go_sem]
    ·have hk0b : ((k : Int) == 0) = false := by simp; omega
     have HBD1 : Hid (Uz l[k] = false → ∀ m, Zh l = some m → 4 < l.length) := Oi fun h => HBD0.out (by simp [numB, h, hk0])
     clear HBD0
     rename Hid (Uz l[k] = false → ∀ m, Zh l = some m → 4 < l.length) => HBD
     generalize l[k] = c at hc HND HBD
     by_cases hd : 48 ≤ c.toNat ∧ c.toNat ≤ 57
     ·have HN : Hid (Ou l (k + 1) (10 * m + (c.toNat - 48)) sn) := Oi (HND.out hd.1 hd.2)
      have b1 : (48 : Int) ≤ (c.toNat : Int) := by omega
      have b2 : (c.toNat : Int) ≤ 57 := by omega
      have w1 : IntKind.i64.wrap (10 * (m : Int)) = 10 * (m : Int) := Oc _ (by omega)
      have w2 : IntKind.u8.wrap ((c.toNat : Int) - 48) = (c.toNat : Int) - 48 := by
       show ((c.toNat : Int) - 48) % 256 = _
       omega
      have w3 : IntKind.i64.wrap ((c.toNat : Int) - 48) = (c.toNat : Int) - 48 := Oc _ (by omega)
      have w4 : IntKind.i64.wrap (10 * (m : Int) + ((c.toNat : Int) - 48)) = 10 * (m : Int) + ((c.toNat : Int) - 48) := Oc _ (by omega)
      clear HND
      go_wp2
      go_roundw
      case rel => exact ⟨k + 1, 10 * m + (c.toNat - 48), sn, by go_num, by go_num, rfl, by omega, HN, HE⟩
      case measure => simp [intOf] <;> omega
     ·have HB : Hid (∀ m, Zh l = some m → 4 < l.length) := Oi (HBD.out (by simp only [Uz, decide_eq_false_iff_not]; exact hd))
      by_cases hd1 : 48 ≤ c.toNat
      ·have b1 : (48 : Int) ≤ (c.toNat : Int) := by omega
       have b2 : ¬ (c.toNat : Int) ≤ 57 := by omega
       clear hd hd1 HND HBD
       go_wp2
       refine Od (v := .tuple #[.int .i64 0, .bool false]) ?_ rfl ⟨0, false, rfl, HE.out, HB.out⟩
       simp [results, Tryz.results129, go_sem]
      ·have b1 : ¬ (48 : Int) ≤ (c.toNat : Int) := by omega
       clear hd hd1 HND HBD
       go_wp2
       refine Od (v := .tuple #[.int .i64 0, .bool false]) ?_ rfl ⟨0, false, rfl, HE.out, HB.out⟩
       simp [results, Tryz.results129, go_sem]
   ·obtain rfl : k = l.length := by omega
    have hkI : ¬ (l.length : Int) < (S.size : Int) := by rw [HZ.out]; omega
    have hm : m < 10 ^ 4 := Nat.lt_of_lt_of_le HI.out.2.1 (Nat.pow_le_pow_right (by omega) hr.2)
    have hsn : sn = 1 ∨ sn = -1 := by
     rw [HI.out.2.2.1]
     unfold sg
     split
     ·split
      ·exact .inr rfl
      ·exact .inl rfl
     ·exact .inl rfl
    have hb : -10000 ≤ sn * (m : Int) ∧ sn * (m : Int) ≤ 10000 := by rcases hsn with rfl | rfl <;> omega
    have HE2 := Oi (numI_end (by omega) HI.out)
    clear HI hsn hm
    have hwn : IntKind.i64.wrap (sn * (m : Int)) = sn * (m : Int) := Oc _ (by omega)
    obtain ⟨n, hn⟩ : ∃ n, sn * (m : Int) = n := ⟨_, rfl⟩
    rw [hn] at hb HE2
    conv at hwn => rhs; rw [hn]
    clear hn
    have kd := fun w => Wm n (by omega) (by omega) w
    by_cases he : Lib.itoa n = l
    ·have HN : Hid (Zh l = some n) := Oi (by rw [← he]; exact numOf_itoa (by omega) (by omega))
     rw [he, ← HS.out] at kd
     have KD := Oi kd
     clear kd he hb HE2
     go_wp2_with fail
     refine (KD.out _).mono ?_
     rintro e w2 ⟨rfl, hx⟩
     go_wp2
     refine Od (v := .tuple #[.int .i64 n, .bool true]) ?_ rfl ⟨n, true, rfl, HE.out.trans hx, HN.out⟩
     simp [results, Tryz.results129, go_sem]
    ·have HN : Hid (∀ m, Zh l = some m → 4 < l.length) := Oi fun m hm => absurd (by rw [HE2.out m hm] at hm; exact (Wp hm).2) he
     have hne2 := Vf (Bs_ne he)
     rw [← HS.out] at hne2
     generalize Bs (Lib.itoa n) = T at kd hne2
     have KD := Oi kd
     clear kd he hb HE2
     go_wp2_with fail
     refine (KD.out _).mono ?_
     rintro e w2 ⟨rfl, hx⟩
     go_wp2
     refine Od (v := .tuple #[.int .i64 n, .bool false]) ?_ rfl ⟨n, false, rfl, HE.out.trans hx, HN.out⟩
     simp [results, Tryz.results129, go_sem]
 ·have e : Yo (S.size : Int) 1 4 = false := by
   rw [hsz]
   simp only [Yo, Bool.and_eq_false_iff, decide_eq_false_iff_not]
   omega
  rw [e] at ki
  have KI := Oi ki
  have HN : Hid (∀ m, Zh l = some m → 4 < l.length) := Oi fun m hm => by
   have h1 := itoa_pos m
   rw [(Wp hm).2] at h1
   omega
  clear ki e hsz hr
  go_enter Tryz.func129, Tryz.ntmps129
  go_wp2_with (go_at_call 102; (with_reducible refine (KI.out _).mono ?_); rintro e wn ⟨rfl, rfl⟩)
  refine Od (v := .tuple #[.int .i64 0, .bool false]) ?_ rfl ⟨0, false, rfl, Ex.refl _, HN.out⟩
  simp [results, Tryz.results129, go_sem]
end
section
open Go.RowKit

attribute [local go_sem] Zq Zp
theorem Zw.tail {W w : World} {x : Nat × TypeId × Array Value} {L : List (Nat × TypeId × Array Value)} (h : Zw W w (x :: L)) : Zw W w L := ⟨h.ex, h.boxes.2⟩
section
variable {W w : World} {ga pb rb : Nat} {ti T : TypeId} {ca : Array Value} {b : Bool} {x y z o1 o2 o3 : Value}
theorem Zw.ret3 (hg : ga ≠ W.heap.size) (hp : pb ≠ W.heap.size) (h : Zw W w [(ga, ti, ca), (pb, T, #[x, y, z]), (W.heap.size, T, if b then #[x, y, z] else #[o1, o2, o3])]) :
  Zw W (((w.setCell ⟨W.heap.size, 0, none⟩ x).setCell ⟨W.heap.size, 1, none⟩ y).setCell ⟨W.heap.size, 2, none⟩ z) [(ga, ti, ca), (pb, T, #[x, y, z]), (W.heap.size, T, if (b || true) then #[x, y, z] else #[o1, o2, o3])] := by
 obtain ⟨he, b1, b2, b3, -⟩ := h
 refine ⟨((he.setCell (p := ⟨W.heap.size, 0, none⟩) (Nat.le_refl _) x).setCell (p := ⟨W.heap.size, 1, none⟩) (Nat.le_refl _) y).setCell (p := ⟨W.heap.size, 2, none⟩) (Nat.le_refl _) z, ((b1.far (p := ⟨W.heap.size, 0, none⟩) hg x).far (p := ⟨W.heap.size, 1, none⟩) hg y).far (p := ⟨W.heap.size, 2, none⟩) hg z, ((b2.far (p := ⟨W.heap.size, 0, none⟩) hp x).far (p := ⟨W.heap.size, 1, none⟩) hp y).far (p := ⟨W.heap.size, 2, none⟩) hp z, ?_, trivial⟩
 have h3 := ((b3.set_ 0 x).set_ 1 y).set_ 2 z
 cases b <;> simpa using h3
theorem Zw.ret2 (hg : ga ≠ W.heap.size) (hp : pb ≠ W.heap.size) (h : Zw W w [(ga, ti, ca), (pb, T, #[x, y]), (W.heap.size, T, if b then #[x, y] else #[o1, o2])]) :
  Zw W ((w.setCell ⟨W.heap.size, 0, none⟩ x).setCell ⟨W.heap.size, 1, none⟩ y) [(ga, ti, ca), (pb, T, #[x, y]), (W.heap.size, T, if (b || true) then #[x, y] else #[o1, o2])] := by
 obtain ⟨he, b1, b2, b3, -⟩ := h
 refine ⟨(he.setCell (p := ⟨W.heap.size, 0, none⟩) (Nat.le_refl _) x).setCell (p := ⟨W.heap.size, 1, none⟩) (Nat.le_refl _) y, (b1.far (p := ⟨W.heap.size, 0, none⟩) hg x).far (p := ⟨W.heap.size, 1, none⟩) hg y, (b2.far (p := ⟨W.heap.size, 0, none⟩) hp x).far (p := ⟨W.heap.size, 1, none⟩) hp y, ?_, trivial⟩
 have h3 := (b3.set_ 0 x).set_ 1 y
 cases b <;> simpa using h3
theorem Zw.ret2n (hp : pb ≠ W.heap.size) (h : Zw W w [(pb, T, #[x, y]), (W.heap.size, T, if b then #[x, y] else #[o1, o2])]) :
  Zw W ((w.setCell ⟨W.heap.size, 0, none⟩ x).setCell ⟨W.heap.size, 1, none⟩ y) [(pb, T, #[x, y]), (W.heap.size, T, if (b || true) then #[x, y] else #[o1, o2])] := by
 obtain ⟨he, b2, b3, -⟩ := h
 refine ⟨(he.setCell (p := ⟨W.heap.size, 0, none⟩) (Nat.le_refl _) x).setCell (p := ⟨W.heap.size, 1, none⟩) (Nat.le_refl _) y, (b2.far (p := ⟨W.heap.size, 0, none⟩) hp x).far (p := ⟨W.heap.size, 1, none⟩) hp y, ?_, trivial⟩
 have h3 := (b3.set_ 0 x).set_ 1 y
 cases b <;> simpa using h3
end
theorem dirv_any (p q : Int) : ∃ (c1 c2 c3 e1 e2 e3 : Int) (tl : Bool), Wn p q = .tuple #[.agg #[.int .i64 c1, .int .i64 c2, .int .i64 c3], .agg #[.int .i64 e1, .int .i64 e2, .int .i64 e3], .bool tl] := by
 unfold Wn
 split
 ·exact ⟨_, _, _, _, _, _, _, rfl⟩
 ·exact ⟨_, _, _, _, _, _, _, rfl⟩
theorem Sw {k c : UInt8} (h : k ≠ c) : ((k.toNat : Int) == (c.toNat : Int)) = false := by
 rw [beq_eq_false_iff_ne]
 exact fun e => h (UInt8.toNat_inj.1 (by omega))
theorem list2 {α : Type} {l : List α} (h : l.length = 2) : ∃ a b, l = [a, b] := by
 match l, h with
 | [a, b], _ => exact ⟨a, b, rfl⟩
theorem list3 {α : Type} {l : List α} (h : l.length = 3) : ∃ a b c, l = [a, b, c] := by
 match l, h with
 | [a, b, c], _ => exact ⟨a, b, c, rfl⟩
theorem Uw (k : UInt8) (t : List UInt8) : (Bs (k :: t)).extract 1 (Bs (k :: t)).size = Bs t := by rw [Uc]; rfl
theorem Uv (t : List UInt8) : (cds t).length ≤ t.length + 1 := by
 rw [← cds_tot t]
 unfold tot
 generalize cds t = ws
 induction ws with
 | nil => simp
 | cons x ws ih => simp only [List.map_cons, List.sum_cons, List.length_cons]; omega
end
section
open Go.RowKit

attribute [local go_sem] Zq Zp
theorem Su (c : UInt8) (hc : c = 114 ∨ c = 102) (k : UInt8) (t : List UInt8) (hk114 : k = c) (hl : (k :: t).length ≤ 1048576) (w : World) (hm : Xm w) : Calls Tryz.prog 69 #[.string (Bs (k :: t))] w (Ra w (k :: t)) := by
 obtain ⟨C, hC⟩ : ∃ C : Int, Hid (C = ((c.toNat : Nat) : Int)) := ⟨_, Oi rfl⟩
 have q119 : (C == 119) = false := by rw [hC.out]; rcases hc with rfl | rfl <;> rfl
 have q97 : (C == 97) = false := by rw [hC.out]; rcases hc with rfl | rfl <;> rfl
 have q100 : (C == 100) = false := by rw [hC.out]; rcases hc with rfl | rfl <;> rfl
 rcases hc with rfl | rfl
 all_goals
  have q1 := congrArg (fun x : Int => x == 114) hC.out
  have q2 := congrArg (fun x : Int => x == 102) hC.out
  simp only [show (((114 : UInt8).toNat : Nat) : Int) = 114 from rfl, show (((102 : UInt8).toNat : Nat) : Int) = 102 from rfl, Int.reduceBEq] at q1 q2
  have HK114 := Oi hk114
  clear hk114
  have hlt : t.length ≤ 1048576 := by simp at hl; omega
  have hx1 := Uw k t
  obtain ⟨S, HS⟩ : ∃ S, Hid (S = Bs (k :: t)) := ⟨_, Oi rfl⟩
  have hsz : S.size = t.length + 1 := by rw [HS.out]; rfl
  obtain ⟨hs0, hk0⟩ : ∃ hs : 0 < S.size, S[0]'hs = k := by
   obtain ⟨h1, h2⟩ := Th HS.out (i := 0) (by simp)
   exact ⟨h1, h2⟩
  rw [← HS.out] at hx1 ⊢
  have hne : ¬ S = (⟨#[]⟩ : ByteArray) := fun e => by rw [e] at hs0; exact absurd hs0 (by decide)
  have hne2 : S.toList.isEmpty = false := by simpa using Vf hne
  clear hne
  have ks := fun w hm => Pu t hlt w hm
  have HW : Hid (∀ x ∈ cds t, x.length ≤ 1048576) := Oi fun x hx => by
   have h1 := Wy t x hx
   omega
  have HCL : Hid ((cds t).length ≤ 1048576) := Oi (by have h1 := Uv t; simp only [List.length_cons] at hl; omega)
  generalize hT : Bs t = T at hx1 ks
  have HM := Oi hm
  have KS := Oi ks
  have HX1 := Oi hx1
  clear hm ks hT
  have hS := Zw.refl w
  have hC := True.intro
  go_enter Tryz.func69, Tryz.ntmps69
  go_upto_region 5 with fail
  have bR := (Box.new w #[.int .u8 0, .slice none 0 0, .string ⟨#[]⟩] 85).alloc (.cells #[.int .u8 (k.toNat : Int), .slice none 0 0, .string S] 85)
  have bP := Box.new (w.alloc (.cells #[.int .u8 0, .slice none 0 0, .string ⟨#[]⟩] 85)) #[.int .u8 (k.toNat : Int), .slice none 0 0, .string S] 85
  rw [Oh] at bP
  have hE1 : Ex w ((w.alloc (.cells #[.int .u8 0, .slice none 0 0, .string ⟨#[]⟩] 85)).alloc (.cells #[.int .u8 (k.toNat : Int), .slice none 0 0, .string S] 85)) := ((Ex.refl w).alloc _).alloc _
  have hz1 : ((w.alloc (.cells #[.int .u8 0, .slice none 0 0, .string ⟨#[]⟩] 85)).alloc (.cells #[.int .u8 (k.toNat : Int), .slice none 0 0, .string S] 85)).heap.size = w.heap.size + 2 := by simp only [Oh]
  generalize (w.alloc (.cells #[.int .u8 0, .slice none 0 0, .string ⟨#[]⟩] 85)).alloc (.cells #[.int .u8 (k.toNat : Int), .slice none 0 0, .string S] 85) = W1 at *
  clear hC hS hk0
  have hs1 : (1 : Int) ≤ (S.size : Int) := by omega
  clear hsz hl hlt
  go_wp2_with fail
  refine (KS.out _ (HM.out.ex hE1)).mono ?_
  rintro e W2 ⟨g, gc, cur, rfl, hg, bG, HG, hx⟩
  replace bR := bR.ex hx
  replace bP := bP.ex hx
  have hE2 := hE1.trans hx
  have hz2 := hx.size
  clear hx hE1 KS
  go_wp2_with fail
  have hO0 : Xn W2 (w.heap.size + 2) none 0 [] := ⟨by simp, .inl ⟨rfl, rfl⟩⟩
  go_loopw [25, 6, 7, 8] (fun i f n o wr => ∃ (j : Nat) (A : Option Addr) (cap : Nat) (ns : List Int), i = .int .i64 j ∧ j ≤ (cds t).length ∧ Hid (Yu Zh ((cds t).take j) = some ns) ∧ Box wr (w.heap.size + 1) 85 #[.int .u8 (k.toNat : Int), .slice A ns.length cap, .string S] ∧
    Box wr w.heap.size 85 #[.int .u8 0, .slice none 0 0, .string ⟨#[]⟩] ∧ Box wr g 9 cur ∧ Hid (Xn wr (w.heap.size + 2) A cap ns) ∧ Hid (Ex w wr)) (fun i _ _ _ _ => (cds t).length + 1 - (intOf i).toNat)
  case atStart => exact ⟨0, none, 0, [], rfl, by omega, Oi rfl, bP, bR, bG, Oi hO0, Oi hE2⟩
  case round =>
   clear bP bR bG hO0 hE2 hz2
   obtain ⟨j, A, cap, ns, rfl, hj, HN, bP, bR, bG, HO, HE⟩ := hrel
   have hnl : ns.length ≤ 1048576 := by
    have h1 := Xz HN.out
    have h2 := List.length_take_le j (cds t)
    have h3 := HCL.out
    omega
   by_cases hlt : j < (cds t).length
   ·have hcell := HG.out j hlt
    have hmem : (cds t)[j] ∈ cds t := List.getElem_mem hlt
    have hxl := HW.out _ hmem
    have HMs : Hid (Yu Zh ((cds t).take (j + 1)) = Yu Zh ((cds t).take j ++ [(cds t)[j]])) := Oi (by rw [Yk hlt])
    generalize (cds t)[j] = x at *
    have kp := fun w hm => Sz x hxl w hm
    have hlI : (j : Int) < ((cds t).length : Int) := by omega
    have hw5 : IntKind.i64.wrap ((j : Int) + 1) = (j : Int) + 1 := Oc _ (by have := HCL.out; omega)
    obtain ⟨X, HX⟩ : ∃ X, Hid (X = Bs x) := ⟨_, Oi rfl⟩
    rw [← HX.out] at hcell kp
    have KP := Oi kp
    have HMem := Oi hmem
    have cG := bG.cell
    have zG := bG.lt
    clear kp hmem hxl
    go_wp2_with fail
    refine (KP.out _ (HM.out.ex HE.out)).mono ?_
    rintro e w2 ⟨n, ok, rfl, hx, hn⟩
    have HNn := Oi hn
    replace bP := bP.ex hx
    replace bR := bR.ex hx
    replace bG := bG.ex hx
    have HE2 := Oi (HE.out.trans hx)
    have HO2 := Oi (HO.out.ex hx)
    clear hx hn cG zG KP hcell
    have cP := bP.cell
    have fP := bP.frozen
    have zP := bP.lt
    have cR := bR.cell
    have fR := bR.frozen
    have zR := bR.lt
    rcases ok with _ | _
    ·have HNo : Hid (Zo (k :: t) = none) := Oi (Wg (Vl HNn.out HMem.out))
     go_wp2
     refine Od ?_ rfl (.inr ⟨k.toNat, A, ns.length, cap, S, HNo.out, rfl, ?_⟩)
     ·simp [results, Tryz.results69, go_sem, cP, cR]
     ·have hE := HE2.out
      repeat' (with_reducible first | exact hE | refine Ex.setCell ?_ (by simp <;> omega) _)
    ·have hs2 := HE2.out.size
     go_wp2_with (at_builtin; refine Xs rfl _ _ w2 rfl (w.heap.size + 2) A cap ns n rfl HO2.out rfl hnl (by omega) ?_)
     intro A' cap' w' hown' hk'
     have HE3 := Oi (hk'.ex w HE2.out (by omega))
     replace bP := hk'.box _ _ _ bP (by decide)
     replace bR := hk'.box _ _ _ bR (by decide)
     replace bG := hk'.box _ _ _ bG (by decide)
     have HO3 := Oi hown'
     have cP := bP.cell
     have fP := bP.frozen
     have zP := bP.lt
     clear hown' hk' HO2 HE2 cR fR zR
     have HN3 : Hid (Yu Zh ((cds t).take (j + 1)) = some (ns ++ [n])) := Oi (by rw [HMs.out]; exact Xu HNn.out HN.out)
     clear HNn HMs
     go_wp2
     have bP3 : Box (w'.setCell ⟨w.heap.size + 1, 1, none⟩ (.slice A' (ns.length + 1) cap')) (w.heap.size + 1) 85 #[.int .u8 (k.toNat : Int), .slice A' (ns ++ [n]).length cap', .string S] := by
      have h := bP.set_ 1 (.slice A' (ns.length + 1) cap')
      simpa using h
     have bR3 := bR.far (p := ⟨w.heap.size + 1, 1, none⟩) (by simp) (.slice A' (ns.length + 1) cap')
     have bG3 := bG.far (p := ⟨w.heap.size + 1, 1, none⟩) (by simp; omega) (.slice A' (ns.length + 1) cap')
     have HO4 := Oi (HO3.out.setBelow (p := ⟨w.heap.size + 1, 1, none⟩) (by simp) (.slice A' (ns.length + 1) cap'))
     have HE4 := Oi (HE3.out.setCell (p := ⟨w.heap.size + 1, 1, none⟩) (by simp) (.slice A' (ns.length + 1) cap'))
     go_roundw
     case rel => exact ⟨j + 1, A', cap', ns ++ [n], by go_num, by omega, HN3, bP3, bR3, bG3, HO4, HE4⟩
     case measure => simp [intOf] <;> omega
   ·
    have hk114 := HK114.out
    obtain rfl : j = (cds t).length := by omega
    have hlI : ¬ ((cds t).length : Int) < ((cds t).length : Int) := by omega
    have HNN : Hid (Yu Zh (cds t) = some ns) := Oi (by have := HN.out; rwa [List.take_length] at this)
    clear HN HG bG hj hnl HM HW HX1
    clear hlt
    go_upto_region 13 with fail
    clear hlI
    have ek : ((k.toNat : Nat) : Int) = C := by rw [hk114]; exact hC.out.symm
    rw [ek] at bP
    have EK := Oi ek
    clear ek
    by_cases hn : ns.length = 2
    ·obtain ⟨p, q, rfl⟩ := list2 hn
     clear hn
     obtain ⟨ga, ca, rfl, hga, bA, hca⟩ := Own.box HO.out (by simp)
     clear HO
     simp only [List.length_cons, List.length_nil, Nat.reduceAdd] at bP
     have d0 : ca[0]? = some (.int .i64 p) := (hca 0 (by simp)).trans rfl
     have d1 : ca[1]? = some (.int .i64 q) := (hca 1 (by simp)).trans rfl
     have HCA : Hid (∀ j, j < [p, q].length → ca[j]? = some (.int .i64 ([p, q].getD j 0))) := Oi fun j hj => by
      simp only [List.length_cons, List.length_nil, Nat.reduceAdd] at hj
      obtain rfl | rfl : j = 0 ∨ j = 1 := by omega
      ·exact d0
      ·exact d1
     clear hca
     have kd := fun w => Wh p q w
     rcases hd : Yi p q with _ | _
     ·simp only [Wn, hd, Bool.false_eq_true, if_false, Fr.v, Fr.none] at kd
      have HP : Hid (Zo (k :: t) = none) := Oi (by rw [Zi HNN.out, hk114]; simp [Yv, hd])
      clear HNN hd
      clear hk114
      have KD := Oi kd
      clear kd
      have hS : Zw w wr _ := Zw.put (Zw.put (⟨HE.out, trivial⟩ : Zw w wr []) bR) bP
      replace hS := Zw.put hS bA
      have hC := hS.reads
      simp only [Zz, Zy] at hC
      have hE := hS.ex
      go_upto_region 18 with fail
      clear hC hE
      have hS0 := hS
      refine Zm (St := Ex) (B := fun _ w' => InE _ _ w') 13 2 1 _ 27 (fun i => match i with | 0 => 10 | _ => 11) (fun i => match i with | 0 => 63 | _ => 64) (fun i => match i with | 0 => #[.int .i64 0, .int .i64 0, .int .i64 0] | _ => #[.int .i64 0, .int .i64 0, .int .i64 0]) (fun i => match i with | 0 => #[.int .i64 0, .int .i64 0, .int .i64 0] | _ => #[.int .i64 0, .int .i64 0, .int .i64 0]) false (by kernel_rfl) (by kernel_rfl) (InE.drew (InE.start hS0)) (by intro x y h1 h2 h3; revert h3; match x, y, h1, h2 with | 0, 0, _, _ => decide | 0, 1, _, _ => decide | 1, 0, _, _ => decide | 1, 1, _, _ => decide) (by intro x y h1 h2; match x, y, h1, h2 with | 0, 0, _, _ => decide | 0, 1, _, _ => decide | 1, 0, _, _ => decide | 1, 1, _, _ => decide) (fun _ _ h g cs _ hb => hb.ex h) (fun _ _ cs h => h.alloc _) (fun _ _ h => h.size) ?_
      iterate 8 (apply Zx; (· rfl); (· intro b wb hB Q1 hQ1; have hS := hB.sees; have hC := hS.reads; simp only [Zz, Zy] at hC; go_wp2_with fail; exact hQ1 _ (Ex.refl _) hB); (· exact ⟨_, rfl⟩))
      (apply Zx; (· rfl); (· intro b wb hB Q1 hQ1; go_wp2_with (go_at_call 95; (with_reducible refine (KD.out _).mono ?_); rintro e wn ⟨rfl, hx⟩); exact hQ1 _ hx (hB.go hx)); (· exact ⟨_, rfl⟩))
      iterate 4 (apply Zx; (· rfl); (· intro b wb hB Q1 hQ1; go_wp2_with fail; exact hQ1 _ (Ex.refl _) hB); (· exact ⟨_, rfl⟩))
      refine Zv ?_
      refine ⟨fun i hi => ?_, fun i hi => ?_, fun i hi => ?_, fun gg wz hz hbx hne => ?_⟩
      ·obtain rfl | rfl : i = 0 ∨ i = 1 := by omega
       all_goals exact ⟨_, rfl, Yt⟩
      ·obtain rfl | rfl : i = 0 ∨ i = 1 := by omega
       all_goals exact ⟨_, rfl, Zf Yn rfl (by kernel_rfl) (fun _ _ _ hg h => h.setRow hg _)⟩
      ·obtain rfl | rfl : i = 0 ∨ i = 1 := by omega
       ·exact (show (10 : Nat) < 105 by decide)
       ·exact (show (11 : Nat) < 105 by decide)
      obtain ⟨hg0, hb0⟩ := hbx 0 (by omega)
      obtain ⟨hg1, hb1⟩ := hbx 1 (by omega)
      replace hS := InE.join hS0 hz
      replace hS := Zw.put hS hb0
      replace hS := Zw.put hS hb1
      simp only [frN, Act.put, Og, Of, Oe, Nat.reduceAdd, List.drop_succ_cons, List.drop_zero]
      generalize gg 0 = g0 at *
      generalize gg 1 = g1 at *
      clear hbx hz hS0 hne
      replace hS := hS.tail.tail
      clear hb0 hb1 hg0 hg1
      have hC := hS.reads
      simp only [Zz, Zy] at hC
      have hE := hS.ex
      have hbA := hS.boxes.1
      have hl1 := hS.boxes.2.1.lt
      go_wp2_with fail
      refine Od ?_ rfl (.inr ⟨(k.toNat : Int), (some ⟨ga, 0, none⟩), 2, cap, S, HP.out, rfl, ?_⟩)
      ·simp [results, Tryz.results69, go_sem, hC, EK.out]
      ·repeat' (with_reducible first | exact hE | refine Ex.setCell ?_ (by simp <;> omega) _)
     ·simp only [Wn, hd, if_true, Fr.v] at kd
      generalize Xl p q = c at kd
      generalize Xk p q = e at kd
      obtain ⟨c1, c2, c3⟩ := c
      obtain ⟨e1, e2, e3⟩ := e
      simp only at kd
      have HP : Hid (Zo (k :: t) = some (k, [p, q])) := Oi (by rw [Zi HNN.out, hk114]; simp [Yv, hd])
      clear HNN hd
      clear hk114
      have KD := Oi kd
      clear kd
      have hS : Zw w wr _ := Zw.put (Zw.put (⟨HE.out, trivial⟩ : Zw w wr []) bR) bP
      replace hS := Zw.put hS bA
      have hC := hS.reads
      simp only [Zz, Zy] at hC
      have hE := hS.ex
      go_upto_region 18 with fail
      clear hC hE
      have hS0 := hS
      refine Zm (St := Ex) (B := fun _ w' => InE _ _ w') 13 2 1 _ 27 (fun i => match i with | 0 => 10 | _ => 11) (fun i => match i with | 0 => 63 | _ => 64) (fun i => match i with | 0 => #[.int .i64 0, .int .i64 0, .int .i64 0] | _ => #[.int .i64 0, .int .i64 0, .int .i64 0]) (fun i => match i with | 0 => #[.int .i64 c1, .int .i64 c2, .int .i64 c3] | _ => #[.int .i64 e1, .int .i64 e2, .int .i64 e3]) false (by kernel_rfl) (by kernel_rfl) (InE.drew (InE.start hS0)) (by intro x y h1 h2 h3; revert h3; match x, y, h1, h2 with | 0, 0, _, _ => decide | 0, 1, _, _ => decide | 1, 0, _, _ => decide | 1, 1, _, _ => decide) (by intro x y h1 h2; match x, y, h1, h2 with | 0, 0, _, _ => decide | 0, 1, _, _ => decide | 1, 0, _, _ => decide | 1, 1, _, _ => decide) (fun _ _ h g cs _ hb => hb.ex h) (fun _ _ cs h => h.alloc _) (fun _ _ h => h.size) ?_
      iterate 8 (apply Zx; (· rfl); (· intro b wb hB Q1 hQ1; have hS := hB.sees; have hC := hS.reads; simp only [Zz, Zy] at hC; go_wp2_with fail; exact hQ1 _ (Ex.refl _) hB); (· exact ⟨_, rfl⟩))
      (apply Zx; (· rfl); (· intro b wb hB Q1 hQ1; go_wp2_with (go_at_call 95; (with_reducible refine (KD.out _).mono ?_); rintro e wn ⟨rfl, hx⟩); exact hQ1 _ hx (hB.go hx)); (· exact ⟨_, rfl⟩))
      iterate 4 (apply Zx; (· rfl); (· intro b wb hB Q1 hQ1; go_wp2_with fail; exact hQ1 _ (Ex.refl _) hB); (· exact ⟨_, rfl⟩))
      refine Zv ?_
      refine ⟨fun i hi => ?_, fun i hi => ?_, fun i hi => ?_, fun gg wz hz hbx hne => ?_⟩
      ·obtain rfl | rfl : i = 0 ∨ i = 1 := by omega
       all_goals exact ⟨_, rfl, Yt⟩
      ·obtain rfl | rfl : i = 0 ∨ i = 1 := by omega
       all_goals exact ⟨_, rfl, Zf Yn rfl (by kernel_rfl) (fun _ _ _ hg h => h.setRow hg _)⟩
      ·obtain rfl | rfl : i = 0 ∨ i = 1 := by omega
       ·exact (show (10 : Nat) < 105 by decide)
       ·exact (show (11 : Nat) < 105 by decide)
      obtain ⟨hg0, hb0⟩ := hbx 0 (by omega)
      obtain ⟨hg1, hb1⟩ := hbx 1 (by omega)
      replace hS := InE.join hS0 hz
      replace hS := Zw.put hS hb0
      replace hS := Zw.put hS hb1
      simp only [frN, Act.put, Og, Of, Oe, Nat.reduceAdd, List.drop_succ_cons, List.drop_zero]
      generalize gg 0 = g0 at *
      generalize gg 1 = g1 at *
      clear hbx hz hS0 hne
      replace hS := hS.tail.tail
      clear hb0 hb1 hg0 hg1
      have hC := hS.reads
      simp only [Zz, Zy] at hC
      have hE := hS.ex
      have hbA := hS.boxes.1
      have hl1 := hS.boxes.2.1.lt
      go_wp2_with fail
      refine Od ?_ rfl (.inl ⟨⟨k, ga, cap, ca, [p, q], S⟩, HP.out, rfl, ⟨?_, ?_⟩, ?_⟩)
      ·simp [results, Tryz.results69, go_sem, hC, Pc.ci, Pc.cs, EK.out]
      ·repeat' (with_reducible first | exact hbA | refine Box.far ?_ (by simp <;> omega) _)
      ·exact HCA.out
      ·repeat' (with_reducible first | exact hE | refine Ex.setCell ?_ (by simp <;> omega) _)
    ·have hnI : ((ns.length : Int) == 2) = false := by rw [beq_eq_false_iff_ne]; omega
     have hnI2 : ¬ (ns.length : Int) = 2 := by omega
     have HP : Hid (Zo (k :: t) = none) := Oi (by rw [Zi HNN.out, hk114]; simp [Yv, hn])
     clear hn HNN HO
     clear hk114
     have hS : Zw w wr _ := Zw.put (Zw.put (⟨HE.out, trivial⟩ : Zw w wr []) bR) bP
     have hC := hS.reads
     simp only [Zz, Zy] at hC
     have hE := hS.ex
     go_wp2_with fail
     refine Od ?_ rfl (.inr ⟨(k.toNat : Int), A, ns.length, cap, S, HP.out, rfl, ?_⟩)
     ·simp [results, Tryz.results69, go_sem, hC, EK.out]
     ·repeat' (with_reducible first | exact hE | refine Ex.setCell ?_ (by simp <;> omega) _)
end
section
open Go.RowKit

attribute [local go_sem] Zq Zp
theorem sL7One_else (k : UInt8) (t : List UInt8) (ht0 : t ≠ []) (hk119 : k ≠ 119) (hk114 : k ≠ 114) (hk102 : k ≠ 102) (hk97 : k ≠ 97) (hk100 : k ≠ 100) (hl : (k :: t).length ≤ 1048576) (w : World) : Calls Tryz.prog 71 #[.string (Bs (k :: t))] w (Sn w (k :: t)) := by
 have HK119 := Oi hk119
 have HK114 := Oi hk114
 have HK102 := Oi hk102
 have HK97 := Oi hk97
 have HK100 := Oi hk100
 clear hk119 hk114 hk102 hk97 hk100
 have hlt : t.length ≤ 1048576 := by simp at hl; omega
 have hx1 := Uw k t
 obtain ⟨S, HS⟩ : ∃ S, Hid (S = Bs (k :: t)) := ⟨_, Oi rfl⟩
 have hsz : S.size = t.length + 1 := by rw [HS.out]; rfl
 obtain ⟨hs0, hk0⟩ : ∃ hs : 0 < S.size, S[0]'hs = k := by
  obtain ⟨h1, h2⟩ := Th HS.out (i := 0) (by simp)
  exact ⟨h1, h2⟩
 rw [← HS.out] at hx1 ⊢
 have ks := fun w => cutCB t hlt w
 have HW : Hid (∀ x ∈ cds t, x.length ≤ 1048576) := Oi fun x hx => by
  have h1 := Wy t x hx
  omega
 have HCL : Hid ((cds t).length ≤ 1048576) := Oi (by have h1 := Uv t; simp only [List.length_cons] at hl; omega)
 have hs2 : ¬ (S.size : Int) < 2 := by
  have : t.length ≠ 0 := fun e => ht0 (List.length_eq_zero_iff.1 e)
  omega
 generalize hT : Bs t = T at hx1 ks
 have KS := Oi ks
 have HX1 := Oi hx1
 clear ks hT ht0
 have hS := Zw.refl w
 have hC := True.intro
 go_enter Tryz.func71, Tryz.ntmps71
 go_upto_region 4 with fail
 have bR := ((Box.new w #[.int .u8 0, .slice none 0 0] 115).alloc (.cells #[] 3)).alloc (.cells #[.int .u8 (k.toNat : Int), .slice (some ⟨w.heap.size + 1, 0, none⟩) 0 0] 115)
 have bP := Box.new ((w.alloc (.cells #[.int .u8 0, .slice none 0 0] 115)).alloc (.cells #[] 3)) #[.int .u8 (k.toNat : Int), .slice (some ⟨w.heap.size + 1, 0, none⟩) 0 0] 115
 have hO0 := (Sf (w.alloc (.cells #[.int .u8 0, .slice none 0 0] 115)) (w.heap.size + 1) (by simp)).alloc (.cells #[.int .u8 (k.toNat : Int), .slice (some ⟨w.heap.size + 1, 0, none⟩) 0 0] 115)
 simp only [Oh] at bP hO0
 have hE1 : Ex w (((w.alloc (.cells #[.int .u8 0, .slice none 0 0] 115)).alloc (.cells #[] 3)).alloc (.cells #[.int .u8 (k.toNat : Int), .slice (some ⟨w.heap.size + 1, 0, none⟩) 0 0] 115)) := (((Ex.refl w).alloc _).alloc _).alloc _
 have hz1 : (((w.alloc (.cells #[.int .u8 0, .slice none 0 0] 115)).alloc (.cells #[] 3)).alloc (.cells #[.int .u8 (k.toNat : Int), .slice (some ⟨w.heap.size + 1, 0, none⟩) 0 0] 115)).heap.size = w.heap.size + 3 := by simp only [Oh]
 generalize ((w.alloc (.cells #[.int .u8 0, .slice none 0 0] 115)).alloc (.cells #[] 3)).alloc (.cells #[.int .u8 (k.toNat : Int), .slice (some ⟨w.heap.size + 1, 0, none⟩) 0 0] 115) = W1 at *
 clear hC hS hk0
 have hs1 : (1 : Int) ≤ (S.size : Int) := by omega
 clear hsz hl hlt
 go_wp2_with fail
 refine (KS.out _).mono ?_
 rintro e W2 ⟨g, gc, cur, rfl, hg, bG, HG, hx⟩
 replace bR := bR.ex hx
 replace bP := bP.ex hx
 have hO1 := hO0.ex hx
 have hE2 := hE1.trans hx
 have hz2 := hx.size
 clear hx hE1 KS hO0
 go_wp2_with fail
 go_loopw [6, 7, 8] (fun i n o wr => ∃ (j : Nat) (A : Option Addr) (cap : Nat) (ns : List Int), i = .int .i64 j ∧ j ≤ (cds t).length ∧ Hid (Yu Zh ((cds t).take j) = some ns) ∧ Box wr (w.heap.size + 2) 115 #[.int .u8 (k.toNat : Int), .slice A ns.length cap] ∧
   Box wr w.heap.size 115 #[.int .u8 0, .slice none 0 0] ∧ Box wr g 9 cur ∧ Hid (Xn wr (w.heap.size + 1) A cap ns) ∧ Hid (Ex w wr)) (fun i _ _ _ => (cds t).length + 1 - (intOf i).toNat)
 case atStart => exact ⟨0, some ⟨w.heap.size + 1, 0, none⟩, 0, [], rfl, by omega, Oi rfl, bP, bR, bG, Oi hO1, Oi hE2⟩
 case round =>
  clear bP bR bG hO1 hE2 hz2
  obtain ⟨j, A, cap, ns, rfl, hj, HN, bP, bR, bG, HO, HE⟩ := hrel
  have hnl : ns.length ≤ 1048576 := by
   have h1 := Xz HN.out
   have h2 := List.length_take_le j (cds t)
   have h3 := HCL.out
   omega
  by_cases hlt : j < (cds t).length
  ·have hcell := HG.out j hlt
   have hmem : (cds t)[j] ∈ cds t := List.getElem_mem hlt
   have hxl := HW.out _ hmem
   have HMs : Hid (Yu Zh ((cds t).take (j + 1)) = Yu Zh ((cds t).take j ++ [(cds t)[j]])) := Oi (by rw [Yk hlt])
   generalize (cds t)[j] = x at *
   have kp := fun w => Vu x hxl w
   have hlI : (j : Int) < ((cds t).length : Int) := by omega
   have hw5 : IntKind.i64.wrap ((j : Int) + 1) = (j : Int) + 1 := Oc _ (by have := HCL.out; omega)
   obtain ⟨X, HX⟩ : ∃ X, Hid (X = Bs x) := ⟨_, Oi rfl⟩
   rw [← HX.out] at hcell kp
   have KP := Oi kp
   have HMem := Oi hmem
   have cG := bG.cell
   have zG := bG.lt
   clear kp hmem hxl
   go_wp2_with fail
   refine (KP.out _).mono ?_
   rintro e w2 ⟨n, ok, rfl, hx, hn⟩
   have HNn := Oi hn
   replace bP := bP.ex hx
   replace bR := bR.ex hx
   replace bG := bG.ex hx
   have HE2 := Oi (HE.out.trans hx)
   have HO2 := Oi (HO.out.ex hx)
   clear hx hn cG zG KP hcell
   have cP := bP.cell
   have fP := bP.frozen
   have zP := bP.lt
   have cR := bR.cell
   have fR := bR.frozen
   have zR := bR.lt
   rcases ok with _ | _
   ·have HNo : Hid (Zo (k :: t) = none) := Oi (Vw HMem.out HNn.out)
    go_wp2
    refine Od ?_ rfl (.inr ⟨k.toNat, A, ns.length, cap, HNo.out, rfl, ?_⟩)
    ·simp [results, Tryz.results71, go_sem, cP, cR]
    ·have hE := HE2.out
     repeat' (with_reducible first | exact hE | refine Ex.setCell ?_ (by simp <;> omega) _)
   ·have hs2 := HE2.out.size
    go_wp2_with (at_builtin; refine Xs rfl _ _ w2 rfl (w.heap.size + 1) A cap ns n rfl HO2.out rfl hnl (by omega) ?_)
    intro A' cap' w' hown' hk'
    have HE3 := Oi (hk'.ex w HE2.out (by omega))
    replace bP := hk'.box _ _ _ bP (by decide)
    replace bR := hk'.box _ _ _ bR (by decide)
    replace bG := hk'.box _ _ _ bG (by decide)
    have HO3 := Oi hown'
    have cP := bP.cell
    have fP := bP.frozen
    have zP := bP.lt
    clear hown' hk' HO2 HE2 cR fR zR
    have HN3 : Hid (Yu Zh ((cds t).take (j + 1)) = some (ns ++ [n])) := Oi (by rw [HMs.out]; exact Xu HNn.out HN.out)
    clear HNn HMs
    go_wp2
    have bP3 : Box (w'.setCell ⟨w.heap.size + 2, 1, none⟩ (.slice A' (ns.length + 1) cap')) (w.heap.size + 2) 115 #[.int .u8 (k.toNat : Int), .slice A' (ns ++ [n]).length cap'] := by
     have h := bP.set_ 1 (.slice A' (ns.length + 1) cap')
     simpa using h
    have bR3 := bR.far (p := ⟨w.heap.size + 2, 1, none⟩) (by simp) (.slice A' (ns.length + 1) cap')
    have bG3 := bG.far (p := ⟨w.heap.size + 2, 1, none⟩) (by simp; omega) (.slice A' (ns.length + 1) cap')
    have HO4 : Hid (Xn _ (w.heap.size + 1) A' cap' (ns ++ [n])) := Oi (Own.setCell (p := ⟨w.heap.size + 2, 1, none⟩) HO3.out (fun g hg e => by subst e; exact Own.ne HO3.out bP (by decide) hg.symm) (.slice A' (ns.length + 1) cap'))
    have HE4 := Oi (HE3.out.setCell (p := ⟨w.heap.size + 2, 1, none⟩) (by simp) (.slice A' (ns.length + 1) cap'))
    go_roundw
    case rel => exact ⟨j + 1, A', cap', ns ++ [n], by go_num, by omega, HN3, bP3, bR3, bG3, HO4, HE4⟩
    case measure => simp [intOf] <;> omega
  ·
   have hk119 := HK119.out
   have hk114 := HK114.out
   have hk102 := HK102.out
   have hk97 := HK97.out
   have hk100 := HK100.out
   obtain rfl : j = (cds t).length := by omega
   have hlI : ¬ ((cds t).length : Int) < ((cds t).length : Int) := by omega
   have HNN : Hid (Yu Zh (cds t) = some ns) := Oi (by have := HN.out; rwa [List.take_length] at this)
   clear HN HG bG hj hnl HW HX1
   clear hlt
   go_upto_region 12 with fail
   clear hlI
   have e119 := Sw hk119
   have e114 := Sw hk114
   have e102 := Sw hk102
   have e97 := Sw hk97
   have e100 := Sw hk100
   simp only [show ((119 : UInt8).toNat : Int) = 119 from rfl] at e119
   simp only [show ((114 : UInt8).toNat : Int) = 114 from rfl] at e114
   simp only [show ((102 : UInt8).toNat : Int) = 102 from rfl] at e102
   simp only [show ((97 : UInt8).toNat : Int) = 97 from rfl] at e97
   simp only [show ((100 : UInt8).toNat : Int) = 100 from rfl] at e100
   have HP : Hid (Zo (k :: t) = none) := Oi (by rw [Zi HNN.out]; simp [Yv, hk119, hk114, hk102, hk97, hk100])
   clear HNN HO
   clear hk119 hk114 hk102 hk97 hk100
   have hS : Zw w wr _ := Zw.put (Zw.put (⟨HE.out, trivial⟩ : Zw w wr []) bR) bP
   have hC := hS.reads
   simp only [Zz, Zy] at hC
   have hE := hS.ex
   go_wp2_with fail
   refine Od ?_ rfl (.inr ⟨(k.toNat : Int), A, ns.length, cap, HP.out, rfl, ?_⟩)
   ·simp [results, Tryz.results71, go_sem, hC]
   ·repeat' (with_reducible first | exact hE | refine Ex.setCell ?_ (by simp <;> omega) _)
end
end Go.Proofs.YtmjggolkopbcnaaGreatDoor
