/-
  Proved: what functions compute, part 38. No condition.
-/
import Derived.Test.YtmmjkchjgeklnaaGreatDoorK37
import Derived.Test.YtmmjkchjgeklnaaGreatDoorK18
import Derived.Test.YtmmjkchjgeklnaaGreatDoorK01
set_option linter.unusedSimpArgs false
set_option linter.unusedVariables false
set_option maxRecDepth 20000
set_option maxHeartbeats 8000000
namespace Go.Proofs.YtmmjkchjgeklnaaGreatDoor
section
open Go.RowKit

def Shorts (cs : Array Value) (m : Nat) : Prop := ∀ k, k < cs.size → ∃ s : ByteArray, cs[k]? = some (.string s) ∧ s.size ≤ m
def OfD (m bo : Nat) (A : Option Addr) (n cap a : Nat) (w : World) : Ending → World → Prop := fun e w' =>
 ∃ s : ByteArray, e = .returned (.string s) ∧ s.size ≤ m ∧ Dr bo w w' ∧ Rdr w' bo A n cap (a + 1)
theorem of_any {W : World} {A : Option Addr} {bs : List Int} (hB : Vd W A bs) (hl : bs.length ≤ 2000) (bo cap a : Nat) (w : World) (hE : Ex W w) (hbo : W.heap.size ≤ bo)
  (hb : Rdr w bo A bs.length cap a) (ha : a ≤ 1000000) (g n m : Nat) (cs : Array Value) (t : TypeId) (hg : Box w g t cs) (hne : g ≠ bo) (hn : cs.size = n) (h1 : 1 ≤ n) (h2 : n ≤ 1000) (hs : Shorts cs m) :
  Calls Tryz.prog 97 #[.pointer (some ⟨bo, 0, none⟩), .slice (some ⟨g, 0, none⟩) n n] w (OfD m bo A bs.length cap a w) := by
 have hp := To hB hl bo cap a (n : Int) w hE hbo hb (by omega) (by omega) (by omega)
 have HP := Gv hp
 clear hp hB hl hb ha hE hbo
 go_enter Tryz.func97, Tryz.ntmps97
 go_wp2_with fail
 refine HP.out.mono ?_
 rintro e w1 ⟨v, rfl, hv0, hv1, hd, hb1⟩
 obtain ⟨j, rfl⟩ := Int.eq_ofNat_of_zero_le hv0
 have hj : j < cs.size := by omega
 obtain ⟨s, hs1, hs2⟩ := hs j hj
 have hc : w1.cell? ⟨g, j, none⟩ = some (.string s) := by rw [(hd.box _ _ _ hne hg).cell j, hs1]
 have hjI : (j : Int) < (n : Int) := hv1
 clear HP
 go_wp2
 go_ret
 exact ⟨s, rfl, hs2, hd, hb1⟩
theorem shorts_list {ss : List ByteArray} {m : Nat} (h : ∀ s ∈ ss, s.size ≤ m) : Shorts ((ss.map Value.string).toArray) m := by
 intro k hk
 have hk2 : k < ss.length := by simpa using hk
 refine ⟨ss[k], ?_, h _ (List.getElem_mem hk2)⟩
 simp [hk2]
end
section
open Go.RowKit

attribute [local go_sem] Zk Zj
def StrD (m c bo : Nat) (A : Option Addr) (n cap a : Nat) (w : World) : Ending → World → Prop := fun e w' =>
 ∃ (s : ByteArray) (a' : Nat), e = .returned (.string s) ∧ s.size ≤ m ∧ a' ≤ a + c ∧ Dr bo w w' ∧ Rdr w' bo A n cap a'
theorem l92Piece_any {W : World} {A : Option Addr} {bs : List Int} (hB : Vd W A bs) (hl : bs.length ≤ 2000) (bo cap a : Nat) (w : World) (hE : Ex W w) (hbo : W.heap.size ≤ bo)
  (hb : Rdr w bo A bs.length cap a) (ha : a ≤ 900000) : Calls Tryz.prog 96 #[.pointer (some ⟨bo, 0, none⟩), .bool true] w (StrD 20 10 bo A bs.length cap a w) := by
 have HP := Gv (fun a m w hE hb ha hm hm2 => To hB hl bo cap a m w hE hbo hb ha hm hm2)
 have hD := Dr.refl bo w
 clear hB hl
 go_enter Tryz.func96, Tryz.ntmps96
 go_wp2_with fail
 refine (HP.out a 5 _ hE hb (by omega) (by omega) (by omega)).mono ?_
 rintro e u1 ⟨v1, rfl, hv1a, hv1b, hd, hb2⟩
 replace hE := hd.ex W hE hbo
 replace hD := hD.trans hd
 replace hb := hb2
 clear hd hb2
 have w1 : IntKind.i64.wrap (v1 - 2) = v1 - 2 := Gp _ (by omega)
 go_wp2_with fail
 refine (Sk (v1 - 2) (by omega) (by omega) _).mono ?_
 rintro e u2 ⟨rfl, hx⟩
 replace hE := hE.trans hx
 replace hD := hD.trans (Dr.of_ex hx)
 replace hb : Rdr u2 bo A bs.length cap (a + 1) := Box.ex hb hx
 clear hx
 have hzP := Vu (n := v1 - 2) (by omega) (by omega)
 obtain ⟨P, hP⟩ : ∃ S, S = Bs (Lib.itoa (v1 - 2)) := ⟨_, rfl⟩
 rw [← hP]
 have hzP2 : P.size ≤ 4 := by rw [hP, Wa]; exact hzP
 clear hP hzP
 go_wp2_with fail
 refine (HP.out (a + 1) 2 _ hE hb (by omega) (by omega) (by omega)).mono ?_
 rintro e u3 ⟨v2, rfl, hv2a, hv2b, hd, hb2⟩
 replace hE := hd.ex W hE hbo
 replace hD := hD.trans hd
 replace hb := hb2
 clear hd hb2
 have w2 : IntKind.i64.wrap (1 + v2) = 1 + v2 := Gp _ (by omega)
 go_wp2_with fail
 refine (Sk (1 + v2) (by omega) (by omega) _).mono ?_
 rintro e u4 ⟨rfl, hx⟩
 replace hE := hE.trans hx
 replace hD := hD.trans (Dr.of_ex hx)
 replace hb : Rdr u4 bo A bs.length cap ((a + 1) + 1) := Box.ex hb hx
 clear hx
 have hzQ := Vu (n := 1 + v2) (by omega) (by omega)
 obtain ⟨Q, hQ⟩ : ∃ S, S = Bs (Lib.itoa (1 + v2)) := ⟨_, rfl⟩
 rw [← hQ]
 have hzQ2 : Q.size ≤ 4 := by rw [hQ, Wa]; exact hzQ
 clear hQ hzQ
 go_wp2_with fail
 refine (HP.out ((a + 1) + 1) 5 _ hE hb (by omega) (by omega) (by omega)).mono ?_
 rintro e u5 ⟨v3, rfl, hv3a, hv3b, hd, hb2⟩
 replace hE := hd.ex W hE hbo
 replace hD := hD.trans hd
 replace hb := hb2
 clear hd hb2
 obtain rfl | rfl | rfl | rfl | rfl : v3 = 0 ∨ v3 = 1 ∨ v3 = 2 ∨ v3 = 3 ∨ v3 = 4 := by omega
 ·go_wp2
  go_ret
  refine ⟨_, _, rfl, ?_, by omega, hD, hb⟩
  simp only [ByteArray.size_append]
  have l1 : (⟨#[58]⟩ : ByteArray).size = 1 := rfl
  have l2 : ∀ c : UInt8, (⟨#[c]⟩ : ByteArray).size = 1 := fun _ => rfl
  simp only [l2]
  omega
 ·go_wp2_with fail
  refine (HP.out (((a + 1) + 1) + 1) 4 _ hE hb (by omega) (by omega) (by omega)).mono ?_
  rintro e u6 ⟨v4, rfl, hv4a, hv4b, hd, hb2⟩
  replace hE := hd.ex W hE hbo
  replace hD := hD.trans hd
  replace hb := hb2
  clear hd hb2
  go_wp2_with fail
  refine (Sk (v4) (by omega) (by omega) _).mono ?_
  rintro e u7 ⟨rfl, hx⟩
  replace hE := hE.trans hx
  replace hD := hD.trans (Dr.of_ex hx)
  replace hb : Rdr u7 bo A bs.length cap ((((a + 1) + 1) + 1) + 1) := Box.ex hb hx
  clear hx
  have hzR := Vu (n := v4) (by omega) (by omega)
  obtain ⟨R, hR⟩ : ∃ S, S = Bs (Lib.itoa (v4)) := ⟨_, rfl⟩
  rw [← hR]
  have hzR2 : R.size ≤ 4 := by rw [hR, Wa]; exact hzR
  clear hR hzR
  go_wp2
  go_ret
  refine ⟨_, _, rfl, ?_, by omega, hD, hb⟩
  simp only [ByteArray.size_append]
  have l1 : (⟨#[58]⟩ : ByteArray).size = 1 := rfl
  have l2 : ∀ c : UInt8, (⟨#[c]⟩ : ByteArray).size = 1 := fun _ => rfl
  simp only [l2]
  omega
 ·go_wp2_with fail
  refine (HP.out (((a + 1) + 1) + 1) 4 _ hE hb (by omega) (by omega) (by omega)).mono ?_
  rintro e u6 ⟨v4, rfl, hv4a, hv4b, hd, hb2⟩
  replace hE := hd.ex W hE hbo
  replace hD := hD.trans hd
  replace hb := hb2
  clear hd hb2
  go_wp2_with fail
  refine (Sk (v4) (by omega) (by omega) _).mono ?_
  rintro e u7 ⟨rfl, hx⟩
  replace hE := hE.trans hx
  replace hD := hD.trans (Dr.of_ex hx)
  replace hb : Rdr u7 bo A bs.length cap ((((a + 1) + 1) + 1) + 1) := Box.ex hb hx
  clear hx
  have hzR := Vu (n := v4) (by omega) (by omega)
  obtain ⟨R, hR⟩ : ∃ S, S = Bs (Lib.itoa (v4)) := ⟨_, rfl⟩
  rw [← hR]
  have hzR2 : R.size ≤ 4 := by rw [hR, Wa]; exact hzR
  clear hR hzR
  go_wp2
  go_ret
  refine ⟨_, _, rfl, ?_, by omega, hD, hb⟩
  simp only [ByteArray.size_append]
  have l1 : (⟨#[58]⟩ : ByteArray).size = 1 := rfl
  have l2 : ∀ c : UInt8, (⟨#[c]⟩ : ByteArray).size = 1 := fun _ => rfl
  simp only [l2]
  omega
 ·go_wp2
  go_ret
  refine ⟨_, _, rfl, ?_, by omega, hD, hb⟩
  simp only [ByteArray.size_append]
  have l1 : (⟨#[58]⟩ : ByteArray).size = 1 := rfl
  have l2 : ∀ c : UInt8, (⟨#[c]⟩ : ByteArray).size = 1 := fun _ => rfl
  simp only [l2]
  omega
 ·go_wp2_with fail
  refine (HP.out (((a + 1) + 1) + 1) 4 _ hE hb (by omega) (by omega) (by omega)).mono ?_
  rintro e u6 ⟨v4, rfl, hv4a, hv4b, hd, hb2⟩
  replace hE := hd.ex W hE hbo
  replace hD := hD.trans hd
  replace hb := hb2
  clear hd hb2
  have w3 : IntKind.i64.wrap (1 + v4) = 1 + v4 := Gp _ (by omega)
  have w4 : IntKind.i64.wrap (1 + v4 + 1) = 1 + v4 + 1 := Gp _ (by omega)
  skip
  go_wp2_with fail
  refine (HP.out ((((a + 1) + 1) + 1) + 1) 2 _ hE hb (by omega) (by omega) (by omega)).mono ?_
  rintro e u7 ⟨v5, rfl, hv5a, hv5b, hd, hb2⟩
  replace hE := hd.ex W hE hbo
  replace hD := hD.trans hd
  replace hb := hb2
  clear hd hb2
  by_cases h5 : v5 = 0
  ·have h5b : (v5 == 0) = true := by simpa using h5
   go_wp2_with fail
   refine (HP.out (((((a + 1) + 1) + 1) + 1) + 1) (1 + v4 + 1) _ hE hb (by omega) (by omega) (by omega)).mono ?_
   rintro e u8 ⟨v6, rfl, hv6a, hv6b, hd, hb2⟩
   replace hE := hd.ex W hE hbo
   replace hD := hD.trans hd
   replace hb := hb2
   clear hd hb2
   go_wp2_with fail
   refine (Sk (v6) (by omega) (by omega) _).mono ?_
   rintro e u9 ⟨rfl, hx⟩
   replace hE := hE.trans hx
   replace hD := hD.trans (Dr.of_ex hx)
   replace hb : Rdr u9 bo A bs.length cap ((((((a + 1) + 1) + 1) + 1) + 1) + 1) := Box.ex hb hx
   clear hx
   have hzR := Vu (n := v6) (by omega) (by omega)
   obtain ⟨R, hR⟩ : ∃ S, S = Bs (Lib.itoa (v6)) := ⟨_, rfl⟩
   rw [← hR]
   have hzR2 : R.size ≤ 4 := by rw [hR, Wa]; exact hzR
   clear hR hzR
   go_wp2_with fail
   refine (Sk (1 + v4) (by omega) (by omega) _).mono ?_
   rintro e u10 ⟨rfl, hx⟩
   replace hE := hE.trans hx
   replace hD := hD.trans (Dr.of_ex hx)
   replace hb : Rdr u10 bo A bs.length cap ((((((a + 1) + 1) + 1) + 1) + 1) + 1) := Box.ex hb hx
   clear hx
   have hzT := Vu (n := 1 + v4) (by omega) (by omega)
   obtain ⟨T, hT⟩ : ∃ S, S = Bs (Lib.itoa (1 + v4)) := ⟨_, rfl⟩
   rw [← hT]
   have hzT2 : T.size ≤ 4 := by rw [hT, Wa]; exact hzT
   clear hT hzT
   go_wp2
   go_ret
   refine ⟨_, _, rfl, ?_, by omega, hD, hb⟩
   simp only [ByteArray.size_append]
   have l1 : (⟨#[58]⟩ : ByteArray).size = 1 := rfl
   have l2 : ∀ c : UInt8, (⟨#[c]⟩ : ByteArray).size = 1 := fun _ => rfl
   simp only [l2]
   omega
  ·have h5b : (v5 == 0) = false := by simpa using h5
   go_wp2_with fail
   refine (HP.out (((((a + 1) + 1) + 1) + 1) + 1) (1 + v4 + 1) _ hE hb (by omega) (by omega) (by omega)).mono ?_
   rintro e u8 ⟨v6, rfl, hv6a, hv6b, hd, hb2⟩
   replace hE := hd.ex W hE hbo
   replace hD := hD.trans hd
   replace hb := hb2
   clear hd hb2
   go_wp2_with fail
   refine (Sk (v6) (by omega) (by omega) _).mono ?_
   rintro e u9 ⟨rfl, hx⟩
   replace hE := hE.trans hx
   replace hD := hD.trans (Dr.of_ex hx)
   replace hb : Rdr u9 bo A bs.length cap ((((((a + 1) + 1) + 1) + 1) + 1) + 1) := Box.ex hb hx
   clear hx
   have hzR := Vu (n := v6) (by omega) (by omega)
   obtain ⟨R, hR⟩ : ∃ S, S = Bs (Lib.itoa (v6)) := ⟨_, rfl⟩
   rw [← hR]
   have hzR2 : R.size ≤ 4 := by rw [hR, Wa]; exact hzR
   clear hR hzR
   go_wp2_with fail
   refine (Sk (1 + v4) (by omega) (by omega) _).mono ?_
   rintro e u10 ⟨rfl, hx⟩
   replace hE := hE.trans hx
   replace hD := hD.trans (Dr.of_ex hx)
   replace hb : Rdr u10 bo A bs.length cap ((((((a + 1) + 1) + 1) + 1) + 1) + 1) := Box.ex hb hx
   clear hx
   have hzT := Vu (n := 1 + v4) (by omega) (by omega)
   obtain ⟨T, hT⟩ : ∃ S, S = Bs (Lib.itoa (1 + v4)) := ⟨_, rfl⟩
   rw [← hT]
   have hzT2 : T.size ≤ 4 := by rw [hT, Wa]; exact hzT
   clear hT hzT
   go_wp2
   go_ret
   refine ⟨_, _, rfl, ?_, by omega, hD, hb⟩
   simp only [ByteArray.size_append]
   have l1 : (⟨#[58]⟩ : ByteArray).size = 1 := rfl
   have l2 : ∀ c : UInt8, (⟨#[c]⟩ : ByteArray).size = 1 := fun _ => rfl
   simp only [l2]
   omega
end
section
open Go.RowKit

attribute [local go_sem] Zk Zj
theorem shortsB : Shorts #[.string ⟨#[32]⟩, .string ⟨#[120]⟩, .string ⟨#[114, 48, 58, 48]⟩, .string ⟨#[32, 119, 49, 58, 49, 58, 52]⟩, .string ⟨#[32, 97, 51, 58, 50]⟩, .string ⟨#[32, 102, 48, 49, 58, 49]⟩, .string ⟨#[32, 114, 45, 48, 58, 49]⟩, .string ⟨#[32, 100, 49, 58, 48]⟩] 20 := by
  refine shorts_list (ss := [⟨#[32]⟩, ⟨#[120]⟩, ⟨#[114, 48, 58, 48]⟩, ⟨#[32, 119, 49, 58, 49, 58, 52]⟩, ⟨#[32, 97, 51, 58, 50]⟩, ⟨#[32, 102, 48, 49, 58, 49]⟩, ⟨#[32, 114, 45, 48, 58, 49]⟩, ⟨#[32, 100, 49, 58, 48]⟩]) ?_
  intro s hs
  simp only [List.mem_cons, List.not_mem_nil, or_false] at hs
  rcases hs with rfl | rfl | rfl | rfl | rfl | rfl | rfl | rfl <;> decide
theorem Kw {W : World} {A : Option Addr} {bs : List Int} (hB : Vd W A bs) (hl : bs.length ≤ 2000) (bo cap a : Nat) (w : World) (hE : Ex W w) (hbo : W.heap.size ≤ bo)
    (hb : Rdr w bo A bs.length cap a) (ha : a ≤ 800000) : Calls Tryz.prog 63 #[.pointer (some ⟨bo, 0, none⟩), .bool true] w (StrD 200 60 bo A bs.length cap a w) := by
  have HP := Gv (fun a m w hE hb ha hm hm2 => To hB hl bo cap a m w hE hbo hb ha hm hm2)
  have HPc := Gv (fun a w hE hb ha => l92Piece_any hB hl bo cap a w hE hbo hb ha)
  have HOf := Gv (fun a w hE hb ha g n m cs t hg hne hn h1 h2 hs => of_any hB hl bo cap a w hE hbo hb ha g n m cs t hg hne hn h1 h2 hs)
  have hD := Dr.refl bo w
  clear hB hl
  go_enter Tryz.func63, Tryz.ntmps63
  go_wp2_with fail
  refine (HP.out a 4 _ hE hb (by omega) (by omega) (by omega)).mono ?_
  rintro e u1 ⟨v1, rfl, hv1a, hv1b, hd, hb2⟩
  replace hE := hd.ex W hE hbo
  replace hD := hD.trans hd
  replace hb := hb2
  clear hd hb2
  obtain ⟨n, rfl⟩ := Int.eq_ofNat_of_zero_le hv1a
  have HE := Gv hE
  have HD := Gv hD
  have HR := Gv hb
  clear hE hD hb
  go_wp2_with fail
  go_loopw [7, 5] (fun i o wr => ∃ (k : Nat) (s : ByteArray) (a2 : Nat), i = .int .i64 k ∧ o = .string s ∧ k ≤ n ∧ s.size ≤ 21 * k ∧ a2 ≤ a + 1 + 10 * k ∧ Hid (Ex W wr) ∧ Hid (Dr bo w wr) ∧ Hid (Rdr wr bo A bs.length cap a2)) (fun i _ _ => 5 - (intOf i).toNat)
  case atStart => exact ⟨0, ⟨#[]⟩, _, rfl, rfl, by omega, by decide, by omega, HE, HD, HR⟩
  case round =>
    clear HE HD HR
    obtain ⟨k, s, a2, rfl, rfl, hk, hs, ha2, HE, HD, HR⟩ := hrel
    by_cases hlt : k < n
    · have hI : (k : Int) < (n : Int) := by omega
      have hwk : IntKind.i64.wrap ((k : Int) + 1) = (k : Int) + 1 := Gp _ (by omega)
      rcases Nat.eq_zero_or_pos k with h0 | h0
      · have h0b : ¬ (0 : Int) < (k : Int) := by omega
        go_wp2_with fail
        refine (HPc.out a2 _ HE.out HR.out (by omega)).mono ?_
        rintro e u2 ⟨t, a3, rfl, ht, ha3, hd, hb2⟩
        have HE2 := Gv (hd.ex W HE.out hbo)
        have HD2 := Gv (HD.out.trans hd)
        have HR2 := Gv hb2
        clear hd hb2 HE HD HR
        have hsz : (s ++ t).size ≤ 21 * (k + 1) := by rw [ByteArray.size_append]; omega
        go_wp2_with fail
        go_roundw
        case rel => exact ⟨k + 1, _, a3, by go_num, rfl, by omega, hsz, by omega, HE2, HD2, HR2⟩
        case measure => simp [intOf] <;> omega
      · have h0b : (0 : Int) < (k : Int) := by omega
        go_wp2_with fail
        refine (HPc.out a2 _ HE.out HR.out (by omega)).mono ?_
        rintro e u2 ⟨t, a3, rfl, ht, ha3, hd, hb2⟩
        have HE2 := Gv (hd.ex W HE.out hbo)
        have HD2 := Gv (HD.out.trans hd)
        have HR2 := Gv hb2
        clear hd hb2 HE HD HR
        have hsz : (s ++ ⟨#[32]⟩ ++ t).size ≤ 21 * (k + 1) := by
         have l2 : ∀ c : UInt8, (⟨#[c]⟩ : ByteArray).size = 1 := fun _ => rfl
         rw [ByteArray.size_append, ByteArray.size_append, l2]
         omega
        go_wp2_with fail
        go_roundw
        case rel => exact ⟨k + 1, _, a3, by go_num, rfl, by omega, hsz, by omega, HE2, HD2, HR2⟩
        case measure => simp [intOf] <;> omega
    · obtain rfl : k = n := by omega
      have hI : ¬ (k : Int) < (k : Int) := by omega
      have hE := HE.out
      have hD := HD.out
      have hb := HR.out
      clear HE HD HR hlt
      go_wp2_with fail
      refine (HP.out a2 20 _ hE hb (by omega) (by omega) (by omega)).mono ?_
      rintro e u6 ⟨v2, rfl, hv2a, hv2b, hd, hb2⟩
      replace hE := hd.ex W hE hbo
      replace hD := hD.trans hd
      replace hb := hb2
      clear hd hb2
      have hlt2 := hb.lt
      by_cases h2 : v2 = 0
      · have h2b : (v2 == 0) = true := by simpa using h2
        go_wp2_with fail
        refine (HOf.out (a2 + 1) _ (hE.alloc _) (Box.alloc hb _) (by omega) u6.heap.size 8 20 _ 9 (Box.new u6 _ _) (by omega) rfl (by omega) (by omega) shortsB).mono ?_
        rintro e u7 ⟨t, rfl, ht, hd, hb2⟩
        go_wp2
        go_ret
        refine ⟨_, _, rfl, ?_, ?_, hD.trans ((Dr.of_ex ((Ex.refl _).alloc _)).trans hd), hb2⟩
        · rw [ByteArray.size_append]; omega
        · omega
      · have h2b : (v2 == 0) = false := by simpa using h2
        go_wp2
        go_ret
        exact ⟨_, _, rfl, by omega, by omega, hD, hb⟩
end
end Go.Proofs.YtmmjkchjgeklnaaGreatDoor
