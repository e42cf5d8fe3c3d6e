/-
  Proved: what functions compute, part 32. No condition.
-/
import Derived.Test.YtmjggolkopbcnaaGreatDoorB28
set_option linter.unusedSimpArgs false
set_option linter.unusedVariables false
set_option maxRecDepth 20000
set_option maxHeartbeats 8000000
namespace Go.Proofs.YtmjggolkopbcnaaGreatDoor
section
open Go.RowKit

attribute [local go_sem] Zq Zp
theorem shortsB : Shorts #[.string ⟨#[32]⟩, .string ⟨#[120]⟩, .string ⟨#[114, 48, 58, 48]⟩, .string ⟨#[32, 119, 49, 58, 49, 58, 52]⟩, .string ⟨#[32, 97, 51, 58, 50]⟩, .string ⟨#[32, 102, 48, 49, 58, 49]⟩, .string ⟨#[32, 114, 45, 48, 58, 49]⟩, .string ⟨#[32, 100, 49, 58, 48]⟩] 20 := by
  refine shorts_list (ss := [⟨#[32]⟩, ⟨#[120]⟩, ⟨#[114, 48, 58, 48]⟩, ⟨#[32, 119, 49, 58, 49, 58, 52]⟩, ⟨#[32, 97, 51, 58, 50]⟩, ⟨#[32, 102, 48, 49, 58, 49]⟩, ⟨#[32, 114, 45, 48, 58, 49]⟩, ⟨#[32, 100, 49, 58, 48]⟩]) ?_
  intro s hs
  simp only [List.mem_cons, List.not_mem_nil, or_false] at hs
  rcases hs with rfl | rfl | rfl | rfl | rfl | rfl | rfl | rfl <;> decide
theorem Ro (fb : Bool) {W : World} {A : Option Addr} {bs : List Int} (hB : Vt W A bs) (hl : bs.length ≤ 2000) (bo cap a : Nat) (w : World) (hE : Ex W w) (hbo : W.heap.size ≤ bo)
    (hb : Rdr w bo A bs.length cap a) (ha : a ≤ 800000) : Calls Tryz.prog 23 #[.pointer (some ⟨bo, 0, none⟩), .bool fb] w (StrD 200 60 bo A bs.length cap a w) := by
  have HP := Oi (fun a m w hE hb ha hm hm2 => Ps hB hl bo cap a m w hE hbo hb ha hm hm2)
  have HPc := Oi (fun a w hE hb ha => l92Piece_any fb hB hl bo cap a w hE hbo hb ha)
  have HOf := Oi (fun a w hE hb ha g n m cs t hg hne hn h1 h2 hs => of_any hB hl bo cap a w hE hbo hb ha g n m cs t hg hne hn h1 h2 hs)
  have hD := Dr.refl bo w
  clear hB hl
  go_enter Tryz.func23, Tryz.ntmps23
  go_wp2_with fail
  refine (HP.out a 4 _ hE hb (by omega) (by omega) (by omega)).mono ?_
  rintro e u1 ⟨v1, rfl, hv1a, hv1b, hd, hb2⟩
  replace hE := hd.ex W hE hbo
  replace hD := hD.trans hd
  replace hb := hb2
  clear hd hb2
  obtain ⟨n, rfl⟩ := Int.eq_ofNat_of_zero_le hv1a
  have HE := Oi hE
  have HD := Oi hD
  have HR := Oi hb
  clear hE hD hb
  go_wp2_with fail
  go_loopw [7, 5] (fun i o wr => ∃ (k : Nat) (s : ByteArray) (a2 : Nat), i = .int .i64 k ∧ o = .string s ∧ k ≤ n ∧ s.size ≤ 21 * k ∧ a2 ≤ a + 1 + 10 * k ∧ Hid (Ex W wr) ∧ Hid (Dr bo w wr) ∧ Hid (Rdr wr bo A bs.length cap a2)) (fun i _ _ => 5 - (intOf i).toNat)
  case atStart => exact ⟨0, ⟨#[]⟩, _, rfl, rfl, by omega, by decide, by omega, HE, HD, HR⟩
  case round =>
    clear HE HD HR
    obtain ⟨k, s, a2, rfl, rfl, hk, hs, ha2, HE, HD, HR⟩ := hrel
    by_cases hlt : k < n
    · have hI : (k : Int) < (n : Int) := by omega
      have hwk : IntKind.i64.wrap ((k : Int) + 1) = (k : Int) + 1 := Oc _ (by omega)
      rcases Nat.eq_zero_or_pos k with h0 | h0
      · have h0b : ¬ (0 : Int) < (k : Int) := by omega
        go_wp2_with fail
        refine (HPc.out a2 _ HE.out HR.out (by omega)).mono ?_
        rintro e u2 ⟨t, a3, rfl, ht, ha3, hd, hb2⟩
        have HE2 := Oi (hd.ex W HE.out hbo)
        have HD2 := Oi (HD.out.trans hd)
        have HR2 := Oi hb2
        clear hd hb2 HE HD HR
        have hsz : (s ++ t).size ≤ 21 * (k + 1) := by rw [ByteArray.size_append]; omega
        go_wp2_with fail
        go_roundw
        case rel => exact ⟨k + 1, _, a3, by go_num, rfl, by omega, hsz, by omega, HE2, HD2, HR2⟩
        case measure => simp [intOf] <;> omega
      · have h0b : (0 : Int) < (k : Int) := by omega
        go_wp2_with fail
        refine (HPc.out a2 _ HE.out HR.out (by omega)).mono ?_
        rintro e u2 ⟨t, a3, rfl, ht, ha3, hd, hb2⟩
        have HE2 := Oi (hd.ex W HE.out hbo)
        have HD2 := Oi (HD.out.trans hd)
        have HR2 := Oi hb2
        clear hd hb2 HE HD HR
        have hsz : (s ++ ⟨#[32]⟩ ++ t).size ≤ 21 * (k + 1) := by
         have l2 : ∀ c : UInt8, (⟨#[c]⟩ : ByteArray).size = 1 := fun _ => rfl
         rw [ByteArray.size_append, ByteArray.size_append, l2]
         omega
        go_wp2_with fail
        go_roundw
        case rel => exact ⟨k + 1, _, a3, by go_num, rfl, by omega, hsz, by omega, HE2, HD2, HR2⟩
        case measure => simp [intOf] <;> omega
    · obtain rfl : k = n := by omega
      have hI : ¬ (k : Int) < (k : Int) := by omega
      have hE := HE.out
      have hD := HD.out
      have hb := HR.out
      clear HE HD HR hlt
      go_wp2_with fail
      refine (HP.out a2 20 _ hE hb (by omega) (by omega) (by omega)).mono ?_
      rintro e u6 ⟨v2, rfl, hv2a, hv2b, hd, hb2⟩
      replace hE := hd.ex W hE hbo
      replace hD := hD.trans hd
      replace hb := hb2
      clear hd hb2
      have hlt2 := hb.lt
      by_cases h2 : v2 = 0
      · have h2b : (v2 == 0) = true := by simpa using h2
        go_wp2_with fail
        refine (HOf.out (a2 + 1) _ (hE.alloc _) (Box.alloc hb _) (by omega) u6.heap.size 8 20 _ 9 (Box.new u6 _ _) (by omega) rfl (by omega) (by omega) shortsB).mono ?_
        rintro e u7 ⟨t, rfl, ht, hd, hb2⟩
        go_wp2
        go_ret
        refine ⟨_, _, rfl, ?_, ?_, hD.trans ((Dr.of_ex ((Ex.refl _).alloc _)).trans hd), hb2⟩
        · rw [ByteArray.size_append]; omega
        · omega
      · have h2b : (v2 == 0) = false := by simpa using h2
        go_wp2
        go_ret
        exact ⟨_, _, rfl, by omega, by omega, hD, hb⟩
end
section
open Go.RowKit

attribute [local go_sem] Zq Zp
def DrwS (w : World) : Ending → World → Prop := fun e w' => ∃ s : ByteArray, e = .returned (.string s) ∧ s.size ≤ 1000 ∧ Ex w w'
theorem Ok (A : Option Addr) (xs : List Int) (cap : Nat) (w : World) (hB : Vt w A xs) (hl : xs.length ≤ 9223372036854775807) (hcap : xs.length ≤ cap) (hcap2 : cap ≤ 9223372036854775807) :
  Calls Tryz.prog 6 #[.slice A xs.length cap] w (DrwS w) := by
 have KO := Oi (fun w hB => Ol A xs cap w hB hl hcap hcap2)
 go_enter Tryz.func6, Tryz.ntmps6
 go_wp2_with fail
 refine (KO.out _ hB).mono ?_
 rintro e u1 ⟨bs, cap2, rfl, hBs, hbl, hb, hE, -⟩
 clear KO hB
 go_wp2_with fail
 refine (Ro true hBs hbl w.heap.size cap2 0 u1 hE (Nat.le_refl _) hb (by omega)).mono ?_
 rintro e u2 ⟨s, a2, rfl, hs, ha2, hd, hb2⟩
 replace hE := hd.ex w hE (Nat.le_refl _)
 go_wp2
 go_ret
 exact ⟨s, rfl, by omega, hE⟩
theorem drawBenchMat (A : Option Addr) (xs : List Int) (cap : Nat) (w : World) (hB : Vt w A xs) (hl : xs.length ≤ 9223372036854775807) (hcap : xs.length ≤ cap) (hcap2 : cap ≤ 9223372036854775807) :
  Calls Tryz.prog 20 #[.slice A xs.length cap] w (DrwS w) := by
 have KO := Oi (fun w hB => Ol A xs cap w hB hl hcap hcap2)
 go_enter Tryz.func20, Tryz.ntmps20
 go_wp2_with fail
 refine (KO.out _ hB).mono ?_
 rintro e u1 ⟨bs, cap2, rfl, hBs, hbl, hb, hE, -⟩
 clear KO hB
 go_wp2_with fail
 refine (Ps hBs hbl w.heap.size cap2 0 6 _ hE (Nat.le_refl _) hb (by omega) (by omega) (by omega)).mono ?_
 rintro e u2 ⟨v1, rfl, hv1a, hv1b, hd, hb2⟩
 replace hE := hd.ex w hE (Nat.le_refl _)
 clear hd hb
 rcases h0 : (v1 == 0) with _ | _
 all_goals
  go_wp2_with fail
  refine (Ro _ hBs hbl w.heap.size cap2 1 u2 hE (Nat.le_refl _) hb2 (by omega)).mono ?_
  rintro e u3 ⟨s, a2, rfl, hs, ha2, hd, hb3⟩
  replace hE := hd.ex w hE (Nat.le_refl _)
  go_wp2
  go_ret
  exact ⟨s, rfl, by omega, hE⟩
end
end Go.Proofs.YtmjggolkopbcnaaGreatDoor
