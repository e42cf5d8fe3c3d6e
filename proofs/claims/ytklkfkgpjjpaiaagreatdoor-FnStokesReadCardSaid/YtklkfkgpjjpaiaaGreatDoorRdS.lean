/-
  Walks: the reference's reading of texts of fractions.
-/
import Derived.Test.YtklkfkgpjjpaiaaGreatDoorRdP
import Derived.Test.YtklkfkgpjjpaiaaGreatDoorTxtW
set_option linter.unusedSimpArgs false
set_option linter.unusedVariables false
namespace Go.Proofs.YtklkfkgpjjpaiaaGreatDoor
open Go.RowKit

theorem Bs_at {l : List UInt8} {S : ByteArray} (h : S = Bs l) {i : Nat} (hi : i < l.length) : ∃ hs : i < S.size, S[i]'hs = l[i] := by
  subst h
  exact ⟨hi, rfl⟩
theorem drop_at {l : List UInt8} {i : Nat} (hi : i < l.length) : l.drop i = l[i] :: l.drop (i + 1) := List.drop_eq_getElem_cons hi
theorem drop_end {l : List UInt8} {i : Nat} (hi : ¬ i < l.length) : l.drop i = [] := List.drop_eq_nil_of_le (by omega)

set_option maxRecDepth 10000 in
set_option maxHeartbeats 1000000 in
theorem l14Digits_any (l : List UInt8) (i0 : Nat) (hl : l.length ≤ 1048576) (hi0 : i0 ≤ 2097152) (w : World) :
    Calls Tryz.prog 40 #[.string (Bs l), .int .i64 i0] w fun e w' => e = .returned (.tuple #[.int .i64 ((dig (l.drop i0) 0).1 : Nat), .int .i64 (i0 + (dig (l.drop i0) 0).2 : Nat)]) ∧ Ex w w' := by
  obtain ⟨S, HS⟩ : ∃ S, Hid (S = Bs l) := ⟨_, Lib.hid rfl⟩
  rw [← HS.out]
  have hsz : S.size = l.length := by rw [HS.out]; rfl
  have HZ := Lib.hid hsz
  clear hsz
  go_enter Tryz.func40, Tryz.ntmps40
  go_wp2
  go_loopw [6, 1] (fun n i wr => ∃ (m j : Nat), n = .int .i64 m ∧ i = .int .i64 j ∧ m ≤ 20000000009 ∧ i0 ≤ j ∧ j ≤ 2097152 + 1048576 ∧ Hid (dig (l.drop i0) 0 = ((dig (l.drop j) m).1, (dig (l.drop j) m).2 + (j - i0))) ∧ Ex w wr) (fun _ i _ => 4000000 - (intOf i).toNat)
  case atStart => exact ⟨0, i0, rfl, rfl, by omega, by omega, by omega, Lib.hid (by simp), Ex.refl _⟩
  case round =>
    obtain ⟨m, j, rfl, rfl, hm, hij, hj, HD, hE⟩ := hrel
    by_cases hlt : j < l.length
    · obtain ⟨hs, hc⟩ := Bs_at HS.out hlt
      have hdr := drop_at hlt
      generalize l[j] = c at hc hdr
      have hlI : (j : Int) < (S.size : Int) := by rw [HZ.out]; omega
      by_cases h1 : 48 ≤ c.toNat
      · by_cases h2 : c.toNat ≤ 57
        · by_cases h3 : m ≤ 2000000000
          · have hnew : Hid (dig (l.drop i0) 0 = ((dig (l.drop (j + 1)) (10 * m + (c.toNat - 48))).1, (dig (l.drop (j + 1)) (10 * m + (c.toNat - 48))).2 + (j + 1 - i0))) := Lib.hid (by
              rw [HD.out, hdr, dig_take (by simp [isDig, h1, h2]) h3]
              simp only
              congr 1
              omega)
            obtain ⟨d, hd⟩ : ∃ d, d = c.toNat - 48 := ⟨_, rfl⟩
            rw [← hd] at hnew
            have hd9 : d ≤ 9 := by omega
            have h1i : (48 : Int) ≤ (c.toNat : Int) := by omega
            have h2i : (c.toNat : Int) ≤ 57 := by omega
            have h3i : (m : Int) ≤ 2000000000 := by omega
            have hw1 : IntKind.u8.wrap ((c.toNat : Int) - 48) = (d : Int) := by
              show ((c.toNat : Int) - 48) % 256 = _
              omega
            have hw2 : IntKind.i64.wrap (d : Int) = (d : Int) := IntWalk.i64_in _ (by omega)
            have hw3 : IntKind.i64.wrap (10 * (m : Int)) = 10 * (m : Int) := IntWalk.i64_in _ (by omega)
            have hw4 : IntKind.i64.wrap (10 * (m : Int) + (d : Int)) = 10 * (m : Int) + (d : Int) := IntWalk.i64_in _ (by omega)
            have hw5 : IntKind.i64.wrap ((j : Int) + 1) = (j : Int) + 1 := IntWalk.i64_in _ (by omega)
            have hj1 : j + 1 ≤ 2097152 + 1048576 := by omega
            clear h1 h2 hd hdr hlt
            go_wp2
            go_roundw
            case rel => exact ⟨10 * m + d, j + 1, by go_num, by go_num, by omega, by omega, by omega, hnew, hE⟩
            case measure => simp [intOf]; omega
          · have hfin : dig (l.drop i0) 0 = (m, j - i0) := by
              rw [HD.out, hdr, dig_stay (by rintro ⟨-, h⟩; exact h3 h)]
              simp
            have h1i : (48 : Int) ≤ (c.toNat : Int) := by omega
            have h2i : (c.toNat : Int) ≤ 57 := by omega
            have h3i : ¬ (m : Int) ≤ 2000000000 := by omega
            clear hdr
            go_wp2
            refine bodyPost_ret (v := .tuple #[.int .i64 m, .int .i64 j]) ?_ rfl ⟨?_, hE⟩
            · simp [results, Tryz.results40, go_sem]
            · rfl
        · have hfin : dig (l.drop i0) 0 = (m, j - i0) := by
            rw [HD.out, hdr, dig_stay (by rintro ⟨h, -⟩; simp [isDig] at h; exact h2 h.2)]
            simp
          have h1i : (48 : Int) ≤ (c.toNat : Int) := by omega
          have h2i : ¬ (c.toNat : Int) ≤ 57 := by omega
          clear hdr
          go_wp2
          refine bodyPost_ret (v := .tuple #[.int .i64 m, .int .i64 j]) ?_ rfl ⟨?_, hE⟩
          · simp [results, Tryz.results40, go_sem]
          · rfl
      · have hfin : dig (l.drop i0) 0 = (m, j - i0) := by
          rw [HD.out, hdr, dig_stay (by rintro ⟨h, -⟩; simp [isDig] at h; exact h1 h.1)]
          simp
        have h1i : ¬ (48 : Int) ≤ (c.toNat : Int) := by omega
        clear hdr
        go_wp2
        refine bodyPost_ret (v := .tuple #[.int .i64 m, .int .i64 j]) ?_ rfl ⟨?_, hE⟩
        · simp [results, Tryz.results40, go_sem]
        · rfl
    · have hfin : dig (l.drop i0) 0 = (m, j - i0) := by
        rw [HD.out, drop_end hlt, dig]
        simp
      have hlI : ¬ (j : Int) < (S.size : Int) := by rw [HZ.out]; omega
      go_wp2
      refine bodyPost_ret (v := .tuple #[.int .i64 m, .int .i64 j]) ?_ rfl ⟨?_, hE⟩
      · simp [results, Tryz.results40, go_sem]
      · rfl

set_option maxRecDepth 10000 in
set_option maxHeartbeats 1000000 in
theorem l14Part_any (l : List UInt8) (i0 : Nat) (hl : l.length ≤ 1048576) (hi0 : i0 ≤ 2000000) (w : World) :
    Calls Tryz.prog 39 #[.string (Bs l), .int .i64 i0] w fun e w' => e = .returned (.tuple #[.int .i64 (part l i0).1, .int .i64 ((part l i0).2 : Nat)]) ∧ Ex w w' := by
  have k := fun w => l14Digits_any l (i0 + 1) hl (by omega) w
  have hb := (dig_bounds (l.drop (i0 + 1)) 0 (by omega)).1
  unfold part
  generalize dig (l.drop (i0 + 1)) 0 = r at k hb ⊢
  obtain ⟨n, t⟩ := r
  simp only at k hb ⊢
  obtain ⟨S, HS⟩ : ∃ S, Hid (S = Bs l) := ⟨_, Lib.hid rfl⟩
  rw [← HS.out] at k ⊢
  have HZ : Hid (S.size = l.length) := Lib.hid (by rw [HS.out]; rfl)
  have hw1 : IntKind.i64.wrap ((i0 : Int) + 1) = ((i0 + 1 : Nat) : Int) := by
    rw [IntWalk.i64_in _ (by omega)]
    omega
  have K := Lib.hid k
  clear k
  by_cases hlt : i0 < l.length
  · obtain ⟨hs, hc⟩ := Bs_at HS.out hlt
    have he : l[i0]? = some l[i0] := List.getElem?_eq_getElem hlt
    rw [he]
    generalize l[i0] = c at hc ⊢
    have hlI : (i0 : Int) < (S.size : Int) := by rw [HZ.out]; omega
    by_cases h : c = 45
    · have h1 : ((c.toNat : Int) == 45) = true := by rw [h]; rfl
      have h2 : (c.toNat : Int) = 45 := by rw [h]; rfl
      have hw3 : IntKind.i64.wrap (-1 * (n : Int)) = -1 * (n : Int) := IntWalk.i64_in _ (by omega)
      have hw4 : IntKind.i64.wrap (-(n : Int)) = -1 * (n : Int) := by rw [IntWalk.i64_in _ (by omega)]; omega
      rw [if_pos (by rw [h])]
      clear he
      go_enter Tryz.func39, Tryz.ntmps39
      go_wp2_with fail
      refine (K.out _).mono ?_
      rintro e w1 ⟨rfl, hx⟩
      go_wp2
      refine bodyPost_ret (v := .tuple #[.int .i64 (-1 * (n : Int)), .int .i64 (i0 + 1 + t : Nat)]) ?_ rfl ⟨rfl, hx⟩
      simp [results, Tryz.results39, go_sem]
    · have h2 : ¬ (c.toNat : Int) = 45 := fun e => h (UInt8.toNat_inj.1 (by show c.toNat = 45; omega))
      have h1 : ((c.toNat : Int) == 45) = false := by simpa using h2
      have hw3 : IntKind.i64.wrap (n : Int) = (n : Int) := IntWalk.i64_in _ (by omega)
      have hw4 : IntKind.i64.wrap (1 * (n : Int)) = 1 * (n : Int) := IntWalk.i64_in _ (by omega)
      rw [if_neg (by simpa using h)]
      clear he
      go_enter Tryz.func39, Tryz.ntmps39
      go_wp2_with fail
      refine (K.out _).mono ?_
      rintro e w1 ⟨rfl, hx⟩
      go_wp2
      refine bodyPost_ret (v := .tuple #[.int .i64 (1 * (n : Int)), .int .i64 (i0 + 1 + t : Nat)]) ?_ rfl ⟨rfl, hx⟩
      simp [results, Tryz.results39, go_sem]
  · have he : l[i0]? = none := List.getElem?_eq_none (by omega)
    rw [he]
    have hlI : ¬ (i0 : Int) < (S.size : Int) := by rw [HZ.out]; omega
    have hw3 : IntKind.i64.wrap (n : Int) = (n : Int) := IntWalk.i64_in _ (by omega)
    have hw4 : IntKind.i64.wrap (1 * (n : Int)) = 1 * (n : Int) := IntWalk.i64_in _ (by omega)
    rw [if_neg (by simp)]
    clear he
    go_enter Tryz.func39, Tryz.ntmps39
    go_wp2_with fail
    refine (K.out _).mono ?_
    rintro e w1 ⟨rfl, hx⟩
    go_wp2
    refine bodyPost_ret (v := .tuple #[.int .i64 (1 * (n : Int)), .int .i64 (i0 + 1 + t : Nat)]) ?_ rfl ⟨rfl, hx⟩
    simp [results, Tryz.results39, go_sem]
end Go.Proofs.YtklkfkgpjjpaiaaGreatDoor
