/-
  Walks: the program's and the reference's GlassValid, and the tests of ranges.
-/
import Derived.Test.YtmmjkchjgeklnaaDoorLib
import Derived.Test.YtmmjkchjgeklnaaDoorGlsP
namespace Go.Proofs.YtmmjkchjgeklnaaDoor
open Go.RowKit

theorem within_any (n a b : Int) (w : World) :
    Calls Tryd.prog 47 #[.int .i64 n, .int .i64 a, .int .i64 b] w fun e w' => e = .returned (.bool (inB n a b)) ∧ w = w' := by
  go_enter Tryd.func47, Tryd.ntmps47
  go_wp2
  all_goals go_ret
  all_goals exact ⟨ret_bool (by simp [inB] <;> omega), rfl⟩

theorem l6In_any (n a b : Int) (w : World) :
    Calls Tryd.prog 36 #[.int .i64 n, .int .i64 a, .int .i64 b] w fun e w' => e = .returned (.bool (inB n a b)) ∧ w = w' := by
  go_enter Tryd.func36, Tryd.ntmps36
  go_wp2
  all_goals go_ret
  all_goals exact ⟨ret_bool (by simp [inB] <;> omega), rfl⟩


set_option maxHeartbeats 400000 in
theorem iGlassValid (r c : Int) (A : Option Addr) (q : List Int) (cap : Nat) (w : World) (hI : Ints w A q) (hl : q.length ≤ 1048576) :
    Calls Tryd.prog 24 #[.agg #[.int .i64 r, .int .i64 c, .slice A q.length cap]] w fun e w' =>
      e = .returned (.bool (gvalid r c q)) ∧ Ex w w' := by
  rcases hr : inB r 1 8 with _ | _
  · go_enter Tryd.func24, Tryd.ntmps24
    go_wp2_with (go_at_call 47; refine (within_any _ _ _ _).mono ?_; rintro e w' ⟨rfl, rfl⟩)
    go_ret
    exact ⟨ret_bool (by simp [gvalid, hr]), (Ex.refl _).alloc _⟩
  rcases hc : inB c 1 8 with _ | _
  · go_enter Tryd.func24, Tryd.ntmps24
    go_wp2_with (go_at_call 47; refine (within_any _ _ _ _).mono ?_; rintro e w' ⟨rfl, rfl⟩)
    go_ret
    exact ⟨ret_bool (by simp [gvalid, hc]), (Ex.refl _).alloc _⟩
  have h1 := inB_out hr; have h2 := inB_out hc
  have hm := mul88 h1.1 h1.2 h2.1 h2.2
  have hw := IntWalk.wrap64_in (r * c) ⟨by omega, by omega⟩
  clear h1 h2
  rcases hn : ((q.length : Int) != r * c) with _ | _
  case true =>
    go_enter Tryd.func24, Tryd.ntmps24
    go_wp2_with (go_at_call 47; refine (within_any _ _ _ _).mono ?_; rintro e w' ⟨rfl, rfl⟩)
    go_ret
    refine ⟨ret_bool ?_, (Ex.refl _).alloc _⟩
    have hn' : ¬ ((q.length : Int) = r * c) := by simpa using hn
    simp [gvalid, hn']
  have hg : ∀ b, q.all (fun n => inB n (-1000) 1000) = b → gvalid r c q = b := fun b hb => by
    have hn' : (q.length : Int) = r * c := by simpa using hn
    simp [gvalid, hn', hb, hr, hc]
  have HG := Lib.hid hg
  clear hg
  go_enter Tryd.func24, Tryd.ntmps24
  go_wp2_with (go_at_call 47; refine (within_any _ _ _ _).mono ?_; rintro e w' ⟨rfl, rfl⟩)
  clear hn hw hr hc
  go_loop [29, 4] (fun i v => ∃ k : Nat, k ≤ q.length ∧ i = .int .i64 k ∧ (q.take k).all (fun n => inB n (-1000) 1000) = true) (fun i _ => q.length - (intOf i).toNat)
  case atStart => exact ⟨0, by omega, rfl, by simp⟩
  case round =>
    obtain ⟨k, hk, rfl, ha⟩ := hrel
    have HA := Lib.hid ha
    clear ha
    by_cases hlt : k < q.length
    · obtain ⟨b, off, rfl, hc⟩ := hI.at (by omega)
      have hcell := hc k hlt
      replace hcell := ((Ex.refl _).alloc (.cells #[.int .i64 r, .int .i64 c, .slice (some ⟨b, off, none⟩) q.length cap] 29)).get hcell
      clear hc
      go_wp2_with (go_at_call 47; refine (within_any _ _ _ _).mono ?_; rintro e w' ⟨rfl, rfl⟩)
      · have hf : (!inB q[k] (-1000) 1000) = true := by assumption
        go_ret
        refine ⟨ret_bool ?_, (Ex.refl _).alloc _⟩
        rw [HG.out false (all_false_of _ q k hlt (by simpa [List.getElem?_eq_getElem hlt] using hf))]
      · have hf : (!inB q[k] (-1000) 1000) = false := by assumption
        go_round
        case rel => exact ⟨k + 1, by omega, by go_num, by rw [all_take_succ _ q k hlt, HA.out]; simpa [List.getElem?_eq_getElem hlt] using hf⟩
        case measure => simp [intOf]; omega
    · go_wp2
      go_ret
      refine ⟨ret_bool ?_, (Ex.refl _).alloc _⟩
      have hall := HA.out
      rw [List.take_of_length_le (by omega)] at hall
      rw [HG.out true hall]
set_option maxHeartbeats 400000 in
theorem sGlassValid (r c : Int) (A : Option Addr) (q : List Int) (cap : Nat) (w : World) (hI : Ints w A q) (hl : q.length ≤ 1048576) :
    Calls Tryd.prog 19 #[.agg #[.int .i64 r, .int .i64 c, .slice A q.length cap]] w fun e w' =>
      e = .returned (.bool (gvalid r c q)) ∧ Ex w w' := by
  rcases hr : inB r 1 8 with _ | _
  · go_enter Tryd.func19, Tryd.ntmps19
    go_wp2_with (go_at_call 36; refine (l6In_any _ _ _ _).mono ?_; rintro e w' ⟨rfl, rfl⟩)
    go_ret
    exact ⟨ret_bool (by simp [gvalid, hr]), (Ex.refl _).alloc _⟩
  rcases hc : inB c 1 8 with _ | _
  · go_enter Tryd.func19, Tryd.ntmps19
    go_wp2_with (go_at_call 36; refine (l6In_any _ _ _ _).mono ?_; rintro e w' ⟨rfl, rfl⟩)
    go_ret
    exact ⟨ret_bool (by simp [gvalid, hc]), (Ex.refl _).alloc _⟩
  have h1 := inB_out hr; have h2 := inB_out hc
  have hm := mul88 h1.1 h1.2 h2.1 h2.2
  have hw := IntWalk.wrap64_in (r * c) ⟨by omega, by omega⟩
  clear h1 h2
  rcases hn : ((q.length : Int) != r * c) with _ | _
  case true =>
    go_enter Tryd.func19, Tryd.ntmps19
    go_wp2_with (go_at_call 36; refine (l6In_any _ _ _ _).mono ?_; rintro e w' ⟨rfl, rfl⟩)
    go_ret
    refine ⟨ret_bool ?_, (Ex.refl _).alloc _⟩
    have hn' : ¬ ((q.length : Int) = r * c) := by simpa using hn
    simp [gvalid, hn']
  have hg : ∀ b, q.all (fun n => inB n (-1000) 1000) = b → gvalid r c q = b := fun b hb => by
    have hn' : (q.length : Int) = r * c := by simpa using hn
    simp [gvalid, hn', hb, hr, hc]
  have HG := Lib.hid hg
  clear hg
  go_enter Tryd.func19, Tryd.ntmps19
  go_wp2_with (go_at_call 36; refine (l6In_any _ _ _ _).mono ?_; rintro e w' ⟨rfl, rfl⟩)
  clear hn hw hr hc
  go_loop [3] (fun i => ∃ k : Nat, k ≤ q.length ∧ i = .int .i64 k ∧ (q.take k).all (fun n => inB n (-1000) 1000) = true) (fun i => q.length - (intOf i).toNat)
  case atStart => exact ⟨0, by omega, rfl, by simp⟩
  case round =>
    obtain ⟨k, hk, rfl, ha⟩ := hrel
    have HA := Lib.hid ha
    clear ha
    by_cases hlt : k < q.length
    · obtain ⟨b, off, rfl, hc⟩ := hI.at (by omega)
      have hcell := hc k hlt
      replace hcell := ((Ex.refl _).alloc (.cells #[.int .i64 r, .int .i64 c, .slice (some ⟨b, off, none⟩) q.length cap] 29)).get hcell
      clear hc
      go_wp2_with (go_at_call 36; refine (l6In_any _ _ _ _).mono ?_; rintro e w' ⟨rfl, rfl⟩)
      · have hf : (!inB q[k] (-1000) 1000) = true := by assumption
        go_ret
        refine ⟨ret_bool ?_, (Ex.refl _).alloc _⟩
        rw [HG.out false (all_false_of _ q k hlt (by simpa [List.getElem?_eq_getElem hlt] using hf))]
      · have hf : (!inB q[k] (-1000) 1000) = false := by assumption
        go_round
        case rel => exact ⟨k + 1, by omega, by go_num, by rw [all_take_succ _ q k hlt, HA.out]; simpa [List.getElem?_eq_getElem hlt] using hf⟩
        case measure => simp [intOf]; omega
    · go_wp2
      go_ret
      refine ⟨ret_bool ?_, (Ex.refl _).alloc _⟩
      have hall := HA.out
      rw [List.take_of_length_le (by omega)] at hall
      rw [HG.out true hall]
end Go.Proofs.YtmmjkchjgeklnaaDoor
