/-
  Walks: GlassUnwrap, the program's and the reference's.
-/
import Derived.Test.YtploaldfkfjibaaGlsW
namespace Go.Proofs.Ytploaldfkfjibaa
open Go.RowKit

theorem short_any (a b : Int) (w : World) (h1 : -100000 ≤ a) (h2 : a ≤ 100000) (h3 : -100000 ≤ b) (h4 : b ≤ 100000) :
    Calls Try.prog 68 #[.int .i64 a, .int .i64 b] w fun e w' => e = .returned (.int .i64 (gshort a b)) ∧ w = w' := by
  by_cases h : (b - a) % 4 = 3
  · have h' : ((b - a) % 4 == 3) = true := by simpa using h
    have e : gshort a b = -1 := if_pos h
    have E := Lib.hid e
    clear e h
    go_enter Try.func68, Try.ntmps68
    go_wp2_with (go_at_call 65; refine (rest_any _ _).mono ?_; rintro e w' ⟨rfl, rfl⟩)
    go_ret
    exact ⟨ret_int E.out.symm, rfl⟩
  · have h' : ((b - a) % 4 == 3) = false := by simpa using h
    have e : gshort a b = (b - a) % 4 := if_neg h
    have E := Lib.hid e
    clear e h
    go_enter Try.func68, Try.ntmps68
    go_wp2_with (go_at_call 65; refine (rest_any _ _).mono ?_; rintro e w' ⟨rfl, rfl⟩)
    go_ret
    exact ⟨ret_int E.out.symm, rfl⟩
theorem step_any (a b : Int) (w : World) (h1 : -100000 ≤ a) (h2 : a ≤ 100000) (h3 : -100000 ≤ b) (h4 : b ≤ 100000) :
    Calls Try.prog 71 #[.int .i64 a, .int .i64 b] w fun e w' => e = .returned (.int .i64 (gshort a b)) ∧ w = w' := by
  by_cases h : (b - a) % 4 = 3
  · have h' : ((b - a) % 4 == 3) = true := by simpa using h
    have e : gshort a b = -1 := if_pos h
    have E := Lib.hid e
    clear e h
    go_enter Try.func71, Try.ntmps71
    go_wp2_with (go_at_call 66; refine (mod_any _ _).mono ?_; rintro e w' ⟨rfl, rfl⟩)
    go_ret
    exact ⟨ret_int E.out.symm, rfl⟩
  · have h' : ((b - a) % 4 == 3) = false := by simpa using h
    have e : gshort a b = (b - a) % 4 := if_neg h
    have E := Lib.hid e
    clear e h
    go_enter Try.func71, Try.ntmps71
    go_wp2_with (go_at_call 66; refine (mod_any _ _).mono ?_; rintro e w' ⟨rfl, rfl⟩)
    go_ret
    exact ⟨ret_int E.out.symm, rfl⟩

set_option maxHeartbeats 400000 in
theorem wrapped_any (r c : Int) (A : Option Addr) (q : List Int) (cap : Nat) (w : World) (hI : Ints w A q) (hl : q.length ≤ 1048576) :
    Calls Try.prog 67 #[.agg #[.int .i64 r, .int .i64 c, .slice A q.length cap]] w fun e w' => e = .returned (.bool (gwrapped r c q)) ∧ Ex w w' := by
  have hg : ∀ b, q.all (fun n => inB n 0 3) = b → gwrapped r c q = (gvalid r c q && b) := fun b hb => by simp [gwrapped, hb]
  have HG := Lib.hid hg
  clear hg
  go_enter Try.func67, Try.ntmps67
  go_wp2_with fail
  have b1 := Box.new w #[.int .i64 r, .int .i64 c, .slice A q.length cap] 27
  have hE := (Ex.refl w).alloc (.cells #[.int .i64 r, .int .i64 c, .slice A q.length cap] 27)
  go_loop [8] (fun i => ∃ k : Nat, k ≤ q.length ∧ i = .int .i64 k ∧ (q.take k).all (fun n => inB n 0 3) = true) (fun i => q.length - (intOf i).toNat)
  case atStart => exact ⟨0, by omega, rfl, by simp⟩
  case round =>
    obtain ⟨k, hk, rfl, ha⟩ := hrel
    have HA := Lib.hid ha
    clear ha
    by_cases hlt : k < q.length
    · obtain ⟨b, off, rfl, hc⟩ := (hI.ex hE).at (by omega)
      have hcell := hc k hlt
      clear hc
      go_wp2_with (go_at_call 57; refine (within_any _ _ _ _).mono ?_; rintro e w' ⟨rfl, rfl⟩)
      · have hf : (!inB q[k] 0 3) = true := by assumption
        go_ret
        refine ⟨ret_bool ?_, hE⟩
        rw [HG.out false (all_false_of _ q k hlt (by simpa [List.getElem?_eq_getElem hlt] using hf))]
        simp
      · have hf : (!inB q[k] 0 3) = false := by assumption
        go_round
        case rel => exact ⟨k + 1, by omega, by go_num, by rw [all_take_succ _ q k hlt, HA.out]; simpa [List.getElem?_eq_getElem hlt] using hf⟩
        case measure => simp [intOf]; omega
    · have c1 := b1.cell
      go_wp2_with (go_at_call 23; refine (iGlassValid _ _ _ _ _ _ (hI.ex hE) hl).mono ?_; rintro e w1 ⟨rfl, hx⟩)
      go_ret
      have hall := HA.out
      rw [List.take_of_length_le (by omega)] at hall
      exact ⟨ret_bool (by rw [HG.out true hall]; simp), hE.trans hx⟩

set_option maxHeartbeats 400000 in
theorem l13Wrapped_any (r c : Int) (A : Option Addr) (q : List Int) (cap : Nat) (w : World) (hI : Ints w A q) (hl : q.length ≤ 1048576) :
    Calls Try.prog 69 #[.agg #[.int .i64 r, .int .i64 c, .slice A q.length cap]] w fun e w' => e = .returned (.bool (gwrapped r c q)) ∧ Ex w w' := by
  rcases hv : gvalid r c q with _ | _
  · go_enter Try.func69, Try.ntmps69
    go_wp2_with (go_at_call 21; refine (sGlassValid _ _ _ _ _ _ (hI.alloc _) hl).mono ?_; rintro e w1 ⟨rfl, hx⟩)
    go_ret
    exact ⟨ret_bool (by simp [gwrapped, hv]), ((Ex.refl w).alloc _).trans hx⟩
  have hg : ∀ b, q.all (fun n => inB n 0 3) = b → gwrapped r c q = b := fun b hb => by simp [gwrapped, hb, hv]
  have HG := Lib.hid hg
  clear hg
  go_enter Try.func69, Try.ntmps69
  go_wp2_with fail
  refine (sGlassValid _ _ _ _ _ _ (hI.alloc _) hl).mono ?_
  rintro e w1 ⟨rfl, hx⟩
  have b1 := (Box.new _ _ _).ex hx
  have hE := ((Ex.refl w).alloc _).trans hx
  go_wp2_with fail
  clear hv hx
  go_loop [3] (fun i => ∃ k : Nat, k ≤ q.length ∧ i = .int .i64 k ∧ (q.take k).all (fun n => inB n 0 3) = true) (fun i => q.length - (intOf i).toNat)
  case atStart => exact ⟨0, by omega, rfl, by simp⟩
  case round =>
    obtain ⟨k, hk, rfl, ha⟩ := hrel
    have HA := Lib.hid ha
    clear ha
    have c1 := b1.cell
    by_cases hlt : k < q.length
    · obtain ⟨b, off, rfl, hc⟩ := (hI.ex hE).at (by omega)
      have hcell := hc k hlt
      clear hc
      go_wp2_with (go_at_call 55; refine (l6In_any _ _ _ _).mono ?_; rintro e w' ⟨rfl, rfl⟩)
      · have hf : (!inB q[k] 0 3) = true := by assumption
        go_ret
        refine ⟨ret_bool ?_, hE⟩
        rw [HG.out false (all_false_of _ q k hlt (by simpa [List.getElem?_eq_getElem hlt] using hf))]
      · have hf : (!inB q[k] 0 3) = false := by assumption
        go_round
        case rel => exact ⟨k + 1, by omega, by go_num, by rw [all_take_succ _ q k hlt, HA.out]; simpa [List.getElem?_eq_getElem hlt] using hf⟩
        case measure => simp [intOf]; omega
    · go_wp2
      go_ret
      have hall := HA.out
      rw [List.take_of_length_le (by omega)] at hall
      exact ⟨ret_bool (by rw [HG.out true hall]), hE⟩
end Go.Proofs.Ytploaldfkfjibaa
