/-
  Walks: what the laws compare by: sameInts, sameGlass.
-/
import Derived.Test.YtploaldfkfjibaaLib
namespace Go.Proofs.Ytploaldfkfjibaa
open Go.RowKit

set_option maxHeartbeats 400000 in
theorem sameInts_any (A B : Option Addr) (xs ys : List Int) (ca cb : Nat) (w : World) (hA : Ints w A xs) (hB : Ints w B ys)
    (hl : xs.length ≤ 1048576) (hl' : ys.length ≤ 1048576) :
    Calls Try.prog 53 #[.slice A xs.length ca, .slice B ys.length cb] w fun e w' => e = .returned (.bool (decide (xs = ys))) ∧ Ex w w' := by
  rcases hn : ((xs.length : Int) != ys.length) with _ | _
  case true =>
    go_enter Try.func53, Try.ntmps53
    go_wp2
    go_ret
    exact ⟨ret_bool (by symm; rw [decide_eq_false_iff_not]; rintro rfl; simp at hn), Ex.refl _⟩
  have hlen : xs.length = ys.length := by have : (xs.length : Int) = ys.length := by simpa using hn
                                          omega
  have HL := Lib.hid hlen
  clear hlen
  go_enter Try.func53, Try.ntmps53
  go_wp2
  clear hn
  go_loopw [5] (fun i wr => ∃ (k : Nat), k ≤ xs.length ∧ i = .int .i64 k ∧ (∀ j, j < k → ys[j]? = xs[j]?) ∧ Ex w wr) (fun i _ => xs.length - (intOf i).toNat)
  case atStart => exact ⟨0, by omega, rfl, fun j hj => by omega, Ex.refl _⟩
  case round =>
    obtain ⟨k, hk, rfl, hys, hb⟩ := hrel
    have HYS := Lib.hid hys
    clear hys
    by_cases hlt : k < xs.length
    · have hlt' : k < ys.length := by have := HL.out; omega
      obtain ⟨b, off, rfl, hc⟩ := (hA.ex hb).at (by omega)
      have hcell := hc k hlt
      obtain ⟨b', off', rfl, hc'⟩ := (hB.ex hb).at (by omega)
      have hcell' := hc' k hlt'
      clear hc hc'
      rcases ht : (xs[k] != ys[k]) with _ | _
      · go_wp2
        go_quiet (fail)
        go_wp2
        go_roundw
        case rel =>
          refine ⟨k + 1, by omega, by go_num, fun j hj => ?_, hb.drewN _⟩
          by_cases e : j = k
          · subst e
            have : xs[j] = ys[j] := by simpa using ht
            simp [hlt, hlt', this]
          · exact HYS.out j (by omega)
        case measure => simp [intOf]; omega
      · go_wp2
        go_quiet (fail)
        go_wp2
        go_ret
        refine ⟨ret_bool ?_, hb.drewN _⟩
        symm
        rw [decide_eq_false_iff_not]
        rintro rfl
        simp at ht
    · go_wp2
      go_ret
      refine ⟨ret_bool ?_, hb⟩
      symm
      rw [decide_eq_true_eq]
      have hlen := HL.out
      exact (List.ext_getElem? fun j => by
        by_cases hj : j < k
        · exact HYS.out j hj
        · rw [List.getElem?_eq_none (by omega), List.getElem?_eq_none (by omega)]).symm

set_option maxHeartbeats 400000 in
theorem sameGlass_any (r c r' c' : Int) (A B : Option Addr) (xs ys : List Int) (ca cb : Nat) (w : World) (hA : Ints w A xs) (hB : Ints w B ys)
    (hl : xs.length ≤ 1048576) (hl' : ys.length ≤ 1048576) :
    Calls Try.prog 28 #[.agg #[.int .i64 r, .int .i64 c, .slice A xs.length ca], .agg #[.int .i64 r', .int .i64 c', .slice B ys.length cb]] w
      fun e w' => e = .returned (.bool (decide (r = r' ∧ c = c' ∧ xs = ys))) ∧ Ex w w' := by
  have hb2 : ∀ o o', Ex w ((w.alloc o).alloc o') := fun o o' => ((Ex.refl _).alloc o).alloc o'
  rcases h1 : (r == r') with _ | _
  · go_enter Try.func28, Try.ntmps28
    go_wp2_with fail
    go_ret
    exact ⟨ret_bool (by symm; rw [decide_eq_false_iff_not]; rintro ⟨rfl, -⟩; simp at h1), hb2 _ _⟩
  rcases h2 : (c == c') with _ | _
  · go_enter Try.func28, Try.ntmps28
    go_wp2_with fail
    go_ret
    exact ⟨ret_bool (by symm; rw [decide_eq_false_iff_not]; rintro ⟨_, rfl, -⟩; simp at h2), hb2 _ _⟩
  go_enter Try.func28, Try.ntmps28
  go_wp2_with fail
  refine (sameInts_any A B xs ys ca cb _ ((hA.alloc _).alloc _) ((hB.alloc _).alloc _) hl hl').mono ?_
  rintro e w1 ⟨rfl, hb⟩
  go_wp2_with fail
  go_ret
  refine ⟨ret_bool ?_, (hb2 _ _).trans hb⟩
  simp only [beq_iff_eq] at h1 h2
  simp_all
theorem sameGlass_same (r c : Int) (A B : Option Addr) (xs : List Int) (ca cb : Nat) (w : World) (hA : Ints w A xs) (hB : Ints w B xs) (hl : xs.length ≤ 1048576) :
    Calls Try.prog 28 #[.agg #[.int .i64 r, .int .i64 c, .slice A xs.length ca], .agg #[.int .i64 r, .int .i64 c, .slice B xs.length cb]] w
      fun e w' => e = .returned (.bool true) ∧ Ex w w' := by
  refine (sameGlass_any r c r c A B xs xs ca cb w hA hB hl hl).mono ?_
  rintro e w1 ⟨rfl, hx⟩
  exact ⟨by simp, hx⟩
theorem sameInts_same (A B : Option Addr) (xs : List Int) (ca cb : Nat) (w : World) (hA : Ints w A xs) (hB : Ints w B xs) (hl : xs.length ≤ 1048576) :
    Calls Try.prog 53 #[.slice A xs.length ca, .slice B xs.length cb] w fun e w' => e = .returned (.bool true) ∧ Ex w w' := by
  refine (sameInts_any A B xs xs ca cb w hA hB hl hl).mono ?_
  rintro e w1 ⟨rfl, hx⟩
  exact ⟨by simp, hx⟩
end Go.Proofs.Ytploaldfkfjibaa
