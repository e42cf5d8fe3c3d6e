/-
  Plain laws of glass: residues of smooth glass.
-/
import Derived.Test.YtploaldfkfjibaaGlsRs
import Derived.Test.YtploaldfkfjibaaGlsN
namespace Go.Proofs.Ytploaldfkfjibaa

theorem tdiv4_one {n : Int} (h1 : -4 ≤ n) (h2 : n ≤ 4) : -1 ≤ n.tdiv 4 ∧ n.tdiv 4 ≤ 1 := by
  by_cases h : 0 ≤ n
  · rw [Int.tdiv_eq_ediv_of_nonneg h]; omega
  · have : n = -1 ∨ n = -2 ∨ n = -3 ∨ n = -4 := by omega
    rcases this with rfl | rfl | rfl | rfl <;> decide
theorem gres_bd (a b c d : Int) : gres a b c d = 9 ∨ -1 ≤ gres a b c d ∧ gres a b c d ≤ 1 := by
  unfold gres gresOf
  have h1 := gshort_bd a b; have h2 := gshort_bd b c; have h3 := gshort_bd c d; have h4 := gshort_bd d a
  split
  · exact .inl rfl
  · rename_i h
    exact .inr (tdiv4_one (by omega) (by omega))
theorem gres_smooth {a b c d : Int} (h1 : -1 ≤ b - a ∧ b - a ≤ 1) (h2 : -1 ≤ c - b ∧ c - b ≤ 1) (h3 : -1 ≤ d - c ∧ d - c ≤ 1) (h4 : -1 ≤ a - d ∧ a - d ≤ 1) : gres (a % 4) (b % 4) (c % 4) (d % 4) = 0 := by
  unfold gres gresOf
  rw [gshort_mod4 h1.1 h1.2, gshort_mod4 h2.1 h2.2, gshort_mod4 h3.1 h3.2, gshort_mod4 h4.1 h4.2, if_neg (by omega)]
  rw [show b - a + (c - b) + (d - c) + (a - d) = 0 by omega]
  rfl
theorem gresRows_mem {c : Nat} {q : List Int} {i : Nat} {n : Int} (h : n ∈ gresRows c q i) : ∃ j k, j < i ∧ k < c - 1 ∧ n = gresAt c q j k := by
  unfold gresRows at h
  obtain ⟨j, hj, hn⟩ := List.mem_flatMap.1 h
  unfold gresRow at hn
  obtain ⟨k, hk, rfl⟩ := List.mem_map.1 hn
  exact ⟨j, k, List.mem_range.1 hj, List.mem_range.1 hk, rfl⟩
theorem gresidues_bd {r c : Int} {q : List Int} : ∀ n ∈ gresidues r c q, n = 9 ∨ -1 ≤ n ∧ n ≤ 1 := by
  intro n hn
  unfold gresidues at hn
  split at hn
  · obtain ⟨j, k, -, -, rfl⟩ := gresRows_mem hn
    exact gres_bd _ _ _ _
  · simp at hn
/-- Residues of glass that unwraps smoothly are zero. -/
theorem gresidues_smooth {r c : Int} {q : List Int} (h : (gunwrap r c q).ok = true) (hs : gsmooth (gunwrap r c q).r (gunwrap r c q).c (gunwrap r c q).q = true) : ∀ n ∈ gresidues r c q, n = 0 := by
  obtain ⟨ys, e1, e2, e3, e4, -, hv, hv2⟩ := gunwrap_back h
  rw [e1] at hs
  obtain ⟨-, hle⟩ := gsmooth_out hs
  obtain ⟨rn, cn, rfl, rfl, h1, h2, h3, h4, h5, h6⟩ := gvalid_nat hv2
  have eq : q = ys.map (· % (4 : Int)) := by
    rw [gwrap, if_pos hv2] at e4
    injection e4 with _ _ _ e
    exact e.symm
  obtain ⟨-, hh, hw⟩ := (gsteep_le h3 h5 1).1 hle
  intro n hn
  unfold gresidues at hn
  split at hn
  · obtain ⟨j, k, hj, hk, rfl⟩ := gresRows_mem hn
    rw [Int.toNat_natCast] at hj hk
    rw [Int.toNat_natCast]
    have a1 := gabs_out (hh j k (by omega) (by omega))
    have a2 := gabs_out (hh (j + 1) k (by omega) (by omega))
    have a3 := gabs_out (hw j k (by omega) (by omega))
    have a4 := gabs_out (hw j (k + 1) (by omega) (by omega))
    have b1 := idx_lt (show j < rn by omega) (show k < cn by omega)
    have b2 := idx_lt (show j < rn by omega) (show k + 1 < cn by omega)
    have b3 := idx_lt (show j + 1 < rn by omega) (show k + 1 < cn by omega)
    have b4 := idx_lt (show j + 1 < rn by omega) (show k < cn by omega)
    rw [Nat.succ_mul] at b3 b4 a2 a3 a4
    rw [← h5] at b1 b2 b3 b4
    unfold gresAt
    rw [eq, map_getD _ _ b1, map_getD _ _ (by omega), map_getD _ _ (by omega), map_getD _ _ (by omega)]
    rw [show j * cn + (k + 1) = j * cn + k + 1 by omega] at a1 a4
    rw [show j * cn + cn + (k + 1) = j * cn + k + 1 + cn by omega, show j * cn + cn + k = j * cn + k + cn by omega] at a2
    rw [show j * cn + cn + k = j * cn + k + cn by omega] at a3
    rw [show j * cn + cn + (k + 1) = j * cn + k + 1 + cn by omega] at a4
    exact gres_smooth (by omega) (by omega) (by omega) (by omega)
  · simp at hn
theorem gresidues_len2 (r c : Int) (q : List Int) : (gresidues r c q).length ≤ 1048576 := by
  unfold gresidues
  split
  · rename_i h
    obtain ⟨rn, cn, rfl, rfl, h1, h2, h3, h4, -, -⟩ := gvalid_nat (gwrapped_valid h)
    rw [Int.toNat_natCast, Int.toNat_natCast, gresRows_len]
    have := Nat.mul_le_mul (show rn - 1 ≤ 8 by omega) (show cn - 1 ≤ 8 by omega)
    omega
  · simp
theorem gresidues_size {r c : Int} {q : List Int} (h : gwrapped r c q = true) : ∃ rn cn : Nat, r = rn ∧ c = cn ∧ 1 ≤ rn ∧ rn ≤ 8 ∧ 1 ≤ cn ∧ cn ≤ 8 ∧ (gresidues r c q).length = (rn - 1) * (cn - 1) := by
  obtain ⟨rn, cn, rfl, rfl, h1, h2, h3, h4, -, -⟩ := gvalid_nat (gwrapped_valid h)
  refine ⟨rn, cn, rfl, rfl, h1, h2, h3, h4, ?_⟩
  unfold gresidues
  rw [if_pos h, Int.toNat_natCast, Int.toNat_natCast, gresRows_len]
end Go.Proofs.Ytploaldfkfjibaa
