/-
  Plain laws of glass: lengths.
-/
import Derived.Test.YtploaldfkfjibaaGlsP
namespace Go.Proofs.Ytploaldfkfjibaa

theorem gturn_len (r c : Int) (q : List Int) (hl : q.length ≤ 1048576) : (gturn r c q).q.length ≤ 1048576 := by
  unfold gturn
  rcases hv : gvalid r c q with _ | _
  · simp [GR.zero]
  · obtain ⟨rn, cn, rfl, rfl, hr1, hr2, hc1, hc2, hlen, hl64⟩ := gvalid_nat hv
    simp only [if_true, gturnQ, Int.toNat_natCast, gcols_len]
    rw [Nat.mul_comm, ← hlen]; exact hl
theorem gwrap_len (r c : Int) (q : List Int) (hl : q.length ≤ 1048576) : (gwrap r c q).q.length ≤ 1048576 := by
  unfold gwrap
  split
  · simpa using hl
  · simp [GR.zero]
theorem gmore_len (r c : Int) (q : List Int) (n : Int) (hl : q.length ≤ 1048576) : (gmore r c q n).q.length ≤ 1048576 := by
  unfold gmore
  split
  · simpa using hl
  · simp [GR.zero]
theorem gunwrap_len (r c : Int) (q : List Int) (hl : q.length ≤ 1048576) : (gunwrap r c q).q.length ≤ 1048576 := by
  unfold gunwrap
  split
  · split
    · rename_i ys h
      simpa [gunwrapTo_len h] using hl
    · simp [GR.zero]
  · simp [GR.zero]
end Go.Proofs.Ytploaldfkfjibaa
