/-
  The walk of the law FnExactFracRead.
-/
import Derived.Test.YtklkfkgpjjpaiaaDoorLawR
set_option linter.unusedSimpArgs false
set_option linter.unusedVariables false
namespace Go.Proofs.YtklkfkgpjjpaiaaDoor
open Go.RowKit

set_option maxRecDepth 10000 in
set_option maxHeartbeats 1000000 in
theorem law_FnExactFracRead (v0 : Value) (w : World) (h0 : IsStr w v0) (hm : Mem w) : Calls Tryd.prog 6 #[v0] w fun e w' => e = .returned (.bool true) ∧ Ex w w' := by
  obtain ⟨s, rfl, hs⟩ := h0
  by_cases hl : s.size ≤ 1048576
  · have ki := fun w hm => iFracRead s.data.toList (by rw [bs_len]; exact hl) w hm
    have ks := fun w => sFracRead s.data.toList (by rw [bs_len]; exact hl) w
    rw [← bs_of] at ki ks
    have hlI : ¬ (1048576 : Int) < (s.size : Int) := by omega
    generalize rd s.data.toList = R at ki ks
    obtain ⟨⟨a1, a2, a3⟩, ok⟩ := R
    have KI : Hid (∀ w, Mem w → Calls Tryd.prog 16 #[.string s] w fun e w' => e = .returned (.tuple #[.agg #[.int .i64 a1, .int .i64 a2, .int .i64 a3], .bool ok]) ∧ Ex w w') := ki
    have KS : Hid (∀ w, Calls Tryd.prog 17 #[.string s] w fun e w' => e = .returned (.tuple #[.agg #[.int .i64 a1, .int .i64 a2, .int .i64 a3], .bool ok]) ∧ Ex w w') := ks
    have HM := Lib.hid hm
    clear ki ks hm
    go_enter Tryd.func6, Tryd.ntmps6
    go_wp2_with fail
    refine (KS.out _).mono ?_
    rintro e w1 ⟨rfl, hx⟩
    go_wp2_with fail
    have bA := Box.new w1 #[.int .i64 a1, .int .i64 a2, .int .i64 a3] 26
    have hE := hx.alloc (.cells #[.int .i64 a1, .int .i64 a2, .int .i64 a3] 26)
    refine (KI.out _ (HM.out.ex hE)).mono ?_
    rintro e w2 ⟨rfl, hx2⟩
    replace hE := hE.trans hx2
    replace bA := bA.ex hx2
    have cA := bA.cell
    have zA := bA.lt
    clear hx hx2
    go_wp2_with fail
    refine (eqFrac_same a1 a2 a3 _).mono ?_
    rintro e w3 ⟨rfl, hx⟩
    replace hE := (hE.alloc _).trans hx
    go_wp2
    go_ret
    exact ⟨rfl, hE⟩
  · have hlI : (1048576 : Int) < (s.size : Int) := by omega
    go_enter Tryd.func6, Tryd.ntmps6
    go_wp2
    go_ret
    exact ⟨rfl, Ex.refl _⟩
end Go.Proofs.YtklkfkgpjjpaiaaDoor
