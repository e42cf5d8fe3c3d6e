/-
  The walk of the law FnExactStokesRead.
-/
import Derived.Test.YtklkfkgpjjpaiaaDoorLawE
import Derived.Test.YtklkfkgpjjpaiaaDoorSrI
import Derived.Test.YtklkfkgpjjpaiaaDoorSrS
set_option linter.unusedSimpArgs false
set_option linter.unusedVariables false
namespace Go.Proofs.YtklkfkgpjjpaiaaDoor
open Go.RowKit

set_option maxRecDepth 10000 in
set_option maxHeartbeats 1000000 in
theorem law_FnExactStokesRead (v0 : Value) (w : World) (h0 : IsStr w v0) (hm : Mem w) : Calls Tryd.prog 8 #[v0] w fun e w' => e = .returned (.bool true) ∧ Ex w w' := by
  obtain ⟨s, rfl, hs⟩ := h0
  by_cases hl : s.size ≤ 1048576
  · have ki := fun w hm => iStokesRead s.data.toList (by rw [bs_len]; exact hl) w hm
    have ks := fun w => sStokesRead s.data.toList (by rw [bs_len]; exact hl) w
    rw [← bs_of] at ki ks
    have hlI : ¬ (1048576 : Int) < (s.size : Int) := by omega
    generalize skr s.data.toList = R at ki ks
    obtain ⟨⟨a, b, c, d⟩, ok⟩ := R
    have KI : Hid (∀ w, Mem w → Calls Tryd.prog 21 #[.string s] w fun e w' => e = .returned (.tuple #[.agg #[.int .i64 a.re, .int .i64 a.im, .int .i64 a.den, .int .i64 b.re, .int .i64 b.im, .int .i64 b.den, .int .i64 c.re, .int .i64 c.im, .int .i64 c.den, .int .i64 d.re, .int .i64 d.im, .int .i64 d.den], .bool ok]) ∧ Ex w w') := ki
    have KS : Hid (∀ w, Calls Tryd.prog 20 #[.string s] w fun e w' => e = .returned (.tuple #[.agg #[.int .i64 a.re, .int .i64 a.im, .int .i64 a.den, .int .i64 b.re, .int .i64 b.im, .int .i64 b.den, .int .i64 c.re, .int .i64 c.im, .int .i64 c.den, .int .i64 d.re, .int .i64 d.im, .int .i64 d.den], .bool ok]) ∧ Ex w w') := ks
    have HM := Lib.hid hm
    clear ki ks hm
    go_enter Tryd.func8, Tryd.ntmps8
    go_wp2_with fail
    refine (KS.out _).mono ?_
    rintro e w1 ⟨rfl, hx⟩
    go_wp2_with fail
    have bA := Box.new w1 #[.int .i64 a.re, .int .i64 a.im, .int .i64 a.den, .int .i64 b.re, .int .i64 b.im, .int .i64 b.den, .int .i64 c.re, .int .i64 c.im, .int .i64 c.den, .int .i64 d.re, .int .i64 d.im, .int .i64 d.den] 35
    have hE := hx.alloc (.cells #[.int .i64 a.re, .int .i64 a.im, .int .i64 a.den, .int .i64 b.re, .int .i64 b.im, .int .i64 b.den, .int .i64 c.re, .int .i64 c.im, .int .i64 c.den, .int .i64 d.re, .int .i64 d.im, .int .i64 d.den] 35)
    refine (KI.out _ (HM.out.ex hE)).mono ?_
    rintro e w2 ⟨rfl, hx2⟩
    replace hE := hE.trans hx2
    replace bA := bA.ex hx2
    have cA := bA.cell
    have zA := bA.lt
    clear hx hx2
    go_wp2_with fail
    refine (eqStokes_same a.re a.im a.den b.re b.im b.den c.re c.im c.den d.re d.im d.den _).mono ?_
    rintro e w3 ⟨rfl, hx⟩
    replace hE := (hE.alloc _).trans hx
    go_wp2
    go_ret
    exact ⟨rfl, hE⟩
  · have hlI : (1048576 : Int) < (s.size : Int) := by omega
    go_enter Tryd.func8, Tryd.ntmps8
    go_wp2
    go_ret
    exact ⟨rfl, Ex.refl _⟩
end Go.Proofs.YtklkfkgpjjpaiaaDoor
