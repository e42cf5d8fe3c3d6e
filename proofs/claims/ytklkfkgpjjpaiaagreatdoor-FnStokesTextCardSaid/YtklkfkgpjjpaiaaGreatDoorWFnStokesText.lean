/-
  The walk of the law FnStokesText.
-/
import Derived.Test.YtklkfkgpjjpaiaaGreatDoorSrQ
import Derived.Test.YtklkfkgpjjpaiaaGreatDoorSrI
import Derived.Test.YtklkfkgpjjpaiaaGreatDoorDrawZ
import Derived.Test.YtklkfkgpjjpaiaaGreatDoorRead
import Derived.Test.YtklkfkgpjjpaiaaGreatDoorEqS
import Derived.Laws.StructEq
set_option linter.unusedSimpArgs false
set_option linter.unusedVariables false
namespace Go.Proofs.YtklkfkgpjjpaiaaGreatDoor
open Go.RowKit

set_option maxRecDepth 10000 in
set_option maxHeartbeats 2000000 in
theorem law_FnStokesText (v : Value) (w : World) (h : IsBytes w v) (hm : Mem w) : Calls Tryz.prog 3 #[v] w fun e w' => e = .returned (.bool true) ∧ Ex w w' := by
  obtain ⟨A, cap, xs, rfl, hl, hcap, hcap2, hS, hbs⟩ := h
  have hB : Byts w A xs := ⟨hS, hbs⟩
  clear hS hbs
  by_cases hbig : (1048576 : Int) < xs.length
  · go_enter Tryz.func3, Tryz.ntmps3
    go_wp2
    go_ret
    exact ⟨rfl, Ex.refl _⟩
  have HM := Lib.hid hm
  clear hm
  go_enter Tryz.func3, Tryz.ntmps3
  go_wp2_with fail
  refine (drawStokesText A xs cap w hB hl hcap hcap2).mono ?_
  rintro e w1 ⟨a, b, c, d, rfl, hE⟩
  have ki := fun w ht => iStokesText a b c d w ht
  have ks := fun w => sStokesText a b c d w
  clear hB hbig hl hcap hcap2
  rcases hv : svalid a b c d with _ | _
  · have ef : stext a b c d = ([], false) := by simp [stext, hv]
    rw [ef] at ki ks
    clear ef hv
    have KI : Hid (∀ w, Tab w → Calls Tryz.prog 6 #[.agg #[.int .i64 a.re, .int .i64 a.im, .int .i64 a.den, .int .i64 b.re, .int .i64 b.im, .int .i64 b.den, .int .i64 c.re, .int .i64 c.im, .int .i64 c.den, .int .i64 d.re, .int .i64 d.im, .int .i64 d.den]] w fun e w' => e = .returned (.tuple #[.string ⟨#[]⟩, .bool false]) ∧ Ex w w') := ki
    have KS : Hid (∀ w, Calls Tryz.prog 7 #[.agg #[.int .i64 a.re, .int .i64 a.im, .int .i64 a.den, .int .i64 b.re, .int .i64 b.im, .int .i64 b.den, .int .i64 c.re, .int .i64 c.im, .int .i64 c.den, .int .i64 d.re, .int .i64 d.im, .int .i64 d.den]] w fun e w' => e = .returned (.tuple #[.string ⟨#[]⟩, .bool false]) ∧ Ex w w') := ks
    clear ki ks
    simp only [Sv]
    go_wp2_with fail
    have bA := Box.new w1 #[.int .i64 a.re, .int .i64 a.im, .int .i64 a.den, .int .i64 b.re, .int .i64 b.im, .int .i64 b.den, .int .i64 c.re, .int .i64 c.im, .int .i64 c.den, .int .i64 d.re, .int .i64 d.im, .int .i64 d.den] 27
    replace hE := hE.alloc (.cells #[.int .i64 a.re, .int .i64 a.im, .int .i64 a.den, .int .i64 b.re, .int .i64 b.im, .int .i64 b.den, .int .i64 c.re, .int .i64 c.im, .int .i64 c.den, .int .i64 d.re, .int .i64 d.im, .int .i64 d.den] 27)
    refine (KI.out _ (HM.out.ex hE).tab).mono ?_
    rintro e w2 ⟨rfl, hx⟩
    replace bA := bA.ex hx
    replace hE := hE.trans hx
    have cA := bA.cell
    clear hx
    go_wp2_with fail
    refine (KS.out _).mono ?_
    rintro e w3 ⟨rfl, hx⟩
    replace hE := hE.trans hx
    go_wp2
    go_ret
    exact ⟨rfl, hE⟩
  · have ef : stext a b c d = (jtxt a b c d, true) := by simp [stext, hv]
    rw [ef] at ki ks
    have hlen := jtxt_len hv
    have kr := fun w hm => iStokesRead (jtxt a b c d) (by omega) w hm
    rw [skr_jtxt hv] at kr
    have ki2 : ∀ w, Tab w → Calls Tryz.prog 6 #[Sv a b c d] w fun e w' => e = .returned (.tuple #[.string (Bs (jtxt a b c d)), .bool true]) ∧ Ex w w' := ki
    have ks2 : ∀ w, Calls Tryz.prog 7 #[Sv a b c d] w fun e w' => e = .returned (.tuple #[.string (Bs (jtxt a b c d)), .bool true]) ∧ Ex w w' := ks
    clear ef hv ki ks hlen
    generalize Bs (jtxt a b c d) = S at ki2 ks2 kr
    have KI : Hid (∀ w, Tab w → Calls Tryz.prog 6 #[.agg #[.int .i64 a.re, .int .i64 a.im, .int .i64 a.den, .int .i64 b.re, .int .i64 b.im, .int .i64 b.den, .int .i64 c.re, .int .i64 c.im, .int .i64 c.den, .int .i64 d.re, .int .i64 d.im, .int .i64 d.den]] w fun e w' => e = .returned (.tuple #[.string S, .bool true]) ∧ Ex w w') := ki2
    have KS : Hid (∀ w, Calls Tryz.prog 7 #[.agg #[.int .i64 a.re, .int .i64 a.im, .int .i64 a.den, .int .i64 b.re, .int .i64 b.im, .int .i64 b.den, .int .i64 c.re, .int .i64 c.im, .int .i64 c.den, .int .i64 d.re, .int .i64 d.im, .int .i64 d.den]] w fun e w' => e = .returned (.tuple #[.string S, .bool true]) ∧ Ex w w') := ks2
    have KR : Hid (∀ w, Mem w → Calls Tryz.prog 8 #[.string S] w fun e w' => e = .returned (.tuple #[.agg #[.int .i64 a.re, .int .i64 a.im, .int .i64 a.den, .int .i64 b.re, .int .i64 b.im, .int .i64 b.den, .int .i64 c.re, .int .i64 c.im, .int .i64 c.den, .int .i64 d.re, .int .i64 d.im, .int .i64 d.den], .bool true]) ∧ Ex w w') := kr
    clear ki2 ks2 kr
    simp only [Sv]
    go_wp2_with fail
    have bA := Box.new w1 #[.int .i64 a.re, .int .i64 a.im, .int .i64 a.den, .int .i64 b.re, .int .i64 b.im, .int .i64 b.den, .int .i64 c.re, .int .i64 c.im, .int .i64 c.den, .int .i64 d.re, .int .i64 d.im, .int .i64 d.den] 27
    replace hE := hE.alloc (.cells #[.int .i64 a.re, .int .i64 a.im, .int .i64 a.den, .int .i64 b.re, .int .i64 b.im, .int .i64 b.den, .int .i64 c.re, .int .i64 c.im, .int .i64 c.den, .int .i64 d.re, .int .i64 d.im, .int .i64 d.den] 27)
    refine (KI.out _ (HM.out.ex hE).tab).mono ?_
    rintro e w2 ⟨rfl, hx⟩
    replace bA := bA.ex hx
    replace hE := hE.trans hx
    have cA := bA.cell
    clear hx
    go_wp2_with fail
    refine (KS.out _).mono ?_
    rintro e w3 ⟨rfl, hx⟩
    replace bA := bA.ex hx
    replace hE := hE.trans hx
    replace cA := bA.cell
    clear hx
    go_wp2_with fail
    refine (KR.out _ (HM.out.ex hE)).mono ?_
    rintro e w4 ⟨rfl, hx⟩
    replace bA := bA.ex hx
    replace hE := hE.trans hx
    replace cA := bA.cell
    have heq : ∀ w, (Op.equalIn 9999 25 (.agg #[.int .i64 a.re, .int .i64 a.im, .int .i64 a.den, .int .i64 b.re, .int .i64 b.im, .int .i64 b.den, .int .i64 c.re, .int .i64 c.im, .int .i64 c.den, .int .i64 d.re, .int .i64 d.im, .int .i64 d.den]) (.agg #[.int .i64 a.re, .int .i64 a.im, .int .i64 a.den, .int .i64 b.re, .int .i64 b.im, .int .i64 b.den, .int .i64 c.re, .int .i64 c.im, .int .i64 c.den, .int .i64 d.re, .int .i64 d.im, .int .i64 d.den])).run Tryz.prog w = .ok true w := fun w => eqA4 a.re a.im a.den b.re b.im b.den c.re c.im c.den d.re d.im d.den 9996 w
    have zA := bA.lt
    clear hx
    go_wp2
    go_ret
    exact ⟨rfl, hE.alloc _⟩
end Go.Proofs.YtklkfkgpjjpaiaaGreatDoor
