/-
  The walk of the law FnText.
-/
import Derived.Test.YtklkfkgpjjpaiaaDoorLawR
import Derived.Test.YtklkfkgpjjpaiaaDoorDrawR
import Derived.Test.YtklkfkgpjjpaiaaDoorRead
import Derived.Laws.StructEq
set_option linter.unusedSimpArgs false
set_option linter.unusedVariables false
namespace Go.Proofs.YtklkfkgpjjpaiaaDoor
open Go.RowKit

set_option maxRecDepth 10000 in
set_option maxHeartbeats 2000000 in
theorem law_FnText (v : Value) (w : World) (h : IsBytes w v) (hm : Mem w) : Calls Tryd.prog 5 #[v] w fun e w' => e = .returned (.bool true) ∧ Ex w w' := by
  obtain ⟨A, cap, xs, rfl, hl, hcap, hcap2, hS, hbs⟩ := h
  have hB : Byts w A xs := ⟨hS, hbs⟩
  clear hS hbs
  by_cases hbig : (1048576 : Int) < xs.length
  · go_enter Tryd.func5, Tryd.ntmps5
    go_wp2
    go_ret
    exact ⟨rfl, Ex.refl _⟩
  have HM := Lib.hid hm
  clear hm
  go_enter Tryd.func5, Tryd.ntmps5
  go_wp2_with fail
  refine (drawFracText A xs cap w hB hl hcap hcap2).mono ?_
  rintro e w1 ⟨x, rfl, hE⟩
  have ki := fun w ht => iFracText x w ht
  have ks := fun w => sFracText x w
  clear hB hbig hl hcap hcap2
  rcases hv : x.valid with _ | _
  · have ef : ftext x = ([], false) := by simp [ftext, hv]
    rw [ef] at ki ks
    clear ef hv
    obtain ⟨a1, a2, a3⟩ := x
    have KI : Hid (∀ w, Tab w → Calls Tryd.prog 11 #[.agg #[.int .i64 a1, .int .i64 a2, .int .i64 a3]] w fun e w' => e = .returned (.tuple #[.string ⟨#[]⟩, .bool false]) ∧ Ex w w') := ki
    have KS : Hid (∀ w, Calls Tryd.prog 9 #[.agg #[.int .i64 a1, .int .i64 a2, .int .i64 a3]] w fun e w' => e = .returned (.tuple #[.string ⟨#[]⟩, .bool false]) ∧ Ex w w') := ks
    clear ki ks
    simp only [Fr.v]
    go_wp2_with fail
    have bA := Box.new w1 #[.int .i64 a1, .int .i64 a2, .int .i64 a3] 26
    replace hE := hE.alloc (.cells #[.int .i64 a1, .int .i64 a2, .int .i64 a3] 26)
    refine (KI.out _ (HM.out.ex hE).tab).mono ?_
    rintro e w2 ⟨rfl, hx⟩
    replace bA := bA.ex hx
    replace hE := hE.trans hx
    have cA := bA.cell
    clear hx
    go_wp2_with fail
    refine (KS.out _).mono ?_
    rintro e w3 ⟨rfl, hx⟩
    replace hE := hE.trans hx
    go_wp2
    go_ret
    exact ⟨rfl, hE⟩
  · have ef : ftext x = (txt x, true) := by simp [ftext, hv]
    rw [ef] at ki ks
    have hlen := txt_len hv
    have kr := fun w hm => iFracRead (txt x) (by omega) w hm
    rw [rd_txt hv] at kr
    have ki2 : ∀ w, Tab w → Calls Tryd.prog 11 #[x.v] w fun e w' => e = .returned (.tuple #[.string (Bs (txt x)), .bool true]) ∧ Ex w w' := ki
    have ks2 : ∀ w, Calls Tryd.prog 9 #[x.v] w fun e w' => e = .returned (.tuple #[.string (Bs (txt x)), .bool true]) ∧ Ex w w' := ks
    clear ef hv ki ks hlen
    generalize Bs (txt x) = S at ki2 ks2 kr
    obtain ⟨a1, a2, a3⟩ := x
    have KI : Hid (∀ w, Tab w → Calls Tryd.prog 11 #[.agg #[.int .i64 a1, .int .i64 a2, .int .i64 a3]] w fun e w' => e = .returned (.tuple #[.string S, .bool true]) ∧ Ex w w') := ki2
    have KS : Hid (∀ w, Calls Tryd.prog 9 #[.agg #[.int .i64 a1, .int .i64 a2, .int .i64 a3]] w fun e w' => e = .returned (.tuple #[.string S, .bool true]) ∧ Ex w w') := ks2
    have KR : Hid (∀ w, Mem w → Calls Tryd.prog 16 #[.string S] w fun e w' => e = .returned (.tuple #[.agg #[.int .i64 a1, .int .i64 a2, .int .i64 a3], .bool true]) ∧ Ex w w') := kr
    clear ki2 ks2 kr
    simp only [Fr.v]
    go_wp2_with fail
    have bA := Box.new w1 #[.int .i64 a1, .int .i64 a2, .int .i64 a3] 26
    replace hE := hE.alloc (.cells #[.int .i64 a1, .int .i64 a2, .int .i64 a3] 26)
    refine (KI.out _ (HM.out.ex hE).tab).mono ?_
    rintro e w2 ⟨rfl, hx⟩
    replace bA := bA.ex hx
    replace hE := hE.trans hx
    have cA := bA.cell
    clear hx
    go_wp2_with fail
    refine (KS.out _).mono ?_
    rintro e w3 ⟨rfl, hx⟩
    replace bA := bA.ex hx
    replace hE := hE.trans hx
    replace cA := bA.cell
    clear hx
    go_wp2_with fail
    refine (KR.out _ (HM.out.ex hE)).mono ?_
    rintro e w4 ⟨rfl, hx⟩
    replace bA := bA.ex hx
    replace hE := hE.trans hx
    replace cA := bA.cell
    have zA := bA.lt
    clear hx
    go_wp2
    go_ret
    exact ⟨rfl, hE.alloc _⟩
end Go.Proofs.YtklkfkgpjjpaiaaDoor
