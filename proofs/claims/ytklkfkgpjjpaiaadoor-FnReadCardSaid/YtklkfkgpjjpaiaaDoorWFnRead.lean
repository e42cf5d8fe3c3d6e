/-
  The walk of the law FnRead.
-/
import Derived.Test.YtklkfkgpjjpaiaaDoorLawR
import Derived.Test.YtklkfkgpjjpaiaaDoorDrawW
import Derived.Test.YtklkfkgpjjpaiaaDoorRead
import Derived.Laws.StructEq
set_option linter.unusedSimpArgs false
set_option linter.unusedVariables false
namespace Go.Proofs.YtklkfkgpjjpaiaaDoor
open Go.RowKit

set_option maxRecDepth 10000 in
set_option maxHeartbeats 2000000 in
theorem law_FnRead (v : Value) (w : World) (h : IsBytes w v) (hm : Mem w) : Calls Tryd.prog 7 #[v] w fun e w' => e = .returned (.bool true) ∧ Ex w w' := by
  obtain ⟨A, cap, xs, rfl, hl, hcap, hcap2, hS, hbs⟩ := h
  have hB : Byts w A xs := ⟨hS, hbs⟩
  clear hS hbs
  by_cases hbig : (1048576 : Int) < xs.length
  · go_enter Tryd.func7, Tryd.ntmps7
    go_wp2
    go_ret
    exact ⟨rfl, Ex.refl _⟩
  have HM := Lib.hid hm
  clear hm
  go_enter Tryd.func7, Tryd.ntmps7
  go_wp2_with fail
  refine (drawFracRead A xs cap w hB hl hcap hcap2).mono ?_
  rintro e w1 ⟨s, rfl, hs, hE⟩
  have ki := fun w hm => iFracRead s.data.toList (by rw [bs_len]; omega) w hm
  have ks := fun w => sFracRead s.data.toList (by rw [bs_len]; omega) w
  rw [← bs_of] at ki ks
  have hsp := rd_spec s.data.toList
  clear hB hbig hl hcap hcap2
  have kt := fun x w ht => iFracText x w ht
  generalize rd s.data.toList = R at ki ks hsp
  obtain ⟨⟨a1, a2, a3⟩, ok⟩ := R
  have KI : Hid (∀ w, Mem w → Calls Tryd.prog 16 #[.string s] w fun e w' => e = .returned (.tuple #[.agg #[.int .i64 a1, .int .i64 a2, .int .i64 a3], .bool ok]) ∧ Ex w w') := ki
  have KS : Hid (∀ w, Calls Tryd.prog 17 #[.string s] w fun e w' => e = .returned (.tuple #[.agg #[.int .i64 a1, .int .i64 a2, .int .i64 a3], .bool ok]) ∧ Ex w w') := ks
  clear ki ks
  rcases ok with _ | _
  · clear kt hsp
    go_wp2_with fail
    refine (KI.out _ (HM.out.ex hE)).mono ?_
    rintro e w2 ⟨rfl, hx⟩
    replace hE := hE.trans hx
    clear hx
    go_wp2_with fail
    have bA := Box.new w2 #[.int .i64 a1, .int .i64 a2, .int .i64 a3] 26
    replace hE := hE.alloc (.cells #[.int .i64 a1, .int .i64 a2, .int .i64 a3] 26)
    refine (KS.out _).mono ?_
    rintro e w3 ⟨rfl, hx⟩
    replace bA := bA.ex hx
    replace hE := hE.trans hx
    have cA := bA.cell
    have zA := bA.lt
    clear hx
    go_wp2
    go_ret
    exact ⟨rfl, hE.alloc _⟩
  · have hft : ftext ⟨a1, a2, a3⟩ = (s.data.toList, true) := by
      rcases hsp with ⟨x, h1, h2, h3⟩ | ⟨-, h3⟩
      · injection h3 with h3 h4
        rw [h3]
        simp [ftext, h1, h2]
      · injection h3 with h3 h4
        cases h4
    have kt2 := kt ⟨a1, a2, a3⟩
    rw [hft] at kt2
    have kt3 : ∀ w, Tab w → Calls Tryd.prog 11 #[.agg #[.int .i64 a1, .int .i64 a2, .int .i64 a3]] w fun e w' => e = .returned (.tuple #[.string (Bs s.data.toList), .bool true]) ∧ Ex w w' := kt2
    rw [← bs_of] at kt3
    have KT := Lib.hid kt3
    clear kt kt2 kt3 hft hsp
    go_wp2_with fail
    refine (KI.out _ (HM.out.ex hE)).mono ?_
    rintro e w2 ⟨rfl, hx⟩
    replace hE := hE.trans hx
    clear hx
    go_wp2_with fail
    have bA := Box.new w2 #[.int .i64 a1, .int .i64 a2, .int .i64 a3] 26
    replace hE := hE.alloc (.cells #[.int .i64 a1, .int .i64 a2, .int .i64 a3] 26)
    refine (KS.out _).mono ?_
    rintro e w3 ⟨rfl, hx⟩
    replace bA := bA.ex hx
    replace hE := hE.trans hx
    have cA := bA.cell
    have zA := bA.lt
    clear hx
    go_wp2_with fail
    refine (KT.out _ (HM.out.ex (hE.alloc _)).tab).mono ?_
    rintro e w4 ⟨rfl, hx⟩
    replace hE := (hE.alloc _).trans hx
    go_wp2
    go_ret
    exact ⟨rfl, hE⟩
end Go.Proofs.YtklkfkgpjjpaiaaDoor
