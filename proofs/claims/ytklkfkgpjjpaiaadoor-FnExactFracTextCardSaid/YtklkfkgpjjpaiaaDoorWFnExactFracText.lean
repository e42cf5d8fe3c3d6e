/-
  The walk of the law FnExactFracText.
-/
import Derived.Test.YtklkfkgpjjpaiaaDoorLawT
import Derived.Test.YtklkfkgpjjpaiaaDoorReadF
namespace Go.Proofs.YtklkfkgpjjpaiaaDoor
open Go.RowKit

set_option maxRecDepth 10000 in
set_option maxHeartbeats 1000000 in
theorem law_FnExactFracText (v0 : Value) (w : World) (h0 : IsFrac w v0) (ht : Tab w) : Calls Tryd.prog 3 #[v0] w fun e w' => e = .returned (.bool true) ∧ Ex w w' := by
  obtain ⟨a1, a2, a3, rfl⟩ := h0
  have ki := fun w ht => iFracText ⟨a1, a2, a3⟩ w ht
  have ks := fun w => sFracText ⟨a1, a2, a3⟩ w
  generalize ftext ⟨a1, a2, a3⟩ = R at ki ks
  obtain ⟨l, ok⟩ := R
  have ki2 : ∀ w, Tab w → Calls Tryd.prog 11 #[.agg #[.int .i64 a1, .int .i64 a2, .int .i64 a3]] w fun e w' => e = .returned (.tuple #[.string (Bs l), .bool ok]) ∧ Ex w w' := ki
  have ks2 : ∀ w, Calls Tryd.prog 9 #[.agg #[.int .i64 a1, .int .i64 a2, .int .i64 a3]] w fun e w' => e = .returned (.tuple #[.string (Bs l), .bool ok]) ∧ Ex w w' := ks
  generalize Bs l = S at ki2 ks2
  have KI := Lib.hid ki2
  have KS := Lib.hid ks2
  have HT := Lib.hid ht
  clear ki ks ki2 ks2 ht
  go_enter Tryd.func3, Tryd.ntmps3
  go_wp2_with fail
  refine (toFrac_any a1 a2 a3 _).mono ?_
  rintro e w1 ⟨rfl, hx⟩
  have bA := (Box.new w _ _).ex hx
  have cA := bA.cell
  have hE := ((Ex.refl w).alloc _).trans hx
  clear hx
  go_wp2_with fail
  refine (KS.out _).mono ?_
  rintro e w2 ⟨rfl, hx⟩
  replace hE := hE.trans hx
  replace bA := bA.ex hx
  replace cA := bA.cell
  clear hx
  go_wp2_with fail
  refine (toFrac_any a1 a2 a3 _).mono ?_
  rintro e w3 ⟨rfl, hx⟩
  replace hE := hE.trans hx
  clear hx cA bA
  go_wp2_with fail
  refine (KI.out _ (HT.out.ex hE)).mono ?_
  rintro e w4 ⟨rfl, hx⟩
  replace hE := hE.trans hx
  go_wp2
  go_ret
  exact ⟨rfl, hE⟩
end Go.Proofs.YtklkfkgpjjpaiaaDoor
