/-
  The walk of the law FnExactStokesText.
-/
import Derived.Test.YtklkfkgpjjpaiaaDoorLawK
import Derived.Test.YtklkfkgpjjpaiaaDoorReadF
namespace Go.Proofs.YtklkfkgpjjpaiaaDoor
open Go.RowKit

set_option maxRecDepth 10000 in
set_option maxHeartbeats 1000000 in
theorem law_FnExactStokesText (v0 : Value) (w : World) (h0 : IsStokes w v0) (ht : Tab w) : Calls Tryd.prog 4 #[v0] w fun e w' => e = .returned (.bool true) ∧ Ex w w' := by
  obtain ⟨a, b, c, d, rfl⟩ := h0
  have ki := fun w ht => iStokesText a b c d w ht
  have ks := fun w => sStokesText a b c d w
  generalize stext a b c d = R at ki ks
  obtain ⟨l, ok⟩ := R
  have ki2 : ∀ w, Tab w → Calls Tryd.prog 14 #[.agg #[.int .i64 a.re, .int .i64 a.im, .int .i64 a.den, .int .i64 b.re, .int .i64 b.im, .int .i64 b.den, .int .i64 c.re, .int .i64 c.im, .int .i64 c.den, .int .i64 d.re, .int .i64 d.im, .int .i64 d.den]] w fun e w' => e = .returned (.tuple #[.string (Bs l), .bool ok]) ∧ Ex w w' := ki
  have ks2 : ∀ w, Calls Tryd.prog 12 #[.agg #[.int .i64 a.re, .int .i64 a.im, .int .i64 a.den, .int .i64 b.re, .int .i64 b.im, .int .i64 b.den, .int .i64 c.re, .int .i64 c.im, .int .i64 c.den, .int .i64 d.re, .int .i64 d.im, .int .i64 d.den]] w fun e w' => e = .returned (.tuple #[.string (Bs l), .bool ok]) ∧ Ex w w' := ks
  generalize Bs l = S at ki2 ks2
  have KI := Lib.hid ki2
  have KS := Lib.hid ks2
  have HT := Lib.hid ht
  clear ki ks ki2 ks2 ht
  go_enter Tryd.func4, Tryd.ntmps4
  go_wp2_with fail
  refine (toStokes_any a.re a.im a.den b.re b.im b.den c.re c.im c.den d.re d.im d.den _).mono ?_
  rintro e w1 ⟨rfl, hx⟩
  have bA := (Box.new w _ _).ex hx
  have cA := bA.cell
  have hE := ((Ex.refl w).alloc _).trans hx
  clear hx
  go_wp2_with fail
  refine (KS.out _).mono ?_
  rintro e w2 ⟨rfl, hx⟩
  replace hE := hE.trans hx
  replace bA := bA.ex hx
  replace cA := bA.cell
  clear hx
  go_wp2_with fail
  refine (toStokes_any a.re a.im a.den b.re b.im b.den c.re c.im c.den d.re d.im d.den _).mono ?_
  rintro e w3 ⟨rfl, hx⟩
  replace hE := hE.trans hx
  clear hx cA bA
  go_wp2_with fail
  refine (KI.out _ (HT.out.ex hE)).mono ?_
  rintro e w4 ⟨rfl, hx⟩
  replace hE := hE.trans hx
  go_wp2
  go_ret
  exact ⟨rfl, hE⟩
end Go.Proofs.YtklkfkgpjjpaiaaDoor
