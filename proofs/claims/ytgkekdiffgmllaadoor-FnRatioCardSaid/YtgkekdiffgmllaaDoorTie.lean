/-
  DERIVED. GIVEN WITH THE SEED: THE PROGRAM's TIES (one call each: nine closed facts by the kernel) AND EACH ROW's TIE, after the 31st guide's Derived/Test/Toyas{Tie, Card}.lean. No idea stands in it: it is a product of the set-up. Laid BY PROGRAM, IN A SANDBOX (cutbox-door.mjs). By AI agents, Wed Nov 11 2026. No macro, syntax, notation, axiom, sorry.
-/
import Derived.Test.YtgkekdiffgmllaaDoorRows
import Derived.LaidByTextLater
import Derived.SevenTiedAt
import Derived.LaidSub
import Derived.LaidOnce
namespace Go.Proofs.YtgkekdiffgmllaaDoor
open Go
set_option maxRecDepth 100000
theorem seatTie1 : Tryd.prog.laidByTextLater [("loop.example/polarisedlight/impl.zero", Rows.laid_loop_example_polarisedlight_impl_zero), ("loop.example/polarisedlight/impl.one", Rows.laid_loop_example_polarisedlight_impl_one)] [.data, .data] true :=
  Program.laidByTextLater_by_one 19 8 4 (by kernel_rfl) (by kernel_rfl) (by kernel_rfl) (by kernel_rfl) (by kernel_rfl) (by kernel_rfl) (fun _ _ => by kernel_rfl)
theorem noOwnUnsafe : Tryd.pinned.checked.prog.headLifts.contains "ownunsafe" = false := by kernel_rfl
theorem tie : Tryd.prog.laidByTextLater [("loop.example/polarisedlight/impl.zero", Rows.laid_loop_example_polarisedlight_impl_zero), ("loop.example/polarisedlight/impl.one", Rows.laid_loop_example_polarisedlight_impl_one)] [.data, .data] true :=
  Program.laidByTextLater.sub seatTie1 ["loop.example/polarisedlight/impl.zero", "loop.example/polarisedlight/impl.one"] (by kernel_rfl) (by kernel_rfl)
theorem fnRatio_row_tie : Rows.fnRatioRow.laidByTextAt .later Tryd.pinned [.data, .data] true :=
  OpenClaim.laidByTextAt_later rfl rfl tie noOwnUnsafe
theorem fnRatioUpto_row_tie : Rows.fnRatioUptoRow.laidByTextAt .later Tryd.pinned [.data, .data] true :=
  OpenClaim.laidByTextAt_later rfl rfl tie noOwnUnsafe
end Go.Proofs.YtgkekdiffgmllaaDoor
