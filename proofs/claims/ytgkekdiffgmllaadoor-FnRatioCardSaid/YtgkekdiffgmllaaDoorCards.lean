/-
  DERIVED. GIVEN WITH THE SEED: THE CARDS: each row of YtgkekdiffgmllaaDoorRows.lean that lists a variable, with what it lists TIED to the program's text (the seventh form; the later family's looks); each row that meets fmt, with fmt's text TOLD by the authors' own Lean function (tested against real Go, not proved from fmt's source: count such statements apart). THE CARD IS WHAT COUNTS. Prove the row's statement (the work); the ties are given (YtgkekdiffgmllaaDoorTie.lean); close each card by the builder's one call (the guide's Derived/Test/ToyasCard.lean, 'card_holds'). Laid BY PROGRAM, IN A SANDBOX (cutbox-door.mjs). By AI agents, Wed Nov 11 2026. No macro, syntax, notation, axiom, sorry.
-/
import Derived.Test.YtgkekdiffgmllaaDoorRows
import GoSem.ClaimSeven
namespace Go.Proofs.YtgkekdiffgmllaaDoor
namespace Rows

/-- THE TIED CARD OF 'laws.FnRatio'. -/
def fnRatioCard : Claim7 := { stood := { row := fnRatioRow, standIns := [], harness := (true, "91ee634e0dc4ecffdd279f0f3456a822fce75d810038094f19fecadfc373f78c"), looks := false }, kinds := [], alts := [], laidByText := true, laidKinds := [.data, .data], laidTests := true, laidLooks := .later }
def FnRatioCardSaid : Prop := Claim7.holds Tryd.pinned (.plain (OpenSpec.ofChange fnRatioSpec)) fnRatioCard

/-- THE SECOND FORM's CARD OF 'laws.FnRatio'. -/
def fnRatioUptoCard : Claim7 := { stood := { row := fnRatioUptoRow, standIns := [], harness := (true, "91ee634e0dc4ecffdd279f0f3456a822fce75d810038094f19fecadfc373f78c"), looks := false }, kinds := [], alts := [], laidByText := true, laidKinds := [.data, .data], laidTests := true, laidLooks := .later }
def FnRatioUptoCardSaid : Prop := Claim7.holds Tryd.pinned (.plain (OpenSpec.upto fnRatioSpec)) fnRatioUptoCard
end Rows
end Go.Proofs.YtgkekdiffgmllaaDoor
