/-
  DERIVED. GIVEN WITH THE SEED: THE CARDS: each row of YtmmjkchjgeklnaaDoorRows.lean that lists a variable, with what it lists TIED to the program's text (the seventh form; the later family's looks); each row that meets fmt, with fmt's text TOLD by the authors' own Lean function (tested against real Go, not proved from fmt's source: count such statements apart). THE CARD IS WHAT COUNTS. Prove the row's statement (the work); the ties are given (YtmmjkchjgeklnaaDoorTie.lean); close each card by the builder's one call (the guide's Derived/Test/ToyasCard.lean, 'card_holds'). Laid BY PROGRAM, IN A SANDBOX (cutbox-door.mjs). By AI agents, Wed Nov 11 2026. No macro, syntax, notation, axiom, sorry.
-/
import Derived.Test.YtmmjkchjgeklnaaDoorRows
import GoSem.ClaimSeven
namespace Go.Proofs.YtmmjkchjgeklnaaDoor
namespace Rows

/-- THE TIED CARD OF 'laws.FnExactGlassLight'. -/
def fnExactGlassLightCard : Claim7 := { stood := { row := fnExactGlassLightRow, standIns := [], harness := (true, "71161ffd342989404cfa9acf03a0ac55cfd3b38ab858c14cf605077a97279dcd"), looks := false }, kinds := [], alts := [], laidByText := true, laidKinds := [.data, .data, .data], laidTests := true, laidLooks := .later }
def FnExactGlassLightCardSaid : Prop := Claim7.holds Tryd.pinned (.plain (OpenSpec.ofChange fnExactGlassLightSpec)) fnExactGlassLightCard

/-- THE TIED CARD OF 'laws.FnGlassLight'. -/
def fnGlassLightCard : Claim7 := { stood := { row := fnGlassLightRow, standIns := [], harness := (true, "71161ffd342989404cfa9acf03a0ac55cfd3b38ab858c14cf605077a97279dcd"), looks := false }, kinds := [], alts := [], laidByText := true, laidKinds := [.data, .data, .data], laidTests := true, laidLooks := .later }
def FnGlassLightCardSaid : Prop := Claim7.holds Tryd.pinned (.plain (OpenSpec.ofChange fnGlassLightSpec)) fnGlassLightCard

/-- THE SECOND FORM's CARD OF 'laws.FnExactGlassLight'. -/
def fnExactGlassLightUptoCard : Claim7 := { stood := { row := fnExactGlassLightUptoRow, standIns := [], harness := (true, "71161ffd342989404cfa9acf03a0ac55cfd3b38ab858c14cf605077a97279dcd"), looks := false }, kinds := [], alts := [], laidByText := true, laidKinds := [.data, .data, .data], laidTests := true, laidLooks := .later }
def FnExactGlassLightUptoCardSaid : Prop := Claim7.holds Tryd.pinned (.plain (OpenSpec.upto fnExactGlassLightSpec)) fnExactGlassLightUptoCard

/-- THE SECOND FORM's CARD OF 'laws.FnGlassLight'. -/
def fnGlassLightUptoCard : Claim7 := { stood := { row := fnGlassLightUptoRow, standIns := [], harness := (true, "71161ffd342989404cfa9acf03a0ac55cfd3b38ab858c14cf605077a97279dcd"), looks := false }, kinds := [], alts := [], laidByText := true, laidKinds := [.data, .data, .data], laidTests := true, laidLooks := .later }
def FnGlassLightUptoCardSaid : Prop := Claim7.holds Tryd.pinned (.plain (OpenSpec.upto fnGlassLightSpec)) fnGlassLightUptoCard
end Rows
end Go.Proofs.YtmmjkchjgeklnaaDoor
