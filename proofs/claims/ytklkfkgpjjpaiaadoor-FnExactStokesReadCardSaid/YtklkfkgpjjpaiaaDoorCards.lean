/-
  DERIVED. GIVEN WITH THE SEED: THE CARDS: each row of YtklkfkgpjjpaiaaDoorRows.lean that lists a variable, with what it lists TIED to the program's text (the seventh form; the later family's looks); each row that meets fmt, with fmt's text TOLD by the authors' own Lean function (tested against real Go, not proved from fmt's source: count such statements apart). THE CARD IS WHAT COUNTS. Prove the row's statement (the work); the ties are given (YtklkfkgpjjpaiaaDoorTie.lean); close each card by the builder's one call (the guide's Derived/Test/ToyasCard.lean, 'card_holds'). Laid BY PROGRAM, IN A SANDBOX (cutbox-door.mjs). By AI agents, Wed Nov 11 2026. No macro, syntax, notation, axiom, sorry.
-/
import Derived.Test.YtklkfkgpjjpaiaaDoorRows
import GoSem.ClaimSeven
namespace Go.Proofs.YtklkfkgpjjpaiaaDoor
namespace Rows

/-- THE TIED CARD OF 'laws.FnExactFracText'. -/
def fnExactFracTextCard : Claim7 := { stood := { row := fnExactFracTextRow, standIns := [], harness := (true, "2dab912d4f732bde69ebcf86f28cf0336c0bf167227be39ffc9a7c64bb38a2e3"), looks := true }, kinds := [], alts := [], laidByText := true, laidKinds := [.data, .data, .data], laidTests := true, laidLooks := .later }
def FnExactFracTextCardSaid : Prop := Claim7.holds Tryd.pinned (.plain (OpenSpec.ofChange fnExactFracTextSpec)) fnExactFracTextCard

/-- THE TIED CARD OF 'laws.FnExactStokesText'. -/
def fnExactStokesTextCard : Claim7 := { stood := { row := fnExactStokesTextRow, standIns := [], harness := (true, "2dab912d4f732bde69ebcf86f28cf0336c0bf167227be39ffc9a7c64bb38a2e3"), looks := true }, kinds := [], alts := [], laidByText := true, laidKinds := [.data, .data, .data], laidTests := true, laidLooks := .later }
def FnExactStokesTextCardSaid : Prop := Claim7.holds Tryd.pinned (.plain (OpenSpec.ofChange fnExactStokesTextSpec)) fnExactStokesTextCard

/-- THE TIED CARD OF 'laws.FnText'. -/
def fnTextCard : Claim7 := { stood := { row := fnTextRow, standIns := [], harness := (true, "2dab912d4f732bde69ebcf86f28cf0336c0bf167227be39ffc9a7c64bb38a2e3"), looks := true }, kinds := [], alts := [], laidByText := true, laidKinds := [.data, .data, .data, .data, .sentinel, .sentinel, .pinned], laidTests := true, laidLooks := .later }
def FnTextCardSaid : Prop := Claim7.holds Tryd.pinned (.plain (OpenSpec.ofChange fnTextSpec)) fnTextCard

/-- THE TIED CARD OF 'laws.FnExactFracRead'. -/
def fnExactFracReadCard : Claim7 := { stood := { row := fnExactFracReadRow, standIns := [], harness := (true, "2dab912d4f732bde69ebcf86f28cf0336c0bf167227be39ffc9a7c64bb38a2e3"), looks := true }, kinds := [], alts := [], laidByText := true, laidKinds := [.data, .data, .data, .data, .sentinel, .sentinel, .pinned], laidTests := true, laidLooks := .later }
def FnExactFracReadCardSaid : Prop := Claim7.holds Tryd.pinned (.plain (OpenSpec.ofChange fnExactFracReadSpec)) fnExactFracReadCard

/-- THE TIED CARD OF 'laws.FnRead'. -/
def fnReadCard : Claim7 := { stood := { row := fnReadRow, standIns := [], harness := (true, "2dab912d4f732bde69ebcf86f28cf0336c0bf167227be39ffc9a7c64bb38a2e3"), looks := true }, kinds := [], alts := [], laidByText := true, laidKinds := [.data, .data, .data, .data, .sentinel, .sentinel, .pinned], laidTests := true, laidLooks := .later }
def FnReadCardSaid : Prop := Claim7.holds Tryd.pinned (.plain (OpenSpec.ofChange fnReadSpec)) fnReadCard

/-- THE TIED CARD OF 'laws.FnExactStokesRead'. -/
def fnExactStokesReadCard : Claim7 := { stood := { row := fnExactStokesReadRow, standIns := [], harness := (true, "2dab912d4f732bde69ebcf86f28cf0336c0bf167227be39ffc9a7c64bb38a2e3"), looks := true }, kinds := [], alts := [], laidByText := true, laidKinds := [.data, .data, .data, .data, .sentinel, .sentinel, .pinned], laidTests := true, laidLooks := .later }
def FnExactStokesReadCardSaid : Prop := Claim7.holds Tryd.pinned (.plain (OpenSpec.ofChange fnExactStokesReadSpec)) fnExactStokesReadCard

/-- THE SECOND FORM's CARD OF 'laws.FnExactFracText'. -/
def fnExactFracTextUptoCard : Claim7 := { stood := { row := fnExactFracTextUptoRow, standIns := [], harness := (true, "2dab912d4f732bde69ebcf86f28cf0336c0bf167227be39ffc9a7c64bb38a2e3"), looks := true }, kinds := [], alts := [], laidByText := true, laidKinds := [.data, .data, .data], laidTests := true, laidLooks := .later }
def FnExactFracTextUptoCardSaid : Prop := Claim7.holds Tryd.pinned (.plain (OpenSpec.upto fnExactFracTextSpec)) fnExactFracTextUptoCard

/-- THE SECOND FORM's CARD OF 'laws.FnExactStokesText'. -/
def fnExactStokesTextUptoCard : Claim7 := { stood := { row := fnExactStokesTextUptoRow, standIns := [], harness := (true, "2dab912d4f732bde69ebcf86f28cf0336c0bf167227be39ffc9a7c64bb38a2e3"), looks := true }, kinds := [], alts := [], laidByText := true, laidKinds := [.data, .data, .data], laidTests := true, laidLooks := .later }
def FnExactStokesTextUptoCardSaid : Prop := Claim7.holds Tryd.pinned (.plain (OpenSpec.upto fnExactStokesTextSpec)) fnExactStokesTextUptoCard

/-- THE SECOND FORM's CARD OF 'laws.FnText'. -/
def fnTextUptoCard : Claim7 := { stood := { row := fnTextUptoRow, standIns := [], harness := (true, "2dab912d4f732bde69ebcf86f28cf0336c0bf167227be39ffc9a7c64bb38a2e3"), looks := true }, kinds := [], alts := [], laidByText := true, laidKinds := [.data, .data, .data, .data, .sentinel, .sentinel, .pinned], laidTests := true, laidLooks := .later }
def FnTextUptoCardSaid : Prop := Claim7.holds Tryd.pinned (.plain (OpenSpec.upto fnTextSpec)) fnTextUptoCard

/-- THE SECOND FORM's CARD OF 'laws.FnExactFracRead'. -/
def fnExactFracReadUptoCard : Claim7 := { stood := { row := fnExactFracReadUptoRow, standIns := [], harness := (true, "2dab912d4f732bde69ebcf86f28cf0336c0bf167227be39ffc9a7c64bb38a2e3"), looks := true }, kinds := [], alts := [], laidByText := true, laidKinds := [.data, .data, .data, .data, .sentinel, .sentinel, .pinned], laidTests := true, laidLooks := .later }
def FnExactFracReadUptoCardSaid : Prop := Claim7.holds Tryd.pinned (.plain (OpenSpec.upto fnExactFracReadSpec)) fnExactFracReadUptoCard

/-- THE SECOND FORM's CARD OF 'laws.FnRead'. -/
def fnReadUptoCard : Claim7 := { stood := { row := fnReadUptoRow, standIns := [], harness := (true, "2dab912d4f732bde69ebcf86f28cf0336c0bf167227be39ffc9a7c64bb38a2e3"), looks := true }, kinds := [], alts := [], laidByText := true, laidKinds := [.data, .data, .data, .data, .sentinel, .sentinel, .pinned], laidTests := true, laidLooks := .later }
def FnReadUptoCardSaid : Prop := Claim7.holds Tryd.pinned (.plain (OpenSpec.upto fnReadSpec)) fnReadUptoCard

/-- THE SECOND FORM's CARD OF 'laws.FnExactStokesRead'. -/
def fnExactStokesReadUptoCard : Claim7 := { stood := { row := fnExactStokesReadUptoRow, standIns := [], harness := (true, "2dab912d4f732bde69ebcf86f28cf0336c0bf167227be39ffc9a7c64bb38a2e3"), looks := true }, kinds := [], alts := [], laidByText := true, laidKinds := [.data, .data, .data, .data, .sentinel, .sentinel, .pinned], laidTests := true, laidLooks := .later }
def FnExactStokesReadUptoCardSaid : Prop := Claim7.holds Tryd.pinned (.plain (OpenSpec.upto fnExactStokesReadSpec)) fnExactStokesReadUptoCard
end Rows
end Go.Proofs.YtklkfkgpjjpaiaaDoor
