/-
  DERIVED. GIVEN WITH THE SEED: THE CARDS: each row of YtklkfkgpjjpaiaaGreatDoorRows.lean that lists a variable, with what it lists TIED to the program's text (the seventh form; the later family's looks); each row that meets fmt, with fmt's text TOLD by the authors' own Lean function (tested against real Go, not proved from fmt's source: count such statements apart). THE CARD IS WHAT COUNTS. Prove the row's statement (the work); the ties are given (YtklkfkgpjjpaiaaGreatDoorTie.lean); close each card by the builder's one call (the guide's Derived/Test/ToyasCard.lean, 'card_holds'). Laid BY PROGRAM, IN A SANDBOX (cutbox-door.mjs). By AI agents, Wed Nov 11 2026. No macro, syntax, notation, axiom, sorry.
-/
import Derived.Test.YtklkfkgpjjpaiaaGreatDoorRows
import GoSem.ClaimSeven
namespace Go.Proofs.YtklkfkgpjjpaiaaGreatDoor
namespace Rows

/-- THE TIED CARD OF 'laws.FnStokesText'. -/
def fnStokesTextCard : Claim7 := { stood := { row := fnStokesTextRow, standIns := [], harness := (true, "8046e73440e65fa04ca36a4a5216a06c57c24798ed3d0c9dbd5b95d543a87474"), looks := true }, kinds := [], alts := [], laidByText := true, laidKinds := [.data, .data, .data, .data, .sentinel, .sentinel, .pinned], laidTests := true, laidLooks := .later }
def FnStokesTextCardSaid : Prop := Claim7.holds Tryz.pinned (.plain (OpenSpec.ofChange fnStokesTextSpec)) fnStokesTextCard

/-- THE TIED CARD OF 'laws.FnStokesRead'. -/
def fnStokesReadCard : Claim7 := { stood := { row := fnStokesReadRow, standIns := [], harness := (true, "8046e73440e65fa04ca36a4a5216a06c57c24798ed3d0c9dbd5b95d543a87474"), looks := true }, kinds := [], alts := [], laidByText := true, laidKinds := [.data, .data, .data, .data, .sentinel, .sentinel, .pinned], laidTests := true, laidLooks := .later }
def FnStokesReadCardSaid : Prop := Claim7.holds Tryz.pinned (.plain (OpenSpec.ofChange fnStokesReadSpec)) fnStokesReadCard

/-- THE SECOND FORM's CARD OF 'laws.FnStokesText'. -/
def fnStokesTextUptoCard : Claim7 := { stood := { row := fnStokesTextUptoRow, standIns := [], harness := (true, "8046e73440e65fa04ca36a4a5216a06c57c24798ed3d0c9dbd5b95d543a87474"), looks := true }, kinds := [], alts := [], laidByText := true, laidKinds := [.data, .data, .data, .data, .sentinel, .sentinel, .pinned], laidTests := true, laidLooks := .later }
def FnStokesTextUptoCardSaid : Prop := Claim7.holds Tryz.pinned (.plain (OpenSpec.upto fnStokesTextSpec)) fnStokesTextUptoCard

/-- THE SECOND FORM's CARD OF 'laws.FnStokesRead'. -/
def fnStokesReadUptoCard : Claim7 := { stood := { row := fnStokesReadUptoRow, standIns := [], harness := (true, "8046e73440e65fa04ca36a4a5216a06c57c24798ed3d0c9dbd5b95d543a87474"), looks := true }, kinds := [], alts := [], laidByText := true, laidKinds := [.data, .data, .data, .data, .sentinel, .sentinel, .pinned], laidTests := true, laidLooks := .later }
def FnStokesReadUptoCardSaid : Prop := Claim7.holds Tryz.pinned (.plain (OpenSpec.upto fnStokesReadSpec)) fnStokesReadUptoCard
end Rows
end Go.Proofs.YtklkfkgpjjpaiaaGreatDoor
