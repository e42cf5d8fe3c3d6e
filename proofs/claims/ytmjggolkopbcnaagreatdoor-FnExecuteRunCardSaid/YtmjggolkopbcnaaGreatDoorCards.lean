/-
  DERIVED. GIVEN WITH THE SEED: THE CARDS: each row of YtmjggolkopbcnaaGreatDoorRows.lean that lists a variable, with what it lists TIED to the program's text (the seventh form; the later family's looks); each row that meets fmt, with fmt's text TOLD by the authors' own Lean function (tested against real Go, not proved from fmt's source: count such statements apart). THE CARD IS WHAT COUNTS. Prove the row's statement (the work); the ties are given (YtmjggolkopbcnaaGreatDoorTie.lean); close each card by the builder's one call (the guide's Derived/Test/ToyasCard.lean, 'card_holds'). Laid BY PROGRAM, IN A SANDBOX (cutbox-door.mjs). By AI agents, Wed Nov 11 2026. No macro, syntax, notation, axiom, sorry.
-/
import Derived.Test.YtmjggolkopbcnaaGreatDoorRows
import GoSem.ClaimSeven
namespace Go.Proofs.YtmjggolkopbcnaaGreatDoor
namespace Rows

/-- THE TIED CARD OF 'laws.FnExecuteBench'. -/
def fnExecuteBenchCard : Claim7 := { stood := { row := fnExecuteBenchRow, standIns := [], harness := (true, "fa6156b8a5c434cc31c75c42b6e1fc07cde774b1def1bf900dbbbea8dea938e9"), looks := true }, kinds := [], alts := [], laidByText := true, laidKinds := [.data, .data, .data, .data, .sentinel, .sentinel, .data, .data, .data, .data, .pinned], laidTests := true, laidLooks := .later }
def FnExecuteBenchCardSaid : Prop := Claim7.holds Tryz.pinned (.plain (OpenSpec.ofChange fnExecuteBenchSpec)) fnExecuteBenchCard

/-- THE TIED CARD OF 'laws.FnExecuteMeter'. -/
def fnExecuteMeterCard : Claim7 := { stood := { row := fnExecuteMeterRow, standIns := [], harness := (true, "fa6156b8a5c434cc31c75c42b6e1fc07cde774b1def1bf900dbbbea8dea938e9"), looks := true }, kinds := [], alts := [], laidByText := true, laidKinds := [.data, .data, .data, .data, .sentinel, .sentinel, .data, .data, .data, .data, .pinned], laidTests := true, laidLooks := .later }
def FnExecuteMeterCardSaid : Prop := Claim7.holds Tryz.pinned (.plain (OpenSpec.ofChange fnExecuteMeterSpec)) fnExecuteMeterCard

/-- THE TIED CARD OF 'laws.FnExecuteRun'. -/
def fnExecuteRunCard : Claim7 := { stood := { row := fnExecuteRunRow, standIns := [], harness := (true, "fa6156b8a5c434cc31c75c42b6e1fc07cde774b1def1bf900dbbbea8dea938e9"), looks := true }, kinds := [], alts := [], laidByText := true, laidKinds := [.data, .data, .data, .data, .sentinel, .sentinel, .data, .data, .data, .data, .pinned], laidTests := true, laidLooks := .later }
def FnExecuteRunCardSaid : Prop := Claim7.holds Tryz.pinned (.plain (OpenSpec.ofChange fnExecuteRunSpec)) fnExecuteRunCard

/-- THE SECOND FORM's CARD OF 'laws.FnExecuteBench'. -/
def fnExecuteBenchUptoCard : Claim7 := { stood := { row := fnExecuteBenchUptoRow, standIns := [], harness := (true, "fa6156b8a5c434cc31c75c42b6e1fc07cde774b1def1bf900dbbbea8dea938e9"), looks := true }, kinds := [], alts := [], laidByText := true, laidKinds := [.data, .data, .data, .data, .sentinel, .sentinel, .data, .data, .data, .data, .pinned], laidTests := true, laidLooks := .later }
def FnExecuteBenchUptoCardSaid : Prop := Claim7.holds Tryz.pinned (.plain (OpenSpec.upto fnExecuteBenchSpec)) fnExecuteBenchUptoCard

/-- THE SECOND FORM's CARD OF 'laws.FnExecuteMeter'. -/
def fnExecuteMeterUptoCard : Claim7 := { stood := { row := fnExecuteMeterUptoRow, standIns := [], harness := (true, "fa6156b8a5c434cc31c75c42b6e1fc07cde774b1def1bf900dbbbea8dea938e9"), looks := true }, kinds := [], alts := [], laidByText := true, laidKinds := [.data, .data, .data, .data, .sentinel, .sentinel, .data, .data, .data, .data, .pinned], laidTests := true, laidLooks := .later }
def FnExecuteMeterUptoCardSaid : Prop := Claim7.holds Tryz.pinned (.plain (OpenSpec.upto fnExecuteMeterSpec)) fnExecuteMeterUptoCard

/-- THE SECOND FORM's CARD OF 'laws.FnExecuteRun'. -/
def fnExecuteRunUptoCard : Claim7 := { stood := { row := fnExecuteRunUptoRow, standIns := [], harness := (true, "fa6156b8a5c434cc31c75c42b6e1fc07cde774b1def1bf900dbbbea8dea938e9"), looks := true }, kinds := [], alts := [], laidByText := true, laidKinds := [.data, .data, .data, .data, .sentinel, .sentinel, .data, .data, .data, .data, .pinned], laidTests := true, laidLooks := .later }
def FnExecuteRunUptoCardSaid : Prop := Claim7.holds Tryz.pinned (.plain (OpenSpec.upto fnExecuteRunSpec)) fnExecuteRunUptoCard
end Rows
end Go.Proofs.YtmjggolkopbcnaaGreatDoor
