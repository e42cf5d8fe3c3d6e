/-
  DERIVED. GIVEN WITH THE SEED: THE CARDS: each row of YtmmjkchjgeklnaaGreatDoorRows.lean that lists a variable, with what it lists TIED to the program's text (the seventh form; the later family's looks); each row that meets fmt, with fmt's text TOLD by the authors' own Lean function (tested against real Go, not proved from fmt's source: count such statements apart). THE CARD IS WHAT COUNTS. Prove the row's statement (the work); the ties are given (YtmmjkchjgeklnaaGreatDoorTie.lean); close each card by the builder's one call (the guide's Derived/Test/ToyasCard.lean, 'card_holds'). Laid BY PROGRAM, IN A SANDBOX (cutbox-door.mjs). By AI agents, Wed Nov 11 2026. No macro, syntax, notation, axiom, sorry.
-/
import Derived.Test.YtmmjkchjgeklnaaGreatDoorRows
import GoSem.ClaimSeven
namespace Go.Proofs.YtmmjkchjgeklnaaGreatDoor
namespace Rows

/-- THE TIED CARD OF 'laws.FnExactRecordRight'. -/
def fnExactRecordRightCard : Claim7 := { stood := { row := fnExactRecordRightRow, standIns := [], harness := (true, "7c2589d9967ff894bd58c8ae2675a52203c458d468ea2fd7fabcba49e4218427"), looks := true }, kinds := [], alts := [], laidByText := true, laidKinds := [.data, .data, .data, .data, .sentinel, .sentinel, .data, .data, .data, .pinned], laidTests := true, laidLooks := .later }
def FnExactRecordRightCardSaid : Prop := Claim7.holds Tryz.pinned (.plain (OpenSpec.ofChange fnExactRecordRightSpec)) fnExactRecordRightCard

/-- THE TIED CARD OF 'laws.FnExactRecordMake'. -/
def fnExactRecordMakeCard : Claim7 := { stood := { row := fnExactRecordMakeRow, standIns := [], harness := (true, "7c2589d9967ff894bd58c8ae2675a52203c458d468ea2fd7fabcba49e4218427"), looks := true }, kinds := [], alts := [], laidByText := true, laidKinds := [.data, .data, .data, .data, .sentinel, .sentinel, .data, .data, .data, .pinned], laidTests := true, laidLooks := .later }
def FnExactRecordMakeCardSaid : Prop := Claim7.holds Tryz.pinned (.plain (OpenSpec.ofChange fnExactRecordMakeSpec)) fnExactRecordMakeCard

/-- THE TIED CARD OF 'laws.FnExactRecordSame'. -/
def fnExactRecordSameCard : Claim7 := { stood := { row := fnExactRecordSameRow, standIns := [], harness := (true, "7c2589d9967ff894bd58c8ae2675a52203c458d468ea2fd7fabcba49e4218427"), looks := true }, kinds := [], alts := [], laidByText := true, laidKinds := [.data, .data, .data, .data, .sentinel, .sentinel, .data, .data, .data, .pinned], laidTests := true, laidLooks := .later }
def FnExactRecordSameCardSaid : Prop := Claim7.holds Tryz.pinned (.plain (OpenSpec.ofChange fnExactRecordSameSpec)) fnExactRecordSameCard

/-- THE TIED CARD OF 'laws.FnRight'. -/
def fnRightCard : Claim7 := { stood := { row := fnRightRow, standIns := [], harness := (true, "7c2589d9967ff894bd58c8ae2675a52203c458d468ea2fd7fabcba49e4218427"), looks := true }, kinds := [], alts := [], laidByText := true, laidKinds := [.data, .data, .data, .data, .sentinel, .sentinel, .data, .data, .data, .pinned], laidTests := true, laidLooks := .later }
def FnRightCardSaid : Prop := Claim7.holds Tryz.pinned (.plain (OpenSpec.ofChange fnRightSpec)) fnRightCard

/-- THE TIED CARD OF 'laws.FnExactArchiveFind'. -/
def fnExactArchiveFindCard : Claim7 := { stood := { row := fnExactArchiveFindRow, standIns := [], harness := (true, "7c2589d9967ff894bd58c8ae2675a52203c458d468ea2fd7fabcba49e4218427"), looks := true }, kinds := [], alts := [], laidByText := true, laidKinds := [.data, .data, .data, .data, .sentinel, .sentinel, .data, .data, .data, .pinned], laidTests := true, laidLooks := .later }
def FnExactArchiveFindCardSaid : Prop := Claim7.holds Tryz.pinned (.plain (OpenSpec.ofChange fnExactArchiveFindSpec)) fnExactArchiveFindCard

/-- THE TIED CARD OF 'laws.FnFind'. -/
def fnFindCard : Claim7 := { stood := { row := fnFindRow, standIns := [], harness := (true, "7c2589d9967ff894bd58c8ae2675a52203c458d468ea2fd7fabcba49e4218427"), looks := true }, kinds := [], alts := [], laidByText := true, laidKinds := [.data, .data, .data, .data, .sentinel, .sentinel, .data, .data, .data, .pinned], laidTests := true, laidLooks := .later }
def FnFindCardSaid : Prop := Claim7.holds Tryz.pinned (.plain (OpenSpec.ofChange fnFindSpec)) fnFindCard

/-- THE TIED CARD OF 'laws.FnRecord'. -/
def fnRecordCard : Claim7 := { stood := { row := fnRecordRow, standIns := [], harness := (true, "7c2589d9967ff894bd58c8ae2675a52203c458d468ea2fd7fabcba49e4218427"), looks := true }, kinds := [], alts := [], laidByText := true, laidKinds := [.data, .data, .data, .data, .sentinel, .sentinel, .data, .data, .data, .pinned], laidTests := true, laidLooks := .later }
def FnRecordCardSaid : Prop := Claim7.holds Tryz.pinned (.plain (OpenSpec.ofChange fnRecordSpec)) fnRecordCard

/-- THE TIED CARD OF 'laws.FnSame'. -/
def fnSameCard : Claim7 := { stood := { row := fnSameRow, standIns := [], harness := (true, "7c2589d9967ff894bd58c8ae2675a52203c458d468ea2fd7fabcba49e4218427"), looks := true }, kinds := [], alts := [], laidByText := true, laidKinds := [.data, .data, .data, .data, .sentinel, .sentinel, .data, .data, .data, .pinned], laidTests := true, laidLooks := .later }
def FnSameCardSaid : Prop := Claim7.holds Tryz.pinned (.plain (OpenSpec.ofChange fnSameSpec)) fnSameCard

/-- THE SECOND FORM's CARD OF 'laws.FnExactRecordRight'. -/
def fnExactRecordRightUptoCard : Claim7 := { stood := { row := fnExactRecordRightUptoRow, standIns := [], harness := (true, "7c2589d9967ff894bd58c8ae2675a52203c458d468ea2fd7fabcba49e4218427"), looks := true }, kinds := [], alts := [], laidByText := true, laidKinds := [.data, .data, .data, .data, .sentinel, .sentinel, .data, .data, .data, .pinned], laidTests := true, laidLooks := .later }
def FnExactRecordRightUptoCardSaid : Prop := Claim7.holds Tryz.pinned (.plain (OpenSpec.upto fnExactRecordRightSpec)) fnExactRecordRightUptoCard

/-- THE SECOND FORM's CARD OF 'laws.FnExactRecordMake'. -/
def fnExactRecordMakeUptoCard : Claim7 := { stood := { row := fnExactRecordMakeUptoRow, standIns := [], harness := (true, "7c2589d9967ff894bd58c8ae2675a52203c458d468ea2fd7fabcba49e4218427"), looks := true }, kinds := [], alts := [], laidByText := true, laidKinds := [.data, .data, .data, .data, .sentinel, .sentinel, .data, .data, .data, .pinned], laidTests := true, laidLooks := .later }
def FnExactRecordMakeUptoCardSaid : Prop := Claim7.holds Tryz.pinned (.plain (OpenSpec.upto fnExactRecordMakeSpec)) fnExactRecordMakeUptoCard

/-- THE SECOND FORM's CARD OF 'laws.FnExactRecordSame'. -/
def fnExactRecordSameUptoCard : Claim7 := { stood := { row := fnExactRecordSameUptoRow, standIns := [], harness := (true, "7c2589d9967ff894bd58c8ae2675a52203c458d468ea2fd7fabcba49e4218427"), looks := true }, kinds := [], alts := [], laidByText := true, laidKinds := [.data, .data, .data, .data, .sentinel, .sentinel, .data, .data, .data, .pinned], laidTests := true, laidLooks := .later }
def FnExactRecordSameUptoCardSaid : Prop := Claim7.holds Tryz.pinned (.plain (OpenSpec.upto fnExactRecordSameSpec)) fnExactRecordSameUptoCard

/-- THE SECOND FORM's CARD OF 'laws.FnRight'. -/
def fnRightUptoCard : Claim7 := { stood := { row := fnRightUptoRow, standIns := [], harness := (true, "7c2589d9967ff894bd58c8ae2675a52203c458d468ea2fd7fabcba49e4218427"), looks := true }, kinds := [], alts := [], laidByText := true, laidKinds := [.data, .data, .data, .data, .sentinel, .sentinel, .data, .data, .data, .pinned], laidTests := true, laidLooks := .later }
def FnRightUptoCardSaid : Prop := Claim7.holds Tryz.pinned (.plain (OpenSpec.upto fnRightSpec)) fnRightUptoCard

/-- THE SECOND FORM's CARD OF 'laws.FnExactArchiveFind'. -/
def fnExactArchiveFindUptoCard : Claim7 := { stood := { row := fnExactArchiveFindUptoRow, standIns := [], harness := (true, "7c2589d9967ff894bd58c8ae2675a52203c458d468ea2fd7fabcba49e4218427"), looks := true }, kinds := [], alts := [], laidByText := true, laidKinds := [.data, .data, .data, .data, .sentinel, .sentinel, .data, .data, .data, .pinned], laidTests := true, laidLooks := .later }
def FnExactArchiveFindUptoCardSaid : Prop := Claim7.holds Tryz.pinned (.plain (OpenSpec.upto fnExactArchiveFindSpec)) fnExactArchiveFindUptoCard

/-- THE SECOND FORM's CARD OF 'laws.FnFind'. -/
def fnFindUptoCard : Claim7 := { stood := { row := fnFindUptoRow, standIns := [], harness := (true, "7c2589d9967ff894bd58c8ae2675a52203c458d468ea2fd7fabcba49e4218427"), looks := true }, kinds := [], alts := [], laidByText := true, laidKinds := [.data, .data, .data, .data, .sentinel, .sentinel, .data, .data, .data, .pinned], laidTests := true, laidLooks := .later }
def FnFindUptoCardSaid : Prop := Claim7.holds Tryz.pinned (.plain (OpenSpec.upto fnFindSpec)) fnFindUptoCard

/-- THE SECOND FORM's CARD OF 'laws.FnRecord'. -/
def fnRecordUptoCard : Claim7 := { stood := { row := fnRecordUptoRow, standIns := [], harness := (true, "7c2589d9967ff894bd58c8ae2675a52203c458d468ea2fd7fabcba49e4218427"), looks := true }, kinds := [], alts := [], laidByText := true, laidKinds := [.data, .data, .data, .data, .sentinel, .sentinel, .data, .data, .data, .pinned], laidTests := true, laidLooks := .later }
def FnRecordUptoCardSaid : Prop := Claim7.holds Tryz.pinned (.plain (OpenSpec.upto fnRecordSpec)) fnRecordUptoCard

/-- THE SECOND FORM's CARD OF 'laws.FnSame'. -/
def fnSameUptoCard : Claim7 := { stood := { row := fnSameUptoRow, standIns := [], harness := (true, "7c2589d9967ff894bd58c8ae2675a52203c458d468ea2fd7fabcba49e4218427"), looks := true }, kinds := [], alts := [], laidByText := true, laidKinds := [.data, .data, .data, .data, .sentinel, .sentinel, .data, .data, .data, .pinned], laidTests := true, laidLooks := .later }
def FnSameUptoCardSaid : Prop := Claim7.holds Tryz.pinned (.plain (OpenSpec.upto fnSameSpec)) fnSameUptoCard
end Rows
end Go.Proofs.YtmmjkchjgeklnaaGreatDoor
