/-
  No cell of these rows narrows 'for every input' (looked for: loops, veiled, ifaces, maps, wideKeys, modest, calm, conditions, laid).
  DERIVED. THE GIVEN ROWS OF THIS SEAT. 11 by the template 'for every input the law returns true; each argument reads behind the call as it read before'; 0 by the template 'total and deterministic' (their statements: YtgkekdiffgmllaaTotals.lean).
  GIVEN WITH THE SEED: the statements are not yours to turn. If you find one false, say at which input.
  Laid BY PROGRAM, IN A SANDBOX (cutbox-rows.mjs): the forced cells as the released guide's own fill.sh prints them over the translation a330c1b642c4876e… (all of the seat's roots in one cut). By AI agents, Wed Nov 11 2026. No macro, syntax, notation, axiom, sorry.
-/
import Derived.Test.YtgkekdiffgmllaaChecked
import GoSem.Claim
import GoSem.ClaimJoined
import GoSem.ClaimMapViews
import Derived.JoinedTies
import Derived.KernelRfl
namespace Go.Proofs.Ytgkekdiffgmllaa
/- THE CELL 'sum', in the pinned program and in every row, IS THE sha256 OF THE DUMP (.gsa) THAT YtgkekdiffgmllaaProg.lean LOADS. Nothing in Lean hashes anything: it is a label: what it is worth is what the hold of that sum in a sandbox is worth. -/
noncomputable def Try.pinned : Pinned := { name := "ytgkekdiffgmllaa", sum := "a330c1b642c4876ef650902810bdfed04508f7a29c231fe3deb6962e905a6bbe", checked := Try.checked }
namespace Rows
def none {H : Type} : Left H := { results := [], args := [] }

/-- 'laws.FnRatioWide': WHATEVER THE INPUT: true; the input reads as it did. -/
def fnRatioWideSpec : ChangeSpec := { name := "fnRatioWide", fn := fun _ => fun
  | [d] => { results := [.lit (.bool true)], args := [d] }
  | _ => none }
def fnRatioWideRow : OpenClaim := { program := "ytgkekdiffgmllaa", sum := "a330c1b642c4876ef650902810bdfed04508f7a29c231fe3deb6962e905a6bbe", func := "loop.example/polarisedlight/laws.FnRatioWide", spec := "fnRatioWide", apart := false }
def FnRatioWideSaid : Prop := fnRatioWideRow.holds Try.pinned (OpenSpec.ofChange fnRatioWideSpec)

/-- ITS FALSE NEIGHBOUR: 'it returns false'. Refute it at one input. -/
def fnRatioWideWrong : ChangeSpec := { name := "fnRatioWide", fn := fun _ => fun
  | [d] => { results := [.lit (.bool false)], args := [d] }
  | _ => none }
def FnRatioWideWrongFalsely : Prop := fnRatioWideRow.holds Try.pinned (OpenSpec.ofChange fnRatioWideWrong)

/-- 'laws.FnExactGridFit': WHATEVER THE INPUT: true; the input reads as it did. -/
def fnExactGridFitSpec : ChangeSpec := { name := "fnExactGridFit", fn := fun _ => fun
  | [d1, d2] => { results := [.lit (.bool true)], args := [d1, d2] }
  | _ => none }
def fnExactGridFitRow : OpenClaim := { program := "ytgkekdiffgmllaa", sum := "a330c1b642c4876ef650902810bdfed04508f7a29c231fe3deb6962e905a6bbe", func := "loop.example/polarisedlight/laws.FnExactGridFit", spec := "fnExactGridFit", apart := false }
def FnExactGridFitSaid : Prop := fnExactGridFitRow.holds Try.pinned (OpenSpec.ofChange fnExactGridFitSpec)

/-- ITS FALSE NEIGHBOUR: 'it returns false'. Refute it at one input. -/
def fnExactGridFitWrong : ChangeSpec := { name := "fnExactGridFit", fn := fun _ => fun
  | [d1, d2] => { results := [.lit (.bool false)], args := [d1, d2] }
  | _ => none }
def FnExactGridFitWrongFalsely : Prop := fnExactGridFitRow.holds Try.pinned (OpenSpec.ofChange fnExactGridFitWrong)

/-- 'laws.FnSingles': WHATEVER THE INPUT: true; the input reads as it did. -/
def fnSinglesSpec : ChangeSpec := { name := "fnSingles", fn := fun _ => fun
  | [d] => { results := [.lit (.bool true)], args := [d] }
  | _ => none }
def fnSinglesRow : OpenClaim := { program := "ytgkekdiffgmllaa", sum := "a330c1b642c4876ef650902810bdfed04508f7a29c231fe3deb6962e905a6bbe", func := "loop.example/polarisedlight/laws.FnSingles", spec := "fnSingles", apart := false }
def FnSinglesSaid : Prop := fnSinglesRow.holds Try.pinned (OpenSpec.ofChange fnSinglesSpec)

/-- ITS FALSE NEIGHBOUR: 'it returns false'. Refute it at one input. -/
def fnSinglesWrong : ChangeSpec := { name := "fnSingles", fn := fun _ => fun
  | [d] => { results := [.lit (.bool false)], args := [d] }
  | _ => none }
def FnSinglesWrongFalsely : Prop := fnSinglesRow.holds Try.pinned (OpenSpec.ofChange fnSinglesWrong)

/-- 'laws.FnExactGridSingles': WHATEVER THE INPUT: true; the input reads as it did. -/
def fnExactGridSinglesSpec : ChangeSpec := { name := "fnExactGridSingles", fn := fun _ => fun
  | [d] => { results := [.lit (.bool true)], args := [d] }
  | _ => none }
def fnExactGridSinglesRow : OpenClaim := { program := "ytgkekdiffgmllaa", sum := "a330c1b642c4876ef650902810bdfed04508f7a29c231fe3deb6962e905a6bbe", func := "loop.example/polarisedlight/laws.FnExactGridSingles", spec := "fnExactGridSingles", apart := false }
def FnExactGridSinglesSaid : Prop := fnExactGridSinglesRow.holds Try.pinned (OpenSpec.ofChange fnExactGridSinglesSpec)

/-- ITS FALSE NEIGHBOUR: 'it returns false'. Refute it at one input. -/
def fnExactGridSinglesWrong : ChangeSpec := { name := "fnExactGridSingles", fn := fun _ => fun
  | [d] => { results := [.lit (.bool false)], args := [d] }
  | _ => none }
def FnExactGridSinglesWrongFalsely : Prop := fnExactGridSinglesRow.holds Try.pinned (OpenSpec.ofChange fnExactGridSinglesWrong)

/-- 'laws.FnFit': WHATEVER THE INPUT: true; the input reads as it did. -/
def fnFitSpec : ChangeSpec := { name := "fnFit", fn := fun _ => fun
  | [d] => { results := [.lit (.bool true)], args := [d] }
  | _ => none }
def fnFitRow : OpenClaim := { program := "ytgkekdiffgmllaa", sum := "a330c1b642c4876ef650902810bdfed04508f7a29c231fe3deb6962e905a6bbe", func := "loop.example/polarisedlight/laws.FnFit", spec := "fnFit", apart := false }
def FnFitSaid : Prop := fnFitRow.holds Try.pinned (OpenSpec.ofChange fnFitSpec)

/-- ITS FALSE NEIGHBOUR: 'it returns false'. Refute it at one input. -/
def fnFitWrong : ChangeSpec := { name := "fnFit", fn := fun _ => fun
  | [d] => { results := [.lit (.bool false)], args := [d] }
  | _ => none }
def FnFitWrongFalsely : Prop := fnFitRow.holds Try.pinned (OpenSpec.ofChange fnFitWrong)

/-- 'laws.FnExactGridBest': WHATEVER THE INPUT: true; the input reads as it did. -/
def fnExactGridBestSpec : ChangeSpec := { name := "fnExactGridBest", fn := fun _ => fun
  | [d1, d2] => { results := [.lit (.bool true)], args := [d1, d2] }
  | _ => none }
def fnExactGridBestRow : OpenClaim := { program := "ytgkekdiffgmllaa", sum := "a330c1b642c4876ef650902810bdfed04508f7a29c231fe3deb6962e905a6bbe", func := "loop.example/polarisedlight/laws.FnExactGridBest", spec := "fnExactGridBest", apart := false }
def FnExactGridBestSaid : Prop := fnExactGridBestRow.holds Try.pinned (OpenSpec.ofChange fnExactGridBestSpec)

/-- ITS FALSE NEIGHBOUR: 'it returns false'. Refute it at one input. -/
def fnExactGridBestWrong : ChangeSpec := { name := "fnExactGridBest", fn := fun _ => fun
  | [d1, d2] => { results := [.lit (.bool false)], args := [d1, d2] }
  | _ => none }
def FnExactGridBestWrongFalsely : Prop := fnExactGridBestRow.holds Try.pinned (OpenSpec.ofChange fnExactGridBestWrong)

/-- 'laws.FnExactGridSorted': WHATEVER THE INPUT: true; the input reads as it did. -/
def fnExactGridSortedSpec : ChangeSpec := { name := "fnExactGridSorted", fn := fun _ => fun
  | [d1, d2] => { results := [.lit (.bool true)], args := [d1, d2] }
  | _ => none }
def fnExactGridSortedRow : OpenClaim := { program := "ytgkekdiffgmllaa", sum := "a330c1b642c4876ef650902810bdfed04508f7a29c231fe3deb6962e905a6bbe", func := "loop.example/polarisedlight/laws.FnExactGridSorted", spec := "fnExactGridSorted", apart := false }
def FnExactGridSortedSaid : Prop := fnExactGridSortedRow.holds Try.pinned (OpenSpec.ofChange fnExactGridSortedSpec)

/-- ITS FALSE NEIGHBOUR: 'it returns false'. Refute it at one input. -/
def fnExactGridSortedWrong : ChangeSpec := { name := "fnExactGridSorted", fn := fun _ => fun
  | [d1, d2] => { results := [.lit (.bool false)], args := [d1, d2] }
  | _ => none }
def FnExactGridSortedWrongFalsely : Prop := fnExactGridSortedRow.holds Try.pinned (OpenSpec.ofChange fnExactGridSortedWrong)

/-- 'laws.FnBest': WHATEVER THE INPUT: true; the input reads as it did. -/
def fnBestSpec : ChangeSpec := { name := "fnBest", fn := fun _ => fun
  | [d] => { results := [.lit (.bool true)], args := [d] }
  | _ => none }
def fnBestRow : OpenClaim := { program := "ytgkekdiffgmllaa", sum := "a330c1b642c4876ef650902810bdfed04508f7a29c231fe3deb6962e905a6bbe", func := "loop.example/polarisedlight/laws.FnBest", spec := "fnBest", apart := false }
def FnBestSaid : Prop := fnBestRow.holds Try.pinned (OpenSpec.ofChange fnBestSpec)

/-- ITS FALSE NEIGHBOUR: 'it returns false'. Refute it at one input. -/
def fnBestWrong : ChangeSpec := { name := "fnBest", fn := fun _ => fun
  | [d] => { results := [.lit (.bool false)], args := [d] }
  | _ => none }
def FnBestWrongFalsely : Prop := fnBestRow.holds Try.pinned (OpenSpec.ofChange fnBestWrong)

/-- 'laws.FnSorted': WHATEVER THE INPUT: true; the input reads as it did. -/
def fnSortedSpec : ChangeSpec := { name := "fnSorted", fn := fun _ => fun
  | [d] => { results := [.lit (.bool true)], args := [d] }
  | _ => none }
def fnSortedRow : OpenClaim := { program := "ytgkekdiffgmllaa", sum := "a330c1b642c4876ef650902810bdfed04508f7a29c231fe3deb6962e905a6bbe", func := "loop.example/polarisedlight/laws.FnSorted", spec := "fnSorted", apart := false }
def FnSortedSaid : Prop := fnSortedRow.holds Try.pinned (OpenSpec.ofChange fnSortedSpec)

/-- ITS FALSE NEIGHBOUR: 'it returns false'. Refute it at one input. -/
def fnSortedWrong : ChangeSpec := { name := "fnSorted", fn := fun _ => fun
  | [d] => { results := [.lit (.bool false)], args := [d] }
  | _ => none }
def FnSortedWrongFalsely : Prop := fnSortedRow.holds Try.pinned (OpenSpec.ofChange fnSortedWrong)

/-- 'laws.FnExactGridAgrees': WHATEVER THE INPUT: true; the input reads as it did. -/
def fnExactGridAgreesSpec : ChangeSpec := { name := "fnExactGridAgrees", fn := fun _ => fun
  | [d1, d2] => { results := [.lit (.bool true)], args := [d1, d2] }
  | _ => none }
def fnExactGridAgreesRow : OpenClaim := { program := "ytgkekdiffgmllaa", sum := "a330c1b642c4876ef650902810bdfed04508f7a29c231fe3deb6962e905a6bbe", func := "loop.example/polarisedlight/laws.FnExactGridAgrees", spec := "fnExactGridAgrees", apart := false }
def FnExactGridAgreesSaid : Prop := fnExactGridAgreesRow.holds Try.pinned (OpenSpec.ofChange fnExactGridAgreesSpec)

/-- ITS FALSE NEIGHBOUR: 'it returns false'. Refute it at one input. -/
def fnExactGridAgreesWrong : ChangeSpec := { name := "fnExactGridAgrees", fn := fun _ => fun
  | [d1, d2] => { results := [.lit (.bool false)], args := [d1, d2] }
  | _ => none }
def FnExactGridAgreesWrongFalsely : Prop := fnExactGridAgreesRow.holds Try.pinned (OpenSpec.ofChange fnExactGridAgreesWrong)

/-- 'laws.FnAgrees': WHATEVER THE INPUT: true; the input reads as it did. -/
def fnAgreesSpec : ChangeSpec := { name := "fnAgrees", fn := fun _ => fun
  | [d] => { results := [.lit (.bool true)], args := [d] }
  | _ => none }
def fnAgreesRow : OpenClaim := { program := "ytgkekdiffgmllaa", sum := "a330c1b642c4876ef650902810bdfed04508f7a29c231fe3deb6962e905a6bbe", func := "loop.example/polarisedlight/laws.FnAgrees", spec := "fnAgrees", apart := false }
def FnAgreesSaid : Prop := fnAgreesRow.holds Try.pinned (OpenSpec.ofChange fnAgreesSpec)

/-- ITS FALSE NEIGHBOUR: 'it returns false'. Refute it at one input. -/
def fnAgreesWrong : ChangeSpec := { name := "fnAgrees", fn := fun _ => fun
  | [d] => { results := [.lit (.bool false)], args := [d] }
  | _ => none }
def FnAgreesWrongFalsely : Prop := fnAgreesRow.holds Try.pinned (OpenSpec.ofChange fnAgreesWrong)

/- THE SECOND FORM. 'bulk': how many values and letters a reading holds, each counted each time it is reached (what is shared counts as often as it is met; a slice's spare places count too). A statement '..UptoSaid' is the law's where the arguments, and the package variables that the reading takes, are together of bulk at most 1048576: NARROWER than '..Said'. Prove '..Said' where nothing that the law and all that it calls make is longer than what came in: it says more and counts as full. Else prove '..UptoSaid'. A law counts once. -/
mutual
def uptoBulk {H : Type} : DataW H → Nat
  | .lit (.string bytes) => bytes.length + 1
  | .lit _ => 1
  | .nil => 1
  | .ptr d => uptoBulk d + 1
  | .slice elems spare => uptoBulkAll elems + uptoBulkAll spare + 1
  | .agg parts => uptoBulkAll parts + 1
  | .iface _ d => uptoBulk d + 1
  | .map entries => uptoBulkEntries entries + 1
  | .held _ => 1
def uptoBulkAll {H : Type} : List (DataW H) → Nat
  | [] => 0
  | d :: r => uptoBulk d + uptoBulkAll r
def uptoBulkEntries {H : Type} : List (Lit × DataW H) → Nat
  | [] => 0
  | x :: r => uptoBulkEntry x + uptoBulkEntries r
def uptoBulkEntry {H : Type} : Lit × DataW H → Nat
  | (.string bytes, d) => bytes.length + uptoBulk d + 1
  | (_, d) => uptoBulk d + 1
 end
def uptoSmall : (H : Type) → List (DataW H) → Bool := fun _ ds => decide (uptoBulkAll ds ≤ 1048576)
def OpenSpec.upto (s : _root_.Go.ChangeSpec) : _root_.Go.OpenSpec := { _root_.Go.OpenSpec.ofChange s with cond := some uptoSmall }

/-- 'laws.FnRatioWide', WHERE WHAT IT READS IS OF BULK AT MOST 1048576: true; the input reads as it did. -/
def fnRatioWideUptoRow : OpenClaim := { program := "ytgkekdiffgmllaa", sum := "a330c1b642c4876ef650902810bdfed04508f7a29c231fe3deb6962e905a6bbe", func := "loop.example/polarisedlight/laws.FnRatioWide", spec := "fnRatioWide", apart := false, narrowed := true }
def FnRatioWideUptoSaid : Prop := fnRatioWideUptoRow.holds Try.pinned (OpenSpec.upto fnRatioWideSpec)

/-- 'laws.FnExactGridFit', WHERE WHAT IT READS IS OF BULK AT MOST 1048576: true; the input reads as it did. -/
def fnExactGridFitUptoRow : OpenClaim := { program := "ytgkekdiffgmllaa", sum := "a330c1b642c4876ef650902810bdfed04508f7a29c231fe3deb6962e905a6bbe", func := "loop.example/polarisedlight/laws.FnExactGridFit", spec := "fnExactGridFit", apart := false, narrowed := true }
def FnExactGridFitUptoSaid : Prop := fnExactGridFitUptoRow.holds Try.pinned (OpenSpec.upto fnExactGridFitSpec)

/-- 'laws.FnSingles', WHERE WHAT IT READS IS OF BULK AT MOST 1048576: true; the input reads as it did. -/
def fnSinglesUptoRow : OpenClaim := { program := "ytgkekdiffgmllaa", sum := "a330c1b642c4876ef650902810bdfed04508f7a29c231fe3deb6962e905a6bbe", func := "loop.example/polarisedlight/laws.FnSingles", spec := "fnSingles", apart := false, narrowed := true }
def FnSinglesUptoSaid : Prop := fnSinglesUptoRow.holds Try.pinned (OpenSpec.upto fnSinglesSpec)

/-- 'laws.FnExactGridSingles', WHERE WHAT IT READS IS OF BULK AT MOST 1048576: true; the input reads as it did. -/
def fnExactGridSinglesUptoRow : OpenClaim := { program := "ytgkekdiffgmllaa", sum := "a330c1b642c4876ef650902810bdfed04508f7a29c231fe3deb6962e905a6bbe", func := "loop.example/polarisedlight/laws.FnExactGridSingles", spec := "fnExactGridSingles", apart := false, narrowed := true }
def FnExactGridSinglesUptoSaid : Prop := fnExactGridSinglesUptoRow.holds Try.pinned (OpenSpec.upto fnExactGridSinglesSpec)

/-- 'laws.FnFit', WHERE WHAT IT READS IS OF BULK AT MOST 1048576: true; the input reads as it did. -/
def fnFitUptoRow : OpenClaim := { program := "ytgkekdiffgmllaa", sum := "a330c1b642c4876ef650902810bdfed04508f7a29c231fe3deb6962e905a6bbe", func := "loop.example/polarisedlight/laws.FnFit", spec := "fnFit", apart := false, narrowed := true }
def FnFitUptoSaid : Prop := fnFitUptoRow.holds Try.pinned (OpenSpec.upto fnFitSpec)

/-- 'laws.FnExactGridBest', WHERE WHAT IT READS IS OF BULK AT MOST 1048576: true; the input reads as it did. -/
def fnExactGridBestUptoRow : OpenClaim := { program := "ytgkekdiffgmllaa", sum := "a330c1b642c4876ef650902810bdfed04508f7a29c231fe3deb6962e905a6bbe", func := "loop.example/polarisedlight/laws.FnExactGridBest", spec := "fnExactGridBest", apart := false, narrowed := true }
def FnExactGridBestUptoSaid : Prop := fnExactGridBestUptoRow.holds Try.pinned (OpenSpec.upto fnExactGridBestSpec)

/-- 'laws.FnExactGridSorted', WHERE WHAT IT READS IS OF BULK AT MOST 1048576: true; the input reads as it did. -/
def fnExactGridSortedUptoRow : OpenClaim := { program := "ytgkekdiffgmllaa", sum := "a330c1b642c4876ef650902810bdfed04508f7a29c231fe3deb6962e905a6bbe", func := "loop.example/polarisedlight/laws.FnExactGridSorted", spec := "fnExactGridSorted", apart := false, narrowed := true }
def FnExactGridSortedUptoSaid : Prop := fnExactGridSortedUptoRow.holds Try.pinned (OpenSpec.upto fnExactGridSortedSpec)

/-- 'laws.FnBest', WHERE WHAT IT READS IS OF BULK AT MOST 1048576: true; the input reads as it did. -/
def fnBestUptoRow : OpenClaim := { program := "ytgkekdiffgmllaa", sum := "a330c1b642c4876ef650902810bdfed04508f7a29c231fe3deb6962e905a6bbe", func := "loop.example/polarisedlight/laws.FnBest", spec := "fnBest", apart := false, narrowed := true }
def FnBestUptoSaid : Prop := fnBestUptoRow.holds Try.pinned (OpenSpec.upto fnBestSpec)

/-- 'laws.FnSorted', WHERE WHAT IT READS IS OF BULK AT MOST 1048576: true; the input reads as it did. -/
def fnSortedUptoRow : OpenClaim := { program := "ytgkekdiffgmllaa", sum := "a330c1b642c4876ef650902810bdfed04508f7a29c231fe3deb6962e905a6bbe", func := "loop.example/polarisedlight/laws.FnSorted", spec := "fnSorted", apart := false, narrowed := true }
def FnSortedUptoSaid : Prop := fnSortedUptoRow.holds Try.pinned (OpenSpec.upto fnSortedSpec)

/-- 'laws.FnExactGridAgrees', WHERE WHAT IT READS IS OF BULK AT MOST 1048576: true; the input reads as it did. -/
def fnExactGridAgreesUptoRow : OpenClaim := { program := "ytgkekdiffgmllaa", sum := "a330c1b642c4876ef650902810bdfed04508f7a29c231fe3deb6962e905a6bbe", func := "loop.example/polarisedlight/laws.FnExactGridAgrees", spec := "fnExactGridAgrees", apart := false, narrowed := true }
def FnExactGridAgreesUptoSaid : Prop := fnExactGridAgreesUptoRow.holds Try.pinned (OpenSpec.upto fnExactGridAgreesSpec)

/-- 'laws.FnAgrees', WHERE WHAT IT READS IS OF BULK AT MOST 1048576: true; the input reads as it did. -/
def fnAgreesUptoRow : OpenClaim := { program := "ytgkekdiffgmllaa", sum := "a330c1b642c4876ef650902810bdfed04508f7a29c231fe3deb6962e905a6bbe", func := "loop.example/polarisedlight/laws.FnAgrees", spec := "fnAgrees", apart := false, narrowed := true }
def FnAgreesUptoSaid : Prop := fnAgreesUptoRow.holds Try.pinned (OpenSpec.upto fnAgreesSpec)

end Rows
end Go.Proofs.Ytgkekdiffgmllaa
