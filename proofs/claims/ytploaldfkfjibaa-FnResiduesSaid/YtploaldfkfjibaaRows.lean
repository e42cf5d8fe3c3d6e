/-
  No cell of these rows narrows 'for every input' (looked for: loops, veiled, ifaces, maps, wideKeys, modest, calm, conditions, laid).
  DERIVED. THE GIVEN ROWS OF THIS SEAT. 17 by the template 'for every input the law returns true; each argument reads behind the call as it read before'; 0 by the template 'total and deterministic' (their statements: YtploaldfkfjibaaTotals.lean).
  GIVEN WITH THE SEED: the statements are not yours to turn. If you find one false, say at which input.
  Laid BY PROGRAM, IN A SANDBOX (cutbox-rows.mjs): the forced cells as the released guide's own fill.sh prints them over the translation 753f802a75b6d8b1… (all of the seat's roots in one cut). By AI agents, Wed Nov 11 2026. No macro, syntax, notation, axiom, sorry.
-/
import Derived.Test.YtploaldfkfjibaaChecked
import GoSem.Claim
import GoSem.ClaimJoined
import GoSem.ClaimMapViews
import Derived.JoinedTies
import Derived.KernelRfl
namespace Go.Proofs.Ytploaldfkfjibaa
/- THE CELL 'sum', in the pinned program and in every row, IS THE sha256 OF THE DUMP (.gsa) THAT YtploaldfkfjibaaProg.lean LOADS. Nothing in Lean hashes anything: it is a label: what it is worth is what the hold of that sum in a sandbox is worth. -/
noncomputable def Try.pinned : Pinned := { name := "ytploaldfkfjibaa", sum := "753f802a75b6d8b15bbac9f6441763513eceff50e4bdf1559c4059d08579c3bb", checked := Try.checked }
namespace Rows
def none {H : Type} : Left H := { results := [], args := [] }

/-- 'laws.FnExactGlassValid': WHATEVER THE INPUT: true; the input reads as it did. -/
def fnExactGlassValidSpec : ChangeSpec := { name := "fnExactGlassValid", fn := fun _ => fun
  | [d] => { results := [.lit (.bool true)], args := [d] }
  | _ => none }
def fnExactGlassValidRow : OpenClaim := { program := "ytploaldfkfjibaa", sum := "753f802a75b6d8b15bbac9f6441763513eceff50e4bdf1559c4059d08579c3bb", func := "loop.example/polarisedlight/laws.FnExactGlassValid", spec := "fnExactGlassValid", apart := false }
def FnExactGlassValidSaid : Prop := fnExactGlassValidRow.holds Try.pinned (OpenSpec.ofChange fnExactGlassValidSpec)

/-- ITS FALSE NEIGHBOUR: 'it returns false'. Refute it at one input. -/
def fnExactGlassValidWrong : ChangeSpec := { name := "fnExactGlassValid", fn := fun _ => fun
  | [d] => { results := [.lit (.bool false)], args := [d] }
  | _ => none }
def FnExactGlassValidWrongFalsely : Prop := fnExactGlassValidRow.holds Try.pinned (OpenSpec.ofChange fnExactGlassValidWrong)

/-- 'laws.FnTurned': WHATEVER THE INPUT: true; the input reads as it did. -/
def fnTurnedSpec : ChangeSpec := { name := "fnTurned", fn := fun _ => fun
  | [d] => { results := [.lit (.bool true)], args := [d] }
  | _ => none }
def fnTurnedRow : OpenClaim := { program := "ytploaldfkfjibaa", sum := "753f802a75b6d8b15bbac9f6441763513eceff50e4bdf1559c4059d08579c3bb", func := "loop.example/polarisedlight/laws.FnTurned", spec := "fnTurned", apart := false }
def FnTurnedSaid : Prop := fnTurnedRow.holds Try.pinned (OpenSpec.ofChange fnTurnedSpec)

/-- ITS FALSE NEIGHBOUR: 'it returns false'. Refute it at one input. -/
def fnTurnedWrong : ChangeSpec := { name := "fnTurned", fn := fun _ => fun
  | [d] => { results := [.lit (.bool false)], args := [d] }
  | _ => none }
def FnTurnedWrongFalsely : Prop := fnTurnedRow.holds Try.pinned (OpenSpec.ofChange fnTurnedWrong)

/-- 'laws.FnGlass': WHATEVER THE INPUT: true; the input reads as it did. -/
def fnGlassSpec : ChangeSpec := { name := "fnGlass", fn := fun _ => fun
  | [d] => { results := [.lit (.bool true)], args := [d] }
  | _ => none }
def fnGlassRow : OpenClaim := { program := "ytploaldfkfjibaa", sum := "753f802a75b6d8b15bbac9f6441763513eceff50e4bdf1559c4059d08579c3bb", func := "loop.example/polarisedlight/laws.FnGlass", spec := "fnGlass", unfollowed := true, recurses := true, apart := false }
def FnGlassSaid : Prop := fnGlassRow.holds Try.pinned (OpenSpec.ofChange fnGlassSpec)

/-- ITS FALSE NEIGHBOUR: 'it returns false'. Refute it at one input. -/
def fnGlassWrong : ChangeSpec := { name := "fnGlass", fn := fun _ => fun
  | [d] => { results := [.lit (.bool false)], args := [d] }
  | _ => none }
def FnGlassWrongFalsely : Prop := fnGlassRow.holds Try.pinned (OpenSpec.ofChange fnGlassWrong)

/-- 'laws.FnExactGlassSmooth': WHATEVER THE INPUT: true; the input reads as it did. -/
def fnExactGlassSmoothSpec : ChangeSpec := { name := "fnExactGlassSmooth", fn := fun _ => fun
  | [d] => { results := [.lit (.bool true)], args := [d] }
  | _ => none }
def fnExactGlassSmoothRow : OpenClaim := { program := "ytploaldfkfjibaa", sum := "753f802a75b6d8b15bbac9f6441763513eceff50e4bdf1559c4059d08579c3bb", func := "loop.example/polarisedlight/laws.FnExactGlassSmooth", spec := "fnExactGlassSmooth", apart := false }
def FnExactGlassSmoothSaid : Prop := fnExactGlassSmoothRow.holds Try.pinned (OpenSpec.ofChange fnExactGlassSmoothSpec)

/-- ITS FALSE NEIGHBOUR: 'it returns false'. Refute it at one input. -/
def fnExactGlassSmoothWrong : ChangeSpec := { name := "fnExactGlassSmooth", fn := fun _ => fun
  | [d] => { results := [.lit (.bool false)], args := [d] }
  | _ => none }
def FnExactGlassSmoothWrongFalsely : Prop := fnExactGlassSmoothRow.holds Try.pinned (OpenSpec.ofChange fnExactGlassSmoothWrong)

/-- 'laws.FnExactGlassSteep': WHATEVER THE INPUT: true; the input reads as it did. -/
def fnExactGlassSteepSpec : ChangeSpec := { name := "fnExactGlassSteep", fn := fun _ => fun
  | [d] => { results := [.lit (.bool true)], args := [d] }
  | _ => none }
def fnExactGlassSteepRow : OpenClaim := { program := "ytploaldfkfjibaa", sum := "753f802a75b6d8b15bbac9f6441763513eceff50e4bdf1559c4059d08579c3bb", func := "loop.example/polarisedlight/laws.FnExactGlassSteep", spec := "fnExactGlassSteep", apart := false }
def FnExactGlassSteepSaid : Prop := fnExactGlassSteepRow.holds Try.pinned (OpenSpec.ofChange fnExactGlassSteepSpec)

/-- ITS FALSE NEIGHBOUR: 'it returns false'. Refute it at one input. -/
def fnExactGlassSteepWrong : ChangeSpec := { name := "fnExactGlassSteep", fn := fun _ => fun
  | [d] => { results := [.lit (.bool false)], args := [d] }
  | _ => none }
def FnExactGlassSteepWrongFalsely : Prop := fnExactGlassSteepRow.holds Try.pinned (OpenSpec.ofChange fnExactGlassSteepWrong)

/-- 'laws.FnMore': WHATEVER THE INPUT: true; the input reads as it did. -/
def fnMoreSpec : ChangeSpec := { name := "fnMore", fn := fun _ => fun
  | [d] => { results := [.lit (.bool true)], args := [d] }
  | _ => none }
def fnMoreRow : OpenClaim := { program := "ytploaldfkfjibaa", sum := "753f802a75b6d8b15bbac9f6441763513eceff50e4bdf1559c4059d08579c3bb", func := "loop.example/polarisedlight/laws.FnMore", spec := "fnMore", unfollowed := true, recurses := true, apart := false }
def FnMoreSaid : Prop := fnMoreRow.holds Try.pinned (OpenSpec.ofChange fnMoreSpec)

/-- ITS FALSE NEIGHBOUR: 'it returns false'. Refute it at one input. -/
def fnMoreWrong : ChangeSpec := { name := "fnMore", fn := fun _ => fun
  | [d] => { results := [.lit (.bool false)], args := [d] }
  | _ => none }
def FnMoreWrongFalsely : Prop := fnMoreRow.holds Try.pinned (OpenSpec.ofChange fnMoreWrong)

/-- 'laws.FnSmoothTurned': WHATEVER THE INPUT: true; the input reads as it did. -/
def fnSmoothTurnedSpec : ChangeSpec := { name := "fnSmoothTurned", fn := fun _ => fun
  | [d] => { results := [.lit (.bool true)], args := [d] }
  | _ => none }
def fnSmoothTurnedRow : OpenClaim := { program := "ytploaldfkfjibaa", sum := "753f802a75b6d8b15bbac9f6441763513eceff50e4bdf1559c4059d08579c3bb", func := "loop.example/polarisedlight/laws.FnSmoothTurned", spec := "fnSmoothTurned", apart := false }
def FnSmoothTurnedSaid : Prop := fnSmoothTurnedRow.holds Try.pinned (OpenSpec.ofChange fnSmoothTurnedSpec)

/-- ITS FALSE NEIGHBOUR: 'it returns false'. Refute it at one input. -/
def fnSmoothTurnedWrong : ChangeSpec := { name := "fnSmoothTurned", fn := fun _ => fun
  | [d] => { results := [.lit (.bool false)], args := [d] }
  | _ => none }
def FnSmoothTurnedWrongFalsely : Prop := fnSmoothTurnedRow.holds Try.pinned (OpenSpec.ofChange fnSmoothTurnedWrong)

/-- 'laws.FnWrap': WHATEVER THE INPUT: true; the input reads as it did. -/
def fnWrapSpec : ChangeSpec := { name := "fnWrap", fn := fun _ => fun
  | [d] => { results := [.lit (.bool true)], args := [d] }
  | _ => none }
def fnWrapRow : OpenClaim := { program := "ytploaldfkfjibaa", sum := "753f802a75b6d8b15bbac9f6441763513eceff50e4bdf1559c4059d08579c3bb", func := "loop.example/polarisedlight/laws.FnWrap", spec := "fnWrap", unfollowed := true, recurses := true, apart := false }
def FnWrapSaid : Prop := fnWrapRow.holds Try.pinned (OpenSpec.ofChange fnWrapSpec)

/-- ITS FALSE NEIGHBOUR: 'it returns false'. Refute it at one input. -/
def fnWrapWrong : ChangeSpec := { name := "fnWrap", fn := fun _ => fun
  | [d] => { results := [.lit (.bool false)], args := [d] }
  | _ => none }
def FnWrapWrongFalsely : Prop := fnWrapRow.holds Try.pinned (OpenSpec.ofChange fnWrapWrong)

/-- 'laws.FnExactGlassTurned': WHATEVER THE INPUT: true; the input reads as it did. -/
def fnExactGlassTurnedSpec : ChangeSpec := { name := "fnExactGlassTurned", fn := fun _ => fun
  | [d] => { results := [.lit (.bool true)], args := [d] }
  | _ => none }
def fnExactGlassTurnedRow : OpenClaim := { program := "ytploaldfkfjibaa", sum := "753f802a75b6d8b15bbac9f6441763513eceff50e4bdf1559c4059d08579c3bb", func := "loop.example/polarisedlight/laws.FnExactGlassTurned", spec := "fnExactGlassTurned", apart := false }
def FnExactGlassTurnedSaid : Prop := fnExactGlassTurnedRow.holds Try.pinned (OpenSpec.ofChange fnExactGlassTurnedSpec)

/-- ITS FALSE NEIGHBOUR: 'it returns false'. Refute it at one input. -/
def fnExactGlassTurnedWrong : ChangeSpec := { name := "fnExactGlassTurned", fn := fun _ => fun
  | [d] => { results := [.lit (.bool false)], args := [d] }
  | _ => none }
def FnExactGlassTurnedWrongFalsely : Prop := fnExactGlassTurnedRow.holds Try.pinned (OpenSpec.ofChange fnExactGlassTurnedWrong)

/-- 'laws.FnSteep': WHATEVER THE INPUT: true; the input reads as it did. -/
def fnSteepSpec : ChangeSpec := { name := "fnSteep", fn := fun _ => fun
  | [d] => { results := [.lit (.bool true)], args := [d] }
  | _ => none }
def fnSteepRow : OpenClaim := { program := "ytploaldfkfjibaa", sum := "753f802a75b6d8b15bbac9f6441763513eceff50e4bdf1559c4059d08579c3bb", func := "loop.example/polarisedlight/laws.FnSteep", spec := "fnSteep", unfollowed := true, recurses := true, apart := false }
def FnSteepSaid : Prop := fnSteepRow.holds Try.pinned (OpenSpec.ofChange fnSteepSpec)

/-- ITS FALSE NEIGHBOUR: 'it returns false'. Refute it at one input. -/
def fnSteepWrong : ChangeSpec := { name := "fnSteep", fn := fun _ => fun
  | [d] => { results := [.lit (.bool false)], args := [d] }
  | _ => none }
def FnSteepWrongFalsely : Prop := fnSteepRow.holds Try.pinned (OpenSpec.ofChange fnSteepWrong)

/-- 'laws.FnExactGlassWrap': WHATEVER THE INPUT: true; the input reads as it did. -/
def fnExactGlassWrapSpec : ChangeSpec := { name := "fnExactGlassWrap", fn := fun _ => fun
  | [d] => { results := [.lit (.bool true)], args := [d] }
  | _ => none }
def fnExactGlassWrapRow : OpenClaim := { program := "ytploaldfkfjibaa", sum := "753f802a75b6d8b15bbac9f6441763513eceff50e4bdf1559c4059d08579c3bb", func := "loop.example/polarisedlight/laws.FnExactGlassWrap", spec := "fnExactGlassWrap", unfollowed := true, recurses := true, apart := false }
def FnExactGlassWrapSaid : Prop := fnExactGlassWrapRow.holds Try.pinned (OpenSpec.ofChange fnExactGlassWrapSpec)

/-- ITS FALSE NEIGHBOUR: 'it returns false'. Refute it at one input. -/
def fnExactGlassWrapWrong : ChangeSpec := { name := "fnExactGlassWrap", fn := fun _ => fun
  | [d] => { results := [.lit (.bool false)], args := [d] }
  | _ => none }
def FnExactGlassWrapWrongFalsely : Prop := fnExactGlassWrapRow.holds Try.pinned (OpenSpec.ofChange fnExactGlassWrapWrong)

/-- 'laws.FnExactGlassMore': WHATEVER THE INPUT: true; the input reads as it did. -/
def fnExactGlassMoreSpec : ChangeSpec := { name := "fnExactGlassMore", fn := fun _ => fun
  | [d1, d2] => { results := [.lit (.bool true)], args := [d1, d2] }
  | _ => none }
def fnExactGlassMoreRow : OpenClaim := { program := "ytploaldfkfjibaa", sum := "753f802a75b6d8b15bbac9f6441763513eceff50e4bdf1559c4059d08579c3bb", func := "loop.example/polarisedlight/laws.FnExactGlassMore", spec := "fnExactGlassMore", unfollowed := true, recurses := true, apart := false }
def FnExactGlassMoreSaid : Prop := fnExactGlassMoreRow.holds Try.pinned (OpenSpec.ofChange fnExactGlassMoreSpec)

/-- ITS FALSE NEIGHBOUR: 'it returns false'. Refute it at one input. -/
def fnExactGlassMoreWrong : ChangeSpec := { name := "fnExactGlassMore", fn := fun _ => fun
  | [d1, d2] => { results := [.lit (.bool false)], args := [d1, d2] }
  | _ => none }
def FnExactGlassMoreWrongFalsely : Prop := fnExactGlassMoreRow.holds Try.pinned (OpenSpec.ofChange fnExactGlassMoreWrong)

/-- 'laws.FnSmoothGlass': WHATEVER THE INPUT: true; the input reads as it did. -/
def fnSmoothGlassSpec : ChangeSpec := { name := "fnSmoothGlass", fn := fun _ => fun
  | [d] => { results := [.lit (.bool true)], args := [d] }
  | _ => none }
def fnSmoothGlassRow : OpenClaim := { program := "ytploaldfkfjibaa", sum := "753f802a75b6d8b15bbac9f6441763513eceff50e4bdf1559c4059d08579c3bb", func := "loop.example/polarisedlight/laws.FnSmoothGlass", spec := "fnSmoothGlass", unfollowed := true, recurses := true, apart := false }
def FnSmoothGlassSaid : Prop := fnSmoothGlassRow.holds Try.pinned (OpenSpec.ofChange fnSmoothGlassSpec)

/-- ITS FALSE NEIGHBOUR: 'it returns false'. Refute it at one input. -/
def fnSmoothGlassWrong : ChangeSpec := { name := "fnSmoothGlass", fn := fun _ => fun
  | [d] => { results := [.lit (.bool false)], args := [d] }
  | _ => none }
def FnSmoothGlassWrongFalsely : Prop := fnSmoothGlassRow.holds Try.pinned (OpenSpec.ofChange fnSmoothGlassWrong)

/-- 'laws.FnExactGlassResidues': WHATEVER THE INPUT: true; the input reads as it did. -/
def fnExactGlassResiduesSpec : ChangeSpec := { name := "fnExactGlassResidues", fn := fun _ => fun
  | [d] => { results := [.lit (.bool true)], args := [d] }
  | _ => none }
def fnExactGlassResiduesRow : OpenClaim := { program := "ytploaldfkfjibaa", sum := "753f802a75b6d8b15bbac9f6441763513eceff50e4bdf1559c4059d08579c3bb", func := "loop.example/polarisedlight/laws.FnExactGlassResidues", spec := "fnExactGlassResidues", apart := false }
def FnExactGlassResiduesSaid : Prop := fnExactGlassResiduesRow.holds Try.pinned (OpenSpec.ofChange fnExactGlassResiduesSpec)

/-- ITS FALSE NEIGHBOUR: 'it returns false'. Refute it at one input. -/
def fnExactGlassResiduesWrong : ChangeSpec := { name := "fnExactGlassResidues", fn := fun _ => fun
  | [d] => { results := [.lit (.bool false)], args := [d] }
  | _ => none }
def FnExactGlassResiduesWrongFalsely : Prop := fnExactGlassResiduesRow.holds Try.pinned (OpenSpec.ofChange fnExactGlassResiduesWrong)

/-- 'laws.FnExactGlassUnwrap': WHATEVER THE INPUT: true; the input reads as it did. -/
def fnExactGlassUnwrapSpec : ChangeSpec := { name := "fnExactGlassUnwrap", fn := fun _ => fun
  | [d] => { results := [.lit (.bool true)], args := [d] }
  | _ => none }
def fnExactGlassUnwrapRow : OpenClaim := { program := "ytploaldfkfjibaa", sum := "753f802a75b6d8b15bbac9f6441763513eceff50e4bdf1559c4059d08579c3bb", func := "loop.example/polarisedlight/laws.FnExactGlassUnwrap", spec := "fnExactGlassUnwrap", apart := false }
def FnExactGlassUnwrapSaid : Prop := fnExactGlassUnwrapRow.holds Try.pinned (OpenSpec.ofChange fnExactGlassUnwrapSpec)

/-- ITS FALSE NEIGHBOUR: 'it returns false'. Refute it at one input. -/
def fnExactGlassUnwrapWrong : ChangeSpec := { name := "fnExactGlassUnwrap", fn := fun _ => fun
  | [d] => { results := [.lit (.bool false)], args := [d] }
  | _ => none }
def FnExactGlassUnwrapWrongFalsely : Prop := fnExactGlassUnwrapRow.holds Try.pinned (OpenSpec.ofChange fnExactGlassUnwrapWrong)

/-- 'laws.FnUnwrap': WHATEVER THE INPUT: true; the input reads as it did. -/
def fnUnwrapSpec : ChangeSpec := { name := "fnUnwrap", fn := fun _ => fun
  | [d] => { results := [.lit (.bool true)], args := [d] }
  | _ => none }
def fnUnwrapRow : OpenClaim := { program := "ytploaldfkfjibaa", sum := "753f802a75b6d8b15bbac9f6441763513eceff50e4bdf1559c4059d08579c3bb", func := "loop.example/polarisedlight/laws.FnUnwrap", spec := "fnUnwrap", unfollowed := true, recurses := true, apart := false }
def FnUnwrapSaid : Prop := fnUnwrapRow.holds Try.pinned (OpenSpec.ofChange fnUnwrapSpec)

/-- ITS FALSE NEIGHBOUR: 'it returns false'. Refute it at one input. -/
def fnUnwrapWrong : ChangeSpec := { name := "fnUnwrap", fn := fun _ => fun
  | [d] => { results := [.lit (.bool false)], args := [d] }
  | _ => none }
def FnUnwrapWrongFalsely : Prop := fnUnwrapRow.holds Try.pinned (OpenSpec.ofChange fnUnwrapWrong)

/-- 'laws.FnResidues': WHATEVER THE INPUT: true; the input reads as it did. -/
def fnResiduesSpec : ChangeSpec := { name := "fnResidues", fn := fun _ => fun
  | [d] => { results := [.lit (.bool true)], args := [d] }
  | _ => none }
def fnResiduesRow : OpenClaim := { program := "ytploaldfkfjibaa", sum := "753f802a75b6d8b15bbac9f6441763513eceff50e4bdf1559c4059d08579c3bb", func := "loop.example/polarisedlight/laws.FnResidues", spec := "fnResidues", apart := false }
def FnResiduesSaid : Prop := fnResiduesRow.holds Try.pinned (OpenSpec.ofChange fnResiduesSpec)

/-- ITS FALSE NEIGHBOUR: 'it returns false'. Refute it at one input. -/
def fnResiduesWrong : ChangeSpec := { name := "fnResidues", fn := fun _ => fun
  | [d] => { results := [.lit (.bool false)], args := [d] }
  | _ => none }
def FnResiduesWrongFalsely : Prop := fnResiduesRow.holds Try.pinned (OpenSpec.ofChange fnResiduesWrong)

/- THE SECOND FORM. 'bulk': how many values and letters a reading holds, each counted each time it is reached (what is shared counts as often as it is met; a slice's spare places count too). A statement '..UptoSaid' is the law's where the arguments, and the package variables that the reading takes, are together of bulk at most 1048576: NARROWER than '..Said'. Prove '..Said' where nothing that the law and all that it calls make is longer than what came in: it says more and counts as full. Else prove '..UptoSaid'. A law counts once. -/
mutual
def uptoBulk {H : Type} : DataW H → Nat
  | .lit (.string bytes) => bytes.length + 1
  | .lit _ => 1
  | .nil => 1
  | .ptr d => uptoBulk d + 1
  | .slice elems spare => uptoBulkAll elems + uptoBulkAll spare + 1
  | .agg parts => uptoBulkAll parts + 1
  | .iface _ d => uptoBulk d + 1
  | .map entries => uptoBulkEntries entries + 1
  | .held _ => 1
def uptoBulkAll {H : Type} : List (DataW H) → Nat
  | [] => 0
  | d :: r => uptoBulk d + uptoBulkAll r
def uptoBulkEntries {H : Type} : List (Lit × DataW H) → Nat
  | [] => 0
  | x :: r => uptoBulkEntry x + uptoBulkEntries r
def uptoBulkEntry {H : Type} : Lit × DataW H → Nat
  | (.string bytes, d) => bytes.length + uptoBulk d + 1
  | (_, d) => uptoBulk d + 1
 end
def uptoSmall : (H : Type) → List (DataW H) → Bool := fun _ ds => decide (uptoBulkAll ds ≤ 1048576)
def OpenSpec.upto (s : _root_.Go.ChangeSpec) : _root_.Go.OpenSpec := { _root_.Go.OpenSpec.ofChange s with cond := some uptoSmall }

/-- 'laws.FnExactGlassValid', WHERE WHAT IT READS IS OF BULK AT MOST 1048576: true; the input reads as it did. -/
def fnExactGlassValidUptoRow : OpenClaim := { program := "ytploaldfkfjibaa", sum := "753f802a75b6d8b15bbac9f6441763513eceff50e4bdf1559c4059d08579c3bb", func := "loop.example/polarisedlight/laws.FnExactGlassValid", spec := "fnExactGlassValid", apart := false, narrowed := true }
def FnExactGlassValidUptoSaid : Prop := fnExactGlassValidUptoRow.holds Try.pinned (OpenSpec.upto fnExactGlassValidSpec)

/-- 'laws.FnTurned', WHERE WHAT IT READS IS OF BULK AT MOST 1048576: true; the input reads as it did. -/
def fnTurnedUptoRow : OpenClaim := { program := "ytploaldfkfjibaa", sum := "753f802a75b6d8b15bbac9f6441763513eceff50e4bdf1559c4059d08579c3bb", func := "loop.example/polarisedlight/laws.FnTurned", spec := "fnTurned", apart := false, narrowed := true }
def FnTurnedUptoSaid : Prop := fnTurnedUptoRow.holds Try.pinned (OpenSpec.upto fnTurnedSpec)

/-- 'laws.FnGlass', WHERE WHAT IT READS IS OF BULK AT MOST 1048576: true; the input reads as it did. -/
def fnGlassUptoRow : OpenClaim := { program := "ytploaldfkfjibaa", sum := "753f802a75b6d8b15bbac9f6441763513eceff50e4bdf1559c4059d08579c3bb", func := "loop.example/polarisedlight/laws.FnGlass", spec := "fnGlass", unfollowed := true, recurses := true, apart := false, narrowed := true }
def FnGlassUptoSaid : Prop := fnGlassUptoRow.holds Try.pinned (OpenSpec.upto fnGlassSpec)

/-- 'laws.FnExactGlassSmooth', WHERE WHAT IT READS IS OF BULK AT MOST 1048576: true; the input reads as it did. -/
def fnExactGlassSmoothUptoRow : OpenClaim := { program := "ytploaldfkfjibaa", sum := "753f802a75b6d8b15bbac9f6441763513eceff50e4bdf1559c4059d08579c3bb", func := "loop.example/polarisedlight/laws.FnExactGlassSmooth", spec := "fnExactGlassSmooth", apart := false, narrowed := true }
def FnExactGlassSmoothUptoSaid : Prop := fnExactGlassSmoothUptoRow.holds Try.pinned (OpenSpec.upto fnExactGlassSmoothSpec)

/-- 'laws.FnExactGlassSteep', WHERE WHAT IT READS IS OF BULK AT MOST 1048576: true; the input reads as it did. -/
def fnExactGlassSteepUptoRow : OpenClaim := { program := "ytploaldfkfjibaa", sum := "753f802a75b6d8b15bbac9f6441763513eceff50e4bdf1559c4059d08579c3bb", func := "loop.example/polarisedlight/laws.FnExactGlassSteep", spec := "fnExactGlassSteep", apart := false, narrowed := true }
def FnExactGlassSteepUptoSaid : Prop := fnExactGlassSteepUptoRow.holds Try.pinned (OpenSpec.upto fnExactGlassSteepSpec)

/-- 'laws.FnMore', WHERE WHAT IT READS IS OF BULK AT MOST 1048576: true; the input reads as it did. -/
def fnMoreUptoRow : OpenClaim := { program := "ytploaldfkfjibaa", sum := "753f802a75b6d8b15bbac9f6441763513eceff50e4bdf1559c4059d08579c3bb", func := "loop.example/polarisedlight/laws.FnMore", spec := "fnMore", unfollowed := true, recurses := true, apart := false, narrowed := true }
def FnMoreUptoSaid : Prop := fnMoreUptoRow.holds Try.pinned (OpenSpec.upto fnMoreSpec)

/-- 'laws.FnSmoothTurned', WHERE WHAT IT READS IS OF BULK AT MOST 1048576: true; the input reads as it did. -/
def fnSmoothTurnedUptoRow : OpenClaim := { program := "ytploaldfkfjibaa", sum := "753f802a75b6d8b15bbac9f6441763513eceff50e4bdf1559c4059d08579c3bb", func := "loop.example/polarisedlight/laws.FnSmoothTurned", spec := "fnSmoothTurned", apart := false, narrowed := true }
def FnSmoothTurnedUptoSaid : Prop := fnSmoothTurnedUptoRow.holds Try.pinned (OpenSpec.upto fnSmoothTurnedSpec)

/-- 'laws.FnWrap', WHERE WHAT IT READS IS OF BULK AT MOST 1048576: true; the input reads as it did. -/
def fnWrapUptoRow : OpenClaim := { program := "ytploaldfkfjibaa", sum := "753f802a75b6d8b15bbac9f6441763513eceff50e4bdf1559c4059d08579c3bb", func := "loop.example/polarisedlight/laws.FnWrap", spec := "fnWrap", unfollowed := true, recurses := true, apart := false, narrowed := true }
def FnWrapUptoSaid : Prop := fnWrapUptoRow.holds Try.pinned (OpenSpec.upto fnWrapSpec)

/-- 'laws.FnExactGlassTurned', WHERE WHAT IT READS IS OF BULK AT MOST 1048576: true; the input reads as it did. -/
def fnExactGlassTurnedUptoRow : OpenClaim := { program := "ytploaldfkfjibaa", sum := "753f802a75b6d8b15bbac9f6441763513eceff50e4bdf1559c4059d08579c3bb", func := "loop.example/polarisedlight/laws.FnExactGlassTurned", spec := "fnExactGlassTurned", apart := false, narrowed := true }
def FnExactGlassTurnedUptoSaid : Prop := fnExactGlassTurnedUptoRow.holds Try.pinned (OpenSpec.upto fnExactGlassTurnedSpec)

/-- 'laws.FnSteep', WHERE WHAT IT READS IS OF BULK AT MOST 1048576: true; the input reads as it did. -/
def fnSteepUptoRow : OpenClaim := { program := "ytploaldfkfjibaa", sum := "753f802a75b6d8b15bbac9f6441763513eceff50e4bdf1559c4059d08579c3bb", func := "loop.example/polarisedlight/laws.FnSteep", spec := "fnSteep", unfollowed := true, recurses := true, apart := false, narrowed := true }
def FnSteepUptoSaid : Prop := fnSteepUptoRow.holds Try.pinned (OpenSpec.upto fnSteepSpec)

/-- 'laws.FnExactGlassWrap', WHERE WHAT IT READS IS OF BULK AT MOST 1048576: true; the input reads as it did. -/
def fnExactGlassWrapUptoRow : OpenClaim := { program := "ytploaldfkfjibaa", sum := "753f802a75b6d8b15bbac9f6441763513eceff50e4bdf1559c4059d08579c3bb", func := "loop.example/polarisedlight/laws.FnExactGlassWrap", spec := "fnExactGlassWrap", unfollowed := true, recurses := true, apart := false, narrowed := true }
def FnExactGlassWrapUptoSaid : Prop := fnExactGlassWrapUptoRow.holds Try.pinned (OpenSpec.upto fnExactGlassWrapSpec)

/-- 'laws.FnExactGlassMore', WHERE WHAT IT READS IS OF BULK AT MOST 1048576: true; the input reads as it did. -/
def fnExactGlassMoreUptoRow : OpenClaim := { program := "ytploaldfkfjibaa", sum := "753f802a75b6d8b15bbac9f6441763513eceff50e4bdf1559c4059d08579c3bb", func := "loop.example/polarisedlight/laws.FnExactGlassMore", spec := "fnExactGlassMore", unfollowed := true, recurses := true, apart := false, narrowed := true }
def FnExactGlassMoreUptoSaid : Prop := fnExactGlassMoreUptoRow.holds Try.pinned (OpenSpec.upto fnExactGlassMoreSpec)

/-- 'laws.FnSmoothGlass', WHERE WHAT IT READS IS OF BULK AT MOST 1048576: true; the input reads as it did. -/
def fnSmoothGlassUptoRow : OpenClaim := { program := "ytploaldfkfjibaa", sum := "753f802a75b6d8b15bbac9f6441763513eceff50e4bdf1559c4059d08579c3bb", func := "loop.example/polarisedlight/laws.FnSmoothGlass", spec := "fnSmoothGlass", unfollowed := true, recurses := true, apart := false, narrowed := true }
def FnSmoothGlassUptoSaid : Prop := fnSmoothGlassUptoRow.holds Try.pinned (OpenSpec.upto fnSmoothGlassSpec)

/-- 'laws.FnExactGlassResidues', WHERE WHAT IT READS IS OF BULK AT MOST 1048576: true; the input reads as it did. -/
def fnExactGlassResiduesUptoRow : OpenClaim := { program := "ytploaldfkfjibaa", sum := "753f802a75b6d8b15bbac9f6441763513eceff50e4bdf1559c4059d08579c3bb", func := "loop.example/polarisedlight/laws.FnExactGlassResidues", spec := "fnExactGlassResidues", apart := false, narrowed := true }
def FnExactGlassResiduesUptoSaid : Prop := fnExactGlassResiduesUptoRow.holds Try.pinned (OpenSpec.upto fnExactGlassResiduesSpec)

/-- 'laws.FnExactGlassUnwrap', WHERE WHAT IT READS IS OF BULK AT MOST 1048576: true; the input reads as it did. -/
def fnExactGlassUnwrapUptoRow : OpenClaim := { program := "ytploaldfkfjibaa", sum := "753f802a75b6d8b15bbac9f6441763513eceff50e4bdf1559c4059d08579c3bb", func := "loop.example/polarisedlight/laws.FnExactGlassUnwrap", spec := "fnExactGlassUnwrap", apart := false, narrowed := true }
def FnExactGlassUnwrapUptoSaid : Prop := fnExactGlassUnwrapUptoRow.holds Try.pinned (OpenSpec.upto fnExactGlassUnwrapSpec)

/-- 'laws.FnUnwrap', WHERE WHAT IT READS IS OF BULK AT MOST 1048576: true; the input reads as it did. -/
def fnUnwrapUptoRow : OpenClaim := { program := "ytploaldfkfjibaa", sum := "753f802a75b6d8b15bbac9f6441763513eceff50e4bdf1559c4059d08579c3bb", func := "loop.example/polarisedlight/laws.FnUnwrap", spec := "fnUnwrap", unfollowed := true, recurses := true, apart := false, narrowed := true }
def FnUnwrapUptoSaid : Prop := fnUnwrapUptoRow.holds Try.pinned (OpenSpec.upto fnUnwrapSpec)

/-- 'laws.FnResidues', WHERE WHAT IT READS IS OF BULK AT MOST 1048576: true; the input reads as it did. -/
def fnResiduesUptoRow : OpenClaim := { program := "ytploaldfkfjibaa", sum := "753f802a75b6d8b15bbac9f6441763513eceff50e4bdf1559c4059d08579c3bb", func := "loop.example/polarisedlight/laws.FnResidues", spec := "fnResidues", apart := false, narrowed := true }
def FnResiduesUptoSaid : Prop := fnResiduesUptoRow.holds Try.pinned (OpenSpec.upto fnResiduesSpec)

end Rows
end Go.Proofs.Ytploaldfkfjibaa
