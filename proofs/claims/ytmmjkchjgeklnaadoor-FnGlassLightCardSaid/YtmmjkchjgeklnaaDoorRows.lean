/-
  NARROWER THAN 'FOR EVERY INPUT', by the rows' own cells (each row's printed sentence says how): FnExactGlassLight: laid · FnGlassLight: laid.
  DERIVED. THE GIVEN ROWS OF THIS SEAT. 2 by the template 'for every input the law returns true; each argument reads behind the call as it read before'; 0 by the template 'total and deterministic' (their statements: YtmmjkchjgeklnaaDoorTotals.lean).
  GIVEN WITH THE SEED: the statements are not yours to turn. If you find one false, say at which input.
  Laid BY PROGRAM, IN A SANDBOX (cutbox-rows.mjs): the forced cells as the released guide's own fill.sh prints them over the translation dd4b2efa34fe6d5d… (all of the seat's roots in one cut). By AI agents, Wed Nov 11 2026. No macro, syntax, notation, axiom, sorry.
-/
import Derived.Test.YtmmjkchjgeklnaaDoorChecked
import GoSem.Claim
import GoSem.ClaimJoined
import GoSem.ClaimMapViews
import Derived.JoinedTies
import Derived.KernelRfl
namespace Go.Proofs.YtmmjkchjgeklnaaDoor
/- THE CELL 'sum', in the pinned program and in every row, IS THE sha256 OF THE DUMP (.gsa) THAT YtmmjkchjgeklnaaDoorProg.lean LOADS. Nothing in Lean hashes anything: it is a label: what it is worth is what the hold of that sum in a sandbox is worth. -/
noncomputable def Tryd.pinned : Pinned := { name := "ytmmjkchjgeklnaadoor", sum := "dd4b2efa34fe6d5ddfc141ab1e811e188c1ccb99bde65c22d5ac086d51858d53", checked := Tryd.checked }
namespace Rows
def none {H : Type} : Left H := { results := [], args := [] }

/- WHAT THE LISTED PACKAGE-LEVEL VARIABLES READ AS WHEN THE CALL BEGINS. Each datum BY PROGRAM (the guide's laid-datum.mjs) off the statement by which the dump's own 'gosem.cut.vars' lays the variable. In a bare row this is a premise. The card (YtmmjkchjgeklnaaDoorCards.lean) ties it to the program's text. -/
def laid_loop_example_polarisedlight_impl_zero {H : Type} : DataW H := .agg [.lit (.int .i64 0), .lit (.int .i64 0), .lit (.int .i64 1)]
def laid_loop_example_polarisedlight_impl_one {H : Type} : DataW H := .agg [.lit (.int .i64 1), .lit (.int .i64 0), .lit (.int .i64 1)]
def laid_loop_example_polarisedlight_impl_turns {H : Type} : DataW H := .agg [.agg [.lit (.int .i64 1), .lit (.int .i64 0), .lit (.int .i64 1)], .agg [.lit (.int .i64 0), .lit (.int .i64 1), .lit (.int .i64 1)], .agg [.lit (.int .i64 (-1)), .lit (.int .i64 0), .lit (.int .i64 1)], .agg [.lit (.int .i64 0), .lit (.int .i64 (-1)), .lit (.int .i64 1)]]

/-- 'laws.FnExactGlassLight': WHATEVER THE INPUT: true; the input reads as it did. -/
def fnExactGlassLightSpec : ChangeSpec := { name := "fnExactGlassLight", vars := ["loop.example/polarisedlight/impl.one", "loop.example/polarisedlight/impl.zero", "loop.example/polarisedlight/impl.turns"], fn := fun _ => fun
  | [d1, d2, d3, g1, g2, g3] => { results := [.lit (.bool true)], args := [d1, d2, d3], vars := [g1, g2, g3] }
  | _ => none }
def fnExactGlassLightRow : OpenClaim := { program := "ytmmjkchjgeklnaadoor", sum := "dd4b2efa34fe6d5ddfc141ab1e811e188c1ccb99bde65c22d5ac086d51858d53", func := "loop.example/polarisedlight/laws.FnExactGlassLight", spec := "fnExactGlassLight", unfollowed := true, recurses := true, named := ["loop.example/polarisedlight/impl.one", "loop.example/polarisedlight/impl.zero", "loop.example/polarisedlight/impl.turns"], apart := false, laid := [("loop.example/polarisedlight/impl.zero", laid_loop_example_polarisedlight_impl_zero), ("loop.example/polarisedlight/impl.one", laid_loop_example_polarisedlight_impl_one), ("loop.example/polarisedlight/impl.turns", laid_loop_example_polarisedlight_impl_turns)] }
def FnExactGlassLightSaid : Prop := fnExactGlassLightRow.holds Tryd.pinned (OpenSpec.ofChange fnExactGlassLightSpec)

/-- ITS FALSE NEIGHBOUR: 'it returns false'. Refute it at one input. -/
def fnExactGlassLightWrong : ChangeSpec := { name := "fnExactGlassLight", vars := ["loop.example/polarisedlight/impl.one", "loop.example/polarisedlight/impl.zero", "loop.example/polarisedlight/impl.turns"], fn := fun _ => fun
  | [d1, d2, d3, g1, g2, g3] => { results := [.lit (.bool false)], args := [d1, d2, d3], vars := [g1, g2, g3] }
  | _ => none }
def FnExactGlassLightWrongFalsely : Prop := fnExactGlassLightRow.holds Tryd.pinned (OpenSpec.ofChange fnExactGlassLightWrong)

/-- 'laws.FnGlassLight': WHATEVER THE INPUT: true; the input reads as it did. -/
def fnGlassLightSpec : ChangeSpec := { name := "fnGlassLight", vars := ["loop.example/polarisedlight/impl.one", "loop.example/polarisedlight/impl.zero", "loop.example/polarisedlight/impl.turns"], fn := fun _ => fun
  | [d, g1, g2, g3] => { results := [.lit (.bool true)], args := [d], vars := [g1, g2, g3] }
  | _ => none }
def fnGlassLightRow : OpenClaim := { program := "ytmmjkchjgeklnaadoor", sum := "dd4b2efa34fe6d5ddfc141ab1e811e188c1ccb99bde65c22d5ac086d51858d53", func := "loop.example/polarisedlight/laws.FnGlassLight", spec := "fnGlassLight", unfollowed := true, recurses := true, named := ["loop.example/polarisedlight/impl.one", "loop.example/polarisedlight/impl.zero", "loop.example/polarisedlight/impl.turns"], apart := false, laid := [("loop.example/polarisedlight/impl.zero", laid_loop_example_polarisedlight_impl_zero), ("loop.example/polarisedlight/impl.one", laid_loop_example_polarisedlight_impl_one), ("loop.example/polarisedlight/impl.turns", laid_loop_example_polarisedlight_impl_turns)] }
def FnGlassLightSaid : Prop := fnGlassLightRow.holds Tryd.pinned (OpenSpec.ofChange fnGlassLightSpec)

/-- ITS FALSE NEIGHBOUR: 'it returns false'. Refute it at one input. -/
def fnGlassLightWrong : ChangeSpec := { name := "fnGlassLight", vars := ["loop.example/polarisedlight/impl.one", "loop.example/polarisedlight/impl.zero", "loop.example/polarisedlight/impl.turns"], fn := fun _ => fun
  | [d, g1, g2, g3] => { results := [.lit (.bool false)], args := [d], vars := [g1, g2, g3] }
  | _ => none }
def FnGlassLightWrongFalsely : Prop := fnGlassLightRow.holds Tryd.pinned (OpenSpec.ofChange fnGlassLightWrong)

/- THE SECOND FORM. 'bulk': how many values and letters a reading holds, each counted each time it is reached (what is shared counts as often as it is met; a slice's spare places count too). A statement '..UptoSaid' is the law's where the arguments, and the package variables that the reading takes, are together of bulk at most 1048576: NARROWER than '..Said'. Prove '..Said' where nothing that the law and all that it calls make is longer than what came in: it says more and counts as full. Else prove '..UptoSaid'. A law counts once. -/
mutual
def uptoBulk {H : Type} : DataW H → Nat
  | .lit (.string bytes) => bytes.length + 1
  | .lit _ => 1
  | .nil => 1
  | .ptr d => uptoBulk d + 1
  | .slice elems spare => uptoBulkAll elems + uptoBulkAll spare + 1
  | .agg parts => uptoBulkAll parts + 1
  | .iface _ d => uptoBulk d + 1
  | .map entries => uptoBulkEntries entries + 1
  | .held _ => 1
def uptoBulkAll {H : Type} : List (DataW H) → Nat
  | [] => 0
  | d :: r => uptoBulk d + uptoBulkAll r
def uptoBulkEntries {H : Type} : List (Lit × DataW H) → Nat
  | [] => 0
  | x :: r => uptoBulkEntry x + uptoBulkEntries r
def uptoBulkEntry {H : Type} : Lit × DataW H → Nat
  | (.string bytes, d) => bytes.length + uptoBulk d + 1
  | (_, d) => uptoBulk d + 1
 end
def uptoSmall : (H : Type) → List (DataW H) → Bool := fun _ ds => decide (uptoBulkAll ds ≤ 1048576)
def OpenSpec.upto (s : _root_.Go.ChangeSpec) : _root_.Go.OpenSpec := { _root_.Go.OpenSpec.ofChange s with cond := some uptoSmall }

/-- 'laws.FnExactGlassLight', WHERE WHAT IT READS IS OF BULK AT MOST 1048576: true; the input reads as it did. -/
def fnExactGlassLightUptoRow : OpenClaim := { program := "ytmmjkchjgeklnaadoor", sum := "dd4b2efa34fe6d5ddfc141ab1e811e188c1ccb99bde65c22d5ac086d51858d53", func := "loop.example/polarisedlight/laws.FnExactGlassLight", spec := "fnExactGlassLight", unfollowed := true, recurses := true, named := ["loop.example/polarisedlight/impl.one", "loop.example/polarisedlight/impl.zero", "loop.example/polarisedlight/impl.turns"], apart := false, laid := [("loop.example/polarisedlight/impl.zero", laid_loop_example_polarisedlight_impl_zero), ("loop.example/polarisedlight/impl.one", laid_loop_example_polarisedlight_impl_one), ("loop.example/polarisedlight/impl.turns", laid_loop_example_polarisedlight_impl_turns)], narrowed := true }
def FnExactGlassLightUptoSaid : Prop := fnExactGlassLightUptoRow.holds Tryd.pinned (OpenSpec.upto fnExactGlassLightSpec)

/-- 'laws.FnGlassLight', WHERE WHAT IT READS IS OF BULK AT MOST 1048576: true; the input reads as it did. -/
def fnGlassLightUptoRow : OpenClaim := { program := "ytmmjkchjgeklnaadoor", sum := "dd4b2efa34fe6d5ddfc141ab1e811e188c1ccb99bde65c22d5ac086d51858d53", func := "loop.example/polarisedlight/laws.FnGlassLight", spec := "fnGlassLight", unfollowed := true, recurses := true, named := ["loop.example/polarisedlight/impl.one", "loop.example/polarisedlight/impl.zero", "loop.example/polarisedlight/impl.turns"], apart := false, laid := [("loop.example/polarisedlight/impl.zero", laid_loop_example_polarisedlight_impl_zero), ("loop.example/polarisedlight/impl.one", laid_loop_example_polarisedlight_impl_one), ("loop.example/polarisedlight/impl.turns", laid_loop_example_polarisedlight_impl_turns)], narrowed := true }
def FnGlassLightUptoSaid : Prop := fnGlassLightUptoRow.holds Tryd.pinned (OpenSpec.upto fnGlassLightSpec)

end Rows
end Go.Proofs.YtmmjkchjgeklnaaDoor
