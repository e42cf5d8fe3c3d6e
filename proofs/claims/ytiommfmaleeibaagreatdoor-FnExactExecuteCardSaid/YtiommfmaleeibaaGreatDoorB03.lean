/-
  Proved:what functions compute,part 3. No condition.
-/
import Derived.Test.YtiommfmaleeibaaGreatDoorB02
import Derived.Deep.Strs
set_option linter.unusedSimpArgs false
set_option linter.unusedVariables false
set_option maxRecDepth 20000
set_option maxHeartbeats 8000000
namespace Go.Proofs.YtiommfmaleeibaaGreatDoor
open Go.Proofs.Tryz
section
open Go.ChangeShapes Go.WideShapes Go.ChangeAt Go.RowKit Go.Joins Go.Deep

section
variable {H:Type} {enc:TypeId×Value→H} {w:World} {base:Nat} {r:Reach} {b0:Nat} {d:DataW H} {p:List MemPlace} {v:Value}
def Zbz(_:World)(v:Value):Prop:=∃s:ByteArray,v= .string s∧s.size≤9223372036854775807
theorem Zut(hv:Value.okWide prog w r b0 9 v)(h:DataW.Trod enc prog w base (fun _=>true) true 9 v d p):Zbz w v:=by
 obtain⟨s,rfl,rfl,rfl,ws⟩:=Go.ChangeMaps.open_string underlying9 hv h;unfold maxLen at ws;exact⟨s,rfl,by omega⟩
end
end
end Go.Proofs.YtiommfmaleeibaaGreatDoor
