/-
  What the laws' arguments read as: fractions and slices of fractions.
-/
import Derived.Test.YtklkfkgpjjpaiaaDoorRead
import Derived.Deep.Slices
import Derived.Deep.Strs
namespace Go.Proofs.YtklkfkgpjjpaiaaDoor
set_option maxRecDepth 20000
open Go.ChangeShapes Go.WideShapes Go.ChangeAt Go.RowKit Go.Joins Go.Deep

section
variable {H : Type} {enc : TypeId × Value → H} {w : World} {base : Nat} {r : Reach} {b0 : Nat} {d : DataW H} {p : List MemPlace} {v : Value}
/-- A fraction that came in. -/
def IsFrac (_ : World) (v : Value) : Prop := ∃ a1 a2 a3 : Int, v = .agg #[.int .i64 a1, .int .i64 a2, .int .i64 a3]
theorem read_frac (hv : Value.okWide Tryd.prog w r b0 23 v) (h : DataW.Trod enc Tryd.prog w base (fun _ => true) true 23 v d p) : IsFrac w v := by
  obtain ⟨c0, c1, c2, y0, y1, y2, m, rfl, -, -, hy0, hy1, hy2⟩ := open_agg3 Tryd.underlying23 (by kernel_rfl) (by kernel_rfl) hv h
  obtain ⟨a1, e0, -, -⟩ := DataW.trod_int Tryd.underlying3 hy0
  obtain ⟨a2, e1, -, -⟩ := DataW.trod_int Tryd.underlying3 hy1
  obtain ⟨a3, e2, -, -⟩ := DataW.trod_int Tryd.underlying3 hy2
  simp only [List.cons.injEq, and_true] at e0 e1 e2
  subst e0; subst e1; subst e2
  exact ⟨a1, a2, a3, rfl⟩
end
end Go.Proofs.YtklkfkgpjjpaiaaDoor
