/-
  What the laws' arguments read as: fractions and slices of fractions.
-/
import Derived.Test.YtklkfkgpjjpaiaaDoorRead
import Derived.Test.YtklkfkgpjjpaiaaDoorFrcQ
import Derived.Deep.Slices
import Derived.Deep.Strs
set_option linter.unusedSimpArgs false
set_option linter.unusedVariables false
namespace Go.Proofs.YtklkfkgpjjpaiaaDoor
set_option maxRecDepth 20000
open Go.ChangeShapes Go.WideShapes Go.ChangeAt Go.RowKit Go.Joins Go.Deep

section
variable {H : Type} {enc : TypeId × Value → H} {w : World} {base : Nat} {r : Reach} {b0 : Nat} {d : DataW H} {p : List MemPlace} {v : Value}
/-- A fraction that came in. -/
def IsFrac (_ : World) (v : Value) : Prop := ∃ a1 a2 a3 : Int, v = .agg #[.int .i64 a1, .int .i64 a2, .int .i64 a3]
theorem read_frac (hv : Value.okWide Tryd.prog w r b0 23 v) (h : DataW.Trod enc Tryd.prog w base (fun _ => true) true 23 v d p) : IsFrac w v := by
  obtain ⟨c0, c1, c2, y0, y1, y2, m, rfl, -, -, hy0, hy1, hy2⟩ := open_agg3 Tryd.underlying23 (by kernel_rfl) (by kernel_rfl) hv h
  obtain ⟨a1, e0, -, -⟩ := DataW.trod_int Tryd.underlying3 hy0
  obtain ⟨a2, e1, -, -⟩ := DataW.trod_int Tryd.underlying3 hy1
  obtain ⟨a3, e2, -, -⟩ := DataW.trod_int Tryd.underlying3 hy2
  simp only [List.cons.injEq, and_true] at e0 e1 e2
  subst e0; subst e1; subst e2
  exact ⟨a1, a2, a3, rfl⟩
theorem list3 {α : Type} {cs : List α} (h : cs.length = 3) : ∃ a b c, cs = [a, b, c] := by
  match cs, h with
  | [a, b, c], _ => exact ⟨a, b, c, rfl⟩
theorem frac_of_trod {n : Nat} {cs : List Value} {y : DataW H × List MemPlace} (hl : cs.length = 3) (h : DataW.trod enc Tryd.prog w base (fun _ => true) true n 23 cs = some y) : ∃ x : Fr, cs = x.cs := by
  obtain ⟨y0, y1, y2, n', -, -, h0, h1, h2⟩ := trod_struct3 Tryd.underlying23 h
  obtain ⟨a, b, c, rfl⟩ := list3 hl
  have hI : Tryd.prog.cellsOf 3 = 1 := by kernel_rfl
  simp only [hI] at h0 h1 h2
  obtain ⟨a1, e0, -, -⟩ := DataW.trod_int Tryd.underlying3 h0
  obtain ⟨a2, e1, -, -⟩ := DataW.trod_int Tryd.underlying3 h1
  obtain ⟨a3, e2, -, -⟩ := DataW.trod_int Tryd.underlying3 h2
  simp at e0 e1 e2
  subst e0; subst e1; subst e2
  exact ⟨⟨a1, a2, a3⟩, rfl⟩
/-- Four numbers that came in. -/
def IsStokes (_ : World) (v : Value) : Prop := ∃ a b c d : Fr, v = .agg #[.int .i64 a.re, .int .i64 a.im, .int .i64 a.den, .int .i64 b.re, .int .i64 b.im, .int .i64 b.den, .int .i64 c.re, .int .i64 c.im, .int .i64 c.den, .int .i64 d.re, .int .i64 d.im, .int .i64 d.den]
theorem list12 {α : Type} {l : List α} (h : l.length = 12) : ∃ a b c d e f g i j k m n, l = [a, b, c, d, e, f, g, i, j, k, m, n] := by
  match l, h with
  | [a, b, c, d, e, f, g, i, j, k, m, n], _ => exact ⟨a, b, c, d, e, f, g, i, j, k, m, n, rfl⟩
theorem read_stokes (hv : Value.okWide Tryd.prog w r b0 31 v) (h : DataW.Trod enc Tryd.prog w base (fun _ => true) true 31 v d p) : IsStokes w v := by
  obtain ⟨cs, rfl, hsz⟩ := okWide_struct Tryd.underlying31 hv
  have hC : Tryd.prog.cellsOf 31 = 12 := by kernel_rfl
  rw [hC] at hsz
  obtain ⟨fuel, hf⟩ := h
  obtain ⟨y0, n, -, -, h0⟩ := trod_struct1 Tryd.underlying31 hf
  obtain ⟨xs, m, -, -, -, hl, he⟩ := DataW.trod_array Tryd.underlying29 h0
  have hA : Tryd.prog.cellsOf 29 = 12 := by kernel_rfl
  have hF : Tryd.prog.cellsOf 23 = 3 := by kernel_rfl
  simp only [hA, hF, Value.cells] at he
  obtain ⟨c0, c1, c2, c3, c4, c5, c6, c7, c8, c9, c10, c11, hcs⟩ := list12 (l := cs.toList) (by simpa using hsz)
  obtain rfl : cs = #[c0, c1, c2, c3, c4, c5, c6, c7, c8, c9, c10, c11] := by
    apply Array.toList_inj.1
    rw [hcs]
  match xs, hl with
  | [z0, z1, z2, z3], _ =>
    have e0 := he 0 (by omega)
    have e1 := he 1 (by omega)
    have e2 := he 2 (by omega)
    have e3 := he 3 (by omega)
    obtain ⟨a, ha⟩ := frac_of_trod (by rfl) e0
    obtain ⟨b, hb⟩ := frac_of_trod (by rfl) e1
    obtain ⟨c, hc⟩ := frac_of_trod (by rfl) e2
    obtain ⟨d, hd⟩ := frac_of_trod (by rfl) e3
    simp [Fr.cs] at ha hb hc hd
    refine ⟨a, b, c, d, ?_⟩
    simp [ha, hb, hc, hd]
/-- A text that came in. -/
def IsStr (_ : World) (v : Value) : Prop := ∃ s : ByteArray, v = .string s ∧ s.size ≤ 9223372036854775807
theorem read_string (hv : Value.okWide Tryd.prog w r b0 9 v) (h : DataW.Trod enc Tryd.prog w base (fun _ => true) true 9 v d p) : IsStr w v := by
  obtain ⟨s, rfl, rfl, rfl, ws⟩ := Go.ChangeMaps.open_string Tryd.underlying9 hv h
  unfold maxLen at ws
  exact ⟨s, rfl, by omega⟩
end
end Go.Proofs.YtklkfkgpjjpaiaaDoor
