/-
  Proved: what functions compute, part 5. No condition.
-/
import Derived.Test.YtmmjkchjgeklnaaGreatDoorK02
import Derived.Test.YtmmjkchjgeklnaaGreatDoorK04
import Derived.Deep.Slices
import Derived.Deep.Strs
set_option linter.unusedSimpArgs false
set_option linter.unusedVariables false
set_option maxRecDepth 20000
set_option maxHeartbeats 8000000
namespace Go.Proofs.YtmmjkchjgeklnaaGreatDoor
section
open Go.ChangeShapes Go.WideShapes Go.ChangeAt Go.RowKit Go.Joins Go.Deep

section
variable {H : Type} {enc : TypeId × Value → H} {w : World} {base : Nat} {r : Reach} {b0 : Nat} {d : DataW H} {p : List MemPlace} {v : Value}
def IsFrac (_ : World) (v : Value) : Prop := ∃ a1 a2 a3 : Int, v = .agg #[.int .i64 a1, .int .i64 a2, .int .i64 a3]
theorem list3f {α : Type} {cs : List α} (h : cs.length = 3) : ∃ a b c, cs = [a, b, c] := by
 match cs, h with
 | [a, b, c], _ => exact ⟨a, b, c, rfl⟩
theorem Vz {n : Nat} {cs : List Value} {y : DataW H × List MemPlace} (hl : cs.length = 3) (h : DataW.trod enc Tryz.prog w base (fun _ => true) true n 23 cs = some y) : ∃ x : Fr, cs = x.cs := by
 obtain ⟨y0, y1, y2, n', -, -, h0, h1, h2⟩ := trod_struct3 Tryz.underlying23 h
 obtain ⟨a, b, c, rfl⟩ := list3f hl
 have hI : Tryz.prog.cellsOf 3 = 1 := by kernel_rfl
 simp only [hI] at h0 h1 h2
 obtain ⟨a1, e0, -, -⟩ := DataW.trod_int Tryz.underlying3 h0
 obtain ⟨a2, e1, -, -⟩ := DataW.trod_int Tryz.underlying3 h1
 obtain ⟨a3, e2, -, -⟩ := DataW.trod_int Tryz.underlying3 h2
 simp at e0 e1 e2
 subst e0; subst e1; subst e2
 exact ⟨⟨a1, a2, a3⟩, rfl⟩
def Ik (_ : World) (v : Value) : Prop := ∃ a b c d : Fr, v = .agg #[.int .i64 a.re, .int .i64 a.im, .int .i64 a.den, .int .i64 b.re, .int .i64 b.im, .int .i64 b.den, .int .i64 c.re, .int .i64 c.im, .int .i64 c.den, .int .i64 d.re, .int .i64 d.im, .int .i64 d.den]
theorem list12 {α : Type} {l : List α} (h : l.length = 12) : ∃ a b c d e f g i j k m n, l = [a, b, c, d, e, f, g, i, j, k, m, n] := by
 match l, h with
 | [a, b, c, d, e, f, g, i, j, k, m, n], _ => exact ⟨a, b, c, d, e, f, g, i, j, k, m, n, rfl⟩
theorem Jr (hv : Value.okWide Tryz.prog w r b0 26 v) (h : DataW.Trod enc Tryz.prog w base (fun _ => true) true 26 v d p) : Ik w v := by
 obtain ⟨cs, rfl, hsz⟩ := okWide_struct Tryz.underlying26 hv
 have hC : Tryz.prog.cellsOf 26 = 12 := by kernel_rfl
 rw [hC] at hsz
 obtain ⟨fuel, hf⟩ := h
 obtain ⟨y0, n, -, -, h0⟩ := trod_struct1 Tryz.underlying26 hf
 obtain ⟨xs, m, -, -, -, hl, he⟩ := DataW.trod_array Tryz.underlying24 h0
 have hA : Tryz.prog.cellsOf 24 = 12 := by kernel_rfl
 have hF : Tryz.prog.cellsOf 23 = 3 := by kernel_rfl
 simp only [hA, hF, Value.cells] at he
 obtain ⟨c0, c1, c2, c3, c4, c5, c6, c7, c8, c9, c10, c11, hcs⟩ := list12 (l := cs.toList) (by simpa using hsz)
 obtain rfl : cs = #[c0, c1, c2, c3, c4, c5, c6, c7, c8, c9, c10, c11] := by
  apply Array.toList_inj.1
  rw [hcs]
 match xs, hl with
 | [z0, z1, z2, z3], _ =>
  have e0 := he 0 (by omega)
  have e1 := he 1 (by omega)
  have e2 := he 2 (by omega)
  have e3 := he 3 (by omega)
  obtain ⟨a, ha⟩ := Vz (by rfl) e0
  obtain ⟨b, hb⟩ := Vz (by rfl) e1
  obtain ⟨c, hc⟩ := Vz (by rfl) e2
  obtain ⟨d, hd⟩ := Vz (by rfl) e3
  simp [Fr.cs] at ha hb hc hd
  refine ⟨a, b, c, d, ?_⟩
  simp [ha, hb, hc, hd]
def IsStr (_ : World) (v : Value) : Prop := ∃ s : ByteArray, v = .string s ∧ s.size ≤ 9223372036854775807
theorem read_string (hv : Value.okWide Tryz.prog w r b0 9 v) (h : DataW.Trod enc Tryz.prog w base (fun _ => true) true 9 v d p) : IsStr w v := by
 obtain ⟨s, rfl, rfl, rfl, ws⟩ := Go.ChangeMaps.open_string Tryz.underlying9 hv h
 unfold maxLen at ws
 exact ⟨s, rfl, by omega⟩
end
end
end Go.Proofs.YtmmjkchjgeklnaaGreatDoor
