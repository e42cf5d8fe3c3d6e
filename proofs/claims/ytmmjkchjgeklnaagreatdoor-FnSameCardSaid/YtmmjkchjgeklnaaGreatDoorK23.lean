/-
  Proved: what functions compute, part 23. No condition.
-/
import Derived.Test.YtmmjkchjgeklnaaGreatDoorK05
import Derived.Test.YtmmjkchjgeklnaaGreatDoorK22
import Derived.Deep.Slices
import Derived.Deep.Strs
set_option linter.unusedSimpArgs false
set_option linter.unusedVariables false
set_option maxRecDepth 20000
set_option maxHeartbeats 8000000
namespace Go.Proofs.YtmmjkchjgeklnaaGreatDoor
section
open Go.ChangeShapes Go.WideShapes Go.ChangeAt Go.RowKit Go.Joins Go.Deep

theorem list14 {α : Type} {l : List α} (h : l.length = 14) : ∃ a b c d e f g i j k m n o p, l = [a, b, c, d, e, f, g, i, j, k, m, n, o, p] := by
 match l, h with
 | [a, b, c, d, e, f, g, i, j, k, m, n, o, p], _ => exact ⟨a, b, c, d, e, f, g, i, j, k, m, n, o, p, rfl⟩
def M4.cs (v : M4) : List Value := [.int .i64 v.a.re, .int .i64 v.a.im, .int .i64 v.a.den, .int .i64 v.b.re, .int .i64 v.b.im, .int .i64 v.b.den, .int .i64 v.c.re, .int .i64 v.c.im, .int .i64 v.c.den, .int .i64 v.d.re, .int .i64 v.d.im, .int .i64 v.d.den]
def rcells (S : ByteArray) (v : M4) (h : Int) : List Value := .string S :: (v.cs ++ [.int .u32 h])
theorem recc_cells (S : ByteArray) (v : M4) (h : Int) : Ws S v h = .agg (rcells S v h).toArray := rfl
section
variable {H : Type} {enc : TypeId × Value → H} {w : World} {base : Nat} {r : Reach} {b0 : Nat} {d : DataW H} {p : List MemPlace} {v : Value}
theorem Hj {n : Nat} {cs : List Value} {y : DataW H × List MemPlace} (hl : cs.length = 12) (h : DataW.trod enc Tryz.prog w base (fun _ => true) true n 26 cs = some y) : ∃ v : M4, cs = v.cs := by
 obtain ⟨y0, m, -, -, h0⟩ := trod_struct1 Tryz.underlying26 h
 obtain ⟨xs, m, -, -, -, hx, he⟩ := DataW.trod_array Tryz.underlying24 h0
 have hA : Tryz.prog.cellsOf 24 = 12 := by kernel_rfl
 have hF : Tryz.prog.cellsOf 23 = 3 := by kernel_rfl
 simp only [hA, hF] at he
 obtain ⟨c0, c1, c2, c3, c4, c5, c6, c7, c8, c9, c10, c11, rfl⟩ := list12 hl
 match xs, hx with
 | [z0, z1, z2, z3], _ =>
  have e0 := he 0 (by omega)
  have e1 := he 1 (by omega)
  have e2 := he 2 (by omega)
  have e3 := he 3 (by omega)
  obtain ⟨a, ha⟩ := Vz (by rfl) e0
  obtain ⟨b, hb⟩ := Vz (by rfl) e1
  obtain ⟨c, hc⟩ := Vz (by rfl) e2
  obtain ⟨d, hd⟩ := Vz (by rfl) e3
  simp [Fr.cs] at ha hb hc hd
  refine ⟨⟨a, b, c, d⟩, ?_⟩
  simp [M4.cs, ha, hb, hc, hd]
theorem Nz {n : Nat} {cs : List Value} {y : DataW H × List MemPlace} (hl : cs.length = 14) (h : DataW.trod enc Tryz.prog w base (fun _ => true) true n 29 cs = some y) :
  ∃ (S : ByteArray) (v : M4) (k : Int), cs = rcells S v k ∧ S.size ≤ 9223372036854775807 := by
 obtain ⟨y0, y1, y2, m, -, -, h0, h1, h2⟩ := trod_struct3 Tryz.underlying29 h
 have hI : Tryz.prog.cellsOf 9 = 1 := by kernel_rfl
 have hS : Tryz.prog.cellsOf 26 = 12 := by kernel_rfl
 have hU : Tryz.prog.cellsOf 27 = 1 := by kernel_rfl
 simp only [hI, hS, hU] at h0 h1 h2
 obtain ⟨s, e0, -, hs⟩ := DataW.trod_string Tryz.underlying9 h0
 obtain ⟨k, e2, -, -⟩ := DataW.trod_int Tryz.underlying27 h2
 obtain ⟨c0, c1, c2, c3, c4, c5, c6, c7, c8, c9, c10, c11, c12, c13, rfl⟩ := list14 hl
 obtain ⟨v, e1⟩ := Hj (by rfl) h1
 unfold maxLen at hs
 refine ⟨s, v, k, ?_, by omega⟩
 simp at e0 e1 e2
 unfold rcells
 rw [← e1, e0, e2]
 rfl
def Lj (_ : World) (v : Value) : Prop := ∃ (S : ByteArray) (u : M4) (n : Int), v = Ws S u n ∧ S.size ≤ 9223372036854775807
theorem Ny (hv : Value.okWide Tryz.prog w r b0 29 v) (h : DataW.Trod enc Tryz.prog w base (fun _ => true) true 29 v d p) : Lj w v := by
 obtain ⟨cs, rfl, hsz⟩ := okWide_struct Tryz.underlying29 hv
 have hC : Tryz.prog.cellsOf 29 = 14 := by kernel_rfl
 rw [hC] at hsz
 obtain ⟨fuel, hf⟩ := h
 obtain ⟨S, u, n, e, hs⟩ := Nz (by show cs.toList.length = 14; simpa using hsz) hf
 refine ⟨S, u, n, ?_, hs⟩
 rw [recc_cells, ← e]
 rfl
end
end
end Go.Proofs.YtmmjkchjgeklnaaGreatDoor
