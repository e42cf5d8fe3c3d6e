/-
  What the laws' arguments read as: fractions and slices of fractions.
-/
import Derived.Test.YtgkekdiffgmllaaRead
import Derived.Test.YtgkekdiffgmllaaFrcQ
import Derived.Deep.Slices
import Derived.Deep.Strs
namespace Go.Proofs.Ytgkekdiffgmllaa
open Go.ChangeShapes Go.WideShapes Go.ChangeAt Go.RowKit Go.Joins Go.Deep

section
variable {H : Type} {enc : TypeId × Value → H} {w : World} {base : Nat} {r : Reach} {b0 : Nat} {d : DataW H} {p : List MemPlace} {v : Value}
/-- A fraction that came in. -/
def IsFrac (_ : World) (v : Value) : Prop := ∃ a1 a2 a3 : Int, v = .agg #[.int .i64 a1, .int .i64 a2, .int .i64 a3]
theorem read_frac (hv : Value.okWide Try.prog w r b0 37 v) (h : DataW.Trod enc Try.prog w base (fun _ => true) true 37 v d p) : IsFrac w v := by
  obtain ⟨c0, c1, c2, y0, y1, y2, m, rfl, -, -, hy0, hy1, hy2⟩ := open_agg3 Try.underlying37 (by kernel_rfl) (by kernel_rfl) hv h
  obtain ⟨a1, e0, -, -⟩ := DataW.trod_int Try.underlying3 hy0
  obtain ⟨a2, e1, -, -⟩ := DataW.trod_int Try.underlying3 hy1
  obtain ⟨a3, e2, -, -⟩ := DataW.trod_int Try.underlying3 hy2
  simp only [List.cons.injEq, and_true] at e0 e1 e2
  subst e0; subst e1; subst e2
  exact ⟨a1, a2, a3, rfl⟩
/-- A slice of fractions that came in. -/
def IsFracs (w : World) (v : Value) : Prop := ∃ (A : Option Addr) (cap : Nat) (xs : List Fr), v = .slice A xs.length cap ∧ xs.length ≤ 9223372036854775807 ∧ Fracs w A xs
theorem list3 {α : Type} {cs : List α} (h : cs.length = 3) : ∃ a b c, cs = [a, b, c] := by
  match cs, h with
  | [a, b, c], _ => exact ⟨a, b, c, rfl⟩
theorem frac_of_trod {n : Nat} {cs : List Value} {y : DataW H × List MemPlace} (hl : cs.length = 3) (h : DataW.trod enc Try.prog w base (fun _ => true) true n 37 cs = some y) : ∃ x : Fr, cs = x.cs := by
  obtain ⟨y0, y1, y2, n', -, -, h0, h1, h2⟩ := trod_struct3 Try.underlying37 h
  obtain ⟨a, b, c, rfl⟩ := list3 hl
  have hI : Try.prog.cellsOf 3 = 1 := by kernel_rfl
  simp only [hI] at h0 h1 h2
  obtain ⟨a1, e0, -, -⟩ := DataW.trod_int Try.underlying3 h0
  obtain ⟨a2, e1, -, -⟩ := DataW.trod_int Try.underlying3 h1
  obtain ⟨a3, e2, -, -⟩ := DataW.trod_int Try.underlying3 h2
  simp at e0 e1 e2
  subst e0; subst e1; subst e2
  exact ⟨⟨a1, a2, a3⟩, rfl⟩
theorem read_fracs (hv : Value.okWide Try.prog w r b0 36 v) (h : DataW.Trod enc Try.prog w base (fun _ => true) true 36 v d p) : IsFracs w v := by
  obtain ⟨a0, len0, cap0, rfl⟩ := okWide_slice Try.underlying36 hv
  obtain ⟨fuel, hf⟩ := h
  rcases open_slice Try.underlying36 hf with ⟨hcs, _⟩ | ⟨a, len, cap, m, n, D, Pl, hcs, hb, hl, hm, hmm, hx, hi⟩
  · simp [Value.cells] at hcs
    obtain ⟨rfl, rfl, rfl⟩ := hcs
    exact ⟨none, 0, [], rfl, by simp, Slc.nil _ _⟩
  · simp [Value.cells] at hcs
    obtain ⟨rfl, rfl, rfl⟩ := hcs
    have hC : Try.prog.cellsOf 37 = 3 := by kernel_rfl
    simp only [hC] at hi
    unfold maxLen at hm
    have hlm : len0 ≤ m := by rw [hmm]; simpa using hl
    have each : ∀ i, i < m → ∃ x : Fr, w.cells? base (a.add (i * 3)) 3 = some x.cs := by
      intro i him
      obtain ⟨cs', hc, ht⟩ := hi i him
      obtain ⟨x, rfl⟩ := frac_of_trod (World.cells?_some hc).2.1 ht
      exact ⟨x, hc⟩
    obtain ⟨f, hf⟩ : ∃ f : Nat → Fr, ∀ i, i < m → w.cells? base (a.add (i * 3)) 3 = some (f i).cs :=
      ⟨fun i => if h : i < m then Classical.choose (each i h) else .zero, fun i him => by simp only [dif_pos him]; exact Classical.choose_spec (each i him)⟩
    refine ⟨some a, cap0, (List.range len0).map f, by simp, by simp; omega, ?_⟩
    intro hp
    have hlen : (frCells ((List.range len0).map f)).length = len0 * 3 := by rw [frCells_len]; simp
    obtain ⟨b, off, spot⟩ := a
    have hcell : ∀ i, i < m → ∀ j, j < 3 → w.cell? ((Addr.add ⟨b, off, spot⟩ (i * 3)).add j) = (f i).cs[j]? := fun i him j hj => (World.cells?_some (hf i him)).2.2 j hj
    have h0 : w.cell? ((Addr.add ⟨b, off, spot⟩ (0 * 3)).add 0) = some (.int .i64 (f 0).re) := hcell 0 (by omega) 0 (by omega)
    have hspot : spot = none := by simpa [Addr.add] using World.cell?_spot h0
    subst hspot
    refine ⟨b, off, rfl, fun k hk => ?_⟩
    rw [hlen] at hk
    obtain ⟨i, j, hj, rfl⟩ : ∃ i j, j < 3 ∧ k = i * 3 + j := ⟨k / 3, k % 3, Nat.mod_lt _ (by omega), by omega⟩
    have hi2 : i < len0 := by omega
    have h1 := hcell i (by omega) j hj
    rw [Go.WideShapes.add_plain, Go.WideShapes.add_plain] at h1
    rw [show off + (i * 3 + j) = off + i * 3 + j by omega, h1]
    obtain ⟨e1, e2, e3⟩ := frCells_at ((List.range len0).map f) i (by simpa using hi2)
    have eg : ((List.range len0).map f).getD i .zero = f i := by simp [hi2]
    rw [eg] at e1 e2 e3
    match j, hj with
    | 0, _ => exact e1.symm
    | 1, _ => exact e2.symm
    | 2, _ => exact e3.symm
end
end Go.Proofs.Ytgkekdiffgmllaa
