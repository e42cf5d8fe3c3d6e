/-
  Slices of fractions: what they read as; the tests of grids.
-/
import Derived.Test.YtklkfkgpjjpaiaaGreatDoorFrcM
set_option linter.unusedSimpArgs false
set_option linter.unusedVariables false
namespace Go.Proofs.YtklkfkgpjjpaiaaGreatDoor
open Go.RowKit

def Fr.cs (x : Fr) : List Value := [.int .i64 x.re, .int .i64 x.im, .int .i64 x.den]
def frCells (xs : List Fr) : List Value := xs.flatMap Fr.cs
theorem frCells_len (xs : List Fr) : (frCells xs).length = xs.length * 3 := by
  induction xs with
  | nil => rfl
  | cons x xs ih => simp [frCells, Fr.cs] at *; omega
def Fr.zero : Fr := ⟨0, 0, 0⟩
theorem frCells_at (xs : List Fr) (k : Nat) (hk : k < xs.length) :
    (frCells xs)[k * 3]? = some (.int .i64 (xs.getD k .zero).re) ∧ (frCells xs)[k * 3 + 1]? = some (.int .i64 (xs.getD k .zero).im) ∧ (frCells xs)[k * 3 + 2]? = some (.int .i64 (xs.getD k .zero).den) := by
  induction xs generalizing k with
  | nil => simp at hk
  | cons x xs ih =>
    match k with
    | 0 => simp [frCells, Fr.cs]
    | k + 1 =>
      have h := ih k (by simpa using hk)
      have e : frCells (x :: xs) = Value.int .i64 x.re :: .int .i64 x.im :: .int .i64 x.den :: frCells xs := rfl
      rw [e]
      have e1 : (k + 1) * 3 = k * 3 + 1 + 1 + 1 := by omega
      rw [e1]
      simpa using h
/-- A slice that reads as these fractions. -/
def Fracs (w : World) (A : Option Addr) (xs : List Fr) : Prop := Slc w A (frCells xs)
section
variable {w w1 : World} {A : Option Addr} {xs : List Fr}
theorem Fracs.ex (h : Fracs w A xs) (he : Ex w w1) : Fracs w1 A xs := Slc.ex h he
theorem Fracs.alloc (h : Fracs w A xs) (o : Obj) : Fracs (w.alloc o) A xs := Slc.alloc h o
theorem Fracs.drew (h : Fracs w A xs) : Fracs w.drew A xs := h
theorem Fracs.at (h : Fracs w A xs) (hp : 0 < xs.length) : ∃ b off, A = some ⟨b, off, none⟩ ∧ ∀ k, k < xs.length →
    w.cell? ⟨b, off + k * 3, none⟩ = some (.int .i64 (xs.getD k .zero).re) ∧ w.cell? ⟨b, off + k * 3 + 1, none⟩ = some (.int .i64 (xs.getD k .zero).im) ∧ w.cell? ⟨b, off + k * 3 + 2, none⟩ = some (.int .i64 (xs.getD k .zero).den) := by
  have hl := frCells_len xs
  obtain ⟨b, off, rfl, hc⟩ := h (by omega)
  refine ⟨b, off, rfl, fun k hk => ?_⟩
  obtain ⟨h1, h2, h3⟩ := frCells_at xs k hk
  have c1 := hc (k * 3) (by omega)
  have c2 := hc (k * 3 + 1) (by omega)
  have c3 := hc (k * 3 + 2) (by omega)
  rw [h1] at c1; rw [h2] at c2; rw [h3] at c3
  exact ⟨c1, c2, c3⟩
end
def gok (xs : List Fr) : Bool := xs.all Fr.valid && inB2 xs.length 1 40
theorem gok_bad {xs : List Fr} (k : Nat) (hk : k < xs.length) (h : (xs.getD k .zero).valid = false) : gok xs = false := by
  unfold gok
  have : xs.all Fr.valid = false := by
    rw [List.all_eq_false]
    refine ⟨xs[k], List.getElem_mem hk, ?_⟩
    simpa [hk] using h
  rw [this]
  rfl
theorem all_take_succ_fr {xs : List Fr} {k : Nat} (hk : k < xs.length) (h : (xs.take k).all Fr.valid = true) (hv : (xs.getD k .zero).valid = true) : (xs.take (k + 1)).all Fr.valid = true := by
  rw [List.take_succ_eq_append_getElem hk, List.all_append, h]
  simpa [hk] using hv
theorem gok_good {xs : List Fr} {k : Nat} (hk : xs.length ≤ k) (h : (xs.take k).all Fr.valid = true) : gok xs = inB2 xs.length 1 40 := by
  rw [List.take_of_length_le hk] at h
  unfold gok
  rw [h]
  rfl

end Go.Proofs.YtklkfkgpjjpaiaaGreatDoor
