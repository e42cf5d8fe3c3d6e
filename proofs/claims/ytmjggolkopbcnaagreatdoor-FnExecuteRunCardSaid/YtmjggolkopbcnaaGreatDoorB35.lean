/-
  Proved: what functions compute, part 35. No condition.
-/
import Derived.Test.YtmjggolkopbcnaaGreatDoorB05
set_option linter.unusedSimpArgs false
set_option linter.unusedVariables false
set_option maxRecDepth 20000
set_option maxHeartbeats 8000000
namespace Go.Proofs.YtmjggolkopbcnaaGreatDoor
section
open Go.RowKit

def Fr.cs (x : Fr) : List Value := [.int .i64 x.re, .int .i64 x.im, .int .i64 x.den]
def We (xs : List Fr) : List Value := xs.flatMap Fr.cs
theorem frCells_len (xs : List Fr) : (We xs).length = xs.length * 3 := by
 induction xs with
 | nil => rfl
 | cons x xs ih => simp [We, Fr.cs] at *; omega
def Fr.zero : Fr := ⟨0, 0, 0⟩
theorem frCells_at (xs : List Fr) (k : Nat) (hk : k < xs.length) :
  (We xs)[k * 3]? = some (.int .i64 (xs.getD k .zero).re) ∧ (We xs)[k * 3 + 1]? = some (.int .i64 (xs.getD k .zero).im) ∧ (We xs)[k * 3 + 2]? = some (.int .i64 (xs.getD k .zero).den) := by
 induction xs generalizing k with
 | nil => simp at hk
 | cons x xs ih =>
  match k with
  | 0 => simp [We, Fr.cs]
  | k + 1 =>
   have h := ih k (by simpa using hk)
   have e : We (x :: xs) = Value.int .i64 x.re :: .int .i64 x.im :: .int .i64 x.den :: We xs := rfl
   rw [e]
   have e1 : (k + 1) * 3 = k * 3 + 1 + 1 + 1 := by omega
   rw [e1]
   simpa using h
def Vd (w : World) (A : Option Addr) (xs : List Fr) : Prop := Slc w A (We xs)
section
variable {w w1 : World} {A : Option Addr} {xs : List Fr}
theorem Vd.ex (h : Vd w A xs) (he : Ex w w1) : Vd w1 A xs := Slc.ex h he
theorem Vd.alloc (h : Vd w A xs) (o : Obj) : Vd (w.alloc o) A xs := Slc.alloc h o
theorem Vd.drew (h : Vd w A xs) : Vd w.drew A xs := h
theorem Vd.at (h : Vd w A xs) (hp : 0 < xs.length) : ∃ b off, A = some ⟨b, off, none⟩ ∧ ∀ k, k < xs.length →
  w.cell? ⟨b, off + k * 3, none⟩ = some (.int .i64 (xs.getD k .zero).re) ∧ w.cell? ⟨b, off + k * 3 + 1, none⟩ = some (.int .i64 (xs.getD k .zero).im) ∧ w.cell? ⟨b, off + k * 3 + 2, none⟩ = some (.int .i64 (xs.getD k .zero).den) := by
 have hl := frCells_len xs
 obtain ⟨b, off, rfl, hc⟩ := h (by omega)
 refine ⟨b, off, rfl, fun k hk => ?_⟩
 obtain ⟨h1, h2, h3⟩ := frCells_at xs k hk
 have c1 := hc (k * 3) (by omega)
 have c2 := hc (k * 3 + 1) (by omega)
 have c3 := hc (k * 3 + 2) (by omega)
 rw [h1] at c1; rw [h2] at c2; rw [h3] at c3
 exact ⟨c1, c2, c3⟩
end
def gok (xs : List Fr) : Bool := xs.all Fr.valid && Yo xs.length 1 40
end
end Go.Proofs.YtmjggolkopbcnaaGreatDoor
