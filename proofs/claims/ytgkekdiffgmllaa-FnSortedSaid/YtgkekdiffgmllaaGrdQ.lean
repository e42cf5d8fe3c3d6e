/-
  Plain mathematics of grids: which element is nearest. No program in sight.
-/
import Derived.Test.YtgkekdiffgmllaaGrdP
import Derived.Test.YtgkekdiffgmllaaFrcC
namespace Go.Proofs.Ytgkekdiffgmllaa

/-- The index of the first element that is below all before it, by a test. -/
def argr (lt : Nat → Nat → Bool) : Nat → Nat
  | 0 => 0
  | n + 1 => if lt (n + 1) (argr lt n) then n + 1 else argr lt n
theorem argr_le (lt : Nat → Nat → Bool) (n : Nat) : argr lt n ≤ n := by
  induction n with
  | zero => exact Nat.le_refl _
  | succ n ih => unfold argr; split <;> omega
theorem argr_round (lt : Nat → Nat → Bool) (k : Nat) : argr lt k = if lt k (argr lt (k - 1)) then k else argr lt (k - 1) := by
  match k with
  | 0 => simp [argr]
  | k + 1 => rfl

/-- The power of a difference. -/
def npow (x a : Fr) : Fr × Bool := fpower (fless x a).1
theorem fless_none {x a : Fr} (h : (fless x a).2 = false) : (fless x a).1 = Fr.none := by
  unfold fless at h ⊢
  split
  · rename_i hv
    rw [if_pos hv] at h
    unfold flow at h ⊢
    split
    · rename_i h2; rw [if_pos h2] at h; cases h
    · rfl
  · rfl
theorem fpower_none' : fpower Fr.none = (Fr.none, false) := by decide +kernel
theorem fpower_none {a : Fr} (h : (fpower a).2 = false) : (fpower a).1 = Fr.none := by
  unfold fpower at h ⊢
  split
  · rename_i hv
    rw [if_pos hv] at h
    unfold flow at h ⊢
    split
    · rename_i h2; rw [if_pos h2] at h; cases h
    · rfl
  · rfl
theorem npow_bad {x a : Fr} (h : (fless x a).2 = false) : npow x a = (Fr.none, false) := by
  unfold npow
  rw [fless_none h]
  exact fpower_none'
theorem npow_or (x a : Fr) (b : Bool) : ((b || !(fless x a).2) || !(npow x a).2) = (b || !(npow x a).2) := by
  rcases h : (fless x a).2 with _ | _
  · rw [npow_bad h]; simp
  · simp
/-- The test of two elements. -/
def nlt (xs : List Fr) (a : Fr) (i j : Nat) : Bool := decide ((fcmp (npow (xs.getD i .zero) a).1 (npow (xs.getD j .zero) a).1).1 < 0)
def gbest (xs : List Fr) (a : Fr) : Nat × Bool := if gok xs && a.valid && xs.all (fun x => (npow x a).2) then (argr (nlt xs a) (xs.length - 1), true) else (0, false)
end Go.Proofs.Ytgkekdiffgmllaa
