/-
  Plain mathematics of fractions: no program in sight.
-/
set_option linter.unusedSimpArgs false
set_option linter.unusedVariables false
namespace Go.Proofs.YtklkfkgpjjpaiaaGreatDoor

/-- The greatest common divisor of three integers, as an integer. -/
def gcd3 (a b c : Int) : Int := (Nat.gcd (Nat.gcd a.natAbs b.natAbs) c.natAbs : Nat)
theorem gcd_loop (x y : Nat) : Nat.gcd y (x % y) = Nat.gcd x y := by
  rw [Nat.gcd_comm x y, Nat.gcd_comm y (x % y)]
  exact (Nat.gcd_rec y x).symm
theorem natAbs_tmod_gcd (a b : Int) : Nat.gcd b.natAbs (a.tmod b).natAbs = Nat.gcd a.natAbs b.natAbs := by
  rw [Int.natAbs_tmod]
  exact gcd_loop _ _
theorem natAbs_tmod_lt (a b : Int) (hb : b ≠ 0) : (a.tmod b).natAbs < b.natAbs := by
  rw [Int.natAbs_tmod]
  exact Nat.mod_lt _ (by omega)
end Go.Proofs.YtklkfkgpjjpaiaaGreatDoor
