/-
  Plain mathematics of fractions: lowest terms. No program in sight.
-/
import Derived.Test.YtklkfkgpjjpaiaaGreatDoorFrcV
set_option linter.unusedSimpArgs false
set_option linter.unusedVariables false
namespace Go.Proofs.YtklkfkgpjjpaiaaGreatDoor

/-- A fraction: parts and bottom. -/
structure Fr where
  re : Int
  im : Int
  den : Int
  deriving DecidableEq
def Fr.v (x : Fr) : Value := .agg #[.int .i64 x.re, .int .i64 x.im, .int .i64 x.den]
def Fr.none : Fr := ⟨0, 0, 0⟩
def Fr.valid (x : Fr) : Bool := fvalid x.re x.im x.den
/-- A fraction and whether it is one, as values. -/
def frv (r : Fr × Bool) : Value := .tuple #[r.1.v, .bool r.2]
/-- Lowest terms, if their parts are small enough. -/
def flow (re im den : Int) : Fr × Bool :=
  if inB2 (re.tdiv (gcd3 re im den)) (-2000000000) 2000000000 && inB2 (im.tdiv (gcd3 re im den)) (-2000000000) 2000000000 && decide (den.tdiv (gcd3 re im den) ≤ 2000000000) then
    (⟨re.tdiv (gcd3 re im den), im.tdiv (gcd3 re im den), den.tdiv (gcd3 re im den)⟩, true)
  else (Fr.none, false)

theorem flow_of {re im den g x y z : Int} (hg : gcd3 re im den = g) (hx : re.tdiv g = x) (hy : im.tdiv g = y) (hz : den.tdiv g = z) :
    flow re im den = if inB2 x (-2000000000) 2000000000 && inB2 y (-2000000000) 2000000000 && !decide (2000000000 < z) then (⟨x, y, z⟩, true) else (Fr.none, false) := by
  subst hg
  subst hx
  subst hy
  subst hz
  have : (!decide (2000000000 < den.tdiv (gcd3 re im den))) = decide (den.tdiv (gcd3 re im den) ≤ 2000000000) := by
    by_cases h : 2000000000 < den.tdiv (gcd3 re im den)
    · have h2 : ¬ den.tdiv (gcd3 re im den) ≤ 2000000000 := by omega
      simp [h, h2]
    · have h2 : den.tdiv (gcd3 re im den) ≤ 2000000000 := by omega
      simp [h, h2]
  rw [this]
  rfl
theorem gcd3_nat (re im den : Int) : gcd3 re im den = ((Nat.gcd (Nat.gcd re.natAbs im.natAbs) den.natAbs : Nat) : Int) := rfl
theorem gcd3_pos (re im den : Int) (h : 1 ≤ den) : 1 ≤ gcd3 re im den := by
  have : 0 < Nat.gcd (Nat.gcd re.natAbs im.natAbs) den.natAbs := Nat.gcd_pos_of_pos_right _ (by omega)
  rw [gcd3_nat]; omega
theorem gcd3_le (re im den : Int) (h : 1 ≤ den) : gcd3 re im den ≤ den := by
  have : Nat.gcd (Nat.gcd re.natAbs im.natAbs) den.natAbs ≤ den.natAbs := Nat.gcd_le_right _ (by omega)
  rw [gcd3_nat]; omega
theorem tdiv_bd (a g m : Int) (h1 : -m ≤ a) (h2 : a ≤ m) : -m ≤ a.tdiv g ∧ a.tdiv g ≤ m := by
  have h : (a.tdiv g).natAbs ≤ a.natAbs := by rw [Int.natAbs_tdiv]; exact Nat.div_le_self _ _
  omega
theorem natAbs_tdiv_gcd (re im den : Int) (h : 1 ≤ den) : gcd3 (re.tdiv (gcd3 re im den)) (im.tdiv (gcd3 re im den)) (den.tdiv (gcd3 re im den)) = 1 := by
  have h0 : 0 < Nat.gcd (Nat.gcd re.natAbs im.natAbs) den.natAbs := Nat.gcd_pos_of_pos_right _ (by omega)
  rw [gcd3_nat (re.tdiv _)]
  simp only [Int.natAbs_tdiv]
  rw [gcd3_nat, Int.natAbs_natCast]
  obtain ⟨g, hg⟩ : ∃ g, g = Nat.gcd (Nat.gcd re.natAbs im.natAbs) den.natAbs := ⟨_, rfl⟩
  rw [← hg] at h0 ⊢
  have d1 : g ∣ re.natAbs := by rw [hg]; exact Nat.dvd_trans (Nat.gcd_dvd_left _ _) (Nat.gcd_dvd_left _ _)
  have d2 : g ∣ im.natAbs := by rw [hg]; exact Nat.dvd_trans (Nat.gcd_dvd_left _ _) (Nat.gcd_dvd_right _ _)
  have d3 : g ∣ den.natAbs := by rw [hg]; exact Nat.gcd_dvd_right _ _
  show ((Nat.gcd (Nat.gcd (re.natAbs / g) (im.natAbs / g)) (den.natAbs / g) : Nat) : Int) = 1
  rw [Nat.gcd_div d1 d2, Nat.gcd_div (Nat.dvd_gcd d1 d2) d3, ← hg, Nat.div_self h0]
  rfl
theorem den_tdiv_pos (re im den : Int) (h : 1 ≤ den) : 1 ≤ den.tdiv (gcd3 re im den) := by
  have h1 := gcd3_pos re im den h
  have h2 := gcd3_le re im den h
  have : 1 ≤ den / gcd3 re im den := (Int.le_ediv_iff_mul_le (by omega)).2 (by omega)
  rw [Int.tdiv_eq_ediv_of_nonneg (by omega)]
  exact this
/-- What is in lowest terms and small enough is valid. -/
theorem flow_valid_iff (re im den : Int) (h : 1 ≤ den) : fvalid (re.tdiv (gcd3 re im den)) (im.tdiv (gcd3 re im den)) (den.tdiv (gcd3 re im den)) =
    (inB2 (re.tdiv (gcd3 re im den)) (-2000000000) 2000000000 && inB2 (im.tdiv (gcd3 re im den)) (-2000000000) 2000000000 && decide (den.tdiv (gcd3 re im den) ≤ 2000000000)) := by
  have h1 := den_tdiv_pos re im den h
  have h2 := natAbs_tdiv_gcd re im den h
  unfold fvalid
  rw [h2]
  have h3 : inB2 (den.tdiv (gcd3 re im den)) 1 2000000000 = decide (den.tdiv (gcd3 re im den) ≤ 2000000000) := by
    unfold inB2
    simp [h1]
  rw [h3]
  simp
theorem flow_of' {re im den g x y z : Int} (hg : gcd3 re im den = g) (hx : re.tdiv g = x) (hy : im.tdiv g = y) (hz : den.tdiv g = z)
    (h : fvalid x y z = (inB2 x (-2000000000) 2000000000 && inB2 y (-2000000000) 2000000000 && decide (z ≤ 2000000000))) :
    flow re im den = if fvalid x y z then (⟨x, y, z⟩, true) else (Fr.none, false) := by
  rw [h]
  subst hg
  subst hx
  subst hy
  subst hz
  rfl
theorem flow_ok {re im den : Int} (h : 1 ≤ den) (hk : (flow re im den).2 = true) : (flow re im den).1.valid = true := by
  unfold flow at hk ⊢
  rw [← flow_valid_iff re im den h] at hk ⊢
  split
  · rename_i hv; exact hv
  · rename_i hv; rw [if_neg hv] at hk; cases hk
theorem fvalid_out {re im den : Int} (h : fvalid re im den = true) : (-2000000000 ≤ re ∧ re ≤ 2000000000) ∧ (-2000000000 ≤ im ∧ im ≤ 2000000000) ∧ (1 ≤ den ∧ den ≤ 2000000000) ∧ gcd3 re im den = 1 := by
  unfold fvalid at h
  simp only [Bool.and_eq_true, decide_eq_true_eq] at h
  exact ⟨inB2_out h.1.1.1, inB2_out h.1.1.2, inB2_out h.1.2, h.2⟩
theorem Fr.valid_out {x : Fr} (h : x.valid = true) : (-2000000000 ≤ x.re ∧ x.re ≤ 2000000000) ∧ (-2000000000 ≤ x.im ∧ x.im ≤ 2000000000) ∧ (1 ≤ x.den ∧ x.den ≤ 2000000000) ∧ gcd3 x.re x.im x.den = 1 := fvalid_out h

/-- Products of parts are below four times ten to the eighteen. -/
theorem mul_bd {a b : Int} (h1 : -2000000000 ≤ a ∧ a ≤ 2000000000) (h2 : -2000000000 ≤ b ∧ b ≤ 2000000000) : -4000000000000000000 ≤ a * b ∧ a * b ≤ 4000000000000000000 := by
  have h : (a * b).natAbs ≤ 2000000000 * 2000000000 := by
    rw [Int.natAbs_mul]
    exact Nat.mul_le_mul (by omega) (by omega)
  omega
theorem mul_bd1 {a b : Int} (h1 : 1 ≤ a ∧ a ≤ 2000000000) (h2 : 1 ≤ b ∧ b ≤ 2000000000) : 1 ≤ a * b ∧ a * b ≤ 4000000000000000000 := by
  have h3 := mul_bd (a := a) (b := b) (by omega) (by omega)
  have h4 : 1 * 1 ≤ a * b := Int.mul_le_mul h1.1 h2.1 (by omega) (by omega)
  omega
end Go.Proofs.YtklkfkgpjjpaiaaGreatDoor
