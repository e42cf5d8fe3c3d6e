/-
  Plain mathematics of fractions: sums, differences, products, powers. No program in sight.
-/
import Derived.Test.YtklkfkgpjjpaiaaGreatDoorFrcF
set_option linter.unusedSimpArgs false
set_option linter.unusedVariables false
namespace Go.Proofs.YtklkfkgpjjpaiaaGreatDoor

def fadd2 (a b : Fr) : Fr × Bool := if a.valid && b.valid then flow (a.re * b.den + b.re * a.den) (a.im * b.den + b.im * a.den) (a.den * b.den) else (Fr.none, false)
def fless (a b : Fr) : Fr × Bool := if a.valid && b.valid then flow (a.re * b.den - b.re * a.den) (a.im * b.den - b.im * a.den) (a.den * b.den) else (Fr.none, false)
def ftimes (a b : Fr) : Fr × Bool := if a.valid && b.valid then flow (a.re * b.re - a.im * b.im) (a.re * b.im + a.im * b.re) (a.den * b.den) else (Fr.none, false)
def fpower (a : Fr) : Fr × Bool := if a.valid then flow (a.re * a.re + a.im * a.im) 0 (a.den * a.den) else (Fr.none, false)
def fmirror (a : Fr) : Fr × Bool := if a.valid then (⟨a.re, -a.im, a.den⟩, true) else (Fr.none, false)
def fsign (n : Int) : Int := if n < 0 then -1 else if 0 < n then 1 else 0
def fcmp (a b : Fr) : Int × Bool := if a.valid && b.valid && decide (a.im = 0) && decide (b.im = 0) then (fsign (a.re * b.den - b.re * a.den), true) else (0, false)

def fsum (s : Int) (a b : Fr) : Fr × Bool := if a.valid && b.valid then flow (a.re * b.den + s * b.re * a.den) (a.im * b.den + s * b.im * a.den) (a.den * b.den) else (Fr.none, false)
theorem fsum_less (a b : Fr) : fsum (-1) a b = fless a b := by
  unfold fsum fless
  have e1 : a.re * b.den + -1 * b.re * a.den = a.re * b.den - b.re * a.den := by
    rw [Int.neg_mul, Int.one_mul, Int.neg_mul]; omega
  have e2 : a.im * b.den + -1 * b.im * a.den = a.im * b.den - b.im * a.den := by
    rw [Int.neg_mul, Int.one_mul, Int.neg_mul]; omega
  rw [e1, e2]
theorem fsum_add (a b : Fr) : fsum 1 a b = fadd2 a b := by
  unfold fsum fadd2
  rw [Int.one_mul, Int.one_mul]
theorem sgn_bd {s b : Int} (hs : s = 1 ∨ s = -1) (h : -2000000000 ≤ b ∧ b ≤ 2000000000) : -2000000000 ≤ s * b ∧ s * b ≤ 2000000000 := by
  rcases hs with rfl | rfl <;> omega

section
variable {a1 a2 a3 b1 b2 b3 : Int}
theorem fadd2_ok (h1 : fvalid a1 a2 a3 = true) (h2 : fvalid b1 b2 b3 = true) : fadd2 ⟨a1, a2, a3⟩ ⟨b1, b2, b3⟩ = flow (a1 * b3 + b1 * a3) (a2 * b3 + b2 * a3) (a3 * b3) := by simp [fadd2, Fr.valid, h1, h2]
theorem fless_ok (h1 : fvalid a1 a2 a3 = true) (h2 : fvalid b1 b2 b3 = true) : fless ⟨a1, a2, a3⟩ ⟨b1, b2, b3⟩ = flow (a1 * b3 - b1 * a3) (a2 * b3 - b2 * a3) (a3 * b3) := by simp [fless, Fr.valid, h1, h2]
theorem fsum_ok {s : Int} (h1 : fvalid a1 a2 a3 = true) (h2 : fvalid b1 b2 b3 = true) : fsum s ⟨a1, a2, a3⟩ ⟨b1, b2, b3⟩ = flow (a1 * b3 + s * b1 * a3) (a2 * b3 + s * b2 * a3) (a3 * b3) := by simp [fsum, Fr.valid, h1, h2]
theorem ftimes_ok (h1 : fvalid a1 a2 a3 = true) (h2 : fvalid b1 b2 b3 = true) : ftimes ⟨a1, a2, a3⟩ ⟨b1, b2, b3⟩ = flow (a1 * b1 - a2 * b2) (a1 * b2 + a2 * b1) (a3 * b3) := by simp [ftimes, Fr.valid, h1, h2]
theorem fpower_ok (h1 : fvalid a1 a2 a3 = true) : fpower ⟨a1, a2, a3⟩ = flow (a1 * a1 + a2 * a2) 0 (a3 * a3) := by simp [fpower, Fr.valid, h1]
end
theorem fvalid_mirror (a b c : Int) : fvalid a (-b) c = fvalid a b c := by
  have h : inB2 (-b) (-2000000000) 2000000000 = inB2 b (-2000000000) 2000000000 := by
    unfold inB2
    by_cases h1 : -2000000000 ≤ b <;> by_cases h2 : b ≤ 2000000000 <;> simp [h1, h2] <;> omega
  have h2 : gcd3 a (-b) c = gcd3 a b c := by unfold gcd3; rw [Int.natAbs_neg]
  unfold fvalid
  rw [h, h2]
/-- The power is the product with the mirrored one. -/
theorem fpower_times (a : Fr) : fpower a = if (fmirror a).2 then ftimes a (fmirror a).1 else (Fr.none, false) := by
  obtain ⟨a1, a2, a3⟩ := a
  rcases h : fvalid a1 a2 a3 with _ | _
  · simp [fpower, fmirror, Fr.valid, h]
  · have h2 : fvalid a1 (-a2) a3 = true := by rw [fvalid_mirror]; exact h
    have e : fmirror ⟨a1, a2, a3⟩ = (⟨a1, -a2, a3⟩, true) := by simp [fmirror, Fr.valid, h]
    rw [e, fpower_ok h]
    simp only [if_true]
    rw [ftimes_ok h h2]
    have e1 : a1 * a1 - a2 * -a2 = a1 * a1 + a2 * a2 := by rw [Int.mul_neg]; omega
    have e2 : a1 * -a2 + a2 * a1 = 0 := by rw [Int.mul_neg, Int.mul_comm a2 a1]; omega
    rw [e1, e2]
theorem fless_valid {a b : Fr} (h : (fless a b).2 = true) : (fless a b).1.valid = true := by
  unfold fless at h ⊢
  split
  · rename_i hv
    rw [if_pos hv] at h
    have h1 := Fr.valid_out (x := a) (by simp at hv; exact hv.1)
    have h2 := Fr.valid_out (x := b) (by simp at hv; exact hv.2)
    exact flow_ok (mul_bd1 h1.2.2.1 h2.2.2.1).1 h
  · rename_i hv
    rw [if_neg hv] at h
    cases h
theorem flow_im0 {re den : Int} : (flow re 0 den).1.im = 0 := by
  unfold flow
  split <;> simp [Fr.none]
theorem fpower_valid {a : Fr} (h : (fpower a).2 = true) : (fpower a).1.valid = true ∧ (fpower a).1.im = 0 := by
  unfold fpower at h ⊢
  split
  · rename_i hv
    rw [if_pos hv] at h
    have h1 := Fr.valid_out (x := a) hv
    exact ⟨flow_ok (mul_bd1 h1.2.2.1 h1.2.2.1).1 h, flow_im0⟩
  · rename_i hv
    rw [if_neg hv] at h
    cases h
end Go.Proofs.YtklkfkgpjjpaiaaGreatDoor
