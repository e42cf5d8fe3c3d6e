/-
  Plain mathematics of matrices of four fractions: products, adjoints, plates, filters. No program in sight.
-/
import Derived.Test.YtmmjkchjgeklnaaDoorFrcO
namespace Go.Proofs.YtmmjkchjgeklnaaDoor

theorem flow_no {x y z : Int} (h : (flow x y z).2 = false) : (flow x y z).1 = Fr.none := by
  unfold flow at h ⊢
  split
  · rename_i h2; rw [if_pos h2] at h; cases h
  · rfl
theorem none_valid : Fr.none.valid = false := by decide
theorem ftimes_no1 {a b : Fr} (h : a.valid = false) : ftimes a b = (Fr.none, false) := by simp [ftimes, h]
theorem ftimes_no2 {a b : Fr} (h : b.valid = false) : ftimes a b = (Fr.none, false) := by simp [ftimes, h]
theorem fadd2_no1 {a b : Fr} (h : a.valid = false) : fadd2 a b = (Fr.none, false) := by simp [fadd2, h]
theorem fadd2_no2 {a b : Fr} (h : b.valid = false) : fadd2 a b = (Fr.none, false) := by simp [fadd2, h]
theorem ftimes_no {a b : Fr} (h : (ftimes a b).2 = false) : (ftimes a b).1 = Fr.none := by
  unfold ftimes at h ⊢
  split
  · rename_i h2; rw [if_pos h2] at h; exact flow_no h
  · rfl
theorem fadd2_no {a b : Fr} (h : (fadd2 a b).2 = false) : (fadd2 a b).1 = Fr.none := by
  unfold fadd2 at h ⊢
  split
  · rename_i h2; rw [if_pos h2] at h; exact flow_no h
  · rfl
/-- The sum of two products. -/
def finner (a b c d : Fr) : Fr × Bool := fadd2 (ftimes a b).1 (ftimes c d).1
theorem finner_eq (a b c d : Fr) : (if (ftimes a b).2 && (ftimes c d).2 then fadd2 (ftimes a b).1 (ftimes c d).1 else (Fr.none, false)) = finner a b c d := by
  unfold finner
  rcases h1 : (ftimes a b).2 with _ | _
  · rw [ftimes_no h1, fadd2_no1 none_valid]; rfl
  rcases h2 : (ftimes c d).2 with _ | _
  · rw [ftimes_no h2, fadd2_no2 none_valid]; rfl
  rfl
theorem finner_or (a b c d : Fr) (x : Bool) : (((x || !(ftimes a b).2) || !(ftimes c d).2) || !(finner a b c d).2) = (x || !(finner a b c d).2) := by
  have := finner_eq a b c d
  rcases h1 : (ftimes a b).2 with _ | _
  · rw [h1] at this; simp only [Bool.false_and, Bool.false_eq_true, if_false] at this; rw [← this]; simp
  rcases h2 : (ftimes c d).2 with _ | _
  · rw [h1, h2] at this; simp only [Bool.and_false, Bool.false_eq_true, if_false] at this; rw [← this]; simp
  simp

structure M4 where
  a : Fr
  b : Fr
  c : Fr
  d : Fr
  deriving DecidableEq
def M4.none : M4 := ⟨Fr.none, Fr.none, Fr.none, Fr.none⟩
def M4.valid (m : M4) : Bool := m.a.valid && m.b.valid && m.c.valid && m.d.valid
def M4.v (m : M4) : Value := .agg #[.int .i64 m.a.re, .int .i64 m.a.im, .int .i64 m.a.den, .int .i64 m.b.re, .int .i64 m.b.im, .int .i64 m.b.den, .int .i64 m.c.re, .int .i64 m.c.im, .int .i64 m.c.den, .int .i64 m.d.re, .int .i64 m.d.im, .int .i64 m.d.den]
def four (a b c d : Fr × Bool) (ok : Bool) : M4 × Bool := if ok && a.2 && b.2 && c.2 && d.2 then (⟨a.1, b.1, c.1, d.1⟩, true) else (M4.none, false)
def mtimes (x y : M4) : M4 × Bool := four (finner x.a y.a x.b y.c) (finner x.a y.b x.b y.d) (finner x.c y.a x.d y.c) (finner x.c y.b x.d y.d) (x.valid && y.valid)
def madj (x : M4) : M4 × Bool := four (fmirror x.a) (fmirror x.c) (fmirror x.b) (fmirror x.d) true
def Fr.one : Fr := ⟨1, 0, 1⟩
def Fr.nul : Fr := ⟨0, 0, 1⟩
/-- A vector and whether it is one. -/
def two (a b : Fr × Bool) (ok : Bool) : (Fr × Fr) × Bool := if ok && a.2 && b.2 then ((a.1, b.1), true) else ((Fr.none, Fr.none), false)
def mapply (m : M4) (x y : Fr) : (Fr × Fr) × Bool := two (finner m.a x m.b y) (finner m.c x m.d y) (m.valid && (x.valid && y.valid))
def jpower (x y : Fr) : Fr × Bool := fadd2 (fpower x).1 (fpower y).1
def dirOk (p q : Int) : Bool := inB2 p (-100) 100 && inB2 q (-100) 100 && !(decide (p = 0) && decide (q = 0))
def dirC (p q : Int) : Fr := (flow (p * p - q * q) 0 (p * p + q * q)).1
def dirS (p q : Int) : Fr := (flow (2 * p * q) 0 (p * p + q * q)).1
def fneg (a : Fr) : Fr := ⟨-a.re, -a.im, a.den⟩
def mrot (p q : Int) : M4 × Bool := if dirOk p q then (⟨dirC p q, fneg (dirS p q), dirS p q, dirC p q⟩, true) else (M4.none, false)
def phase (k : Int) : Fr := if k = 0 then ⟨1, 0, 1⟩ else if k = 1 then ⟨0, 1, 1⟩ else if k = 2 then ⟨-1, 0, 1⟩ else ⟨0, -1, 1⟩
def mplate (p q k : Int) : M4 × Bool :=
  if dirOk p q && inB2 k 0 3 then
    (if (mtimes (mrot p q).1 ⟨Fr.one, Fr.nul, Fr.nul, phase k⟩).2 && (mtimes (mtimes (mrot p q).1 ⟨Fr.one, Fr.nul, Fr.nul, phase k⟩).1 (madj (mrot p q).1).1).2 then
      mtimes (mtimes (mrot p q).1 ⟨Fr.one, Fr.nul, Fr.nul, phase k⟩).1 (madj (mrot p q).1).1 else (M4.none, false))
  else (M4.none, false)
def mfilter (p q : Int) : M4 × Bool :=
  if dirOk p q then four (ftimes (dirC p q) (dirC p q)) (ftimes (dirC p q) (dirS p q)) (ftimes (dirC p q) (dirS p q)) (ftimes (dirS p q) (dirS p q)) true else (M4.none, false)
theorem flow_small {re im den : Int} (h1 : -2000000000 ≤ re ∧ re ≤ 2000000000) (h2 : -2000000000 ≤ im ∧ im ≤ 2000000000) (h3 : 1 ≤ den ∧ den ≤ 2000000000) : (flow re im den).2 = true := by
  have b1 := tdiv_bd re (gcd3 re im den) 2000000000 h1.1 h1.2
  have b2 := tdiv_bd im (gcd3 re im den) 2000000000 h2.1 h2.2
  have b3 := tdiv_bd den (gcd3 re im den) 2000000000 (by omega) h3.2
  unfold flow inB2
  rw [if_pos]
  simp only [Bool.and_eq_true, decide_eq_true_eq]
  exact ⟨⟨⟨b1.1, b1.2⟩, ⟨b2.1, b2.2⟩⟩, b3.2⟩
end Go.Proofs.YtmmjkchjgeklnaaDoor
