/-
  Plain mathematics of fractions: quotients, values of lowest terms. No program in sight.
-/
import Derived.Test.YtmmjkchjgeklnaaDoorFrcM
namespace Go.Proofs.YtmmjkchjgeklnaaDoor

theorem gcd3_scale (k x y z : Int) (hk : 1 ≤ k) : gcd3 (k * x) (k * y) (k * z) = k * gcd3 x y z := by
  rw [gcd3_nat, gcd3_nat, Int.natAbs_mul, Int.natAbs_mul, Int.natAbs_mul, Nat.gcd_mul_left, Nat.gcd_mul_left]
  rw [Int.natCast_mul]
  congr 1
  omega
theorem flow_scale (k x y z : Int) (hk : 1 ≤ k) : flow (k * x) (k * y) (k * z) = flow x y z := by
  have e := gcd3_scale k x y z hk
  unfold flow
  rw [e, Int.mul_tdiv_mul_of_pos _ _ (by omega), Int.mul_tdiv_mul_of_pos _ _ (by omega), Int.mul_tdiv_mul_of_pos _ _ (by omega)]
/-- What lowest terms are worth. -/
theorem flow_val {re im den : Int} (h : 1 ≤ den) (hk : (flow re im den).2 = true) :
    (flow re im den).1.re * den = re * (flow re im den).1.den ∧ (flow re im den).1.im * den = im * (flow re im den).1.den ∧ 1 ≤ (flow re im den).1.den := by
  have hg := gcd3_pos re im den h
  have hd : ∀ x : Int, ((gcd3 re im den).natAbs ∣ x.natAbs) → x.tdiv (gcd3 re im den) * gcd3 re im den = x := fun x hx => Int.tdiv_mul_cancel (Int.natAbs_dvd_natAbs.1 hx)
  have e : (gcd3 re im den).natAbs = Nat.gcd (Nat.gcd re.natAbs im.natAbs) den.natAbs := by rw [gcd3_nat, Int.natAbs_natCast]
  have d1 := hd re (by rw [e]; exact Nat.dvd_trans (Nat.gcd_dvd_left _ _) (Nat.gcd_dvd_left _ _))
  have d2 := hd im (by rw [e]; exact Nat.dvd_trans (Nat.gcd_dvd_left _ _) (Nat.gcd_dvd_right _ _))
  have d3 := hd den (by rw [e]; exact Nat.gcd_dvd_right _ _)
  have hp := den_tdiv_pos re im den h
  unfold flow at hk ⊢
  split
  · dsimp only
    generalize re.tdiv (gcd3 re im den) = a at d1 hp ⊢
    generalize im.tdiv (gcd3 re im den) = b at d2 hp ⊢
    generalize den.tdiv (gcd3 re im den) = c at d3 hp ⊢
    generalize gcd3 re im den = g at d1 d2 d3
    rw [← d1, ← d2, ← d3]
    refine ⟨?_, ?_, hp⟩
    · rw [Int.mul_comm c g, ← Int.mul_assoc]
    · rw [Int.mul_comm c g, ← Int.mul_assoc]
  · rename_i hn
    rw [if_neg hn] at hk
    cases hk
/-- The bottom divides the other bottom. -/
theorem den_dvd {a b c x y z : Int} (hg : gcd3 a b c = 1) (h1 : a * z = x * c) (h2 : b * z = y * c) : c.natAbs ∣ z.natAbs := by
  have hg' : Nat.gcd (Nat.gcd a.natAbs b.natAbs) c.natAbs = 1 := by
    rw [gcd3_nat] at hg
    omega
  have n1 : a.natAbs * z.natAbs = x.natAbs * c.natAbs := by rw [← Int.natAbs_mul, ← Int.natAbs_mul, h1]
  have n2 : b.natAbs * z.natAbs = y.natAbs * c.natAbs := by rw [← Int.natAbs_mul, ← Int.natAbs_mul, h2]
  have m1 : c.natAbs ∣ z.natAbs * a.natAbs := ⟨x.natAbs, by rw [Nat.mul_comm, n1, Nat.mul_comm]⟩
  have m2 : c.natAbs ∣ z.natAbs * b.natAbs := ⟨y.natAbs, by rw [Nat.mul_comm, n2, Nat.mul_comm]⟩
  have m3 : c.natAbs ∣ z.natAbs * c.natAbs := Nat.dvd_mul_left _ _
  have m4 := Nat.dvd_gcd (Nat.dvd_gcd m1 m2) m3
  rw [Nat.gcd_mul_left, Nat.gcd_mul_left, hg', Nat.mul_one] at m4
  exact m4
theorem fr_unique {f g : Fr} (hf : f.valid = true) (hg : g.valid = true) (h1 : f.re * g.den = g.re * f.den) (h2 : f.im * g.den = g.im * f.den) : f = g := by
  obtain ⟨-, -, ⟨fd, -⟩, fg⟩ := Fr.valid_out hf
  obtain ⟨-, -, ⟨gd, -⟩, gg⟩ := Fr.valid_out hg
  have d1 := den_dvd fg h1 h2
  have d2 := den_dvd gg h1.symm h2.symm
  have e := Nat.dvd_antisymm d1 d2
  have ed : f.den = g.den := by omega
  obtain ⟨a, b, c⟩ := f
  obtain ⟨x, y, z⟩ := g
  simp only at ed h1 h2 gd fd
  subst ed
  have e1 := Int.eq_of_mul_eq_mul_right (by omega) h1
  have e2 := Int.eq_of_mul_eq_mul_right (by omega) h2
  rw [e1, e2]

def fturn (b : Fr) : Fr × Bool := flow (b.den * b.re) (-b.den * b.im) (b.re * b.re + b.im * b.im)
/-- A zero. -/
def fnul (b : Fr) : Bool := decide (b.re = 0) && decide (b.im = 0)
def fover (a b : Fr) : Fr × Bool :=
  if a.valid && b.valid && !fnul b then
    if (fturn b).2 then ftimes a (fturn b).1 else (Fr.none, false)
  else (Fr.none, false)
theorem sq_nonneg' (a : Int) : 0 ≤ a * a := by
  rcases Int.le_total 0 a with h | h
  · exact Int.mul_nonneg h h
  · have := Int.mul_nonneg (a := -a) (b := -a) (by omega) (by omega)
    rwa [Int.neg_mul_neg] at this
theorem pos_mul {a b : Int} (h1 : 1 ≤ a) (h2 : 1 ≤ b) : 1 ≤ a * b := by
  have := Int.mul_pos (a := a) (b := b) (by omega) (by omega)
  omega
theorem sq_pos {b : Fr} (h : fnul b = false) : 1 ≤ b.re * b.re + b.im * b.im := by
  have h1 : 0 ≤ b.re * b.re := sq_nonneg' _
  have h2 : 0 ≤ b.im * b.im := sq_nonneg' _
  by_cases e : b.re = 0
  · have e2 : b.im ≠ 0 := by
      intro h3
      rw [fnul, decide_eq_true e, decide_eq_true h3] at h
      cases h
    have h3 : b.im * b.im ≠ 0 := Int.mul_ne_zero e2 e2
    omega
  · have h3 : b.re * b.re ≠ 0 := Int.mul_ne_zero e e
    omega
/-- The same by a common divisor. -/
theorem fturn_by (b : Fr) (g d n : Int) (hg : 1 ≤ g) (h1 : b.den = g * d) (h2 : b.re * b.re + b.im * b.im = g * n) : fturn b = flow (b.re * d) (0 - b.im * d) n := by
  unfold fturn
  rw [h2, h1, ← flow_scale g (b.re * d) (0 - b.im * d) n hg]
  have e1 : g * d * b.re = g * (b.re * d) := by rw [Int.mul_assoc, Int.mul_comm d]
  have e2 : -(g * d) * b.im = g * (0 - b.im * d) := by
    rw [Int.zero_sub, Int.mul_neg, Int.neg_mul, Int.mul_assoc, Int.mul_comm d]
  rw [e1, e2]
theorem fover_none {a b : Fr} (h : (fover a b).2 = false) : (fover a b).1 = Fr.none := by
  unfold fover at h ⊢
  split
  · rename_i h1
    rw [if_pos h1] at h
    split
    · rename_i h2
      rw [if_pos h2] at h
      unfold ftimes at h ⊢
      split
      · rename_i h3
        rw [if_pos h3] at h
        unfold flow at h ⊢
        split
        · rename_i h4
          rw [if_pos h4] at h
          cases h
        · rfl
      · rfl
    · rfl
  · rfl
/-- What a quotient is worth, times the divisor: the dividend. -/
theorem fover_times {a b p : Fr} {o : Fr} (ho : fover a b = (o, true)) (hp : ftimes o b = (p, true)) : p = a := by
  unfold fover at ho
  rcases ha : a.valid with _ | _
  · rw [ha] at ho; simp at ho
  rcases hb : b.valid with _ | _
  · rw [hb] at ho; simp at ho
  rcases hn : fnul b with _ | _
  rotate_left
  · rw [hn] at ho; simp at ho
  rw [ha, hb, hn] at ho
  simp only [Bool.not_false, Bool.and_self, if_true] at ho
  rcases ht : (fturn b).2 with _ | _
  · rw [ht] at ho; simp at ho
  rw [ht, if_pos rfl] at ho
  have hpos := sq_pos hn
  obtain ⟨-, -, ⟨ad, -⟩, -⟩ := Fr.valid_out ha
  obtain ⟨-, -, ⟨bd, -⟩, -⟩ := Fr.valid_out hb
  have v1 := flow_val (re := b.den * b.re) (im := -b.den * b.im) hpos ht
  have k1 := flow_ok (re := b.den * b.re) (im := -b.den * b.im) hpos ht
  change (fturn b).1.re * _ = _ * (fturn b).1.den ∧ (fturn b).1.im * _ = _ * (fturn b).1.den ∧ 1 ≤ (fturn b).1.den at v1
  change (fturn b).1.valid = true at k1
  generalize (fturn b).1 = c at v1 k1 ho
  have cd := v1.2.2
  unfold ftimes at ho
  rw [ha, k1] at ho
  simp only [Bool.and_self, if_true] at ho
  have hcd : 1 ≤ a.den * c.den := by exact pos_mul ‹_› ‹_›
  have v2 := flow_val (re := a.re * c.re - a.im * c.im) (im := a.re * c.im + a.im * c.re) hcd (by rw [ho])
  have k2 := flow_ok (re := a.re * c.re - a.im * c.im) (im := a.re * c.im + a.im * c.re) hcd (by rw [ho])
  rw [ho] at v2 k2
  simp only at v2 k2
  have od := v2.2.2
  unfold ftimes at hp
  rw [k2, hb] at hp
  simp only [Bool.and_self, if_true] at hp
  have hod : 1 ≤ o.den * b.den := by exact pos_mul ‹_› ‹_›
  have v3 := flow_val (re := o.re * b.re - o.im * b.im) (im := o.re * b.im + o.im * b.re) hod (by rw [hp])
  have k3 := flow_ok (re := o.re * b.re - o.im * b.im) (im := o.re * b.im + o.im * b.re) hod (by rw [hp])
  rw [hp] at v3 k3
  simp only at v3 k3
  clear ho hp ht hb hn k1 k2
  obtain ⟨a1, a2, a3⟩ := a
  obtain ⟨b1, b2, b3⟩ := b
  obtain ⟨c1, c2, c3⟩ := c
  obtain ⟨o1, o2, o3⟩ := o
  obtain ⟨p1, p2, p3⟩ := p
  simp only at *
  obtain ⟨u1, u2, -⟩ := v1
  obtain ⟨s1, s2, -⟩ := v2
  obtain ⟨t1, t2, pd⟩ := v3
  have hX : c1 * b1 - c2 * b2 = b3 * c3 := by
    refine Int.eq_of_mul_eq_mul_right (a := b1 * b1 + b2 * b2) (by omega) ?_
    have e : (c1 * b1 - c2 * b2) * (b1 * b1 + b2 * b2) = (c1 * (b1 * b1 + b2 * b2)) * b1 - (c2 * (b1 * b1 + b2 * b2)) * b2 := by grind
    rw [e, u1, u2]
    clear e u1 u2 s1 s2 t1 t2 k3 ha
    grind
  have hY : c2 * b1 + c1 * b2 = 0 := by
    refine Int.eq_of_mul_eq_mul_right (a := b1 * b1 + b2 * b2) (by omega) ?_
    have e : (c2 * b1 + c1 * b2) * (b1 * b1 + b2 * b2) = (c2 * (b1 * b1 + b2 * b2)) * b1 + (c1 * (b1 * b1 + b2 * b2)) * b2 := by grind
    rw [e, u1, u2]
    clear e u1 u2 s1 s2 t1 t2 k3 ha hX
    grind
  have e1 : (o1 * b1 - o2 * b2) * a3 = o3 * (a1 * b3) := by
    refine Int.eq_of_mul_eq_mul_right (a := c3) (by omega) ?_
    have e : (o1 * b1 - o2 * b2) * a3 * c3 = (o1 * (a3 * c3)) * b1 - (o2 * (a3 * c3)) * b2 := by grind
    rw [e, s1, s2]
    have e' : (a1 * c1 - a2 * c2) * o3 * b1 - (a1 * c2 + a2 * c1) * o3 * b2 = o3 * (a1 * (c1 * b1 - c2 * b2) - a2 * (c2 * b1 + c1 * b2)) := by grind
    rw [e', hX, hY]
    clear e e' s1 s2 t1 t2 u1 u2 hX hY k3 ha
    grind
  have e2 : (o1 * b2 + o2 * b1) * a3 = o3 * (a2 * b3) := by
    refine Int.eq_of_mul_eq_mul_right (a := c3) (by omega) ?_
    have e : (o1 * b2 + o2 * b1) * a3 * c3 = (o1 * (a3 * c3)) * b2 + (o2 * (a3 * c3)) * b1 := by grind
    rw [e, s1, s2]
    have e' : (a1 * c1 - a2 * c2) * o3 * b2 + (a1 * c2 + a2 * c1) * o3 * b1 = o3 * (a1 * (c2 * b1 + c1 * b2) + a2 * (c1 * b1 - c2 * b2)) := by grind
    rw [e', hX, hY]
    clear e e' s1 s2 t1 t2 u1 u2 hX hY k3 ha e1
    grind
  have hob : o3 * b3 ≠ 0 := by omega
  have g1 : p1 * a3 = a1 * p3 := by
    refine Int.eq_of_mul_eq_mul_right hob ?_
    have e : p1 * a3 * (o3 * b3) = (p1 * (o3 * b3)) * a3 := by grind
    rw [e, t1]
    have e' : (o1 * b1 - o2 * b2) * p3 * a3 = p3 * ((o1 * b1 - o2 * b2) * a3) := by grind
    rw [e', e1]
    clear e e' s1 s2 t1 t2 u1 u2 hX hY k3 ha e1 e2
    grind
  have g2 : p2 * a3 = a2 * p3 := by
    refine Int.eq_of_mul_eq_mul_right hob ?_
    have e : p2 * a3 * (o3 * b3) = (p2 * (o3 * b3)) * a3 := by grind
    rw [e, t2]
    have e' : (o1 * b2 + o2 * b1) * p3 * a3 = p3 * ((o1 * b2 + o2 * b1) * a3) := by grind
    rw [e', e2]
    clear e e' s1 s2 t1 t2 u1 u2 hX hY k3 ha e1 e2 g1
    grind
  exact fr_unique k3 ha g1 g2
end Go.Proofs.YtmmjkchjgeklnaaDoor
