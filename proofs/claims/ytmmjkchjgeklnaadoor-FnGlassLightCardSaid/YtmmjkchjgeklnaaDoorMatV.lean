/-
  Plain: what fractions are worth in products and sums; the power behind a plate and a filter lies between 0 and 1. No program in sight.
-/
import Derived.Test.YtmmjkchjgeklnaaDoorMatP
namespace Go.Proofs.YtmmjkchjgeklnaaDoor

/-- The fraction is worth (X + Yi) / D. -/
structure Rp (f : Fr) (X Y D : Int) : Prop where
  re : f.re * D = X * f.den
  im : f.im * D = Y * f.den
  pos : 1 ≤ D
  den : 1 ≤ f.den
theorem Rp.own {f : Fr} (h : f.valid = true) : Rp f f.re f.im f.den := by
  obtain ⟨-, -, ⟨hd, -⟩, -⟩ := Fr.valid_out h
  exact ⟨rfl, rfl, hd, hd⟩
theorem Rp.cast {f : Fr} {X Y D X' Y' D' : Int} (h : Rp f X Y D) (h1 : X = X') (h2 : Y = Y') (h3 : D = D') : Rp f X' Y' D' := by
  subst h1 h2 h3
  exact h
theorem Rp.scale {f : Fr} {X Y D : Int} (k : Int) (hk : 1 ≤ k) (hD : 1 ≤ D) (h : Rp f (k * X) (k * Y) (k * D)) : Rp f X Y D := by
  obtain ⟨h1, h2, -, h4⟩ := h
  refine ⟨Int.eq_of_mul_eq_mul_left (a := k) (by omega) ?_, Int.eq_of_mul_eq_mul_left (a := k) (by omega) ?_, hD, h4⟩
  · have e : k * (f.re * D) = f.re * (k * D) := by grind
    rw [e, h1]; grind
  · have e : k * (f.im * D) = f.im * (k * D) := by grind
    rw [e, h2]; grind
theorem Rp.flow {X Y D : Int} {f : Fr} (hD : 1 ≤ D) (h : flow X Y D = (f, true)) : Rp f X Y D := by
  have := flow_val (re := X) (im := Y) hD (by rw [h])
  rw [h] at this
  exact ⟨this.1, this.2.1, hD, this.2.2⟩
theorem Rp.times {f g h : Fr} {X Y D X' Y' D' : Int} (hf : Rp f X Y D) (hg : Rp g X' Y' D') (ht : ftimes f g = (h, true)) : Rp h (X * X' - Y * Y') (X * Y' + Y * X') (D * D') := by
  unfold ftimes at ht
  split at ht
  · have hp := pos_mul hf.den hg.den
    obtain ⟨k1, k2, -, k4⟩ := Rp.flow hp ht
    obtain ⟨f1, f2, f3, -⟩ := hf
    obtain ⟨g1, g2, g3, -⟩ := hg
    have hne : f.den * g.den ≠ 0 := by omega
    refine ⟨Int.eq_of_mul_eq_mul_right hne ?_, Int.eq_of_mul_eq_mul_right hne ?_, pos_mul f3 g3, k4⟩
    · have e : h.re * (D * D') * (f.den * g.den) = ((f.re * D) * (g.re * D') - (f.im * D) * (g.im * D')) * h.den := by grind
      rw [e, f1, f2, g1, g2]; grind
    · have e : h.im * (D * D') * (f.den * g.den) = ((f.re * D) * (g.im * D') + (f.im * D) * (g.re * D')) * h.den := by grind
      rw [e, f1, f2, g1, g2]; grind
  · cases ht
theorem Rp.add {f g h : Fr} {X Y D X' Y' D' : Int} (hf : Rp f X Y D) (hg : Rp g X' Y' D') (ht : fadd2 f g = (h, true)) : Rp h (X * D' + X' * D) (Y * D' + Y' * D) (D * D') := by
  unfold fadd2 at ht
  split at ht
  · have hp := pos_mul hf.den hg.den
    obtain ⟨k1, k2, -, k4⟩ := Rp.flow hp ht
    obtain ⟨f1, f2, f3, -⟩ := hf
    obtain ⟨g1, g2, g3, -⟩ := hg
    have hne : f.den * g.den ≠ 0 := by omega
    refine ⟨Int.eq_of_mul_eq_mul_right hne ?_, Int.eq_of_mul_eq_mul_right hne ?_, pos_mul f3 g3, k4⟩
    · have e : h.re * (D * D') * (f.den * g.den) = ((f.re * D) * (g.den * D') + (g.re * D') * (f.den * D)) * h.den := by grind
      rw [e, f1, g1]; grind
    · have e : h.im * (D * D') * (f.den * g.den) = ((f.im * D) * (g.den * D') + (g.im * D') * (f.den * D)) * h.den := by grind
      rw [e, f2, g2]; grind
  · cases ht
theorem Rp.power {f h : Fr} {X Y D : Int} (hf : Rp f X Y D) (ht : fpower f = (h, true)) : Rp h (X * X + Y * Y) 0 (D * D) := by
  unfold fpower at ht
  split at ht
  · have hp := pos_mul hf.den hf.den
    obtain ⟨k1, k2, -, k4⟩ := Rp.flow hp ht
    obtain ⟨f1, f2, f3, -⟩ := hf
    have hne : f.den * f.den ≠ 0 := by omega
    refine ⟨Int.eq_of_mul_eq_mul_right hne ?_, Int.eq_of_mul_eq_mul_right hne ?_, pos_mul f3 f3, k4⟩
    · have e : h.re * (D * D) * (f.den * f.den) = ((f.re * D) * (f.re * D) + (f.im * D) * (f.im * D)) * h.den := by grind
      rw [e, f1, f2]; grind
    · have e : h.im * (D * D) * (f.den * f.den) = (h.im * (f.den * f.den)) * (D * D) := by grind
      rw [e, k2]; grind
  · cases ht
theorem Rp.inner {a b c d h : Fr} {X1 Y1 D1 X2 Y2 D2 X3 Y3 D3 X4 Y4 D4 : Int} (ha : Rp a X1 Y1 D1) (hb : Rp b X2 Y2 D2) (hc : Rp c X3 Y3 D3) (hd : Rp d X4 Y4 D4) (ht : finner a b c d = (h, true)) :
    Rp h ((X1 * X2 - Y1 * Y2) * (D3 * D4) + (X3 * X4 - Y3 * Y4) * (D1 * D2)) ((X1 * Y2 + Y1 * X2) * (D3 * D4) + (X3 * Y4 + Y3 * X4) * (D1 * D2)) (D1 * D2 * (D3 * D4)) := by
  unfold finner at ht
  rcases h1 : ftimes a b with ⟨x, _ | _⟩
  · have : (ftimes a b).1 = Fr.none := ftimes_no (by rw [h1])
    rw [this, fadd2_no1 none_valid] at ht
    cases ht
  rcases h2 : ftimes c d with ⟨y, _ | _⟩
  · have : (ftimes c d).1 = Fr.none := ftimes_no (by rw [h2])
    rw [this, fadd2_no2 none_valid] at ht
    cases ht
  rw [h1, h2] at ht
  exact Rp.add (Rp.times ha hb h1) (Rp.times hc hd h2) ht

theorem four_out {a b c d : Fr × Bool} {ok : Bool} {m : M4} (h : four a b c d ok = (m, true)) : ok = true ∧ a = (m.a, true) ∧ b = (m.b, true) ∧ c = (m.c, true) ∧ d = (m.d, true) := by
  unfold four at h
  split at h
  · rename_i hk
    simp only [Bool.and_eq_true] at hk
    obtain ⟨⟨⟨⟨h0, h1⟩, h2⟩, h3⟩, h4⟩ := hk
    injection h with h5 _
    subst h5
    exact ⟨h0, Prod.ext rfl h1, Prod.ext rfl h2, Prod.ext rfl h3, Prod.ext rfl h4⟩
  · cases h
theorem two_out {a b : Fr × Bool} {ok : Bool} {x y : Fr} (h : two a b ok = ((x, y), true)) : ok = true ∧ a = (x, true) ∧ b = (y, true) := by
  unfold two at h
  split at h
  · rename_i hk
    simp only [Bool.and_eq_true] at hk
    obtain ⟨⟨h0, h1⟩, h2⟩ := hk
    injection h with h5 _
    injection h5 with h6 h7
    subst h6 h7
    exact ⟨h0, Prod.ext rfl h1, Prod.ext rfl h2⟩
  · cases h
theorem M4.valid_out {m : M4} (h : m.valid = true) : m.a.valid = true ∧ m.b.valid = true ∧ m.c.valid = true ∧ m.d.valid = true := by
  unfold M4.valid at h
  simp only [Bool.and_eq_true] at h
  exact ⟨h.1.1.1, h.1.1.2, h.1.2, h.2⟩

/-- The filter that lets light of the second direction of a diagonal through. -/
def flt11 : M4 := ⟨Fr.nul, Fr.nul, Fr.nul, Fr.one⟩
theorem mfilter11 : mfilter 1 1 = (flt11, true) := by decide +kernel
/-- The power behind a plate and the filter. -/
def fcell (p q k : Int) : Fr × Bool :=
  jpower (mapply flt11 (mapply (mplate p q k).1 Fr.one Fr.nul).1.1 (mapply (mplate p q k).1 Fr.one Fr.nul).1.2).1.1 (mapply flt11 (mapply (mplate p q k).1 Fr.one Fr.nul).1.1 (mapply (mplate p q k).1 Fr.one Fr.nul).1.2).1.2
theorem two_no {a b : Fr × Bool} {ok : Bool} (h : (two a b ok).2 = false) : (two a b ok).1 = (Fr.none, Fr.none) := by
  unfold two at h ⊢
  split
  · rename_i hk; rw [if_pos hk] at h; cases h
  · rfl
theorem four_no {a b c d : Fr × Bool} {ok : Bool} (h : (four a b c d ok).2 = false) : (four a b c d ok).1 = M4.none := by
  unfold four at h ⊢
  split
  · rename_i hk; rw [if_pos hk] at h; cases h
  · rfl
theorem m4none_valid : M4.none.valid = false := by decide
theorem two_false (a b : Fr × Bool) : two a b false = ((Fr.none, Fr.none), false) := by simp [two]
theorem mapply_none (x y : Fr) : mapply M4.none x y = ((Fr.none, Fr.none), false) := by
  unfold mapply
  rw [m4none_valid, Bool.false_and, two_false]
theorem mapply_dark (m : M4) : mapply m Fr.none Fr.none = ((Fr.none, Fr.none), false) := by
  unfold mapply
  rw [none_valid, Bool.false_and, Bool.and_false, two_false]
theorem jpower_none : jpower Fr.none Fr.none = (Fr.none, false) := by decide
theorem mplate_no {p q k : Int} (h : (mplate p q k).2 = false) : (mplate p q k).1 = M4.none := by
  unfold mplate at h ⊢
  split
  · rename_i h1
    rw [if_pos h1] at h
    split
    · rename_i h2
      rw [if_pos h2] at h
      simp only [Bool.and_eq_true] at h2
      rw [h2.2] at h
      cases h
    · rfl
  · rfl
/-- All that goes well where the power is one. -/
theorem fcell_out {p q k : Int} {f : Fr} (h : fcell p q k = (f, true)) : ∃ m x y a b, mplate p q k = (m, true) ∧ mapply m Fr.one Fr.nul = ((x, y), true) ∧ mapply flt11 x y = ((a, b), true) ∧ jpower a b = (f, true) := by
  unfold fcell at h
  rcases h1 : mplate p q k with ⟨m, _ | _⟩
  · have : (mplate p q k).1 = M4.none := mplate_no (by rw [h1])
    rw [this, mapply_none, mapply_dark, jpower_none] at h
    cases h
  rw [h1] at h
  simp only at h
  rcases h2 : mapply m Fr.one Fr.nul with ⟨⟨x, y⟩, _ | _⟩
  · have : (mapply m Fr.one Fr.nul).1 = (Fr.none, Fr.none) := two_no (by show (mapply m Fr.one Fr.nul).2 = false; rw [h2])
    rw [this, mapply_dark, jpower_none] at h
    cases h
  rw [h2] at h
  simp only at h
  rcases h3 : mapply flt11 x y with ⟨⟨a, b⟩, _ | _⟩
  · have : (mapply flt11 x y).1 = (Fr.none, Fr.none) := two_no (by show (mapply flt11 x y).2 = false; rw [h3])
    rw [this, jpower_none] at h
    cases h
  rw [h3] at h
  exact ⟨m, x, y, a, b, rfl, h2, h3, h⟩
theorem fcell_eq (p q k : Int) : (if (mplate p q k).2 && (mapply (mplate p q k).1 Fr.one Fr.nul).2 && (mapply flt11 (mapply (mplate p q k).1 Fr.one Fr.nul).1.1 (mapply (mplate p q k).1 Fr.one Fr.nul).1.2).2 && (fcell p q k).2 then ((fcell p q k).1, true) else (Fr.none, false)) = fcell p q k := by
  rcases h : fcell p q k with ⟨f, _ | _⟩
  · have e : f = Fr.none := by
      have : (fcell p q k).1 = Fr.none := by
        have h2 : (fcell p q k).2 = false := by rw [h]
        unfold fcell jpower at h2 ⊢
        exact fadd2_no h2
      rw [h] at this
      exact this
    subst e
    simp
  · obtain ⟨m, x, y, a, b, h1, h2, h3, -⟩ := fcell_out h
    rw [h1]
    simp only
    rw [h2]
    simp only
    rw [h3]
    simp

theorem rp_one : Rp Fr.one 1 0 1 := ⟨rfl, rfl, by decide, by decide⟩
theorem rp_nul : Rp Fr.nul 0 0 1 := ⟨rfl, rfl, by decide, by decide⟩
theorem Rp.neg {f : Fr} {X Y D : Int} (h : Rp f X Y D) : Rp (fneg f) (-X) (-Y) D := by
  obtain ⟨h1, h2, h3, h4⟩ := h
  refine ⟨?_, ?_, h3, h4⟩
  · show -f.re * D = -X * f.den
    rw [Int.neg_mul, Int.neg_mul, h1]
  · show -f.im * D = -Y * f.den
    rw [Int.neg_mul, Int.neg_mul, h2]
theorem Rp.mirror {f h : Fr} {X Y D : Int} (hf : Rp f X Y D) (hm : fmirror f = (h, true)) : Rp h X (-Y) D := by
  unfold fmirror at hm
  split at hm
  · injection hm with e _
    subst e
    obtain ⟨h1, h2, h3, h4⟩ := hf
    refine ⟨h1, ?_, h3, h4⟩
    show -f.im * D = -Y * f.den
    rw [Int.neg_mul, Int.neg_mul, h2]
  · cases hm
/-- The phases: u + v i, with u u + v v = 1. -/
theorem rp_phase {k : Int} (h0 : 0 ≤ k) (h3 : k ≤ 3) : ∃ u v : Int, Rp (phase k) u v 1 ∧ u * u + v * v = 1 ∧ -1 ≤ u := by
  rcases (by omega : k = 0 ∨ k = 1 ∨ k = 2 ∨ k = 3) with rfl | rfl | rfl | rfl
  · exact ⟨1, 0, ⟨rfl, rfl, by decide, by decide⟩, rfl, by decide⟩
  · exact ⟨0, 1, ⟨rfl, rfl, by decide, by decide⟩, rfl, by decide⟩
  · exact ⟨-1, 0, ⟨rfl, rfl, by decide, by decide⟩, rfl, by decide⟩
  · exact ⟨0, -1, ⟨rfl, rfl, by decide, by decide⟩, rfl, by decide⟩
theorem dir_rp {p q : Int} (h : dirOk p q = true) : Rp (dirC p q) (p * p - q * q) 0 (p * p + q * q) ∧ Rp (dirS p q) (2 * p * q) 0 (p * p + q * q) ∧ 1 ≤ p * p + q * q := by
  unfold dirOk at h
  simp only [Bool.and_eq_true, Bool.not_eq_true', Bool.and_eq_false_iff, decide_eq_false_iff_not] at h
  have hp := inB2_out h.1.1
  have hq := inB2_out h.1.2
  have bd : ∀ x y : Int, -100 ≤ x → x ≤ 100 → -100 ≤ y → y ≤ 100 → -10000 ≤ x * y ∧ x * y ≤ 10000 := by
    intro x y h1 h2 h3 h4
    have : (x * y).natAbs ≤ 100 * 100 := by
      rw [Int.natAbs_mul]
      exact Nat.mul_le_mul (by omega) (by omega)
    omega
  have b1 := bd p p hp.1 hp.2 hp.1 hp.2
  have b2 := bd q q hq.1 hq.2 hq.1 hq.2
  have b3 := bd p q hp.1 hp.2 hq.1 hq.2
  have s1 : 0 ≤ p * p := sq_nonneg' _
  have s2 : 0 ≤ q * q := sq_nonneg' _
  have hn : 1 ≤ p * p + q * q := by
    rcases h.2 with h3 | h3
    · have : p * p ≠ 0 := Int.mul_ne_zero h3 h3
      omega
    · have : q * q ≠ 0 := Int.mul_ne_zero h3 h3
      omega
  have e : 2 * p * q = 2 * (p * q) := Int.mul_assoc _ _ _
  refine ⟨Rp.flow hn (Prod.ext rfl (flow_small ⟨by omega, by omega⟩ ⟨by omega, by omega⟩ ⟨hn, by omega⟩)), Rp.flow hn (Prod.ext rfl (flow_small ⟨?_, ?_⟩ ⟨by omega, by omega⟩ ⟨hn, by omega⟩)), hn⟩
  · rw [e]; omega
  · rw [e]; omega
theorem fcell_range {p q k : Int} (h0 : 0 ≤ k) (h3 : k ≤ 3) {f : Fr} (h : fcell p q k = (f, true)) : f.im = 0 ∧ 0 ≤ f.re ∧ f.re ≤ f.den := by
  obtain ⟨m, x, y, a, b, h1, h2, h4, h5⟩ := fcell_out h
  clear h
  unfold mplate at h1
  split at h1
  rotate_left
  · cases h1
  rename_i hd
  simp only [Bool.and_eq_true] at hd
  obtain ⟨rc, rs, hn⟩ := dir_rp hd.1
  have hr : mrot p q = (⟨dirC p q, fneg (dirS p q), dirS p q, dirC p q⟩, true) := by unfold mrot; rw [if_pos hd.1]
  rw [hr] at h1
  generalize dirC p q = C at rc h1 hr
  generalize dirS p q = S at rs h1 hr
  obtain ⟨u, v, rph, huv, hu⟩ := rp_phase h0 h3
  generalize phase k = φ at rph h1
  generalize hA : p * p - q * q = A at rc
  generalize hB : 2 * p * q = B at rs
  generalize hN : p * p + q * q = n at rc rs hn
  have hAB : A * A + B * B = n * n := by rw [← hA, ← hB, ← hN]; grind
  split at h1
  rotate_left
  · cases h1
  rename_i hm
  simp only [Bool.and_eq_true] at hm
  obtain ⟨hm1, -⟩ := hm
  rcases he : mtimes ⟨C, fneg S, S, C⟩ ⟨Fr.one, Fr.nul, Fr.nul, φ⟩ with ⟨g, gk⟩
  rw [he] at h1 hm1
  simp only at h1 hm1
  subst hm1
  unfold mtimes at he h1
  obtain ⟨-, -, -, g3, g4⟩ := four_out he
  simp only at g3 g4
  rcases hj : madj ⟨C, fneg S, S, C⟩ with ⟨j, _ | _⟩
  · have : (madj ⟨C, fneg S, S, C⟩).1 = M4.none := four_no (by show (madj ⟨C, fneg S, S, C⟩).2 = false; rw [hj])
    rw [this, m4none_valid, Bool.and_false] at h1
    unfold four at h1
    simp at h1
  rw [hj] at h1
  unfold madj at hj
  obtain ⟨-, j1, j2, j3, j4⟩ := four_out hj
  simp only at j1 j2 j3 j4
  have rns := rs.neg
  have rj1 := rc.mirror j1
  have rj2 := rs.mirror j2
  have rj3 := rns.mirror j3
  have rj4 := rc.mirror j4
  -- the second row of the first product
  have rg3 : Rp g.c B 0 n := Rp.scale n hn hn ((Rp.inner rs rp_one rc rp_nul g3).cast (by grind) (by grind) (by grind))
  have rg4 : Rp g.d (A * u) (A * v) n := Rp.scale n hn hn ((Rp.inner rs rp_nul rc rph g4).cast (by grind) (by grind) (by grind))
  obtain ⟨-, -, -, m3, -⟩ := four_out h1
  simp only at m3
  have hnn := pos_mul hn hn
  have rm3 : Rp m.c (A * B * (1 - u)) (-(A * B * v)) (n * n) := Rp.scale (n * n) hnn hnn ((Rp.inner rg3 rj1 rg4 rj3 m3).cast (by grind) (by grind) (by grind))
  unfold mapply at h2 h4
  obtain ⟨mv, -, y1⟩ := two_out h2
  simp only [Bool.and_eq_true] at mv
  obtain ⟨va, vb, vc, vd⟩ := M4.valid_out mv.1
  have ry : Rp y (A * B * (1 - u)) (-(A * B * v)) (n * n) := by
    have := Rp.inner rm3 rp_one (Rp.own vd) rp_nul y1
    have hd1 := (Rp.own vd).pos
    exact Rp.scale m.d.den hd1 hnn (this.cast (by grind) (by grind) (by grind))
  obtain ⟨xv, x2, y2⟩ := two_out h4
  simp only [flt11, Bool.and_eq_true] at x2 y2 xv
  have rx := Rp.own xv.2.1
  have hx1 := rx.pos
  have ra : Rp a 0 0 1 := by
    have := Rp.inner rp_nul rx rp_nul ry x2
    exact Rp.scale (x.den * (n * n)) (pos_mul hx1 hnn) (by omega) (this.cast (by grind) (by grind) (by grind))
  have rb : Rp b (A * B * (1 - u)) (-(A * B * v)) (n * n) := by
    have := Rp.inner rp_nul rx rp_one ry y2
    exact Rp.scale x.den hx1 hnn (this.cast (by grind) (by grind) (by grind))
  unfold jpower at h5
  rcases hp1 : fpower a with ⟨pa, _ | _⟩
  · have : (fpower a).1 = Fr.none := by
      have hk : (fpower a).2 = false := by rw [hp1]
      unfold fpower at hk ⊢
      split
      · rename_i hv; rw [if_pos hv] at hk; exact flow_no hk
      · rfl
    rw [this, fadd2_no1 none_valid] at h5
    cases h5
  rcases hp2 : fpower b with ⟨pb, _ | _⟩
  · have : (fpower b).1 = Fr.none := by
      have hk : (fpower b).2 = false := by rw [hp2]
      unfold fpower at hk ⊢
      split
      · rename_i hv; rw [if_pos hv] at hk; exact flow_no hk
      · rfl
    rw [this, fadd2_no2 none_valid] at h5
    cases h5
  rw [hp1, hp2] at h5
  have rf := Rp.add (ra.power hp1) (rb.power hp2) h5
  have rf2 : Rp f (A * A * (B * B) * (2 * (1 - u))) 0 (n * n * (n * n)) := rf.cast (by grind) (by grind) (by grind)
  obtain ⟨e1, e2, e3, e4⟩ := rf2
  clear rf ra rb rx ry rm3 rg3 rg4 rj1 rj2 rj3 rj4 rns rs rc rph h1 h2 h4 h5 he hj hr
  have hab : 0 ≤ A * A * (B * B) := Int.mul_nonneg (sq_nonneg' _) (sq_nonneg' _)
  have hu1 : u ≤ 1 := by
    have h6 : 0 ≤ v * v := sq_nonneg' _
    by_cases h7 : u ≤ 1
    · exact h7
    · have : 2 * 2 ≤ u * u := Int.mul_le_mul (by omega) (by omega) (by omega) (by omega)
      omega
  have hT0 : 0 ≤ A * A * (B * B) * (2 * (1 - u)) := Int.mul_nonneg hab (by omega)
  have hT1 : A * A * (B * B) * (2 * (1 - u)) ≤ n * n * (n * n) := by
    have h6 : A * A * (B * B) * (2 * (1 - u)) ≤ A * A * (B * B) * 4 := Int.mul_le_mul_of_nonneg_left (by omega) hab
    have h7 : n * n * (n * n) - A * A * (B * B) * 4 = (A * A - B * B) * (A * A - B * B) := by rw [← hAB]; grind
    have h8 : 0 ≤ (A * A - B * B) * (A * A - B * B) := sq_nonneg' _
    omega
  generalize A * A * (B * B) * (2 * (1 - u)) = T at e1 hT0 hT1
  generalize n * n * (n * n) = M at e1 e2 e3 hT1
  have him : f.im = 0 := by
    rw [Int.zero_mul] at e2
    rcases Int.mul_eq_zero.1 e2 with h6 | h6
    · exact h6
    · omega
  refine ⟨him, ?_, ?_⟩
  · by_cases hneg : 0 ≤ f.re
    · exact hneg
    · exfalso
      have h6 : 0 ≤ T * f.den := Int.mul_nonneg hT0 (by omega)
      have h7 : f.re * M ≤ -1 * M := Int.mul_le_mul_of_nonneg_right (by omega) (by omega)
      omega
  · by_cases hle : f.re ≤ f.den
    · exact hle
    · exfalso
      have h6 : T * f.den ≤ M * f.den := Int.mul_le_mul_of_nonneg_right hT1 (by omega)
      have h7 : (f.den + 1) * M ≤ f.re * M := Int.mul_le_mul_of_nonneg_right (by omega) (by omega)
      have h8 : (f.den + 1) * M = M * f.den + M := by grind
      omega
end Go.Proofs.YtmmjkchjgeklnaaDoor
