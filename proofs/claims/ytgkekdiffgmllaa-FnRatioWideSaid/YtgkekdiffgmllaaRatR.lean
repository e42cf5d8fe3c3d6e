/-
  Plain floats: a quotient by one, and what is alike. No program in sight.
-/
import Derived.Test.YtgkekdiffgmllaaRatQ
import Derived.Test.YtgkekdiffgmllaaFltQ
namespace Go.Proofs.Ytgkekdiffgmllaa
open Go.RowKit Ieee

theorem wpart_fin (n d : Int) (h1 : -2000000000 ≤ n) (h2 : n ≤ 2000000000) (h3 : 1 ≤ d) (h4 : d ≤ 2000000000) : Fin64 (wpart n d) := by
  obtain ⟨D, rfl⟩ := Int.eq_ofNat_of_zero_le (show 0 ≤ d by omega)
  obtain ⟨dn, dj, hd, hd1, hd2⟩ := read_whole D (by omega) (by omega)
  have hn : NumLe double (floatOfInt .f64 n) 31 := by
    refine nearest_num (f := double) (decide (n < 0)) n.natAbs 0 30 (fun h => ?_) (by decide +kernel) (by decide +kernel)
    have : n.natAbs.log2 ≤ 30 := log2_le_of h (by omega)
    omega
  obtain ⟨s, m, e, hr, hm⟩ := hn
  obtain ⟨s', M, P, hq, hM⟩ := quotient_num (double.fractionBits + 2) s false m dn e dj 31 hm hd1 hd2
  have e1 : floatBits .quo .f64 (floatOfInt .f64 n) (floatOfInt .f64 (D : Int)) = some (double.nearest s' M P) := by
    show double.div (floatOfInt .f64 n) (double.nearest (decide ((D : Int) < 0)) D 0) = _
    have : decide ((D : Int) < 0) = false := by simp
    rw [this]
    unfold Format.div
    rw [hr, hd, hq]
    rfl
  have e2 : wpart n D = double.nearest s' M P := by unfold wpart; rw [e1]; rfl
  rw [e2]
  obtain ⟨t, M2, P2, hr2, -⟩ := nearest_num (f := double) s' M P 31 hM (by decide +kernel) (by decide +kernel)
  refine ⟨?_, t, M2, P2, hr2⟩
  obtain ⟨r, hw, hle⟩ := nearest_rung (f := double) s' M P
  rw [hw]
  have hi : double.infRung = 9218868437227405312 := by decide
  rw [hi] at hle
  unfold Format.word
  rw [dbl_weight]
  split <;> omega

/-- Two finite floats that are equal: the same word, or zeros both. -/
theorem order_fin {x : Nat} (h : Fin64 x) : double.order x x = some .eq := by
  obtain ⟨-, s, m, i, hr⟩ := h
  unfold Format.order
  rw [hr]
  simp [Datum.order]
theorem order_zer {x y : Nat} (hx : Zer x) (hy : Zer y) : double.order x y = some .eq := by
  rcases hx with rfl | rfl <;> rcases hy with rfl | rfl <;> decide
theorem order_like {x y : Nat} (h : Fin64 y) (k : x = y ∨ (Zer y ∧ Zer x)) : double.order x y = some .eq := by
  rcases k with rfl | ⟨h1, h2⟩
  · exact order_fin h
  · exact order_zer h2 h1
theorem cmp_eq {x y : Int} (h : compare x y = .eq) : x = y := by
  exact Std.LawfulEqCmp.eq_of_compare h
theorem eq_one {x : Nat} (h : Fin64 x) (k : double.order x 4607182418800017408 = some .eq) : x = 4607182418800017408 := by
  obtain ⟨h1, s, m, i, hr⟩ := h
  have hc : double.read 4607182418800017408 = .number false 4503599627370496 (-52) := by decide
  unfold Format.order at k
  rw [hr, hc] at k
  simp only [Datum.order, Option.some.injEq] at k
  have e := cmp_eq k
  obtain ⟨p, hp⟩ : ∃ p, p = (i - min i (-52)).toNat := ⟨_, rfl⟩
  obtain ⟨q, hq⟩ : ∃ q, q = (-52 - min i (-52)).toNat := ⟨_, rfl⟩
  rw [← hp, ← hq] at e
  have hone := fin_word (x := 4607182418800017408) (by decide) hc q
  have hx := fin_word h1 hr p
  have hpos : 0 < 4503599627370496 <<< q := by
    rw [Nat.shiftLeft_eq]
    exact Nat.mul_pos (by decide) (Nat.two_pow_pos _)
  have e2 : -52 - (q : Int) = i - (p : Int) := by omega
  cases s with
  | true =>
    exfalso
    simp only [signed] at e
    generalize m <<< p = M at e
    generalize 4503599627370496 <<< q = N at e hpos
    simp at e
    omega
  | false =>
    have e3 : m <<< p = 4503599627370496 <<< q := by
      simp only [signed] at e
      generalize m <<< p = M at e ⊢
      generalize 4503599627370496 <<< q = N at e ⊢
      simp at e
      omega
    rw [← hx, e3, ← e2, hone]
theorem eq_zer {x : Nat} (h : Fin64 x) (k : double.order x 0 = some .eq) : Zer x := by
  obtain ⟨h1, s, m, i, hr⟩ := h
  have hc : double.read 0 = .number false 0 (-1074) := by decide
  unfold Format.order at k
  rw [hr, hc] at k
  simp only [Datum.order, Option.some.injEq] at k
  have e := cmp_eq k
  have e0 : ∀ n, signed false 0 n = 0 := fun n => by simp [signed]
  rw [e0] at e
  have hm : m = 0 := by
    generalize (i - min i (-1074)).toNat = p at e
    by_cases h0 : m = 0
    · exact h0
    · exfalso
      have hpos : 0 < m <<< p := by
        rw [Nat.shiftLeft_eq]
        exact Nat.mul_pos (by omega) (Nat.two_pow_pos _)
      unfold signed at e
      generalize m <<< p = M at e hpos
      cases s <;> simp at e <;> omega
  subst hm
  exact fin_zero h1 hr

theorem fb_quo (x y : Nat) : floatBits .quo .f64 x y = double.div x y := rfl
theorem fb_mul (x y : Nat) : floatBits .mul .f64 x y = double.mul x y := rfl
theorem fb_add (x y : Nat) : floatBits .add .f64 x y = double.add x y := rfl
theorem fb_sub (x y : Nat) : floatBits .sub .f64 x y = double.sub x y := rfl
/-- A quotient by one is what was divided, up to the signs of zeros. -/
theorem qopt_one {a b d : Nat} (ha : Fin64 a) (hb : Fin64 b) (hd : Zer d) :
    ∃ e f, qopt a b 4607182418800017408 d = (some e, some f) ∧ (e = a ∨ (Zer a ∧ Zer e)) ∧ (f = b ∨ (Zer b ∧ Zer f)) := by
  have hge : absGe 4607182418800017408 d = true := by rcases hd with rfl | rfl <;> decide
  have h1 : floatBits .quo .f64 d 4607182418800017408 = some d := by rcases hd with rfl | rfl <;> decide
  have h2 : ∃ p, floatBits .mul .f64 d d = some p ∧ floatBits .add .f64 4607182418800017408 p = some 4607182418800017408 := by
    rcases hd with rfl | rfl
    · exact ⟨0, by decide, by decide +kernel⟩
    · exact ⟨0, by decide, by decide +kernel⟩
  obtain ⟨p, h3, h4⟩ := h2
  obtain ⟨z1, m1, k1⟩ := mul_zero hb hd
  obtain ⟨z2, m2, k2⟩ := mul_zero ha hd
  obtain ⟨e, s1, l1⟩ := add_zero ha k1
  obtain ⟨f, s2, l2⟩ := sub_zero hb k2
  have fe : Fin64 e := by
    rcases l1 with rfl | ⟨-, h⟩
    · exact ha
    · exact h.fin
  have ff : Fin64 f := by
    rcases l2 with rfl | ⟨-, h⟩
    · exact hb
    · exact h.fin
  have d1 := div_one fe
  have d2 := div_one ff
  have m1' : floatBits .mul .f64 b d = some z1 := (fb_mul _ _).trans m1
  have m2' : floatBits .mul .f64 a d = some z2 := (fb_mul _ _).trans m2
  have s1' : floatBits .add .f64 a z1 = some e := (fb_add _ _).trans s1
  have s2' : floatBits .sub .f64 b z2 = some f := (fb_sub _ _).trans s2
  have d1' : floatBits .quo .f64 e 4607182418800017408 = some e := (fb_quo _ _).trans d1
  have d2' : floatBits .quo .f64 f 4607182418800017408 = some f := (fb_quo _ _).trans d2
  have hq : q1 a b 4607182418800017408 d = (some e, some f) := by
    unfold q1
    rw [hge]
    simp only [if_true, ob, Option.bind_some, h1, h3, h4, m1', m2', s1', s2', d1', d2']
  refine ⟨e, f, ?_, l1, l2⟩
  unfold qopt
  rw [hq]
  have hn : onan (some e) = false := (fin_plain fe).1
  simp [hn]

/-- One over what is no NaN is no NaN. -/
theorem one_over_not {x : Nat} (h : Op.Complex.isNaN x = false) : ∃ r, floatBits .quo .f64 4607182418800017408 x = some r ∧ double.order r r = some .eq := by
  have h1 : double.read 4607182418800017408 = .number false 4503599627370496 (-52) := by decide +kernel
  have hself : ∀ (s : Bool) (r : Nat), r ≤ double.infRung → double.order (double.word s r) (double.word s r) = some .eq := by
    intro s r h
    unfold Format.order
    rcases read_le double s r h with ⟨m, e, h1⟩ | h1
    · rw [h1]; simp [Datum.order]
    · rw [h1]; simp [Datum.order]
  show ∃ r, double.div 4607182418800017408 x = some r ∧ double.order r r = some .eq
  unfold Op.Complex.isNaN FloatKind.decode at h
  have e : FloatKind.f64.format = double := rfl
  rw [e] at h
  unfold Format.div
  rw [h1]
  cases hr : double.read x with
  | nan s t => rw [hr] at h; cases h
  | infinity s =>
    obtain ⟨r, h2, h3⟩ := write_number double (false ^^ s) 0 0
    refine ⟨_, rfl, ?_⟩
    show double.order (double.nearest (false ^^ s) 0 _) (double.nearest (false ^^ s) 0 _) = _
    exact order_zer (nearest_zero _ _) (nearest_zero _ _)
  | number s m i =>
    simp only [Datum.quotient]
    by_cases hm : m = 0
    · rw [if_pos hm, if_neg (by decide)]
      exact ⟨_, rfl, hself _ _ (Nat.le_refl _)⟩
    · rw [if_neg hm]
      obtain ⟨r, h2, h3⟩ := write_number double (false ^^ s) (2 * (4503599627370496 <<< (double.fractionBits + 2 + m.log2 - Nat.log2 4503599627370496) / m) + (4503599627370496 <<< (double.fractionBits + 2 + m.log2 - Nat.log2 4503599627370496) % m != 0).toNat) (-52 - i - ((double.fractionBits + 2 + m.log2 - Nat.log2 4503599627370496 : Nat) : Int) - 1)
      refine ⟨_, rfl, ?_⟩
      rw [h2]
      exact hself _ _ h3
theorem order_not {x : Nat} (h : Op.Complex.isNaN x = false) : double.order x x = some .eq := by
  unfold Op.Complex.isNaN FloatKind.decode at h
  have e : FloatKind.f64.format = double := rfl
  rw [e] at h
  unfold Format.order
  cases hr : double.read x with
  | nan s t => rw [hr] at h; cases h
  | infinity s => simp [Datum.order]
  | number s m i => simp [Datum.order]
theorem order_nan {x y : Nat} (h : Op.Complex.isNaN x = true) : double.order x y = none := by
  obtain ⟨s, t, hr⟩ := nan_read h
  unfold Format.order
  rw [hr]
  rfl
end Go.Proofs.Ytgkekdiffgmllaa
