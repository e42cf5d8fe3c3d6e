/-
  Plain mathematics of floats: singles of valid fractions, and their distances. No program in sight.
-/
import Derived.Test.YtgkekdiffgmllaaFltP
namespace Go.Proofs.Ytgkekdiffgmllaa
open Ieee

theorem read_le (f : Format) (s : Bool) (r : Nat) (h : r ≤ f.infRung) : (∃ m e, f.read (f.word s r) = .number s m e) ∨ f.read (f.word s r) = .infinity s := by
  have := infRung_lt' f
  rw [read_word s r (by omega)]
  by_cases h1 : r < f.binade
  · rw [if_pos h1]; exact .inl ⟨_, _, rfl⟩
  · rw [if_neg h1]
    by_cases h2 : r < f.infRung
    · rw [if_pos h2]; exact .inl ⟨_, _, rfl⟩
    · rw [if_neg h2, if_pos (by omega)]; exact .inr rfl
theorem word_false (f : Format) (r : Nat) : f.word false r = r := rfl
theorem write_number (f : Format) (s : Bool) (m : Nat) (e : Int) : ∃ r, f.write (.number s m e) = f.word s r ∧ r ≤ f.infRung := nearest_rung (f := f) s m e
theorem write_infinity (f : Format) (s : Bool) : f.write (.infinity s) = f.word s f.infRung := rfl

/-- The difference of two numbers is none too great to be told: a word that is no NaN. -/
theorem sub_ok {f : Format} {p q : Nat} {k k' : Int} (hp : NumLe f p k) (hq : NumLe f q k') : ∃ s r, f.sub p q = some (f.word s r) ∧ r ≤ f.infRung := by
  obtain ⟨s, m, e, h1, -⟩ := hp
  obtain ⟨t, n, j, h2, -⟩ := hq
  unfold Format.sub
  rw [h1, h2]
  simp only [Datum.opposite, Datum.sum, Option.map_some]
  obtain ⟨r, hr, hl⟩ := write_number f (if signed s m (e - min e j).toNat + signed (!t) n (j - min e j).toNat = 0 then s && !t else decide (signed s m (e - min e j).toNat + signed (!t) n (j - min e j).toNat < 0)) (signed s m (e - min e j).toNat + signed (!t) n (j - min e j).toNat).natAbs (min e j)
  exact ⟨_, r, by rw [← hr], hl⟩
theorem sub_self_ok {f : Format} {p : Nat} {k : Int} (hp : NumLe f p k) : f.sub p p = some 0 := by
  obtain ⟨s, m, e, h1, -⟩ := hp
  unfold Format.sub
  rw [h1]
  have h0 : signed s m (e - min e e).toNat + signed (!s) m (e - min e e).toNat = 0 := by
    cases s <;> simp [signed] <;> omega
  simp only [Datum.opposite, Datum.sum, Option.map_some, h0]
  cases s <;> simp [Format.write, Format.nearest, Format.word]
/-- A square is no NaN, and not below zero. -/
theorem sq_ok (f : Format) (s : Bool) (r : Nat) (h : r ≤ f.infRung) : ∃ y, f.mul (f.word s r) (f.word s r) = some y ∧ y ≤ f.infRung := by
  unfold Format.mul
  rcases read_le f s r h with ⟨m, e, h1⟩ | h1
  · rw [h1]
    obtain ⟨r', hr, hl⟩ := write_number f false (m * m) (e + e)
    exact ⟨r', by simp [Datum.product, hr, word_false], hl⟩
  · rw [h1]
    exact ⟨f.infRung, by simp [Datum.product, write_infinity, word_false], Nat.le_refl _⟩
theorem sq_zero (f : Format) : f.mul 0 0 = some 0 := by
  unfold Format.mul
  have := infRung_lt' f
  have h1 := read_word (f := f) false 0 (by omega)
  rw [word_false, if_pos (binade_pos f)] at h1
  rw [h1]
  simp [Datum.product, Format.write, Format.nearest, Format.word]
/-- A sum of two that are not below zero is no NaN, and not below zero. -/
theorem add_ok (f : Format) (y z : Nat) (hy : y ≤ f.infRung) (hz : z ≤ f.infRung) : ∃ u, f.add y z = some u ∧ u ≤ f.infRung := by
  unfold Format.add
  have h1 := read_le f false y hy
  have h2 := read_le f false z hz
  rw [word_false] at h1 h2
  rcases h1 with ⟨m, e, h1⟩ | h1 <;> rcases h2 with ⟨n, j, h2⟩ | h2 <;> rw [h1, h2]
  · have hs : (if signed false m (e - min e j).toNat + signed false n (j - min e j).toNat = 0 then (false && false) else decide (signed false m (e - min e j).toNat + signed false n (j - min e j).toNat < 0)) = false := by
      split
      · rfl
      · have n1 : signed false m (e - min e j).toNat = ((m <<< (e - min e j).toNat : Nat) : Int) := rfl
        have n2 : signed false n (j - min e j).toNat = ((n <<< (j - min e j).toNat : Nat) : Int) := rfl
        rw [n1, n2]
        have n3 : ∀ a b : Nat, ¬ ((a : Int) + b < 0) := by omega
        simp only [decide_eq_false_iff_not]
        exact n3 _ _
    obtain ⟨r', hr, hl⟩ := write_number f false (signed false m (e - min e j).toNat + signed false n (j - min e j).toNat).natAbs (min e j)
    refine ⟨r', ?_, hl⟩
    simp only [Datum.sum, Option.map_some]
    rw [hs, hr, word_false]
  · exact ⟨f.infRung, by simp [Datum.sum, write_infinity, word_false], Nat.le_refl _⟩
  · exact ⟨f.infRung, by simp [Datum.sum, write_infinity, word_false], Nat.le_refl _⟩
  · exact ⟨f.infRung, by simp [Datum.sum, write_infinity, word_false], Nat.le_refl _⟩
theorem add_zero_ok (f : Format) : f.add 0 0 = some 0 := by
  unfold Format.add
  have := infRung_lt' f
  have h1 := read_word (f := f) false 0 (by omega)
  rw [word_false, if_pos (binade_pos f)] at h1
  rw [h1]
  simp [Datum.sum, Format.write, Format.nearest, Format.word, signed]

/-- The place of a word from zero on in the order of all. -/
def key (f : Format) (r : Nat) : Nat :=
  if r < f.binade then r else if r < f.infRung then (f.binade + r % f.binade) * 2 ^ (r / f.binade - 1) else 2 ^ (f.fractionBits + 2 ^ f.exponentBits)

theorem key_number (f : Format) (r : Nat) (h : r < f.infRung) : ∃ m a, f.read r = .number false m (f.leastPlace + (a : Nat)) ∧ key f r = m * 2 ^ a ∧ key f r < 2 ^ (f.fractionBits + 2 ^ f.exponentBits) := by
  have hlt := infRung_lt' f
  have hB := binade_pos f
  have h1 := read_word (f := f) false r (by omega)
  rw [word_false] at h1
  rw [h1]
  unfold key
  by_cases h2 : r < f.binade
  · rw [if_pos h2, if_pos h2]
    refine ⟨r, 0, by simp, by simp, Nat.lt_of_lt_of_le h2 ?_⟩
    unfold Format.binade
    exact Nat.pow_le_pow_right (by omega) (Nat.le_add_right _ _)
  · rw [if_neg h2, if_pos h, if_neg h2, if_pos h]
    refine ⟨_, _, rfl, rfl, ?_⟩
    have hm : r % f.binade < f.binade := Nat.mod_lt _ hB
    have h3 : r / f.binade < 2 ^ f.exponentBits - 1 := by
      rw [Nat.div_lt_iff_lt_mul hB]
      exact h
    have h4 : f.binade + r % f.binade < 2 ^ (f.fractionBits + 1) := by
      have : 2 ^ (f.fractionBits + 1) = 2 * f.binade := by unfold Format.binade; rw [Nat.pow_succ]; omega
      omega
    have h5 : (f.binade + r % f.binade) * 2 ^ (r / f.binade - 1) < 2 ^ (f.fractionBits + 1) * 2 ^ (r / f.binade - 1) := Nat.mul_lt_mul_of_pos_right h4 (Nat.two_pow_pos _)
    rw [← Nat.pow_add] at h5
    refine Nat.lt_of_lt_of_le h5 (Nat.pow_le_pow_right (by omega) ?_)
    obtain ⟨E, hE⟩ : ∃ E, E = 2 ^ f.exponentBits := ⟨_, rfl⟩
    obtain ⟨X, hX⟩ : ∃ X, X = r / f.binade := ⟨_, rfl⟩
    rw [← hE] at h3 ⊢
    rw [← hX] at h3 ⊢
    omega
theorem key_top (f : Format) (he : 1 ≤ f.exponentBits) : key f f.infRung = 2 ^ (f.fractionBits + 2 ^ f.exponentBits) ∧ f.read f.infRung = .infinity false := by
  have hlt := infRung_lt' f
  have h20 : 2 ^ 1 ≤ 2 ^ f.exponentBits := Nat.pow_le_pow_right (by omega) he
  have hge : f.binade ≤ f.infRung := by
    unfold Format.infRung
    exact Nat.le_mul_of_pos_left _ (by omega)
  have h1 := read_word (f := f) false f.infRung hlt
  rw [word_false] at h1
  have h2 : ¬ f.infRung < f.binade := by omega
  rw [if_neg h2, if_neg (Nat.lt_irrefl _), if_pos rfl] at h1
  unfold key
  rw [if_neg h2, if_neg (Nat.lt_irrefl _)]
  exact ⟨rfl, h1⟩
theorem cmp_iff {x y : Int} {a b : Nat} (h1 : x < y ↔ a < b) (h2 : x = y ↔ a = b) : compare x y = compare a b := by
  rcases Nat.lt_trichotomy a b with h | h | h
  · rw [Int.compare_eq_lt.2 (h1.2 h), Nat.compare_eq_lt.2 h]
  · rw [Int.compare_eq_eq.2 (h2.2 h), Nat.compare_eq_eq.2 h]
  · have : y < x := by
      rcases Int.lt_trichotomy x y with h' | h' | h'
      · have := h1.1 h'; omega
      · have := h2.1 h'; omega
      · exact h'
    rw [Int.compare_eq_gt.2 this, Nat.compare_eq_gt.2 h]
theorem order_key (f : Format) (he : 1 ≤ f.exponentBits) (y z : Nat) (hy : y ≤ f.infRung) (hz : z ≤ f.infRung) : f.order y z = some (compare (key f y) (key f z)) := by
  obtain ⟨ht, hr⟩ := key_top f he
  unfold Format.order
  by_cases h1 : y < f.infRung <;> by_cases h2 : z < f.infRung
  · obtain ⟨m, a, e1, k1, -⟩ := key_number f y h1
    obtain ⟨n, b, e2, k2, -⟩ := key_number f z h2
    rw [e1, e2, k1, k2]
    simp only [Datum.order]
    refine congrArg some (cmp_iff ?_ ?_)
    all_goals
      obtain ⟨c, hc⟩ : ∃ c, c = min a b := ⟨_, rfl⟩
      have hb : min (f.leastPlace + (a : Int)) (f.leastPlace + (b : Int)) = f.leastPlace + (c : Int) := by omega
      rw [hb]
      have ea : (f.leastPlace + (a : Int) - (f.leastPlace + (c : Int))).toNat = a - c := by omega
      have eb : (f.leastPlace + (b : Int) - (f.leastPlace + (c : Int))).toNat = b - c := by omega
      rw [ea, eb]
      have ma : m * 2 ^ a = m * 2 ^ (a - c) * 2 ^ c := by rw [Nat.mul_assoc, ← Nat.pow_add, show a - c + c = a by omega]
      have nb : n * 2 ^ b = n * 2 ^ (b - c) * 2 ^ c := by rw [Nat.mul_assoc, ← Nat.pow_add, show b - c + c = b by omega]
      rw [ma, nb]
      simp only [signed, Nat.shiftLeft_eq, Bool.false_eq_true, if_false]
    · rw [Nat.mul_lt_mul_right (Nat.two_pow_pos _)]
      omega
    · rw [Nat.mul_left_inj (by have := Nat.two_pow_pos c; omega)]
      omega
  · have : z = f.infRung := by omega
    subst this
    obtain ⟨m, a, e1, k1, l1⟩ := key_number f y h1
    rw [e1, hr, ht]
    simp only [Datum.order]
    rw [Nat.compare_eq_lt.2 l1]
    rfl
  · have : y = f.infRung := by omega
    subst this
    obtain ⟨m, a, e1, k1, l1⟩ := key_number f z h2
    rw [e1, hr, ht]
    simp only [Datum.order]
    rw [Nat.compare_eq_gt.2 l1]
    rfl
  · have h3 : y = f.infRung := by omega
    have h4 : z = f.infRung := by omega
    subst h3
    subst h4
    rw [hr]
    simp [Datum.order]

theorem single_infRung : single.infRung = 2139095040 := by decide +kernel
/-- The word of a single is a number in the range of parts. -/
def Sgl (p : Nat) : Prop := NumLe single p 33

/-- The quotient of a part by a bottom, and its single. -/
theorem part_ok (n d : Int) (h1 : -2000000000 ≤ n) (h2 : n ≤ 2000000000) (h3 : 1 ≤ d) (h4 : d ≤ 2000000000) :
    ∃ r r', floatBits .quo .f64 (floatOfInt .f64 n) (floatOfInt .f64 d) = some r ∧ floatToFloatBits .f64 r .f32 = some r' ∧ Sgl r' := by
  obtain ⟨D, rfl⟩ := Int.eq_ofNat_of_zero_le (show 0 ≤ d by omega)
  obtain ⟨dn, dj, hd, hd1, hd2⟩ := read_whole D (by omega) (by omega)
  have hn : NumLe double (floatOfInt .f64 n) 31 := by
    refine nearest_num (f := double) (decide (n < 0)) n.natAbs 0 30 (fun h => ?_) (by decide +kernel) (by decide +kernel)
    have : n.natAbs.log2 ≤ 30 := log2_le_of h (by omega)
    omega
  obtain ⟨s, m, e, hr, hm⟩ := hn
  obtain ⟨s', M, P, hq, hM⟩ := quotient_num (double.fractionBits + 2) s false m dn e dj 31 hm hd1 hd2
  have e1 : floatBits .quo .f64 (floatOfInt .f64 n) (floatOfInt .f64 (D : Int)) = some (double.nearest s' M P) := by
    show double.div (floatOfInt .f64 n) (double.nearest (decide ((D : Int) < 0)) D 0) = _
    have : decide ((D : Int) < 0) = false := by simp
    rw [this]
    unfold Format.div
    rw [hr, hd, hq]
    rfl
  obtain ⟨t, M2, P2, hr2, hM2⟩ := nearest_num (f := double) s' M P 31 hM (by decide +kernel) (by decide +kernel)
  obtain ⟨u, M3, P3, hr3, hM3⟩ := nearest_num (f := single) t M2 P2 32 hM2 (by decide +kernel) (by decide +kernel)
  refine ⟨_, single.nearest t M2 P2, e1, ?_, ⟨u, M3, P3, hr3, hM3⟩⟩
  have e2 : (FloatKind.f64.decode (double.nearest s' M P)) = .number t M2 P2 := hr2
  have e3 : (FloatKind.f32.decode (FloatKind.f32.encode (.number t M2 P2))).isInfinity = false := by
    show (single.read (single.nearest t M2 P2)).isInfinity = false
    rw [hr3]
    rfl
  unfold floatToFloatBits
  rw [if_neg (by decide), e2]
  simp only [e3]
  rfl

/-- The distance of two singles: no NaN on the way, and no word below zero. -/
theorem far_ok (p p' q q' : Nat) (h1 : Sgl p) (h2 : Sgl p') (h3 : Sgl q) (h4 : Sgl q') :
    ∃ x y x2 y2 z, cSumBits .sub .f32 p p' q q' = some (x, y) ∧ floatBits .mul .f32 x x = some x2 ∧ floatBits .mul .f32 y y = some y2 ∧ floatBits .add .f32 x2 y2 = some z ∧ z ≤ single.infRung ∧ (p = q → p' = q' → z = 0) := by
  by_cases hz : p = q ∧ p' = q'
  · obtain ⟨rfl, rfl⟩ := hz
    refine ⟨0, 0, 0, 0, 0, ?_, sq_zero _, sq_zero _, add_zero_ok _, Nat.zero_le _, fun _ _ => rfl⟩
    have a1 : floatBits .sub .f32 p p = some 0 := sub_self_ok h1
    have a2 : floatBits .sub .f32 p' p' = some 0 := sub_self_ok h2
    unfold cSumBits
    rw [a1, a2]
    rfl
  · obtain ⟨s, r, a1, b1⟩ := sub_ok h1 h3
    obtain ⟨t, u, a2, b2⟩ := sub_ok h2 h4
    obtain ⟨x2, a3, b3⟩ := sq_ok single s r b1
    obtain ⟨y2, a4, b4⟩ := sq_ok single t u b2
    obtain ⟨z, a5, b5⟩ := add_ok single x2 y2 b3 b4
    refine ⟨_, _, x2, y2, z, ?_, a3, a4, a5, b5, fun e1 e2 => absurd ⟨e1, e2⟩ hz⟩
    have a1' : floatBits .sub .f32 p q = some (single.word s r) := a1
    have a2' : floatBits .sub .f32 p' q' = some (single.word t u) := a2
    unfold cSumBits
    rw [a1', a2']
    rfl

/-- The single of a part over a bottom. -/
def wpart (n d : Int) : Nat := (floatBits .quo .f64 (floatOfInt .f64 n) (floatOfInt .f64 d)).getD 0
def spart (n d : Int) : Nat := (floatToFloatBits .f64 (wpart n d) .f32).getD 0
theorem part_at (n d : Int) (h1 : -2000000000 ≤ n) (h2 : n ≤ 2000000000) (h3 : 1 ≤ d) (h4 : d ≤ 2000000000) :
    floatBits .quo .f64 (floatOfInt .f64 n) (floatOfInt .f64 d) = some (wpart n d) ∧ floatToFloatBits .f64 (wpart n d) .f32 = some (spart n d) ∧ Sgl (spart n d) := by
  obtain ⟨r, r', e1, e2, e3⟩ := part_ok n d h1 h2 h3 h4
  have w1 : wpart n d = r := by unfold wpart; rw [e1]; rfl
  have w2 : spart n d = r' := by unfold spart; rw [w1, e2]; rfl
  rw [w1, w2]
  exact ⟨e1, e2, e3⟩
/-- The words of a difference, of two squares and of their sum. -/
def fsub (p q : Nat) : Nat := (floatBits .sub .f32 p q).getD 0
def fsq (x : Nat) : Nat := (floatBits .mul .f32 x x).getD 0
def fadd (x y : Nat) : Nat := (floatBits .add .f32 x y).getD 0
def sfar (p p' q q' : Nat) : Nat := fadd (fsq (fsub p q)) (fsq (fsub p' q'))
theorem sfar_at (p p' q q' : Nat) (h1 : Sgl p) (h2 : Sgl p') (h3 : Sgl q) (h4 : Sgl q') :
    cSumBits .sub .f32 p p' q q' = some (fsub p q, fsub p' q') ∧ floatBits .mul .f32 (fsub p q) (fsub p q) = some (fsq (fsub p q)) ∧ floatBits .mul .f32 (fsub p' q') (fsub p' q') = some (fsq (fsub p' q')) ∧
    floatBits .add .f32 (fsq (fsub p q)) (fsq (fsub p' q')) = some (sfar p p' q q') ∧ sfar p p' q q' ≤ single.infRung ∧ (p = q → p' = q' → sfar p p' q q' = 0) := by
  obtain ⟨x, y, x2, y2, z, e1, e2, e3, e4, e5, e6⟩ := far_ok p p' q q' h1 h2 h3 h4
  obtain ⟨a1, a2⟩ : floatBits .sub .f32 p q = some x ∧ floatBits .sub .f32 p' q' = some y := by
    unfold cSumBits at e1
    obtain ⟨u, b1, e1⟩ := Option.bind_eq_some_iff.1 e1
    obtain ⟨v, b2, e1⟩ := Option.bind_eq_some_iff.1 e1
    simp only [Option.some.injEq, Prod.mk.injEq] at e1
    obtain ⟨rfl, rfl⟩ := e1
    exact ⟨b1, b2⟩
  have w1 : fsub p q = x := by unfold fsub; rw [a1]; rfl
  have w2 : fsub p' q' = y := by unfold fsub; rw [a2]; rfl
  have w3 : fsq x = x2 := by unfold fsq; rw [e2]; rfl
  have w4 : fsq y = y2 := by unfold fsq; rw [e3]; rfl
  have w5 : sfar p p' q q' = z := by unfold sfar fadd; rw [w1, w2, w3, w4, e4]; rfl
  rw [w1, w2, w3, w4, w5]
  exact ⟨e1, e2, e3, e4, e5, e6⟩
/-- The tests of distances, by their keys. -/
def skey (r : Nat) : Nat := key single r
theorem flt_lt (y z : Nat) (hy : y ≤ single.infRung) (hz : z ≤ single.infRung) : (FloatKind.f32.format.order y z == some .lt) = decide (skey y < skey z) := by
  show (single.order y z == some .lt) = _
  rw [order_key single (by decide) y z hy hz]
  unfold skey
  rcases Nat.lt_trichotomy (key single y) (key single z) with h | h | h
  · rw [Nat.compare_eq_lt.2 h]; simp [h]
  · rw [Nat.compare_eq_eq.2 h]; simp [h]
  · rw [Nat.compare_eq_gt.2 h]; simp; omega
theorem flt_le (y z : Nat) (hy : y ≤ single.infRung) (hz : z ≤ single.infRung) : (FloatKind.f32.format.order y z == some .lt || FloatKind.f32.format.order y z == some .eq) = decide (skey y ≤ skey z) := by
  show (single.order y z == some .lt || single.order y z == some .eq) = _
  rw [order_key single (by decide) y z hy hz]
  unfold skey
  rcases Nat.lt_trichotomy (key single y) (key single z) with h | h | h
  · rw [Nat.compare_eq_lt.2 h]; simp; omega
  · rw [Nat.compare_eq_eq.2 h]; simp; omega
  · rw [Nat.compare_eq_gt.2 h]; simp; omega
theorem flt_eq (y z : Nat) (hy : y ≤ single.infRung) (hz : z ≤ single.infRung) : (FloatKind.f32.format.order y z == some .eq) = decide (skey y = skey z) := by
  show (single.order y z == some .eq) = _
  rw [order_key single (by decide) y z hy hz]
  unfold skey
  rcases Nat.lt_trichotomy (key single y) (key single z) with h | h | h
  · rw [Nat.compare_eq_lt.2 h]; simp; omega
  · rw [Nat.compare_eq_eq.2 h]; simp; omega
  · rw [Nat.compare_eq_gt.2 h]; simp; omega
theorem skey_zero : skey 0 = 0 := by decide +kernel
end Go.Proofs.Ytgkekdiffgmllaa
