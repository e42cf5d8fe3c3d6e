/-
  Plain mathematics of grids: the nearest element is nearest; it is what is sought if and only if its distance is zero. No program in sight.
-/
import Derived.Test.YtgkekdiffgmllaaGrdQ
namespace Go.Proofs.Ytgkekdiffgmllaa

theorem argr_succ (lt : Nat → Nat → Bool) (m : Nat) : argr lt (m + 1) = if lt (m + 1) (argr lt m) then m + 1 else argr lt m := rfl
theorem sq_nonneg' (a : Int) : 0 ≤ a * a := by
  by_cases h : 0 ≤ a
  · exact Int.mul_nonneg h h
  · exact Int.mul_nonneg_of_nonpos_of_nonpos (by omega) (by omega)
theorem argr_spec (lt : Nat → Nat → Bool) (M : Nat) (hasym : ∀ a b, a ≤ M → b ≤ M → lt a b = true → lt b a = false) (htr : ∀ a b c, a ≤ M → b ≤ M → c ≤ M → lt a b = true → lt c b = false → lt a c = true) :
    ∀ m, m ≤ M → (∀ i, i ≤ m → lt i (argr lt m) = false) ∧ (∀ i, i < argr lt m → lt (argr lt m) i = true) := by
  have hirr : ∀ a, a ≤ M → lt a a = false := fun a ha => by
    rcases h : lt a a with _ | _
    · rfl
    · rw [← h]; exact hasym a a ha ha h
  intro m
  induction m with
  | zero =>
    intro hm
    refine ⟨fun i hi => ?_, fun i hi => ?_⟩
    · have : i = 0 := by omega
      subst this
      exact hirr 0 hm
    · simp [argr] at hi
  | succ m ih =>
    intro hm
    obtain ⟨h1, h2⟩ := ih (by omega)
    have hle := argr_le lt m
    rcases h : lt (m + 1) (argr lt m) with _ | _
    · have e : argr lt (m + 1) = argr lt m := by rw [argr_succ, h]; rfl
      rw [e]
      refine ⟨fun i hi => ?_, h2⟩
      by_cases hi2 : i = m + 1
      · subst hi2; exact h
      · exact h1 i (by omega)
    · have e : argr lt (m + 1) = m + 1 := by rw [argr_succ, h]; rfl
      rw [e]
      have key : ∀ i, i ≤ m → lt (m + 1) i = true := fun i hi => htr (m + 1) (argr lt m) i hm (by omega) (by omega) h (h1 i hi)
      refine ⟨fun i hi => ?_, fun i hi => key i (by omega)⟩
      by_cases hi2 : i = m + 1
      · subst hi2; exact hirr _ hm
      · exact hasym _ _ hm (by omega) (key i (by omega))

/-- A real fraction that is valid. -/
def Rl (q : Fr) : Prop := q.valid = true ∧ q.im = 0
theorem fcmp_real {p q : Fr} (hp : Rl p) (hq : Rl q) : fcmp p q = (fsign (p.re * q.den - q.re * p.den), true) := by
  refine fcmp_ok ?_ ?_
  · simp [freal, hp.1, hp.2]
  · simp [freal, hq.1, hq.2]
theorem fcmp_lt {p q : Fr} (hp : Rl p) (hq : Rl q) : decide ((fcmp p q).1 < 0) = decide (p.re * q.den < q.re * p.den) := by
  rw [fcmp_real hp hq]
  rcases fsign_cases (p.re * q.den - q.re * p.den) with ⟨h1, h2⟩ | ⟨h1, h2⟩ | ⟨h1, h2⟩
  · have : p.re * q.den < q.re * p.den := by omega
    simp [h1, this]
  · have : ¬ p.re * q.den < q.re * p.den := by omega
    simp [h1, this]
  · have : ¬ p.re * q.den < q.re * p.den := by omega
    simp [h1, this]
theorem ord_tr {x1 d1 x2 d2 x3 d3 : Int} (h1 : 1 ≤ d1) (h2 : 1 ≤ d2) (h3 : 1 ≤ d3) (ha : x1 * d2 < x2 * d1) (hb : ¬ x3 * d2 < x2 * d3) : x1 * d3 < x3 * d1 := by
  have hb' : x2 * d3 ≤ x3 * d2 := by omega
  have e1 : x1 * d2 * d3 < x2 * d1 * d3 := Int.mul_lt_mul_of_pos_right ha (by omega)
  have e2 : x2 * d3 * d1 ≤ x3 * d2 * d1 := Int.mul_le_mul_of_nonneg_right hb' (by omega)
  have e3 : x2 * d1 * d3 = x2 * d3 * d1 := by rw [Int.mul_assoc, Int.mul_comm d1 d3, ← Int.mul_assoc]
  have e4 : x1 * d3 * d2 < x3 * d1 * d2 := by
    have a1 : x1 * d3 * d2 = x1 * d2 * d3 := by rw [Int.mul_assoc, Int.mul_comm d3 d2, ← Int.mul_assoc]
    have a2 : x3 * d1 * d2 = x3 * d2 * d1 := by rw [Int.mul_assoc, Int.mul_comm d1 d2, ← Int.mul_assoc]
    rw [a1, a2]
    rw [e3] at e1
    omega
  exact Int.lt_of_mul_lt_mul_right e4 (by omega)

/-- Lowest terms are one. -/
theorem lowest_one {x a : Fr} (hx : x.valid = true) (ha : a.valid = true) (h1 : x.re * a.den = a.re * x.den) (h2 : x.im * a.den = a.im * x.den) : x = a := by
  obtain ⟨-, -, hxd, hxg⟩ := Fr.valid_out hx
  obtain ⟨-, -, had, hag⟩ := Fr.valid_out ha
  have g1 : Nat.gcd (Nat.gcd (x.re * a.den).natAbs (x.im * a.den).natAbs) (x.den * a.den).natAbs = a.den.natAbs := by
    rw [Int.natAbs_mul, Int.natAbs_mul, Int.natAbs_mul, Nat.gcd_mul_right, Nat.gcd_mul_right]
    rw [gcd3_nat] at hxg
    have : Nat.gcd (Nat.gcd x.re.natAbs x.im.natAbs) x.den.natAbs = 1 := by omega
    rw [this, Nat.one_mul]
  have g2 : Nat.gcd (Nat.gcd (a.re * x.den).natAbs (a.im * x.den).natAbs) (a.den * x.den).natAbs = x.den.natAbs := by
    rw [Int.natAbs_mul, Int.natAbs_mul, Int.natAbs_mul, Nat.gcd_mul_right, Nat.gcd_mul_right]
    rw [gcd3_nat] at hag
    have : Nat.gcd (Nat.gcd a.re.natAbs a.im.natAbs) a.den.natAbs = 1 := by omega
    rw [this, Nat.one_mul]
  rw [h1, h2, Int.mul_comm x.den a.den, g2] at g1
  have hd : x.den = a.den := by omega
  rw [hd] at h1 h2
  have e1 : x.re = a.re := Int.eq_of_mul_eq_mul_right (by omega) h1
  have e2 : x.im = a.im := Int.eq_of_mul_eq_mul_right (by omega) h2
  cases x; cases a
  simp only at hd e1 e2
  subst hd; subst e1; subst e2
  rfl
theorem flow_re {re im den : Int} (h : 1 ≤ den) (hk : (flow re im den).2 = true) : (flow re im den).1.re * gcd3 re im den = re ∧ (flow re im den).1.im * gcd3 re im den = im := by
  unfold flow at hk ⊢
  split
  · have hd1 : gcd3 re im den ∣ re := by
      rw [gcd3_nat, Int.ofNat_dvd_left]
      exact Nat.dvd_trans (Nat.gcd_dvd_left _ _) (Nat.gcd_dvd_left _ _)
    have hd2 : gcd3 re im den ∣ im := by
      rw [gcd3_nat, Int.ofNat_dvd_left]
      exact Nat.dvd_trans (Nat.gcd_dvd_left _ _) (Nat.gcd_dvd_right _ _)
    exact ⟨Int.tdiv_mul_cancel hd1, Int.tdiv_mul_cancel hd2⟩
  · rename_i hv
    rw [if_neg hv] at hk
    cases hk
theorem fless_re {x a : Fr} (hx : x.valid = true) (ha : a.valid = true) (hk : (fless x a).2 = true) :
    ((fless x a).1.re = 0 ∧ (fless x a).1.im = 0) ↔ x = a := by
  obtain ⟨-, -, hxd, -⟩ := Fr.valid_out hx
  obtain ⟨-, -, had, -⟩ := Fr.valid_out ha
  have hf : fless x a = flow (x.re * a.den - a.re * x.den) (x.im * a.den - a.im * x.den) (x.den * a.den) := by simp [fless, hx, ha]
  rw [hf] at hk ⊢
  have hd := (mul_bd1 hxd had).1
  obtain ⟨e1, e2⟩ := flow_re hd hk
  have hg := gcd3_pos (x.re * a.den - a.re * x.den) (x.im * a.den - a.im * x.den) _ hd
  constructor
  · rintro ⟨h1, h2⟩
    rw [h1, Int.zero_mul] at e1
    rw [h2, Int.zero_mul] at e2
    exact lowest_one hx ha (by omega) (by omega)
  · rintro rfl
    rw [Int.sub_self] at e1 e2
    rw [Int.sub_self] at e1 e2
    have f1 := Int.mul_eq_zero.1 e1
    have f2 := Int.mul_eq_zero.1 e2
    rw [Int.sub_self] at hg
    simp only [Int.sub_self] at f1 f2 hg ⊢
    omega
theorem fpower_re {d : Fr} (hk : (fpower d).2 = true) : 0 ≤ (fpower d).1.re ∧ ((fpower d).1.re = 0 ↔ d.re = 0 ∧ d.im = 0) := by
  unfold fpower at hk ⊢
  split
  · rename_i hv
    rw [if_pos hv] at hk
    obtain ⟨-, -, hd, -⟩ := Fr.valid_out hv
    have hdd := (mul_bd1 hd hd).1
    obtain ⟨e1, -⟩ := flow_re hdd hk
    have hg := gcd3_pos (d.re * d.re + d.im * d.im) 0 _ hdd
    have s1 : 0 ≤ d.re * d.re := sq_nonneg' _
    have s2 : 0 ≤ d.im * d.im := sq_nonneg' _
    generalize (flow (d.re * d.re + d.im * d.im) 0 (d.den * d.den)).1.re = q at e1 ⊢
    generalize gcd3 (d.re * d.re + d.im * d.im) 0 (d.den * d.den) = g at e1 hg
    constructor
    · by_cases h : q < 0
      · have := Int.mul_neg_of_neg_of_pos h (show 0 < g by omega)
        omega
      · omega
    · constructor
      · intro h
        rw [h, Int.zero_mul] at e1
        have f1 : d.re * d.re = 0 := by omega
        have f2 : d.im * d.im = 0 := by omega
        exact ⟨(Int.mul_eq_zero.1 f1).elim id id, (Int.mul_eq_zero.1 f2).elim id id⟩
      · rintro ⟨h1, h2⟩
        rw [h1, h2] at e1
        have f1 := Int.mul_eq_zero.1 (show q * g = 0 by omega)
        omega
  · rename_i hv
    rw [if_neg hv] at hk
    cases hk

theorem npow_good {x a : Fr} (h : (npow x a).2 = true) : (fless x a).2 = true ∧ Rl (npow x a).1 := by
  constructor
  · rcases h2 : (fless x a).2 with _ | _
    · rw [npow_bad h2] at h; cases h
    · rfl
  · exact fpower_valid h
/-- What is known of an element that is nearest. -/
theorem gbest_out {xs : List Fr} {a : Fr} {n : Nat} (h : gbest xs a = (n, true)) : n < xs.length ∧
    (∀ k, k < xs.length → (fless (xs.getD k .zero) a).2 = true ∧ (npow (xs.getD k .zero) a).2 = true) ∧
    (∀ k, k < xs.length → (fcmp (npow (xs.getD k .zero) a).1 (npow (xs.getD n .zero) a).1).2 = true ∧ 0 ≤ (fcmp (npow (xs.getD k .zero) a).1 (npow (xs.getD n .zero) a).1).1 ∧ (k < n → (fcmp (npow (xs.getD k .zero) a).1 (npow (xs.getD n .zero) a).1).1 ≠ 0)) ∧
    ((npow (xs.getD n .zero) a).1.re = 0 ↔ ∃ k, k < xs.length ∧ xs.getD k .zero = a) := by
  unfold gbest at h
  rcases hg : gok xs with _ | _
  · rw [hg] at h; simp at h
  rcases hv : a.valid with _ | _
  · rw [hv] at h; simp at h
  rcases hall : xs.all (fun x => (npow x a).2) with _ | _
  · rw [hall] at h; simp at h
  rw [hg, hv, hall] at h
  simp at h
  obtain ⟨hvx, hn1, -⟩ := gok_out hg
  have hok : ∀ k, k < xs.length → (npow (xs.getD k .zero) a).2 = true := fun k hk => by
    have := List.all_eq_true.1 hall xs[k] (List.getElem_mem hk)
    simpa [hk] using this
  have hr : ∀ k, k < xs.length → Rl (npow (xs.getD k .zero) a).1 := fun k hk => (npow_good (hok k hk)).2
  have hlt : ∀ i j, i < xs.length → j < xs.length → nlt xs a i j = decide ((npow (xs.getD i .zero) a).1.re * (npow (xs.getD j .zero) a).1.den < (npow (xs.getD j .zero) a).1.re * (npow (xs.getD i .zero) a).1.den) := fun i j hi hj => fcmp_lt (hr i hi) (hr j hj)
  have hden : ∀ k, k < xs.length → 1 ≤ (npow (xs.getD k .zero) a).1.den := fun k hk => (Fr.valid_out (hr k hk).1).2.2.1.1
  have hle := argr_le (nlt xs a) (xs.length - 1)
  obtain ⟨s1, s2⟩ := argr_spec (nlt xs a) (xs.length - 1)
    (fun i j hi hj hij => by
      rw [hlt i j (by omega) (by omega)] at hij
      rw [hlt j i (by omega) (by omega)]
      simp only [decide_eq_true_eq, decide_eq_false_iff_not] at hij ⊢
      omega)
    (fun i j k hi hj hk hij hkj => by
      rw [hlt i j (by omega) (by omega)] at hij
      rw [hlt k j (by omega) (by omega)] at hkj
      rw [hlt i k (by omega) (by omega)]
      simp only [decide_eq_true_eq, decide_eq_false_iff_not] at hij hkj ⊢
      exact ord_tr (hden i (by omega)) (hden j (by omega)) (hden k (by omega)) hij hkj)
    (xs.length - 1) (Nat.le_refl _)
  rw [h] at s1 s2 hle
  have hnl : n < xs.length := by omega
  refine ⟨hnl, fun k hk => ⟨(npow_good (hok k hk)).1, hok k hk⟩, fun k hk => ?_, ?_⟩
  · have hc := fcmp_real (hr k hk) (hr n hnl)
    rw [hc]
    have h1 := s1 k (by omega)
    rw [hlt k n hk hnl] at h1
    simp only [decide_eq_false_iff_not] at h1
    refine ⟨rfl, ?_, fun hkn => ?_⟩
    · rcases fsign_cases ((npow (xs.getD k .zero) a).1.re * (npow (xs.getD n .zero) a).1.den - (npow (xs.getD n .zero) a).1.re * (npow (xs.getD k .zero) a).1.den) with ⟨e1, e2⟩ | ⟨e1, e2⟩ | ⟨e1, e2⟩ <;> rw [e1] <;> omega
    · have h2 := s2 k hkn
      rw [hlt n k hnl hk] at h2
      simp only [decide_eq_true_eq] at h2
      rcases fsign_cases ((npow (xs.getD k .zero) a).1.re * (npow (xs.getD n .zero) a).1.den - (npow (xs.getD n .zero) a).1.re * (npow (xs.getD k .zero) a).1.den) with ⟨e1, e2⟩ | ⟨e1, e2⟩ | ⟨e1, e2⟩ <;> rw [e1] <;> omega
  · have hz : ∀ k, k < xs.length → ((npow (xs.getD k .zero) a).1.re = 0 ↔ xs.getD k .zero = a) := fun k hk =>
      (fpower_re (hok k hk)).2.trans (fless_re (hvx k hk) hv (npow_good (hok k hk)).1)
    constructor
    · intro h0
      exact ⟨n, hnl, (hz n hnl).1 h0⟩
    · rintro ⟨k, hk, hxa⟩
      have hk0 := (hz k hk).2 hxa
      have h1 := s1 k (by omega)
      rw [hlt k n hk hnl] at h1
      simp only [decide_eq_false_iff_not] at h1
      rw [hk0, Int.zero_mul] at h1
      have hq0 := (fpower_re (hok n hnl)).1
      have hdk := hden k hk
      by_cases hp : 0 < (npow (xs.getD n .zero) a).1.re
      · have := Int.mul_pos hp (show 0 < (npow (xs.getD k .zero) a).1.den by omega)
        omega
      · have hq0' : 0 ≤ (npow (xs.getD n .zero) a).1.re := hq0
        omega
end Go.Proofs.Ytgkekdiffgmllaa
