/-
  Plain mathematics of floats: a finite float is not changed by adding a zero (but for the sign of a zero), nor by division by one. No program in sight.
-/
import Derived.Test.YtgkekdiffgmllaaFltP
namespace Go.Proofs.Ytgkekdiffgmllaa
open Ieee

section
variable {f : Format}
theorem log2_shift {m : Nat} (h : m ≠ 0) (d : Nat) : (m <<< d).log2 = m.log2 + d := by
  have b := log2_bd h
  have h2 : m <<< d ≠ 0 := by
    rw [Nat.shiftLeft_eq]
    exact Nat.mul_ne_zero h (Nat.ne_of_gt (Nat.two_pow_pos _))
  have lo : 2 ^ (m.log2 + d) ≤ m <<< d := by
    rw [Nat.shiftLeft_eq, Nat.pow_add]
    exact Nat.mul_le_mul_right _ b.1
  have hi : m <<< d < 2 ^ (m.log2 + d + 1) := by
    rw [Nat.shiftLeft_eq, show m.log2 + d + 1 = (m.log2 + 1) + d by omega, Nat.pow_add]
    exact Nat.mul_lt_mul_of_pos_right b.2 (Nat.two_pow_pos _)
  have h3 : (m <<< d).log2 < m.log2 + d + 1 := (Nat.log2_lt h2).2 hi
  have h4 : m.log2 + d ≤ (m <<< d).log2 := (Nat.le_log2 h2).2 lo
  omega
theorem cut_exact (s : Bool) {m : Nat} (h : m ≠ 0) (d : Nat) : Toward.even.cut s (m <<< d) d = m := by
  unfold Toward.cut
  have e : min d ((m <<< d).log2 + 2) = d := by rw [log2_shift h]; omega
  have p := Nat.two_pow_pos d
  simp only [e]
  rw [Nat.shiftLeft_eq, Nat.shiftLeft_eq, Nat.one_mul, Nat.mul_mod_left, Nat.mul_div_cancel _ p]
  have h2 : ((2 ^ d == 2 * 0) : Bool) = false := by
    rw [beq_eq_false_iff_ne]
    omega
  rw [h2]
  simp
/-- A word's sign and rung. -/
theorem word_of (x : Nat) (h : x < 2 * f.signWeight) : x = f.word (x / f.signWeight % 2 == 1) (x % f.signWeight) ∧ x % f.signWeight < f.signWeight := by
  have p : 0 < f.signWeight := Nat.two_pow_pos _
  refine ⟨?_, Nat.mod_lt _ p⟩
  have hq : x / f.signWeight < 2 := by
    rw [Nat.div_lt_iff_lt_mul p]
    exact h
  have hd := Nat.div_add_mod x f.signWeight
  generalize x / f.signWeight = q at hq hd ⊢
  generalize x % f.signWeight = r at hd ⊢
  unfold Format.word
  rcases (by omega : q = 0 ∨ q = 1) with rfl | rfl
  · simp at hd ⊢
    omega
  · simp at hd ⊢
    omega
theorem nearest_finite (x : Nat) (hx : x < 2 * f.signWeight) (s : Bool) (m : Nat) (i : Int) (hr : f.read x = .number s m i) (hf : f.binade ≤ f.infRung) (d : Nat) : f.nearest s (m <<< d) (i - d) = x := by
  obtain ⟨hw, hlt⟩ := word_of (f := f) x hx
  have hB := binade_pos f
  have hs : s = (x / f.signWeight % 2 == 1) ∧ ((x % f.signWeight < f.binade ∧ m = x % f.signWeight ∧ i = f.leastPlace) ∨ (f.binade ≤ x % f.signWeight ∧ x % f.signWeight < f.infRung ∧ m = f.binade + x % f.signWeight % f.binade ∧ i = f.leastPlace + (x % f.signWeight / f.binade - 1 : Nat))) := by
    unfold Format.read at hr
    simp only at hr
    split at hr
    · rename_i h1
      injection hr with h2 h3 h4
      exact ⟨h2.symm, .inl ⟨h1, h3.symm, h4.symm⟩⟩
    · rename_i h1
      split at hr
      · rename_i h5
        injection hr with h2 h3 h4
        exact ⟨h2.symm, .inr ⟨by omega, h5, h3.symm, h4.symm⟩⟩
      · split at hr
        · cases hr
        · cases hr
  obtain ⟨hsgn, hcase⟩ := hs
  rw [← hsgn] at hw
  generalize x % f.signWeight = r at hw hcase hlt
  by_cases h0 : m = 0
  · have hr0 : r = 0 := by
      rcases hcase with ⟨-, h, -⟩ | ⟨-, -, h, -⟩
      · omega
      · omega
    rw [hw, hr0, h0]
    unfold Format.nearest
    simp
  · have hne : m <<< d ≠ 0 := by
      rw [Nat.shiftLeft_eq]
      exact Nat.mul_ne_zero h0 (Nat.ne_of_gt (Nat.two_pow_pos _))
    have hinf : r ≤ f.infRung := by
      rcases hcase with ⟨h, -, -⟩ | ⟨-, h, -, -⟩
      · omega
      · omega
    have hl : max (i - d + ((m <<< d).log2 : Nat) - (f.fractionBits : Nat)) f.leastPlace = i := by
      rw [log2_shift h0]
      rcases hcase with ⟨h1, h2, h3⟩ | ⟨h1, h2, h3, h4⟩
      · have : m.log2 < f.fractionBits := (Nat.log2_lt h0).2 (by unfold Format.binade at h1; omega)
        omega
      · have hm1 : f.binade ≤ m := by omega
        have hm2 : m < 2 * f.binade := by have := Nat.mod_lt r hB; omega
        have e1 : f.fractionBits ≤ m.log2 := (Nat.le_log2 h0).2 hm1
        have e2 : m.log2 < f.fractionBits + 1 := (Nat.log2_lt h0).2 (by rw [Nat.pow_succ]; unfold Format.binade at hm2; omega)
        omega
    unfold Format.nearest
    rw [if_neg hne]
    simp only [hl]
    have e1 : (i - d - i).toNat = 0 := by omega
    have e2 : (i - (i - d)).toNat = d := by omega
    rw [e1, e2, Nat.shiftLeft_zero, cut_exact s h0 d, hw]
    congr 1
    have hrung : (i - f.leastPlace).toNat * f.binade + m = r := by
      rcases hcase with ⟨h1, h2, h3⟩ | ⟨h1, h2, h3, h4⟩
      · rw [h3]
        simp
        omega
      · have hq : 1 ≤ r / f.binade := (Nat.le_div_iff_mul_le hB).2 (by omega)
        have hd := Nat.div_add_mod r f.binade
        have e3 : (i - f.leastPlace).toNat = r / f.binade - 1 := by omega
        rw [e3, h3, Nat.sub_mul, Nat.one_mul]
        have h5 : f.binade ≤ r / f.binade * f.binade := Nat.le_mul_of_pos_left _ hq
        have h6 : r / f.binade * f.binade = f.binade * (r / f.binade) := Nat.mul_comm _ _
        omega
    rw [hrung]
    exact Nat.min_eq_left hinf
end

/-- A zero, of either sign. -/
def Zer (x : Nat) : Prop := x = 0 ∨ x = 9223372036854775808
/-- A finite float. -/
def Fin64 (x : Nat) : Prop := x < 18446744073709551616 ∧ ∃ s m i, double.read x = .number s m i
theorem zer_read {x : Nat} (h : Zer x) : ∃ t, double.read x = .number t 0 (-1074) := by
  rcases h with rfl | rfl
  · exact ⟨false, by decide⟩
  · exact ⟨true, by decide⟩
theorem Zer.fin {x : Nat} (h : Zer x) : Fin64 x := by
  obtain ⟨t, ht⟩ := zer_read h
  refine ⟨?_, t, 0, _, ht⟩
  rcases h with rfl | rfl <;> decide
theorem word_zero (s : Bool) : Zer (double.word s 0) := by
  cases s
  · exact .inl rfl
  · exact .inr (by decide)
theorem nearest_zero (s : Bool) (e : Int) : Zer (double.nearest s 0 e) := by
  unfold Format.nearest
  rw [if_pos rfl]
  exact word_zero s
theorem dbl_inf : double.binade ≤ double.infRung := by decide
theorem dbl_weight : double.signWeight = 9223372036854775808 := by decide
theorem fin_word {x : Nat} {s : Bool} {m : Nat} {i : Int} (h : x < 18446744073709551616) (hr : double.read x = .number s m i) (d : Nat) : double.nearest s (m <<< d) (i - d) = x :=
  nearest_finite x (by rw [dbl_weight]; omega) s m i hr dbl_inf d
theorem read_place {x : Nat} {s : Bool} {m : Nat} {i : Int} (hr : double.read x = .number s m i) : -1074 ≤ i := by
  have hl : double.leastPlace = -1074 := by decide
  unfold Format.read at hr
  simp only at hr
  rw [hl] at hr
  split at hr
  · injection hr with h2 h3 h4
    omega
  · split at hr
    · injection hr with h2 h3 h4
      omega
    · split at hr
      · cases hr
      · cases hr
theorem fin_zero {x : Nat} {s : Bool} {i : Int} (h : x < 18446744073709551616) (hr : double.read x = .number s 0 i) : Zer x := by
  have := fin_word h hr 0
  rw [← this, Nat.zero_shiftLeft]
  exact nearest_zero _ _
theorem mul_zero {b z : Nat} (hb : Fin64 b) (hz : Zer z) : ∃ z', double.mul b z = some z' ∧ Zer z' := by
  obtain ⟨-, s, m, i, hr⟩ := hb
  obtain ⟨t, ht⟩ := zer_read hz
  refine ⟨_, by unfold Format.mul; rw [hr, ht]; rfl, ?_⟩
  show Zer (double.nearest _ (m * 0) _)
  rw [Nat.mul_zero]
  exact nearest_zero _ _
theorem sum_zero {a : Nat} (ha : Fin64 a) (t : Bool) : ∃ a', ((double.read a).sum (.number t 0 (-1074))).map double.write = some a' ∧ (a' = a ∨ (Zer a ∧ Zer a')) := by
  obtain ⟨h1, s, m, i, hr⟩ := ha
  have hi := read_place hr
  refine ⟨_, by rw [hr]; rfl, ?_⟩
  show double.nearest (if signed s m (i - min i (-1074)).toNat + signed t 0 (-1074 - min i (-1074)).toNat = 0 then s && t else decide (signed s m (i - min i (-1074)).toNat + signed t 0 (-1074 - min i (-1074)).toNat < 0)) (signed s m (i - min i (-1074)).toNat + signed t 0 (-1074 - min i (-1074)).toNat).natAbs (min i (-1074)) = a ∨ _
  have e1 : min i (-1074) = -1074 := by omega
  have e0 : ∀ k, signed t 0 k = 0 := fun k => by cases t <;> simp [signed]
  rw [e1, e0, Int.add_zero]
  by_cases h0 : m = 0
  · subst h0
    refine .inr ⟨fin_zero h1 hr, ?_⟩
    have e2 : ∀ k, signed s 0 k = 0 := fun k => by cases s <;> simp [signed]
    simp only [e2, Int.natAbs_zero]
    exact nearest_zero _ _
  · refine .inl ?_
    obtain ⟨k, hk⟩ : ∃ k, k = (i - -1074).toNat := ⟨_, rfl⟩
    rw [← hk]
    have hpos : 0 < m <<< k := by
      rw [Nat.shiftLeft_eq]
      exact Nat.mul_pos (by omega) (Nat.two_pow_pos _)
    have hs : (if signed s m k = 0 then s && t else decide (signed s m k < 0)) = s ∧ (signed s m k).natAbs = m <<< k := by
      unfold signed
      generalize m <<< k = M at hpos ⊢
      cases s
      · have h2 : ¬ ((M : Nat) : Int) = 0 := by omega
        have h3 : ¬ ((M : Nat) : Int) < 0 := by omega
        exact ⟨by simp only [Bool.false_eq_true, if_false, if_neg h2, decide_eq_false h3], by simp⟩
      · have h2 : ¬ (-((M : Nat) : Int)) = 0 := by omega
        have h3 : (-((M : Nat) : Int)) < 0 := by omega
        exact ⟨by simp only [if_true, if_neg h2, decide_eq_true h3], by simp⟩
    rw [hs.1, hs.2]
    have := fin_word h1 hr k
    have e3 : i - (k : Int) = -1074 := by omega
    rw [e3] at this
    exact this
theorem add_zero {a z : Nat} (ha : Fin64 a) (hz : Zer z) : ∃ a', double.add a z = some a' ∧ (a' = a ∨ (Zer a ∧ Zer a')) := by
  obtain ⟨t, ht⟩ := zer_read hz
  unfold Format.add
  rw [ht]
  exact sum_zero ha t
theorem sub_zero {a z : Nat} (ha : Fin64 a) (hz : Zer z) : ∃ a', double.sub a z = some a' ∧ (a' = a ∨ (Zer a ∧ Zer a')) := by
  obtain ⟨t, ht⟩ := zer_read hz
  unfold Format.sub
  rw [ht]
  exact sum_zero ha (!t)
theorem div_one {a : Nat} (ha : Fin64 a) : double.div a 4607182418800017408 = some a := by
  obtain ⟨h1, s, m, i, hr⟩ := ha
  have hc : double.read 4607182418800017408 = .number false 4503599627370496 (-52) := by decide
  unfold Format.div
  rw [hr, hc]
  have hn : ¬ (4503599627370496 : Nat) = 0 := by decide
  simp only [Datum.quotient, if_neg hn, Option.map_some]
  have hl : (4503599627370496 : Nat).log2 = 52 := by decide
  have hf : double.fractionBits + 2 = 54 := by decide
  rw [hl, hf]
  by_cases h0 : m = 0
  · subst h0
    simp only [Nat.zero_shiftLeft, Nat.zero_div, Nat.zero_mod]
    have h2 := fin_word h1 hr 0
    rw [Nat.zero_shiftLeft] at h2
    rw [← h2]
    simp [Format.write, Format.nearest]
  · have hm : m.log2 < 53 := by
      have hrd := hr
      unfold Format.read at hrd
      simp only at hrd
      have hb : double.binade = 4503599627370496 := by decide
      rw [hb] at hrd
      have hlt : m < 2 ^ 53 := by
        split at hrd
        · rename_i h3
          injection hrd with h4 h5 h6
          rw [← h5]
          omega
        · split at hrd
          · injection hrd with h4 h5 h6
            rw [← h5]
            have := Nat.mod_lt (a % double.signWeight) (show 0 < 4503599627370496 by decide)
            omega
          · split at hrd
            · cases hrd
            · cases hrd
      exact (Nat.log2_lt h0).2 hlt
    obtain ⟨k, hk⟩ : ∃ k, 54 + 52 - m.log2 = k + 52 := ⟨54 - m.log2, by omega⟩
    rw [hk]
    have e1 : m <<< (k + 52) = (m <<< k) * 4503599627370496 := by
      rw [Nat.shiftLeft_eq, Nat.shiftLeft_eq, Nat.pow_add, ← Nat.mul_assoc]
    rw [e1, Nat.mul_div_cancel _ (by decide), Nat.mul_mod_left]
    have e2 : 2 * (m <<< k) + ((0 : Nat) != 0).toNat = m <<< (k + 1) := by
      rw [Nat.shiftLeft_eq, Nat.shiftLeft_eq, Nat.pow_succ]
      simp [Nat.mul_comm, Nat.mul_left_comm]
    rw [e2]
    have e3 : i - -52 - ((k + 52 : Nat) : Int) - 1 = i - ((k + 1 : Nat) : Int) := by omega
    rw [e3]
    show some (double.nearest (s ^^ false) (m <<< (k + 1)) _) = _
    rw [Bool.xor_false, fin_word h1 hr (k + 1)]
end Go.Proofs.Ytgkekdiffgmllaa
