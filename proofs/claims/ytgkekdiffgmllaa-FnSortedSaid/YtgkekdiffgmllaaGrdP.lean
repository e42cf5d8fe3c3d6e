/-
  Plain mathematics of grids: the first least. No program in sight.
-/
import Derived.Test.YtgkekdiffgmllaaFltG
import Derived.Test.YtgkekdiffgmllaaFrcQ
namespace Go.Proofs.Ytgkekdiffgmllaa

/-- The index of the first least of f 0 .. f n. -/
def argm (f : Nat → Nat) : Nat → Nat
  | 0 => 0
  | n + 1 => if f (n + 1) < f (argm f n) then n + 1 else argm f n
theorem argm_le (f : Nat → Nat) (n : Nat) : argm f n ≤ n := by
  induction n with
  | zero => exact Nat.le_refl _
  | succ n ih => unfold argm; split <;> omega
theorem argm_least (f : Nat → Nat) (n : Nat) : ∀ i, i ≤ n → f (argm f n) ≤ f i := by
  induction n with
  | zero => intro i hi; have : i = 0 := by omega
            subst this; exact Nat.le_refl _
  | succ n ih =>
    intro i hi
    unfold argm
    split
    · rename_i h
      by_cases h2 : i = n + 1
      · subst h2; exact Nat.le_refl _
      · have := ih i (by omega); omega
    · rename_i h
      by_cases h2 : i = n + 1
      · subst h2; omega
      · exact ih i (by omega)
theorem argm_first (f : Nat → Nat) (n : Nat) : ∀ i, i < argm f n → f (argm f n) < f i := by
  induction n with
  | zero => intro i hi; simp [argm] at hi
  | succ n ih =>
    intro i
    unfold argm
    split
    · rename_i h
      intro hi
      have := argm_least f n i (by omega)
      omega
    · exact ih i
/-- One round: the least so far at index k - 1, then k. -/
theorem argm_round (f : Nat → Nat) (k : Nat) : argm f k = if f k < f (argm f (k - 1)) then k else argm f (k - 1) := by
  match k with
  | 0 => simp [argm]
  | k + 1 => rfl

/-- The key of the distance of an element. -/
def fkey (xs : List Fr) (a : Fr) (k : Nat) : Nat := skey (gfarN (xs.getD k .zero) a)
def gfit (xs : List Fr) (a : Fr) : Nat × Bool := if gok xs && a.valid then (argm (fkey xs a) (xs.length - 1), true) else (0, false)
theorem gok_out {xs : List Fr} (h : gok xs = true) : (∀ k, k < xs.length → (xs.getD k .zero).valid = true) ∧ 1 ≤ xs.length ∧ xs.length ≤ 40 := by
  unfold gok at h
  simp only [Bool.and_eq_true, List.all_eq_true] at h
  have h2 := inB2_out h.2
  refine ⟨fun k hk => ?_, by omega, by omega⟩
  have := h.1 xs[k] (List.getElem_mem hk)
  simpa [hk] using this
theorem gfarN_le {a b : Fr} (h1 : a.valid = true) (h2 : b.valid = true) : gfarN a b ≤ Ieee.single.infRung := by
  obtain ⟨s1, s2⟩ := spart_sgl h1
  obtain ⟨s3, s4⟩ := spart_sgl h2
  exact (sfar_at _ _ _ _ s1 s2 s3 s4).2.2.2.2.1
theorem gfarN_self {a : Fr} (h1 : a.valid = true) : gfarN a a = 0 := by
  obtain ⟨s1, s2⟩ := spart_sgl h1
  exact (sfar_at _ _ _ _ s1 s2 s1 s2).2.2.2.2.2 rfl rfl
end Go.Proofs.Ytgkekdiffgmllaa
