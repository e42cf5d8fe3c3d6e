/-
  Plain mathematics of sorting by insertion. No program in sight.
-/
import Derived.Test.YtgkekdiffgmllaaGrdTs
namespace Go.Proofs.Ytgkekdiffgmllaa

theorem ipos_out (g : Fr → Nat) (out : List Fr) (x : Nat) (n : Nat) : (ipos g out x n = 0 ∨ g (out.getD (ipos g out x n - 1) .zero) ≤ x) ∧ ∀ j, ipos g out x n ≤ j → j < n → x < g (out.getD j .zero) := by
  induction n with
  | zero => exact ⟨.inl rfl, fun j _ h => absurd h (by omega)⟩
  | succ n ih =>
    by_cases h : x < g (out.getD n .zero)
    · rw [ipos_go h]
      refine ⟨ih.1, fun j h1 h2 => ?_⟩
      by_cases hj : j = n
      · subst hj; exact h
      · exact ih.2 j h1 (by omega)
    · rw [ipos_stop h]
      refine ⟨.inr (by rw [Nat.add_sub_cancel]; omega), fun j h1 h2 => absurd h2 (by omega)⟩
theorem insAt_getD (out : List Fr) (p : Nat) (f : Fr) (hp : p ≤ out.length) (i : Nat) : (insAt out p f).getD i .zero = if i < p then out.getD i .zero else if i = p then f else out.getD (i - 1) .zero := by
  unfold insAt
  rw [List.getD_eq_getElem?_getD, List.getD_eq_getElem?_getD, List.getD_eq_getElem?_getD]
  have hl : (out.take p).length = p := by rw [List.length_take]; omega
  by_cases h1 : i < p
  · rw [if_pos h1, List.getElem?_append_left (by omega), List.getElem?_take, if_pos h1]
  · rw [if_neg h1, List.getElem?_append_right (by omega), hl]
    by_cases h2 : i = p
    · subst h2
      simp
    · rw [if_neg h2]
      obtain ⟨k, hk⟩ : ∃ k, i - p = k + 1 := ⟨i - p - 1, by omega⟩
      rw [hk, List.getElem?_cons_succ, List.getElem?_drop]
      rw [show p + k = i - 1 by omega]
theorem getD_at {xs : List Fr} {i : Nat} (h : i < xs.length) : xs.getD i .zero = xs[i] := by simp [h]
/-- In order of g. -/
def Ord (g : Fr → Nat) (out : List Fr) : Prop := ∀ i j, i ≤ j → j < out.length → g (out.getD i .zero) ≤ g (out.getD j .zero)
theorem ord_nil (g : Fr → Nat) : Ord g [] := fun i j _ h => absurd h (by simp)
theorem ord_ins {g : Fr → Nat} {out : List Fr} (h : Ord g out) (f : Fr) : Ord g (ins g out f) := by
  intro i j hij hj
  rw [ins_len] at hj
  unfold ins
  have hp := ipos_le g out (g f) out.length
  obtain ⟨h1, h2⟩ := ipos_out g out (g f) out.length
  generalize ipos g out (g f) out.length = p at hp h1 h2
  rw [insAt_getD _ _ _ hp, insAt_getD _ _ _ hp]
  by_cases a1 : j < p
  · rw [if_pos (by omega), if_pos a1]
    exact h i j hij (by omega)
  · rw [if_neg a1]
    by_cases a2 : j = p
    · rw [if_pos a2]
      by_cases b1 : i < p
      · rw [if_pos b1]
        have := h i (p - 1) (by omega) (by omega)
        rcases h1 with h1 | h1
        · omega
        · omega
      · rw [if_neg b1, if_pos (by omega)]
        exact Nat.le_refl _
    · rw [if_neg a2]
      have hf := h2 (j - 1) (by omega) (by omega)
      by_cases b1 : i < p
      · rw [if_pos b1]
        exact h i (j - 1) (by omega) (by omega)
      · rw [if_neg b1]
        by_cases b2 : i = p
        · rw [if_pos b2]
          omega
        · rw [if_neg b2]
          exact h (i - 1) (j - 1) (by omega) (by omega)
theorem ord_isort (g : Fr → Nat) (xs : List Fr) : Ord g (isort g xs) := by
  have : ∀ (xs ys : List Fr), Ord g ys → Ord g (xs.foldl (ins g) ys) := by
    intro xs
    induction xs with
    | nil => intro ys h; exact h
    | cons x xs ih => intro ys h; exact ih _ (ord_ins h x)
  exact this xs [] (ord_nil g)
theorem mem_isort {g : Fr → Nat} {xs : List Fr} {y : Fr} (h : y ∈ isort g xs) : y ∈ xs := by
  have : ∀ (xs ys : List Fr), y ∈ xs.foldl (ins g) ys → y ∈ ys ∨ y ∈ xs := by
    intro xs
    induction xs with
    | nil => intro ys h; exact .inl h
    | cons x xs ih =>
      intro ys h
      rcases ih _ h with h | h
      · unfold ins insAt at h
        rw [List.mem_append, List.mem_cons] at h
        rcases h with h | h | h
        · exact .inl (List.mem_of_mem_take h)
        · exact .inr (by rw [h]; exact List.mem_cons_self)
        · exact .inl (List.mem_of_mem_drop h)
      · exact .inr (List.mem_cons_of_mem _ h)
  rcases this xs [] h with h | h
  · simp at h
  · exact h
theorem isort_ord {g : Fr → Nat} {out : List Fr} (h : Ord g out) : isort g out = out := by
  have : ∀ k, k ≤ out.length → isort g (out.take k) = out.take k := by
    intro k
    induction k with
    | zero => intro _; rfl
    | succ k ih =>
      intro hk
      rw [isort_snoc g (by omega), ih (by omega)]
      have hl : (out.take k).length = k := by rw [List.length_take]; omega
      have hp : ipos g (out.take k) (g (out.getD k .zero)) (out.take k).length = k := by
        rw [hl]
        match k, hk, hl with
        | 0, _, _ => rfl
        | k + 1, hk, hl =>
          refine ipos_stop ?_
          have := h k (k + 1) (by omega) (by omega)
          have e : (out.take (k + 1)).getD k .zero = out.getD k .zero := by simp
          rw [e]
          omega
      unfold ins
      rw [hp]
      unfold insAt
      rw [List.take_take, Nat.min_self, List.drop_of_length_le (by omega), List.take_succ_eq_append_getElem (show k < out.length by omega)]
      simp [show k < out.length by omega]
  have h2 := this out.length (Nat.le_refl _)
  rw [List.take_length] at h2
  exact h2
theorem isort_head (g : Fr → Nat) (xs : List Fr) : ∀ k, k < xs.length → (isort g (xs.take (k + 1))).getD 0 .zero = xs.getD (argm (fun i => g (xs.getD i .zero)) k) .zero := by
  intro k
  induction k with
  | zero =>
    intro hk
    rw [isort_snoc g hk]
    rfl
  | succ k ih =>
    intro hk
    have hi := ih (by omega)
    rw [isort_snoc g hk]
    have ho := ord_isort g (xs.take (k + 1))
    have hl : (isort g (xs.take (k + 1))).length = k + 1 := by rw [isort_len, List.length_take]; omega
    generalize isort g (xs.take (k + 1)) = out at hi ho hl
    unfold ins
    obtain ⟨h1, h2⟩ := ipos_out g out (g (xs.getD (k + 1) .zero)) out.length
    have hp := ipos_le g out (g (xs.getD (k + 1) .zero)) out.length
    generalize ipos g out (g (xs.getD (k + 1) .zero)) out.length = p at h1 h2 hp
    rw [insAt_getD _ _ _ hp]
    show _ = xs.getD (if g (xs.getD (k + 1) .zero) < g (xs.getD (argm (fun i => g (xs.getD i .zero)) k) .zero) then k + 1 else argm (fun i => g (xs.getD i .zero)) k) .zero
    rw [← hi]
    by_cases hp0 : p = 0
    · subst hp0
      have := h2 0 (Nat.le_refl _) (by omega)
      rw [if_neg (by omega), if_pos rfl, if_pos this]
    · have h3 : g (out.getD 0 .zero) ≤ g (out.getD (p - 1) .zero) := ho 0 (p - 1) (by omega) (by omega)
      rw [if_pos (by omega), if_neg (by rcases h1 with h1 | h1 <;> omega), hi]
theorem argm_congr {f g : Nat → Nat} (n : Nat) (h : ∀ i, i ≤ n → f i = g i) : argm f n = argm g n := by
  induction n with
  | zero => rfl
  | succ n ih =>
    have e := ih (fun i hi => h i (by omega))
    have hle := argm_le g n
    unfold argm
    rw [e, h (n + 1) (by omega), h (argm g n) (by omega)]
/-- What the law asks of a sorted grid. -/
theorem sorted_facts {xs : List Fr} {a : Fr} {ys : List Fr} (h : gsorted xs a = (ys, true)) :
    ys.length = xs.length ∧ 1 ≤ xs.length ∧ (∀ k, k < ys.length → gfar (ys.getD k .zero) a = (gd a (ys.getD k .zero), true)) ∧ (∀ k, k + 1 < ys.length → gk a (ys.getD k .zero) ≤ gk a (ys.getD (k + 1) .zero)) ∧
    gsorted ys a = (ys, true) ∧ ∃ n, gfit xs a = (n, true) ∧ n < xs.length ∧ ys.getD 0 .zero = xs.getD n .zero := by
  unfold gsorted at h
  rcases hg : (gok xs && a.valid) with _ | _
  · rw [hg] at h; simp at h
  · rw [hg, if_pos rfl] at h
    simp only [Prod.mk.injEq, and_true] at h
    subst h
    simp only [Bool.and_eq_true] at hg
    obtain ⟨hall, hn1, hn2⟩ := gok_out hg.1
    have hv : ∀ k, k < (isort (gk a) xs).length → ((isort (gk a) xs).getD k .zero).valid = true := by
      intro k hk
      have hm := mem_isort (g := gk a) (xs := xs) (List.getElem_mem hk)
      obtain ⟨i, hi, e⟩ := List.getElem_of_mem hm
      have := hall i hi
      rw [getD_at hi, e] at this
      rw [getD_at hk]
      exact this
    have ho := ord_isort (gk a) xs
    have hl := isort_len (gk a) xs
    refine ⟨hl, hn1, fun k hk => ?_, fun k hk => ho k (k + 1) (by omega) hk, ?_, argm (fkey xs a) (xs.length - 1), ?_, ?_, ?_⟩
    · unfold gd
      rw [gfar_ok (hv k hk) hg.2]
    · have hgo : gok (isort (gk a) xs) = true := by
        unfold gok
        rw [hl]
        have h1 := hg.1
        unfold gok at h1
        simp only [Bool.and_eq_true] at h1 ⊢
        refine ⟨?_, h1.2⟩
        rw [List.all_eq_true]
        intro y hy
        obtain ⟨i, hi, e⟩ := List.getElem_of_mem hy
        have := hv i hi
        rw [getD_at hi, e] at this
        exact this
      rw [gsorted_ok hgo hg.2, isort_ord ho]
    · unfold gfit
      rw [hg.1, hg.2]
      rfl
    · have := argm_le (fkey xs a) (xs.length - 1)
      omega
    · have e := isort_head (gk a) xs (xs.length - 1) (by omega)
      rw [Nat.sub_add_cancel hn1, List.take_length] at e
      rw [e]
      have hc : argm (fun i => gk a (xs.getD i .zero)) (xs.length - 1) = argm (fkey xs a) (xs.length - 1) := by
        refine argm_congr _ (fun i hi => ?_)
        unfold gk gd fkey
        rw [gfar_ok (hall i (by omega)) hg.2]
      rw [hc]
end Go.Proofs.Ytgkekdiffgmllaa
