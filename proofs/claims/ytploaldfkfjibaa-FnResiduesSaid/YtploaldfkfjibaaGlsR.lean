/-
  Plain laws of glass: turned twice, more and less, steps kept.
-/
import Derived.Test.YtploaldfkfjibaaGlsQ
namespace Go.Proofs.Ytploaldfkfjibaa

theorem gvalid_mk {r c : Int} {q : List Int} (h1 : 1 ≤ r) (h2 : r ≤ 8) (h3 : 1 ≤ c) (h4 : c ≤ 8) (h5 : (q.length : Int) = r * c) (h6 : ∀ n ∈ q, -1000 ≤ n ∧ n ≤ 1000) : gvalid r c q = true := by
  simp only [gvalid, inB, Bool.and_eq_true, decide_eq_true_eq, List.all_eq_true]
  exact ⟨⟨⟨⟨h1, h2⟩, h3, h4⟩, h5⟩, h6⟩

theorem gcols_at (r c : Nat) (q : List Int) : ∀ (k k' i : Nat), k' < k → i < r → (gcols r c q k).getD (k' * r + i) 0 = q.getD (i * c + k') 0
  | 0, k', i, hk, _ => by omega
  | k + 1, k', i, hk, hi => by
    rw [gcols_succ]
    by_cases h : k' < k
    · have hlt := idx_lt h hi
      rw [getD_app_l _ _ _ (by rw [gcols_len]; exact hlt)]
      exact gcols_at r c q k k' i h hi
    · obtain rfl : k' = k := by omega
      have hl := gcols_len r c q k'
      simp only [List.getD_eq_getElem?_getD]
      rw [List.getElem?_append_right (by omega), hl, Nat.add_sub_cancel_left]
      simp [gcol, hi]

theorem gturnQ_len (r c : Nat) (q : List Int) : (gturnQ r c q).length = c * r := gcols_len r c q c
theorem gturnQ_at {r c : Nat} (q : List Int) {k i : Nat} (hk : k < c) (hi : i < r) : (gturnQ r c q).getD (k * r + i) 0 = q.getD (i * c + k) 0 := gcols_at r c q c k i hk hi

theorem getD_ext {xs ys : List Int} (h : xs.length = ys.length) (h2 : ∀ j, j < ys.length → xs.getD j 0 = ys.getD j 0) : xs = ys := by
  apply List.ext_getElem h
  intro j h3 h4
  have := h2 j h4
  simpa [h3, h4] using this
theorem split_idx {r c j : Nat} (h : j < r * c) : ∃ i k, i < r ∧ k < c ∧ j = i * c + k := by
  have hc : 0 < c := by
    rcases Nat.eq_zero_or_pos c with h0 | h0
    · subst h0; simp at h
    · exact h0
  refine ⟨j / c, j % c, ?_, Nat.mod_lt _ hc, ?_⟩
  · exact (Nat.div_lt_iff_lt_mul hc).2 h
  · have := Nat.div_add_mod j c
    rw [Nat.mul_comm] at this
    omega
theorem gturnQ_twice {r c : Nat} {q : List Int} (h : q.length = r * c) : gturnQ c r (gturnQ r c q) = q := by
  apply getD_ext
  · rw [gturnQ_len, h]
  · intro j hj
    rw [h] at hj
    obtain ⟨i, k, hi, hk, rfl⟩ := split_idx hj
    rw [gturnQ_at _ hi hk, gturnQ_at _ hk hi]
theorem gturnQ_mem {r c : Nat} {q : List Int} (h : q.length = r * c) {n : Int} (hn : n ∈ gturnQ r c q) : n ∈ q := by
  obtain ⟨j, hj, rfl⟩ := List.getElem_of_mem hn
  have hj' := hj
  rw [gturnQ_len] at hj'
  obtain ⟨k, i, hk, hi, rfl⟩ := split_idx hj'
  have e := gturnQ_at q hk hi
  have hb := idx_lt hi hk
  rw [← h] at hb
  simp only [List.getD_eq_getElem?_getD, List.getElem?_eq_getElem hj, List.getElem?_eq_getElem hb, Option.getD_some] at e
  rw [e]
  exact List.getElem_mem hb

/-- A valid glass turned. -/
theorem gturn_valid {r c : Int} {q : List Int} (h : gvalid r c q = true) : ∃ rn cn : Nat, r = rn ∧ c = cn ∧ q.length = rn * cn ∧ 1 ≤ rn ∧ rn ≤ 8 ∧ 1 ≤ cn ∧ cn ≤ 8 ∧
    gturn r c q = ⟨true, c, r, gturnQ rn cn q⟩ ∧ gvalid c r (gturnQ rn cn q) = true ∧ gturn c r (gturnQ rn cn q) = ⟨true, r, c, q⟩ := by
  obtain ⟨rn, cn, rfl, rfl, h1, h2, h3, h4, h5, h6⟩ := gvalid_nat h
  have hv : gvalid cn rn (gturnQ rn cn q) = true :=
    gvalid_mk (by omega) (by omega) (by omega) (by omega) (by rw [gturnQ_len]; exact Int.natCast_mul _ _) (fun n hn => (gvalid_out h).2.2.2.2.2 n (gturnQ_mem h5 hn))
  refine ⟨rn, cn, rfl, rfl, h5, h1, h2, h3, h4, ?_, hv, ?_⟩
  · simp [gturn, h]
  · simp [gturn, hv, gturnQ_twice h5]

theorem gmore_zero {r c : Int} {q : List Int} (h : gvalid r c q = true) : gmore r c q 0 = ⟨true, r, c, q⟩ := by
  have e : q.map (· + (0 : Int)) = q := by simp
  unfold gmore
  rw [e]
  simp [h, inB]
theorem gmore_back {r c : Int} {q : List Int} {n : Int} (h : (gmore r c q n).ok = true) : gmore r c q n = ⟨true, r, c, q.map (· + n)⟩ ∧ -1000 ≤ n ∧ n ≤ 1000 ∧ gvalid r c q = true ∧ gvalid r c (q.map (· + n)) = true ∧
    gmore r c (q.map (· + n)) (0 - n) = ⟨true, r, c, q⟩ := by
  unfold gmore at h ⊢
  split at h
  · rename_i hc
    simp only [Bool.and_eq_true] at hc
    obtain ⟨⟨h1, h2⟩, h3⟩ := hc
    have hb := inB_out h2
    have e : (q.map (· + n)).map (· + (0 - n)) = q := by
      rw [List.map_map]
      have : ((fun x : Int => x + (0 - n)) ∘ fun x => x + n) = id := by
        funext x; simp; omega
      rw [this, List.map_id]
    refine ⟨by simp [h1, h2, h3], hb.1, hb.2, h1, h3, ?_⟩
    rw [e]
    have h4 : inB (0 - n) (-1000) 1000 = true := by simp [inB]; omega
    rw [h3, h4, h1]
    rfl
  · simp [GR.zero] at h

theorem gabs_nonneg (n : Int) : 0 ≤ gabs n := by unfold gabs; omega
theorem gabs_swap (a b : Int) : gabs (a - b) = gabs (b - a) := by unfold gabs; omega
theorem gsteepTo_le (c : Nat) (q : List Int) (m : Int) : ∀ k, gsteepTo c q k ≤ m ↔ 0 ≤ m ∧ ∀ j, j < k → (0 < j % c → gabs (q.getD j 0 - q.getD (j - 1) 0) ≤ m) ∧ (c ≤ j → gabs (q.getD j 0 - q.getD (j - c) 0) ≤ m)
  | 0 => by simp [gsteepTo]
  | k + 1 => by
    rw [gsteepTo_succ]
    have ih := gsteepTo_le c q m k
    have hs : gstepI c q (gsteepTo c q k) k ≤ m ↔ gsteepTo c q k ≤ m ∧ (0 < k % c → gabs (q.getD k 0 - q.getD (k - 1) 0) ≤ m) ∧ (c ≤ k → gabs (q.getD k 0 - q.getD (k - c) 0) ≤ m) := by
      unfold gstepI
      split <;> split <;> simp only [Int.max_le] <;> constructor <;> intro h <;> simp_all <;> (intro hx; omega)
    rw [hs, ih]
    constructor
    · rintro ⟨⟨h0, h1⟩, h2⟩
      refine ⟨h0, fun j hj => ?_⟩
      by_cases e : j = k
      · subst e; exact h2
      · exact h1 j (by omega)
    · rintro ⟨h0, h1⟩
      exact ⟨⟨h0, fun j hj => h1 j (by omega)⟩, h1 k (by omega)⟩
/-- No step is greater than m, in rows and columns. -/
theorem gsteep_le {r c : Nat} {q : List Int} (_hc : 1 ≤ c) (h : q.length = r * c) (m : Int) : gsteep c q ≤ m ↔ 0 ≤ m ∧ (∀ i k, i < r → k + 1 < c → gabs (q.getD (i * c + (k + 1)) 0 - q.getD (i * c + k) 0) ≤ m) ∧
    (∀ i k, i + 1 < r → k < c → gabs (q.getD ((i + 1) * c + k) 0 - q.getD (i * c + k) 0) ≤ m) := by
  unfold gsteep
  rw [gsteepTo_le, h, Int.toNat_natCast]
  have hmod : ∀ i k, k < c → (i * c + k) % c = k := fun i k hk => by rw [Nat.mul_add_mod_self_right]; exact Nat.mod_eq_of_lt hk
  constructor
  · rintro ⟨h0, h1⟩
    refine ⟨h0, fun i k hi hk => ?_, fun i k hi hk => ?_⟩
    · have := (h1 (i * c + (k + 1)) (idx_lt hi hk)).1 (by rw [hmod _ _ hk]; omega)
      simpa using this
    · have := (h1 ((i + 1) * c + k) (idx_lt hi hk)).2 (by rw [Nat.succ_mul]; omega)
      rw [show (i + 1) * c + k - c = i * c + k by rw [Nat.succ_mul]; omega] at this
      exact this
  · rintro ⟨h0, h1, h2⟩
    refine ⟨h0, fun j hj => ?_⟩
    obtain ⟨i, k, hi, hk, rfl⟩ := split_idx hj
    refine ⟨fun hp => ?_, fun hp => ?_⟩
    · rw [hmod _ _ hk] at hp
      obtain ⟨k', rfl⟩ : ∃ k', k = k' + 1 := ⟨k - 1, by omega⟩
      have := h1 i k' hi hk
      simpa using this
    · have hi0 : 1 ≤ i := by
        rcases Nat.eq_zero_or_pos i with h0 | h0
        · subst h0; omega
        · exact h0
      obtain ⟨i', rfl⟩ : ∃ i', i = i' + 1 := ⟨i - 1, by omega⟩
      have := h2 i' k hi hk
      rw [show (i' + 1) * c + k - c = i' * c + k by rw [Nat.succ_mul]; omega]
      exact this
theorem eq_of_le_iff {a b : Int} (h : ∀ m, a ≤ m ↔ b ≤ m) : a = b := Int.le_antisymm ((h b).2 (Int.le_refl _)) ((h a).1 (Int.le_refl _))
theorem gsteep_turn {r c : Nat} {q : List Int} (hr : 1 ≤ r) (hc : 1 ≤ c) (h : q.length = r * c) : gsteep r (gturnQ r c q) = gsteep c q := by
  apply eq_of_le_iff
  intro m
  rw [gsteep_le hr (by rw [gturnQ_len]) m, gsteep_le hc h m]
  constructor
  · rintro ⟨h0, h1, h2⟩
    refine ⟨h0, fun i k hi hk => ?_, fun i k hi hk => ?_⟩
    · have := h2 k i hk hi
      rwa [gturnQ_at q hk hi, gturnQ_at q (by omega) hi] at this
    · have := h1 k i hk hi
      rwa [gturnQ_at q hk hi, gturnQ_at q hk (by omega)] at this
  · rintro ⟨h0, h1, h2⟩
    refine ⟨h0, fun k i hk hi => ?_, fun k i hk hi => ?_⟩
    · rw [gturnQ_at q hk hi, gturnQ_at q hk (by omega)]
      exact h2 i k hi hk
    · rw [gturnQ_at q hk hi, gturnQ_at q (by omega) hi]
      exact h1 i k hi hk
theorem map_getD (f : Int → Int) (q : List Int) {j : Nat} (h : j < q.length) : (q.map f).getD j 0 = f (q.getD j 0) := by simp [h]
theorem gsteep_more {r c : Nat} {q : List Int} (hc : 1 ≤ c) (h : q.length = r * c) (n : Int) : gsteep c (q.map (· + n)) = gsteep c q := by
  apply eq_of_le_iff
  intro m
  rw [gsteep_le hc (by simpa using h) m, gsteep_le hc h m]
  have e : ∀ i k i' k', i < r → k < c → i' < r → k' < c → (q.map (· + n)).getD (i * c + k) 0 - (q.map (· + n)).getD (i' * c + k') 0 = q.getD (i * c + k) 0 - q.getD (i' * c + k') 0 := by
    intro i k i' k' a b a' b'
    rw [map_getD _ q (by rw [h]; exact idx_lt a b), map_getD _ q (by rw [h]; exact idx_lt a' b')]
    omega
  constructor
  · rintro ⟨h0, h1, h2⟩
    refine ⟨h0, fun i k hi hk => ?_, fun i k hi hk => ?_⟩
    · rw [← e i (k + 1) i k hi hk hi (by omega)]; exact h1 i k hi hk
    · rw [← e (i + 1) k i k hi hk (by omega) hk]; exact h2 i k hi hk
  · rintro ⟨h0, h1, h2⟩
    refine ⟨h0, fun i k hi hk => ?_, fun i k hi hk => ?_⟩
    · rw [e i (k + 1) i k hi hk hi (by omega)]; exact h1 i k hi hk
    · rw [e (i + 1) k i k hi hk (by omega) hk]; exact h2 i k hi hk
theorem gsmooth_out {r c : Int} {q : List Int} (h : gsmooth r c q = true) : gvalid r c q = true ∧ gsteep c q ≤ 1 := by
  simpa only [gsmooth, Bool.and_eq_true, decide_eq_true_eq] using h
theorem gsteep_nonneg {r c : Nat} {q : List Int} (hc : 1 ≤ c) (h : q.length = r * c) : 0 ≤ gsteep c q := ((gsteep_le hc h (gsteep c q)).1 (Int.le_refl _)).1
end Go.Proofs.Ytploaldfkfjibaa
