/-
  Plain laws of glass: wrapped once, unwrapped and wrapped again.
-/
import Derived.Test.YtploaldfkfjibaaGlsR
namespace Go.Proofs.Ytploaldfkfjibaa

theorem mod4_bd (n : Int) : 0 ≤ n % 4 ∧ n % 4 ≤ 3 := by omega
theorem gwrap_valid {r c : Int} {q : List Int} (h : gvalid r c q = true) : gwrap r c q = ⟨true, r, c, q.map (· % 4)⟩ ∧ gvalid r c (q.map (· % 4)) = true ∧ gwrap r c (q.map (· % 4)) = ⟨true, r, c, q.map (· % 4)⟩ ∧
    (∀ n ∈ q.map (· % (4 : Int)), 0 ≤ n ∧ n ≤ 3) := by
  obtain ⟨h1, h2, h3, h4, h5, -⟩ := gvalid_out h
  have hm : ∀ n ∈ q.map (· % (4 : Int)), 0 ≤ n ∧ n ≤ 3 := fun n hn => by
    obtain ⟨m, -, rfl⟩ := List.mem_map.1 hn
    exact mod4_bd m
  have hv : gvalid r c (q.map (· % 4)) = true := gvalid_mk h1 h2 h3 h4 (by simpa using h5) (fun n hn => by have := hm n hn; omega)
  refine ⟨by simp [gwrap, h], hv, ?_, hm⟩
  have e : (q.map (· % 4)).map (· % 4) = q.map (· % (4 : Int)) := by
    rw [List.map_map]
    congr 1
    funext x
    simp
  rw [gwrap, if_pos hv, e]
theorem gwrap_more {r c : Int} {q : List Int} (h : (gmore r c q 4).ok = true) : gmore r c q 4 = ⟨true, r, c, q.map (· + 4)⟩ ∧ gwrap r c (q.map (· + 4)) = ⟨true, r, c, q.map (· % 4)⟩ := by
  obtain ⟨h1, -, -, -, h2, -⟩ := gmore_back h
  refine ⟨h1, ?_⟩
  have e : (q.map (· + 4)).map (· % 4) = q.map (· % (4 : Int)) := by
    rw [List.map_map]
    congr 1
    funext x
    simp
  rw [gwrap, if_pos h2, e]

theorem gshort_mod (a b : Int) : (a + gshort a b) % 4 = b % 4 := by
  unfold gshort
  split <;> omega
theorem gunwrapTo_mod {c : Nat} {q : List Int} (hc : 1 ≤ c) (hq : ∀ k, 0 ≤ q.getD k 0 ∧ q.getD k 0 ≤ 3) : ∀ {k : Nat} {ys : List Int}, gunwrapTo c q k = some ys → ∀ j, j < k → ys.getD j 0 % 4 = q.getD j 0
  | 0, _, _, j, hj => by omega
  | k + 1, ys, h, j, hj => by
    simp only [gunwrapTo, Option.bind_eq_some_iff] at h
    obtain ⟨zs, h1, h2⟩ := h
    have hl := gunwrapTo_len h1
    by_cases hk : k = 0
    · subst hk
      simp only [if_true, Option.some.injEq] at h2
      subst h2
      obtain rfl : zs = [] := List.eq_nil_of_length_eq_zero hl
      obtain rfl : j = 0 := by omega
      have := hq 0
      show q.getD 0 0 % 4 = _
      omega
    · simp only [if_neg hk] at h2
      split at h2
      · cases h2
      · simp only [Option.some.injEq] at h2
        subst h2
        by_cases e : j < k
        · rw [getD_app_l _ _ _ (by omega)]
          exact gunwrapTo_mod hc hq h1 j e
        · obtain rfl : j = k := by omega
          rw [show j = zs.length from hl.symm, getD_app_r]
          rw [hl]
          have ih := gunwrapTo_mod hc hq h1 (gfrom c j) (gfrom_lt hc (by omega))
          have hm := gshort_mod (q.getD (gfrom c j) 0) (q.getD j 0)
          have := hq j
          have := hq (gfrom c j)
          omega
theorem gunwrapTo_head {c : Nat} {q : List Int} : ∀ {k : Nat} {ys : List Int}, gunwrapTo c q k = some ys → 0 < k → ys.getD 0 0 = q.getD 0 0
  | 0, _, _, hk => by omega
  | k + 1, ys, h, _ => by
    simp only [gunwrapTo, Option.bind_eq_some_iff] at h
    obtain ⟨zs, h1, h2⟩ := h
    have hl := gunwrapTo_len h1
    by_cases hk : k = 0
    · subst hk
      simp only [if_true, Option.some.injEq] at h2
      subst h2
      obtain rfl : zs = [] := List.eq_nil_of_length_eq_zero hl
      rfl
    · simp only [if_neg hk] at h2
      split at h2
      · cases h2
      · simp only [Option.some.injEq] at h2
        subst h2
        rw [getD_app_l _ _ _ (by omega)]
        exact gunwrapTo_head h1 (by omega)
theorem gwrapped_getD {r c : Int} {q : List Int} (h : gwrapped r c q = true) (k : Nat) : 0 ≤ q.getD k 0 ∧ q.getD k 0 ≤ 3 := by
  by_cases hk : k < q.length
  · exact gwrapped_cell h k hk
  · simp [List.getElem?_eq_none (Nat.le_of_not_lt hk)]
/-- What was unwrapped is wrapped again. -/
theorem gunwrap_back {r c : Int} {q : List Int} (h : (gunwrap r c q).ok = true) : ∃ ys, gunwrap r c q = ⟨true, r, c, ys⟩ ∧ ys.length = q.length ∧ 1 ≤ q.length ∧ gwrap r c ys = ⟨true, r, c, q⟩ ∧ ys.getD 0 0 = q.getD 0 0 ∧ gvalid r c q = true ∧ gvalid r c ys = true := by
  unfold gunwrap at h ⊢
  split at h
  · rename_i hw
    split at h
    · rename_i ys hy
      have hv := gwrapped_valid hw
      obtain ⟨rn, cn, rfl, rfl, h1, h2, h3, h4, h5, h6⟩ := gvalid_nat hv
      have hl := gunwrapTo_len hy
      have hp := gvalid_len hv
      rw [Int.toNat_natCast] at hy
      have hv2 : gvalid rn cn ys = true := by
        refine gvalid_mk (by omega) (by omega) (by omega) (by omega) (by rw [hl]; exact (gvalid_out hv).2.2.2.2.1) (fun n hn => ?_)
        obtain ⟨j, hj, rfl⟩ := List.getElem_of_mem hn
        have := gunwrapTo_bd h3 (gwrapped_getD hw) hy j (by omega)
        rw [List.getD_eq_getElem?_getD, List.getElem?_eq_getElem hj, Option.getD_some] at this
        omega
      refine ⟨ys, by simp [hw], hl, hp.1, ?_, gunwrapTo_head hy (by omega), hv, hv2⟩
      have e : ys.map (· % (4 : Int)) = q := by
        apply getD_ext
        · simpa using hl
        · intro j hj
          rw [map_getD _ _ (by omega)]
          exact gunwrapTo_mod h3 (gwrapped_getD hw) hy j hj
      rw [gwrap, if_pos hv2, e]
    · simp [GR.zero] at h
  · simp [GR.zero] at h

theorem gshort_mod4 {a b : Int} (h1 : -1 ≤ b - a) (h2 : b - a ≤ 1) : gshort (a % 4) (b % 4) = b - a := by
  unfold gshort
  split <;> omega
theorem gabs_out {n m : Int} (h : gabs n ≤ m) : -m ≤ n ∧ n ≤ m := by unfold gabs at h; omega
theorem gunwrapTo_smooth {c : Nat} {q : List Int} (hc : 1 ≤ c) (h0 : 0 ≤ q.getD 0 0) (h3 : q.getD 0 0 ≤ 3) (hs : gsteepTo c q q.length ≤ 1) : ∀ k, k ≤ q.length → gunwrapTo c (q.map (· % 4)) k = some (q.take k)
  | 0, _ => by simp [gunwrapTo]
  | k + 1, hk => by
    have ih := gunwrapTo_smooth hc h0 h3 hs k (by omega)
    have hlk : k < q.length := by omega
    have hst := ((gsteepTo_le c q 1 q.length).1 hs).2 k hlk
    rw [List.take_succ_eq_append_getElem hlk]
    by_cases hk0 : k = 0
    · subst hk0
      simp only [gunwrapTo, Option.bind_some, if_true, List.take_zero, List.nil_append]
      rw [map_getD _ _ hlk]
      have e : q.getD 0 0 = q[0] := by simp [hlk]
      rw [← e]
      congr 2
      omega
    · have hlt := gfrom_lt hc (show 1 ≤ k by omega)
      have hd : -1 ≤ q.getD k 0 - q.getD (gfrom c k) 0 ∧ q.getD k 0 - q.getD (gfrom c k) 0 ≤ 1 := by
        unfold gfrom
        split
        · rename_i hm
          have hck : c ≤ k := Nat.le_of_dvd (by omega) (Nat.dvd_of_mod_eq_zero hm)
          exact gabs_out (hst.2 hck)
        · exact gabs_out (hst.1 (by omega))
      have hg := gshort_mod4 hd.1 hd.2
      rw [gunwrapTo_step ih hk0 (by rw [map_getD _ _ (by omega), map_getD _ _ hlk, hg]; omega)]
      rw [map_getD _ _ (by omega), map_getD _ _ hlk, hg]
      have e1 : (q.take k).getD (gfrom c k) 0 = q.getD (gfrom c k) 0 := by simp [hlt]
      have e2 : q.getD k 0 = q[k] := by simp [hlk]
      rw [e1, ← e2]
      congr 3
      omega
/-- Smooth glass is found again. -/
theorem gsmooth_found {r c : Int} {q : List Int} (h : gsmooth r c q = true) (h0 : 0 ≤ q.getD 0 0) (h3 : q.getD 0 0 ≤ 3) : gunwrap r c (q.map (· % 4)) = ⟨true, r, c, q⟩ := by
  obtain ⟨hv, hle⟩ := gsmooth_out h
  obtain ⟨-, hv2, -, hm⟩ := gwrap_valid hv
  have hw : gwrapped r c (q.map (· % 4)) = true := by
    simp only [gwrapped, hv2, Bool.true_and, List.all_eq_true]
    intro n hn
    have := hm n hn
    simp only [inB, Bool.and_eq_true, decide_eq_true_eq]
    exact this
  obtain ⟨rn, cn, rfl, rfl, h1, h2, h4, h5, h6, h7⟩ := gvalid_nat hv
  unfold gunwrap
  rw [if_pos hw, Int.toNat_natCast, List.length_map, gunwrapTo_smooth h4 h0 h3 (by simpa [gsteep] using hle) q.length (Nat.le_refl _)]
  simp
end Go.Proofs.Ytploaldfkfjibaa
