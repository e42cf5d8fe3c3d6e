/-
  Plain mathematics of glass: no program in sight.
-/
namespace Go.Proofs.YtmmjkchjgeklnaaDoor

theorem mul88 {r c : Int} (h1 : 1 ≤ r) (h2 : r ≤ 8) (h3 : 1 ≤ c) (h4 : c ≤ 8) : 1 ≤ r * c ∧ r * c ≤ 64 := by
  constructor
  · have := Int.mul_le_mul h1 h3 (by omega) (by omega); simpa using this
  · have := Int.mul_le_mul h2 h4 (by omega) (by omega); simpa using this

def inB (n a b : Int) : Bool := decide (a ≤ n) && decide (n ≤ b)

def gvalid (r c : Int) (q : List Int) : Bool :=
  inB r 1 8 && inB c 1 8 && decide ((q.length : Int) = r * c) && q.all (fun n => inB n (-1000) 1000)

theorem all_take_succ (p : Int → Bool) (q : List Int) (k : Nat) (hk : k < q.length) : (q.take (k + 1)).all p = ((q.take k).all p && p (q.getD k 0)) := by
  rw [List.take_succ_eq_append_getElem hk, List.all_append]; simp [List.getElem?_eq_getElem hk]
theorem all_false_of (p : Int → Bool) (q : List Int) (k : Nat) (hk : k < q.length) (h : p (q.getD k 0) = false) : q.all p = false := by
  rw [List.all_eq_false]
  exact ⟨q[k], List.getElem_mem hk, by simpa [List.getElem?_eq_getElem hk] using h⟩
theorem gvalid_len {r c : Int} {q : List Int} (h : gvalid r c q = true) : 1 ≤ q.length ∧ q.length ≤ 64 := by
  simp only [gvalid, inB, Bool.and_eq_true, decide_eq_true_eq] at h
  obtain ⟨⟨⟨⟨h1, h2⟩, h3, h4⟩, h5⟩, -⟩ := h
  have := mul88 h1 h2 h3 h4
  omega

theorem inB_out {n a b : Int} (h : inB n a b = true) : a ≤ n ∧ n ≤ b := by simpa [inB] using h

/-- A glass and whether there is one. -/
structure GR where
  ok : Bool
  r : Int
  c : Int
  q : List Int
def GR.zero : GR := ⟨false, 0, 0, []⟩

theorem gvalid_out {r c : Int} {q : List Int} (h : gvalid r c q = true) :
    1 ≤ r ∧ r ≤ 8 ∧ 1 ≤ c ∧ c ≤ 8 ∧ (q.length : Int) = r * c ∧ ∀ n ∈ q, -1000 ≤ n ∧ n ≤ 1000 := by
  simp only [gvalid, Bool.and_eq_true, decide_eq_true_eq, List.all_eq_true] at h
  obtain ⟨⟨⟨h1, h2⟩, h3⟩, h4⟩ := h
  have a := inB_out h1; have b := inB_out h2
  exact ⟨a.1, a.2, b.1, b.2, h3, fun n hn => inB_out (h4 n hn)⟩

/-- What gvalid says of naturals. -/
theorem gvalid_nat {r c : Int} {q : List Int} (h : gvalid r c q = true) :
    ∃ rn cn : Nat, r = rn ∧ c = cn ∧ 1 ≤ rn ∧ rn ≤ 8 ∧ 1 ≤ cn ∧ cn ≤ 8 ∧ q.length = rn * cn ∧ q.length ≤ 64 := by
  obtain ⟨h1, h2, h3, h4, h5, -⟩ := gvalid_out h
  obtain ⟨rn, rfl⟩ := Int.eq_ofNat_of_zero_le (show 0 ≤ r by omega)
  obtain ⟨cn, rfl⟩ := Int.eq_ofNat_of_zero_le (show 0 ≤ c by omega)
  refine ⟨rn, cn, rfl, rfl, by omega, by omega, by omega, by omega, ?_, (gvalid_len h).2⟩
  have : ((rn * cn : Nat) : Int) = (rn : Int) * cn := Int.natCast_mul _ _
  omega

def gcol (r c : Nat) (q : List Int) (k : Nat) : List Int := (List.range r).map fun i => q.getD (i * c + k) 0
def gcols (r c : Nat) (q : List Int) (k : Nat) : List Int := (List.range k).flatMap (gcol r c q)
def gturnQ (r c : Nat) (q : List Int) : List Int := gcols r c q c

theorem gcol_len (r c : Nat) (q : List Int) (k : Nat) : (gcol r c q k).length = r := by simp [gcol]
theorem gcols_len (r c : Nat) (q : List Int) : ∀ k, (gcols r c q k).length = k * r
  | 0 => by simp [gcols]
  | k + 1 => by
    have ih := gcols_len r c q k
    unfold gcols at ih ⊢
    rw [List.range_succ, List.flatMap_append, List.length_append, ih]
    simp [gcol_len, Nat.succ_mul]
theorem gcols_succ (r c : Nat) (q : List Int) (k : Nat) : gcols r c q (k + 1) = gcols r c q k ++ gcol r c q k := by
  unfold gcols
  rw [List.range_succ, List.flatMap_append]
  simp
theorem gcol_take_succ (c : Nat) (q : List Int) (k i : Nat) : gcol (i + 1) c q k = gcol i c q k ++ [q.getD (i * c + k) 0] := by
  unfold gcol
  rw [List.range_succ, List.map_append]
  rfl
theorem idx_lt {i r c k : Nat} (hi : i < r) (hk : k < c) : i * c + k < r * c := by
  have : (i + 1) * c ≤ r * c := Nat.mul_le_mul_right _ hi
  rw [Nat.succ_mul] at this
  omega

/-- Turned: rows become columns. -/
def gturn (r c : Int) (q : List Int) : GR := if gvalid r c q then ⟨true, c, r, gturnQ r.toNat c.toNat q⟩ else .zero

def gabs (n : Int) : Int := max n (-n)
def gstepI (c : Nat) (q : List Int) (m : Int) (k : Nat) : Int :=
  let m1 := if 0 < k % c then max m (gabs (q.getD k 0 - q.getD (k - 1) 0)) else m
  if c ≤ k then max m1 (gabs (q.getD k 0 - q.getD (k - c) 0)) else m1
def gsteepTo (c : Nat) (q : List Int) (k : Nat) : Int := (List.range k).foldl (gstepI c q) 0
theorem gsteepTo_succ (c : Nat) (q : List Int) (k : Nat) : gsteepTo c q (k + 1) = gstepI c q (gsteepTo c q k) k := by
  unfold gsteepTo
  rw [List.range_succ, List.foldl_append]
  rfl
/-- The greatest step. -/
def gsteep (c : Int) (q : List Int) : Int := gsteepTo c.toNat q q.length

def gsteepR (r c : Int) (q : List Int) : Int := if gvalid r c q then gsteep c q else 0
def gsmooth (r c : Int) (q : List Int) : Bool := gvalid r c q && decide (gsteep c q ≤ 1)

theorem tmod4 (n : Int) : -3 ≤ n.tmod 4 ∧ n.tmod 4 ≤ 3 ∧ (n.tmod 4 + 4) % 4 = n % 4 := by
  rcases Int.le_total 0 n with h | h
  · rw [Int.tmod_eq_emod_of_nonneg h]; omega
  · have e : n.tmod 4 = -((-n) % 4) := by
      rw [← Int.tmod_eq_emod_of_nonneg (show 0 ≤ -n by omega), Int.neg_tmod]; omega
    rw [e]; omega

def gwrap (r c : Int) (q : List Int) : GR := if gvalid r c q then ⟨true, r, c, q.map (· % 4)⟩ else .zero
def gmore (r c : Int) (q : List Int) (n : Int) : GR :=
  if gvalid r c q && inB n (-1000) 1000 && gvalid r c (q.map (· + n)) then ⟨true, r, c, q.map (· + n)⟩ else .zero
theorem gvalid_cell {r c : Int} {q : List Int} (h : gvalid r c q = true) (k : Nat) (hk : k < q.length) : -1000 ≤ q.getD k 0 ∧ q.getD k 0 ≤ 1000 := by
  have := (gvalid_out h).2.2.2.2.2 q[k] (List.getElem_mem hk)
  simpa [hk] using this
theorem map_take_succ (f : Int → Int) (q : List Int) (k : Nat) (hk : k < q.length) : (q.take (k + 1)).map f = (q.take k).map f ++ [f (q.getD k 0)] := by
  rw [List.take_succ_eq_append_getElem hk, List.map_append]; simp [hk]

theorem getD_app_l (xs ys : List Int) (j : Nat) (h : j < xs.length) : (xs ++ ys).getD j 0 = xs.getD j 0 := by
  rw [List.getD_eq_getElem?_getD, List.getElem?_append_left h, ← List.getD_eq_getElem?_getD]
theorem getD_app_r (xs : List Int) (y : Int) : (xs ++ [y]).getD xs.length 0 = y := by
  simp

def gwrapped (r c : Int) (q : List Int) : Bool := gvalid r c q && q.all (fun n => inB n 0 3)
theorem gwrapped_valid {r c : Int} {q : List Int} (h : gwrapped r c q = true) : gvalid r c q = true := by
  simp only [gwrapped, Bool.and_eq_true] at h; exact h.1
theorem gwrapped_cell {r c : Int} {q : List Int} (h : gwrapped r c q = true) (k : Nat) (hk : k < q.length) : 0 ≤ q.getD k 0 ∧ q.getD k 0 ≤ 3 := by
  simp only [gwrapped, Bool.and_eq_true, List.all_eq_true] at h
  have := inB_out (h.2 q[k] (List.getElem_mem hk))
  simpa [hk] using this

/-- The short step from a quarter to another one. -/
def gshort (a b : Int) : Int := if (b - a) % 4 = 3 then -1 else (b - a) % 4
theorem gshort_bd (a b : Int) : -1 ≤ gshort a b ∧ gshort a b ≤ 2 := by
  unfold gshort
  have h1 := Int.emod_nonneg (b - a) (show (4 : Int) ≠ 0 by omega)
  have h2 := Int.emod_lt_of_pos (b - a) (show (0 : Int) < 4 by omega)
  split <;> omega
def gfrom (c k : Nat) : Nat := if k % c = 0 then k - c else k - 1
theorem gfrom_lt {c k : Nat} (hc : 1 ≤ c) (hk : 1 ≤ k) : gfrom c k < k := by unfold gfrom; split <;> omega
def gunwrapTo (c : Nat) (q : List Int) : Nat → Option (List Int)
  | 0 => some []
  | k + 1 => (gunwrapTo c q k).bind fun ys =>
    if k = 0 then some (ys ++ [q.getD 0 0])
    else if gshort (q.getD (gfrom c k) 0) (q.getD k 0) = 2 then none
    else some (ys ++ [ys.getD (gfrom c k) 0 + gshort (q.getD (gfrom c k) 0) (q.getD k 0)])
theorem gunwrapTo_zero {c : Nat} {q : List Int} : gunwrapTo c q 1 = some [q.getD 0 0] := rfl
theorem gunwrapTo_step {c : Nat} {q ys : List Int} {k : Nat} (h : gunwrapTo c q k = some ys) (hk : k ≠ 0) (hs : gshort (q.getD (gfrom c k) 0) (q.getD k 0) ≠ 2) :
    gunwrapTo c q (k + 1) = some (ys ++ [ys.getD (gfrom c k) 0 + gshort (q.getD (gfrom c k) 0) (q.getD k 0)]) := by
  simp only [gunwrapTo, h, Option.bind_some, if_neg hk, if_neg hs]
theorem gunwrapTo_stop {c : Nat} {q ys : List Int} {k : Nat} (h : gunwrapTo c q k = some ys) (hk : k ≠ 0) (hs : gshort (q.getD (gfrom c k) 0) (q.getD k 0) = 2) :
    ∀ j, k < j → gunwrapTo c q j = none := by
  intro j hj
  induction j with
  | zero => omega
  | succ j ih =>
    rcases Nat.lt_or_ge k j with h1 | h1
    · simp [gunwrapTo, ih h1]
    · obtain rfl : k = j := by omega
      simp only [gunwrapTo, h, Option.bind_some, if_neg hk, if_pos hs]
theorem gunwrapTo_len {c : Nat} {q : List Int} : ∀ {k : Nat} {ys : List Int}, gunwrapTo c q k = some ys → ys.length = k
  | 0, ys, h => by simp [gunwrapTo] at h; subst h; rfl
  | k + 1, ys, h => by
    simp only [gunwrapTo, Option.bind_eq_some_iff] at h
    obtain ⟨zs, h1, h2⟩ := h
    have ih := gunwrapTo_len h1
    split at h2
    · simp at h2; subst h2; simp [ih]
    · split at h2
      · cases h2
      · simp at h2; subst h2; simp [ih]
theorem gunwrapTo_bd {c : Nat} {q : List Int} (hc : 1 ≤ c) (hq : ∀ k, 0 ≤ q.getD k 0 ∧ q.getD k 0 ≤ 3) : ∀ {k : Nat} {ys : List Int}, gunwrapTo c q k = some ys → ∀ j, j < k → -(3 + j : Int) ≤ ys.getD j 0 ∧ ys.getD j 0 ≤ 3 + j
  | 0, ys, h, j, hj => by omega
  | k + 1, ys, h, j, hj => by
    simp only [gunwrapTo, Option.bind_eq_some_iff] at h
    obtain ⟨zs, h1, h2⟩ := h
    have ih := fun j hj => gunwrapTo_bd hc hq h1 j hj
    have hl := gunwrapTo_len h1
    rcases Nat.lt_or_ge j k with hjk | hjk
    · have e : ys.getD j 0 = zs.getD j 0 := by
        split at h2
        · simp at h2; subst h2; rw [getD_app_l _ _ _ (by omega)]
        · split at h2
          · cases h2
          · simp at h2; subst h2; rw [getD_app_l _ _ _ (by omega)]
      rw [e]; exact ih j hjk
    · obtain rfl : j = k := by omega
      split at h2
      · rename_i h0
        subst h0
        simp at h2
        subst h2
        have : zs = [] := List.eq_nil_of_length_eq_zero hl
        subst this
        have := hq 0
        simp only [List.getD_eq_getElem?_getD] at this
        simp only [List.nil_append, List.getD_cons_zero]
        omega
      · rename_i h0
        split at h2
        · cases h2
        · rename_i h3
          have hf := gfrom_lt hc (show 1 ≤ j by omega)
          have h4 := ih _ hf
          have h5 := gshort_bd (q.getD (gfrom c j) 0) (q.getD j 0)
          simp only [Option.some.injEq] at h2
          subst h2
          rw [show j = zs.length from hl.symm, getD_app_r]
          rw [hl]
          omega
def gunwrap (r c : Int) (q : List Int) : GR :=
  if gwrapped r c q then (match gunwrapTo c.toNat q q.length with | some ys => ⟨true, r, c, ys⟩ | none => .zero) else .zero
end Go.Proofs.YtmmjkchjgeklnaaDoor
