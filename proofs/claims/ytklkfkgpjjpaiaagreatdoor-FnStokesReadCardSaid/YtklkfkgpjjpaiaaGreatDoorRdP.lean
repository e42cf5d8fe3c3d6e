/-
  Reading texts of fractions: plain mathematics.
-/
import Derived.Test.YtklkfkgpjjpaiaaGreatDoorTxtP
import Derived.Lib.AtoiAllCases
import Derived.Lib.IndexMore
set_option linter.unusedSimpArgs false
set_option linter.unusedVariables false
namespace Go.Proofs.YtklkfkgpjjpaiaaGreatDoor
open Go.RowKit

/-- The byte is a digit. -/
def isDig (c : UInt8) : Bool := decide (48 ≤ c.toNat ∧ c.toNat ≤ 57)
/-- Digits at the start of a text: what they spell behind n, and how many are taken. -/
def dig : List UInt8 → Nat → Nat × Nat
  | [], n => (n, 0)
  | c :: t, n => if isDig c = true ∧ n ≤ 2000000000 then ((dig t (10 * n + (c.toNat - 48))).1, (dig t (10 * n + (c.toNat - 48))).2 + 1) else (n, 0)
theorem dig_take {c : UInt8} {t : List UInt8} {n : Nat} (h : isDig c = true) (hn : n ≤ 2000000000) : dig (c :: t) n = ((dig t (10 * n + (c.toNat - 48))).1, (dig t (10 * n + (c.toNat - 48))).2 + 1) := by
  rw [dig, if_pos ⟨h, hn⟩]
theorem dig_stay {c : UInt8} {t : List UInt8} {n : Nat} (h : ¬ (isDig c = true ∧ n ≤ 2000000000)) : dig (c :: t) n = (n, 0) := by
  rw [dig, if_neg h]
theorem dig_bounds (l : List UInt8) : ∀ n, n ≤ 20000000009 → (dig l n).1 ≤ 20000000009 ∧ (dig l n).2 ≤ l.length := by
  induction l with
  | nil => intro n hn; exact ⟨hn, Nat.le_refl _⟩
  | cons c t ih =>
    intro n hn
    by_cases h : isDig c = true ∧ n ≤ 2000000000
    · rw [dig_take h.1 h.2]
      have hc : 48 ≤ c.toNat ∧ c.toNat ≤ 57 := by simpa [isDig] using h.1
      obtain ⟨i1, i2⟩ := ih (10 * n + (c.toNat - 48)) (by omega)
      exact ⟨i1, by simpa using i2⟩
    · rw [dig_stay h]
      exact ⟨hn, Nat.zero_le _⟩
theorem digit_nat {u : Nat} (h : u < 10) : (UInt8.ofNat (48 + u)).toNat = 48 + u := by
  have : (UInt8.ofNat (48 + u)).toNat = (48 + u) % 256 := UInt8.toNat_ofNat'
  omega
theorem digit_is {u : Nat} (h : u < 10) : isDig (UInt8.ofNat (48 + u)) = true := by
  unfold isDig
  rw [digit_nat h]
  simp
  omega
theorem dec_digs (u : Nat) : ∀ c ∈ Lib.decDigits u, isDig c = true := by
  induction u using Nat.strongRecOn with
  | _ u ih =>
    intro c hc
    unfold Lib.decDigits at hc
    split at hc
    · rename_i h
      rw [List.mem_singleton.1 hc]
      exact digit_is h
    · rename_i h
      rw [List.mem_append] at hc
      rcases hc with hc | hc
      · exact ih (u / 10) (by omega) c hc
      · rw [List.mem_singleton.1 hc]
        exact digit_is (by omega)
theorem dig_dec (u : Nat) : ∀ rest, u ≤ 20000000009 → dig (Lib.decDigits u ++ rest) 0 = ((dig rest u).1, (dig rest u).2 + (Lib.decDigits u).length) := by
  induction u using Nat.strongRecOn with
  | _ u ih =>
    intro rest hu
    by_cases h : u < 10
    · have e : Lib.decDigits u = [UInt8.ofNat (48 + u)] := Lib.decDigits_one h
      rw [e]
      show dig (UInt8.ofNat (48 + u) :: rest) 0 = _
      rw [dig_take (digit_is h) (by omega), digit_nat h]
      have e2 : 10 * 0 + (48 + u - 48) = u := by omega
      rw [e2]
      rfl
    · have e : Lib.decDigits u = Lib.decDigits (u / 10) ++ [UInt8.ofNat (48 + u % 10)] := by
        conv => lhs; unfold Lib.decDigits
        rw [dif_neg h]
      rw [e, List.append_assoc]
      rw [ih (u / 10) (by omega) _ (by omega)]
      show ((dig (UInt8.ofNat (48 + u % 10) :: rest) (u / 10)).1, _) = _
      have hm : u % 10 < 10 := by omega
      have ed : dig (UInt8.ofNat (48 + u % 10) :: rest) (u / 10) = ((dig rest u).1, (dig rest u).2 + 1) := by
        rw [dig_take (digit_is hm) (by omega), digit_nat hm]
        have e2 : 10 * (u / 10) + (48 + u % 10 - 48) = u := by omega
        rw [e2]
      show ((dig (UInt8.ofNat (48 + u % 10) :: rest) (u / 10)).1, (dig (UInt8.ofNat (48 + u % 10) :: rest) (u / 10)).2 + (Lib.decDigits (u / 10)).length) = _
      rw [ed]
      simp
      omega
/-- No digit begins. -/
def Stops (l : List UInt8) : Prop := ∀ c t, l = c :: t → isDig c = false
theorem dig_stops {l : List UInt8} (h : Stops l) (n : Nat) : dig l n = (n, 0) := by
  cases l with
  | nil => rfl
  | cons c t =>
    refine dig_stay ?_
    rintro ⟨h1, -⟩
    rw [h c t rfl] at h1
    cases h1
theorem dig_exact (u : Nat) (rest : List UInt8) (hu : u ≤ 20000000009) (h : Stops rest) : dig (Lib.decDigits u ++ rest) 0 = (u, (Lib.decDigits u).length) := by
  rw [dig_dec u rest hu, dig_stops h]
  simp
theorem dec_short (u : Nat) : ∀ k, u < 10 ^ (k + 1) → (Lib.decDigits u).length ≤ k + 1 := by
  induction u using Nat.strongRecOn with
  | _ u ih =>
    intro k hk
    by_cases h : u < 10
    · rw [Lib.decDigits_one h]
      simp
    · have e : Lib.decDigits u = Lib.decDigits (u / 10) ++ [UInt8.ofNat (48 + u % 10)] := by
        conv => lhs; unfold Lib.decDigits
        rw [dif_neg h]
      rw [e]
      cases k with
      | zero => simp at hk; omega
      | succ k =>
        have := ih (u / 10) (by omega) k (by rw [Nat.pow_succ] at hk; omega)
        simp
        omega
theorem dec_ten {u : Nat} (h : u ≤ 2000000000) : (Lib.decDigits u).length ≤ 10 := dec_short u 9 (by omega)
/-- A number with its sign. -/
def sign1 (n : Int) : UInt8 := if n < 0 then 45 else 43
theorem sgn_form (n : Int) : sgn n = sign1 n :: Lib.decDigits n.natAbs := by
  unfold sgn sign1
  by_cases h : n < 0
  · rw [if_pos h, if_pos h]
    unfold Lib.itoa
    rw [if_pos h]
  · rw [if_neg h, if_neg h]
    unfold Lib.itoa
    rw [if_neg h]
    congr 2
    omega
theorem sign1_not (n : Int) : isDig (sign1 n) = false := by
  unfold sign1
  split <;> rfl
theorem sgn_short {n : Int} (h0 : -2000000000 ≤ n) (h1 : n ≤ 2000000000) : (sgn n).length ≤ 11 ∧ 1 ≤ (sgn n).length := by
  rw [sgn_form]
  have := dec_ten (u := n.natAbs) (by omega)
  simp
  omega
/-- A sign and digits from an index on, as the reference reads them: the number, and where they end. -/
def part (l : List UInt8) (i : Nat) : Int × Nat :=
  ((if l[i]? = some 45 then -1 else 1) * ((dig (l.drop (i + 1)) 0).1 : Int), i + 1 + (dig (l.drop (i + 1)) 0).2)
theorem part_sgn (pre : List UInt8) (n : Int) (rest : List UInt8) (h0 : -2000000000 ≤ n) (h1 : n ≤ 2000000000) (hs : Stops rest) : part (pre ++ (sgn n ++ rest)) pre.length = (n, pre.length + (sgn n).length) := by
  rw [sgn_form]
  have e1 : (pre ++ (sign1 n :: Lib.decDigits n.natAbs ++ rest))[pre.length]? = some (sign1 n) := by simp
  have e2 : (pre ++ (sign1 n :: Lib.decDigits n.natAbs ++ rest)).drop (pre.length + 1) = Lib.decDigits n.natAbs ++ rest := by
    rw [List.drop_append]
    simp
  unfold part
  rw [e1, e2, dig_exact _ _ (by omega) hs]
  have e3 : (if some (sign1 n) = some 45 then (-1 : Int) else 1) * ((n.natAbs : Nat) : Int) = n := by
    unfold sign1
    by_cases h : n < 0
    · rw [if_pos h, if_pos rfl]
      omega
    · rw [if_neg h, if_neg (by simp)]
      omega
  simp only
  rw [e3]
  simp
  omega
/-- What the reference reads, whether it is the text of it or not. -/
def sparse (l : List UInt8) : Fr :=
  ⟨(part l 0).1, (part l (part l 0).2).1, if (part l (part l 0).2).2 + 1 < l.length then ((dig (l.drop ((part l (part l 0).2).2 + 2)) 0).1 : Int) else 1⟩
/-- What stands behind the 'i'. -/
def tailT (x : Fr) : List UInt8 := if x.den = 1 then [] else 47 :: Lib.itoa x.den
theorem txt_split (x : Fr) : txt x = sgn x.re ++ (sgn x.im ++ (105 :: tailT x)) := by
  unfold txt tailT
  simp
theorem stops_sgn (n : Int) (rest : List UInt8) : Stops (sgn n ++ rest) := by
  rw [sgn_form]
  intro c t h
  injection h with h1 h2
  rw [← h1]
  exact sign1_not n
theorem stops_i (rest : List UInt8) : Stops (105 :: rest) := by
  intro c t h
  injection h with h1 h2
  rw [← h1]
  rfl
theorem Fr.bounds {x : Fr} (h : x.valid = true) : (-2000000000 ≤ x.re ∧ x.re ≤ 2000000000) ∧ (-2000000000 ≤ x.im ∧ x.im ≤ 2000000000) ∧ (1 ≤ x.den ∧ x.den ≤ 2000000000) := by
  obtain ⟨p1, p2, p3, -⟩ := Fr.valid_out h
  exact ⟨by omega, by omega, by omega⟩
theorem itoa_den {n : Int} (h : 1 ≤ n) : Lib.itoa n = Lib.decDigits n.natAbs := by
  unfold Lib.itoa
  rw [if_neg (by omega)]
  congr 1
  omega
theorem sparse_txt {x : Fr} (h : x.valid = true) : sparse (txt x) = x := by
  obtain ⟨b1, b2, b3⟩ := Fr.bounds h
  have p1 : part (txt x) 0 = (x.re, (sgn x.re).length) := by
    have := part_sgn [] x.re (sgn x.im ++ (105 :: tailT x)) b1.1 b1.2 (stops_sgn _ _)
    rw [txt_split]
    simpa using this
  have p2 : part (txt x) (sgn x.re).length = (x.im, (sgn x.re).length + (sgn x.im).length) := by
    have := part_sgn (sgn x.re) x.im (105 :: tailT x) b2.1 b2.2 (stops_i _)
    rw [txt_split]
    exact this
  unfold sparse
  rw [p1]
  simp only
  rw [p2]
  simp only
  have hl : (txt x).length = (sgn x.re).length + ((sgn x.im).length + (1 + (tailT x).length)) := by
    rw [txt_split]
    simp
    omega
  have e3 : (if (sgn x.re).length + (sgn x.im).length + 1 < (txt x).length then ((dig ((txt x).drop ((sgn x.re).length + (sgn x.im).length + 2)) 0).1 : Int) else 1) = x.den := by
    by_cases hd : x.den = 1
    · have e : tailT x = [] := if_pos hd
      rw [hl, e, if_neg (by simp; omega), hd]
    · have e : tailT x = 47 :: Lib.decDigits x.den.natAbs := by
        unfold tailT
        rw [if_neg hd, itoa_den b3.1]
      have e4 : (txt x).drop ((sgn x.re).length + (sgn x.im).length + 2) = Lib.decDigits x.den.natAbs := by
        have e5 : txt x = (sgn x.re ++ (sgn x.im ++ [105, 47])) ++ Lib.decDigits x.den.natAbs := by
          rw [txt_split, e]
          simp
        rw [e5]
        refine List.drop_left' ?_
        simp
        omega
      rw [e4, if_pos (by rw [hl, e]; simp; omega)]
      have := dig_exact x.den.natAbs [] (by omega) (fun c t h => by cases h)
      rw [List.append_nil] at this
      rw [this]
      simp only
      omega
  rw [e3]
/-- What a text of a fraction reads as; any other text reads as none. -/
def rd (l : List UInt8) : Fr × Bool := if (sparse l).valid = true ∧ txt (sparse l) = l then (sparse l, true) else (⟨0, 0, 0⟩, false)
theorem rd_txt {x : Fr} (h : x.valid = true) : rd (txt x) = (x, true) := by
  unfold rd
  rw [sparse_txt h, if_pos ⟨h, rfl⟩]
/-- Whoever reads proper texts right, and compares the text of what he reads, reads as here. -/
theorem rd_of {l : List UInt8} {x : Fr} (h : x.valid = true) (ht : txt x = l) : rd l = (x, true) := by
  rw [← ht]
  exact rd_txt h
theorem rd_none {l : List UInt8} (h : ∀ x : Fr, x.valid = true → txt x ≠ l) : rd l = (⟨0, 0, 0⟩, false) := by
  unfold rd
  rw [if_neg]
  rintro ⟨h1, h2⟩
  exact h _ h1 h2
theorem rd_spec (l : List UInt8) : (∃ x : Fr, x.valid = true ∧ txt x = l ∧ rd l = (x, true)) ∨ ((∀ x : Fr, x.valid = true → txt x ≠ l) ∧ rd l = (⟨0, 0, 0⟩, false)) := by
  by_cases h : ∃ x : Fr, x.valid = true ∧ txt x = l
  · obtain ⟨x, h1, h2⟩ := h
    exact .inl ⟨x, h1, h2, rd_of h1 h2⟩
  · have h2 : ∀ x : Fr, x.valid = true → txt x ≠ l := fun x h1 h2 => h ⟨x, h1, h2⟩
    exact .inr ⟨h2, rd_none h2⟩
theorem txt_len {x : Fr} (h : x.valid = true) : (txt x).length ≤ 34 := by
  obtain ⟨b1, b2, b3⟩ := Fr.bounds h
  have l1 := sgn_short b1.1 b1.2
  have l2 := sgn_short b2.1 b2.2
  have l3 := dec_ten (u := x.den.natAbs) (by omega)
  have e : (tailT x).length ≤ 11 := by
    unfold tailT
    split
    · simp
    · rw [itoa_den b3.1]
      simp
      omega
  rw [txt_split]
  simp
  omega
/-- Where the last sign stands, or -1. -/
def isSign (c : UInt8) : Bool := c == 43 || c == 45
def lastSign : List UInt8 → Int
  | [] => -1
  | c :: t => if 0 ≤ lastSign t then lastSign t + 1 else if isSign c then 0 else -1
theorem lastSign_none : ∀ (l : List UInt8), (∀ c ∈ l, isSign c = false) → lastSign l = -1
  | [], _ => rfl
  | c :: t, h => by
    unfold lastSign
    rw [lastSign_none t fun d hd => h d (List.mem_cons_of_mem _ hd), if_neg (by omega), h c List.mem_cons_self]
    rfl
theorem lastSign_at : ∀ (a : List UInt8) (c : UInt8) (t : List UInt8), isSign c = true → (∀ d ∈ t, isSign d = false) → lastSign (a ++ c :: t) = a.length
  | [], c, t, hc, ht => by
    show lastSign (c :: t) = _
    unfold lastSign
    rw [lastSign_none t ht, if_neg (by omega), hc]
    rfl
  | b :: a, c, t, hc, ht => by
    show lastSign (b :: (a ++ c :: t)) = _
    unfold lastSign
    rw [lastSign_at a c t hc ht, if_pos (by omega)]
    simp
theorem dig_not_sign {c : UInt8} (h : isDig c = true) : isSign c = false := by
  have hc : 48 ≤ c.toNat ∧ c.toNat ≤ 57 := by simpa [isDig] using h
  have h1 : c ≠ 43 := fun e => by rw [e] at hc; exact absurd hc (by decide)
  have h2 : c ≠ 45 := fun e => by rw [e] at hc; exact absurd hc (by decide)
  simp [isSign, h1, h2]
theorem sign1_is (n : Int) : isSign (sign1 n) = true := by
  unfold sign1
  split <;> rfl
theorem lastSign_txt (a b : Int) : lastSign (sgn a ++ sgn b) = (sgn a).length := by
  rw [sgn_form b]
  exact lastSign_at _ _ _ (sign1_is b) fun d hd => dig_not_sign (dec_digs _ d hd)
/-- The bytes of a text of a number. -/
theorem sgn_bytes (n : Int) : ∀ c ∈ sgn n, c.toNat < 58 := by
  rw [sgn_form]
  intro c hc
  rcases List.mem_cons.1 hc with rfl | hc
  · unfold sign1
    split <;> decide
  · have := dec_digs _ c hc
    simp [isDig] at this
    omega
theorem index_i : ∀ (a rest : List UInt8), (∀ c ∈ a, c.toNat < 58) → Lib.index (a ++ 105 :: rest) [105] = a.length
  | [], rest, _ => by
    show Lib.index (105 :: rest) [105] = _
    unfold Lib.index
    rw [if_pos (by simp)]
    rfl
  | c :: a, rest, h => by
    show Lib.index (c :: (a ++ 105 :: rest)) [105] = _
    have hc : c ≠ 105 := fun e => by
      have := h c List.mem_cons_self
      rw [e] at this
      exact absurd this (by decide)
    unfold Lib.index
    have hp : ([105] : List UInt8).isPrefixOf (c :: (a ++ 105 :: rest)) = false := by
      simp [List.isPrefixOf]
      exact fun e => hc e.symm
    rw [hp, index_i a rest fun d hd => h d (List.mem_cons_of_mem _ hd)]
    have : (((a.length : Nat) : Int) == -1) = false := by rw [beq_eq_false_iff_ne]; omega
    simp [this]
theorem cut_txt (x : Fr) : Lib.cut (txt x) [105] = (sgn x.re ++ sgn x.im, tailT x, true) := by
  have e : txt x = (sgn x.re ++ sgn x.im) ++ 105 :: tailT x := by
    rw [txt_split]
    simp
  have hi := index_i (sgn x.re ++ sgn x.im) (tailT x) (fun c hc => by
    rcases List.mem_append.1 hc with hc | hc
    · exact sgn_bytes _ c hc
    · exact sgn_bytes _ c hc)
  unfold Lib.cut
  rw [e, hi, if_pos (by omega), Int.toNat_natCast]
  congr 1
  · exact List.take_left' rfl
  · congr 1
    have e2 : (sgn x.re ++ sgn x.im) ++ 105 :: tailT x = ((sgn x.re ++ sgn x.im) ++ [105]) ++ tailT x := by simp
    rw [e2]
    refine List.drop_left' ?_
    simp
    omega
/-- What the library's Atoi reads. -/
theorem parseUint10_dec (u : Nat) : ∀ rest, u ≤ 20000000009 → Lib.parseUint10 0 (Lib.decDigits u ++ rest) = Lib.parseUint10 u rest := by
  induction u using Nat.strongRecOn with
  | _ u ih =>
    intro rest hu
    by_cases h : u < 10
    · rw [Lib.decDigits_one h]
      show Lib.parseUint10 0 (UInt8.ofNat (48 + u) :: rest) = _
      have hd : 48 ≤ (UInt8.ofNat (48 + u)).toNat ∧ (UInt8.ofNat (48 + u)).toNat ≤ 57 := by rw [digit_nat h]; omega
      simp only [Lib.parseUint10, if_pos hd]
      rw [digit_nat h, if_neg (by omega), if_neg (by omega)]
      congr 1
      omega
    · have e : Lib.decDigits u = Lib.decDigits (u / 10) ++ [UInt8.ofNat (48 + u % 10)] := by
        conv => lhs; unfold Lib.decDigits
        rw [dif_neg h]
      rw [e, List.append_assoc, ih (u / 10) (by omega) _ (by omega)]
      show Lib.parseUint10 (u / 10) (UInt8.ofNat (48 + u % 10) :: rest) = _
      have hm : u % 10 < 10 := by omega
      have hd : 48 ≤ (UInt8.ofNat (48 + u % 10)).toNat ∧ (UInt8.ofNat (48 + u % 10)).toNat ≤ 57 := by rw [digit_nat hm]; omega
      simp only [Lib.parseUint10, if_pos hd]
      rw [digit_nat hm, if_neg (by omega), if_neg (by omega)]
      congr 1
      omega
theorem dec_ne (u : Nat) : Lib.decDigits u ≠ [] := by
  unfold Lib.decDigits
  split <;> simp
theorem mag_dec {u : Nat} (h : u ≤ 2000000000) : Lib.parseMag (Lib.decDigits u) = .ok u := by
  unfold Lib.parseMag
  rw [if_neg (dec_ne u)]
  have := parseUint10_dec u [] (by omega)
  rw [List.append_nil] at this
  rw [this]
  rfl
theorem atoi_sgn {n : Int} (h0 : -2000000000 ≤ n) (h1 : n ≤ 2000000000) : Lib.atoiAll (sgn n) = .ok n := by
  rw [sgn_form]
  unfold sign1
  by_cases h : n < 0
  · rw [if_pos h, Lib.atoiAll_minus, mag_dec (by omega)]
    simp only [Lib.signed]
    rw [if_neg (by omega)]
    congr 1
    omega
  · rw [if_neg h, Lib.atoiAll_plus, mag_dec (by omega)]
    simp only [Lib.signless]
    rw [if_neg (by omega)]
    congr 1
    omega
theorem atoi_den {n : Int} (h0 : 1 ≤ n) (h1 : n ≤ 2000000000) : Lib.atoiAll (Lib.itoa n) = .ok n := by
  rw [itoa_den h0]
  obtain ⟨c, r, e⟩ : ∃ c r, Lib.decDigits n.natAbs = c :: r := by
    cases h : Lib.decDigits n.natAbs with
    | nil => exact absurd h (dec_ne _)
    | cons c r => exact ⟨c, r, rfl⟩
  have hd : isDig c = true := dec_digs n.natAbs c (by rw [e]; exact List.mem_cons_self)
  have hc : 48 ≤ c.toNat ∧ c.toNat ≤ 57 := by simpa [isDig] using hd
  have hm := mag_dec (u := n.natAbs) (by omega)
  rw [e] at hm ⊢
  rw [Lib.atoiAll_plain c r (by omega) (by omega), hm]
  simp only [Lib.signless]
  rw [if_neg (by omega)]
  congr 1
  omega
theorem trim_den {n : Int} : Lib.trimPrefix (47 :: Lib.itoa n) [47] = Lib.itoa n := by
  unfold Lib.trimPrefix Lib.hasPrefix
  simp [List.isPrefixOf]
end Go.Proofs.YtklkfkgpjjpaiaaGreatDoor
