/-
  Plain mathematics of glass: no program in sight.
-/
namespace Go.Proofs.Ytploaldfkfjibaa

theorem mul88 {r c : Int} (h1 : 1 ≤ r) (h2 : r ≤ 8) (h3 : 1 ≤ c) (h4 : c ≤ 8) : 1 ≤ r * c ∧ r * c ≤ 64 := by
  constructor
  · have := Int.mul_le_mul h1 h3 (by omega) (by omega); simpa using this
  · have := Int.mul_le_mul h2 h4 (by omega) (by omega); simpa using this

def inB (n a b : Int) : Bool := decide (a ≤ n) && decide (n ≤ b)

def gvalid (r c : Int) (q : List Int) : Bool :=
  inB r 1 8 && inB c 1 8 && decide ((q.length : Int) = r * c) && q.all (fun n => inB n (-1000) 1000)

theorem all_take_succ (p : Int → Bool) (q : List Int) (k : Nat) (hk : k < q.length) : (q.take (k + 1)).all p = ((q.take k).all p && p (q.getD k 0)) := by
  rw [List.take_succ_eq_append_getElem hk, List.all_append]; simp [List.getElem?_eq_getElem hk]
theorem all_false_of (p : Int → Bool) (q : List Int) (k : Nat) (hk : k < q.length) (h : p (q.getD k 0) = false) : q.all p = false := by
  rw [List.all_eq_false]
  exact ⟨q[k], List.getElem_mem hk, by simpa [List.getElem?_eq_getElem hk] using h⟩
theorem gvalid_len {r c : Int} {q : List Int} (h : gvalid r c q = true) : 1 ≤ q.length ∧ q.length ≤ 64 := by
  simp only [gvalid, inB, Bool.and_eq_true, decide_eq_true_eq] at h
  obtain ⟨⟨⟨⟨h1, h2⟩, h3, h4⟩, h5⟩, -⟩ := h
  have := mul88 h1 h2 h3 h4
  omega
end Go.Proofs.Ytploaldfkfjibaa
