/-
  Words between blanks: plain mathematics.
-/
import Derived.Test.YtklkfkgpjjpaiaaGreatDoorRdP
import Derived.Lib.SplitLaws
set_option linter.unusedSimpArgs false
set_option linter.unusedVariables false
namespace Go.Proofs.YtklkfkgpjjpaiaaGreatDoor
open Go.RowKit

/-- The words between blanks. -/
def wds : List UInt8 → List (List UInt8)
  | [] => [[]]
  | b :: t => if b = 32 then [] :: wds t else (b :: (wds t).headD []) :: (wds t).tail
theorem wds_ne (l : List UInt8) : wds l ≠ [] := by
  cases l with
  | nil => simp [wds]
  | cons b t => unfold wds; split <;> simp
/-- A text ahead of the first word. -/
def pre (p : List UInt8) (ws : List (List UInt8)) : List (List UInt8) := (p ++ ws.headD []) :: ws.tail
theorem pre_nil {ws : List (List UInt8)} (h : ws ≠ []) : pre [] ws = ws := by
  cases ws with
  | nil => exact absurd rfl h
  | cons a t => rfl
theorem wds_blank (t : List UInt8) : wds (32 :: t) = [] :: wds t := by
  rw [wds, if_pos rfl]
theorem wds_other {b : UInt8} (h : b ≠ 32) (t : List UInt8) : wds (b :: t) = pre [b] (wds t) := by
  rw [wds, if_neg h]
  rfl
theorem pre_pre (p q : List UInt8) (ws : List (List UInt8)) : pre p (pre q ws) = pre (p ++ q) ws := by
  simp [pre]
theorem wds_app : ∀ (a : List UInt8) (t : List UInt8), (∀ c ∈ a, c ≠ 32) → wds (a ++ t) = pre a (wds t)
  | [], t, _ => (pre_nil (wds_ne t)).symm
  | b :: a, t, h => by
    show wds (b :: (a ++ t)) = _
    rw [wds_other (h b List.mem_cons_self), wds_app a t fun c hc => h c (List.mem_cons_of_mem _ hc), pre_pre]
    rfl
theorem wds_cut (a t : List UInt8) (h : ∀ c ∈ a, c ≠ 32) : wds (a ++ 32 :: t) = a :: wds t := by
  rw [wds_app a _ h, wds_blank]
  simp [pre]
theorem wds_one (a : List UInt8) (h : ∀ c ∈ a, c ≠ 32) : wds a = [a] := by
  have := wds_app a [] h
  rw [List.append_nil] at this
  rw [this]
  simp [pre, wds]
theorem index_blank : ∀ l : List UInt8, (Lib.index l [32] = -1 ∧ ∀ c ∈ l, c ≠ 32) ∨ ∃ a t, l = a ++ 32 :: t ∧ Lib.index l [32] = (a.length : Nat) ∧ ∀ c ∈ a, c ≠ 32
  | [] => .inl ⟨rfl, fun _ h => by cases h⟩
  | b :: l => by
    by_cases hb : b = 32
    · subst hb
      refine .inr ⟨[], l, rfl, ?_, fun _ h => by cases h⟩
      unfold Lib.index
      rw [if_pos (by simp)]
      rfl
    · have hp : ([32] : List UInt8).isPrefixOf (b :: l) = false := by
        simp [List.isPrefixOf]
        exact fun e => hb e.symm
      rcases index_blank l with ⟨h1, h2⟩ | ⟨a, t, rfl, h1, h2⟩
      · refine .inl ⟨?_, fun c hc => ?_⟩
        · unfold Lib.index
          rw [hp, h1]
          rfl
        · rcases List.mem_cons.1 hc with rfl | hc
          · exact hb
          · exact h2 c hc
      · refine .inr ⟨b :: a, t, rfl, ?_, fun c hc => ?_⟩
        · unfold Lib.index
          rw [hp, h1]
          have : (((a.length : Nat) : Int) == -1) = false := by rw [beq_eq_false_iff_ne]; omega
          simp [this]
        · rcases List.mem_cons.1 hc with rfl | hc
          · exact hb
          · exact h2 c hc
theorem bs_take (l : List UInt8) (n : Nat) : (Bs l).extract 0 n = Bs (l.take n) := by
  have := ByteArray.extract_mk l 0 n
  simpa [Bs] using this
theorem bs_drop (l : List UInt8) (n : Nat) : (Bs l).extract n (Bs l).size = Bs (l.drop n) := by
  have := ByteArray.extract_mk l n l.length
  unfold Bs at *
  have e : (ByteArray.mk l.toArray).size = l.length := rfl
  rw [e, this, List.take_of_length_le (by simp)]
theorem split_wds : ∀ (k : Nat) (l : List UInt8), Lib.countB (Bs l) ⟨#[32]⟩ = k → Lib.splitB ⟨#[32]⟩ 0 k (Bs l) = (wds l).map Bs := by
  intro k
  induction k with
  | zero =>
    intro l h
    rcases index_blank l with ⟨h1, h2⟩ | ⟨a, t, rfl, h1, h2⟩
    · rw [wds_one l h2]
      rfl
    · have := Lib.countB_hit (Bs (a ++ 32 :: t)) ⟨#[32]⟩ a.length (by decide) h1
      omega
  | succ k ih =>
    intro l h
    rcases index_blank l with ⟨h1, h2⟩ | ⟨a, t, rfl, h1, h2⟩
    · have := Lib.countB_miss (Bs l) ⟨#[32]⟩ h1
      omega
    · have hc := Lib.countB_hit (Bs (a ++ 32 :: t)) ⟨#[32]⟩ a.length (by decide) h1
      rw [Lib.splitB_hit ⟨#[32]⟩ 0 k (Bs (a ++ 32 :: t)) a.length h1]
      have e1 : (⟨#[32]⟩ : ByteArray).size = 1 := rfl
      have e2 : (a ++ 32 :: t).take (a.length + 0) = a := List.take_left' rfl
      have e3 : (a ++ 32 :: t).drop (a.length + 1) = t := by
        have : a ++ 32 :: t = (a ++ [32]) ++ t := by simp
        rw [this]
        exact List.drop_left' (by simp)
      rw [e1] at hc ⊢
      rw [bs_drop, e3] at hc
      rw [bs_take, bs_drop, e2, e3]
      rw [wds_cut a t h2, ih t (by omega)]
      rfl
theorem wds_count (l : List UInt8) : (wds l).length = Lib.countB (Bs l) ⟨#[32]⟩ + 1 := by
  have h1 := split_wds _ l rfl
  have h2 := Lib.splitB_all ⟨#[32]⟩ (by decide) 0 _ (Bs l) rfl
  rw [h1, List.length_map] at h2
  exact h2
theorem wds_bytes : ∀ (l : List UInt8), ∀ x ∈ wds l, x.length ≤ l.length
  | [], x, hx => by simp [wds] at hx; subst hx; simp
  | b :: t, x, hx => by
    have ih := wds_bytes t
    by_cases hb : b = 32
    · subst hb
      rw [wds_blank] at hx
      rcases List.mem_cons.1 hx with rfl | hx
      · simp
      · have := ih x hx
        simp
        omega
    · rw [wds_other hb] at hx
      obtain ⟨h, r, hr⟩ : ∃ h r, wds t = h :: r := by
        cases hw : wds t with
        | nil => exact absurd hw (wds_ne t)
        | cons h r => exact ⟨h, r, rfl⟩
      rw [hr] at hx ih
      simp only [pre, List.headD_cons, List.tail_cons] at hx
      rcases List.mem_cons.1 hx with rfl | hx
      · have := ih h List.mem_cons_self
        simp
        omega
      · have := ih x (List.mem_cons_of_mem _ hx)
        simp
        omega
end Go.Proofs.YtklkfkgpjjpaiaaGreatDoor
