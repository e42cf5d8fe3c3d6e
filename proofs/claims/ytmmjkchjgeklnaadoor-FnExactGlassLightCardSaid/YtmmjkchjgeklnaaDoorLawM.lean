/-
  Walks: the helpers of the laws that mark what was handed over and look whether marks are held.
-/
import Derived.Test.YtmmjkchjgeklnaaDoorLawG
import Derived.Test.YtmmjkchjgeklnaaDoorLib2
namespace Go.Proofs.YtmmjkchjgeklnaaDoor
open Go.RowKit

def marks (k : Int) (n : Nat) : List Int := (List.range n).map fun (i : Nat) => k + (i : Int)
@[simp] theorem marks_len (k : Int) (n : Nat) : (marks k n).length = n := by simp [marks]
theorem marks_at (k : Int) (n j : Nat) (h : j < n) : (marks k n).getD j 0 = k + j := by simp [marks, h]

theorem grow_refl (w : World) (row : Option Nat) : w.grownBy w row := ⟨rfl, rfl, rfl, Nat.le_refl _, fun _ _ _ => rfl⟩
theorem OwnI.other {w w' : World} {lo : Nat} {A : Option Addr} {cap : Nat} {xs : List Int} {row : Option Nat} (h : OwnI w lo A cap xs) (hg : w.grownBy w' row)
    (hne : ∀ b, (Value.slice A xs.length cap).ownBlock = some b → row ≠ some b) : OwnI w' lo A cap xs := by
  refine ⟨h.1, ?_⟩
  rcases h.2 with h0 | ⟨g, cp, cur, hv, hlo, hh, hr⟩
  · exact .inl h0
  · refine .inr ⟨g, cp, cur, hv, hlo, ?_, hr⟩
    have hlt : g < w.heap.size := by
      rcases Nat.lt_or_ge g w.heap.size with h | h
      · exact h
      · rw [Array.getElem?_eq_none h] at hh; cases hh
    exact (hg.block g hlt (fun e => hne g (by rw [hv]; rfl) e.symm)).trans hh

set_option maxHeartbeats 400000 in
theorem markIntS_any (lo : Nat) (A : Option Addr) (xs : List Int) (n cap : Nat) (k : Int) (w : World) (hown : OwnI w lo A cap xs) (hn : xs.length = n) (hl : n ≤ 1048576) (h0 : 0 ≤ k) (h1 : k ≤ 1048577) :
    Calls Tryd.prog 31 #[.slice A n cap, .int .i64 k] w fun e w' => e = .returned (.int .i64 (k + n)) ∧ OwnI w' lo A cap (marks k n) ∧ w.grownBy w' (Value.slice A n cap).ownBlock := by
  have HN := Lib.hid hn
  clear hn
  go_enter Tryd.func31, Tryd.ntmps31
  go_wp2
  go_loopw [1, 5] (fun s i wr => ∃ (j : Nat) (ys : List Int), j ≤ n ∧ s = .int .i64 (k + j) ∧ i = .int .i64 j ∧ Hid (ys.length = n) ∧ Hid (∀ t, t < j → ys[t]? = some (k + (t : Int))) ∧ OwnI wr lo A cap ys ∧ w.grownBy wr (Value.slice A n cap).ownBlock) (fun _ i _ => n - (intOf i).toNat)
  case atStart => exact ⟨0, xs, by omega, by simp, rfl, HN, (fun t ht => by omega : ∀ t, t < 0 → _), hown, grow_refl _ _⟩
  case round =>
    clear hown
    obtain ⟨j, ys, hj, rfl, rfl, HY, HS, hown, hg⟩ := hrel
    have HO := Lib.hid hown
    clear hown
    by_cases hlt : j < n
    · obtain ⟨g, rfl, hlo, hgs, hc, hf⟩ := HO.out.at (by rw [HY.out]; omega)
      have c := hc j (by rw [HY.out]; omega)
      have f := hf j
      clear hc hf
      go_wp2
      go_roundw
      case rel =>
        refine ⟨j + 1, ys.set j (k + j), by omega, by go_num, by go_num, show _ = _ by rw [List.length_set, HY.out], ?_, HO.out.store j (k + j), ?_⟩
        · intro t ht
          by_cases e : t = j
          · subst e
            rw [List.getElem?_set_self (by rw [HY.out]; omega)]
          · rw [List.getElem?_set_ne (Ne.symm e)]
            exact HS.out t (by omega)
        · exact hg.trans (World.ownsRow.stored HO.out j (.int .i64 (k + j))).2
      case measure => simp [intOf]; omega
    · go_wp2
      go_ret
      obtain rfl : j = n := by omega
      have e : ys = marks k j := List.ext_getElem? fun t => by
        by_cases ht : t < j
        · rw [HS.out t ht]; simp [marks, ht]
        · rw [List.getElem?_eq_none (by have := HY.out; omega), List.getElem?_eq_none (by simp; omega)]
      subst e
      exact ⟨rfl, HO.out, hg⟩

theorem markGlass_any (r c : Int) (lo : Nat) (A : Option Addr) (xs : List Int) (n cap : Nat) (k : Int) (w : World) (hown : OwnI w lo A cap xs) (hn : xs.length = n) (hl : n ≤ 1048576) (h0 : 0 ≤ k) (h1 : k ≤ 1048577) :
    Calls Tryd.prog 11 #[.agg #[.int .i64 r, .int .i64 c, .slice A n cap], .int .i64 k] w fun e w' => e = .returned (.int .i64 (k + n)) ∧ OwnI w' lo A cap (marks k n) ∧ ∃ o, (w.alloc o).grownBy w' (Value.slice A n cap).ownBlock := by
  go_enter Tryd.func11, Tryd.ntmps11
  go_wp2_with fail
  refine (markIntS_any lo A xs n cap k _ (hown.alloc _) hn hl h0 h1).mono ?_
  rintro e w1 ⟨rfl, ho, hg⟩
  go_wp2
  go_ret
  exact ⟨rfl, ho, _, hg⟩

theorem eqGlass_same (r c : Int) (A B : Option Addr) (xs : List Int) (ca cb : Nat) (w : World) (hA : Ints w A xs) (hB : Ints w B xs) (hl : xs.length ≤ 1048576) :
    Calls Tryd.prog 10 #[.agg #[.int .i64 r, .int .i64 c, .slice A xs.length ca], .agg #[.int .i64 r, .int .i64 c, .slice B xs.length cb]] w
      fun e w' => e = .returned (.bool true) ∧ Ex w w' := by
  refine (eqGlass_any r c r c A B xs xs ca cb w hA hB hl hl).mono ?_
  rintro e w1 ⟨rfl, hx⟩
  exact ⟨by simp, hx⟩
theorem eqIntS_same (A B : Option Addr) (xs : List Int) (ca cb : Nat) (w : World) (hA : Ints w A xs) (hB : Ints w B xs) (hl : xs.length ≤ 1048576) :
    Calls Tryd.prog 30 #[.slice A xs.length ca, .slice B xs.length cb] w fun e w' => e = .returned (.bool true) ∧ Ex w w' := by
  refine (eqIntS_any A B xs xs ca cb w hA hB hl hl).mono ?_
  rintro e w1 ⟨rfl, hx⟩
  exact ⟨by simp, hx⟩
end Go.Proofs.YtmmjkchjgeklnaaDoor
