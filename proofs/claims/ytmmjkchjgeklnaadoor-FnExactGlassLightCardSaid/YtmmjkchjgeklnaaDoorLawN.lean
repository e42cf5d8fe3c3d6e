/-
  Marks of fractions, beside the marks of glass: walks.
-/
import Derived.Test.YtmmjkchjgeklnaaDoorLawF
import Derived.Test.YtmmjkchjgeklnaaDoorLawM
namespace Go.Proofs.YtmmjkchjgeklnaaDoor
open Go.RowKit

theorem Own.other {w w' : World} {lo : Nat} {e : TypeId} {size n : Nat} {v : Value} {cs : List Value} {row : Option Nat} (h : Own w lo e size v n cs) (hg : w.grownBy w' row)
    (hne : ∀ b, v.ownBlock = some b → row ≠ some b) : Own w' lo e size v n cs := by
  refine ⟨h.1, ?_⟩
  rcases h.2 with h0 | ⟨g, cp, cur, hv, hlo, hh, hr⟩
  · exact .inl h0
  · refine .inr ⟨g, cp, cur, hv, hlo, ?_, hr⟩
    have hlt : g < w.heap.size := by
      rcases Nat.lt_or_ge g w.heap.size with h | h
      · exact h
      · rw [Array.getElem?_eq_none h] at hh; cases hh
    exact (hg.block g hlt (fun e => hne g (by rw [hv]; rfl) e.symm)).trans hh
def fmarks (k : Int) (n : Nat) : List Fr := (List.range n).map fun (i : Nat) => ⟨k + (i : Int) * 3, k + (i : Int) * 3 + 1, k + (i : Int) * 3 + 2⟩
@[simp] theorem fmarks_len (k : Int) (n : Nat) : (fmarks k n).length = n := by simp [fmarks]
theorem fmarks_at (k : Int) (n j : Nat) (h : j < n) : (fmarks k n).getD j .zero = ⟨k + (j : Int) * 3, k + (j : Int) * 3 + 1, k + (j : Int) * 3 + 2⟩ := by simp [fmarks, h]

set_option maxHeartbeats 1000000 in
theorem markFracS_any (lo : Nat) (A : Option Addr) (xs : List Fr) (n cap : Nat) (k : Int) (w : World) (hown : OwnF w lo A cap xs) (hn : xs.length = n) (hl : n ≤ 1048576) (h0 : 0 ≤ k) (h1 : k ≤ 1048577) :
    Calls Tryd.prog 12 #[.slice A n cap, .int .i64 k] w fun e w' => e = .returned (.int .i64 (k + (n : Int) * 3)) ∧ OwnF w' lo A cap (fmarks k n) ∧ w.grownBy w' (Value.slice A n cap).ownBlock := by
  have hown' : Own w lo 42 3 (.slice A n cap) n (frCells xs) := by subst hn; exact hown
  clear hown
  go_enter Tryd.func12, Tryd.ntmps12
  go_wp2
  go_loopw [1, 5] (fun s i wr => ∃ (j : Nat) (cs : List Value), j ≤ n ∧ s = .int .i64 (k + (j : Int) * 3) ∧ i = .int .i64 j ∧ Hid (cs.length = n * 3 ∧ cs.take (j * 3) = (frCells (fmarks k n)).take (j * 3)) ∧ Hid (Own wr lo 42 3 (.slice A n cap) n cs) ∧ w.grownBy wr (Value.slice A n cap).ownBlock) (fun _ i _ => n - (intOf i).toNat)
  case atStart => exact ⟨0, _, by omega, by simp, rfl, Lib.hid ⟨hown'.1, by simp⟩, Lib.hid hown', grow_refl _ _⟩
  case round =>
    clear hown'
    obtain ⟨j, cs, hj, rfl, rfl, HC, HO, hg⟩ := hrel
    by_cases hlt : j < n
    · obtain ⟨hcl, hct⟩ := HC.out
      obtain ⟨A', cap', hv, hA⟩ := Own.form HO.out
      injection hv with e1 e2 e3
      subst e1; subst e3
      obtain ⟨g, rfl, hlo⟩ := hA (by omega)
      have hfr : ∀ t, wr.frozen? ⟨g, t, none⟩ = false := fun t => World.ownsRow.frozenAt HO.out t
      have hcells : ∀ t, t < n * 3 → wr.cell? ⟨g, t, none⟩ = cs[t]? := fun t ht => World.ownsRow.cellAt HO.out t (by omega)
      obtain ⟨u1, hu1⟩ : ∃ u, cs[j * 3]? = some u := ⟨_, List.getElem?_eq_getElem (by omega)⟩
      obtain ⟨u2, hu2⟩ : ∃ u, cs[j * 3 + 1]? = some u := ⟨_, List.getElem?_eq_getElem (by omega)⟩
      obtain ⟨u3, hu3⟩ : ∃ u, cs[j * 3 + 2]? = some u := ⟨_, List.getElem?_eq_getElem (by omega)⟩
      have d1 := hcells (j * 3) (by omega)
      have d2 := hcells (j * 3 + 1) (by omega)
      have d3 := hcells (j * 3 + 2) (by omega)
      rw [hu1] at d1; rw [hu2] at d2; rw [hu3] at d3
      have hx3 := frCells_at (fmarks k n) j (by simpa using hlt)
      rw [fmarks_at k n j hlt] at hx3
      have HX := Lib.hid hx3
      clear hcells hu1 hu2 hu3 hcl hct hx3 hA
      go_wp2
      go_roundw
      case rel =>
        obtain ⟨hcl, hct⟩ := HC.out
        obtain ⟨x1, x2, x3⟩ := HX.out
        refine ⟨j + 1, ((cs.set (j * 3) (.int .i64 (k + (j : Int) * 3))).set (j * 3 + 1) (.int .i64 (k + (j : Int) * 3 + 1))).set (j * 3 + 2) (.int .i64 (k + (j : Int) * 3 + 2)), by omega, ?_, by go_num, Lib.hid ⟨by simpa using hcl, ?_⟩, Lib.hid ?_, ?_⟩
        · rw [show k + ((j + 1 : Nat) : Int) * 3 = k + (j : Int) * 3 + 1 + 1 + 1 by omega]
        · have t1 := take_set_succ hct (by omega) x1
          have t2 := take_set_succ t1 (by simp; omega) x2
          have t3 := take_set_succ t2 (by simp; omega) x3
          rw [show (j + 1) * 3 = j * 3 + 2 + 1 by omega]
          exact t3
        · have s1 := (World.ownsRow.stored HO.out (j * 3) (.int .i64 (k + (j : Int) * 3))).1
          have s2 := (World.ownsRow.stored s1 (j * 3 + 1) (.int .i64 (k + (j : Int) * 3 + 1))).1
          have s3 := (World.ownsRow.stored s2 (j * 3 + 2) (.int .i64 (k + (j : Int) * 3 + 2))).1
          have e : k + (j : Int) * 3 + 1 + 1 = k + (j : Int) * 3 + 2 := by omega
          unfold Own
          simpa [e] using s3
        · have s1 := World.ownsRow.stored HO.out (j * 3) (.int .i64 (k + (j : Int) * 3))
          have s2 := World.ownsRow.stored s1.1 (j * 3 + 1) (.int .i64 (k + (j : Int) * 3 + 1))
          have s3 := World.ownsRow.stored s2.1 (j * 3 + 2) (.int .i64 (k + (j : Int) * 3 + 2))
          have e : k + (j : Int) * 3 + 1 + 1 = k + (j : Int) * 3 + 2 := by omega
          have hgg := ((hg.trans s1.2).trans s2.2).trans s3.2
          simpa [e] using hgg
      case measure => simp [intOf]; omega
    · go_wp2
      go_ret
      obtain rfl : j = n := by omega
      have hcs : cs = frCells (fmarks k j) := by
        obtain ⟨h1, h2⟩ := HC.out
        rw [List.take_of_length_le (by omega), List.take_of_length_le (by rw [frCells_len]; simp)] at h2
        exact h2
      rw [hcs] at HO
      refine ⟨rfl, ?_, hg⟩
      have h := HO.out
      unfold OwnF
      simpa using h

set_option maxHeartbeats 400000 in
theorem heldFracS_any (A : Option Addr) (n cap : Nat) (k : Int) (w : World) (hI : Fracs w A (fmarks k n)) (hl : n ≤ 1048576) (h0 : 0 ≤ k) (h1 : k ≤ 1048577) :
    Calls Tryd.prog 13 #[.slice A n cap, .int .i64 k] w fun e w' => e = .returned (.int .i64 (k + (n : Int) * 3)) ∧ Ex w w' := by
  go_enter Tryd.func13, Tryd.ntmps13
  go_wp2
  go_loopw [1, 5] (fun s i wr => ∃ (j : Nat), j ≤ n ∧ s = .int .i64 (k + (j : Int) * 3) ∧ i = .int .i64 j ∧ Ex w wr) (fun _ i _ => n - (intOf i).toNat)
  case atStart => exact ⟨0, by omega, by simp, rfl, Ex.refl _⟩
  case round =>
    obtain ⟨j, hj, rfl, rfl, hE⟩ := hrel
    by_cases hlt : j < n
    · obtain ⟨g, off, rfl, hc⟩ := (hI.ex hE).at (by simp; omega)
      obtain ⟨c1, c2, c3⟩ := hc j (by simpa using hlt)
      rw [fmarks_at _ _ _ hlt] at c1 c2 c3
      simp only at c1 c2 c3
      have e : k + (j : Int) * 3 + 1 + 1 = k + (j : Int) * 3 + 2 := by omega
      clear hc
      go_wp2
      go_roundw
      case rel => exact ⟨j + 1, by omega, by rw [show k + ((j + 1 : Nat) : Int) * 3 = k + (j : Int) * 3 + 2 + 1 by omega], by go_num, by repeat' (with_reducible first | exact Ex.refl _ | assumption | refine Ex.alloc ?_ _ | refine Ex.drewN ?_ _ | refine Ex.drew ?_ | refine Ex.setCell ?_ (by simp <;> omega) _)⟩
      case measure => simp [intOf]; omega
    · go_wp2
      go_ret
      obtain rfl : j = n := by omega
      exact ⟨rfl, hE⟩
end Go.Proofs.YtmmjkchjgeklnaaDoor
