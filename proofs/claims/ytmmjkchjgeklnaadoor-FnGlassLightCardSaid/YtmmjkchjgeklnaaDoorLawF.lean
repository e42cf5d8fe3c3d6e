/-
  Walks: the helpers of the laws on fractions and slices of fractions.
-/
import Derived.Test.YtmmjkchjgeklnaaDoorFrcQ
import Derived.Test.YtmmjkchjgeklnaaDoorApp
import Derived.Deep.RegionHeld3
namespace Go.Proofs.YtmmjkchjgeklnaaDoor
open Go.RowKit

/-- A slice of fractions of the call's own. -/
def OwnF (w : World) (lo : Nat) (A : Option Addr) (cap : Nat) (xs : List Fr) : Prop := Own w lo 42 3 (.slice A xs.length cap) xs.length (frCells xs)
section
variable {w w' : World} {lo lo' : Nat} {A : Option Addr} {cap : Nat} {xs : List Fr}
theorem OwnF.ex (h : OwnF w lo A cap xs) (he : Ex w w') : OwnF w' lo A cap xs := Own.ex h he
theorem OwnF.wide (h : OwnF w lo A cap xs) (h1 : lo' ≤ lo) : OwnF w lo' A cap xs := Own.wide h h1
theorem OwnF.alloc (h : OwnF w lo A cap xs) (o : Obj) : OwnF (w.alloc o) lo A cap xs := Own.alloc h o
theorem OwnF.fracs (h : OwnF w lo A cap xs) : Fracs w A xs := Own.slc h
end
theorem eqFrac_same (a1 a2 a3 : Int) (w : World) : Calls Tryd.prog 29 #[.agg #[.int .i64 a1, .int .i64 a2, .int .i64 a3], .agg #[.int .i64 a1, .int .i64 a2, .int .i64 a3]] w fun e w' => e = .returned (.bool true) ∧ Ex w w' := by
  go_enter Tryd.func29, Tryd.ntmps29
  go_wp2
  go_ret
  exact ⟨rfl, ((Ex.refl _).alloc _).alloc _⟩
theorem take_set_succ {cs ds : List Value} {m : Nat} {u : Value} (h : cs.take m = ds.take m) (hm : m < cs.length) (hd : ds[m]? = some u) : (cs.set m u).take (m + 1) = ds.take (m + 1) := by
  apply List.ext_getElem?
  intro j
  rw [List.getElem?_take, List.getElem?_take]
  by_cases h1 : j < m + 1
  · rw [if_pos h1, if_pos h1]
    by_cases h2 : j = m
    · subst h2
      rw [List.getElem?_set_self hm, hd]
    · rw [List.getElem?_set_ne (Ne.symm h2)]
      have h3 := congrArg (fun l => l[j]?) h
      simp only [List.getElem?_take] at h3
      rw [if_pos (by omega), if_pos (by omega)] at h3
      exact h3
  · rw [if_neg h1, if_neg h1]
def GotF (w : World) (xs : List Fr) (e : Ending) (w' : World) : Prop :=
  ∃ A cap, e = .returned (.slice A xs.length cap) ∧ OwnF w' w.heap.size A cap xs ∧ Ex w w'

set_option maxHeartbeats 400000 in
theorem eqFracS_same (A B : Option Addr) (xs : List Fr) (ca cb : Nat) (w : World) (hA : Fracs w A xs) (hB : Fracs w B xs) (hl : xs.length ≤ 1048576) :
    Calls Tryd.prog 9 #[.slice A xs.length ca, .slice B xs.length cb] w fun e w' => e = .returned (.bool true) ∧ Ex w w' := by
  go_enter Tryd.func9, Tryd.ntmps9
  go_wp2
  go_loopw [5] (fun i wr => ∃ (k : Nat), k ≤ xs.length ∧ i = .int .i64 k ∧ Ex w wr) (fun i _ => xs.length - (intOf i).toNat)
  case atStart => exact ⟨0, by omega, rfl, Ex.refl _⟩
  case round =>
    obtain ⟨k, hk, rfl, hb⟩ := hrel
    by_cases hlt : k < xs.length
    · obtain ⟨b, off, rfl, hc⟩ := (hA.ex hb).at (by omega)
      obtain ⟨b2, off2, rfl, hc2⟩ := (hB.ex hb).at (by omega)
      obtain ⟨c1, c2, c3⟩ := hc k hlt
      obtain ⟨d1, d2, d3⟩ := hc2 k hlt
      have kt := fun w => eqFrac_same (xs.getD k .zero).re (xs.getD k .zero).im (xs.getD k .zero).den w
      generalize (xs.getD k .zero).re = r1 at c1 d1 kt
      generalize (xs.getD k .zero).im = r2 at c2 d2 kt
      generalize (xs.getD k .zero).den = r3 at c3 d3 kt
      clear hc hc2
      go_wp2
      go_region_held3 (fun w' => (w'.cell? ⟨b, off + k * 3, none⟩ = some (.int .i64 r1) ∧ w'.cell? ⟨b, off + k * 3 + 1, none⟩ = some (.int .i64 r2) ∧ w'.cell? ⟨b, off + k * 3 + 2, none⟩ = some (.int .i64 r3)) ∧ w'.cell? ⟨b2, off2 + k * 3, none⟩ = some (.int .i64 r1) ∧ w'.cell? ⟨b2, off2 + k * 3 + 1, none⟩ = some (.int .i64 r2) ∧ w'.cell? ⟨b2, off2 + k * 3 + 2, none⟩ = some (.int .i64 r3)) (go_keep) ((go_at_call 29; (first | (refine (kt wr).mono ?_) | (refine (kt wr.drew).mono ?_)); rintro e w3 ⟨rfl, hx3⟩; have hx4 : Ex wr w3 := (by first | exact hx3 | exact ((Ex.refl _).drew).trans hx3); have e1 := hx4.get c1; have e2 := hx4.get c2; have e3 := hx4.get c3; have e4 := hx4.get d1; have e5 := hx4.get d2; have e6 := hx4.get d3))
      have hb2 := hb.trans hx4
      go_wp2
      go_roundw
      case rel => exact ⟨k + 1, by omega, by go_num, by repeat' (with_reducible first | exact Ex.refl _ | assumption | refine Ex.alloc ?_ _ | refine Ex.drewN ?_ _ | refine Ex.drew ?_ | refine Ex.setCell ?_ (by simp <;> omega) _)⟩
      case measure => simp [intOf]; omega
    · go_wp2
      go_ret
      exact ⟨rfl, hb⟩
end Go.Proofs.YtmmjkchjgeklnaaDoor
