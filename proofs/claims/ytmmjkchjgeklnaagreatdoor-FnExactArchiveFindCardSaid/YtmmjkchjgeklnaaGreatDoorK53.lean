/-
  Proved: what functions compute, part 53. No condition.
-/
import Derived.Test.YtmmjkchjgeklnaaGreatDoorK36
import Derived.Test.YtmmjkchjgeklnaaGreatDoorK52
import Derived.Test.YtmmjkchjgeklnaaGreatDoorK01
import Derived.Deep.MidRow
set_option linter.unusedSimpArgs false
set_option linter.unusedVariables false
set_option maxRecDepth 20000
set_option maxHeartbeats 8000000
namespace Go.Proofs.YtmmjkchjgeklnaaGreatDoor
section
open Go.RowKit

theorem Rc.one (r : Rc) : ∀ u ∈ r.cs, u.oneCell' = true := by
 intro u hu
 simp only [Rc.cs, List.mem_cons, List.not_mem_nil, or_false] at hu
 rcases hu with rfl | rfl | rfl | rfl | rfl | rfl | rfl | rfl | rfl | rfl | rfl | rfl | rfl | rfl <;> rfl
theorem Mg {w w' : World} {b o : Nat} {cs : List Value} (h : w.rangeAt b o cs) (he : Ex w w') : w'.rangeAt b o cs := fun j v hv => he.get (h j v hv)
theorem No {w : World} {b off : Nat} {rs : List Rc} (hc : ∀ k, k < (Yn rs).length → w.cell? ⟨b, off + k, none⟩ = (Yn rs)[k]?) (k : Nat) (hk : k < rs.length) : w.rangeAt b (off + k * 14) rs[k].cs := fun j v hv => by
 have hj : j < 14 := (List.getElem?_eq_some_iff.1 hv).1
 have h1 := hc (14 * k + j) (by rw [Zf]; omega)
 rw [Yw rs k hk j hj, hv] at h1
 rw [← h1]
 congr 2
 omega
def over : List Value → Nat → List Value → List Value
 | cs, _, [] => cs
 | cs, o, v :: r => over (cs.set o v) (o + 1) r
theorem over_len : ∀ (us cs : List Value) (o : Nat), (over cs o us).length = cs.length
 | [], _, _ => rfl
 | v :: r, cs, o => by rw [over, over_len r]; simp
theorem take_set_one {cs ds : List Value} {m : Nat} {u : Value} (h : cs.take m = ds.take m) (hm : m < cs.length) (hd : ds[m]? = some u) : (cs.set m u).take (m + 1) = ds.take (m + 1) := by
 apply List.ext_getElem?
 intro j
 rw [List.getElem?_take, List.getElem?_take]
 by_cases h1 : j < m + 1
 ·rw [if_pos h1, if_pos h1]
  by_cases h2 : j = m
  ·subst h2
   rw [List.getElem?_set_self hm, hd]
  ·rw [List.getElem?_set_ne (Ne.symm h2)]
   have h3 := congrArg (fun l => l[j]?) h
   simp only [List.getElem?_take] at h3
   rw [if_pos (by omega), if_pos (by omega)] at h3
   exact h3
 ·rw [if_neg h1, if_neg h1]
theorem over_take {ds : List Value} : ∀ (us cs : List Value) (o : Nat), cs.take o = ds.take o → o + us.length ≤ cs.length → (∀ j, j < us.length → ds[o + j]? = us[j]?) → (over cs o us).take (o + us.length) = ds.take (o + us.length)
 | [], _, _, h, _, _ => h
 | v :: r, cs, o, h, hl, hd => by
  rw [over, show o + (v :: r).length = o + 1 + r.length by simp only [List.length_cons]; omega]
  simp only [List.length_cons] at hl
  refine over_take r _ (o + 1) (take_set_one h (by omega) (by have := hd 0 (by simp); simpa using this)) (by simp; omega) (fun j hj => ?_)
  have := hd (j + 1) (by simp; omega)
  rw [show o + 1 + j = o + (j + 1) by omega, this]
  simp
theorem own_over {lo : Nat} {e : TypeId} {size n cap g : Nat} : ∀ (us : List Value) {cs : List Value} (o : Nat) {w : World}, Own w lo e size (.slice (some ⟨g, 0, none⟩) n cap) n cs → Own (w.setCells g o us) lo e size (.slice (some ⟨g, 0, none⟩) n cap) n (over cs o us)
 | [], _, _, _, h => h
 | v :: r, _, o, w, h => own_over r (o + 1) (World.ownsRow.stored h o v).1
theorem ex_cells {w0 : World} {g : Nat} (hg : w0.heap.size ≤ g) : ∀ (us : List Value) (o : Nat) {w : World}, Ex w0 w → Ex w0 (w.setCells g o us)
 | [], _, _, h => h
 | v :: r, o, _, h => ex_cells hg r (o + 1) (h.setCell (p := ⟨g, o, none⟩) hg v)
theorem own_there {w : World} {lo : Nat} {e : TypeId} {size n cap g : Nat} {cs : List Value} (h : Own w lo e size (.slice (some ⟨g, 0, none⟩) n cap) n cs) (o m : Nat) (hm : o + m ≤ cs.length) : w.there g o m := fun j hj => by
 refine ⟨?_, World.ownsRow.frozenAt h _⟩
 rw [World.ownsRow.cellAt h (o + j) (by have := h.1; omega), List.getElem?_eq_getElem (by omega)]
 rfl
end
end Go.Proofs.YtmmjkchjgeklnaaGreatDoor
