/-
  Small lemmas on memory that all walks of this seat use: worlds that only grow, blocks that are known whole, slices that read as lists, rows of the call's own.
-/
import Derived.Test.YtploaldfkfjibaaRows
import Derived.WalkKit
import Derived.WalkSpells
import Derived.WalkLawsBesides
import Derived.Lib.Hide
import Derived.Deep.QuietTactic
import Derived.BigQuiet
namespace Go.Proofs.Ytploaldfkfjibaa
open Go.RowKit

/-- Nothing that was there has changed. -/
def Ex (w w' : World) : Prop := Below w.heap.size w w'

section
variable {w w1 w2 : World}
theorem Ex.refl (w : World) : Ex w w := Below.refl _ _
theorem Ex.trans (h : Ex w w1) (k : Ex w1 w2) : Ex w w2 := Below.trans h (Below.mono k h.size)
theorem Ex.alloc (h : Ex w w1) (o : Obj) : Ex w (w1.alloc o) := Below.alloc h h.size o
theorem Ex.drew (h : Ex w w1) : Ex w w1.drew := Below.drew h
theorem Ex.drewN (h : Ex w w1) (n : Nat) : Ex w (w1.drewN n) := below_drewN h n
theorem Ex.setCell (h : Ex w w1) {p : Addr} (hp : w.heap.size ≤ p.block) (u : Value) : Ex w (w1.setCell p u) := Below.setCell h hp u
theorem Ex.grown (h : Ex w w1) {row : Option Nat} (hg : w1.grownBy w2 row) (hr : ∀ k, row = some k → w.heap.size ≤ k) : Ex w w2 := Below.grown h hg h.size hr
theorem Ex.size (h : Ex w w1) : w.heap.size ≤ w1.heap.size := Below.size h
theorem Ex.of (h : Below w.heap.size w w1) : Ex w w1 := h
theorem Ex.out (h : Ex w w1) : Below w.heap.size w w1 := h
theorem Ex.block (h : Ex w w1) {b : Nat} {o : Obj} (hb : w.heap[b]? = some o) : w1.heap[b]? = some o := by
  have hlt : b < w.heap.size := by
    rcases Nat.lt_or_ge b w.heap.size with h | h
    · exact h
    · rw [Array.getElem?_eq_none h] at hb; cases hb
  exact (Below.block h b hlt).trans hb
theorem Ex.get (h : Ex w w1) {p : Addr} {v : Value} (hc : w.cell? p = some v) : w1.cell? p = some v :=
  (Below.cell h (World.block_lt_of_cell? w p hc)).trans hc
theorem Ex.froz (h : Ex w w1) {p : Addr} (hp : p.block < w.heap.size) : w1.frozen? p = w.frozen? p := Below.frozen h hp
theorem Ex.setCell' (h : Ex w w1) {p : Addr} (hp : w.heap.size ≤ p.block) (u : Value) : Ex w (w1.setCell p u) := Below.setCell h hp u
end

/-- Block b holds just these cells, none of them frozen. -/
def Box (w : World) (b : Nat) (cs : Array Value) : Prop := ∃ t, w.heap[b]? = some (.cells cs t (0, 0))

section
variable {w w1 : World} {b : Nat} {cs : Array Value}
theorem Box.lt (h : Box w b cs) : b < w.heap.size := by
  obtain ⟨t, h⟩ := h
  rcases Nat.lt_or_ge b w.heap.size with hlt | hge
  · exact hlt
  · rw [Array.getElem?_eq_none hge] at h; cases h
theorem Box.cell (h : Box w b cs) : ∀ i, w.cell? ⟨b, i, none⟩ = cs[i]? := fun i => by
  obtain ⟨t, h⟩ := h
  exact cell_of_row w b i cs t (0, 0) h
theorem Box.frozen (h : Box w b cs) : ∀ i, w.frozen? ⟨b, i, none⟩ = false := fun i => by
  obtain ⟨t, h⟩ := h
  simp [World.frozen?, h]
theorem Box.new (w : World) (cs : Array Value) (t : TypeId) : Box (w.alloc (.cells cs t)) w.heap.size cs := ⟨t, heap_alloc_new w _⟩
theorem Box.ex (h : Box w b cs) (he : Ex w w1) : Box w1 b cs := by
  obtain ⟨t, h⟩ := h
  exact ⟨t, he.block h⟩
theorem Box.alloc (h : Box w b cs) (o : Obj) : Box (w.alloc o) b cs := h.ex ((Ex.refl _).alloc o)
theorem Box.drew (h : Box w b cs) : Box w.drew b cs := h
theorem Box.set_ (h : Box w b cs) (i : Nat) (u : Value) : Box (w.setCell ⟨b, i, none⟩ u) b (cs.setIfInBounds i u) := by
  obtain ⟨t, h⟩ := h
  exact ⟨t, by simp [World.setCell, Array.getElem?_modify, h]⟩
theorem Box.far (h : Box w b cs) {p : Addr} (hp : b ≠ p.block) (u : Value) : Box (w.setCell p u) b cs := by
  obtain ⟨t, h⟩ := h
  exact ⟨t, (Below.heap_setCell w p u b hp).trans h⟩
end

/-- A slice that reads as these cells. -/
def Slc (w : World) (A : Option Addr) (cs : List Value) : Prop :=
  0 < cs.length → ∃ b off, A = some ⟨b, off, none⟩ ∧ ∀ k, k < cs.length → w.cell? ⟨b, off + k, none⟩ = cs[k]?

section
variable {w w1 : World} {A : Option Addr} {cs : List Value}
theorem Slc.ex (h : Slc w A cs) (he : Ex w w1) : Slc w1 A cs := by
  intro hp
  obtain ⟨b, off, rfl, hc⟩ := h hp
  refine ⟨b, off, rfl, fun k hk => ?_⟩
  have hk' := hc k hk
  rw [List.getElem?_eq_getElem hk] at hk' ⊢
  exact he.get hk'
theorem Slc.alloc (h : Slc w A cs) (o : Obj) : Slc (w.alloc o) A cs := h.ex ((Ex.refl _).alloc o)
theorem Slc.drew (h : Slc w A cs) : Slc w.drew A cs := h
theorem Slc.nil (w : World) (A : Option Addr) : Slc w A [] := fun h => absurd h (by simp)
end

/-- A slice of integers that reads as xs. -/
def Ints (w : World) (A : Option Addr) (xs : List Int) : Prop := Slc w A (xs.map (Value.int .i64))

section
variable {w w1 : World} {A : Option Addr} {xs : List Int}
theorem Ints.ex (h : Ints w A xs) (he : Ex w w1) : Ints w1 A xs := Slc.ex h he
theorem Ints.alloc (h : Ints w A xs) (o : Obj) : Ints (w.alloc o) A xs := Slc.alloc h o
theorem Ints.drew (h : Ints w A xs) : Ints w.drew A xs := h
theorem Ints.at (h : Ints w A xs) (hp : 0 < xs.length) : ∃ b off, A = some ⟨b, off, none⟩ ∧ ∀ k, k < xs.length → w.cell? ⟨b, off + k, none⟩ = some (.int .i64 (xs.getD k 0)) := by
  obtain ⟨b, off, rfl, hc⟩ := h (by simpa using hp)
  exact ⟨b, off, rfl, fun k hk => by rw [hc k (by simpa using hk)]; simp [hk]⟩
end

theorem ret_bool {a b : Bool} (h : a = b) : Ending.returned (.bool a) = .returned (.bool b) := by rw [h]
theorem ret_int {k : IntKind} {a b : Int} (h : a = b) : Ending.returned (.int k a) = .returned (.int k b) := by rw [h]

/-- A row of the call's own, its block from lo on. -/
def Own (w : World) (lo : Nat) (e : TypeId) (size : Nat) (v : Value) (n : Nat) (cs : List Value) : Prop := w.ownsRow lo e size v n cs

section
variable {w w' : World} {lo lo' : Nat} {e : TypeId} {size n : Nat} {v : Value} {cs : List Value}
theorem Own.lt (h : Own w lo e size v n cs) : ∀ g, v.ownBlock = some g → lo ≤ g ∧ g < w.heap.size := World.ownsRow.lt h
theorem Own.ex (h : Own w lo e size v n cs) (he : Ex w w') : Own w' lo e size v n cs := by
  refine ⟨h.1, ?_⟩
  rcases h.2 with h0 | ⟨g, cap, cur, rfl, hg, hh, hr⟩
  · exact .inl h0
  · exact .inr ⟨g, cap, cur, rfl, hg, he.block hh, hr⟩
theorem Own.wide (h : Own w lo e size v n cs) (h1 : lo' ≤ lo) : Own w lo' e size v n cs := by
  refine ⟨h.1, ?_⟩
  rcases h.2 with h0 | ⟨g, cap, cur, rfl, hg, hh, hr⟩
  · exact .inl h0
  · exact .inr ⟨g, cap, cur, rfl, Nat.le_trans h1 hg, hh, hr⟩
theorem Own.form (h : Own w lo e size v n cs) : ∃ A cap, v = .slice A n cap ∧ (0 < n → ∃ g, A = some ⟨g, 0, none⟩ ∧ lo ≤ g) := by
  rcases h.2 with ⟨rfl, rfl⟩ | ⟨g, cap, cur, rfl, hg, _⟩
  · exact ⟨none, 0, rfl, fun h => absurd h (by omega)⟩
  · exact ⟨_, cap, rfl, fun _ => ⟨g, rfl, hg⟩⟩
theorem Own.drew (h : Own w lo e size v n cs) : Own w.drew lo e size v n cs := h
theorem Own.alloc (h : Own w lo e size v n cs) (o : Obj) : Own (w.alloc o) lo e size v n cs := h.ex ((Ex.refl _).alloc o)
theorem Own.setCell (h : Own w lo e size v n cs) {p : Addr} (hp : ∀ g, v.ownBlock = some g → g ≠ p.block) (u : Value) : Own (w.setCell p u) lo e size v n cs := by
  refine ⟨h.1, ?_⟩
  rcases h.2 with h0 | ⟨g, cap, cur, rfl, hg, hh, hr⟩
  · exact .inl h0
  · exact .inr ⟨g, cap, cur, rfl, hg, (Below.heap_setCell w p u g (hp g rfl)).trans hh, hr⟩
theorem Own.setBelow (h : Own w lo e size v n cs) {p : Addr} (hp : p.block < lo) (u : Value) : Own (w.setCell p u) lo e size v n cs :=
  h.setCell (fun g hg e => by have := (h.lt g hg).1; omega) u
theorem Own.lenle (h : Own w lo e size v n cs) : n ≤ maxLen := by
  rcases h.2 with ⟨rfl, rfl⟩ | ⟨g, cap, cur, rfl, hg, _, h1, h2, _⟩
  · exact Nat.zero_le _
  · exact Nat.le_trans h1 h2
theorem Own.slc {A : Option Addr} {n' cap : Nat} (h : Own w lo e size (.slice A n' cap) n cs) : Slc w A cs := by
  intro hp
  rcases h.2 with ⟨_, rfl⟩ | ⟨g, cap', cur, hv, hg, hh, h1, h2, h3, h4⟩
  · have := h.1; simp at this; subst this; simp at hp
  · injection hv with e1 e2 e3
    subst e1; subst e2; subst e3
    refine ⟨g, 0, rfl, fun k hk => ?_⟩
    rw [Nat.zero_add]
    exact World.ownsRow.cellAt h k (by have := h.1; omega)
end

/-- A slice of integers of the call's own. -/
def OwnI (w : World) (lo : Nat) (A : Option Addr) (cap : Nat) (xs : List Int) : Prop :=
  Own w lo 3 1 (.slice A xs.length cap) xs.length (xs.map (Value.int .i64))

section
variable {w w' : World} {lo lo' : Nat} {A : Option Addr} {cap : Nat} {xs : List Int}
theorem OwnI.ex (h : OwnI w lo A cap xs) (he : Ex w w') : OwnI w' lo A cap xs := Own.ex h he
theorem OwnI.wide (h : OwnI w lo A cap xs) (h1 : lo' ≤ lo) : OwnI w lo' A cap xs := Own.wide h h1
theorem OwnI.alloc (h : OwnI w lo A cap xs) (o : Obj) : OwnI (w.alloc o) lo A cap xs := Own.alloc h o
theorem OwnI.drew (h : OwnI w lo A cap xs) : OwnI w.drew lo A cap xs := h
theorem OwnI.setBelow (h : OwnI w lo A cap xs) {p : Addr} (hp : p.block < lo) (u : Value) : OwnI (w.setCell p u) lo A cap xs := Own.setBelow h hp u
theorem OwnI.ints (h : OwnI w lo A cap xs) : Ints w A xs := Own.slc h
theorem OwnI.at (h : OwnI w lo A cap xs) (hp : 0 < xs.length) : ∃ g, A = some ⟨g, 0, none⟩ ∧ lo ≤ g ∧ g < w.heap.size ∧
    (∀ k, k < xs.length → w.cell? ⟨g, k, none⟩ = some (.int .i64 (xs.getD k 0))) ∧ (∀ k, w.frozen? ⟨g, k, none⟩ = false) := by
  obtain ⟨A', cap', hv, hA⟩ := Own.form h
  injection hv with e1 e2 e3
  subst e1; subst e3
  obtain ⟨g, rfl, hg⟩ := hA hp
  refine ⟨g, rfl, hg, (Own.lt h g rfl).2, fun k hk => ?_, fun k => World.ownsRow.frozenAt h k⟩
  rw [World.ownsRow.cellAt h k (by omega)]
  simp [hk]
end

theorem Try.infoI : (Try.prog.info? 3).map (fun i => (i.zero, i.size, i.bytes)) = some (some (.int .i64 0), 1, 8) := by kernel_rfl

end Go.Proofs.Ytploaldfkfjibaa
