/-
  Small lemmas on memory that all walks of this seat use: worlds that only grow, blocks that are known whole, slices that read as lists, rows of the call's own.
-/
import Derived.Test.YtklkfkgpjjpaiaaGreatDoorRows
import Derived.WalkKit
import Derived.WalkSpells
import Derived.WalkLawsBesides
import Derived.Lib.Hide
import Derived.Deep.QuietTactic
import Derived.BigQuiet
set_option linter.unusedSimpArgs false
set_option linter.unusedVariables false
namespace Go.Proofs.YtklkfkgpjjpaiaaGreatDoor
open Go.RowKit

/-- Nothing that was there has changed. -/
def Ex (w w' : World) : Prop := Below w.heap.size w w'

section
variable {w w1 w2 : World}
theorem Ex.refl (w : World) : Ex w w := Below.refl _ _
theorem Ex.trans (h : Ex w w1) (k : Ex w1 w2) : Ex w w2 := Below.trans h (Below.mono k h.size)
theorem Ex.alloc (h : Ex w w1) (o : Obj) : Ex w (w1.alloc o) := Below.alloc h h.size o
theorem Ex.drew (h : Ex w w1) : Ex w w1.drew := Below.drew h
theorem Ex.drewN (h : Ex w w1) (n : Nat) : Ex w (w1.drewN n) := below_drewN h n
theorem Ex.setCell (h : Ex w w1) {p : Addr} (hp : w.heap.size ≤ p.block) (u : Value) : Ex w (w1.setCell p u) := Below.setCell h hp u
theorem Ex.grown (h : Ex w w1) {row : Option Nat} (hg : w1.grownBy w2 row) (hr : ∀ k, row = some k → w.heap.size ≤ k) : Ex w w2 := Below.grown h hg h.size hr
theorem Ex.size (h : Ex w w1) : w.heap.size ≤ w1.heap.size := Below.size h
theorem Ex.of (h : Below w.heap.size w w1) : Ex w w1 := h
theorem Ex.out (h : Ex w w1) : Below w.heap.size w w1 := h
theorem Ex.block (h : Ex w w1) {b : Nat} {o : Obj} (hb : w.heap[b]? = some o) : w1.heap[b]? = some o := by
  have hlt : b < w.heap.size := by
    rcases Nat.lt_or_ge b w.heap.size with h | h
    · exact h
    · rw [Array.getElem?_eq_none h] at hb; cases hb
  exact (Below.block h b hlt).trans hb
theorem Ex.get (h : Ex w w1) {p : Addr} {v : Value} (hc : w.cell? p = some v) : w1.cell? p = some v :=
  (Below.cell h (World.block_lt_of_cell? w p hc)).trans hc
theorem Ex.froz (h : Ex w w1) {p : Addr} (hp : p.block < w.heap.size) : w1.frozen? p = w.frozen? p := Below.frozen h hp
theorem Ex.setCell' (h : Ex w w1) {p : Addr} (hp : w.heap.size ≤ p.block) (u : Value) : Ex w (w1.setCell p u) := Below.setCell h hp u
end

/-- Block b holds just these cells, of element type t, none of them frozen. -/
def Box (w : World) (b : Nat) (t : TypeId) (cs : Array Value) : Prop := w.heap[b]? = some (.cells cs t (0, 0))

section
variable {w w1 : World} {b : Nat} {t : TypeId} {cs : Array Value}
theorem Box.lt (h : Box w b t cs) : b < w.heap.size := by
  unfold Box at h
  rcases Nat.lt_or_ge b w.heap.size with hlt | hge
  · exact hlt
  · rw [Array.getElem?_eq_none hge] at h; cases h
theorem Box.cell (h : Box w b t cs) : ∀ i, w.cell? ⟨b, i, none⟩ = cs[i]? := fun i => cell_of_row w b i cs t (0, 0) h
theorem Box.frozen (h : Box w b t cs) : ∀ i, w.frozen? ⟨b, i, none⟩ = false := fun i => by
  unfold Box at h
  simp [World.frozen?, h]
theorem Box.new (w : World) (cs : Array Value) (t : TypeId) : Box (w.alloc (.cells cs t)) w.heap.size t cs := heap_alloc_new w _
theorem Box.ex (h : Box w b t cs) (he : Ex w w1) : Box w1 b t cs := he.block h
theorem Box.alloc (h : Box w b t cs) (o : Obj) : Box (w.alloc o) b t cs := h.ex ((Ex.refl _).alloc o)
theorem Box.drew (h : Box w b t cs) : Box w.drew b t cs := h
theorem Box.set_ (h : Box w b t cs) (i : Nat) (u : Value) : Box (w.setCell ⟨b, i, none⟩ u) b t (cs.setIfInBounds i u) := by
  unfold Box at h ⊢
  simp [World.setCell, Array.getElem?_modify, h]
theorem Box.far (h : Box w b t cs) {p : Addr} (hp : b ≠ p.block) (u : Value) : Box (w.setCell p u) b t cs := (Below.heap_setCell w p u b hp).trans h
theorem Box.grown {row : Option Nat} (h : Box w b t cs) (hg : w.grownBy w1 row) (hne : some b ≠ row) : Box w1 b t cs := (hg.block b h.lt hne).trans h
end

/-- A slice that reads as these cells. -/
def Slc (w : World) (A : Option Addr) (cs : List Value) : Prop :=
  0 < cs.length → ∃ b off, A = some ⟨b, off, none⟩ ∧ ∀ k, k < cs.length → w.cell? ⟨b, off + k, none⟩ = cs[k]?

section
variable {w w1 : World} {A : Option Addr} {cs : List Value}
theorem Slc.ex (h : Slc w A cs) (he : Ex w w1) : Slc w1 A cs := by
  intro hp
  obtain ⟨b, off, rfl, hc⟩ := h hp
  refine ⟨b, off, rfl, fun k hk => ?_⟩
  have hk' := hc k hk
  rw [List.getElem?_eq_getElem hk] at hk' ⊢
  exact he.get hk'
theorem Slc.alloc (h : Slc w A cs) (o : Obj) : Slc (w.alloc o) A cs := h.ex ((Ex.refl _).alloc o)
theorem Slc.drew (h : Slc w A cs) : Slc w.drew A cs := h
theorem Slc.nil (w : World) (A : Option Addr) : Slc w A [] := fun h => absurd h (by simp)
end

/-- A slice of integers that reads as xs. -/
def Ints (w : World) (A : Option Addr) (xs : List Int) : Prop := Slc w A (xs.map (Value.int .i64))

section
variable {w w1 : World} {A : Option Addr} {xs : List Int}
theorem Ints.ex (h : Ints w A xs) (he : Ex w w1) : Ints w1 A xs := Slc.ex h he
theorem Ints.alloc (h : Ints w A xs) (o : Obj) : Ints (w.alloc o) A xs := Slc.alloc h o
theorem Ints.drew (h : Ints w A xs) : Ints w.drew A xs := h
theorem Ints.at (h : Ints w A xs) (hp : 0 < xs.length) : ∃ b off, A = some ⟨b, off, none⟩ ∧ ∀ k, k < xs.length → w.cell? ⟨b, off + k, none⟩ = some (.int .i64 (xs.getD k 0)) := by
  obtain ⟨b, off, rfl, hc⟩ := h (by simpa using hp)
  exact ⟨b, off, rfl, fun k hk => by rw [hc k (by simpa using hk)]; simp [hk]⟩
end

theorem ret_bool {a b : Bool} (h : a = b) : Ending.returned (.bool a) = .returned (.bool b) := by rw [h]
theorem ret_int {k : IntKind} {a b : Int} (h : a = b) : Ending.returned (.int k a) = .returned (.int k b) := by rw [h]

/-- A row of the call's own, its block from lo on. -/
def Own (w : World) (lo : Nat) (e : TypeId) (size : Nat) (v : Value) (n : Nat) (cs : List Value) : Prop := w.ownsRow lo e size v n cs

section
variable {w w' : World} {lo lo' : Nat} {e : TypeId} {size n : Nat} {v : Value} {cs : List Value}
theorem Own.lt (h : Own w lo e size v n cs) : ∀ g, v.ownBlock = some g → lo ≤ g ∧ g < w.heap.size := World.ownsRow.lt h
theorem Own.ex (h : Own w lo e size v n cs) (he : Ex w w') : Own w' lo e size v n cs := by
  refine ⟨h.1, ?_⟩
  rcases h.2 with h0 | ⟨g, cap, cur, rfl, hg, hh, hr⟩
  · exact .inl h0
  · exact .inr ⟨g, cap, cur, rfl, hg, he.block hh, hr⟩
theorem Own.wide (h : Own w lo e size v n cs) (h1 : lo' ≤ lo) : Own w lo' e size v n cs := by
  refine ⟨h.1, ?_⟩
  rcases h.2 with h0 | ⟨g, cap, cur, rfl, hg, hh, hr⟩
  · exact .inl h0
  · exact .inr ⟨g, cap, cur, rfl, Nat.le_trans h1 hg, hh, hr⟩
theorem Own.form (h : Own w lo e size v n cs) : ∃ A cap, v = .slice A n cap ∧ (0 < n → ∃ g, A = some ⟨g, 0, none⟩ ∧ lo ≤ g) := by
  rcases h.2 with ⟨rfl, rfl⟩ | ⟨g, cap, cur, rfl, hg, _⟩
  · exact ⟨none, 0, rfl, fun h => absurd h (by omega)⟩
  · exact ⟨_, cap, rfl, fun _ => ⟨g, rfl, hg⟩⟩
theorem Own.drew (h : Own w lo e size v n cs) : Own w.drew lo e size v n cs := h
theorem Own.alloc (h : Own w lo e size v n cs) (o : Obj) : Own (w.alloc o) lo e size v n cs := h.ex ((Ex.refl _).alloc o)
theorem Own.setCell (h : Own w lo e size v n cs) {p : Addr} (hp : ∀ g, v.ownBlock = some g → g ≠ p.block) (u : Value) : Own (w.setCell p u) lo e size v n cs := by
  refine ⟨h.1, ?_⟩
  rcases h.2 with h0 | ⟨g, cap, cur, rfl, hg, hh, hr⟩
  · exact .inl h0
  · exact .inr ⟨g, cap, cur, rfl, hg, (Below.heap_setCell w p u g (hp g rfl)).trans hh, hr⟩
theorem Own.setBelow (h : Own w lo e size v n cs) {p : Addr} (hp : p.block < lo) (u : Value) : Own (w.setCell p u) lo e size v n cs :=
  h.setCell (fun g hg e => by have := (h.lt g hg).1; omega) u
theorem Own.lenle (h : Own w lo e size v n cs) : n ≤ maxLen := by
  rcases h.2 with ⟨rfl, rfl⟩ | ⟨g, cap, cur, rfl, hg, _, h1, h2, _⟩
  · exact Nat.zero_le _
  · exact Nat.le_trans h1 h2
theorem Own.ne {b : Nat} {t : TypeId} {xs : Array Value} (h : Own w lo e size v n cs) (hb : Box w b t xs) (hne : e ≠ t) : some b ≠ v.ownBlock := by
  rcases h.2 with ⟨rfl, _⟩ | ⟨g, cap, cur, rfl, _, hh, _⟩
  · simp [Value.ownBlock]
  · intro he
    have : b = g := by simpa [Value.ownBlock] using he
    subst this
    unfold Box at hb
    rw [hh] at hb
    injection hb with hb
    injection hb with _ ht
    exact hne ht
theorem Own.slc {A : Option Addr} {n' cap : Nat} (h : Own w lo e size (.slice A n' cap) n cs) : Slc w A cs := by
  intro hp
  rcases h.2 with ⟨_, rfl⟩ | ⟨g, cap', cur, hv, hg, hh, h1, h2, h3, h4⟩
  · have := h.1; simp at this; subst this; simp at hp
  · injection hv with e1 e2 e3
    subst e1; subst e2; subst e3
    refine ⟨g, 0, rfl, fun k hk => ?_⟩
    rw [Nat.zero_add]
    exact World.ownsRow.cellAt h k (by have := h.1; omega)
end

/-- A slice of integers of the call's own. -/
def OwnI (w : World) (lo : Nat) (A : Option Addr) (cap : Nat) (xs : List Int) : Prop :=
  Own w lo 3 1 (.slice A xs.length cap) xs.length (xs.map (Value.int .i64))

section
variable {w w' : World} {lo lo' : Nat} {A : Option Addr} {cap : Nat} {xs : List Int}
theorem OwnI.ex (h : OwnI w lo A cap xs) (he : Ex w w') : OwnI w' lo A cap xs := Own.ex h he
theorem OwnI.wide (h : OwnI w lo A cap xs) (h1 : lo' ≤ lo) : OwnI w lo' A cap xs := Own.wide h h1
theorem OwnI.alloc (h : OwnI w lo A cap xs) (o : Obj) : OwnI (w.alloc o) lo A cap xs := Own.alloc h o
theorem OwnI.drew (h : OwnI w lo A cap xs) : OwnI w.drew lo A cap xs := h
theorem OwnI.setBelow (h : OwnI w lo A cap xs) {p : Addr} (hp : p.block < lo) (u : Value) : OwnI (w.setCell p u) lo A cap xs := Own.setBelow h hp u
theorem OwnI.ints (h : OwnI w lo A cap xs) : Ints w A xs := Own.slc h
theorem OwnI.at (h : OwnI w lo A cap xs) (hp : 0 < xs.length) : ∃ g, A = some ⟨g, 0, none⟩ ∧ lo ≤ g ∧ g < w.heap.size ∧
    (∀ k, k < xs.length → w.cell? ⟨g, k, none⟩ = some (.int .i64 (xs.getD k 0))) ∧ (∀ k, w.frozen? ⟨g, k, none⟩ = false) := by
  obtain ⟨A', cap', hv, hA⟩ := Own.form h
  injection hv with e1 e2 e3
  subst e1; subst e3
  obtain ⟨g, rfl, hg⟩ := hA hp
  refine ⟨g, rfl, hg, (Own.lt h g rfl).2, fun k hk => ?_, fun k => World.ownsRow.frozenAt h k⟩
  rw [World.ownsRow.cellAt h k (by omega)]
  simp [hk]
end

theorem ownI_nil (w : World) (lo : Nat) (hlo : lo ≤ w.heap.size) : OwnI (w.alloc (.cells #[] 3)) lo (some ⟨w.heap.size, 0, none⟩) 0 [] :=
  World.ownsRow_made w #[] 0 hlo (Nat.zero_le _) rfl

/-- What an append onto a row of element type e, from block lo on, leaves: old worlds below lo, and blocks of other element types. -/
structure Keeps (lo : Nat) (e : TypeId) (w w' : World) : Prop where
  ex : ∀ W, Ex W w → W.heap.size ≤ lo → Ex W w'
  box : ∀ b t cs, Box w b t cs → e ≠ t → Box w' b t cs
  size : w.heap.size ≤ w'.heap.size
theorem Keeps.trans {lo : Nat} {e : TypeId} {w w1 w2 : World} (h : Keeps lo e w w1) (k : Keeps lo e w1 w2) : Keeps lo e w w2 :=
  ⟨fun W hW hl => k.ex W (h.ex W hW hl) hl, fun b t cs hb hne => k.box b t cs (h.box b t cs hb hne) hne, Nat.le_trans h.size k.size⟩
theorem Keeps.of_ex {lo : Nat} {e : TypeId} {w w1 : World} (h : Ex w w1) : Keeps lo e w w1 := ⟨fun _ hW _ => hW.trans h, fun _ _ _ hb _ => hb.ex h, h.size⟩
theorem Keeps.of_grown {lo : Nat} {e : TypeId} {size n : Nat} {w w1 w2 : World} {v : Value} {cs : List Value} (h : Ex w w1) (hown : Own w lo e size v n cs) (hg : w1.grownBy w2 v.ownBlock) : Keeps lo e w w2 :=
  ⟨fun _ hW hl => (hW.trans h).grown hg (fun k hk => Nat.le_trans hl (hown.lt k hk).1), fun _ _ _ hb hne => (hb.ex h).grown hg (hown.ne hb hne), Nat.le_trans h.size hg.size⟩

theorem Tryz.infoI : (Tryz.prog.info? 3).map (fun i => (i.zero, i.size, i.bytes)) = some (some (.int .i64 0), 1, 8) := by kernel_rfl

end Go.Proofs.YtklkfkgpjjpaiaaGreatDoor
