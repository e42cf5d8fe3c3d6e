/-
  Proved: what functions compute, part 1. No condition.
-/
import Derived.Test.YtiommfmaleeibaaGreatDoorRows
import Derived.WalkKit
import Derived.WalkSpells
import Derived.WalkLawsBesides
import Derived.Lib.Hide
import Derived.Deep.QuietTactic
import Derived.BigQuiet
import Derived.StillTail
import Derived.Tactics2
import Derived.Laws.StructEq
import Derived.ChangeKeysEq
import Derived.DeepKeys
set_option linter.unusedSimpArgs false
set_option linter.unusedVariables false
set_option maxRecDepth 20000
set_option maxHeartbeats 8000000
namespace Go.Proofs.YtiommfmaleeibaaGreatDoor
section
open Go.RowKit
theorem Kw {p : Prop} (h : p) : Hid p := Lib.hid h
theorem Kv (w : World) (o : Obj) : (w.alloc o).heap.size = w.heap.size + 1 := World.size_alloc w o
theorem Ku.{u} {α : Type u} (l : List α) (i : Nat) (a : α) : l.toArray.setIfInBounds i a = (l.set i a).toArray := List.setIfInBounds_toArray l i a
theorem Kt.{u} {α : Type u} {x a : α} {xs : List α} : (x :: xs).set 0 a = a :: xs := List.set_cons_zero
theorem Ks.{u} {α : Type u} {x a : α} {xs : List α} {i : Nat} : (x :: xs).set (i + 1) a = x :: xs.set i a := List.set_cons_succ
theorem Kr {P : Program} {fn : Func} {R : Ending → World → Prop} {a : Act} {w : World} {v : Value} (hr : (results fn a.tmps).run P w = .ok v w) (hd : a.defers = []) (hR : R (.returned v) w) : bodyPost P fn R .ret a w := bodyPost_ret hr hd hR
theorem Kq (n : Int) (h : -9223372036854775808 ≤ n ∧ n ≤ 9223372036854775807) : IntKind.i64.wrap n = n := IntWalk.i64_in n h

def Ex (w w' : World) : Prop := Below w.heap.size w w'

section
variable {w w1 w2 : World}
theorem Ex.refl (w : World) : Ex w w := Below.refl _ _
theorem Ex.trans (h : Ex w w1) (k : Ex w1 w2) : Ex w w2 := Below.trans h (Below.mono k h.size)
theorem Ex.alloc (h : Ex w w1) (o : Obj) : Ex w (w1.alloc o) := Below.alloc h h.size o
theorem Ex.drew (h : Ex w w1) : Ex w w1.drew := Below.drew h
theorem Ex.drewN (h : Ex w w1) (n : Nat) : Ex w (w1.drewN n) := below_drewN h n
theorem Ex.setCell (h : Ex w w1) {p : Addr} (hp : w.heap.size ≤ p.block) (u : Value) : Ex w (w1.setCell p u) := Below.setCell h hp u
theorem Ex.grown (h : Ex w w1) {row : Option Nat} (hg : w1.grownBy w2 row) (hr : ∀ k, row = some k → w.heap.size ≤ k) : Ex w w2 := Below.grown h hg h.size hr
theorem Ex.size (h : Ex w w1) : w.heap.size ≤ w1.heap.size := Below.size h
theorem Ex.of (h : Below w.heap.size w w1) : Ex w w1 := h
theorem Ex.out (h : Ex w w1) : Below w.heap.size w w1 := h
theorem Ex.block (h : Ex w w1) {b : Nat} {o : Obj} (hb : w.heap[b]? = some o) : w1.heap[b]? = some o := by
 have hlt : b < w.heap.size := by
  rcases Nat.lt_or_ge b w.heap.size with h | h
  ·exact h
  ·rw [Array.getElem?_eq_none h] at hb; cases hb
 exact (Below.block h b hlt).trans hb
theorem Ex.get (h : Ex w w1) {p : Addr} {v : Value} (hc : w.cell? p = some v) : w1.cell? p = some v :=
 (Below.cell h (World.block_lt_of_cell? w p hc)).trans hc
end

def Box (w : World) (b : Nat) (t : TypeId) (cs : Array Value) : Prop := w.heap[b]? = some (.cells cs t (0, 0))

section
variable {w w1 : World} {b : Nat} {t : TypeId} {cs : Array Value}
theorem Box.lt (h : Box w b t cs) : b < w.heap.size := by
 unfold Box at h
 rcases Nat.lt_or_ge b w.heap.size with hlt | hge
 ·exact hlt
 ·rw [Array.getElem?_eq_none hge] at h; cases h
theorem Box.cell (h : Box w b t cs) : ∀ i, w.cell? ⟨b, i, none⟩ = cs[i]? := fun i => cell_of_row w b i cs t (0, 0) h
theorem Box.frozen (h : Box w b t cs) : ∀ i, w.frozen? ⟨b, i, none⟩ = false := fun i => by
 unfold Box at h
 simp [World.frozen?, h]
theorem Box.new (w : World) (cs : Array Value) (t : TypeId) : Box (w.alloc (.cells cs t)) w.heap.size t cs := heap_alloc_new w _
theorem Box.ex (h : Box w b t cs) (he : Ex w w1) : Box w1 b t cs := he.block h
theorem Box.alloc (h : Box w b t cs) (o : Obj) : Box (w.alloc o) b t cs := h.ex ((Ex.refl _).alloc o)
theorem Box.drew (h : Box w b t cs) : Box w.drew b t cs := h
theorem Box.set_ (h : Box w b t cs) (i : Nat) (u : Value) : Box (w.setCell ⟨b, i, none⟩ u) b t (cs.setIfInBounds i u) := by
 unfold Box at h ⊢
 simp [World.setCell, Array.getElem?_modify, h]
theorem Box.far (h : Box w b t cs) {p : Addr} (hp : b ≠ p.block) (u : Value) : Box (w.setCell p u) b t cs := (Below.heap_setCell w p u b hp).trans h
theorem Box.grown {row : Option Nat} (h : Box w b t cs) (hg : w.grownBy w1 row) (hne : some b ≠ row) : Box w1 b t cs := (hg.block b h.lt hne).trans h
end

def Slc (w : World) (A : Option Addr) (cs : List Value) : Prop :=
 0 < cs.length → ∃ b off, A = some ⟨b, off, none⟩ ∧ ∀ k, k < cs.length → w.cell? ⟨b, off + k, none⟩ = cs[k]?

section
variable {w w1 : World} {A : Option Addr} {cs : List Value}
theorem Slc.ex (h : Slc w A cs) (he : Ex w w1) : Slc w1 A cs := by
 intro hp
 obtain ⟨b, off, rfl, hc⟩ := h hp
 refine ⟨b, off, rfl, fun k hk => ?_⟩
 have hk' := hc k hk
 rw [List.getElem?_eq_getElem hk] at hk' ⊢
 exact he.get hk'
theorem Slc.alloc (h : Slc w A cs) (o : Obj) : Slc (w.alloc o) A cs := h.ex ((Ex.refl _).alloc o)
theorem Slc.drew (h : Slc w A cs) : Slc w.drew A cs := h
theorem Slc.nil (w : World) (A : Option Addr) : Slc w A [] := fun h => absurd h (by simp)
end

def Ml (w : World) (A : Option Addr) (xs : List Int) : Prop := Slc w A (xs.map (Value.int .i64))

section
variable {w w1 : World} {A : Option Addr} {xs : List Int}
theorem Ml.ex (h : Ml w A xs) (he : Ex w w1) : Ml w1 A xs := Slc.ex h he
theorem Ml.alloc (h : Ml w A xs) (o : Obj) : Ml (w.alloc o) A xs := Slc.alloc h o
theorem Ml.drew (h : Ml w A xs) : Ml w.drew A xs := h
theorem Ml.at (h : Ml w A xs) (hp : 0 < xs.length) : ∃ b off, A = some ⟨b, off, none⟩ ∧ ∀ k, k < xs.length → w.cell? ⟨b, off + k, none⟩ = some (.int .i64 (xs.getD k 0)) := by
 obtain ⟨b, off, rfl, hc⟩ := h (by simpa using hp)
 exact ⟨b, off, rfl, fun k hk => by rw [hc k (by simpa using hk)]; simp [hk]⟩
end

theorem Ya {a b : Bool} (h : a = b) : Ending.returned (.bool a) = .returned (.bool b) := by rw [h]
theorem ret_int {k : IntKind} {a b : Int} (h : a = b) : Ending.returned (.int k a) = .returned (.int k b) := by rw [h]

def Own (w : World) (lo : Nat) (e : TypeId) (size : Nat) (v : Value) (n : Nat) (cs : List Value) : Prop := w.ownsRow lo e size v n cs

section
variable {w w' : World} {lo lo' : Nat} {e : TypeId} {size n : Nat} {v : Value} {cs : List Value}
theorem Own.lt (h : Own w lo e size v n cs) : ∀ g, v.ownBlock = some g → lo ≤ g ∧ g < w.heap.size := World.ownsRow.lt h
theorem Own.ex (h : Own w lo e size v n cs) (he : Ex w w') : Own w' lo e size v n cs := by
 refine ⟨h.1, ?_⟩
 rcases h.2 with h0 | ⟨g, cap, cur, rfl, hg, hh, hr⟩
 ·exact .inl h0
 ·exact .inr ⟨g, cap, cur, rfl, hg, he.block hh, hr⟩
theorem Own.wide (h : Own w lo e size v n cs) (h1 : lo' ≤ lo) : Own w lo' e size v n cs := by
 refine ⟨h.1, ?_⟩
 rcases h.2 with h0 | ⟨g, cap, cur, rfl, hg, hh, hr⟩
 ·exact .inl h0
 ·exact .inr ⟨g, cap, cur, rfl, Nat.le_trans h1 hg, hh, hr⟩
theorem Own.form (h : Own w lo e size v n cs) : ∃ A cap, v = .slice A n cap ∧ (0 < n → ∃ g, A = some ⟨g, 0, none⟩ ∧ lo ≤ g) := by
 rcases h.2 with ⟨rfl, rfl⟩ | ⟨g, cap, cur, rfl, hg, _⟩
 ·exact ⟨none, 0, rfl, fun h => absurd h (by omega)⟩
 ·exact ⟨_, cap, rfl, fun _ => ⟨g, rfl, hg⟩⟩
theorem Own.drew (h : Own w lo e size v n cs) : Own w.drew lo e size v n cs := h
theorem Own.alloc (h : Own w lo e size v n cs) (o : Obj) : Own (w.alloc o) lo e size v n cs := h.ex ((Ex.refl _).alloc o)
theorem Own.setCell (h : Own w lo e size v n cs) {p : Addr} (hp : ∀ g, v.ownBlock = some g → g ≠ p.block) (u : Value) : Own (w.setCell p u) lo e size v n cs := by
 refine ⟨h.1, ?_⟩
 rcases h.2 with h0 | ⟨g, cap, cur, rfl, hg, hh, hr⟩
 ·exact .inl h0
 ·exact .inr ⟨g, cap, cur, rfl, hg, (Below.heap_setCell w p u g (hp g rfl)).trans hh, hr⟩
theorem Own.setBelow (h : Own w lo e size v n cs) {p : Addr} (hp : p.block < lo) (u : Value) : Own (w.setCell p u) lo e size v n cs :=
 h.setCell (fun g hg e => by have := (h.lt g hg).1; omega) u
theorem Own.ne {b : Nat} {t : TypeId} {xs : Array Value} (h : Own w lo e size v n cs) (hb : Box w b t xs) (hne : e ≠ t) : some b ≠ v.ownBlock := by
 rcases h.2 with ⟨rfl, _⟩ | ⟨g, cap, cur, rfl, _, hh, _⟩
 ·simp [Value.ownBlock]
 ·intro he
  have : b = g := by simpa [Value.ownBlock] using he
  subst this
  unfold Box at hb
  rw [hh] at hb
  injection hb with hb
  injection hb with _ ht
  exact hne ht
theorem Own.slc {A : Option Addr} {n' cap : Nat} (h : Own w lo e size (.slice A n' cap) n cs) : Slc w A cs := by
 intro hp
 rcases h.2 with ⟨_, rfl⟩ | ⟨g, cap', cur, hv, hg, hh, h1, h2, h3, h4⟩
 ·have := h.1; simp at this; subst this; simp at hp
 ·injection hv with e1 e2 e3
  subst e1; subst e2; subst e3
  refine ⟨g, 0, rfl, fun k hk => ?_⟩
  rw [Nat.zero_add]
  exact World.ownsRow.cellAt h k (by have := h.1; omega)
end

def Vt (w : World) (lo : Nat) (A : Option Addr) (cap : Nat) (xs : List Int) : Prop :=
 Own w lo 3 1 (.slice A xs.length cap) xs.length (xs.map (Value.int .i64))

section
variable {w w' : World} {lo lo' : Nat} {A : Option Addr} {cap : Nat} {xs : List Int}
theorem Vt.ex (h : Vt w lo A cap xs) (he : Ex w w') : Vt w' lo A cap xs := Own.ex h he
theorem Vt.wide (h : Vt w lo A cap xs) (h1 : lo' ≤ lo) : Vt w lo' A cap xs := Own.wide h h1
theorem Vt.alloc (h : Vt w lo A cap xs) (o : Obj) : Vt (w.alloc o) lo A cap xs := Own.alloc h o
theorem Vt.drew (h : Vt w lo A cap xs) : Vt w.drew lo A cap xs := h
theorem Vt.setBelow (h : Vt w lo A cap xs) {p : Addr} (hp : p.block < lo) (u : Value) : Vt (w.setCell p u) lo A cap xs := Own.setBelow h hp u
theorem Vt.at (h : Vt w lo A cap xs) (hp : 0 < xs.length) : ∃ g, A = some ⟨g, 0, none⟩ ∧ lo ≤ g ∧ g < w.heap.size ∧
  (∀ k, k < xs.length → w.cell? ⟨g, k, none⟩ = some (.int .i64 (xs.getD k 0))) ∧ (∀ k, w.frozen? ⟨g, k, none⟩ = false) := by
 obtain ⟨A', cap', hv, hA⟩ := Own.form h
 injection hv with e1 e2 e3
 subst e1; subst e3
 obtain ⟨g, rfl, hg⟩ := hA hp
 refine ⟨g, rfl, hg, (Own.lt h g rfl).2, fun k hk => ?_, fun k => World.ownsRow.frozenAt h k⟩
 rw [World.ownsRow.cellAt h k (by omega)]
 simp [hk]
end

structure Ty (lo : Nat) (e : TypeId) (w w' : World) : Prop where
 ex : ∀ W, Ex W w → W.heap.size ≤ lo → Ex W w'
 box : ∀ b t cs, Box w b t cs → e ≠ t → Box w' b t cs
 size : w.heap.size ≤ w'.heap.size
theorem Ty.trans {lo : Nat} {e : TypeId} {w w1 w2 : World} (h : Ty lo e w w1) (k : Ty lo e w1 w2) : Ty lo e w w2 :=
 ⟨fun W hW hl => k.ex W (h.ex W hW hl) hl, fun b t cs hb hne => k.box b t cs (h.box b t cs hb hne) hne, Nat.le_trans h.size k.size⟩
theorem Ty.of_ex {lo : Nat} {e : TypeId} {w w1 : World} (h : Ex w w1) : Ty lo e w w1 := ⟨fun _ hW _ => hW.trans h, fun _ _ _ hb _ => hb.ex h, h.size⟩
theorem Ty.of_grown {lo : Nat} {e : TypeId} {size n : Nat} {w w1 w2 : World} {v : Value} {cs : List Value} (h : Ex w w1) (hown : Own w lo e size v n cs) (hg : w1.grownBy w2 v.ownBlock) : Ty lo e w w2 :=
 ⟨fun _ hW hl => (hW.trans h).grown hg (fun k hk => Nat.le_trans hl (hown.lt k hk).1), fun _ _ _ hb hne => (hb.ex h).grown hg (hown.ne hb hne), Nat.le_trans h.size hg.size⟩

theorem wp_appI {o : Oper} {a : Act} {K : Act → World → Prop} {Q : Exit → Act → World → Prop} {w : World} (s x : Operand)
  (ho : o.op = .call { callee := .builtin .append, args := #[s, x], argTypes := #[108, 108] })
  (lo : Nat) (A : Option Addr) (cap : Nat) (xs : List Int) (n : Int) (hs : a.eval s = .slice A xs.length cap) (hown : Vt w lo A cap xs) (g : Nat) (W : World)
  (hx : a.eval x = .slice (some ⟨g, 0, none⟩) 1 1) (hW : Ex w W) (hbox : Box W g 3 #[.int .i64 n]) (hlen : xs.length ≤ 1048576) (hlo : lo ≤ w.heap.size)
  (h : ∀ A' cap' w', Vt w' lo A' cap' (xs ++ [n]) → Ty lo 3 w w' → K (a.put o.dst (.slice A' (xs.length + 1) cap')) w') : o.wp Tryz.prog a W K Q := by
 obtain ⟨i0, hi, hz0, hz1, hz2⟩ := info_parts (show (Tryz.prog.info? 3).map (fun i => (i.zero, i.size, i.bytes)) = some (some (.int .i64 0), 1, 8) by kernel_rfl)
 refine wp_append_own W s x 108 ho lo 3 i0 (.int .i64 0) 1 8 Tryz.underlying108 hi hz0 hz1 hz2 rfl (by omega) _ xs.length _ hs (hown.ex hW) ⟨g, 0, none⟩ 1 1 [.int .i64 n] hx rfl ?_ ?_ (by unfold maxLen; omega) (by omega) (Nat.le_trans hlo hW.size) ?_
 ·intro j u hj
  match j, hj with
  | 0, hj => simp at hj; subst hj; simpa [Addr.add] using hbox.cell 0
 ·intro u hu; simp at hu; subst hu; rfl
 ·intro v' w' hown' hg _
  obtain ⟨A', cap', rfl, -⟩ := Own.form hown'
  refine h A' cap' w' ?_ (Ty.of_grown hW hown hg)
  unfold Vt Own
  simpa using hown'
theorem Vf {ops : Array Oper} {rest : List Oper} {o : Oper} {a : Act} {Q : Exit → Act → World → Prop} (hgd : o.guard = none) (s x : Operand) (w : World)
  (ho : o.op = .call { callee := .builtin .append, args := #[s, x], argTypes := #[108, 108] })
  (lo : Nat) (A : Option Addr) (cap : Nat) (xs : List Int) (n : Int) (hs : a.eval s = .slice A xs.length cap) (hown : Vt w lo A cap xs)
  (hx : a.eval x = .slice (some ⟨w.heap.size, 0, none⟩) 1 1) (hlen : xs.length ≤ 1048576) (hlo : lo ≤ w.heap.size)
  (h : ∀ A' cap' w', Vt w' lo A' cap' (xs ++ [n]) → Ty lo 3 w w' → wpList Tryz.prog ops Q rest (a.put o.dst (.slice A' (xs.length + 1) cap')) w') : wpList Tryz.prog ops Q (o :: rest) a (w.alloc (.cells #[.int .i64 n] 3)) :=
 wpList_plain hgd fun _ hK => wp_appI s x ho lo A cap xs n hs hown _ _ hx ((Ex.refl w).alloc _) (Box.new w _ _) hlen hlo fun A' cap' w' h1 h2 => hK _ _ (h A' cap' w' h1 h2)
end
section
open Go.RowKit

def Yr (w : World) : List (Nat × TypeId × Array Value) → Prop
 | [] => True
 | x :: L => Box w x.1 x.2.1 x.2.2 ∧ Yr w L
theorem Yr.ex {w w1 : World} (he : Ex w w1) : ∀ {L : List (Nat × TypeId × Array Value)}, Yr w L → Yr w1 L
 | [], _ => trivial
 | _ :: _, h => ⟨h.1.ex he, Yr.ex he h.2⟩
def Nj (w : World) : List (Nat × TypeId × Array Value) → Prop
 | [] => True
 | x :: L => (∀ i, w.cell? ⟨x.1, i, none⟩ = x.2.2[i]?) ∧ (∀ i, w.frozen? ⟨x.1, i, none⟩ = false) ∧ x.1 < w.heap.size ∧ Nj w L
theorem Yr.reads {w : World} : ∀ {L : List (Nat × TypeId × Array Value)}, Yr w L → Nj w L
 | [], _ => trivial
 | _ :: _, h => ⟨h.1.cell, h.1.frozen, h.1.lt, Yr.reads h.2⟩
theorem Zz (w : World) (b : Nat) (t : TypeId) (cs : Array Value) (L : List (Nat × TypeId × Array Value)) :
  Nj w ((b, t, cs) :: L) = ((∀ i, w.cell? ⟨b, i, none⟩ = cs[i]?) ∧ (∀ i, w.frozen? ⟨b, i, none⟩ = false) ∧ b < w.heap.size ∧ Nj w L) := rfl
theorem Zy (w : World) : Nj w [] = True := rfl

class Zw (W w : World) (L : outParam (List (Nat × TypeId × Array Value))) : Prop where
 ex : Ex W w
 boxes : Yr w L
theorem Zw.refl (w : World) : Zw w w [] := ⟨Ex.refl w, trivial⟩
instance Zw.alloc {W w : World} {L : List (Nat × TypeId × Array Value)} {cs : Array Value} {t : TypeId} [h : Zw W w L] : Zw W (w.alloc (.cells cs t)) ((w.heap.size, t, cs) :: L) :=
 ⟨h.ex.alloc _, Box.new w cs t, Yr.ex ((Ex.refl w).alloc _) h.boxes⟩
instance Zw.drew {W w : World} {L : List (Nat × TypeId × Array Value)} [h : Zw W w L] : Zw W w.drew L := ⟨h.ex.drew, Yr.ex (Ex.refl w).drew h.boxes⟩
instance Zw.drewN {W w : World} {n : Nat} {L : List (Nat × TypeId × Array Value)} [h : Zw W w L] : Zw W (w.drewN n) L := ⟨h.ex.drewN n, Yr.ex ((Ex.refl w).drewN n) h.boxes⟩
theorem Zw.after {W w w1 : World} {L : List (Nat × TypeId × Array Value)} [h : Zw W w L] (hx : Ex w w1) : Zw W w1 L := ⟨h.ex.trans hx, Yr.ex hx h.boxes⟩
theorem Zw.reads {W w : World} {L : List (Nat × TypeId × Array Value)} (h : Zw W w L) : Nj w L := h.boxes.reads
theorem Zi {a b : Nat} (h : a < b) : (a = b) = False := eq_false (Nat.ne_of_lt h)
theorem Zh {a b : Nat} (h : b < a) : (a = b) = False := eq_false (Nat.ne_of_gt h)
end
section
open Go.RowKit

class Yc (w : World) : Prop where
 triv : True
 zero : ∀ i, w.cell? ⟨1, i, none⟩ = (#[.int .i64 0, .int .i64 0, .int .i64 1] : Array Value)[i]?
 one : ∀ i, w.cell? ⟨0, i, none⟩ = (#[.int .i64 1, .int .i64 0, .int .i64 1] : Array Value)[i]?
 turns : ∀ i, w.cell? ⟨2, i, none⟩ = (#[.int .i64 1, .int .i64 0, .int .i64 1, .int .i64 0, .int .i64 1, .int .i64 1, .int .i64 (-1), .int .i64 0, .int .i64 1, .int .i64 0, .int .i64 (-1), .int .i64 1] : Array Value)[i]?
 same : ∀ i, w.cell? ⟨3, i, none⟩ = (#[.int .i64 1, .int .i64 0, .int .i64 1, .int .i64 0, .int .i64 0, .int .i64 1, .int .i64 0, .int .i64 0, .int .i64 1, .int .i64 1, .int .i64 0, .int .i64 1] : Array Value)[i]?
theorem Pq {w w1 : World} (hx : Ex w w1) {b : Nat} {cs : Array Value} (h0 : 0 < cs.size) (h : ∀ i, w.cell? ⟨b, i, none⟩ = cs[i]?) : ∀ i, w1.cell? ⟨b, i, none⟩ = cs[i]? := by
 intro i
 have hb : b < w.heap.size := by
  have h2 := h 0
  rw [Array.getElem?_eq_getElem h0] at h2
  exact World.block_lt_of_cell? w ⟨b, 0, none⟩ h2
 exact (Below.cell (p := ⟨b, i, none⟩) hx hb).trans (h i)
theorem Yc.ex {w w1 : World} (h : Yc w) (hx : Ex w w1) : Yc w1 where
 triv := trivial
 zero := Pq hx (by decide) h.zero
 one := Pq hx (by decide) h.one
 turns := Pq hx (by decide) h.turns
 same := Pq hx (by decide) h.same
instance Yc.alloc {w : World} {o : Obj} [h : Yc w] : Yc (w.alloc o) := h.ex ((Ex.refl w).alloc o)
instance Yc.drew {w : World} [h : Yc w] : Yc w.drew := h.ex (Ex.refl w).drew
instance Yc.drewN {w : World} {n : Nat} [h : Yc w] : Yc (w.drewN n) := h.ex ((Ex.refl w).drewN n)
theorem Yc.after {w w1 : World} [h : Yc w] (hx : Ex w w1) : Yc w1 := h.ex hx
theorem Mt {w : World} {b : Nat} {cs : Array Value} (h : ∀ i, w.cell? ⟨b, i, none⟩ = cs[i]?) (h0 : 0 < cs.size) : b < w.heap.size := by
 have h2 := h 0
 rw [Array.getElem?_eq_getElem h0] at h2
 exact World.block_lt_of_cell? w ⟨b, 0, none⟩ h2
theorem Yc.reads {w : World} (h : Yc w) : True
 ∧ (∀ i, w.cell? ⟨1, i, none⟩ = (#[.int .i64 0, .int .i64 0, .int .i64 1] : Array Value)[i]?)
 ∧ (1 < w.heap.size)
 ∧ (∀ i, w.cell? ⟨0, i, none⟩ = (#[.int .i64 1, .int .i64 0, .int .i64 1] : Array Value)[i]?)
 ∧ (0 < w.heap.size)
 ∧ (∀ i, w.cell? ⟨2, i, none⟩ = (#[.int .i64 1, .int .i64 0, .int .i64 1, .int .i64 0, .int .i64 1, .int .i64 1, .int .i64 (-1), .int .i64 0, .int .i64 1, .int .i64 0, .int .i64 (-1), .int .i64 1] : Array Value)[i]?)
 ∧ (2 < w.heap.size)
 ∧ (∀ i, w.cell? ⟨3, i, none⟩ = (#[.int .i64 1, .int .i64 0, .int .i64 1, .int .i64 0, .int .i64 0, .int .i64 1, .int .i64 0, .int .i64 0, .int .i64 1, .int .i64 1, .int .i64 0, .int .i64 1] : Array Value)[i]?)
 ∧ (3 < w.heap.size)
 := ⟨trivial
 , h.zero
 , Mt h.zero (by decide)
 , h.one
 , Mt h.one (by decide)
 , h.turns
 , Mt h.turns (by decide)
 , h.same
 , Mt h.same (by decide)
 ⟩
end
section
section
variable {P : Program} {ops : Array Oper} {md : Region.Mode} {σ : Type}

def Xl (P : Program) (G : Value → World → Prop) : Result Next → Prop
 | .ok (.value u) w => G u w
 | .ok .skip w => G undef w
 | .ok (.enter f args) w => Calls P f args w fun e w' => ∃ u, e = .returned u ∧ G u w'
 | .ok (.row row args) w => Rows P row args w G
 | _ => False
theorem Xl.mono {G G' : Value → World → Prop} (h : ∀ u w, G u w → G' u w) {r : Result Next} (hh : Xl P G r) : Xl P G' r := by
 cases r with
 | ok n w' =>
  cases n <;> simp only [Xl] at hh ⊢
  case value u => exact h _ _ hh
  case skip => exact h _ _ hh
  case enter f args => exact hh.mono fun _ _ ⟨u, he, hg⟩ => ⟨u, he, h _ _ hg⟩
  case row row args => exact Rows.mono hh fun _ _ hg => h _ _ hg
 | halt x w' => simp only [Xl] at hh
theorem Xl.wp {o : Oper} {a : Act} {w : World} {G : Value → World → Prop} {K : Act → World → Prop} {Q : Exit → Act → World → Prop} (h : Xl P G ((execOp a.eval o).run P w))
  (hk : ∀ u w', G u w' → K (a.put o.dst u) w') : o.wp P a w K Q := by
 unfold Oper.wp
 generalize (execOp a.eval o).run P w = r at h
 cases r with
 | ok n w' =>
  cases n <;> simp only [Xl] at h <;> simp only [Oper.upon]
  case value u => exact hk _ _ h
  case skip => exact hk _ _ h
  case enter f args => exact h.mono fun e w'' ⟨u, he, hg⟩ => by subst he; exact hk _ _ hg
  case row row args => exact Rows.mono h fun _ _ hg => hk _ _ hg
 | halt x w' => simp only [Xl] at h

def Det (P : Program) (ops : Array Oper) (B : Bool → World → Prop) (St : World → World → Prop) (o : Oper) (v : Value) (d : Bool) (a : Act) : Prop :=
 (Region.wanted o (yielded ops a.tmps) = true ∧ ∀ b w, B b w → Xl P (fun u w' => a.put o.dst u = a.put o.dst v ∧ St w w' ∧ B (b || d) w') ((execOp a.eval o).run P w)) ∨
 (Region.wanted o (yielded ops a.tmps) = false ∧ v = undef ∧ d = false)
def Ng (P : Program) (ops : Array Oper) (B : Bool → World → Prop) (X : σ → World → Prop) (i : Nat) (K : Act → σ → Bool → Prop) (a : Act) (s : σ) (e : Bool) : Prop :=
 match ops[i]? with
 | none => K a s e
 | some o => if Region.wanted o (yielded ops a.tmps) = true then
   ∃ (d : Bool) (R : Value → σ → Prop), (∀ b w, B b w → X s w → Xl P (fun u w' => B (b || d) w' ∧ ∃ s', R u s' ∧ X s' w') ((execOp a.eval o).run P w)) ∧ ∀ u s', R u s' → K (a.put o.dst u) s' (e || d)
  else K (a.put o.dst undef) s e
def wpT (P : Program) (md : Region.Mode) (ops : Array Oper) (B : Bool → World → Prop) (X : σ → World → Prop) (n : Nat) (L : Array Bool → Act → σ → Bool → Prop) : Nat → Array Bool → Act → σ → Bool → Prop
 | 0, listed, a, s, e => L listed a s e
 | f + 1, listed, a, s, e => Region.ready md ops listed ≠ [] ∧ ∀ i ∈ Region.ready md ops listed, i < n ∧ Ng P ops B X i (wpT P md ops B X n L f (listed.setIfInBounds i true)) a s e

variable {B : Bool → World → Prop} {St : World → World → Prop} {X : σ → World → Prop}
theorem wpOp_of_rel {i : Nat} {K : Act → σ → Bool → Prop} {K' : Act → World → Prop} {Q : Exit → Act → World → Prop} {a : Act} {s : σ} {e : Bool} {w : World} (hb : B e w) (hx : X s w)
  (h : ∀ a' s' e' w', B e' w' → X s' w' → K a' s' e' → K' a' w') (hh : Ng P ops B X i K a s e) : wpOp P ops Q i K' a w := by
 unfold Ng at hh
 unfold wpOp
 split
 ·rename_i h0; simp only [h0] at hh; exact h _ _ _ _ hb hx hh
 ·rename_i o ho
  simp only [ho] at hh
  split
  ·rename_i hw
   simp only [hw, if_true] at hh
   obtain ⟨d, R, h1, h2⟩ := hh
   refine .inl ((h1 e w hb hx).wp ?_)
   rintro u w' ⟨hb', s', hR, hx'⟩
   exact h _ _ _ _ hb' hx' (h2 u s' hR)
  ·rename_i hw
   simp only [hw] at hh
   exact h _ _ _ _ hb hx hh
theorem Sr {n g : Nat} {L : Array Bool → Act → σ → Bool → Prop} {Q' : Exit → Act → World → Prop} (hL : ∀ listed a s e w, L listed a s e → B e w → X s w → wpAny P md ops Q' g listed a w) :
  ∀ (f : Nat) (listed : Array Bool) (a : Act) (s : σ) (e : Bool) (w : World), B e w → X s w → wpT P md ops B X n L f listed a s e → wpAny P md ops Q' (f + g) listed a w
 | 0, listed, a, s, e, w, hb, hx, h => by rw [Nat.zero_add]; exact hL _ _ _ _ _ h hb hx
 | f + 1, listed, a, s, e, w, hb, hx, h => by
  rw [show f + 1 + g = (f + g) + 1 by omega]
  exact ⟨fun h0 => absurd h0 h.1, fun i hi => wpOp_of_rel hb hx (fun a' s' e' w' hb' hx' hk => Sr hL f _ a' s' e' w' hb' hx' hk) (h.2 i hi).2⟩
theorem Det.put {o : Oper} {v u : Value} {d : Bool} {a : Act} {t : Option Tmp} (hs : ∀ cs b, o.op ≠ .select cs b) (hl : ∀ d, t = some d → d ∉ o.looksAt ops) (hd : ∀ d, o.dst = some d → t ≠ some d) (hy : Det P ops B St o v d a) :
  Det P ops B St o v d (a.put t u) := by
 unfold Det at *
 rw [execOp_put o hs a t u hl, wanted_put o a t u hl]
 rcases hy with ⟨h1, h2⟩ | h1
 ·refine .inl ⟨h1, fun b w hb => (h2 b w hb).mono ?_⟩
  rintro u' w' ⟨he, h3⟩
  exact ⟨by rw [← Act.put_comm a u' u hd, ← Act.put_comm a v u hd, he], h3⟩
 ·exact .inr h1
theorem Det.rel (hX : ∀ s w w', St w w' → X s w → X s w') {i : Nat} {o : Oper} {v : Value} {d : Bool} {a : Act} {s : σ} {e : Bool} {K : Act → σ → Bool → Prop} (hi : ops[i]? = some o) (hy : Det P ops B St o v d a) (h : K (a.put o.dst v) s (e || d)) :
  Ng P ops B X i K a s e := by
 unfold Ng
 simp only [hi]
 rcases hy with ⟨hw, hv⟩ | ⟨hw, rfl, rfl⟩
 ·simp only [hw, if_true]
  refine ⟨d, fun u s' => a.put o.dst u = a.put o.dst v ∧ s' = s, fun b w hb hx => (hv b w hb).mono ?_, ?_⟩
  ·rintro u w' ⟨he, h1, h2⟩
   exact ⟨h2, s, ⟨he, rfl⟩, hX _ _ _ h1 hx⟩
  ·rintro u s' ⟨he, rfl⟩
   rw [he]
   exact h
 ·simp only [hw, Bool.false_eq_true, if_false]
  rwa [Bool.or_false] at h
theorem Ol (hX : ∀ s w w', St w w' → X s w → X s w') {n i : Nat} {oi : Oper} {v : Value} {d : Bool} {L : Array Bool → Act → σ → Bool → Prop} (hi : ops[i]? = some oi) (hsel : ∀ (j : Nat) (o : Oper) cs b, ops[j]? = some o → o.op ≠ .select cs b)
  (hin : i < n) (hT : ∀ listed, HeadInv md ops n listed → listed.getD i true = false → ∀ j ∈ Region.ready md ops listed, j < n) (hdone : ∀ listed a s e, L listed a s e → ∀ j ∈ Region.ready md ops listed, n ≤ j) :
  ∀ (f : Nat) (listed : Array Bool) (a : Act) (s : σ) (e : Bool), HeadInv md ops n listed →
   (∀ j oj, ops[j]? = some oj → j ≠ i → listed.getD j true = false → (∀ e ∈ oj.after, Region.binds md e = true → e.on ≠ i) → oi.apart ops oj = true) →
   i ∈ Region.ready md ops listed → Det P ops B St oi v d a →
   wpT P md ops B X n L f (listed.setIfInBounds i true) (a.put oi.dst v) s (e || d) → wpT P md ops B X n L (f + 1) listed a s e := by
 intro f
 induction f with
 | zero =>
  intro listed a s e inv _ hr hy H
  have hun := (mem_ready.1 hr).1
  refine ⟨fun h => (by rw [h] at hr; cases hr), fun j hj => ?_⟩
  have hjn := hT listed inv hun j hj
  refine ⟨hjn, ?_⟩
  by_cases hji : j = i
  ·subst hji; exact hy.rel hX hi H
  ·have := hdone _ _ _ _ H j (ready_mono hj hji)
   omega
 | succ f ih =>
  intro listed a s e inv hfree hr hy H
  have hun := (mem_ready.1 hr).1
  refine ⟨fun h => (by rw [h] at hr; cases hr), fun j hj => ?_⟩
  have hjn := hT listed inv hun j hj
  refine ⟨hjn, ?_⟩
  by_cases hji : j = i
  ·subst hji; exact hy.rel hX hi H
  have h1 := (H.2 j (ready_mono hj hji)).2
  obtain ⟨hjun, oj, hoj, hall⟩ := mem_ready.1 hj
  have hnot : ∀ g ∈ oj.after, Region.binds md g = true → g.on ≠ i := fun g hg hb heq => by
   have h2 := hall g hg hb
   rw [heq, getD_both hun] at h2
   cases h2
  obtain ⟨p1, p2, p3⟩ := Oper.apart_spec (hfree j oj hoj hji hjun hnot)
  have hfree' : ∀ k ok, ops[k]? = some ok → k ≠ i → (listed.setIfInBounds j true).getD k true = false → (∀ g ∈ ok.after, Region.binds md g = true → g.on ≠ i) → oi.apart ops ok = true := fun k ok hk hki hun hno => by
   refine hfree k ok hk hki ?_ hno
   by_cases hjk : j = k
   ·subst hjk; exact hjun
   ·rw [getD_set_ne true hjk] at hun; exact hun
  have next : ∀ (u : Value) (s' : σ) (e' : Bool), wpT P md ops B X n L f ((listed.setIfInBounds i true).setIfInBounds j true) ((a.put oi.dst v).put oj.dst u) s' (e' || d) →
    wpT P md ops B X n L (f + 1) (listed.setIfInBounds j true) (a.put oj.dst u) s' e' := fun u s' e' hh => by
   refine ih _ _ s' e' (inv.set hj hjn) hfree' (ready_mono hr (Ne.symm hji)) (hy.put (fun cs b => hsel i oi cs b hi) p3 p2) ?_
   rw [Array.setIfInBounds_comm _ _ hji, ← Act.put_comm a v u p2]
   exact hh
  unfold Ng at h1 ⊢
  simp only [hoj] at h1 ⊢
  rw [wanted_put oj a oi.dst v p1] at h1
  split
  ·rename_i hw
   simp only [hw, if_true] at h1
   obtain ⟨dj, R, h2, h3⟩ := h1
   rw [execOp_put oj (fun cs b => hsel j oj cs b hoj) a oi.dst v p1] at h2
   refine ⟨dj, R, h2, fun u s' hR => next u s' _ ?_⟩
   have := h3 u s' hR
   rwa [Bool.or_assoc, Bool.or_comm d dj, ← Bool.or_assoc] at this
  ·rename_i hw
   simp only [hw] at h1
   exact next _ s e h1

def Xb (P : Program) (ops : Array Oper) (B : Bool → World → Prop) (St : World → World → Prop) (Q : List Oper → Act → Bool → Prop) : Nat → List Oper → Act → Bool → Prop
 | 0, l, a, e => Q l a e
 | _ + 1, [], _, _ => False
 | n + 1, o :: rest, a, e => ∃ v d, Det P ops B St o v d a ∧ Xb P ops B St Q n rest (a.put o.dst v) (e || d)
section
variable {Q : List Oper → Act → Bool → Prop} {o : Oper} {n : Nat} {rest : List Oper} {a a' : Act} {e : Bool}
theorem Zq {l : List Oper} (h : Q l a e) : Xb P ops B St Q 0 l a e := h
theorem Xs (hw : Region.wanted o (yielded ops a.tmps) = false) (ha : a.put o.dst undef = a') (h : Xb P ops B St Q n rest a' e) : Xb P ops B St Q (n + 1) (o :: rest) a e :=
 ⟨undef, false, .inr ⟨hw, rfl, rfl⟩, by rw [ha, Bool.or_false]; exact h⟩
theorem put_defers_eq (a : Act) (t : Option Tmp) (v : Value) : (a.put t v).defers = a.defers := by cases t <;> rfl
theorem Xl.of_wp {w : World} {G : Act → World → Prop} (h : o.wp P a w (fun a2 w' => a2 = a' ∧ G a2 w') (fun _ _ _ => False)) (v : Value) (ha : a.put o.dst v = a') :
  Xl P (fun u w' => a.put o.dst u = a.put o.dst v ∧ G a' w') ((execOp a.eval o).run P w) := by
 unfold Oper.wp at h
 generalize (execOp a.eval o).run P w = r at h ⊢
 cases r with
 | ok n w' =>
  cases n <;> simp only [Oper.upon] at h <;> simp only [Xl]
  case value u => exact ⟨by rw [ha]; exact h.1, by rw [← h.1]; exact h.2⟩
  case skip => exact ⟨by rw [ha]; exact h.1, by rw [← h.1]; exact h.2⟩
  case defer d =>
   have := congrArg (fun x => x.defers.length) (h.1.trans ha.symm)
   simp only [put_defers_eq, List.length_cons] at this
   omega
  case enter f args =>
   refine h.mono fun e w'' he => ?_
   cases e with
   | returned u => exact ⟨u, rfl, by rw [ha]; exact he.1, by rw [← he.1]; exact he.2⟩
   | panicked c => exact he.elim
   | outgrown => obtain ⟨_, _, hf⟩ := he; exact hf.elim
  case row row args => exact Rows.mono h fun u w'' he => ⟨by rw [ha]; exact he.1, by rw [← he.1]; exact he.2⟩
 | halt x w' => cases x <;> simp only [Oper.upon] at h
theorem Zp {d : Bool} (hw : Region.wanted o (yielded ops a.tmps) = true) (hr : ∀ b w, B b w → ∀ Q1 : Exit → Act → World → Prop, (∀ w', St w w' → B (b || d) w' → Q1 .normal a' w') → wpList P ops Q1 [o] a w)
  (ha : ∃ v, a.put o.dst v = a') (h : Xb P ops B St Q n rest a' (e || d)) : Xb P ops B St Q (n + 1) (o :: rest) a e := by
 obtain ⟨v, ha⟩ := ha
 refine ⟨v, d, .inl ⟨hw, fun b w hb => ?_⟩, by rw [ha]; exact h⟩
 have h1 := hr b w hb (fun x a2 w' => match x with | .normal => a2 = a' ∧ St w w' ∧ B (b || d) w' | _ => False) (fun w' h1 h' => ⟨rfl, h1, h'⟩)
 unfold wpList at h1
 rw [if_pos hw] at h1
 rcases h1 with h1 | ⟨_, _, _, hf⟩
 ·have h2 : o.wp P a w (fun a2 w' => a2 = a' ∧ St w w' ∧ B (b || d) w') (fun _ _ _ => False) := by
   unfold Oper.wp at h1 ⊢
   generalize (execOp a.eval o).run P w = r at h1 ⊢
   cases r with
   | ok n w' =>
    cases n <;> simp only [Oper.upon] at h1 ⊢
    case value u => exact h1
    case skip => exact h1
    case defer d => exact h1
    case enter f args =>
     refine h1.mono fun e w'' he => ?_
     cases e with
     | returned u => exact he
     | panicked c => exact he
     | outgrown => obtain ⟨_, _, hf⟩ := he; exact hf.elim
    case row row args => exact h1
   | halt x w' => cases x <;> simp only [Oper.upon] at h1 ⊢
  exact (Xl.of_wp (G := fun _ w' => St w w' ∧ B (b || d) w') h2 v ha).mono fun u w' hh => hh
 ·exact hf.elim
theorem Zx (hw : Region.wanted o (yielded ops a.tmps) = true) (hr : ∀ b w, B b w → ∀ Q1 : Exit → Act → World → Prop, (∀ w', St w w' → B b w' → Q1 .normal a' w') → wpList P ops Q1 [o] a w)
  (ha : ∃ v, a.put o.dst v = a') (h : Xb P ops B St Q n rest a' e) : Xb P ops B St Q (n + 1) (o :: rest) a e :=
 Zp (d := false) hw (fun b w hb Q1 hq => hr b w hb Q1 (fun w' h1 h' => hq w' h1 (by rwa [Bool.or_false]))) ha (by rwa [Bool.or_false])
end
theorem wpT_lex {n g : Nat} {Lq : Act → Bool → Prop} (hsel : Region.noSelect ops = true) (hT : ∀ i, i < n → ∀ listed, HeadInv md ops n listed → listed.getD i true = false → ∀ j ∈ Region.ready md ops listed, j < n)
  (hg : ∀ listed, Region.seqB md ops g n listed = true → ∀ j ∈ Region.ready md ops listed, n ≤ j) {tl : List Oper} :
  ∀ (m : Nat) (l : List Oper) (k : Nat) (listed : Array Bool) (a : Act) (e : Bool), (∀ j, l[j]? = ops[k + j]?) → k + m = n → l.drop m = tl → HeadInv md ops n listed →
  Region.lexHead md ops g m k listed = true → Xb P ops B St (fun l' a e => l' = tl → Lq a e) m l a e →
  wpT P md ops B (fun (_ : Unit) _ => True) n (fun listed' a' _ e' => Region.seqB md ops g n listed' = true ∧ Lq a' e') m listed a () e
 | 0, l, k, listed, a, e, _, hk, ht, _, hB, h => by
  have : k = n := by simpa using hk
  subst this
  exact ⟨by simpa [Region.lexHead] using hB, h (by simpa using ht)⟩
 | m + 1, [], _, _, _, _, _, _, _, _, _, h => h.elim
 | m + 1, o :: l, k, listed, a, e, hl, hk, ht, inv, hB, h => by
  have h0 : ops[k]? = some o := by simpa using (hl 0).symm
  simp only [Region.lexHead, Bool.and_eq_true] at hB
  obtain ⟨⟨hr, hf⟩, hB'⟩ := hB
  have hkn : k < n := by omega
  have hr' : k ∈ Region.ready md ops listed := by simpa using hr
  obtain ⟨v, d, hy, hK⟩ := h
  exact Ol (fun _ _ _ _ h => h) h0 (Region.noSelect_spec hsel) hkn (hT k hkn) (fun listed' a' _ e' hL => hg listed' hL.1) m listed a () e inv (Region.free_spec h0 hf) hr' hy
   (wpT_lex hsel hT hg m l (k + 1) _ _ _ (fun j => by have := hl (j + 1); simpa [Nat.add_assoc, Nat.add_comm 1 j] using this) (by omega) (by simpa using ht) (inv.set hr' hkn) hB' hK)
theorem Wi {id : Nat} {Q : Exit → Act → World → Prop} {a : Act} {w : World} {l : List Oper} (e : Bool) (hm : P.follows .mixedOrders = true) (hB : Region.lexB .any l.toArray = true) (hb : B e { w with drawn := w.drawn + 1 })
  (h : Xb P l.toArray B St (fun l' a e => ∀ w, B e w → wpList P l.toArray Q l' a w) l.length l a e) : (Code.region id l.toArray true).wp P Q a w := by
 simp only [Region.lexB, Bool.and_eq_true] at hB
 have hx : ∀ (f k : Nat) (listed : Array Bool), Region.lexFrom .any l.toArray f k listed = true → Region.lexHead .any l.toArray 0 f k listed = true := by
  intro f
  induction f with
  | zero => intro k listed h; simpa [Region.lexHead, Region.seqB, Region.lexFrom] using h
  | succ f ih =>
   intro k listed h
   simp only [Region.lexFrom, Bool.and_eq_true] at h
   simp only [Region.lexHead, Bool.and_eq_true]
   exact ⟨h.1, ih _ _ h.2⟩
 have inv0 : HeadInv .any l.toArray l.length (Array.replicate l.toArray.size false) :=
  ⟨by simp, fun j oj _ hl => (by rw [getD_replicate_false] at hl; cases hl), fun t _ ht => getD_in (by simpa using ht) (getD_replicate_false _ _)⟩
 have hw : ∀ (m : Nat) (l' : List Oper) (a : Act) (e : Bool), Xb P l.toArray B St (fun l' a e => ∀ w, B e w → wpList P l.toArray Q l' a w) m l' a e → Xb P l.toArray B St (fun l' a e => l' = [] → ∀ w, B e w → wpList P l.toArray Q [] a w) m l' a e := by
  intro m
  induction m with
  | zero => intro l' a e h; exact fun h' => h' ▸ h
  | succ m ih =>
   intro l' a e h
   cases l' with
   | nil => exact h
   | cons o r => obtain ⟨v, d, h1, h2⟩ := h; exact ⟨v, d, h1, ih _ _ _ h2⟩
 have H := wpT_lex (md := .any) (g := 0) (n := l.length) (Lq := fun a e => ∀ w, B e w → wpList P l.toArray Q [] a w) (tl := []) hB.1
  (fun i hi listed inv hun j hj => by
   obtain ⟨_, oj, hoj, _⟩ := mem_ready.1 hj
   simpa using (Array.getElem?_eq_some_iff.1 hoj).1)
  (fun listed h => seqB_ready h) l.length l 0 _ a e (by simp) (by simp) (by simp) inv0 (hx _ _ _ (by simpa using hB.2)) (hw _ l a e h)
 refine wp_region_any hm ?_
 have := Sr (Q' := Q) (g := 0) (fun listed a' s e' w' hL hb' _ => by
  exact wpAny_of_seq (md := .any) (Q' := Q) [] l.length listed a' w' (fun j => by simp) hL.1 (hL.2 w' hb')) l.length _ a () e _ hb trivial H
 simpa using this

def Ok (o : Oper) : Bool := match o.op with | .move _ | .assign _ | .extract _ _ => true | _ => false
theorem worldless_run {o : Oper} {a : Act} {K : Act → World → Prop} {Q : Exit → Act → World → Prop} {w : World} (h : Ok o = true) (hh : o.wp P a w K Q ∨ (o.asks P a w ∧ LetsOut Q)) :
  ∃ v, (∀ w', (execOp a.eval o).run P w' = .ok (.value v) w') ∧ K (a.put o.dst v) w := by
 obtain ⟨dst, op, type, pos, after, guard⟩ := o
 cases op <;> simp only [Ok, Bool.false_eq_true] at h
 case move x =>
  refine ⟨a.eval x, fun w' => rfl, ?_⟩
  rcases hh with hh | hh
  ·exact hh
  ·exact absurd hh.1.1 (by show ¬ noRoomEvent ∈ (#[] : Array _); simp)
 case assign x =>
  refine ⟨a.eval x, fun w' => rfl, ?_⟩
  rcases hh with hh | hh
  ·exact hh
  ·exact absurd hh.1.1 (by show ¬ noRoomEvent ∈ (#[] : Array _); simp)
 case extract x ix =>
  unfold Oper.wp Oper.asks execOp at hh
  unfold execOp
  simp only [Instr.extract] at hh ⊢
  generalize a.eval x = u at hh ⊢
  cases u
  case tuple vs =>
   simp only at hh ⊢
   cases hv : vs[ix]? with
   | some v =>
    simp only [hv] at hh
    refine ⟨v, fun w' => rfl, ?_⟩
    rcases hh with hh | hh
    ·exact hh
    ·exact absurd hh.1.1 (by show ¬ noRoomEvent ∈ (#[] : Array _); simp)
   | none =>
    simp only [hv] at hh
    rcases hh with hh | hh
    ·exact hh.elim
    ·exact absurd hh.1.1 (by show ¬ noRoomEvent ∈ (#[] : Array _); simp)
  all_goals
   simp only at hh
   rcases hh with hh | hh
   ·exact hh.elim
   ·exact absurd hh.1.1 (by show ¬ noRoomEvent ∈ (#[] : Array _); simp)
def endB (md : Region.Mode) (ops : Array Oper) : List Oper → Nat → Array Bool → Bool
 | [], _, listed => (Region.ready md ops listed).isEmpty
 | o :: l, k, listed => (decide (Region.ready md ops listed = [k]) || (Ok o && o.guard.isNone && (Region.ready md ops listed).contains k && Region.free md ops listed k)) && endB md ops l (k + 1) (listed.setIfInBounds k true)
theorem Sq {Q' : Exit → Act → World → Prop} (hs : Region.noSelect ops = true) (hQ : ∀ c a (d : Tmp) v w, Q' (.panic c) (a.put (some d) v) w → Q' (.panic c) a w) : ∀ (l : List Oper) (k : Nat) (listed : Array Bool) (a : Act) (w : World), (∀ j, l[j]? = ops[k + j]?) →
  endB md ops l k listed = true → wpList P ops Q' l a w → wpAny P md ops Q' l.length listed a w
 | [], _, _, _, _, _, hB, h => ⟨by simpa [endB] using hB, h⟩
 | o :: l, k, listed, a, w, hl, hB, h => by
  have h0 : ops[k]? = some o := by simpa using (hl 0).symm
  have hl' : ∀ j, l[j]? = ops[k + 1 + j]? := fun j => by have := hl (j + 1); simpa [Nat.add_assoc, Nat.add_comm 1 j] using this
  simp only [endB, Bool.and_eq_true, Bool.or_eq_true, decide_eq_true_eq] at hB
  obtain ⟨hB | ⟨⟨⟨h1, h2⟩, h3⟩, h4⟩, hB'⟩ := hB
  ·refine ⟨fun h1 => (by rw [hB] at h1; cases h1), fun i hi => ?_⟩
   rw [hB] at hi
   have hik : i = k := by simpa using hi
   subst hik
   have hw : wpOp P ops Q' i (wpList P ops Q' l) a w := by unfold wpOp; simp only [h0]; exact h
   exact wpOp_mono (fun a' w' h' => Sq hs hQ l (i + 1) _ a' w' hl' hB' h') hw
  ·have hg : o.guard = none := by simpa using h2
   have hwt : Region.wanted o (yielded ops a.tmps) = true := by simp [Region.wanted, hg]
   unfold wpList at h
   rw [if_pos hwt] at h
   obtain ⟨v, hv, hk⟩ := worldless_run h1 h
   exact wpAny_take h0 hs h4 h3 (fun c a w => by
     cases o.dst with
     | none => exact id
     | some d => exact hQ c a d v w) (.inl ⟨hwt, hv⟩) (Sq hs hQ l (k + 1) _ _ _ hl' hB' hk)
theorem waits_head {n : Nat} {listed : Array Bool} (hs : Region.sinkB md ops n = true) (hn : n < ops.size) (inv : HeadInv md ops n listed) :
  ∀ (d i : Nat), n - i = d → i < n → listed.getD i true = false → n ∉ Region.ready md ops listed := by
 intro d
 induction d using Nat.strongRecOn with
 | _ d ih =>
  intro i hd hi hun hr
  obtain ⟨_, ot, hot, hall⟩ := mem_ready.1 hr
  have h1 := List.all_eq_true.1 hs i (List.mem_range.2 hi)
  obtain ⟨j, hj, hj2⟩ := List.any_eq_true.1 h1
  simp only [Bool.and_eq_true, decide_eq_true_eq] at hj2
  obtain ⟨oj, hoj, e, he, hb, hon⟩ := Region.waitsFor_spec hj2.2
  have hjle : j ≤ n := by have := List.mem_range.1 hj; omega
  by_cases hjt : j = n
  ·subst hjt
   have : oj = ot := Option.some.inj (hoj.symm.trans hot)
   subst this
   have h2 := hall e he hb
   rw [hon, getD_both hun] at h2
   cases h2
  ·cases hl : listed.getD j false with
   | true =>
    have h2 := inv.closed j oj hoj hl e he hb
    rw [hon, getD_both hun] at h2
    cases h2
   | false =>
    have hjs : j < listed.size := by rw [inv.size]; omega
    exact ih (n - j) (by omega) j rfl (by omega) (getD_in hjs hl) hr
def tailsB (md : Region.Mode) (ops : Array Oper) (n : Nat) : Bool :=
 (List.range ops.size).all fun t => decide (t ≤ n) || (List.range t).any fun j => decide (n ≤ j) && Region.waitsFor md ops t j
theorem tails_wait {n : Nat} {listed : Array Bool} (hc : tailsB md ops n = true) (inv : HeadInv md ops n listed) {t : Nat} (ht : n < t) : t ∉ Region.ready md ops listed := by
 intro hr
 obtain ⟨_, ot, hot, hall⟩ := mem_ready.1 hr
 have htlt : t < ops.size := (Array.getElem?_eq_some_iff.1 hot).1
 have h1 := List.all_eq_true.1 hc t (List.mem_range.2 htlt)
 simp only [Bool.or_eq_true, decide_eq_true_eq] at h1
 rcases h1 with h1 | h1
 ·omega
 obtain ⟨j, hj, hj2⟩ := List.any_eq_true.1 h1
 simp only [Bool.and_eq_true, decide_eq_true_eq] at hj2
 obtain ⟨o', ho', e, he, hb, hon⟩ := Region.waitsFor_spec hj2.2
 have : o' = ot := Option.some.inj (ho'.symm.trans hot)
 subst this
 have h2 := hall e he hb
 rw [hon, getD_both (inv.tail j hj2.1 (by have := List.mem_range.1 hj; omega))] at h2
 cases h2
def headB (md : Region.Mode) (ops : Array Oper) (l : List Oper) (n : Nat) : Nat → Nat → Array Bool → Bool
 | 0, _, listed => endB md ops l n listed && (Region.ready md ops listed).all (fun j => decide (n ≤ j))
 | f + 1, k, listed => (Region.ready md ops listed).contains k && Region.free md ops listed k && headB md ops l n f (k + 1) (listed.setIfInBounds k true)
def gotB (md : Region.Mode) (l : List Oper) (n : Nat) : Bool :=
 Region.noSelect l.toArray && decide (n < l.length) && Region.sinkB md l.toArray n && tailsB md l.toArray n && headB md l.toArray (l.drop n) n n 0 (Array.replicate l.length false)
theorem wpT_got {n : Nat} {Lq : Act → Bool → Prop} {tl : List Oper} (hsel : Region.noSelect ops = true) (hT : ∀ i, i < n → ∀ listed, HeadInv md ops n listed → listed.getD i true = false → ∀ j ∈ Region.ready md ops listed, j < n) :
  ∀ (m : Nat) (l : List Oper) (k : Nat) (listed : Array Bool) (a : Act) (e : Bool), (∀ j, l[j]? = ops[k + j]?) → k + m = n → l.drop m = tl → HeadInv md ops n listed →
  headB md ops tl n m k listed = true → Xb P ops B St (fun l' a e => l' = tl → Lq a e) m l a e →
  wpT P md ops B (fun (_ : Unit) _ => True) n (fun listed' a' _ e' => (endB md ops tl n listed' && (Region.ready md ops listed').all (fun j => decide (n ≤ j))) = true ∧ Lq a' e') m listed a () e
 | 0, l, k, listed, a, e, _, hk, ht, _, hB, h => by
  have : k = n := by simpa using hk
  subst this
  exact ⟨by simpa [headB] using hB, h (by simpa using ht)⟩
 | m + 1, [], _, _, _, _, _, _, _, _, _, h => h.elim
 | m + 1, o :: l, k, listed, a, e, hl, hk, ht, inv, hB, h => by
  have h0 : ops[k]? = some o := by simpa using (hl 0).symm
  simp only [headB, Bool.and_eq_true] at hB
  obtain ⟨⟨hr, hf⟩, hB'⟩ := hB
  have hkn : k < n := by omega
  have hr' : k ∈ Region.ready md ops listed := by simpa using hr
  obtain ⟨v, d, hy, hK⟩ := h
  exact Ol (fun _ _ _ _ h => h) h0 (Region.noSelect_spec hsel) hkn (hT k hkn) (fun listed' a' _ e' hL j hj => by
    have := hL.1
    simp only [Bool.and_eq_true] at this
    simpa using List.all_eq_true.1 this.2 j hj) m listed a () e inv (Region.free_spec h0 hf) hr' hy
   (wpT_got hsel hT m l (k + 1) _ _ _ (fun j => by have := hl (j + 1); simpa [Nat.add_assoc, Nat.add_comm 1 j] using this) (by omega) (by simpa using ht) (inv.set hr' hkn) (by simpa only [headB, Bool.and_eq_true] using hB') hK)
theorem Zd {id : Nat} {Q : Exit → Act → World → Prop} {a : Act} {w : World} {l : List Oper} (n : Nat) (e : Bool) (hm : P.follows .mixedOrders = true) (hB : gotB .any l n = true) (hb : B e { w with drawn := w.drawn + 1 })
  (hQ : ∀ c a (d : Tmp) v w, Q (.panic c) (a.put (some d) v) w → Q (.panic c) a w)
  (h : Xb P l.toArray B St (fun l' a e => ∀ w, B e w → wpList P l.toArray Q l' a w) n l a e) : (Code.region id l.toArray true).wp P Q a w := by
 simp only [gotB, Bool.and_eq_true, decide_eq_true_eq] at hB
 obtain ⟨⟨⟨⟨hsel, hn⟩, hs⟩, hc⟩, hlex⟩ := hB
 have hn' : n < l.toArray.size := by simpa using hn
 have inv0 : HeadInv .any l.toArray n (Array.replicate l.toArray.size false) :=
  ⟨by simp, fun j oj _ hl => (by rw [getD_replicate_false] at hl; cases hl), fun t _ ht => getD_in (by simpa using ht) (getD_replicate_false _ _)⟩
 have hw : ∀ (m : Nat) (l' : List Oper) (a : Act) (e : Bool), Xb P l.toArray B St (fun l' a e => ∀ w, B e w → wpList P l.toArray Q l' a w) m l' a e → Xb P l.toArray B St (fun l' a e => l' = l.drop n → ∀ w, B e w → wpList P l.toArray Q (l.drop n) a w) m l' a e := by
  intro m
  induction m with
  | zero => intro l' a e h; exact fun h' => h' ▸ h
  | succ m ih =>
   intro l' a e h
   cases l' with
   | nil => exact h
   | cons o r => obtain ⟨v, d, h1, h2⟩ := h; exact ⟨v, d, h1, ih _ _ _ h2⟩
 have H := wpT_got (md := .any) (Lq := fun a e => ∀ w, B e w → wpList P l.toArray Q (l.drop n) a w) (tl := l.drop n) hsel
  (fun i hi listed inv hun j hj => by
   rcases Nat.lt_trichotomy j n with h | h | h
   ·exact h
   ·subst h; exact absurd hj (waits_head hs hn' inv _ i rfl hi hun)
   ·exact absurd hj (tails_wait hc inv h))
  n l 0 _ a e (by simp) (by simp) rfl inv0 (by simpa using hlex) (hw n l a e h)
 refine wp_region_any hm ?_
 have := Sr (Q' := Q) (g := (l.drop n).length) (fun listed a' s e' w' hL hb' _ => by
  have h1 := hL.1
  simp only [Bool.and_eq_true] at h1
  exact Sq (md := .any) (Q' := Q) hsel hQ (l.drop n) n listed a' w' (fun j => by simp) h1.1 (hL.2 w' hb')) n _ a () e _ hb trivial H
 rwa [show n + (l.drop n).length = l.toArray.size by simp; omega] at this
end
end
section
open Go.RowKit

structure SlT (T e : TypeId) (z : Value) (sz nb : Nat) : Prop where
 under : Tryz.prog.underlying T = some (.slice e)
 info : (Tryz.prog.info? e).map (fun i => (i.zero, i.size, i.bytes)) = some (some z, sz, nb)
 cells : z.cells.size = sz
 pos : 0 < sz
 small : nb ≤ 1000
theorem wp_appV {T e : TypeId} {z : Value} {sz nb : Nat} (ht : SlT T e z sz nb) {o : Oper} {a : Act} {K : Act → World → Prop} {Q : Exit → Act → World → Prop} {w : World} (s x : Operand)
  (ho : o.op = .call { callee := .builtin .append, args := #[s, x], argTypes := #[T, T] })
  (lo : Nat) (A : Option Addr) (cap n : Nat) (cs us : List Value) (hul : us.length = sz) (h1 : ∀ u ∈ us, u.oneCell' = true) (hs : a.eval s = .slice A n cap) (hown : Own w lo e sz (.slice A n cap) n cs) (g : Nat) (W : World)
  (hx : a.eval x = .slice (some ⟨g, 0, none⟩) 1 1) (hW : Ex w W) (hbox : Box W g e us.toArray) (hlen : n ≤ 1048576) (hlo : lo ≤ w.heap.size)
  (h : ∀ A' cap' w', Own w' lo e sz (.slice A' (n + 1) cap') (n + 1) (cs ++ us) → Ty lo e w w' → K (a.put o.dst (.slice A' (n + 1) cap')) w') : o.wp Tryz.prog a W K Q := by
 obtain ⟨i0, hi, hz0, hz1, hz2⟩ := info_parts ht.info
 refine wp_append_own W s x T ho lo e i0 z sz nb ht.under hi hz0 hz1 hz2 ht.cells ht.pos _ n _ hs (hown.ex hW) ⟨g, 0, none⟩ 1 1 us hx (by omega) ?_ h1 (by unfold maxLen; omega) ?_ (Nat.le_trans hlo hW.size) ?_
 ·intro j u hj
  have hb := hbox.cell j
  have e1 : (Addr.add ⟨g, 0, none⟩ j) = ⟨g, j, none⟩ := by
   unfold Addr.add
   simp
   try (intro hj0; omega)
  rw [e1, hb]
  simpa using hj
 ·have h2 : (n + 1) * nb ≤ (1048576 + 1) * 1000 := Nat.mul_le_mul (by omega) ht.small
  omega
 ·intro v' w' hown' hg _
  obtain ⟨A', cap', rfl, -⟩ := Own.form hown'
  exact h A' cap' w' hown' (Ty.of_grown hW hown hg)
theorem Tk {T e : TypeId} {z : Value} {sz nb : Nat} (ht : SlT T e z sz nb) {ops : Array Oper} {rest : List Oper} {o : Oper} {a : Act} {Q : Exit → Act → World → Prop} (hgd : o.guard = none) (s x : Operand) (w : World)
  (ho : o.op = .call { callee := .builtin .append, args := #[s, x], argTypes := #[T, T] })
  (lo : Nat) (A : Option Addr) (cap n : Nat) (cs us : List Value) (hul : us.length = sz) (h1 : ∀ u ∈ us, u.oneCell' = true) (hs : a.eval s = .slice A n cap) (hown : Own w lo e sz (.slice A n cap) n cs)
  (hx : a.eval x = .slice (some ⟨w.heap.size, 0, none⟩) 1 1) (hlen : n ≤ 1048576) (hlo : lo ≤ w.heap.size)
  (h : ∀ A' cap' w', Own w' lo e sz (.slice A' (n + 1) cap') (n + 1) (cs ++ us) → Ty lo e w w' → wpList Tryz.prog ops Q rest (a.put o.dst (.slice A' (n + 1) cap')) w') : wpList Tryz.prog ops Q (o :: rest) a (w.alloc (.cells us.toArray e)) :=
 wpList_plain hgd fun _ hK => wp_appV ht s x ho lo A cap n cs us hul h1 hs hown _ _ hx ((Ex.refl w).alloc _) (Box.new w _ _) hlen hlo fun A' cap' w' h1 h2 => hK _ _ (h A' cap' w' h1 h2)
theorem Ox (w : World) (lo : Nat) (e : TypeId) (sz : Nat) (hlo : lo ≤ w.heap.size) : Own (w.alloc (.cells #[] e)) lo e sz (.slice (some ⟨w.heap.size, 0, none⟩) 0 0) 0 [] :=
 World.ownsRow_lit (base := lo) (e := e) (size := sz) w #[] 0 hlo (Nat.zero_le _) (by simp)
end
section
open Go.RowKit
end
end Go.Proofs.YtiommfmaleeibaaGreatDoor
