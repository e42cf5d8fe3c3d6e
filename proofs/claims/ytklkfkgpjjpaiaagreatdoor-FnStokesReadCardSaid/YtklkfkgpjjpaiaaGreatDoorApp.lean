/-
  'append' of one element onto a row of the call's own, whatever the element's type.
-/
import Derived.Test.YtklkfkgpjjpaiaaGreatDoorLib
set_option linter.unusedSimpArgs false
set_option linter.unusedVariables false
namespace Go.Proofs.YtklkfkgpjjpaiaaGreatDoor
open Go.RowKit

/-- What is known of a type of slices: its elements' type, their zero value, cells and bytes. -/
structure SlT (T e : TypeId) (z : Value) (sz nb : Nat) : Prop where
  under : Tryz.prog.underlying T = some (.slice e)
  info : (Tryz.prog.info? e).map (fun i => (i.zero, i.size, i.bytes)) = some (some z, sz, nb)
  cells : z.cells.size = sz
  pos : 0 < sz
  small : nb ≤ 1000
theorem wp_appV {T e : TypeId} {z : Value} {sz nb : Nat} (ht : SlT T e z sz nb) {o : Oper} {a : Act} {K : Act → World → Prop} {Q : Exit → Act → World → Prop} {w : World} (s x : Operand)
    (ho : o.op = .call { callee := .builtin .append, args := #[s, x], argTypes := #[T, T] })
    (lo : Nat) (A : Option Addr) (cap n : Nat) (cs us : List Value) (hul : us.length = sz) (h1 : ∀ u ∈ us, u.oneCell' = true) (hs : a.eval s = .slice A n cap) (hown : Own w lo e sz (.slice A n cap) n cs) (g : Nat) (W : World)
    (hx : a.eval x = .slice (some ⟨g, 0, none⟩) 1 1) (hW : Ex w W) (hbox : Box W g e us.toArray) (hlen : n ≤ 1048576) (hlo : lo ≤ w.heap.size)
    (h : ∀ A' cap' w', Own w' lo e sz (.slice A' (n + 1) cap') (n + 1) (cs ++ us) → Keeps lo e w w' → K (a.put o.dst (.slice A' (n + 1) cap')) w') : o.wp Tryz.prog a W K Q := by
  obtain ⟨i0, hi, hz0, hz1, hz2⟩ := info_parts ht.info
  refine wp_append_own W s x T ho lo e i0 z sz nb ht.under hi hz0 hz1 hz2 ht.cells ht.pos _ n _ hs (hown.ex hW) ⟨g, 0, none⟩ 1 1 us hx (by omega) ?_ h1 (by unfold maxLen; omega) ?_ (Nat.le_trans hlo hW.size) ?_
  · intro j u hj
    have hb := hbox.cell j
    have e1 : (Addr.add ⟨g, 0, none⟩ j) = ⟨g, j, none⟩ := by
      unfold Addr.add
      simp
      try (intro hj0; omega)
    rw [e1, hb]
    simpa using hj
  · have h2 : (n + 1) * nb ≤ (1048576 + 1) * 1000 := Nat.mul_le_mul (by omega) ht.small
    omega
  · intro v' w' hown' hg _
    obtain ⟨A', cap', rfl, -⟩ := Own.form hown'
    exact h A' cap' w' hown' (Keeps.of_grown hW hown hg)
theorem wpList_appV {T e : TypeId} {z : Value} {sz nb : Nat} (ht : SlT T e z sz nb) {ops : Array Oper} {rest : List Oper} {o : Oper} {a : Act} {Q : Exit → Act → World → Prop} (hgd : o.guard = none) (s x : Operand) (w : World)
    (ho : o.op = .call { callee := .builtin .append, args := #[s, x], argTypes := #[T, T] })
    (lo : Nat) (A : Option Addr) (cap n : Nat) (cs us : List Value) (hul : us.length = sz) (h1 : ∀ u ∈ us, u.oneCell' = true) (hs : a.eval s = .slice A n cap) (hown : Own w lo e sz (.slice A n cap) n cs)
    (hx : a.eval x = .slice (some ⟨w.heap.size, 0, none⟩) 1 1) (hlen : n ≤ 1048576) (hlo : lo ≤ w.heap.size)
    (h : ∀ A' cap' w', Own w' lo e sz (.slice A' (n + 1) cap') (n + 1) (cs ++ us) → Keeps lo e w w' → wpList Tryz.prog ops Q rest (a.put o.dst (.slice A' (n + 1) cap')) w') : wpList Tryz.prog ops Q (o :: rest) a (w.alloc (.cells us.toArray e)) :=
  wpList_plain hgd fun _ hK => wp_appV ht s x ho lo A cap n cs us hul h1 hs hown _ _ hx ((Ex.refl w).alloc _) (Box.new w _ _) hlen hlo fun A' cap' w' h1 h2 => hK _ _ (h A' cap' w' h1 h2)
theorem step_appV {T e : TypeId} {z : Value} {sz nb : Nat} (ht : SlT T e z sz nb) {ops : Array Oper} {o : Oper} {a : Act} {K : Act → World → Prop} {Q : Exit → Act → World → Prop} {E : Prop} (hgd : o.guard = none) (s x : Operand) (w : World)
    (ho : o.op = .call { callee := .builtin .append, args := #[s, x], argTypes := #[T, T] })
    (lo : Nat) (A : Option Addr) (cap n : Nat) (cs us : List Value) (hul : us.length = sz) (h1 : ∀ u ∈ us, u.oneCell' = true) (hs : a.eval s = .slice A n cap) (hown : Own w lo e sz (.slice A n cap) n cs)
    (hx : a.eval x = .slice (some ⟨w.heap.size, 0, none⟩) 1 1) (hlen : n ≤ 1048576) (hlo : lo ≤ w.heap.size)
    (h : ∀ A' cap' w', Own w' lo e sz (.slice A' (n + 1) cap') (n + 1) (cs ++ us) → Keeps lo e w w' → K (a.put o.dst (.slice A' (n + 1) cap')) w') :
    if Region.wanted o (yielded ops a.tmps) = true then Oper.wp Tryz.prog o a (w.alloc (.cells us.toArray e)).drew K Q else E := by
  have hw : Region.wanted o (yielded ops a.tmps) = true := by simp [Region.wanted, hgd]
  rw [if_pos hw]
  exact wp_appV ht s x ho lo A cap n cs us hul h1 hs hown _ _ hx ((Ex.refl w).alloc _).drew (Box.new w _ _).drew hlen hlo h
/-- An empty literal of a slice. -/
theorem own_nil (w : World) (lo : Nat) (e : TypeId) (sz : Nat) (hlo : lo ≤ w.heap.size) : Own (w.alloc (.cells #[] e)) lo e sz (.slice (some ⟨w.heap.size, 0, none⟩) 0 0) 0 [] :=
  World.ownsRow_lit (base := lo) (e := e) (size := sz) w #[] 0 hlo (Nat.zero_le _) (by simp)
end Go.Proofs.YtklkfkgpjjpaiaaGreatDoor
