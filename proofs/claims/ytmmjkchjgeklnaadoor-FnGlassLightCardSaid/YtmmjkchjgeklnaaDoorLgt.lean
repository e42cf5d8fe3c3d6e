/-
  Walks: light of glass: plain.
-/
import Derived.Test.YtmmjkchjgeklnaaDoorMatL
import Derived.Test.YtmmjkchjgeklnaaDoorMatK
import Derived.Test.YtmmjkchjgeklnaaDoorGlsV
import Derived.Test.YtmmjkchjgeklnaaDoorGlsW
import Derived.Test.YtmmjkchjgeklnaaDoorLawF
import Derived.Test.YtmmjkchjgeklnaaDoorApp
namespace Go.Proofs.YtmmjkchjgeklnaaDoor
open Go.RowKit

/-- The light of a glass: what each cell gives, if each gives one. -/
def glight (ok : Bool) (p q : Int) (xs : List Int) : List Fr × Bool :=
  if ok && xs.all (fun n => (fcell p q (n % 4)).2) then (xs.map (fun n => (fcell p q (n % 4)).1), true) else ([], false)
def GotFs (w : World) (r : List Fr × Bool) : Ending → World → Prop := fun e w' =>
  ∃ A cap, e = .returned (.tuple #[.slice A r.1.length cap, .bool r.2]) ∧ OwnF w' w.heap.size A cap r.1 ∧ Ex w w'
theorem glight_no {p q : Int} {xs : List Int} : glight false p q xs = ([], false) := rfl
theorem glight_stop {p q : Int} {xs : List Int} (k : Nat) (hk : k < xs.length) (h : (fcell p q (xs.getD k 0 % 4)).2 = false) : glight true p q xs = ([], false) := by
  unfold glight
  rw [if_neg]
  simp only [Bool.true_and, List.all_eq_true]
  intro hh
  have := hh (xs.getD k 0) (by rw [List.getD_eq_getElem?_getD, List.getElem?_eq_getElem hk]; exact List.getElem_mem hk)
  rw [h] at this
  cases this
theorem glight_all {p q : Int} {xs : List Int} (h : (xs.take xs.length).all (fun n => (fcell p q (n % 4)).2) = true) : glight true p q xs = (xs.map (fun n => (fcell p q (n % 4)).1), true) := by
  rw [List.take_length] at h
  unfold glight
  rw [if_pos]
  simpa using h
theorem all_take_fc {p q : Int} {xs : List Int} {k : Nat} (hk : k < xs.length) (h : (xs.take k).all (fun n => (fcell p q (n % 4)).2) = true) (hv : (fcell p q (xs.getD k 0 % 4)).2 = true) : (xs.take (k + 1)).all (fun n => (fcell p q (n % 4)).2) = true := by
  rw [all_take_succ _ _ _ hk, h, hv]; rfl
theorem map_take_fc {p q : Int} {xs : List Int} {k : Nat} (hk : k < xs.length) : (xs.take (k + 1)).map (fun n => (fcell p q (n % 4)).1) = (xs.take k).map (fun n => (fcell p q (n % 4)).1) ++ [(fcell p q (xs.getD k 0 % 4)).1] := by
  rw [List.take_succ_eq_append_getElem hk, List.map_append]
  simp [hk]
theorem fcell_flags {p q k : Int} (h : (fcell p q k).2 = true) : (mplate p q k).2 = true ∧ (mapply (mplate p q k).1 Fr.one Fr.nul).2 = true ∧ (mapply flt11 (mapply (mplate p q k).1 Fr.one Fr.nul).1.1 (mapply (mplate p q k).1 Fr.one Fr.nul).1.2).2 = true := by
  have e := fcell_eq p q k
  by_cases hc : ((mplate p q k).2 && (mapply (mplate p q k).1 Fr.one Fr.nul).2 && (mapply flt11 (mapply (mplate p q k).1 Fr.one Fr.nul).1.1 (mapply (mplate p q k).1 Fr.one Fr.nul).1.2).2 && (fcell p q k).2) = true
  · simp only [Bool.and_eq_true] at hc
    exact ⟨hc.1.1.1, hc.1.1.2, hc.1.2⟩
  · rw [if_neg hc] at e
    rw [← e] at h
    cases h
theorem glight_dir {p q : Int} {xs : List Int} (h : dirOk p q = false) (hl : 1 ≤ xs.length) : glight true p q xs = ([], false) := by
  refine glight_stop 0 (by omega) ?_
  rcases hh : (fcell p q (xs.getD 0 0 % 4)).2 with _ | _
  · rfl
  · have := (fcell_flags hh).1
    unfold mplate at this
    rw [h] at this
    cases this
theorem ownF_nil (w : World) (lo : Nat) (hlo : lo ≤ w.heap.size) : OwnF (w.alloc (.cells #[] 42)) lo (some ⟨w.heap.size, 0, none⟩) 0 [] := own_nil w lo _ 3 hlo
theorem slF3 : SlT 26 42 (.agg #[.int .i64 0, .int .i64 0, .int .i64 0]) 3 24 := ⟨Tryd.underlying26, by kernel_rfl, rfl, by omega, by omega⟩
theorem OwnF.snoc3 {w' : World} {lo : Nat} {A : Option Addr} {cap : Nat} {xs : List Fr} {x : Fr} (h : Own w' lo 42 3 (.slice A (xs.length + 1) cap) (xs.length + 1) (frCells xs ++ [.int .i64 x.re, .int .i64 x.im, .int .i64 x.den])) : OwnF w' lo A cap (xs ++ [x]) := by
  unfold OwnF frCells at *
  simpa [Fr.cs] using h
theorem boxNew1 (w : World) (o : Obj) (cs : Array Value) (t : TypeId) : Box ((w.alloc o).alloc (.cells cs t)) (w.heap.size + 1) t cs := by
  have h := Box.new (w.alloc o) cs t
  rwa [World.size_alloc] at h
theorem wpList_appB {T e : TypeId} {z : Value} {sz nb : Nat} (ht : SlT T e z sz nb) {ops : Array Oper} {rest : List Oper} {o : Oper} {a : Act} {Q : Exit → Act → World → Prop} (hgd : o.guard = none) (s x : Operand) (w W : World)
    (ho : o.op = .call { callee := .builtin .append, args := #[s, x], argTypes := #[T, T] })
    (lo : Nat) (A : Option Addr) (cap n : Nat) (cs us : List Value) (hul : us.length = sz) (h1 : ∀ u ∈ us, u.oneCell' = true) (hs : a.eval s = .slice A n cap) (hown : Own w lo e sz (.slice A n cap) n cs) (g : Nat)
    (hx : a.eval x = .slice (some ⟨g, 0, none⟩) 1 1) (hW : Ex w W) (hbox : Box W g e us.toArray) (hlen : n ≤ 1048576) (hlo : lo ≤ w.heap.size)
    (h : ∀ A' cap' w', Own w' lo e sz (.slice A' (n + 1) cap') (n + 1) (cs ++ us) → Keeps lo e w w' → wpList Tryd.prog ops Q rest (a.put o.dst (.slice A' (n + 1) cap')) w') : wpList Tryd.prog ops Q (o :: rest) a W :=
  wpList_plain hgd fun _ hK => wp_appV ht s x ho lo A cap n cs us hul h1 hs hown g W hx hW hbox hlen hlo fun A' cap' w' h1 h2 => hK _ _ (h A' cap' w' h1 h2)
end Go.Proofs.YtmmjkchjgeklnaaDoor
