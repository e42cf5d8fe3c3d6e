/-
  From a row's listed variables to what the walks ask of the world: fractions, and an array of fractions; the named variables behind the call.
-/
import Derived.Test.YtgkekdiffgmllaaDoorGlob
import Derived.Test.YtgkekdiffgmllaaDoorRows
import Derived.ProofKit
import Derived.LaidMore
import Derived.OpenShut
import Derived.OpenVars
import Derived.Stop.Joined
import Derived.Lib.LaidTab
import Derived.Lib.LaidU8
namespace Go.Proofs.YtgkekdiffgmllaaDoor
open Go.RowKit
set_option maxRecDepth 20000

theorem cellsF : Tryd.prog.cellsOf 24 = 3 := by kernel_rfl
theorem cellsI : Tryd.prog.cellsOf 3 = 1 := by kernel_rfl
theorem frac_cells {H : Type} {enc : TypeId × Value → H} {w : World} {base : Nat} {sp : Nat → Bool} {held : Bool} {fuel : Nat} {cs : List Value} {a b c : Int} {p : List MemPlace}
    (h : DataW.trod enc Tryd.prog w base sp held fuel 24 cs = some (.agg [.lit (.int .i64 a), .lit (.int .i64 b), .lit (.int .i64 c)], p)) : cs = [.int .i64 a, .int .i64 b, .int .i64 c] := by
  have := Lib.ints_of_struct (k := .i64) (zs := [a, b, c]) Tryd.underlying24 (fun i f hf => by
    match i, hf with
    | 0, hf => simp at hf; subst hf; exact ⟨Tryd.underlying3, rfl, cellsI⟩
    | 1, hf => simp at hf; subst hf; exact ⟨Tryd.underlying3, rfl, cellsI⟩
    | 2, hf => simp at hf; subst hf; exact ⟨Tryd.underlying3, rfl, cellsI⟩
    | n + 3, hf => simp at hf) cellsF h
  simpa using this
theorem frac_var {n : String} {g : Nat} {a b c : Int} {w : World} (hn : Tryd.prog.globalNamed n = some g) (ht : (Tryd.prog.globals[g]?).map (·.type) = some 24)
    (h : Lib.VarReads Tryd.prog w n (.agg [.lit (.int .i64 a), .lit (.int .i64 b), .lit (.int .i64 c)])) : ∀ i, w.cell? ⟨g, i, none⟩ = (#[.int .i64 a, .int .i64 b, .int .i64 c] : Array Value)[i]? := by
  obtain ⟨g', t, cs, fuel, p, h1, h2, h3, h4⟩ := h
  obtain rfl : g = g' := Option.some.inj (hn.symm.trans h1)
  obtain rfl : 24 = t := Option.some.inj (ht.symm.trans h2)
  have hc := frac_cells h4
  intro i
  rw [World.var?_cell hn h3 i]
  have : cs = #[.int .i64 a, .int .i64 b, .int .i64 c] := by
    apply Array.toList_inj.1
    simpa using hc
  rw [this]
theorem vars_len {H : Type} {enc : TypeId × Value → H} {P : Program} {w : World} {sp : Nat → Bool} : ∀ {ns : List String} {gs : List (DataW H)} {ps : List MemPlace}, DataW.TrodVars enc P w sp ns gs ps → gs.length = ns.length
  | [], [], _, _ => rfl
  | [], _ :: _, _, h => h.elim
  | _ :: _, [], _, h => h.elim
  | _ :: _, _ :: _, _, h => by
    obtain ⟨_, _, _, _, _, _, _, _, _, _, hs, _⟩ := h
    simp [vars_len hs]
theorem gn_zero : Tryd.prog.globalNamed "loop.example/polarisedlight/impl.zero" = some 1 := by kernel_rfl
theorem gn_one : Tryd.prog.globalNamed "loop.example/polarisedlight/impl.one" = some 0 := by kernel_rfl
end Go.Proofs.YtgkekdiffgmllaaDoor
