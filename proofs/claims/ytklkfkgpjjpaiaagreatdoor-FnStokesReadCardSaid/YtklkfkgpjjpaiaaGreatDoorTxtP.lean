/-
  Texts of fractions: plain mathematics, and small lemmas on strings and the listed table.
-/
import Derived.Test.YtklkfkgpjjpaiaaGreatDoorFrcV
import Derived.Test.YtklkfkgpjjpaiaaGreatDoorFrcF
import Derived.Test.YtklkfkgpjjpaiaaGreatDoorShelf
import Derived.Lib.ItoaNum
import Derived.Lib.ItoaLen
import Derived.Lib.AppendIntMem
set_option linter.unusedSimpArgs false
set_option linter.unusedVariables false
namespace Go.Proofs.YtklkfkgpjjpaiaaGreatDoor
open Go.RowKit

/-- A string of these bytes. -/
def Bs (l : List UInt8) : ByteArray := ⟨l.toArray⟩
theorem data_app (a b : ByteArray) : (a ++ b).data.toList = a.data.toList ++ b.data.toList := by simp [ByteArray.data_append]
theorem bytes_same {a b : ByteArray} (h : a.data.toList = b.data.toList) : a = b := by
  cases a; cases b
  congr 1
  exact Array.toList_inj.1 h
theorem Bs_append (a b : List UInt8) : Bs a ++ Bs b = Bs (a ++ b) := bytes_same (by rw [data_app]; simp [Bs])
theorem Bs_size (l : List UInt8) : (Bs l).size = l.length := rfl
def sgn (n : Int) : List UInt8 := if n < 0 then Lib.itoa n else 43 :: Lib.itoa n
def txt (x : Fr) : List UInt8 := sgn x.re ++ sgn x.im ++ [105] ++ (if x.den = 1 then [] else 47 :: Lib.itoa x.den)
def ftext (x : Fr) : List UInt8 × Bool := if x.valid then (txt x, true) else ([], false)

/-- The listed table. -/
def Tab (w : World) : Prop := Lib.TabIs Tryz.prog w "internal/strconv.uint64pow10" .u64 Lib.pow10Tab
theorem tabIs_ex {w w' : World} {s : String} {k : IntKind} {zs : List Int} (h : Lib.TabIs Tryz.prog w s k zs) (he : Ex w w') : Lib.TabIs Tryz.prog w' s k zs := by
  unfold Lib.TabIs World.var? at h ⊢
  cases hg : Tryz.prog.globalNamed s with
  | none => rw [hg] at h; cases h
  | some g =>
    rw [hg] at h
    simp only [Option.bind_some] at h ⊢
    cases hb : w.heap[g]? with
    | none => rw [hb] at h; cases h
    | some o => rw [he.block hb]; rw [hb] at h; exact h
theorem Tab.ex {w w' : World} (h : Tab w) (he : Ex w w') : Tab w' := tabIs_ex h he
theorem Tab.alloc {w : World} (h : Tab w) (o : Obj) : Tab (w.alloc o) := h.ex ((Ex.refl _).alloc o)
theorem Tab.drew {w : World} (h : Tab w) : Tab w.drew := h
theorem ex_grow (w : World) (k : Nat) (os : Array Obj) : Ex w (Sort.grow (w.drewN k) os) := Lib.below_grow _ w (Nat.le_refl _) k os
theorem itoa_any (n : Int) (h0 : -9223372036854775808 ≤ n) (h1 : n ≤ 9223372036854775807) (w : World) (ht : Tab w) :
    Calls Tryz.prog 51 #[.int .i64 n] w fun e w' => e = .returned (.string (Bs (Lib.itoa n))) ∧ Ex w w' :=
  (Tryz.strconv_Itoa n h0 h1 w ht).mono fun e w' ⟨h, k, os, hw⟩ => ⟨h, by rw [hw]; exact ex_grow w k os⟩
theorem itoa_len (n : Int) (h0 : -9223372036854775808 ≤ n) (h1 : n ≤ 9223372036854775807) : (Lib.itoa n).length ≤ 21 := Lib.itoa_length_le n h0 h1
theorem sgn_len (n : Int) (h0 : -9223372036854775808 ≤ n) (h1 : n ≤ 9223372036854775807) : (sgn n).length ≤ 22 := by
  have := itoa_len n h0 h1
  unfold sgn
  split
  · omega
  · simp; omega
/-- A sum of strings: its length is an int, and its bytes. -/
theorem cat_facts (a b : List UInt8) (h : a.length + b.length ≤ 1000000) : ¬ 9223372036854775807 < (Bs a).size + (Bs b).size ∧ Bs a ++ Bs b = Bs (a ++ b) := by
  refine ⟨?_, Bs_append a b⟩
  rw [Bs_size, Bs_size]
  omega
/-- One byte ahead of a string. -/
theorem cat_front (c : UInt8) (b : List UInt8) (h : b.length ≤ 1000000) : ¬ 9223372036854775807 < 1 + (Bs b).size ∧ (⟨#[c]⟩ : ByteArray) ++ Bs b = Bs (c :: b) := by
  refine ⟨?_, Bs_append [c] b⟩
  rw [Bs_size]
  omega
/-- One byte behind a string. -/
theorem cat_back (a : List UInt8) (c : UInt8) (h : a.length ≤ 1000000) : ¬ 9223372036854775807 < (Bs a).size + 1 ∧ Bs a ++ (⟨#[c]⟩ : ByteArray) = Bs (a ++ [c]) := by
  refine ⟨?_, Bs_append a [c]⟩
  rw [Bs_size]
  omega
end Go.Proofs.YtklkfkgpjjpaiaaGreatDoor
