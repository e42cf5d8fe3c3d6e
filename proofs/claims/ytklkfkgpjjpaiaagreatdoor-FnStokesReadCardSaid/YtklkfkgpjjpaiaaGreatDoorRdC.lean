/-
  What the program's reading asks of the library's variables, and the contracts of Cut, Atoi, TrimPrefix in that form.
-/
import Derived.Test.YtklkfkgpjjpaiaaGreatDoorRdF
import Derived.Test.YtklkfkgpjjpaiaaGreatDoorShelfR
set_option linter.unusedSimpArgs false
set_option linter.unusedVariables false
namespace Go.Proofs.YtklkfkgpjjpaiaaGreatDoor
open Go.RowKit

/-- The library's variables read as they should. -/
structure Mem (w : World) : Prop where
  tab : Tab w
  max : ∃ m, w.cell? ⟨0, 0, none⟩ = some (.int .i64 m)
  syn : ∃ t p, w.cell? ⟨1, 0, none⟩ = some (.iface t p)
  rng : ∃ t p, w.cell? ⟨2, 0, none⟩ = some (.iface t p)
  utf : Lib.Utf8Tabs 3 4 w
theorem utf8_ex {w w' : World} {a b : Nat} (h : Lib.Utf8Tabs a b w) (he : Ex w w') : Lib.Utf8Tabs a b w' := by
  obtain ⟨h1, h2⟩ := h
  exact ⟨fun i hi => he.get (h1 i hi), fun i hi => ⟨he.get (h2 i hi).1, he.get (h2 i hi).2⟩⟩
theorem Mem.ex {w w' : World} (h : Mem w) (he : Ex w w') : Mem w' := by
  obtain ⟨m, hm⟩ := h.max
  obtain ⟨t1, p1, h1⟩ := h.syn
  obtain ⟨t2, p2, h2⟩ := h.rng
  exact ⟨h.tab.ex he, ⟨m, he.get hm⟩, ⟨t1, p1, he.get h1⟩, ⟨t2, p2, he.get h2⟩, utf8_ex h.utf he⟩
theorem Mem.alloc {w : World} (h : Mem w) (o : Obj) : Mem (w.alloc o) := h.ex ((Ex.refl _).alloc o)
theorem cut_any (l : List UInt8) (hl : l.length ≤ 1048576) (w : World) (hm : Mem w) : Calls Tryz.prog 34 #[.string (Bs l), .string ⟨#[105]⟩] w fun e w' =>
    e = .returned (.tuple #[.string (Bs (Lib.cut l [105]).1), .string (Bs (Lib.cut l [105]).2.1), .bool (Lib.cut l [105]).2.2]) ∧ Ex w w' := by
  obtain ⟨m, hm⟩ := hm.max
  refine (Tryz.strings_Cut (Bs l) ⟨#[105]⟩ m w (by rw [Bs_size]; omega) hm).mono ?_
  rintro e w' ⟨rfl, n, rfl⟩
  exact ⟨rfl, (Ex.refl _).drewN n⟩
theorem trim_any (l : List UInt8) (w : World) : Calls Tryz.prog 37 #[.string (Bs l), .string ⟨#[47]⟩] w fun e w' => e = .returned (.string (Bs (Lib.trimPrefix l [47]))) ∧ Ex w w' := by
  refine (Tryz.strings_TrimPrefix (Bs l) ⟨#[47]⟩ w).mono ?_
  rintro e w' ⟨rfl, rfl⟩
  exact ⟨rfl, Ex.refl _⟩
/-- An error, or none. -/
def IsErr (v : Value) : Prop := v = .nilIface ∨ ∃ N : Nat, v = .iface 104 (.pointer (some ⟨N, 0, none⟩))
theorem atoi_any (l : List UInt8) (hl : l.length ≤ 1048576) (w : World) (hm : Mem w) : Calls Tryz.prog 36 #[.string (Bs l)] w fun e w' =>
    ∃ v er, e = .returned (.tuple #[.int .i64 v, er]) ∧ Ex w w' ∧ IsErr er ∧ (∀ u, Lib.atoiAll l = .ok u → v = u ∧ er = .nilIface) := by
  rcases h : Lib.atoiAll l with v | _ | _
  ·
    refine (Tryz.strconv_Atoi_ok (Bs l) (by rw [Bs_size]; omega) v h w).mono ?_
    rintro e w' ⟨rfl, hw⟩
    refine ⟨v, _, rfl, ?_, .inl rfl, fun u hu => ⟨by injection hu, rfl⟩⟩
    rcases hw with rfl | ⟨t, rfl⟩
    · exact Ex.refl _
    · exact Lib.bytesWorld_below _ _ _
  ·
    obtain ⟨t, p, hp⟩ := hm.syn
    refine (Tryz.strconv_Atoi_syntax (Bs l) (by rw [Bs_size]; omega) h _ w hp (.inr ⟨t, p, rfl⟩)).mono ?_
    rintro e w' ⟨N, rfl, -, -, hb⟩
    exact ⟨0, _, rfl, hb, .inr ⟨N, rfl⟩, fun u hu => by cases hu⟩
  ·
    obtain ⟨t, p, hp⟩ := hm.rng
    refine (Tryz.strconv_Atoi_range (Bs l) (by rw [Bs_size]; omega) h _ w hp (.inr ⟨t, p, rfl⟩)).mono ?_
    rintro e w' ⟨N, rfl, -, -, hb⟩
    exact ⟨_, _, rfl, hb, .inr ⟨N, rfl⟩, fun u hu => by cases hu⟩
end Go.Proofs.YtklkfkgpjjpaiaaGreatDoor
