/-
  Walks: draws of texts. What a draw gives is not told, but for its length.
-/
import Derived.Test.YtklkfkgpjjpaiaaGreatDoorDrawR
import Derived.Test.YtklkfkgpjjpaiaaGreatDoorTxtW
set_option linter.unusedSimpArgs false
set_option linter.unusedVariables false
namespace Go.Proofs.YtklkfkgpjjpaiaaGreatDoor
open Go.RowKit

/-- Short strings as cells. -/
def Shorts (cs : Array Value) (m : Nat) : Prop := ∀ k, k < cs.size → ∃ s : ByteArray, cs[k]? = some (.string s) ∧ s.size ≤ m
def OfD (m bo : Nat) (A : Option Addr) (n cap a : Nat) (w : World) : Ending → World → Prop := fun e w' =>
  ∃ s : ByteArray, e = .returned (.string s) ∧ s.size ≤ m ∧ Dr bo w w' ∧ Rdr w' bo A n cap (a + 1)
set_option maxHeartbeats 1000000 in
theorem of_any {W : World} {A : Option Addr} {bs : List Int} (hB : Byts W A bs) (hl : bs.length ≤ 2000) (bo cap a : Nat) (w : World) (hE : Ex W w) (hbo : W.heap.size ≤ bo)
    (hb : Rdr w bo A bs.length cap a) (ha : a ≤ 1000000) (g n m : Nat) (cs : Array Value) (t : TypeId) (hg : Box w g t cs) (hne : g ≠ bo) (hn : cs.size = n) (h1 : 1 ≤ n) (h2 : n ≤ 1000) (hs : Shorts cs m) :
    Calls Tryz.prog 21 #[.pointer (some ⟨bo, 0, none⟩), .slice (some ⟨g, 0, none⟩) n n] w (OfD m bo A bs.length cap a w) := by
  have hp := pick_dr hB hl bo cap a (n : Int) w hE hbo hb (by omega) (by omega) (by omega)
  have HP := Lib.hid hp
  clear hp hB hl hb ha hE hbo
  go_enter Tryz.func21, Tryz.ntmps21
  go_wp2_with fail
  refine HP.out.mono ?_
  rintro e w1 ⟨v, rfl, hv0, hv1, hd, hb1⟩
  obtain ⟨j, rfl⟩ := Int.eq_ofNat_of_zero_le hv0
  have hj : j < cs.size := by omega
  obtain ⟨s, hs1, hs2⟩ := hs j hj
  have hc : w1.cell? ⟨g, j, none⟩ = some (.string s) := by rw [(hd.box _ _ _ hne hg).cell j, hs1]
  have hjI : (j : Int) < (n : Int) := hv1
  clear HP
  go_wp2
  go_ret
  exact ⟨s, rfl, hs2, hd, hb1⟩
theorem shorts_list {ss : List ByteArray} {m : Nat} (h : ∀ s ∈ ss, s.size ≤ m) : Shorts ((ss.map Value.string).toArray) m := by
  intro k hk
  have hk2 : k < ss.length := by simpa using hk
  refine ⟨ss[k], ?_, h _ (List.getElem_mem hk2)⟩
  simp [hk2]
end Go.Proofs.YtklkfkgpjjpaiaaGreatDoor
