/-
  Walks: draws of texts. What a draw gives is not told, but for its length.
-/
import Derived.Test.YtklkfkgpjjpaiaaDoorDrawR
import Derived.Test.YtklkfkgpjjpaiaaDoorTxtW
set_option linter.unusedSimpArgs false
set_option linter.unusedVariables false
namespace Go.Proofs.YtklkfkgpjjpaiaaDoor
open Go.RowKit

/-- Short strings as cells. -/
def Shorts (cs : Array Value) (m : Nat) : Prop := ∀ k, k < cs.size → ∃ s : ByteArray, cs[k]? = some (.string s) ∧ s.size ≤ m
def OfD (m bo : Nat) (A : Option Addr) (n cap a : Nat) (w : World) : Ending → World → Prop := fun e w' =>
  ∃ s : ByteArray, e = .returned (.string s) ∧ s.size ≤ m ∧ Dr bo w w' ∧ Rdr w' bo A n cap (a + 1)
set_option maxHeartbeats 1000000 in
theorem of_any {W : World} {A : Option Addr} {bs : List Int} (hB : Byts W A bs) (hl : bs.length ≤ 2000) (bo cap a : Nat) (w : World) (hE : Ex W w) (hbo : W.heap.size ≤ bo)
    (hb : Rdr w bo A bs.length cap a) (ha : a ≤ 1000000) (g n m : Nat) (cs : Array Value) (t : TypeId) (hg : Box w g t cs) (hne : g ≠ bo) (hn : cs.size = n) (h1 : 1 ≤ n) (h2 : n ≤ 1000) (hs : Shorts cs m) :
    Calls Tryd.prog 41 #[.pointer (some ⟨bo, 0, none⟩), .slice (some ⟨g, 0, none⟩) n n] w (OfD m bo A bs.length cap a w) := by
  have hp := pick_dr hB hl bo cap a (n : Int) w hE hbo hb (by omega) (by omega) (by omega)
  have HP := Lib.hid hp
  clear hp hB hl hb ha hE hbo
  go_enter Tryd.func41, Tryd.ntmps41
  go_wp2_with fail
  refine HP.out.mono ?_
  rintro e w1 ⟨v, rfl, hv0, hv1, hd, hb1⟩
  obtain ⟨j, rfl⟩ := Int.eq_ofNat_of_zero_le hv0
  have hj : j < cs.size := by omega
  obtain ⟨s, hs1, hs2⟩ := hs j hj
  have hc : w1.cell? ⟨g, j, none⟩ = some (.string s) := by rw [(hd.box _ _ _ hne hg).cell j, hs1]
  have hjI : (j : Int) < (n : Int) := hv1
  clear HP
  go_wp2
  go_ret
  exact ⟨s, rfl, hs2, hd, hb1⟩
theorem shorts_list {ss : List ByteArray} {m : Nat} (h : ∀ s ∈ ss, s.size ≤ m) : Shorts ((ss.map Value.string).toArray) m := by
  intro k hk
  have hk2 : k < ss.length := by simpa using hk
  refine ⟨ss[k], ?_, h _ (List.getElem_mem hk2)⟩
  simp [hk2]
theorem shorts10 : Shorts #[.string ⟨#[]⟩, .string ⟨#[43, 49]⟩, .string ⟨#[49, 43, 48, 105]⟩, .string ⟨#[43, 49, 45, 48, 105]⟩, .string ⟨#[43, 50, 43, 52, 105, 47, 50]⟩, .string ⟨#[43, 49, 43, 48, 105, 47, 49]⟩, .string ⟨#[43, 48, 49, 43, 48, 105]⟩, .string ⟨#[45, 51, 43, 50, 105, 47, 48]⟩, .string ⟨#[43, 49, 43, 49, 105, 47]⟩, .string ⟨#[43, 57, 57, 57, 57, 57, 57, 57, 57, 57, 57, 43, 48, 105]⟩] 100 := by
  refine shorts_list (ss := [⟨#[]⟩, ⟨#[43, 49]⟩, ⟨#[49, 43, 48, 105]⟩, ⟨#[43, 49, 45, 48, 105]⟩, ⟨#[43, 50, 43, 52, 105, 47, 50]⟩, ⟨#[43, 49, 43, 48, 105, 47, 49]⟩, ⟨#[43, 48, 49, 43, 48, 105]⟩, ⟨#[45, 51, 43, 50, 105, 47, 48]⟩, ⟨#[43, 49, 43, 49, 105, 47]⟩, ⟨#[43, 57, 57, 57, 57, 57, 57, 57, 57, 57, 57, 43, 48, 105]⟩]) ?_
  intro s hs
  simp only [List.mem_cons, List.not_mem_nil, or_false] at hs
  rcases hs with rfl | rfl | rfl | rfl | rfl | rfl | rfl | rfl | rfl | rfl <;> decide
set_option maxRecDepth 10000 in
set_option maxHeartbeats 2000000 in
theorem drawFracRead (A : Option Addr) (xs : List Int) (cap : Nat) (w : World) (hB : Byts w A xs) (hl : xs.length ≤ 9223372036854775807) (hcap : xs.length ≤ cap) (hcap2 : cap ≤ 9223372036854775807) :
    Calls Tryd.prog 19 #[.slice A xs.length cap] w fun e w' => ∃ s : ByteArray, e = .returned (.string s) ∧ s.size ≤ 100 ∧ Ex w w' := by
  have ko := fun w hB => l6Open_any A xs cap w hB hl hcap hcap2
  have KO := Lib.hid ko
  clear ko
  go_enter Tryd.func19, Tryd.ntmps19
  go_wp2_with fail
  refine (KO.out _ hB).mono ?_
  rintro e w1 ⟨bs, cap', rfl, hBs, hbl, hbR, hx, -⟩
  go_wp2_with fail
  refine (l91Frac_any hBs hbl w.heap.size cap' 0 w1 hx (Nat.le_refl _) hbR (by omega)).mono ?_
  rintro e w2 ⟨x, a', rfl, ha', hd, hbR2⟩
  have hE := hd.ex w hx (Nat.le_refl _)
  have ks := fun w => sFracText x w
  have hsz : ((Bs (ftext x).1).size ≤ 100) := by
    unfold ftext
    rcases hv : x.valid with _ | _
    · simp [Bs_size]
    · obtain ⟨-, -, -, -, l5⟩ := txt_facts hv
      simp [Bs_size]
      omega
  clear hd hx hbR KO hB
  have ks2 : ∀ w, Calls Tryd.prog 9 #[x.v] w fun e w' => e = .returned (.tuple #[.string (Bs (ftext x).1), .bool (ftext x).2]) ∧ Ex w w' := ks
  generalize Bs (ftext x).1 = S at ks2 hsz
  generalize (ftext x).2 = ok at ks2
  obtain ⟨a1, a2, a3⟩ := x
  have KS : Hid (∀ w, Calls Tryd.prog 9 #[.agg #[.int .i64 a1, .int .i64 a2, .int .i64 a3]] w fun e w' => e = .returned (.tuple #[.string S, .bool ok]) ∧ Ex w w') := ks2
  clear ks ks2
  simp only [Fr.v]
  go_wp2_with fail
  refine (KS.out _).mono ?_
  rintro e w3 ⟨rfl, hx⟩
  replace hE := hE.trans hx
  have hbR3 : Rdr w3 w.heap.size A bs.length cap' a' := Box.ex hbR2 hx
  clear hx hbR2
  have hlt := hbR3.lt
  rcases ok with _ | _
  · go_wp2_with fail
    refine (of_any hBs hbl w.heap.size cap' a' _ (hE.alloc _) (Nat.le_refl _) (Box.alloc hbR3 _) (by omega) w3.heap.size 10 100 _ 9 (Box.new w3 _ _) (by omega) rfl (by omega) (by omega) shorts10).mono ?_
    rintro e w4 ⟨s, rfl, hs, hd, -⟩
    have hE4 := hd.ex w (hE.alloc _) (Nat.le_refl _)
    go_wp2
    go_ret
    exact ⟨s, rfl, hs, hE4⟩
  · go_wp2_with fail
    refine (pick_dr hBs hbl w.heap.size cap' a' 5 w3 hE (Nat.le_refl _) hbR3 (by omega) (by omega) (by omega)).mono ?_
    rintro e w4 ⟨v, rfl, hv0, hv1, hd, hbR4⟩
    replace hE := hd.ex w hE (Nat.le_refl _)
    have hlt4 := hbR4.lt
    clear hd hbR3
    by_cases hv : 0 < v
    · go_wp2
      go_ret
      exact ⟨S, rfl, hsz, hE⟩
    · go_wp2_with fail
      refine (of_any hBs hbl w.heap.size cap' (a' + 1) _ (hE.alloc _) (Nat.le_refl _) (Box.alloc hbR4 _) (by omega) w4.heap.size 10 100 _ 9 (Box.new w4 _ _) (by omega) rfl (by omega) (by omega) shorts10).mono ?_
      rintro e w5 ⟨s, rfl, hs, hd, -⟩
      have hE5 := hd.ex w (hE.alloc _) (Nat.le_refl _)
      go_wp2
      go_ret
      exact ⟨s, rfl, hs, hE5⟩
end Go.Proofs.YtklkfkgpjjpaiaaDoor
