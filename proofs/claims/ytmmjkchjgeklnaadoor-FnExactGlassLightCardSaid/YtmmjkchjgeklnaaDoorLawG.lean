/-
  Walks: the helpers of the laws on glass: szGlass, toGlass, eqGlass.
-/
import Derived.Test.YtmmjkchjgeklnaaDoorLawI
import Derived.Test.YtmmjkchjgeklnaaDoorGlsP
namespace Go.Proofs.YtmmjkchjgeklnaaDoor
open Go.RowKit

theorem szGlass_any (r c : Int) (A : Option Addr) (n cap : Nat) (k : Int) (w : World) (h0 : 0 ≤ k) (h1 : k ≤ 1048576) (hn : n ≤ 9223372036854775807) :
    Calls Tryd.prog 5 #[.agg #[.int .i64 r, .int .i64 c, .slice A n cap], .int .i64 k] w fun e w' => e = .returned (.int .i64 (if k < n then -1 else k - n)) ∧ Ex w w' := by
  by_cases h : k < n
  · go_enter Tryd.func5, Tryd.ntmps5
    go_wp2_with (go_at_call 17; refine (szIntS_any _ _ _ _ _ h0 h1 hn).mono ?_; rintro e w' ⟨rfl, rfl⟩)
    go_ret
    exact ⟨ret_int (by first | rfl | rw [if_pos h]), (Ex.refl _).alloc _⟩
  · go_enter Tryd.func5, Tryd.ntmps5
    go_wp2_with (go_at_call 17; refine (szIntS_any _ _ _ _ _ h0 h1 hn).mono ?_; rintro e w' ⟨rfl, rfl⟩)
    go_ret
    exact ⟨ret_int (by first | rfl | rw [if_neg (by omega)]), (Ex.refl _).alloc _⟩

def GotG (w : World) (r c : Int) (xs : List Int) (e : Ending) (w' : World) : Prop :=
  ∃ A cap, e = .returned (.agg #[.int .i64 r, .int .i64 c, .slice A xs.length cap]) ∧ OwnI w' w.heap.size A cap xs ∧ Ex w w'

set_option maxHeartbeats 400000 in
theorem toGlass_any (r c : Int) (A : Option Addr) (xs : List Int) (cap : Nat) (w : World) (hI : Ints w A xs) (hl : xs.length ≤ 1048576) :
    Calls Tryd.prog 7 #[.agg #[.int .i64 r, .int .i64 c, .slice A xs.length cap]] w (GotG w r c xs) := by
  go_enter Tryd.func7, Tryd.ntmps7
  go_wp2_with fail
  refine (toIntS_any A xs cap _ (((hI.alloc _).alloc _).alloc _) hl).mono ?_
  rintro e w1 ⟨A1, d1, rfl, hown, hx⟩
  have hW := (((Ex.refl w).alloc _).alloc _).alloc _ |>.trans hx
  have b3 := (Box.new _ _ _).ex hx
  have b2 := ((Box.new _ _ _).alloc _).ex hx
  have b1 := (((Box.new _ _ _).alloc _).alloc _).ex hx
  simp only [World.size_alloc] at b2 b3
  have c1 := b1.cell; have c2 := b2.cell; have c3 := b3.cell; have f2 := b2.frozen; have f3 := b3.frozen
  have HO := Lib.hid hown
  have HW := Lib.hid hW
  clear hown hW b1 b2 b3 hx hI
  go_wp2_with fail
  refine bodyPost_ret (v := .agg #[.int .i64 r, .int .i64 c, .slice A1 xs.length d1]) (by simp [results, Tryd.results7, go_sem, *]) rfl ?_
  exact ⟨A1, d1, rfl, ((((HO.out.setBelow (by simp) _).setBelow (by simp) _).setBelow (by simp) _).setBelow (by simp) _).wide (by simp; omega),
    (((HW.out.setCell (by simp; omega) _).setCell (by simp) _).setCell (by simp) _).setCell (by simp) _⟩

theorem eqGlass_any (r c r' c' : Int) (A B : Option Addr) (xs ys : List Int) (ca cb : Nat) (w : World) (hA : Ints w A xs) (hB : Ints w B ys)
    (hl : xs.length ≤ 1048576) (hl' : ys.length ≤ 1048576) :
    Calls Tryd.prog 10 #[.agg #[.int .i64 r, .int .i64 c, .slice A xs.length ca], .agg #[.int .i64 r', .int .i64 c', .slice B ys.length cb]] w
      fun e w' => e = .returned (.bool (decide (r = r' ∧ c = c' ∧ xs = ys))) ∧ Ex w w' := by
  have hb2 : ∀ o o', Ex w ((w.alloc o).alloc o') := fun o o' => ((Ex.refl _).alloc o).alloc o'
  rcases h1 : (r != r') with _ | _
  case true =>
    go_enter Tryd.func10, Tryd.ntmps10
    go_wp2_with fail
    go_ret
    exact ⟨ret_bool (by symm; rw [decide_eq_false_iff_not]; rintro ⟨rfl, -⟩; simp at h1), hb2 _ _⟩
  rcases h2 : (c != c') with _ | _
  case true =>
    go_enter Tryd.func10, Tryd.ntmps10
    go_wp2_with fail
    go_ret
    exact ⟨ret_bool (by symm; rw [decide_eq_false_iff_not]; rintro ⟨_, rfl, -⟩; simp at h2), hb2 _ _⟩
  go_enter Tryd.func10, Tryd.ntmps10
  go_wp2_with (go_at_call 30; refine (eqIntS_any A B xs ys ca cb _ ((hA.alloc _).alloc _) ((hB.alloc _).alloc _) hl hl').mono ?_; rintro e w1 ⟨rfl, hb⟩)
  all_goals
    go_ret
    refine ⟨ret_bool ?_, (hb2 _ _).trans hb⟩
    simp only [bne_eq_false_iff_eq] at h1 h2
    simp_all
end Go.Proofs.YtmmjkchjgeklnaaDoor
