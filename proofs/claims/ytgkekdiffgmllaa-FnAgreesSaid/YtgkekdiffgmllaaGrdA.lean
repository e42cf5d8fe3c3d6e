/-
  Walks: whether both ways agree, the program's and the reference's.
-/
import Derived.Test.YtgkekdiffgmllaaGrdBs
namespace Go.Proofs.Ytgkekdiffgmllaa
open Go.RowKit

def gagrees (xs : List Fr) (a : Fr) : Bool := (gfit xs a).2 && (gbest xs a).2 && decide ((gfit xs a).1 = (gbest xs a).1)

set_option maxHeartbeats 400000 in
theorem iGridAgrees (A : Option Addr) (xs : List Fr) (cap : Nat) (a : Fr) (w : World) (hS : Fracs w A xs) (hl : xs.length ≤ 1048576) :
    Calls Try.prog 50 #[.slice A xs.length cap, a.v] w fun e w' => e = .returned (.bool (gagrees xs a)) ∧ Ex w w' := by
  have k1 := fun w hS => iGridFit A xs cap a w hS hl
  have k2 := fun w hS => iGridBest A xs cap a w hS hl
  unfold gagrees
  generalize gfit xs a = p at k1 ⊢
  generalize gbest xs a = q at k2 ⊢
  obtain ⟨p1, p2⟩ := p
  obtain ⟨q1, q2⟩ := q
  obtain ⟨a1, a2, a3⟩ := a
  have K1 : Hid (∀ w, Fracs w A xs → Calls Try.prog 24 #[.slice A xs.length cap, .agg #[.int .i64 a1, .int .i64 a2, .int .i64 a3]] w fun e w' => e = .returned (.tuple #[.int .i64 (p1 : Nat), .bool p2]) ∧ Ex w w') := k1
  have K2 : Hid (∀ w, Fracs w A xs → Calls Try.prog 39 #[.slice A xs.length cap, .agg #[.int .i64 a1, .int .i64 a2, .int .i64 a3]] w fun e w' => e = .returned (.tuple #[.int .i64 (q1 : Nat), .bool q2]) ∧ Ex w w') := k2
  clear k1 k2
  show Calls _ _ #[_, .agg #[.int .i64 a1, .int .i64 a2, .int .i64 a3]] _ _
  have hpq : decide ((p1 : Int) = (q1 : Int)) = decide (p1 = q1) := by
    by_cases h : p1 = q1
    · simp [h]
    · have : ¬ (p1 : Int) = (q1 : Int) := by omega
      simp [h, this]
  rcases p2 with _ | _ <;> rcases q2 with _ | _ <;> rcases hd : decide (p1 = q1) with _ | _
  all_goals
    rw [hd] at hpq
    go_enter Try.func50, Try.ntmps50
    go_wp2_with fail
    refine (K1.out _ (hS.alloc _)).mono ?_
    rintro e w1 ⟨rfl, hx⟩
    have bA := (Box.new _ _ _).ex hx
    have cA := bA.cell
    replace hx := ((Ex.refl _).alloc _).trans hx
    go_wp2_with fail
    refine (K2.out _ (hS.ex hx)).mono ?_
    rintro e w2 ⟨rfl, hx2⟩
    replace hx := hx.trans hx2
    clear hx2 cA bA
    go_wp2
    all_goals
      go_ret
      refine ⟨ret_bool ?_, hx⟩
      simp_all

set_option maxHeartbeats 400000 in
theorem sGridAgrees (A : Option Addr) (xs : List Fr) (cap : Nat) (a : Fr) (w : World) (hS : Fracs w A xs) (hl : xs.length ≤ 1048576) :
    Calls Try.prog 49 #[.slice A xs.length cap, a.v] w fun e w' => e = .returned (.bool (gagrees xs a)) ∧ Ex w w' := by
  have k1 := fun w hS => sGridFit A xs cap a w hS hl
  have k2 := fun w hS => sGridBest A xs cap a w hS hl
  unfold gagrees
  generalize gfit xs a = p at k1 ⊢
  generalize gbest xs a = q at k2 ⊢
  obtain ⟨p1, p2⟩ := p
  obtain ⟨q1, q2⟩ := q
  obtain ⟨a1, a2, a3⟩ := a
  have K1 : Hid (∀ w, Fracs w A xs → Calls Try.prog 21 #[.slice A xs.length cap, .agg #[.int .i64 a1, .int .i64 a2, .int .i64 a3]] w fun e w' => e = .returned (.tuple #[.int .i64 (p1 : Nat), .bool p2]) ∧ Ex w w') := k1
  have K2 : Hid (∀ w, Fracs w A xs → Calls Try.prog 38 #[.slice A xs.length cap, .agg #[.int .i64 a1, .int .i64 a2, .int .i64 a3]] w fun e w' => e = .returned (.tuple #[.int .i64 (q1 : Nat), .bool q2]) ∧ Ex w w') := k2
  clear k1 k2
  show Calls _ _ #[_, .agg #[.int .i64 a1, .int .i64 a2, .int .i64 a3]] _ _
  have hpq : decide ((p1 : Int) = (q1 : Int)) = decide (p1 = q1) := by
    by_cases h : p1 = q1
    · simp [h]
    · have : ¬ (p1 : Int) = (q1 : Int) := by omega
      simp [h, this]
  rcases p2 with _ | _ <;> rcases q2 with _ | _ <;> rcases hd : decide (p1 = q1) with _ | _
  all_goals
    rw [hd] at hpq
    go_enter Try.func49, Try.ntmps49
    go_wp2_with fail
    refine (K1.out _ (hS.alloc _)).mono ?_
    rintro e w1 ⟨rfl, hx⟩
    have bA := (Box.new _ _ _).ex hx
    have cA := bA.cell
    replace hx := ((Ex.refl _).alloc _).trans hx
    go_wp2_with fail
    refine (K2.out _ (hS.ex hx)).mono ?_
    rintro e w2 ⟨rfl, hx2⟩
    replace hx := hx.trans hx2
    clear hx2 cA bA
    go_wp2
    all_goals
      go_ret
      refine ⟨ret_bool ?_, hx⟩
      simp_all

end Go.Proofs.Ytgkekdiffgmllaa
