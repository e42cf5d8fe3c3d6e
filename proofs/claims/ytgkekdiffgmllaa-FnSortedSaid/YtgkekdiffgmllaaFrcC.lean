/-
  Walks: comparisons of fractions.
-/
import Derived.Test.YtgkekdiffgmllaaFrcX
namespace Go.Proofs.Ytgkekdiffgmllaa
open Go.RowKit

def freal (a : Fr) : Bool := a.valid && decide (a.im = 0)
def CmpGot (w : World) (r : Int × Bool) : Ending → World → Prop := fun e w' => e = .returned (.tuple #[.int .i64 r.1, .bool r.2]) ∧ Ex w w'
theorem fcmp_no1 {a b : Fr} (h : freal a = false) : fcmp a b = (0, false) := by
  unfold fcmp
  rw [if_neg]
  simp only [freal, Bool.and_eq_false_iff] at h
  intro hc
  simp only [Bool.and_eq_true] at hc
  rcases h with h | h
  · rw [h] at hc; simp at hc
  · rw [h] at hc; simp at hc
theorem fcmp_no2 {a b : Fr} (h : freal b = false) : fcmp a b = (0, false) := by
  unfold fcmp
  rw [if_neg]
  simp only [freal, Bool.and_eq_false_iff] at h
  intro hc
  simp only [Bool.and_eq_true] at hc
  rcases h with h | h
  · rw [h] at hc; simp at hc
  · rw [h] at hc; simp at hc
theorem fcmp_ok {a b : Fr} (h1 : freal a = true) (h2 : freal b = true) : fcmp a b = (fsign (a.re * b.den - b.re * a.den), true) := by
  unfold fcmp
  simp only [freal, Bool.and_eq_true] at h1 h2
  rw [h1.1, h1.2, h2.1, h2.2]
  rfl
theorem realOk_any (a1 a2 a3 : Int) (w : World) : Calls Try.prog 76 #[.agg #[.int .i64 a1, .int .i64 a2, .int .i64 a3]] w fun e w' => e = .returned (.bool (freal ⟨a1, a2, a3⟩)) ∧ Ex w w' := by
  have k1 := fun w => iFracValid a1 a2 a3 w
  rcases h1 : fvalid a1 a2 a3 with _ | _
  · have hr : freal ⟨a1, a2, a3⟩ = false := by simp [freal, Fr.valid, h1]
    simp only [h1] at k1
    rw [hr]
    clear hr h1
    go_enter Try.func76, Try.ntmps76
    go_wp2_with fail
    refine (k1 _).mono ?_
    rintro e w1 ⟨rfl, hx⟩
    go_wp2
    go_ret
    exact ⟨rfl, ((Ex.refl _).alloc _).trans hx⟩
  · have hr : freal ⟨a1, a2, a3⟩ = decide (a2 = 0) := by simp [freal, Fr.valid, h1]
    simp only [h1] at k1
    rw [hr]
    clear hr h1
    go_enter Try.func76, Try.ntmps76
    go_wp2_with fail
    refine (k1 _).mono ?_
    rintro e w1 ⟨rfl, hx⟩
    have b := (Box.new _ _ _).ex hx
    have c := b.cell
    go_wp2
    go_ret
    exact ⟨ret_bool (by rfl), ((Ex.refl _).alloc _).trans hx⟩
theorem fsign_cases (n : Int) : (fsign n = -1 ∧ n < 0) ∨ (fsign n = 1 ∧ 0 < n) ∨ (fsign n = 0 ∧ n = 0) := by
  unfold fsign
  split
  · exact .inl ⟨rfl, by assumption⟩
  · split
    · exact .inr (.inl ⟨rfl, by assumption⟩)
    · exact .inr (.inr ⟨rfl, by omega⟩)
theorem l2Sign_any (n : Int) (w : World) : Calls Try.prog 90 #[.int .i64 n] w fun e w' => e = .returned (.int .i64 (fsign n)) ∧ w' = w := by
  go_enter Try.func90, Try.ntmps90
  go_wp2
  all_goals
    go_ret
    refine ⟨ret_int ?_, rfl⟩
    unfold fsign
    split
    · omega
    · split <;> omega

set_option maxHeartbeats 1000000 in
theorem iFracCompare (a b : Fr) (w : World) : Calls Try.prog 46 #[a.v, b.v] w (CmpGot w (fcmp a b)) := by
  obtain ⟨a1, a2, a3⟩ := a
  obtain ⟨b1, b2, b3⟩ := b
  show Calls _ _ #[.agg #[.int .i64 a1, .int .i64 a2, .int .i64 a3], .agg #[.int .i64 b1, .int .i64 b2, .int .i64 b3]] _ _
  have k1 := fun w => realOk_any a1 a2 a3 w
  have k2 := fun w => realOk_any b1 b2 b3 w
  rcases h1 : freal ⟨a1, a2, a3⟩ with _ | _
  · rw [fcmp_no1 h1]
    simp only [h1] at k1
    clear h1
    go_enter Try.func46, Try.ntmps46
    go_wp2_with fail
    refine (k1 _).mono ?_
    rintro e w1 ⟨rfl, hx⟩
    have bA := ((Box.new _ _ _).alloc _).ex hx
    have bB := (Box.new _ _ _).ex hx
    simp only [World.size_alloc] at bB
    replace hx := (((Ex.refl w).alloc _).alloc _).trans hx
    have hE := hx
    have cbA := bA.cell
    have fbA := bA.frozen
    have zbA := bA.lt
    have cbB := bB.cell
    have fbB := bB.frozen
    have zbB := bB.lt
    clear hx
    go_wp2
    refine bodyPost_ret (v := .tuple #[.int .i64 0, .bool false]) ?_ rfl ⟨rfl, ?_⟩
    · simp [results, Try.results46, go_sem]
    · repeat' (with_reducible first | exact Ex.refl _ | assumption | refine Ex.alloc ?_ _ | refine Ex.drewN ?_ _ | refine Ex.drew ?_ | refine Ex.setCell ?_ (by simp <;> omega) _)
  rcases h2 : freal ⟨b1, b2, b3⟩ with _ | _
  · rw [fcmp_no2 h2]
    simp only [h1] at k1
    simp only [h2] at k2
    clear h1 h2
    go_enter Try.func46, Try.ntmps46
    go_wp2_with fail
    refine (k1 _).mono ?_
    rintro e w1 ⟨rfl, hx⟩
    have bA := ((Box.new _ _ _).alloc _).ex hx
    have bB := (Box.new _ _ _).ex hx
    simp only [World.size_alloc] at bB
    replace hx := (((Ex.refl w).alloc _).alloc _).trans hx
    have hE := hx
    have cbA := bA.cell
    have fbA := bA.frozen
    have zbA := bA.lt
    have cbB := bB.cell
    have fbB := bB.frozen
    have zbB := bB.lt
    clear hx
    go_wp2_with fail
    refine (k2 _).mono ?_
    rintro e w2 ⟨rfl, hx⟩
    replace hE := hE.trans hx
    replace bA := bA.ex hx
    replace cbA := bA.cell
    replace fbA := bA.frozen
    replace zbA := bA.lt
    replace bB := bB.ex hx
    replace cbB := bB.cell
    replace fbB := bB.frozen
    replace zbB := bB.lt
    clear hx
    go_wp2
    refine bodyPost_ret (v := .tuple #[.int .i64 0, .bool false]) ?_ rfl ⟨rfl, ?_⟩
    · simp [results, Try.results46, go_sem]
    · repeat' (with_reducible first | exact Ex.refl _ | assumption | refine Ex.alloc ?_ _ | refine Ex.drewN ?_ _ | refine Ex.drew ?_ | refine Ex.setCell ?_ (by simp <;> omega) _)
  rw [fcmp_ok h1 h2]
  have hv1 : fvalid a1 a2 a3 = true := by unfold freal at h1; simp only [Bool.and_eq_true] at h1; exact h1.1
  have hv2 : fvalid b1 b2 b3 = true := by unfold freal at h2; simp only [Bool.and_eq_true] at h2; exact h2.1
  obtain ⟨ap1, -, ap3, -⟩ := fvalid_out hv1
  obtain ⟨bp1, -, bp3, -⟩ := fvalid_out hv2
  have m1 := mul_bd (a := a1) (b := b3) (by omega) (by omega)
  have m2 := mul_bd (a := b1) (b := a3) (by omega) (by omega)
  show Calls _ _ _ _ (CmpGot w (fsign (a1 * b3 - b1 * a3), true))
  generalize ex1 : a1 * b3 = x1 at m1 ⊢
  generalize ex2 : b1 * a3 = x2 at m2 ⊢
  simp only [h1] at k1
  simp only [h2] at k2
  clear h1 h2 hv1 hv2
  go_enter Try.func46, Try.ntmps46
  go_wp2_with fail
  refine (k1 _).mono ?_
  rintro e w1 ⟨rfl, hx⟩
  have bA := ((Box.new _ _ _).alloc _).ex hx
  have bB := (Box.new _ _ _).ex hx
  simp only [World.size_alloc] at bB
  replace hx := (((Ex.refl w).alloc _).alloc _).trans hx
  have hE := hx
  have cbA := bA.cell
  have fbA := bA.frozen
  have zbA := bA.lt
  have cbB := bB.cell
  have fbB := bB.frozen
  have zbB := bB.lt
  clear hx
  go_wp2_with fail
  refine (k2 _).mono ?_
  rintro e w2 ⟨rfl, hx⟩
  replace hE := hE.trans hx
  replace bA := bA.ex hx
  replace cbA := bA.cell
  replace fbA := bA.frozen
  replace zbA := bA.lt
  replace bB := bB.ex hx
  replace cbB := bB.cell
  replace fbB := bB.frozen
  replace zbB := bB.lt
  clear hx
  go_wp2
  all_goals
    rcases fsign_cases (x1 - x2) with ⟨hs, hn⟩ | ⟨hs, hn⟩ | ⟨hs, hn⟩
    all_goals
      first
        | (exfalso; omega)
        | (refine bodyPost_ret (v := .tuple #[.int .i64 (fsign (x1 - x2)), .bool true]) ?_ rfl ⟨rfl, ?_⟩
           · simp [results, Try.results46, go_sem, hs]
           · repeat' (with_reducible first | exact Ex.refl _ | assumption | refine Ex.alloc ?_ _ | refine Ex.drewN ?_ _ | refine Ex.drew ?_ | refine Ex.setCell ?_ (by simp <;> omega) _))
set_option maxHeartbeats 1000000 in
theorem sFracCompare (a b : Fr) (w : World) : Calls Try.prog 71 #[a.v, b.v] w (CmpGot w (fcmp a b)) := by
  obtain ⟨a1, a2, a3⟩ := a
  obtain ⟨b1, b2, b3⟩ := b
  show Calls _ _ #[.agg #[.int .i64 a1, .int .i64 a2, .int .i64 a3], .agg #[.int .i64 b1, .int .i64 b2, .int .i64 b3]] _ _
  have k1 := fun w => sFracValid a1 a2 a3 w
  have k2 := fun w => sFracValid b1 b2 b3 w
  rcases h1 : fvalid a1 a2 a3 with _ | _
  · have hr : fcmp ⟨a1, a2, a3⟩ ⟨b1, b2, b3⟩ = (0, false) := by simp [fcmp, Fr.valid, h1]
    rw [hr]
    simp only [h1] at k1
    clear hr h1
    go_enter Try.func71, Try.ntmps71
    go_wp2_with fail
    refine (k1 _).mono ?_
    rintro e w1 ⟨rfl, hx⟩
    have bA := ((Box.new _ _ _).alloc _).ex hx
    have bB := (Box.new _ _ _).ex hx
    simp only [World.size_alloc] at bB
    replace hx := (((Ex.refl w).alloc _).alloc _).trans hx
    have hE := hx
    have cbA := bA.cell
    have fbA := bA.frozen
    have zbA := bA.lt
    have cbB := bB.cell
    have fbB := bB.frozen
    have zbB := bB.lt
    clear hx
    go_wp2
    refine bodyPost_ret (v := .tuple #[.int .i64 0, .bool false]) ?_ rfl ⟨rfl, ?_⟩
    · simp [results, Try.results71, go_sem]
    · repeat' (with_reducible first | exact Ex.refl _ | assumption | refine Ex.alloc ?_ _ | refine Ex.drewN ?_ _ | refine Ex.drew ?_ | refine Ex.setCell ?_ (by simp <;> omega) _)
  rcases h2 : fvalid b1 b2 b3 with _ | _
  · have hr : fcmp ⟨a1, a2, a3⟩ ⟨b1, b2, b3⟩ = (0, false) := by simp [fcmp, Fr.valid, h1, h2]
    rw [hr]
    simp only [h1] at k1
    simp only [h2] at k2
    clear hr h1 h2
    go_enter Try.func71, Try.ntmps71
    go_wp2_with fail
    refine (k1 _).mono ?_
    rintro e w1 ⟨rfl, hx⟩
    have bA := ((Box.new _ _ _).alloc _).ex hx
    have bB := (Box.new _ _ _).ex hx
    simp only [World.size_alloc] at bB
    replace hx := (((Ex.refl w).alloc _).alloc _).trans hx
    have hE := hx
    have cbA := bA.cell
    have fbA := bA.frozen
    have zbA := bA.lt
    have cbB := bB.cell
    have fbB := bB.frozen
    have zbB := bB.lt
    clear hx
    go_wp2_with fail
    refine (k2 _).mono ?_
    rintro e w2 ⟨rfl, hx⟩
    replace hE := hE.trans hx
    replace bA := bA.ex hx
    replace cbA := bA.cell
    replace fbA := bA.frozen
    replace zbA := bA.lt
    replace bB := bB.ex hx
    replace cbB := bB.cell
    replace fbB := bB.frozen
    replace zbB := bB.lt
    clear hx
    go_wp2
    refine bodyPost_ret (v := .tuple #[.int .i64 0, .bool false]) ?_ rfl ⟨rfl, ?_⟩
    · simp [results, Try.results71, go_sem]
    · repeat' (with_reducible first | exact Ex.refl _ | assumption | refine Ex.alloc ?_ _ | refine Ex.drewN ?_ _ | refine Ex.drew ?_ | refine Ex.setCell ?_ (by simp <;> omega) _)
  rcases h3 : (a2 != 0) with _ | _
  case true =>
    have hr : fcmp ⟨a1, a2, a3⟩ ⟨b1, b2, b3⟩ = (0, false) := by simp [fcmp, Fr.valid, h1, h2, show ¬ a2 = 0 by simpa using h3]
    rw [hr]
    simp only [h1] at k1
    simp only [h2] at k2
    clear hr h1 h2
    go_enter Try.func71, Try.ntmps71
    go_wp2_with fail
    refine (k1 _).mono ?_
    rintro e w1 ⟨rfl, hx⟩
    have bA := ((Box.new _ _ _).alloc _).ex hx
    have bB := (Box.new _ _ _).ex hx
    simp only [World.size_alloc] at bB
    replace hx := (((Ex.refl w).alloc _).alloc _).trans hx
    have hE := hx
    have cbA := bA.cell
    have fbA := bA.frozen
    have zbA := bA.lt
    have cbB := bB.cell
    have fbB := bB.frozen
    have zbB := bB.lt
    clear hx
    go_wp2_with fail
    refine (k2 _).mono ?_
    rintro e w2 ⟨rfl, hx⟩
    replace hE := hE.trans hx
    replace bA := bA.ex hx
    replace cbA := bA.cell
    replace fbA := bA.frozen
    replace zbA := bA.lt
    replace bB := bB.ex hx
    replace cbB := bB.cell
    replace fbB := bB.frozen
    replace zbB := bB.lt
    clear hx
    go_wp2
    refine bodyPost_ret (v := .tuple #[.int .i64 0, .bool false]) ?_ rfl ⟨rfl, ?_⟩
    · simp [results, Try.results71, go_sem]
    · repeat' (with_reducible first | exact Ex.refl _ | assumption | refine Ex.alloc ?_ _ | refine Ex.drewN ?_ _ | refine Ex.drew ?_ | refine Ex.setCell ?_ (by simp <;> omega) _)
  rcases h4 : (b2 != 0) with _ | _
  case true =>
    have hr : fcmp ⟨a1, a2, a3⟩ ⟨b1, b2, b3⟩ = (0, false) := by simp [fcmp, Fr.valid, h1, h2, show ¬ b2 = 0 by simpa using h4]
    rw [hr]
    simp only [h1] at k1
    simp only [h2] at k2
    clear hr h1 h2
    go_enter Try.func71, Try.ntmps71
    go_wp2_with fail
    refine (k1 _).mono ?_
    rintro e w1 ⟨rfl, hx⟩
    have bA := ((Box.new _ _ _).alloc _).ex hx
    have bB := (Box.new _ _ _).ex hx
    simp only [World.size_alloc] at bB
    replace hx := (((Ex.refl w).alloc _).alloc _).trans hx
    have hE := hx
    have cbA := bA.cell
    have fbA := bA.frozen
    have zbA := bA.lt
    have cbB := bB.cell
    have fbB := bB.frozen
    have zbB := bB.lt
    clear hx
    go_wp2_with fail
    refine (k2 _).mono ?_
    rintro e w2 ⟨rfl, hx⟩
    replace hE := hE.trans hx
    replace bA := bA.ex hx
    replace cbA := bA.cell
    replace fbA := bA.frozen
    replace zbA := bA.lt
    replace bB := bB.ex hx
    replace cbB := bB.cell
    replace fbB := bB.frozen
    replace zbB := bB.lt
    clear hx
    go_wp2
    refine bodyPost_ret (v := .tuple #[.int .i64 0, .bool false]) ?_ rfl ⟨rfl, ?_⟩
    · simp [results, Try.results71, go_sem]
    · repeat' (with_reducible first | exact Ex.refl _ | assumption | refine Ex.alloc ?_ _ | refine Ex.drewN ?_ _ | refine Ex.drew ?_ | refine Ex.setCell ?_ (by simp <;> omega) _)
  have hr : fcmp ⟨a1, a2, a3⟩ ⟨b1, b2, b3⟩ = (fsign (a1 * b3 - b1 * a3), true) := by unfold fcmp; rw [if_pos (by simp [Fr.valid, h1, h2]; exact ⟨by simpa using h3, by simpa using h4⟩)]
  rw [hr]
  obtain ⟨ap1, -, ap3, -⟩ := fvalid_out h1
  obtain ⟨bp1, -, bp3, -⟩ := fvalid_out h2
  have m1 := mul_bd (a := a1) (b := b3) (by omega) (by omega)
  have m2 := mul_bd (a := b1) (b := a3) (by omega) (by omega)
  generalize ex1 : a1 * b3 = x1 at m1 ⊢
  generalize ex2 : b1 * a3 = x2 at m2 ⊢
  have l1 := fun w => l2Sign_any (x1 - x2) w
  generalize fsign (x1 - x2) = n at l1 ⊢
  simp only [h1] at k1
  simp only [h2] at k2
  clear hr h1 h2
  go_enter Try.func71, Try.ntmps71
  go_wp2_with fail
  refine (k1 _).mono ?_
  rintro e w1 ⟨rfl, hx⟩
  have bA := ((Box.new _ _ _).alloc _).ex hx
  have bB := (Box.new _ _ _).ex hx
  simp only [World.size_alloc] at bB
  replace hx := (((Ex.refl w).alloc _).alloc _).trans hx
  have hE := hx
  have cbA := bA.cell
  have fbA := bA.frozen
  have zbA := bA.lt
  have cbB := bB.cell
  have fbB := bB.frozen
  have zbB := bB.lt
  clear hx
  go_wp2_with fail
  refine (k2 _).mono ?_
  rintro e w2 ⟨rfl, hx⟩
  replace hE := hE.trans hx
  replace bA := bA.ex hx
  replace cbA := bA.cell
  replace fbA := bA.frozen
  replace zbA := bA.lt
  replace bB := bB.ex hx
  replace cbB := bB.cell
  replace fbB := bB.frozen
  replace zbB := bB.lt
  clear hx
  go_wp2_with fail
  refine (l1 _).mono ?_
  rintro e w3 ⟨rfl, rfl⟩
  go_wp2
  refine bodyPost_ret (v := .tuple #[.int .i64 n, .bool true]) ?_ rfl ⟨rfl, ?_⟩
  · simp [results, Try.results71, go_sem]
  · repeat' (with_reducible first | exact Ex.refl _ | assumption | refine Ex.alloc ?_ _ | refine Ex.drewN ?_ _ | refine Ex.drew ?_ | refine Ex.setCell ?_ (by simp <;> omega) _)
end Go.Proofs.Ytgkekdiffgmllaa

