/-
  Proved: what functions compute, part 21. No condition.
-/
import Derived.Test.YtmmjkchjgeklnaaGreatDoorK04
import Derived.Test.YtmmjkchjgeklnaaGreatDoorK20
import Derived.Test.YtmmjkchjgeklnaaGreatDoorK06
set_option linter.unusedSimpArgs false
set_option linter.unusedVariables false
set_option maxRecDepth 20000
set_option maxHeartbeats 8000000
namespace Go.Proofs.YtmmjkchjgeklnaaGreatDoor
section
open Go.RowKit

def Xf (a : Fr) : Nat × Nat × Bool := if a.valid then (Ty a.re a.den, Ty a.im a.den, true) else (0, 0, false)
def Tj (a : Fr) : Nat × Nat × Bool := if a.valid then (Uj a.re a.den, Uj a.im a.den, true) else (0, 0, false)
def SglGot (k : FloatKind) (w : World) (r : Nat × Nat × Bool) : Ending → World → Prop := fun e w' => e = .returned (.tuple #[.complex k r.1 r.2.1, .bool r.2.2]) ∧ Ex w w'
theorem Lm {n d : Int} (h1 : -2000000000 ≤ n ∧ n ≤ 2000000000) (h2 : 1 ≤ d ∧ d ≤ 2000000000) :
  ∀ t w, (binOp .quo t (.float .f64 (floatOfInt .f64 n)) (.float .f64 (floatOfInt .f64 d))).run Tryz.prog w = .ok (.float .f64 (Uj n d)) w :=
 fun t w => run_float_arith w .quo t .f64 _ _ _ (part_at n d h1.1 h1.2 h2.1 h2.2).1
theorem conv_ops {n m d : Int} (h1 : -2000000000 ≤ n ∧ n ≤ 2000000000) (h3 : -2000000000 ≤ m ∧ m ≤ 2000000000) (h2 : 1 ≤ d ∧ d ≤ 2000000000) :
  ∀ w, (convert 94 68 (.complex .f64 (Uj n d) (Uj m d))).run Tryz.prog w = .ok (.complex .f32 (Ty n d) (Ty m d)) w := by
 intro w
 refine run_convert_complex w _ _ .f64 .f32 _ _ _ _ (by kernel_rfl) (by kernel_rfl) ?_
 unfold cConvBits
 rw [(part_at n d h1.1 h1.2 h2.1 h2.2).2.1, (part_at m d h3.1 h3.2 h2.1 h2.2).2.1]
 rfl

theorem iFracWide (a : Fr) (w : World) : Calls Tryz.prog 53 #[a.v] w (SglGot .f64 w (Tj a)) := by
 obtain ⟨a1, a2, a3⟩ := a
 show Calls _ _ #[.agg #[.int .i64 a1, .int .i64 a2, .int .i64 a3]] _ _
 have k1 := fun w => Xx a1 a2 a3 w
 rcases h1 : Zh a1 a2 a3 with _ | _
 ·have hr : Tj ⟨a1, a2, a3⟩ = (0, 0, false) := by simp [Tj, Fr.valid, h1]
  simp only [h1] at k1
  rw [hr]
  have K1 := Gv k1
  clear k1 hr h1
  go_enter Tryz.func53, Tryz.ntmps53
  go_wp2_with fail
  refine (K1.out _).mono ?_
  rintro e w1 ⟨rfl, hx⟩
  go_wp2
  refine Gq (v := .tuple #[.complex .f64 0 0, .bool false]) ?_ rfl ⟨rfl, ?_⟩
  ·simp [results, Tryz.results53, go_sem]
  ·exact ((Ex.refl _).alloc _).trans hx
 ·have hr : Tj ⟨a1, a2, a3⟩ = (Uj a1 a3, Uj a2 a3, true) := by simp [Tj, Fr.valid, h1]
  obtain ⟨p1, p2, p3, -⟩ := Yd h1
  have o1 := Lm p1 p3
  have o2 := Lm p2 p3
  simp only [h1] at k1
  rw [hr]
  have K1 := Gv k1
  clear k1 hr h1
  go_enter Tryz.func53, Tryz.ntmps53
  go_wp2_with fail
  refine (K1.out _).mono ?_
  rintro e w1 ⟨rfl, hx⟩
  have b := (Box.new _ _ _).ex hx
  have c := b.cell
  go_wp2_with (simp only [o1, o2])
  refine Gq (v := .tuple #[.complex .f64 (Uj a1 a3) (Uj a2 a3), .bool true]) ?_ rfl ⟨rfl, ?_⟩
  ·simp [results, Tryz.results53, go_sem]
  ·exact ((Ex.refl _).alloc _).trans hx
theorem sFracWide (a : Fr) (w : World) : Calls Tryz.prog 79 #[a.v] w (SglGot .f64 w (Tj a)) := by
 obtain ⟨a1, a2, a3⟩ := a
 show Calls _ _ #[.agg #[.int .i64 a1, .int .i64 a2, .int .i64 a3]] _ _
 have k1 := fun w => Xw a1 a2 a3 w
 rcases h1 : Zh a1 a2 a3 with _ | _
 ·have hr : Tj ⟨a1, a2, a3⟩ = (0, 0, false) := by simp [Tj, Fr.valid, h1]
  simp only [h1] at k1
  rw [hr]
  have K1 := Gv k1
  clear k1 hr h1
  go_enter Tryz.func79, Tryz.ntmps79
  go_wp2_with fail
  refine (K1.out _).mono ?_
  rintro e w1 ⟨rfl, hx⟩
  go_wp2
  refine Gq (v := .tuple #[.complex .f64 0 0, .bool false]) ?_ rfl ⟨rfl, ?_⟩
  ·simp [results, Tryz.results79, go_sem]
  ·exact ((Ex.refl _).alloc _).trans hx
 ·have hr : Tj ⟨a1, a2, a3⟩ = (Uj a1 a3, Uj a2 a3, true) := by simp [Tj, Fr.valid, h1]
  obtain ⟨p1, p2, p3, -⟩ := Yd h1
  have o1 := Lm p1 p3
  have o2 := Lm p2 p3
  simp only [h1] at k1
  rw [hr]
  have K1 := Gv k1
  clear k1 hr h1
  go_enter Tryz.func79, Tryz.ntmps79
  go_wp2_with fail
  refine (K1.out _).mono ?_
  rintro e w1 ⟨rfl, hx⟩
  have b := (Box.new _ _ _).ex hx
  have c := b.cell
  go_wp2_with (simp only [o1, o2])
  refine Gq (v := .tuple #[.complex .f64 (Uj a1 a3) (Uj a2 a3), .bool true]) ?_ rfl ⟨rfl, ?_⟩
  ·simp [results, Tryz.results79, go_sem]
  ·exact ((Ex.refl _).alloc _).trans hx
theorem conv_zero : ∀ w, (convert 94 68 (.complex .f64 0 0)).run Tryz.prog w = .ok (.complex .f32 0 0) w := by
 intro w
 exact run_convert_complex w _ _ .f64 .f32 _ _ _ _ (by kernel_rfl) (by kernel_rfl) (by decide +kernel)
theorem Qy (a : Fr) (w : World) : Calls Tryz.prog 34 #[a.v] w (SglGot .f32 w (Xf a)) := by
 have k1 := fun w => iFracWide a w
 obtain ⟨a1, a2, a3⟩ := a
 show Calls _ _ #[.agg #[.int .i64 a1, .int .i64 a2, .int .i64 a3]] _ _
 rcases h1 : Zh a1 a2 a3 with _ | _
 ·have hr : Xf ⟨a1, a2, a3⟩ = (0, 0, false) := by simp [Xf, Fr.valid, h1]
  have hr2 : Tj ⟨a1, a2, a3⟩ = (0, 0, false) := by simp [Tj, Fr.valid, h1]
  simp only [hr2] at k1
  rw [hr]
  have K1 := Gv k1
  have o := conv_zero
  clear k1 hr h1 hr2
  go_enter Tryz.func34, Tryz.ntmps34
  go_wp2_with fail
  refine (K1.out _).mono ?_
  rintro e w1 ⟨rfl, hx⟩
  go_wp2_with (simp only [o])
  refine Gq (v := .tuple #[.complex .f32 0 0, .bool false]) ?_ rfl ⟨rfl, ?_⟩
  ·simp [results, Tryz.results34, go_sem]
  ·exact ((Ex.refl _).alloc _).trans hx
 ·have hr : Xf ⟨a1, a2, a3⟩ = (Ty a1 a3, Ty a2 a3, true) := by simp [Xf, Fr.valid, h1]
  have hr2 : Tj ⟨a1, a2, a3⟩ = (Uj a1 a3, Uj a2 a3, true) := by simp [Tj, Fr.valid, h1]
  obtain ⟨p1, p2, p3, -⟩ := Yd h1
  have o := conv_ops p1 p2 p3
  simp only [hr2] at k1
  rw [hr]
  have K1 := Gv k1
  clear k1 hr h1 hr2
  go_enter Tryz.func34, Tryz.ntmps34
  go_wp2_with fail
  refine (K1.out _).mono ?_
  rintro e w1 ⟨rfl, hx⟩
  go_wp2_with (simp only [o])
  refine Gq (v := .tuple #[.complex .f32 (Ty a1 a3) (Ty a2 a3), .bool true]) ?_ rfl ⟨rfl, ?_⟩
  ·simp [results, Tryz.results34, go_sem]
  ·exact ((Ex.refl _).alloc _).trans hx
theorem Qw (a : Fr) (w : World) : Calls Tryz.prog 50 #[a.v] w (SglGot .f32 w (Xf a)) := by
 have k1 := fun w => sFracWide a w
 obtain ⟨a1, a2, a3⟩ := a
 show Calls _ _ #[.agg #[.int .i64 a1, .int .i64 a2, .int .i64 a3]] _ _
 rcases h1 : Zh a1 a2 a3 with _ | _
 ·have hr : Xf ⟨a1, a2, a3⟩ = (0, 0, false) := by simp [Xf, Fr.valid, h1]
  have hr2 : Tj ⟨a1, a2, a3⟩ = (0, 0, false) := by simp [Tj, Fr.valid, h1]
  simp only [hr2] at k1
  rw [hr]
  have K1 := Gv k1
  clear k1 hr h1 hr2
  go_enter Tryz.func50, Tryz.ntmps50
  go_wp2_with fail
  refine (K1.out _).mono ?_
  rintro e w1 ⟨rfl, hx⟩
  go_wp2
  refine Gq (v := .tuple #[.complex .f32 0 0, .bool false]) ?_ rfl ⟨rfl, ?_⟩
  ·simp [results, Tryz.results50, go_sem]
  ·exact ((Ex.refl _).alloc _).trans hx
 ·have hr : Xf ⟨a1, a2, a3⟩ = (Ty a1 a3, Ty a2 a3, true) := by simp [Xf, Fr.valid, h1]
  have hr2 : Tj ⟨a1, a2, a3⟩ = (Uj a1 a3, Uj a2 a3, true) := by simp [Tj, Fr.valid, h1]
  obtain ⟨p1, p2, p3, -⟩ := Yd h1
  have o := conv_ops p1 p2 p3
  simp only [hr2] at k1
  rw [hr]
  have K1 := Gv k1
  clear k1 hr h1 hr2
  go_enter Tryz.func50, Tryz.ntmps50
  go_wp2_with fail
  refine (K1.out _).mono ?_
  rintro e w1 ⟨rfl, hx⟩
  go_wp2_with (simp only [o])
  refine Gq (v := .tuple #[.complex .f32 (Ty a1 a3) (Ty a2 a3), .bool true]) ?_ rfl ⟨rfl, ?_⟩
  ·simp [results, Tryz.results50, go_sem]
  ·exact ((Ex.refl _).alloc _).trans hx

def gfarN (a b : Fr) : Nat := sfar (Ty a.re a.den) (Ty a.im a.den) (Ty b.re b.den) (Ty b.im b.den)
def gfar (a b : Fr) : Nat × Bool := if a.valid && b.valid then (gfarN a b, true) else (0, false)
def FarGot (w : World) (r : Nat × Bool) : Ending → World → Prop := fun e w' => e = .returned (.tuple #[.float .f32 r.1, .bool r.2]) ∧ Ex w w'
end
section
open Go.RowKit

def Rg (a : Fr) : Bool := a.valid && decide (a.im = 0)
def CmpGot (w : World) (r : Int × Bool) : Ending → World → Prop := fun e w' => e = .returned (.tuple #[.int .i64 r.1, .bool r.2]) ∧ Ex w w'
theorem fcmp_no1 {a b : Fr} (h : Rg a = false) : Rw a b = (0, false) := by
  unfold Rw
  rw [if_neg]
  simp only [Rg, Bool.and_eq_false_iff] at h
  intro hc
  simp only [Bool.and_eq_true] at hc
  rcases h with h | h
  · rw [h] at hc; simp at hc
  · rw [h] at hc; simp at hc
theorem fcmp_no2 {a b : Fr} (h : Rg b = false) : Rw a b = (0, false) := by
  unfold Rw
  rw [if_neg]
  simp only [Rg, Bool.and_eq_false_iff] at h
  intro hc
  simp only [Bool.and_eq_true] at hc
  rcases h with h | h
  · rw [h] at hc; simp at hc
  · rw [h] at hc; simp at hc
theorem fcmp_ok {a b : Fr} (h1 : Rg a = true) (h2 : Rg b = true) : Rw a b = (Uw (a.re * b.den - b.re * a.den), true) := by
  unfold Rw
  simp only [Rg, Bool.and_eq_true] at h1 h2
  rw [h1.1, h1.2, h2.1, h2.2]
  rfl
theorem realOkC (a1 a2 a3 : Int) (w : World) : Calls Tryz.prog 67 #[.agg #[.int .i64 a1, .int .i64 a2, .int .i64 a3]] w fun e w' => e = .returned (.bool (Rg ⟨a1, a2, a3⟩)) ∧ Ex w w' := by
  have k1 := fun w => Xx a1 a2 a3 w
  rcases h1 : Zh a1 a2 a3 with _ | _
  · have hr : Rg ⟨a1, a2, a3⟩ = false := by simp [Rg, Fr.valid, h1]
    simp only [h1] at k1
    rw [hr]
    clear hr h1
    go_enter Tryz.func67, Tryz.ntmps67
    go_wp2_with fail
    refine (k1 _).mono ?_
    rintro e w1 ⟨rfl, hx⟩
    go_wp2
    go_ret
    exact ⟨rfl, ((Ex.refl _).alloc _).trans hx⟩
  · have hr : Rg ⟨a1, a2, a3⟩ = decide (a2 = 0) := by simp [Rg, Fr.valid, h1]
    simp only [h1] at k1
    rw [hr]
    clear hr h1
    go_enter Tryz.func67, Tryz.ntmps67
    go_wp2_with fail
    refine (k1 _).mono ?_
    rintro e w1 ⟨rfl, hx⟩
    have b := (Box.new _ _ _).ex hx
    have c := b.cell
    go_wp2
    go_ret
    exact ⟨Xk (by rfl), ((Ex.refl _).alloc _).trans hx⟩
theorem fsign_cases (n : Int) : (Uw n = -1 ∧ n < 0) ∨ (Uw n = 1 ∧ 0 < n) ∨ (Uw n = 0 ∧ n = 0) := by
  unfold Uw
  split
  · exact .inl ⟨rfl, by assumption⟩
  · split
    · exact .inr (.inl ⟨rfl, by assumption⟩)
    · exact .inr (.inr ⟨rfl, by omega⟩)
theorem Mj (n : Int) (w : World) : Calls Tryz.prog 59 #[.int .i64 n] w fun e w' => e = .returned (.int .i64 (Uw n)) ∧ w' = w := by
  go_enter Tryz.func59, Tryz.ntmps59
  go_wp2
  all_goals
    go_ret
    refine ⟨ret_int ?_, rfl⟩
    unfold Uw
    split
    · omega
    · split <;> omega

theorem iFracCompare (a b : Fr) (w : World) : Calls Tryz.prog 82 #[a.v, b.v] w (CmpGot w (Rw a b)) := by
  obtain ⟨a1, a2, a3⟩ := a
  obtain ⟨b1, b2, b3⟩ := b
  show Calls _ _ #[.agg #[.int .i64 a1, .int .i64 a2, .int .i64 a3], .agg #[.int .i64 b1, .int .i64 b2, .int .i64 b3]] _ _
  have k1 := fun w => realOkC a1 a2 a3 w
  have k2 := fun w => realOkC b1 b2 b3 w
  rcases h1 : Rg ⟨a1, a2, a3⟩ with _ | _
  · rw [fcmp_no1 h1]
    simp only [h1] at k1
    clear h1
    go_enter Tryz.func82, Tryz.ntmps82
    go_wp2_with fail
    refine (k1 _).mono ?_
    rintro e w1 ⟨rfl, hx⟩
    have bA := ((Box.new _ _ _).alloc _).ex hx
    have bB := (Box.new _ _ _).ex hx
    simp only [Gu] at bB
    replace hx := (((Ex.refl w).alloc _).alloc _).trans hx
    have hE := hx
    have cbA := bA.cell
    have fbA := bA.frozen
    have zbA := bA.lt
    have cbB := bB.cell
    have fbB := bB.frozen
    have zbB := bB.lt
    clear hx
    go_wp2
    refine Gq (v := .tuple #[.int .i64 0, .bool false]) ?_ rfl ⟨rfl, ?_⟩
    · simp [results, Tryz.results82, go_sem]
    · repeat' (with_reducible first | exact Ex.refl _ | assumption | apply Ex.alloc | apply Ex.drewN | apply Ex.drew | refine Ex.setCell ?_ (by simp <;> omega) _)
  rcases h2 : Rg ⟨b1, b2, b3⟩ with _ | _
  · rw [fcmp_no2 h2]
    simp only [h1] at k1
    simp only [h2] at k2
    clear h1 h2
    go_enter Tryz.func82, Tryz.ntmps82
    go_wp2_with fail
    refine (k1 _).mono ?_
    rintro e w1 ⟨rfl, hx⟩
    have bA := ((Box.new _ _ _).alloc _).ex hx
    have bB := (Box.new _ _ _).ex hx
    simp only [Gu] at bB
    replace hx := (((Ex.refl w).alloc _).alloc _).trans hx
    have hE := hx
    have cbA := bA.cell
    have fbA := bA.frozen
    have zbA := bA.lt
    have cbB := bB.cell
    have fbB := bB.frozen
    have zbB := bB.lt
    clear hx
    go_wp2_with fail
    refine (k2 _).mono ?_
    rintro e w2 ⟨rfl, hx⟩
    replace hE := hE.trans hx
    replace bA := bA.ex hx
    replace cbA := bA.cell
    replace fbA := bA.frozen
    replace zbA := bA.lt
    replace bB := bB.ex hx
    replace cbB := bB.cell
    replace fbB := bB.frozen
    replace zbB := bB.lt
    clear hx
    go_wp2
    refine Gq (v := .tuple #[.int .i64 0, .bool false]) ?_ rfl ⟨rfl, ?_⟩
    · simp [results, Tryz.results82, go_sem]
    · repeat' (with_reducible first | exact Ex.refl _ | assumption | apply Ex.alloc | apply Ex.drewN | apply Ex.drew | refine Ex.setCell ?_ (by simp <;> omega) _)
  rw [fcmp_ok h1 h2]
  have hv1 : Zh a1 a2 a3 = true := by unfold Rg at h1; simp only [Bool.and_eq_true] at h1; exact h1.1
  have hv2 : Zh b1 b2 b3 = true := by unfold Rg at h2; simp only [Bool.and_eq_true] at h2; exact h2.1
  obtain ⟨ap1, -, ap3, -⟩ := Yd hv1
  obtain ⟨bp1, -, bp3, -⟩ := Yd hv2
  have m1 := Xl (a := a1) (b := b3) (by omega) (by omega)
  have m2 := Xl (a := b1) (b := a3) (by omega) (by omega)
  show Calls _ _ _ _ (CmpGot w (Uw (a1 * b3 - b1 * a3), true))
  generalize ex1 : a1 * b3 = x1 at m1 ⊢
  generalize ex2 : b1 * a3 = x2 at m2 ⊢
  simp only [h1] at k1
  simp only [h2] at k2
  clear h1 h2 hv1 hv2
  go_enter Tryz.func82, Tryz.ntmps82
  go_wp2_with fail
  refine (k1 _).mono ?_
  rintro e w1 ⟨rfl, hx⟩
  have bA := ((Box.new _ _ _).alloc _).ex hx
  have bB := (Box.new _ _ _).ex hx
  simp only [Gu] at bB
  replace hx := (((Ex.refl w).alloc _).alloc _).trans hx
  have hE := hx
  have cbA := bA.cell
  have fbA := bA.frozen
  have zbA := bA.lt
  have cbB := bB.cell
  have fbB := bB.frozen
  have zbB := bB.lt
  clear hx
  go_wp2_with fail
  refine (k2 _).mono ?_
  rintro e w2 ⟨rfl, hx⟩
  replace hE := hE.trans hx
  replace bA := bA.ex hx
  replace cbA := bA.cell
  replace fbA := bA.frozen
  replace zbA := bA.lt
  replace bB := bB.ex hx
  replace cbB := bB.cell
  replace fbB := bB.frozen
  replace zbB := bB.lt
  clear hx
  go_wp2
  all_goals
    rcases fsign_cases (x1 - x2) with ⟨hs, hn⟩ | ⟨hs, hn⟩ | ⟨hs, hn⟩
    all_goals
      first
        | (exfalso; omega)
        | (refine Gq (v := .tuple #[.int .i64 (Uw (x1 - x2)), .bool true]) ?_ rfl ⟨rfl, ?_⟩
           · simp [results, Tryz.results82, go_sem, hs]
           · repeat' (with_reducible first | exact Ex.refl _ | assumption | apply Ex.alloc | apply Ex.drewN | apply Ex.drew | refine Ex.setCell ?_ (by simp <;> omega) _))
theorem sFracCompare (a b : Fr) (w : World) : Calls Tryz.prog 129 #[a.v, b.v] w (CmpGot w (Rw a b)) := by
  obtain ⟨a1, a2, a3⟩ := a
  obtain ⟨b1, b2, b3⟩ := b
  show Calls _ _ #[.agg #[.int .i64 a1, .int .i64 a2, .int .i64 a3], .agg #[.int .i64 b1, .int .i64 b2, .int .i64 b3]] _ _
  have k1 := fun w => Xw a1 a2 a3 w
  have k2 := fun w => Xw b1 b2 b3 w
  rcases h1 : Zh a1 a2 a3 with _ | _
  · have hr : Rw ⟨a1, a2, a3⟩ ⟨b1, b2, b3⟩ = (0, false) := by simp [Rw, Fr.valid, h1]
    rw [hr]
    simp only [h1] at k1
    clear hr h1
    go_enter Tryz.func129, Tryz.ntmps129
    go_wp2_with fail
    refine (k1 _).mono ?_
    rintro e w1 ⟨rfl, hx⟩
    have bA := ((Box.new _ _ _).alloc _).ex hx
    have bB := (Box.new _ _ _).ex hx
    simp only [Gu] at bB
    replace hx := (((Ex.refl w).alloc _).alloc _).trans hx
    have hE := hx
    have cbA := bA.cell
    have fbA := bA.frozen
    have zbA := bA.lt
    have cbB := bB.cell
    have fbB := bB.frozen
    have zbB := bB.lt
    clear hx
    go_wp2
    refine Gq (v := .tuple #[.int .i64 0, .bool false]) ?_ rfl ⟨rfl, ?_⟩
    · simp [results, Tryz.results129, go_sem]
    · repeat' (with_reducible first | exact Ex.refl _ | assumption | apply Ex.alloc | apply Ex.drewN | apply Ex.drew | refine Ex.setCell ?_ (by simp <;> omega) _)
  rcases h2 : Zh b1 b2 b3 with _ | _
  · have hr : Rw ⟨a1, a2, a3⟩ ⟨b1, b2, b3⟩ = (0, false) := by simp [Rw, Fr.valid, h1, h2]
    rw [hr]
    simp only [h1] at k1
    simp only [h2] at k2
    clear hr h1 h2
    go_enter Tryz.func129, Tryz.ntmps129
    go_wp2_with fail
    refine (k1 _).mono ?_
    rintro e w1 ⟨rfl, hx⟩
    have bA := ((Box.new _ _ _).alloc _).ex hx
    have bB := (Box.new _ _ _).ex hx
    simp only [Gu] at bB
    replace hx := (((Ex.refl w).alloc _).alloc _).trans hx
    have hE := hx
    have cbA := bA.cell
    have fbA := bA.frozen
    have zbA := bA.lt
    have cbB := bB.cell
    have fbB := bB.frozen
    have zbB := bB.lt
    clear hx
    go_wp2_with fail
    refine (k2 _).mono ?_
    rintro e w2 ⟨rfl, hx⟩
    replace hE := hE.trans hx
    replace bA := bA.ex hx
    replace cbA := bA.cell
    replace fbA := bA.frozen
    replace zbA := bA.lt
    replace bB := bB.ex hx
    replace cbB := bB.cell
    replace fbB := bB.frozen
    replace zbB := bB.lt
    clear hx
    go_wp2
    refine Gq (v := .tuple #[.int .i64 0, .bool false]) ?_ rfl ⟨rfl, ?_⟩
    · simp [results, Tryz.results129, go_sem]
    · repeat' (with_reducible first | exact Ex.refl _ | assumption | apply Ex.alloc | apply Ex.drewN | apply Ex.drew | refine Ex.setCell ?_ (by simp <;> omega) _)
  rcases h3 : (a2 != 0) with _ | _
  case true =>
    have hr : Rw ⟨a1, a2, a3⟩ ⟨b1, b2, b3⟩ = (0, false) := by simp [Rw, Fr.valid, h1, h2, show ¬ a2 = 0 by simpa using h3]
    rw [hr]
    simp only [h1] at k1
    simp only [h2] at k2
    clear hr h1 h2
    go_enter Tryz.func129, Tryz.ntmps129
    go_wp2_with fail
    refine (k1 _).mono ?_
    rintro e w1 ⟨rfl, hx⟩
    have bA := ((Box.new _ _ _).alloc _).ex hx
    have bB := (Box.new _ _ _).ex hx
    simp only [Gu] at bB
    replace hx := (((Ex.refl w).alloc _).alloc _).trans hx
    have hE := hx
    have cbA := bA.cell
    have fbA := bA.frozen
    have zbA := bA.lt
    have cbB := bB.cell
    have fbB := bB.frozen
    have zbB := bB.lt
    clear hx
    go_wp2_with fail
    refine (k2 _).mono ?_
    rintro e w2 ⟨rfl, hx⟩
    replace hE := hE.trans hx
    replace bA := bA.ex hx
    replace cbA := bA.cell
    replace fbA := bA.frozen
    replace zbA := bA.lt
    replace bB := bB.ex hx
    replace cbB := bB.cell
    replace fbB := bB.frozen
    replace zbB := bB.lt
    clear hx
    go_wp2
    refine Gq (v := .tuple #[.int .i64 0, .bool false]) ?_ rfl ⟨rfl, ?_⟩
    · simp [results, Tryz.results129, go_sem]
    · repeat' (with_reducible first | exact Ex.refl _ | assumption | apply Ex.alloc | apply Ex.drewN | apply Ex.drew | refine Ex.setCell ?_ (by simp <;> omega) _)
  rcases h4 : (b2 != 0) with _ | _
  case true =>
    have hr : Rw ⟨a1, a2, a3⟩ ⟨b1, b2, b3⟩ = (0, false) := by simp [Rw, Fr.valid, h1, h2, show ¬ b2 = 0 by simpa using h4]
    rw [hr]
    simp only [h1] at k1
    simp only [h2] at k2
    clear hr h1 h2
    go_enter Tryz.func129, Tryz.ntmps129
    go_wp2_with fail
    refine (k1 _).mono ?_
    rintro e w1 ⟨rfl, hx⟩
    have bA := ((Box.new _ _ _).alloc _).ex hx
    have bB := (Box.new _ _ _).ex hx
    simp only [Gu] at bB
    replace hx := (((Ex.refl w).alloc _).alloc _).trans hx
    have hE := hx
    have cbA := bA.cell
    have fbA := bA.frozen
    have zbA := bA.lt
    have cbB := bB.cell
    have fbB := bB.frozen
    have zbB := bB.lt
    clear hx
    go_wp2_with fail
    refine (k2 _).mono ?_
    rintro e w2 ⟨rfl, hx⟩
    replace hE := hE.trans hx
    replace bA := bA.ex hx
    replace cbA := bA.cell
    replace fbA := bA.frozen
    replace zbA := bA.lt
    replace bB := bB.ex hx
    replace cbB := bB.cell
    replace fbB := bB.frozen
    replace zbB := bB.lt
    clear hx
    go_wp2
    refine Gq (v := .tuple #[.int .i64 0, .bool false]) ?_ rfl ⟨rfl, ?_⟩
    · simp [results, Tryz.results129, go_sem]
    · repeat' (with_reducible first | exact Ex.refl _ | assumption | apply Ex.alloc | apply Ex.drewN | apply Ex.drew | refine Ex.setCell ?_ (by simp <;> omega) _)
  have hr : Rw ⟨a1, a2, a3⟩ ⟨b1, b2, b3⟩ = (Uw (a1 * b3 - b1 * a3), true) := by unfold Rw; rw [if_pos (by simp [Fr.valid, h1, h2]; exact ⟨by simpa using h3, by simpa using h4⟩)]
  rw [hr]
  obtain ⟨ap1, -, ap3, -⟩ := Yd h1
  obtain ⟨bp1, -, bp3, -⟩ := Yd h2
  have m1 := Xl (a := a1) (b := b3) (by omega) (by omega)
  have m2 := Xl (a := b1) (b := a3) (by omega) (by omega)
  generalize ex1 : a1 * b3 = x1 at m1 ⊢
  generalize ex2 : b1 * a3 = x2 at m2 ⊢
  have l1 := fun w => Mj (x1 - x2) w
  generalize Uw (x1 - x2) = n at l1 ⊢
  simp only [h1] at k1
  simp only [h2] at k2
  clear hr h1 h2
  go_enter Tryz.func129, Tryz.ntmps129
  go_wp2_with fail
  refine (k1 _).mono ?_
  rintro e w1 ⟨rfl, hx⟩
  have bA := ((Box.new _ _ _).alloc _).ex hx
  have bB := (Box.new _ _ _).ex hx
  simp only [Gu] at bB
  replace hx := (((Ex.refl w).alloc _).alloc _).trans hx
  have hE := hx
  have cbA := bA.cell
  have fbA := bA.frozen
  have zbA := bA.lt
  have cbB := bB.cell
  have fbB := bB.frozen
  have zbB := bB.lt
  clear hx
  go_wp2_with fail
  refine (k2 _).mono ?_
  rintro e w2 ⟨rfl, hx⟩
  replace hE := hE.trans hx
  replace bA := bA.ex hx
  replace cbA := bA.cell
  replace fbA := bA.frozen
  replace zbA := bA.lt
  replace bB := bB.ex hx
  replace cbB := bB.cell
  replace fbB := bB.frozen
  replace zbB := bB.lt
  clear hx
  go_wp2_with fail
  refine (l1 _).mono ?_
  rintro e w3 ⟨rfl, rfl⟩
  go_wp2
  refine Gq (v := .tuple #[.int .i64 n, .bool true]) ?_ rfl ⟨rfl, ?_⟩
  · simp [results, Tryz.results129, go_sem]
  · repeat' (with_reducible first | exact Ex.refl _ | assumption | apply Ex.alloc | apply Ex.drewN | apply Ex.drew | refine Ex.setCell ?_ (by simp <;> omega) _)
end
end Go.Proofs.YtmmjkchjgeklnaaGreatDoor
