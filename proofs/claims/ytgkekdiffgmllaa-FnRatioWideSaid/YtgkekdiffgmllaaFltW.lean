/-
  Walks: wide and single numbers of fractions, and distances.
-/
import Derived.Test.YtgkekdiffgmllaaFrcM
import Derived.Test.YtgkekdiffgmllaaFltQ
namespace Go.Proofs.Ytgkekdiffgmllaa
open Go.RowKit

/-- The two parts of a single, and whether the fraction is one. -/
def fsingle (a : Fr) : Nat × Nat × Bool := if a.valid then (spart a.re a.den, spart a.im a.den, true) else (0, 0, false)
def fwide (a : Fr) : Nat × Nat × Bool := if a.valid then (wpart a.re a.den, wpart a.im a.den, true) else (0, 0, false)
def SglGot (k : FloatKind) (w : World) (r : Nat × Nat × Bool) : Ending → World → Prop := fun e w' => e = .returned (.tuple #[.complex k r.1 r.2.1, .bool r.2.2]) ∧ Ex w w'
theorem part_ops {n d : Int} (h1 : -2000000000 ≤ n ∧ n ≤ 2000000000) (h2 : 1 ≤ d ∧ d ≤ 2000000000) :
    ∀ t w, (binOp .quo t (.float .f64 (floatOfInt .f64 n)) (.float .f64 (floatOfInt .f64 d))).run Try.prog w = .ok (.float .f64 (wpart n d)) w :=
  fun t w => run_float_arith w .quo t .f64 _ _ _ (part_at n d h1.1 h1.2 h2.1 h2.2).1
theorem conv_ops {n m d : Int} (h1 : -2000000000 ≤ n ∧ n ≤ 2000000000) (h3 : -2000000000 ≤ m ∧ m ≤ 2000000000) (h2 : 1 ≤ d ∧ d ≤ 2000000000) :
    ∀ w, (convert 28 51 (.complex .f64 (wpart n d) (wpart m d))).run Try.prog w = .ok (.complex .f32 (spart n d) (spart m d)) w := by
  intro w
  refine run_convert_complex w _ _ .f64 .f32 _ _ _ _ (by kernel_rfl) (by kernel_rfl) ?_
  unfold cConvBits
  rw [(part_at n d h1.1 h1.2 h2.1 h2.2).2.1, (part_at m d h3.1 h3.2 h2.1 h2.2).2.1]
  rfl

set_option maxHeartbeats 400000 in
theorem iFracWide (a : Fr) (w : World) : Calls Try.prog 58 #[a.v] w (SglGot .f64 w (fwide a)) := by
  obtain ⟨a1, a2, a3⟩ := a
  show Calls _ _ #[.agg #[.int .i64 a1, .int .i64 a2, .int .i64 a3]] _ _
  have k1 := fun w => iFracValid a1 a2 a3 w
  rcases h1 : fvalid a1 a2 a3 with _ | _
  · have hr : fwide ⟨a1, a2, a3⟩ = (0, 0, false) := by simp [fwide, Fr.valid, h1]
    simp only [h1] at k1
    rw [hr]
    have K1 := Lib.hid k1
    clear k1 hr h1
    go_enter Try.func58, Try.ntmps58
    go_wp2_with fail
    refine (K1.out _).mono ?_
    rintro e w1 ⟨rfl, hx⟩
    go_wp2
    refine bodyPost_ret (v := .tuple #[.complex .f64 0 0, .bool false]) ?_ rfl ⟨rfl, ?_⟩
    · simp [results, Try.results58, go_sem]
    · exact ((Ex.refl _).alloc _).trans hx
  · have hr : fwide ⟨a1, a2, a3⟩ = (wpart a1 a3, wpart a2 a3, true) := by simp [fwide, Fr.valid, h1]
    obtain ⟨p1, p2, p3, -⟩ := fvalid_out h1
    have o1 := part_ops p1 p3
    have o2 := part_ops p2 p3
    simp only [h1] at k1
    rw [hr]
    have K1 := Lib.hid k1
    clear k1 hr h1
    go_enter Try.func58, Try.ntmps58
    go_wp2_with fail
    refine (K1.out _).mono ?_
    rintro e w1 ⟨rfl, hx⟩
    have b := (Box.new _ _ _).ex hx
    have c := b.cell
    go_wp2_with (simp only [o1, o2])
    refine bodyPost_ret (v := .tuple #[.complex .f64 (wpart a1 a3) (wpart a2 a3), .bool true]) ?_ rfl ⟨rfl, ?_⟩
    · simp [results, Try.results58, go_sem]
    · exact ((Ex.refl _).alloc _).trans hx
set_option maxHeartbeats 400000 in
theorem sFracWide (a : Fr) (w : World) : Calls Try.prog 79 #[a.v] w (SglGot .f64 w (fwide a)) := by
  obtain ⟨a1, a2, a3⟩ := a
  show Calls _ _ #[.agg #[.int .i64 a1, .int .i64 a2, .int .i64 a3]] _ _
  have k1 := fun w => sFracValid a1 a2 a3 w
  rcases h1 : fvalid a1 a2 a3 with _ | _
  · have hr : fwide ⟨a1, a2, a3⟩ = (0, 0, false) := by simp [fwide, Fr.valid, h1]
    simp only [h1] at k1
    rw [hr]
    have K1 := Lib.hid k1
    clear k1 hr h1
    go_enter Try.func79, Try.ntmps79
    go_wp2_with fail
    refine (K1.out _).mono ?_
    rintro e w1 ⟨rfl, hx⟩
    go_wp2
    refine bodyPost_ret (v := .tuple #[.complex .f64 0 0, .bool false]) ?_ rfl ⟨rfl, ?_⟩
    · simp [results, Try.results79, go_sem]
    · exact ((Ex.refl _).alloc _).trans hx
  · have hr : fwide ⟨a1, a2, a3⟩ = (wpart a1 a3, wpart a2 a3, true) := by simp [fwide, Fr.valid, h1]
    obtain ⟨p1, p2, p3, -⟩ := fvalid_out h1
    have o1 := part_ops p1 p3
    have o2 := part_ops p2 p3
    simp only [h1] at k1
    rw [hr]
    have K1 := Lib.hid k1
    clear k1 hr h1
    go_enter Try.func79, Try.ntmps79
    go_wp2_with fail
    refine (K1.out _).mono ?_
    rintro e w1 ⟨rfl, hx⟩
    have b := (Box.new _ _ _).ex hx
    have c := b.cell
    go_wp2_with (simp only [o1, o2])
    refine bodyPost_ret (v := .tuple #[.complex .f64 (wpart a1 a3) (wpart a2 a3), .bool true]) ?_ rfl ⟨rfl, ?_⟩
    · simp [results, Try.results79, go_sem]
    · exact ((Ex.refl _).alloc _).trans hx
theorem conv_zero : ∀ w, (convert 28 51 (.complex .f64 0 0)).run Try.prog w = .ok (.complex .f32 0 0) w := by
  intro w
  exact run_convert_complex w _ _ .f64 .f32 _ _ _ _ (by kernel_rfl) (by kernel_rfl) (by decide +kernel)
set_option maxHeartbeats 400000 in
theorem iFracSingle (a : Fr) (w : World) : Calls Try.prog 30 #[a.v] w (SglGot .f32 w (fsingle a)) := by
  have k1 := fun w => iFracWide a w
  obtain ⟨a1, a2, a3⟩ := a
  show Calls _ _ #[.agg #[.int .i64 a1, .int .i64 a2, .int .i64 a3]] _ _
  rcases h1 : fvalid a1 a2 a3 with _ | _
  · have hr : fsingle ⟨a1, a2, a3⟩ = (0, 0, false) := by simp [fsingle, Fr.valid, h1]
    have hr2 : fwide ⟨a1, a2, a3⟩ = (0, 0, false) := by simp [fwide, Fr.valid, h1]
    simp only [hr2] at k1
    rw [hr]
    have K1 := Lib.hid k1
    have o := conv_zero
    clear k1 hr h1 hr2
    go_enter Try.func30, Try.ntmps30
    go_wp2_with fail
    refine (K1.out _).mono ?_
    rintro e w1 ⟨rfl, hx⟩
    go_wp2_with (simp only [o])
    refine bodyPost_ret (v := .tuple #[.complex .f32 0 0, .bool false]) ?_ rfl ⟨rfl, ?_⟩
    · simp [results, Try.results30, go_sem]
    · exact ((Ex.refl _).alloc _).trans hx
  · have hr : fsingle ⟨a1, a2, a3⟩ = (spart a1 a3, spart a2 a3, true) := by simp [fsingle, Fr.valid, h1]
    have hr2 : fwide ⟨a1, a2, a3⟩ = (wpart a1 a3, wpart a2 a3, true) := by simp [fwide, Fr.valid, h1]
    obtain ⟨p1, p2, p3, -⟩ := fvalid_out h1
    have o := conv_ops p1 p2 p3
    simp only [hr2] at k1
    rw [hr]
    have K1 := Lib.hid k1
    clear k1 hr h1 hr2
    go_enter Try.func30, Try.ntmps30
    go_wp2_with fail
    refine (K1.out _).mono ?_
    rintro e w1 ⟨rfl, hx⟩
    go_wp2_with (simp only [o])
    refine bodyPost_ret (v := .tuple #[.complex .f32 (spart a1 a3) (spart a2 a3), .bool true]) ?_ rfl ⟨rfl, ?_⟩
    · simp [results, Try.results30, go_sem]
    · exact ((Ex.refl _).alloc _).trans hx
set_option maxHeartbeats 400000 in
theorem sFracSingle (a : Fr) (w : World) : Calls Try.prog 59 #[a.v] w (SglGot .f32 w (fsingle a)) := by
  have k1 := fun w => sFracWide a w
  obtain ⟨a1, a2, a3⟩ := a
  show Calls _ _ #[.agg #[.int .i64 a1, .int .i64 a2, .int .i64 a3]] _ _
  rcases h1 : fvalid a1 a2 a3 with _ | _
  · have hr : fsingle ⟨a1, a2, a3⟩ = (0, 0, false) := by simp [fsingle, Fr.valid, h1]
    have hr2 : fwide ⟨a1, a2, a3⟩ = (0, 0, false) := by simp [fwide, Fr.valid, h1]
    simp only [hr2] at k1
    rw [hr]
    have K1 := Lib.hid k1
    clear k1 hr h1 hr2
    go_enter Try.func59, Try.ntmps59
    go_wp2_with fail
    refine (K1.out _).mono ?_
    rintro e w1 ⟨rfl, hx⟩
    go_wp2
    refine bodyPost_ret (v := .tuple #[.complex .f32 0 0, .bool false]) ?_ rfl ⟨rfl, ?_⟩
    · simp [results, Try.results59, go_sem]
    · exact ((Ex.refl _).alloc _).trans hx
  · have hr : fsingle ⟨a1, a2, a3⟩ = (spart a1 a3, spart a2 a3, true) := by simp [fsingle, Fr.valid, h1]
    have hr2 : fwide ⟨a1, a2, a3⟩ = (wpart a1 a3, wpart a2 a3, true) := by simp [fwide, Fr.valid, h1]
    obtain ⟨p1, p2, p3, -⟩ := fvalid_out h1
    have o := conv_ops p1 p2 p3
    simp only [hr2] at k1
    rw [hr]
    have K1 := Lib.hid k1
    clear k1 hr h1 hr2
    go_enter Try.func59, Try.ntmps59
    go_wp2_with fail
    refine (K1.out _).mono ?_
    rintro e w1 ⟨rfl, hx⟩
    go_wp2_with (simp only [o])
    refine bodyPost_ret (v := .tuple #[.complex .f32 (spart a1 a3) (spart a2 a3), .bool true]) ?_ rfl ⟨rfl, ?_⟩
    · simp [results, Try.results59, go_sem]
    · exact ((Ex.refl _).alloc _).trans hx

/-- The distance of two fractions, in singles. -/
def gfarN (a b : Fr) : Nat := sfar (spart a.re a.den) (spart a.im a.den) (spart b.re b.den) (spart b.im b.den)
def gfar (a b : Fr) : Nat × Bool := if a.valid && b.valid then (gfarN a b, true) else (0, false)
theorem spart_sgl {a : Fr} (h : a.valid = true) : Sgl (spart a.re a.den) ∧ Sgl (spart a.im a.den) := by
  obtain ⟨p1, p2, p3, -⟩ := Fr.valid_out h
  exact ⟨(part_at _ _ p1.1 p1.2 p3.1 p3.2).2.2, (part_at _ _ p2.1 p2.2 p3.1 p3.2).2.2⟩
theorem far_ops (p p' q q' : Nat) (h1 : Sgl p) (h2 : Sgl p') (h3 : Sgl q) (h4 : Sgl q') :
    (∀ t w, (binOp .sub t (.complex .f32 p p') (.complex .f32 q q')).run Try.prog w = .ok (.complex .f32 (fsub p q) (fsub p' q')) w) ∧
    (∀ t w, (binOp .mul t (.float .f32 (fsub p q)) (.float .f32 (fsub p q))).run Try.prog w = .ok (.float .f32 (fsq (fsub p q))) w) ∧
    (∀ t w, (binOp .mul t (.float .f32 (fsub p' q')) (.float .f32 (fsub p' q'))).run Try.prog w = .ok (.float .f32 (fsq (fsub p' q'))) w) ∧
    (∀ t w, (binOp .add t (.float .f32 (fsq (fsub p q))) (.float .f32 (fsq (fsub p' q')))).run Try.prog w = .ok (.float .f32 (sfar p p' q q')) w) := by
  obtain ⟨e1, e2, e3, e4, -, -⟩ := sfar_at p p' q q' h1 h2 h3 h4
  exact ⟨fun t w => run_complex_sum w .sub (.inr rfl) t .f32 _ _ _ _ _ _ e1, fun t w => run_float_arith w .mul t .f32 _ _ _ e2, fun t w => run_float_arith w .mul t .f32 _ _ _ e3, fun t w => run_float_arith w .add t .f32 _ _ _ e4⟩
def FarGot (w : World) (r : Nat × Bool) : Ending → World → Prop := fun e w' => e = .returned (.tuple #[.float .f32 r.1, .bool r.2]) ∧ Ex w w'
theorem l12Far_any (p p' q q' : Nat) (h1 : Sgl p) (h2 : Sgl p') (h3 : Sgl q) (h4 : Sgl q') (w : World) :
    Calls Try.prog 60 #[.complex .f32 p p', .complex .f32 q q'] w fun e w' => e = .returned (.float .f32 (sfar p p' q q')) ∧ w' = w := by
  obtain ⟨o1, o2, o3, o4⟩ := far_ops p p' q q' h1 h2 h3 h4
  generalize sfar p p' q q' = z at o4 ⊢
  generalize fsub p q = x at o1 o2 o3 o4
  generalize fsub p' q' = y at o1 o2 o3 o4
  generalize fsq x = x2 at o2 o4
  generalize fsq y = y2 at o3 o4
  go_enter Try.func60, Try.ntmps60
  go_wp2_with (simp only [o1, o2, o3, o4])
  go_ret
  exact ⟨rfl, rfl⟩
end Go.Proofs.Ytgkekdiffgmllaa
