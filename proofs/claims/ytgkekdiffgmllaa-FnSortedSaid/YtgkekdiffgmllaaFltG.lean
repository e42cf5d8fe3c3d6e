/-
  Walks: distances of fractions.
-/
import Derived.Test.YtgkekdiffgmllaaFltW
namespace Go.Proofs.Ytgkekdiffgmllaa
open Go.RowKit

theorem gfar_no1 {a b : Fr} (h : a.valid = false) : gfar a b = (0, false) := by simp [gfar, h]
theorem gfar_no2 {a b : Fr} (h : b.valid = false) : gfar a b = (0, false) := by simp [gfar, h]
theorem gfar_ok {a b : Fr} (h1 : a.valid = true) (h2 : b.valid = true) : gfar a b = (gfarN a b, true) := by simp [gfar, h1, h2]
theorem fsingle_no {a : Fr} (h : a.valid = false) : fsingle a = (0, 0, false) := by simp [fsingle, h]
theorem fsingle_ok {a : Fr} (h : a.valid = true) : fsingle a = (spart a.re a.den, spart a.im a.den, true) := by simp [fsingle, h]
set_option maxHeartbeats 400000 in
theorem iGridFar (a b : Fr) (w : World) : Calls Try.prog 37 #[a.v, b.v] w (FarGot w (gfar a b)) := by
  have k1 := fun w => iFracSingle a w
  have k2 := fun w => iFracSingle b w
  rcases h1 : a.valid with _ | _
  · rw [gfar_no1 h1]
    simp only [fsingle_no h1] at k1
    generalize fsingle b = r at k2
    obtain ⟨r1, r2, r3⟩ := r
    clear h1
    obtain ⟨a1, a2, a3⟩ := a
    obtain ⟨b1, b2, b3⟩ := b
    show Calls _ _ #[.agg #[.int .i64 a1, .int .i64 a2, .int .i64 a3], .agg #[.int .i64 b1, .int .i64 b2, .int .i64 b3]] _ _
    have K1 := Lib.hid k1
    have K2 := Lib.hid k2
    clear k1 k2
    go_enter Try.func37, Try.ntmps37
    go_wp2_with fail
    refine (K1.out _).mono ?_
    rintro e w1 ⟨rfl, hx⟩
    have bA := ((Box.new _ _ _).alloc _).ex hx
    have bB := (Box.new _ _ _).ex hx
    simp only [World.size_alloc] at bB
    replace hx := (((Ex.refl w).alloc _).alloc _).trans hx
    have hE := hx
    have cbA := bA.cell
    have fbA := bA.frozen
    have zbA := bA.lt
    have cbB := bB.cell
    have fbB := bB.frozen
    have zbB := bB.lt
    clear hx
    go_wp2_with fail
    refine (K2.out _).mono ?_
    rintro e w2 ⟨rfl, hx⟩
    replace hE := hE.trans hx
    replace bA := bA.ex hx
    replace cbA := bA.cell
    replace fbA := bA.frozen
    replace zbA := bA.lt
    replace bB := bB.ex hx
    replace cbB := bB.cell
    replace fbB := bB.frozen
    replace zbB := bB.lt
    clear hx
    go_wp2
    refine bodyPost_ret (v := .tuple #[.float .f32 0, .bool false]) ?_ rfl ⟨rfl, ?_⟩
    · simp [results, Try.results37, go_sem]
    · repeat' (with_reducible first | exact Ex.refl _ | assumption | refine Ex.alloc ?_ _ | refine Ex.drewN ?_ _ | refine Ex.drew ?_ | refine Ex.setCell ?_ (by simp <;> omega) _)
  rcases h2 : b.valid with _ | _
  · rw [gfar_no2 h2]
    simp only [fsingle_no h2] at k2
    simp only [fsingle_ok h1] at k1
    generalize spart a.re a.den = p at k1
    generalize spart a.im a.den = q at k1
    clear h1 h2
    obtain ⟨a1, a2, a3⟩ := a
    obtain ⟨b1, b2, b3⟩ := b
    show Calls _ _ #[.agg #[.int .i64 a1, .int .i64 a2, .int .i64 a3], .agg #[.int .i64 b1, .int .i64 b2, .int .i64 b3]] _ _
    have K1 := Lib.hid k1
    have K2 := Lib.hid k2
    clear k1 k2
    go_enter Try.func37, Try.ntmps37
    go_wp2_with fail
    refine (K1.out _).mono ?_
    rintro e w1 ⟨rfl, hx⟩
    have bA := ((Box.new _ _ _).alloc _).ex hx
    have bB := (Box.new _ _ _).ex hx
    simp only [World.size_alloc] at bB
    replace hx := (((Ex.refl w).alloc _).alloc _).trans hx
    have hE := hx
    have cbA := bA.cell
    have fbA := bA.frozen
    have zbA := bA.lt
    have cbB := bB.cell
    have fbB := bB.frozen
    have zbB := bB.lt
    clear hx
    go_wp2_with fail
    refine (K2.out _).mono ?_
    rintro e w2 ⟨rfl, hx⟩
    replace hE := hE.trans hx
    replace bA := bA.ex hx
    replace cbA := bA.cell
    replace fbA := bA.frozen
    replace zbA := bA.lt
    replace bB := bB.ex hx
    replace cbB := bB.cell
    replace fbB := bB.frozen
    replace zbB := bB.lt
    clear hx
    go_wp2
    refine bodyPost_ret (v := .tuple #[.float .f32 0, .bool false]) ?_ rfl ⟨rfl, ?_⟩
    · simp [results, Try.results37, go_sem]
    · repeat' (with_reducible first | exact Ex.refl _ | assumption | refine Ex.alloc ?_ _ | refine Ex.drewN ?_ _ | refine Ex.drew ?_ | refine Ex.setCell ?_ (by simp <;> omega) _)
  rw [gfar_ok h1 h2]
  simp only [fsingle_ok h1] at k1
  simp only [fsingle_ok h2] at k2
  have s1 := spart_sgl h1
  have s2 := spart_sgl h2
  unfold gfarN
  clear h1 h2
  generalize spart a.re a.den = p1 at k1 s1 ⊢
  generalize spart a.im a.den = p2 at k1 s1 ⊢
  generalize spart b.re b.den = q1 at k2 s2 ⊢
  generalize spart b.im b.den = q2 at k2 s2 ⊢
  obtain ⟨o1, o2, o3, o4⟩ := far_ops p1 p2 q1 q2 s1.1 s1.2 s2.1 s2.2
  generalize sfar p1 p2 q1 q2 = z at o4 ⊢
  generalize fsub p1 q1 = x at o1 o2 o3 o4
  generalize fsub p2 q2 = y at o1 o2 o3 o4
  generalize fsq x = x2 at o2 o4
  generalize fsq y = y2 at o3 o4
  obtain ⟨a1, a2, a3⟩ := a
  obtain ⟨b1, b2, b3⟩ := b
  show Calls _ _ #[.agg #[.int .i64 a1, .int .i64 a2, .int .i64 a3], .agg #[.int .i64 b1, .int .i64 b2, .int .i64 b3]] _ _
  have K1 := Lib.hid k1
  have K2 := Lib.hid k2
  clear k1 k2
  go_enter Try.func37, Try.ntmps37
  go_wp2_with fail
  refine (K1.out _).mono ?_
  rintro e w1 ⟨rfl, hx⟩
  have bA := ((Box.new _ _ _).alloc _).ex hx
  have bB := (Box.new _ _ _).ex hx
  simp only [World.size_alloc] at bB
  replace hx := (((Ex.refl w).alloc _).alloc _).trans hx
  have hE := hx
  have cbA := bA.cell
  have fbA := bA.frozen
  have zbA := bA.lt
  have cbB := bB.cell
  have fbB := bB.frozen
  have zbB := bB.lt
  clear hx
  go_wp2_with fail
  refine (K2.out _).mono ?_
  rintro e w2 ⟨rfl, hx⟩
  replace hE := hE.trans hx
  replace bA := bA.ex hx
  replace cbA := bA.cell
  replace fbA := bA.frozen
  replace zbA := bA.lt
  replace bB := bB.ex hx
  replace cbB := bB.cell
  replace fbB := bB.frozen
  replace zbB := bB.lt
  clear hx
  go_wp2_with (simp only [o1, o2, o3, o4])
  refine bodyPost_ret (v := .tuple #[.float .f32 z, .bool true]) ?_ rfl ⟨rfl, ?_⟩
  · simp [results, Try.results37, go_sem]
  · repeat' (with_reducible first | exact Ex.refl _ | assumption | refine Ex.alloc ?_ _ | refine Ex.drewN ?_ _ | refine Ex.drew ?_ | refine Ex.setCell ?_ (by simp <;> omega) _)
set_option maxHeartbeats 400000 in
theorem sGridFar (a b : Fr) (w : World) : Calls Try.prog 74 #[a.v, b.v] w (FarGot w (gfar a b)) := by
  have k1 := fun w => sFracSingle a w
  have k2 := fun w => sFracSingle b w
  rcases h1 : a.valid with _ | _
  · rw [gfar_no1 h1]
    simp only [fsingle_no h1] at k1
    generalize fsingle b = r at k2
    obtain ⟨r1, r2, r3⟩ := r
    clear h1
    obtain ⟨a1, a2, a3⟩ := a
    obtain ⟨b1, b2, b3⟩ := b
    show Calls _ _ #[.agg #[.int .i64 a1, .int .i64 a2, .int .i64 a3], .agg #[.int .i64 b1, .int .i64 b2, .int .i64 b3]] _ _
    have K1 := Lib.hid k1
    have K2 := Lib.hid k2
    clear k1 k2
    go_enter Try.func74, Try.ntmps74
    go_wp2_with fail
    refine (K1.out _).mono ?_
    rintro e w1 ⟨rfl, hx⟩
    have bA := ((Box.new _ _ _).alloc _).ex hx
    have bB := (Box.new _ _ _).ex hx
    simp only [World.size_alloc] at bB
    replace hx := (((Ex.refl w).alloc _).alloc _).trans hx
    have hE := hx
    have cbA := bA.cell
    have fbA := bA.frozen
    have zbA := bA.lt
    have cbB := bB.cell
    have fbB := bB.frozen
    have zbB := bB.lt
    clear hx
    go_wp2_with fail
    refine (K2.out _).mono ?_
    rintro e w2 ⟨rfl, hx⟩
    replace hE := hE.trans hx
    replace bA := bA.ex hx
    replace cbA := bA.cell
    replace fbA := bA.frozen
    replace zbA := bA.lt
    replace bB := bB.ex hx
    replace cbB := bB.cell
    replace fbB := bB.frozen
    replace zbB := bB.lt
    clear hx
    go_wp2
    refine bodyPost_ret (v := .tuple #[.float .f32 0, .bool false]) ?_ rfl ⟨rfl, ?_⟩
    · simp [results, Try.results74, go_sem]
    · repeat' (with_reducible first | exact Ex.refl _ | assumption | refine Ex.alloc ?_ _ | refine Ex.drewN ?_ _ | refine Ex.drew ?_ | refine Ex.setCell ?_ (by simp <;> omega) _)
  rcases h2 : b.valid with _ | _
  · rw [gfar_no2 h2]
    simp only [fsingle_no h2] at k2
    simp only [fsingle_ok h1] at k1
    generalize spart a.re a.den = p at k1
    generalize spart a.im a.den = q at k1
    clear h1 h2
    obtain ⟨a1, a2, a3⟩ := a
    obtain ⟨b1, b2, b3⟩ := b
    show Calls _ _ #[.agg #[.int .i64 a1, .int .i64 a2, .int .i64 a3], .agg #[.int .i64 b1, .int .i64 b2, .int .i64 b3]] _ _
    have K1 := Lib.hid k1
    have K2 := Lib.hid k2
    clear k1 k2
    go_enter Try.func74, Try.ntmps74
    go_wp2_with fail
    refine (K1.out _).mono ?_
    rintro e w1 ⟨rfl, hx⟩
    have bA := ((Box.new _ _ _).alloc _).ex hx
    have bB := (Box.new _ _ _).ex hx
    simp only [World.size_alloc] at bB
    replace hx := (((Ex.refl w).alloc _).alloc _).trans hx
    have hE := hx
    have cbA := bA.cell
    have fbA := bA.frozen
    have zbA := bA.lt
    have cbB := bB.cell
    have fbB := bB.frozen
    have zbB := bB.lt
    clear hx
    go_wp2_with fail
    refine (K2.out _).mono ?_
    rintro e w2 ⟨rfl, hx⟩
    replace hE := hE.trans hx
    replace bA := bA.ex hx
    replace cbA := bA.cell
    replace fbA := bA.frozen
    replace zbA := bA.lt
    replace bB := bB.ex hx
    replace cbB := bB.cell
    replace fbB := bB.frozen
    replace zbB := bB.lt
    clear hx
    go_wp2
    refine bodyPost_ret (v := .tuple #[.float .f32 0, .bool false]) ?_ rfl ⟨rfl, ?_⟩
    · simp [results, Try.results74, go_sem]
    · repeat' (with_reducible first | exact Ex.refl _ | assumption | refine Ex.alloc ?_ _ | refine Ex.drewN ?_ _ | refine Ex.drew ?_ | refine Ex.setCell ?_ (by simp <;> omega) _)
  rw [gfar_ok h1 h2]
  simp only [fsingle_ok h1] at k1
  simp only [fsingle_ok h2] at k2
  have s1 := spart_sgl h1
  have s2 := spart_sgl h2
  unfold gfarN
  clear h1 h2
  generalize spart a.re a.den = p1 at k1 s1 ⊢
  generalize spart a.im a.den = p2 at k1 s1 ⊢
  generalize spart b.re b.den = q1 at k2 s2 ⊢
  generalize spart b.im b.den = q2 at k2 s2 ⊢
  have k3 := fun w => l12Far_any p1 p2 q1 q2 s1.1 s1.2 s2.1 s2.2 w
  generalize sfar p1 p2 q1 q2 = z at k3 ⊢
  obtain ⟨a1, a2, a3⟩ := a
  obtain ⟨b1, b2, b3⟩ := b
  show Calls _ _ #[.agg #[.int .i64 a1, .int .i64 a2, .int .i64 a3], .agg #[.int .i64 b1, .int .i64 b2, .int .i64 b3]] _ _
  have K1 := Lib.hid k1
  have K2 := Lib.hid k2
  clear k1 k2
  go_enter Try.func74, Try.ntmps74
  go_wp2_with fail
  refine (K1.out _).mono ?_
  rintro e w1 ⟨rfl, hx⟩
  have bA := ((Box.new _ _ _).alloc _).ex hx
  have bB := (Box.new _ _ _).ex hx
  simp only [World.size_alloc] at bB
  replace hx := (((Ex.refl w).alloc _).alloc _).trans hx
  have hE := hx
  have cbA := bA.cell
  have fbA := bA.frozen
  have zbA := bA.lt
  have cbB := bB.cell
  have fbB := bB.frozen
  have zbB := bB.lt
  clear hx
  go_wp2_with fail
  refine (K2.out _).mono ?_
  rintro e w2 ⟨rfl, hx⟩
  replace hE := hE.trans hx
  replace bA := bA.ex hx
  replace cbA := bA.cell
  replace fbA := bA.frozen
  replace zbA := bA.lt
  replace bB := bB.ex hx
  replace cbB := bB.cell
  replace fbB := bB.frozen
  replace zbB := bB.lt
  clear hx
  go_wp2_with fail
  refine (k3 _).mono ?_
  rintro e w3 ⟨rfl, rfl⟩
  go_wp2
  refine bodyPost_ret (v := .tuple #[.float .f32 z, .bool true]) ?_ rfl ⟨rfl, ?_⟩
  · simp [results, Try.results74, go_sem]
  · repeat' (with_reducible first | exact Ex.refl _ | assumption | refine Ex.alloc ?_ _ | refine Ex.drewN ?_ _ | refine Ex.drew ?_ | refine Ex.setCell ?_ (by simp <;> omega) _)
end Go.Proofs.Ytgkekdiffgmllaa

