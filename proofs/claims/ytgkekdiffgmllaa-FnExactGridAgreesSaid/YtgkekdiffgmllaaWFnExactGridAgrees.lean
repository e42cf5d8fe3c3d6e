/-
  The walk of the law FnExactGridAgrees.
-/
import Derived.Test.YtgkekdiffgmllaaLawF
import Derived.Test.YtgkekdiffgmllaaReadF
import Derived.Test.YtgkekdiffgmllaaGrdA
import Derived.Deep.RegionHeld3
import Derived.Deep.DeepCutAuto
namespace Go.Proofs.Ytgkekdiffgmllaa
open Go.RowKit

set_option maxRecDepth 4000 in
set_option maxHeartbeats 2000000 in
theorem law_FnExactGridAgrees (v0 v1 : Value) (w : World) (h0 : IsFracs w v0) (h1 : IsFrac w v1) : Calls Try.prog 12 #[v0, v1] w fun e w' => e = .returned (.bool true) ∧ Ex w w' := by
  obtain ⟨A, cap, xs, rfl, hl, hS⟩ := h0
  obtain ⟨a1, a2, a3, rfl⟩ := h1
  by_cases hbig : (1048576 : Int) < xs.length
  · have hlt : (if (1048576 : Int) < xs.length then (-1 : Int) else 1048576 - xs.length) = -1 := if_pos hbig
    go_enter Try.func12, Try.ntmps12
    go_wp2_with (go_at_call 20; refine (szFracS_any A xs.length cap 1048576 _ (by omega) (by omega) hl).mono ?_; rintro e w1 ⟨rfl, rfl⟩)
    go_ret
    exact ⟨rfl, (Ex.refl _).alloc _⟩
  · have hlt : (if (1048576 : Int) < xs.length then (-1 : Int) else 1048576 - xs.length) = 1048576 - xs.length := if_neg hbig
    have hl2 : xs.length ≤ 1048576 := by omega
    have ki := fun A cap w hS => iGridAgrees A xs cap ⟨a1, a2, a3⟩ w hS hl2
    have ks := fun A cap w hS => sGridAgrees A xs cap ⟨a1, a2, a3⟩ w hS hl2
    generalize gagrees xs ⟨a1, a2, a3⟩ = ok at ki ks
    have Ki : ∀ A cap w, Fracs w A xs → Calls Try.prog 50 #[.slice A xs.length cap, .agg #[.int .i64 a1, .int .i64 a2, .int .i64 a3]] w fun e w' => e = .returned (.bool ok) ∧ Ex w w' := ki
    have Ks : ∀ A cap w, Fracs w A xs → Calls Try.prog 49 #[.slice A xs.length cap, .agg #[.int .i64 a1, .int .i64 a2, .int .i64 a3]] w fun e w' => e = .returned (.bool ok) ∧ Ex w w' := ks
    clear ki ks
    go_enter Try.func12, Try.ntmps12
    go_wp2_with fail
    refine (szFracS_any A xs.length cap 1048576 _ (by omega) (by omega) hl).mono ?_
    rintro e w1 ⟨rfl, hw1⟩
    have hx : Ex (w.alloc (.cells #[.int .i64 a1, .int .i64 a2, .int .i64 a3] 37)) w1 := by rw [hw1]; exact Ex.refl _
    have bA := (Box.new w _ _).ex hx
    have hE := ((Ex.refl w).alloc _).trans hx
    have d1 : w1.cell? ⟨w.heap.size, 0, none⟩ = some (.int .i64 a1) := bA.cell 0
    have d2 : w1.cell? ⟨w.heap.size, 1, none⟩ = some (.int .i64 a2) := bA.cell 1
    have d3 : w1.cell? ⟨w.heap.size, 2, none⟩ = some (.int .i64 a3) := bA.cell 2
    clear hw1 hx
    go_upto_region 5 with fail
    go_cut [6] (fun s wx => s = .bool ok ∧ Ex w1 wx)
    case first =>
      have hS1 := hS.ex hE
      have hF : Ex w1 w1 := Ex.refl _
      have o1 := Lib.hid hE
      clear hE hlt hbig
      go_region_held3 (fun w' => w'.cell? ⟨w.heap.size, 0, none⟩ = some (.int .i64 a1) ∧ w'.cell? ⟨w.heap.size, 1, none⟩ = some (.int .i64 a2) ∧ w'.cell? ⟨w.heap.size, 2, none⟩ = some (.int .i64 a3)) (go_keep) (first | (go_at_call 22; refine (toFracS_any A xs cap _ (hS1.ex (by first | exact hF | exact hF.drew)) hl2).mono ?_; rintro e wn ⟨A2, c2, rfl, ho, hx⟩; have hO := ho.fracs; have hF := Ex.trans (by first | exact hF | exact hF.drew) hx; have d1 := hx.get d1; have d2 := hx.get d2; have d3 := hx.get d3) | (go_at_call 23; refine (toFrac_any a1 a2 a3 _).mono ?_; rintro e wn ⟨rfl, hx⟩; try (have hO := Fracs.ex hO (Ex.trans (by first | exact Ex.refl _ | exact (Ex.refl _).drew) hx)); have hF := Ex.trans (by first | exact hF | exact hF.drew) hx; have d1 := hx.get d1; have d2 := hx.get d2; have d3 := hx.get d3) | (go_at_call 49; refine (Ks A2 c2 _ (by first | exact hO | exact hO.drew)).mono ?_; rintro e wn ⟨rfl, hx⟩; have hF := Ex.trans (by first | exact hF | exact hF.drew) hx; have d1 := hx.get d1; have d2 := hx.get d2; have d3 := hx.get d3))
      all_goals
        go_wp2_with fail
        go_meet
        exact ⟨rfl, by repeat' (with_reducible first | exact Ex.refl _ | assumption | refine Ex.alloc ?_ _ | refine Ex.drewN ?_ _ | refine Ex.drew ?_ | refine Ex.setCell ?_ (by simp <;> omega) _)⟩
    case rest =>
      obtain ⟨rfl, hx⟩ := hcut
      have hE1 := hE.trans hx
      have bA1 := bA.ex hx
      have cA := bA1.cell
      have zA := bA1.lt
      clear hE bA d1 d2 d3 hx
      go_wp2_with fail
      refine (toFracS_any A xs cap _ (hS.ex hE1) hl2).mono ?_
      rintro e w2 ⟨A2, c2, rfl, ho, hx⟩
      replace hE1 := hE1.trans hx
      replace bA1 := bA1.ex hx
      replace cA := bA1.cell
      clear hx
      go_wp2_with fail
      refine (toFrac_any a1 a2 a3 _).mono ?_
      rintro e w3 ⟨rfl, hx⟩
      replace hE1 := hE1.trans hx
      replace ho := ho.ex hx
      clear hx
      go_wp2_with fail
      refine (Ki A2 c2 _ ho.fracs).mono ?_
      rintro e w4 ⟨rfl, hx⟩
      replace hE1 := hE1.trans hx
      replace ho := ho.ex hx
      clear hx cA bA1 zA
      go_wp2_with fail
      refine (toFracS_any A xs cap _ (hS.ex hE1) hl2).mono ?_
      rintro e w5 ⟨A5, c5, rfl, ho5, hx⟩
      replace hE1 := hE1.trans hx
      replace ho := ho.ex hx
      clear hx
      go_wp2_with fail
      refine (eqFracS_same A2 A5 xs c2 c5 _ ho.fracs ho5.fracs hl2).mono ?_
      rintro e w6 ⟨rfl, hx⟩
      replace hE1 := hE1.trans hx
      go_wp2
      go_ret
      exact ⟨rfl, hE1⟩
end Go.Proofs.Ytgkekdiffgmllaa
