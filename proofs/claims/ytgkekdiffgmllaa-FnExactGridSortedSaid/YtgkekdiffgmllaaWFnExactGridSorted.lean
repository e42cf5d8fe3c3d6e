/-
  The walk of the law FnExactGridSorted.
-/
import Derived.Test.YtgkekdiffgmllaaLawH
import Derived.Test.YtgkekdiffgmllaaReadF
import Derived.Test.YtgkekdiffgmllaaGrdTs
import Derived.Deep.RegionHeld3
import Derived.Deep.DeepCutAuto
namespace Go.Proofs.Ytgkekdiffgmllaa
open Go.RowKit

set_option maxRecDepth 4000 in
set_option maxHeartbeats 2000000 in
theorem law_FnExactGridSorted (v0 v1 : Value) (w : World) (h0 : IsFracs w v0) (h1 : IsFrac w v1) : Calls Try.prog 9 #[v0, v1] w fun e w' => e = .returned (.bool true) ∧ Ex w w' := by
  obtain ⟨A, cap, xs, rfl, hl, hS⟩ := h0
  obtain ⟨a1, a2, a3, rfl⟩ := h1
  by_cases hbig : (1048576 : Int) < xs.length
  · have hlt : (if (1048576 : Int) < xs.length then (-1 : Int) else 1048576 - xs.length) = -1 := if_pos hbig
    go_enter Try.func9, Try.ntmps9
    go_wp2_with (go_at_call 20; refine (szFracS_any A xs.length cap 1048576 _ (by omega) (by omega) hl).mono ?_; rintro e w1 ⟨rfl, rfl⟩)
    go_ret
    exact ⟨rfl, (Ex.refl _).alloc _⟩
  have hlt : (if (1048576 : Int) < xs.length then (-1 : Int) else 1048576 - xs.length) = 1048576 - xs.length := if_neg hbig
  have hl2 : xs.length ≤ 1048576 := by omega
  have ki := fun A cap w hS => iGridSorted A xs cap ⟨a1, a2, a3⟩ w hS hl2
  have ks := fun A cap w hS => sGridSorted A xs cap ⟨a1, a2, a3⟩ w hS hl2
  have hcl := gsorted_len xs ⟨a1, a2, a3⟩
  generalize gsorted xs ⟨a1, a2, a3⟩ = R at ki ks hcl
  obtain ⟨ys, ok⟩ := R
  simp only at hcl
  have hcl2 : ys.length ≤ 1048576 := by omega
  have Ki : ∀ A cap w, Fracs w A xs → Calls Try.prog 41 #[.slice A xs.length cap, .agg #[.int .i64 a1, .int .i64 a2, .int .i64 a3]] w (GotFs w (ys, ok)) := ki
  have Ks : ∀ A cap w, Fracs w A xs → Calls Try.prog 40 #[.slice A xs.length cap, .agg #[.int .i64 a1, .int .i64 a2, .int .i64 a3]] w (GotFs w (ys, ok)) := ks
  clear ki ks
  go_enter Try.func9, Try.ntmps9
  go_wp2_with fail
  refine (szFracS_any A xs.length cap 1048576 _ (by omega) (by omega) hl).mono ?_
  rintro e w0 ⟨rfl, hw0⟩
  have hx : Ex (w.alloc (.cells #[.int .i64 a1, .int .i64 a2, .int .i64 a3] 37)) w0 := by rw [hw0]; exact Ex.refl _
  have bA := (Box.new w _ _).ex hx
  have hE := ((Ex.refl w).alloc _).trans hx
  have cbA := bA.cell
  have zbA := bA.lt
  clear hw0 hx
  have y0 := hE.size
  have d1 : w0.cell? ⟨w.heap.size, 0, none⟩ = some (.int .i64 a1) := cbA 0
  have d2 : w0.cell? ⟨w.heap.size, 1, none⟩ = some (.int .i64 a2) := cbA 1
  have d3 : w0.cell? ⟨w.heap.size, 2, none⟩ = some (.int .i64 a3) := cbA 2
  go_upto_region 5 with fail
  go_cut [6, 7] (fun s t wx => ∃ B cb, s = .slice B ys.length cb ∧ t = .bool ok ∧ Hid (OwnF wx w0.heap.size B cb ys) ∧ Ex w0 wx)
  case first =>
    have hS1 := hS.ex hE
    have hF : Ex w0 w0 := Ex.refl _
    clear hE bA cbA zbA hlt hbig 
    go_region_held3 (fun w' => w'.cell? ⟨w.heap.size, 0, none⟩ = some (.int .i64 a1) ∧ w'.cell? ⟨w.heap.size, 1, none⟩ = some (.int .i64 a2) ∧ w'.cell? ⟨w.heap.size, 2, none⟩ = some (.int .i64 a3)) (go_keep) (first | (go_at_call 22; refine (toFracS_any A xs cap _ (hS1.ex (by first | exact hF | exact hF.drew)) hl2).mono ?_; rintro e wn ⟨A2, c2, rfl, ho, hx⟩; have hO := ho.fracs; have hF := Ex.trans (by first | exact hF | exact hF.drew) hx; have d1 := hx.get d1; have d2 := hx.get d2; have d3 := hx.get d3) | (go_at_call 23; refine (toFrac_any a1 a2 a3 _).mono ?_; rintro e wn ⟨rfl, hx⟩; try (have hO := Fracs.ex hO (Ex.trans (by first | exact Ex.refl _ | exact (Ex.refl _).drew) hx)); have hF := Ex.trans (by first | exact hF | exact hF.drew) hx; have d1 := hx.get d1; have d2 := hx.get d2; have d3 := hx.get d3) | (go_at_call 40; refine (Ks A2 c2 _ (by first | exact hO | exact hO.drew)).mono ?_; rintro e wn ⟨B, cb, rfl, hB, hx⟩; have hB := OwnF.wide hB (by first | exact hF.size | exact hF.drew.size); have hF := Ex.trans (by first | exact hF | exact hF.drew) hx; have d1 := hx.get d1; have d2 := hx.get d2; have d3 := hx.get d3))
    all_goals
      go_wp2_with fail
      go_meet
      exact ⟨_, _, rfl, rfl, Lib.hid hB, by repeat' (with_reducible first | exact Ex.refl _ | assumption | refine Ex.alloc ?_ _ | refine Ex.drewN ?_ _ | refine Ex.drew ?_ | refine Ex.setCell ?_ (by simp <;> omega) _)⟩
  case rest =>
    obtain ⟨B, cb, rfl, rfl, H0, hx⟩ := hcut
    have hB := H0.out
    clear H0 d1 d2 d3
    have y0 := hx.size
    replace hE := hE.trans hx
    replace bA := bA.ex hx
    replace cbA := bA.cell
    replace zbA := bA.lt
    clear hx
    have qB := hE.size
    have zhB := fun b (h : (Value.slice B ys.length cb).ownBlock = some b) => Own.lt hB b h
    have yB := hE.size
    go_wp2_with fail
    refine (toFracS_any A xs cap _ (hS.ex hE) hl2).mono ?_
    rintro e w1 ⟨A2, d2, rfl, h2, hx⟩
    have y1 := hx.size
    replace hE := hE.trans hx
    replace hB := hB.ex hx
    replace bA := bA.ex hx
    replace cbA := bA.cell
    replace zbA := bA.lt
    clear hx
    have q1 := hE.size
    have zh2 := fun b (h : (Value.slice A2 xs.length d2).ownBlock = some b) => Own.lt h2 b h
    go_wp2_with fail
    refine (toFrac_any a1 a2 a3 _).mono ?_
    rintro e w2 ⟨rfl, hx⟩
    have y2 := hx.size
    replace hE := hE.trans hx
    replace hB := hB.ex hx
    replace h2 := h2.ex hx
    replace bA := bA.ex hx
    replace cbA := bA.cell
    replace zbA := bA.lt
    clear hx
    go_wp2_with fail
    refine (Ki A2 d2 _ h2.fracs).mono ?_
    rintro e w3 ⟨G, cg, rfl, hG, hx⟩
    have y3 := hx.size
    replace hE := hE.trans hx
    replace hB := hB.ex hx
    replace h2 := h2.ex hx
    replace bA := bA.ex hx
    replace cbA := bA.cell
    replace zbA := bA.lt
    clear hx
    have q3 := hE.size
    have zhG := fun b (h : (Value.slice G ys.length cg).ownBlock = some b) => Own.lt hG b h
    dsimp only at hG zhG
    go_wp2_with fail
    refine (eqFracS_same G B ys cg cb _ hG.fracs hB.fracs hcl2).mono ?_
    rintro e w4 ⟨rfl, hx⟩
    have y4 := hx.size
    replace hE := hE.trans hx
    replace hB := hB.ex hx
    replace h2 := h2.ex hx
    replace hG := hG.ex hx
    replace bA := bA.ex hx
    replace cbA := bA.cell
    replace zbA := bA.lt
    clear hx
    go_wp2_with fail
    refine (toFracS_any A xs cap _ (hS.ex hE) hl2).mono ?_
    rintro e w5 ⟨A3, d3, rfl, h3, hx⟩
    have y5 := hx.size
    replace hE := hE.trans hx
    replace hB := hB.ex hx
    replace h2 := h2.ex hx
    replace hG := hG.ex hx
    replace bA := bA.ex hx
    replace cbA := bA.cell
    replace zbA := bA.lt
    clear hx
    have q5 := hE.size
    have zh3 := fun b (h : (Value.slice A3 xs.length d3).ownBlock = some b) => Own.lt h3 b h
    go_wp2_with fail
    refine (eqFracS_same A2 A3 xs d2 d3 _ h2.fracs h3.fracs hl2).mono ?_
    rintro e w6 ⟨rfl, hx⟩
    have y6 := hx.size
    replace hE := hE.trans hx
    replace hB := hB.ex hx
    replace h2 := h2.ex hx
    replace hG := hG.ex hx
    replace h3 := h3.ex hx
    replace bA := bA.ex hx
    replace cbA := bA.cell
    replace zbA := bA.lt
    clear hx
    clear h3 zh3
    go_wp2_with fail
    refine (markFracS_any _ A2 xs xs.length d2 1 _ h2 rfl hl2 (by omega) (by omega)).mono ?_
    rintro e w7 ⟨rfl, -, hg⟩
    replace hE := hE.grown hg (fun k hk => by have := (zh2 k hk).1; omega)
    replace hB : OwnF _ _ _ _ _ := Own.other hB hg (fun b hb e => by have := zhB b hb; have := zh2 b e; omega)
    replace hG : OwnF _ _ _ _ _ := Own.other hG hg (fun b hb e => by have := zhG b hb; have := zh2 b e; omega)
    replace bA := bA.grown hg (Own.ne h2 bA (by decide))
    replace cbA := bA.cell
    replace zbA := bA.lt
    clear hg
    clear h2
    have hk : ¬ ((1 : Int) + (xs.length : Int) * 3 < 0) := by omega
    go_wp2_with fail
    refine (eqFracS_same G B ys cg cb _ hG.fracs hB.fracs hcl2).mono ?_
    rintro e w8 ⟨rfl, hx⟩
    have y8 := hx.size
    replace hE := hE.trans hx
    replace hB := hB.ex hx
    replace hG := hG.ex hx
    replace bA := bA.ex hx
    replace cbA := bA.cell
    replace zbA := bA.lt
    clear hx
    go_wp2_with fail
    refine (markFracS_any _ G ys ys.length cg 1 _ hG rfl hcl2 (by omega) (by omega)).mono ?_
    rintro e w9 ⟨rfl, hM, hg⟩
    replace hE := hE.grown hg (fun k hk => by have := (zhG k hk).1; omega)
    replace hB : OwnF _ _ _ _ _ := Own.other hB hg (fun b hb e => by have := zhB b hb; have := zhG b e; omega)
    replace bA := bA.grown hg (Own.ne hG bA (by decide))
    replace cbA := bA.cell
    replace zbA := bA.lt
    clear hg
    clear hG
    have hk2 : ¬ ((1 : Int) + (ys.length : Int) * 3 < 0) := by omega
    go_wp2_with fail
    refine (heldFracS_any G ys.length cg 1 _ hM.fracs hcl2 (by omega) (by omega)).mono ?_
    rintro e w10 ⟨rfl, hx⟩
    have y10 := hx.size
    replace hE := hE.trans hx
    replace hB := hB.ex hx
    replace hM := hM.ex hx
    replace bA := bA.ex hx
    replace cbA := bA.cell
    replace zbA := bA.lt
    clear hx
    have d1 : w10.cell? ⟨w.heap.size, 0, none⟩ = some (.int .i64 a1) := cbA 0
    have d2 : w10.cell? ⟨w.heap.size, 1, none⟩ = some (.int .i64 a2) := cbA 1
    have d3 : w10.cell? ⟨w.heap.size, 2, none⟩ = some (.int .i64 a3) := cbA 2
    go_upto_region 24 with fail
    go_cut [14, 15] (fun s t wx => ∃ B cb, s = .slice B ys.length cb ∧ t = .bool ok ∧ Hid (OwnF wx w10.heap.size B cb ys) ∧ Ex w10 wx)
    case first =>
      have hS1 := hS.ex hE
      have hF : Ex w10 w10 := Ex.refl _
      clear hE bA cbA zbA hlt hbig hB hM zhB
      go_region_held3 (fun w' => w'.cell? ⟨w.heap.size, 0, none⟩ = some (.int .i64 a1) ∧ w'.cell? ⟨w.heap.size, 1, none⟩ = some (.int .i64 a2) ∧ w'.cell? ⟨w.heap.size, 2, none⟩ = some (.int .i64 a3)) (go_keep) (first | (go_at_call 22; refine (toFracS_any A xs cap _ (hS1.ex (by first | exact hF | exact hF.drew)) hl2).mono ?_; rintro e wn ⟨A2, c2, rfl, ho, hx⟩; have hO := ho.fracs; have hF := Ex.trans (by first | exact hF | exact hF.drew) hx; have d1 := hx.get d1; have d2 := hx.get d2; have d3 := hx.get d3) | (go_at_call 23; refine (toFrac_any a1 a2 a3 _).mono ?_; rintro e wn ⟨rfl, hx⟩; try (have hO := Fracs.ex hO (Ex.trans (by first | exact Ex.refl _ | exact (Ex.refl _).drew) hx)); have hF := Ex.trans (by first | exact hF | exact hF.drew) hx; have d1 := hx.get d1; have d2 := hx.get d2; have d3 := hx.get d3) | (go_at_call 41; refine (Ki A2 c2 _ (by first | exact hO | exact hO.drew)).mono ?_; rintro e wn ⟨B, cb, rfl, hB, hx⟩; have hB := OwnF.wide hB (by first | exact hF.size | exact hF.drew.size); have hF := Ex.trans (by first | exact hF | exact hF.drew) hx; have d1 := hx.get d1; have d2 := hx.get d2; have d3 := hx.get d3))
      all_goals
        go_wp2_with fail
        go_meet
        exact ⟨_, _, rfl, rfl, Lib.hid hB, by repeat' (with_reducible first | exact Ex.refl _ | assumption | refine Ex.alloc ?_ _ | refine Ex.drewN ?_ _ | refine Ex.drew ?_ | refine Ex.setCell ?_ (by simp <;> omega) _)⟩
    case rest =>
      obtain ⟨H, ch, rfl, rfl, H0, hx⟩ := hcut
      have hH := H0.out
      clear H0 d1 d2 d3
      have y10 := hx.size
      replace hE := hE.trans hx
      replace hB := hB.ex hx
      replace hM := hM.ex hx
      replace bA := bA.ex hx
      replace cbA := bA.cell
      replace zbA := bA.lt
      clear hx
      have qH := hE.size
      have zhH := fun b (h : (Value.slice H ys.length ch).ownBlock = some b) => Own.lt hH b h
      have yH := hE.size
      go_wp2_with fail
      refine (eqFracS_same H B ys ch cb _ hH.fracs hB.fracs hcl2).mono ?_
      rintro e w11 ⟨rfl, hx⟩
      have y11 := hx.size
      replace hE := hE.trans hx
      replace hB := hB.ex hx
      replace hM := hM.ex hx
      replace hH := hH.ex hx
      replace bA := bA.ex hx
      replace cbA := bA.cell
      replace zbA := bA.lt
      clear hx
      go_wp2_with fail
      refine (heldFracS_any G ys.length cg 1 _ hM.fracs hcl2 (by omega) (by omega)).mono ?_
      rintro e w12 ⟨rfl, hx⟩
      have y12 := hx.size
      replace hE := hE.trans hx
      replace hB := hB.ex hx
      replace hM := hM.ex hx
      replace hH := hH.ex hx
      replace bA := bA.ex hx
      replace cbA := bA.cell
      replace zbA := bA.lt
      clear hx
      go_wp2
      go_ret
      exact ⟨rfl, hE⟩
end Go.Proofs.Ytgkekdiffgmllaa
