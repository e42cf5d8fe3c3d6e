/-
  The walk of the law FnExactGridSingles.
-/
import Derived.Test.YtgkekdiffgmllaaLawH
import Derived.Test.YtgkekdiffgmllaaReadF
import Derived.Deep.RegionHeld3
import Derived.Deep.DeepCutAuto
namespace Go.Proofs.Ytgkekdiffgmllaa
open Go.RowKit

set_option maxRecDepth 4000 in
set_option maxHeartbeats 2000000 in
theorem law_FnExactGridSingles (v0 : Value) (w : World) (h0 : IsFracs w v0) : Calls Try.prog 6 #[v0] w fun e w' => e = .returned (.bool true) ∧ Ex w w' := by
  obtain ⟨A, cap, xs, rfl, hl, hS⟩ := h0
  by_cases hbig : (1048576 : Int) < xs.length
  · have hlt : (if (1048576 : Int) < xs.length then (-1 : Int) else 1048576 - xs.length) = -1 := if_pos hbig
    go_enter Try.func6, Try.ntmps6
    go_wp2_with (go_at_call 20; refine (szFracS_any A xs.length cap 1048576 _ (by omega) (by omega) hl).mono ?_; rintro e w1 ⟨rfl, rfl⟩)
    go_ret
    exact ⟨rfl, Ex.refl _⟩
  have hlt : (if (1048576 : Int) < xs.length then (-1 : Int) else 1048576 - xs.length) = 1048576 - xs.length := if_neg hbig
  have hl2 : xs.length ≤ 1048576 := by omega
  have ki := fun A cap w hS => iGridSingles A xs cap w hS hl2
  have ks := fun A cap w hS => sGridSingles A xs cap w hS hl2
  obtain ⟨hcl, hsg⟩ := gsingles_facts xs
  generalize gsingles xs = R at ki ks hcl hsg
  obtain ⟨cs, ok⟩ := R
  simp only at hcl hsg
  have hcl2 : cs.length ≤ 1048576 := by omega
  go_enter Try.func6, Try.ntmps6
  go_wp2_with fail
  refine (szFracS_any A xs.length cap 1048576 _ (by omega) (by omega) hl).mono ?_
  rintro e w0 ⟨rfl, hw0⟩
  have hE : Ex w w0 := by rw [hw0]; exact Ex.refl _
  clear hw0
  have y0 := hE.size
  go_wp2_with fail
  refine (toFracS_any A xs cap _ (hS.ex hE) hl2).mono ?_
  rintro e w1 ⟨A1, d1, rfl, h1, hx⟩
  have y1 := hx.size
  replace hE := hE.trans hx
  clear hx
  have q1 := hE.size
  have zh1 := fun b (h : (Value.slice A1 xs.length d1).ownBlock = some b) => Own.lt h1 b h
  go_wp2_with fail
  refine (ks A1 d1 _ h1.fracs).mono ?_
  rintro e w2 ⟨B, cb, rfl, hB, hx⟩
  have y2 := hx.size
  replace hE := hE.trans hx
  replace h1 := h1.ex hx
  clear hx
  have q2 := hE.size
  have zhB := fun b (h : (Value.slice B cs.length cb).ownBlock = some b) => Own.lt hB b h
  clear h1 zh1
  dsimp only at hB zhB
  go_wp2_with fail
  refine (toFracS_any A xs cap _ (hS.ex hE) hl2).mono ?_
  rintro e w3 ⟨A2, d2, rfl, h2, hx⟩
  have y3 := hx.size
  replace hE := hE.trans hx
  replace hB := hB.ex hx
  clear hx
  have q3 := hE.size
  have zh2 := fun b (h : (Value.slice A2 xs.length d2).ownBlock = some b) => Own.lt h2 b h
  go_wp2_with fail
  refine (ki A2 d2 _ h2.fracs).mono ?_
  rintro e w4 ⟨G, cg, rfl, hG, hx⟩
  have y4 := hx.size
  replace hE := hE.trans hx
  replace hB := hB.ex hx
  replace h2 := h2.ex hx
  clear hx
  have q4 := hE.size
  have zhG := fun b (h : (Value.slice G cs.length cg).ownBlock = some b) => Own.lt hG b h
  dsimp only at hG zhG
  go_wp2_with fail
  refine (eqComplex64S_same G B cs cg cb _ hG.sgls hB.sgls hcl2 hsg).mono ?_
  rintro e w5 ⟨rfl, hx⟩
  have y5 := hx.size
  replace hE := hE.trans hx
  replace hB := hB.ex hx
  replace h2 := h2.ex hx
  replace hG := hG.ex hx
  clear hx
  go_wp2_with fail
  refine (toFracS_any A xs cap _ (hS.ex hE) hl2).mono ?_
  rintro e w6 ⟨A3, d3, rfl, h3, hx⟩
  have y6 := hx.size
  replace hE := hE.trans hx
  replace hB := hB.ex hx
  replace h2 := h2.ex hx
  replace hG := hG.ex hx
  clear hx
  have q6 := hE.size
  have zh3 := fun b (h : (Value.slice A3 xs.length d3).ownBlock = some b) => Own.lt h3 b h
  go_wp2_with fail
  refine (eqFracS_same A2 A3 xs d2 d3 _ h2.fracs h3.fracs hl2).mono ?_
  rintro e w7 ⟨rfl, hx⟩
  have y7 := hx.size
  replace hE := hE.trans hx
  replace hB := hB.ex hx
  replace h2 := h2.ex hx
  replace hG := hG.ex hx
  replace h3 := h3.ex hx
  clear hx
  clear h3 zh3
  go_wp2_with fail
  refine (markFracS_any _ A2 xs xs.length d2 1 _ h2 rfl hl2 (by omega) (by omega)).mono ?_
  rintro e w8 ⟨rfl, -, hg⟩
  replace hE := hE.grown hg (fun k hk => by have := (zh2 k hk).1; omega)
  replace hB : OwnC _ _ _ _ _ := Own.other hB hg (fun b hb e => by have := zhB b hb; have := zh2 b e; omega)
  replace hG : OwnC _ _ _ _ _ := Own.other hG hg (fun b hb e => by have := zhG b hb; have := zh2 b e; omega)
  clear hg
  clear h2
  have hk : ¬ ((1 : Int) + (xs.length : Int) * 3 < 0) := by omega
  go_wp2_with fail
  refine (eqComplex64S_same G B cs cg cb _ hG.sgls hB.sgls hcl2 hsg).mono ?_
  rintro e w9 ⟨rfl, hx⟩
  have y9 := hx.size
  replace hE := hE.trans hx
  replace hB := hB.ex hx
  replace hG := hG.ex hx
  clear hx
  go_wp2_with fail
  refine (markComplex64S_any _ G cs cs.length cg 1 _ hG rfl hcl2 (by omega) (by omega)).mono ?_
  rintro e w10 ⟨rfl, hM, hg⟩
  replace hE := hE.grown hg (fun k hk => by have := (zhG k hk).1; omega)
  replace hB : OwnC _ _ _ _ _ := Own.other hB hg (fun b hb e => by have := zhB b hb; have := zhG b e; omega)
  clear hg
  clear hG
  have hk2 : ¬ ((1 : Int) + (cs.length : Int) < 0) := by omega
  have hM0 : (cmarks 1 cs.length).length = cs.length := by simp
  go_wp2_with fail
  refine (heldComplex64S_any G cs.length cg 1 _ hM.sgls hcl2 (by omega) (by omega)).mono ?_
  rintro e w11 ⟨rfl, hx⟩
  have y11 := hx.size
  replace hE := hE.trans hx
  replace hB := hB.ex hx
  replace hM := hM.ex hx
  clear hx
  go_wp2_with fail
  refine (toFracS_any A xs cap _ (hS.ex hE) hl2).mono ?_
  rintro e w12 ⟨A4, d4, rfl, h4, hx⟩
  have y12 := hx.size
  replace hE := hE.trans hx
  replace hB := hB.ex hx
  replace hM := hM.ex hx
  clear hx
  have q12 := hE.size
  have zh4 := fun b (h : (Value.slice A4 xs.length d4).ownBlock = some b) => Own.lt h4 b h
  go_wp2_with fail
  refine (ki A4 d4 _ h4.fracs).mono ?_
  rintro e w13 ⟨H, ch, rfl, hH, hx⟩
  have y13 := hx.size
  replace hE := hE.trans hx
  replace hB := hB.ex hx
  replace hM := hM.ex hx
  replace h4 := h4.ex hx
  clear hx
  have q13 := hE.size
  have zhH := fun b (h : (Value.slice H cs.length ch).ownBlock = some b) => Own.lt hH b h
  dsimp only at hH
  go_wp2_with fail
  refine (eqComplex64S_same H B cs ch cb _ hH.sgls hB.sgls hcl2 hsg).mono ?_
  rintro e w14 ⟨rfl, hx⟩
  have y14 := hx.size
  replace hE := hE.trans hx
  replace hB := hB.ex hx
  replace hM := hM.ex hx
  replace h4 := h4.ex hx
  replace hH := hH.ex hx
  clear hx
  go_wp2_with fail
  refine (heldComplex64S_any G cs.length cg 1 _ hM.sgls hcl2 (by omega) (by omega)).mono ?_
  rintro e w15 ⟨rfl, hx⟩
  have y15 := hx.size
  replace hE := hE.trans hx
  replace hB := hB.ex hx
  replace hM := hM.ex hx
  replace h4 := h4.ex hx
  replace hH := hH.ex hx
  clear hx
  go_wp2
  go_ret
  exact ⟨rfl, hE⟩
end Go.Proofs.Ytgkekdiffgmllaa
