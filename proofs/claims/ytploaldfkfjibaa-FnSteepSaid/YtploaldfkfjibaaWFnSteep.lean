/-
  The walk of the law FnSteep.
-/
import Derived.Test.YtploaldfkfjibaaDrawH
import Derived.Test.YtploaldfkfjibaaLawS
import Derived.Test.YtploaldfkfjibaaRead
import Derived.Test.YtploaldfkfjibaaGlsR
import Derived.Test.YtploaldfkfjibaaGlsT
import Derived.Test.YtploaldfkfjibaaGlsS
import Derived.Test.YtploaldfkfjibaaGlsM
namespace Go.Proofs.Ytploaldfkfjibaa
open Go.RowKit

set_option maxRecDepth 4000 in
set_option maxHeartbeats 2000000 in
theorem law_FnSteep (v : Value) (w : World) (h : IsBytes w v) : Calls Try.prog 12 #[v] w fun e w' => e = .returned (.bool true) ∧ Ex w w' := by
  obtain ⟨A, cap, xs, rfl, hl, hcap, hcap2, hS, hbs⟩ := h
  have hB : Byts w A xs := ⟨hS, hbs⟩
  clear hS hbs
  by_cases hbig : (1048576 : Int) < xs.length
  · go_enter Try.func12, Try.ntmps12
    go_wp2
    go_ret
    exact ⟨rfl, Ex.refl _⟩
  go_enter Try.func12, Try.ntmps12
  go_wp2_with fail
  refine (drawGlassSteep A xs cap w hB hl hcap hcap2).mono ?_
  rintro e w1 ⟨r, c, B, cb, ys, rfl, hy, hI, hx⟩
  have hE := hx
  clear hx
  have hl2 : ys.length ≤ 1048576 := by omega
  clear hB hy
  have V1 := fun B cb w hI => iGlassSteep r c B ys cb w hI hl2
  have V2 := fun B cb w hI => sGlassSteep r c B ys cb w hI hl2
  rcases hv : gvalid r c ys with _ | _
  · simp only [hv] at V1 V2
    generalize gsteepR r c ys = n at V1 V2
    go_wp2_with fail
    refine (V1 B cb _ (hI.alloc _)).mono ?_
    rintro e w2 ⟨rfl, hx⟩
    have b2 := (Box.new w1 _ _).ex hx
    replace hx := ((Ex.refl w1).alloc _).trans hx
    replace hE := hE.trans hx
    have cb2 := b2.cell
    have zb2 := b2.lt
    replace hI := hI.ex hx
    clear hx
    go_wp2_with fail
    refine (V2 B cb _ (hI)).mono ?_
    rintro e w3 ⟨rfl, hx⟩
    replace hE := hE.trans hx
    replace b2 := b2.ex hx
    replace cb2 := b2.cell
    replace zb2 := b2.lt
    replace hI := hI.ex hx
    clear hx
    go_wp2
    go_ret
    exact ⟨rfl, hE⟩
  · simp only [hv] at V1 V2
    have T1 := fun B cb w hI => iGlassTurned r c B ys cb w hI hl2
    have M1 := fun B cb w hI => iGlassMore r c B ys cb 3 w hI hl2
    have hl4 := gmore_len r c ys 3 hl2
    obtain ⟨rn, cn, rfl, rfl, e3, g1, -, g2, -, e4, e5, e6⟩ := gturn_valid hv
    have hl3 : (gturnQ rn cn ys).length ≤ 1048576 := by rw [gturnQ_len, Nat.mul_comm, ← e3]; exact hl2
    have e7 := gsteep_turn g1 g2 e3
    have e8 := gsteep_nonneg g2 e3
    have e9 : gsteepR rn cn ys = gsteep cn ys := by simp [gsteepR, hv]
    have e10 : gsteepR cn rn (gturnQ rn cn ys) = gsteep cn ys := by simp [gsteepR, e5, e7]
    have e11 : (gmore rn cn ys 3).ok = true → gsteepR (gmore rn cn ys 3).r (gmore rn cn ys 3).c (gmore rn cn ys 3).q = gsteep cn ys ∧ gvalid (gmore rn cn ys 3).r (gmore rn cn ys 3).c (gmore rn cn ys 3).q = true := fun h => by
      obtain ⟨h1, -, -, -, h2, -⟩ := gmore_back h
      rw [h1]
      simp only [gsteepR, h2, if_true]
      exact ⟨gsteep_more g2 e3 3, trivial⟩
    generalize gmore rn cn ys 3 = R at M1 hl4 e11
    obtain ⟨ok, r2, c2, us⟩ := R
    simp only at hl4 e11
    generalize gturnQ rn cn ys = zs at hl3 e4 e5 e6 e7 e10
    have P3 := fun B cb w hI => iGlassSteep r2 c2 B us cb w hI hl4
    have P4 := fun B cb w hI => iGlassSteep cn rn B zs cb w hI hl3
    simp only [e4] at T1
    simp only [e5, e10] at P4
    simp only [e9] at V1 V2
    generalize gsteep cn ys = n at V1 V2 P4 e8 e11
    clear hv e3 e4 e5 e6 e7 e9 e10
    rcases ok with _ | _
    · clear e11
      generalize gsteepR r2 c2 us = n2 at P3
      generalize gvalid r2 c2 us = v2 at P3
      go_wp2_with fail
      refine (V1 B cb _ (hI.alloc _)).mono ?_
      rintro e w2 ⟨rfl, hx⟩
      have b2 := (Box.new w1 _ _).ex hx
      replace hx := ((Ex.refl w1).alloc _).trans hx
      replace hE := hE.trans hx
      have cb2 := b2.cell
      have zb2 := b2.lt
      replace hI := hI.ex hx
      clear hx
      go_wp2_with fail
      refine (V2 B cb _ (hI)).mono ?_
      rintro e w3 ⟨rfl, hx⟩
      replace hE := hE.trans hx
      replace b2 := b2.ex hx
      replace cb2 := b2.cell
      replace zb2 := b2.lt
      replace hI := hI.ex hx
      clear hx
      go_wp2_with fail
      refine (M1 B cb _ (hI)).mono ?_
      rintro e w4 ⟨B1, d1, rfl, h1, hx⟩
      replace hE := hE.trans hx
      replace b2 := b2.ex hx
      replace cb2 := b2.cell
      replace zb2 := b2.lt
      replace hI := hI.ex hx
      clear hx
      go_wp2_with fail
      refine (P3 B1 d1 _ (h1.alloc _).ints).mono ?_
      rintro e w5 ⟨rfl, hx⟩
      have b5 := (Box.new w4 _ _).ex hx
      replace hx := ((Ex.refl w4).alloc _).trans hx
      replace hE := hE.trans hx
      replace b2 := b2.ex hx
      replace cb2 := b2.cell
      replace zb2 := b2.lt
      have cb5 := b5.cell
      have zb5 := b5.lt
      replace hI := hI.ex hx
      replace h1 := h1.ex hx
      clear hx
      go_wp2_with fail
      refine (T1 B cb _ (hI)).mono ?_
      rintro e w6 ⟨B2, d2, rfl, h2, hx⟩
      replace hE := hE.trans hx
      replace b2 := b2.ex hx
      replace cb2 := b2.cell
      replace zb2 := b2.lt
      replace b5 := b5.ex hx
      replace cb5 := b5.cell
      replace zb5 := b5.lt
      replace hI := hI.ex hx
      replace h1 := h1.ex hx
      clear hx
      go_wp2_with fail
      refine (P4 B2 d2 _ (h2.alloc _).ints).mono ?_
      rintro e w7 ⟨rfl, hx⟩
      have b7 := (Box.new w6 _ _).ex hx
      replace hx := ((Ex.refl w6).alloc _).trans hx
      replace hE := hE.trans hx
      replace b2 := b2.ex hx
      replace cb2 := b2.cell
      replace zb2 := b2.lt
      replace b5 := b5.ex hx
      replace cb5 := b5.cell
      replace zb5 := b5.lt
      have cb7 := b7.cell
      have zb7 := b7.lt
      replace hI := hI.ex hx
      replace h1 := h1.ex hx
      replace h2 := h2.ex hx
      clear hx
      go_wp2
      go_ret
      exact ⟨rfl, hE⟩
    · obtain ⟨e11, e12⟩ := e11 rfl
      simp only [e11, e12] at P3
      go_wp2_with fail
      refine (V1 B cb _ (hI.alloc _)).mono ?_
      rintro e w2 ⟨rfl, hx⟩
      have b2 := (Box.new w1 _ _).ex hx
      replace hx := ((Ex.refl w1).alloc _).trans hx
      replace hE := hE.trans hx
      have cb2 := b2.cell
      have zb2 := b2.lt
      replace hI := hI.ex hx
      clear hx
      go_wp2_with fail
      refine (V2 B cb _ (hI)).mono ?_
      rintro e w3 ⟨rfl, hx⟩
      replace hE := hE.trans hx
      replace b2 := b2.ex hx
      replace cb2 := b2.cell
      replace zb2 := b2.lt
      replace hI := hI.ex hx
      clear hx
      go_wp2_with fail
      refine (M1 B cb _ (hI)).mono ?_
      rintro e w4 ⟨B1, d1, rfl, h1, hx⟩
      replace hE := hE.trans hx
      replace b2 := b2.ex hx
      replace cb2 := b2.cell
      replace zb2 := b2.lt
      replace hI := hI.ex hx
      clear hx
      go_wp2_with fail
      refine (P3 B1 d1 _ (h1.alloc _).ints).mono ?_
      rintro e w5 ⟨rfl, hx⟩
      have b5 := (Box.new w4 _ _).ex hx
      replace hx := ((Ex.refl w4).alloc _).trans hx
      replace hE := hE.trans hx
      replace b2 := b2.ex hx
      replace cb2 := b2.cell
      replace zb2 := b2.lt
      have cb5 := b5.cell
      have zb5 := b5.lt
      replace hI := hI.ex hx
      replace h1 := h1.ex hx
      clear hx
      go_wp2_with fail
      refine (T1 B cb _ (hI)).mono ?_
      rintro e w6 ⟨B2, d2, rfl, h2, hx⟩
      replace hE := hE.trans hx
      replace b2 := b2.ex hx
      replace cb2 := b2.cell
      replace zb2 := b2.lt
      replace b5 := b5.ex hx
      replace cb5 := b5.cell
      replace zb5 := b5.lt
      replace hI := hI.ex hx
      replace h1 := h1.ex hx
      clear hx
      go_wp2_with fail
      refine (P4 B2 d2 _ (h2.alloc _).ints).mono ?_
      rintro e w7 ⟨rfl, hx⟩
      have b7 := (Box.new w6 _ _).ex hx
      replace hx := ((Ex.refl w6).alloc _).trans hx
      replace hE := hE.trans hx
      replace b2 := b2.ex hx
      replace cb2 := b2.cell
      replace zb2 := b2.lt
      replace b5 := b5.ex hx
      replace cb5 := b5.cell
      replace zb5 := b5.lt
      have cb7 := b7.cell
      have zb7 := b7.lt
      replace hI := hI.ex hx
      replace h1 := h1.ex hx
      replace h2 := h2.ex hx
      clear hx
      go_wp2
      go_ret
      exact ⟨rfl, hE⟩
end Go.Proofs.Ytploaldfkfjibaa
