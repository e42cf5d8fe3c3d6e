/-
  The walk of the law FnSmoothGlass.
-/
import Derived.Test.YtploaldfkfjibaaDrawH
import Derived.Test.YtploaldfkfjibaaLawS
import Derived.Test.YtploaldfkfjibaaRead
import Derived.Test.YtploaldfkfjibaaGlsN
import Derived.Test.YtploaldfkfjibaaGlsW
import Derived.Test.YtploaldfkfjibaaGlsS
import Derived.Test.YtploaldfkfjibaaGlsY
namespace Go.Proofs.Ytploaldfkfjibaa
open Go.RowKit

set_option maxRecDepth 4000 in
set_option maxHeartbeats 2000000 in
theorem law_FnSmoothGlass (v : Value) (w : World) (h : IsBytes w v) : Calls Try.prog 15 #[v] w fun e w' => e = .returned (.bool true) ∧ Ex w w' := by
  obtain ⟨A, cap, xs, rfl, hl, hcap, hcap2, hS, hbs⟩ := h
  have hB : Byts w A xs := ⟨hS, hbs⟩
  clear hS hbs
  by_cases hbig : (1048576 : Int) < xs.length
  · go_enter Try.func15, Try.ntmps15
    go_wp2
    go_ret
    exact ⟨rfl, Ex.refl _⟩
  go_enter Try.func15, Try.ntmps15
  go_wp2_with fail
  refine (drawGlassSmooth A xs cap w hB hl hcap hcap2).mono ?_
  rintro e w1 ⟨r, c, B, cb, ys, rfl, hy, hI, hx⟩
  have hE := hx
  clear hx
  have hl2 : ys.length ≤ 1048576 := by omega
  clear hB hy
  have V1 := fun B cb w hI => iGlassSmooth r c B ys cb w hI hl2
  have V2 := fun B cb w hI => sGlassSmooth r c B ys cb w hI hl2
  rcases hs : gsmooth r c ys with _ | _
  · simp only [hs] at V1 V2
    go_wp2_with fail
    refine (V1 B cb _ (hI.alloc _)).mono ?_
    rintro e w2 ⟨rfl, hx⟩
    have b2 := (Box.new w1 _ _).ex hx
    replace hx := ((Ex.refl w1).alloc _).trans hx
    replace hE := hE.trans hx
    have cb2 := b2.cell
    have zb2 := b2.lt
    replace hI := hI.ex hx
    clear hx
    go_wp2_with fail
    refine (V2 B cb _ (hI)).mono ?_
    rintro e w3 ⟨rfl, hx⟩
    replace hE := hE.trans hx
    replace b2 := b2.ex hx
    replace cb2 := b2.cell
    replace zb2 := b2.lt
    replace hI := hI.ex hx
    clear hx
    go_wp2
    go_ret
    exact ⟨rfl, hE⟩
  · simp only [hs] at V1 V2
    obtain ⟨hv, -⟩ := gsmooth_out hs
    have hp := (gvalid_len hv).1
    obtain ⟨e1, -, -, -⟩ := gwrap_valid hv
    have e2 := gsmooth_found hs
    have W1 := fun B cb w hI => iGlassWrap r c B ys cb w hI hl2
    simp only [e1] at W1
    have hl3 : (ys.map (· % (4 : Int))).length ≤ 1048576 := by simpa using hl2
    generalize ys.map (· % (4 : Int)) = zs at W1 e2 hl3
    have U1 := fun B cb w hI => iGlassUnwrap r c B zs cb w hI hl3
    obtain ⟨gb, go, rfl, hc0⟩ := hI.at (by omega)
    clear hc0 e1 hv hs
    obtain ⟨x0, hx0⟩ : ∃ x, x = ys.getD 0 0 := ⟨_, rfl⟩
    rw [← hx0] at e2
    go_wp2_with fail
    refine (V1 _ cb _ (hI.alloc _)).mono ?_
    rintro e w2 ⟨rfl, hx⟩
    have b2 := (Box.new w1 _ _).ex hx
    replace hx := ((Ex.refl w1).alloc _).trans hx
    replace hE := hE.trans hx
    have cb2 := b2.cell
    have zb2 := b2.lt
    replace hI := hI.ex hx
    clear hx
    go_wp2_with fail
    refine (V2 _ cb _ (hI)).mono ?_
    rintro e w3 ⟨rfl, hx⟩
    replace hE := hE.trans hx
    replace b2 := b2.ex hx
    replace cb2 := b2.cell
    replace zb2 := b2.lt
    replace hI := hI.ex hx
    clear hx
    have ch := hI.head (by omega)
    rw [← hx0] at ch
    clear hx0
    by_cases g0 : x0 < 0
    · go_wp2
      go_ret
      exact ⟨rfl, hE⟩
    · by_cases g1 : 3 < x0
      · go_wp2
        go_ret
        exact ⟨rfl, hE⟩
      · have e3 := e2 (by omega) (by omega)
        simp only [e3] at U1
        clear e2 e3
        go_wp2_with fail
        refine (W1 _ cb _ (hI)).mono ?_
        rintro e w4 ⟨B1, d1, rfl, h1, hx⟩
        replace hE := hE.trans hx
        replace b2 := b2.ex hx
        replace cb2 := b2.cell
        replace zb2 := b2.lt
        replace hI := hI.ex hx
        clear hx
        go_wp2_with fail
        refine (U1 B1 d1 _ (h1.alloc _).ints).mono ?_
        rintro e w5 ⟨B2, d2, rfl, h2, hx⟩
        have b5 := (Box.new w4 _ _).ex hx
        replace hx := ((Ex.refl w4).alloc _).trans hx
        replace hE := hE.trans hx
        replace b2 := b2.ex hx
        replace cb2 := b2.cell
        replace zb2 := b2.lt
        have cb5 := b5.cell
        have zb5 := b5.lt
        replace hI := hI.ex hx
        replace h1 := h1.ex hx
        clear hx
        go_wp2_with fail
        refine (sameGlass_same r c B2 _ ys d2 cb _ (h2.alloc _).ints (hI.alloc _) hl2).mono ?_
        rintro e w6 ⟨rfl, hx⟩
        have b6 := (Box.new w5 _ _).ex hx
        replace hx := ((Ex.refl w5).alloc _).trans hx
        replace hE := hE.trans hx
        replace b2 := b2.ex hx
        replace cb2 := b2.cell
        replace zb2 := b2.lt
        replace b5 := b5.ex hx
        replace cb5 := b5.cell
        replace zb5 := b5.lt
        have cb6 := b6.cell
        have zb6 := b6.lt
        replace hI := hI.ex hx
        replace h1 := h1.ex hx
        replace h2 := h2.ex hx
        clear hx
        go_wp2
        go_ret
        exact ⟨rfl, hE⟩
end Go.Proofs.Ytploaldfkfjibaa
