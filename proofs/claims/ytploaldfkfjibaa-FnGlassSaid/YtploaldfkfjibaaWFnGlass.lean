/-
  The walk of the law FnGlass.
-/
import Derived.Test.YtploaldfkfjibaaDrawH
import Derived.Test.YtploaldfkfjibaaLawS
import Derived.Test.YtploaldfkfjibaaRead
import Derived.Test.YtploaldfkfjibaaGlsR
import Derived.Test.YtploaldfkfjibaaGlsT
import Derived.Test.YtploaldfkfjibaaGlsM
namespace Go.Proofs.Ytploaldfkfjibaa
open Go.RowKit

set_option maxRecDepth 4000 in
set_option maxHeartbeats 2000000 in
theorem law_FnGlass (v : Value) (w : World) (h : IsBytes w v) : Calls Try.prog 5 #[v] w fun e w' => e = .returned (.bool true) ∧ Ex w w' := by
  obtain ⟨A, cap, xs, rfl, hl, hcap, hcap2, hS, hbs⟩ := h
  have hB : Byts w A xs := ⟨hS, hbs⟩
  clear hS hbs
  by_cases hbig : (1048576 : Int) < xs.length
  · go_enter Try.func5, Try.ntmps5
    go_wp2
    go_ret
    exact ⟨rfl, Ex.refl _⟩
  go_enter Try.func5, Try.ntmps5
  go_wp2_with fail
  refine (drawGlassValid A xs cap w hB hl hcap hcap2).mono ?_
  rintro e w1 ⟨r, c, B, cb, ys, rfl, hy, hI, hx⟩
  have hE := hx
  clear hx
  have hl2 : ys.length ≤ 1048576 := by omega
  clear hB hy
  have V1 := fun B cb w hI => iGlassValid r c B ys cb w hI hl2
  have V2 := fun B cb w hI => sGlassValid r c B ys cb w hI hl2
  rcases hv : gvalid r c ys with _ | _
  · simp only [hv] at V1 V2
    go_wp2_with fail
    refine (V1 B cb _ (hI.alloc _)).mono ?_
    rintro e w2 ⟨rfl, hx⟩
    have b2 := (Box.new w1 _ _).ex hx
    replace hx := ((Ex.refl w1).alloc _).trans hx
    replace hE := hE.trans hx
    have cb2 := b2.cell
    have zb2 := b2.lt
    replace hI := hI.ex hx
    clear hx
    go_wp2_with fail
    refine (V2 B cb _ (hI)).mono ?_
    rintro e w3 ⟨rfl, hx⟩
    replace hE := hE.trans hx
    replace b2 := b2.ex hx
    replace cb2 := b2.cell
    replace zb2 := b2.lt
    replace hI := hI.ex hx
    clear hx
    go_wp2
    go_ret
    exact ⟨rfl, hE⟩
  · simp only [hv] at V1 V2
    obtain ⟨rn, cn, e1, e2, e3, -, -, -, -, e4, e5, e6⟩ := gturn_valid hv
    have hl3 : (gturnQ rn cn ys).length ≤ 1048576 := by rw [gturnQ_len, Nat.mul_comm, ← e3]; exact hl2
    have e7 := gmore_zero hv
    have T1 := fun B cb w hI => iGlassTurned r c B ys cb w hI hl2
    have M1 := fun B cb w hI => iGlassMore r c B ys cb 0 w hI hl2
    generalize gturnQ rn cn ys = zs at hl3 e4 e5 e6
    have T2 := fun B cb w hI => iGlassTurned c r B zs cb w hI hl3
    simp only [e4] at T1
    simp only [e6] at T2
    simp only [e7] at M1
    clear hv e1 e2 e3 e4 e5 e6 e7
    go_wp2_with fail
    refine (V1 B cb _ (hI.alloc _)).mono ?_
    rintro e w2 ⟨rfl, hx⟩
    have b2 := (Box.new w1 _ _).ex hx
    replace hx := ((Ex.refl w1).alloc _).trans hx
    replace hE := hE.trans hx
    have cb2 := b2.cell
    have zb2 := b2.lt
    replace hI := hI.ex hx
    clear hx
    go_wp2_with fail
    refine (V2 B cb _ (hI)).mono ?_
    rintro e w3 ⟨rfl, hx⟩
    replace hE := hE.trans hx
    replace b2 := b2.ex hx
    replace cb2 := b2.cell
    replace zb2 := b2.lt
    replace hI := hI.ex hx
    clear hx
    go_wp2_with fail
    refine (T1 B cb _ (hI)).mono ?_
    rintro e w4 ⟨B1, d1, rfl, h1, hx⟩
    replace hE := hE.trans hx
    replace b2 := b2.ex hx
    replace cb2 := b2.cell
    replace zb2 := b2.lt
    replace hI := hI.ex hx
    clear hx
    go_wp2_with fail
    refine (T2 B1 d1 _ (h1.alloc _).ints).mono ?_
    rintro e w5 ⟨B2, d2, rfl, h2, hx⟩
    have b5 := (Box.new w4 _ _).ex hx
    replace hx := ((Ex.refl w4).alloc _).trans hx
    replace hE := hE.trans hx
    replace b2 := b2.ex hx
    replace cb2 := b2.cell
    replace zb2 := b2.lt
    have cb5 := b5.cell
    have zb5 := b5.lt
    replace hI := hI.ex hx
    replace h1 := h1.ex hx
    clear hx
    go_wp2_with fail
    refine (M1 B cb _ (hI.alloc _)).mono ?_
    rintro e w6 ⟨B3, d3, rfl, h3, hx⟩
    have b6 := (Box.new w5 _ _).ex hx
    replace hx := ((Ex.refl w5).alloc _).trans hx
    replace hE := hE.trans hx
    replace b2 := b2.ex hx
    replace cb2 := b2.cell
    replace zb2 := b2.lt
    replace b5 := b5.ex hx
    replace cb5 := b5.cell
    replace zb5 := b5.lt
    have cb6 := b6.cell
    have zb6 := b6.lt
    replace hI := hI.ex hx
    replace h1 := h1.ex hx
    replace h2 := h2.ex hx
    clear hx
    go_wp2_with fail
    refine (sameGlass_same r c B2 B ys d2 cb _ (h2.alloc _).ints (hI.alloc _) hl2).mono ?_
    rintro e w7 ⟨rfl, hx⟩
    have b7 := (Box.new w6 _ _).ex hx
    replace hx := ((Ex.refl w6).alloc _).trans hx
    replace hE := hE.trans hx
    replace b2 := b2.ex hx
    replace cb2 := b2.cell
    replace zb2 := b2.lt
    replace b5 := b5.ex hx
    replace cb5 := b5.cell
    replace zb5 := b5.lt
    replace b6 := b6.ex hx
    replace cb6 := b6.cell
    replace zb6 := b6.lt
    have cb7 := b7.cell
    have zb7 := b7.lt
    replace hI := hI.ex hx
    replace h1 := h1.ex hx
    replace h2 := h2.ex hx
    replace h3 := h3.ex hx
    clear hx
    go_wp2_with fail
    refine (sameGlass_same r c B3 B ys d3 cb _ (h3).ints (hI) hl2).mono ?_
    rintro e w8 ⟨rfl, hx⟩
    replace hE := hE.trans hx
    replace b2 := b2.ex hx
    replace cb2 := b2.cell
    replace zb2 := b2.lt
    replace b5 := b5.ex hx
    replace cb5 := b5.cell
    replace zb5 := b5.lt
    replace b6 := b6.ex hx
    replace cb6 := b6.cell
    replace zb6 := b6.lt
    replace b7 := b7.ex hx
    replace cb7 := b7.cell
    replace zb7 := b7.lt
    replace hI := hI.ex hx
    replace h1 := h1.ex hx
    replace h2 := h2.ex hx
    replace h3 := h3.ex hx
    clear hx
    go_wp2
    go_ret
    exact ⟨rfl, hE⟩
end Go.Proofs.Ytploaldfkfjibaa
