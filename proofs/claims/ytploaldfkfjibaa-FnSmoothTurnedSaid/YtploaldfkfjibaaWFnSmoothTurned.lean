/-
  The walk of the law FnSmoothTurned.
-/
import Derived.Test.YtploaldfkfjibaaDrawH
import Derived.Test.YtploaldfkfjibaaLawS
import Derived.Test.YtploaldfkfjibaaRead
import Derived.Test.YtploaldfkfjibaaGlsR
import Derived.Test.YtploaldfkfjibaaGlsT
import Derived.Test.YtploaldfkfjibaaGlsS
namespace Go.Proofs.Ytploaldfkfjibaa
open Go.RowKit

set_option maxRecDepth 4000 in
set_option maxHeartbeats 2000000 in
theorem law_FnSmoothTurned (v : Value) (w : World) (h : IsBytes w v) : Calls Try.prog 9 #[v] w fun e w' => e = .returned (.bool true) ∧ Ex w w' := by
  obtain ⟨A, cap, xs, rfl, hl, hcap, hcap2, hS, hbs⟩ := h
  have hB : Byts w A xs := ⟨hS, hbs⟩
  clear hS hbs
  by_cases hbig : (1048576 : Int) < xs.length
  · go_enter Try.func9, Try.ntmps9
    go_wp2
    go_ret
    exact ⟨rfl, Ex.refl _⟩
  go_enter Try.func9, Try.ntmps9
  go_wp2_with fail
  refine (drawGlassSmooth A xs cap w hB hl hcap hcap2).mono ?_
  rintro e w1 ⟨r, c, B, cb, ys, rfl, hy, hI, hx⟩
  have hE := hx
  clear hx
  have hl2 : ys.length ≤ 1048576 := by omega
  clear hB hy
  have V1 := fun B cb w hI => iGlassSmooth r c B ys cb w hI hl2
  have V2 := fun B cb w hI => sGlassSmooth r c B ys cb w hI hl2
  rcases hs : gsmooth r c ys with _ | _
  · simp only [hs] at V1 V2
    go_wp2_with fail
    refine (V1 B cb _ (hI.alloc _)).mono ?_
    rintro e w2 ⟨rfl, hx⟩
    have b2 := (Box.new w1 _ _).ex hx
    replace hx := ((Ex.refl w1).alloc _).trans hx
    replace hE := hE.trans hx
    have cb2 := b2.cell
    have zb2 := b2.lt
    replace hI := hI.ex hx
    clear hx
    go_wp2_with fail
    refine (V2 B cb _ (hI)).mono ?_
    rintro e w3 ⟨rfl, hx⟩
    replace hE := hE.trans hx
    replace b2 := b2.ex hx
    replace cb2 := b2.cell
    replace zb2 := b2.lt
    replace hI := hI.ex hx
    clear hx
    go_wp2
    go_ret
    exact ⟨rfl, hE⟩
  · simp only [hs] at V1 V2
    obtain ⟨hv, hle⟩ := gsmooth_out hs
    obtain ⟨rn, cn, rfl, rfl, e3, g1, -, g2, -, e4, e5, e6⟩ := gturn_valid hv
    have hl3 : (gturnQ rn cn ys).length ≤ 1048576 := by rw [gturnQ_len, Nat.mul_comm, ← e3]; exact hl2
    have e7 := gsteep_turn g1 g2 e3
    have e8 : gsmooth cn rn (gturnQ rn cn ys) = true := by simp [gsmooth, e5, e7, hle]
    have e9 : gsteepR rn cn ys = gsteep cn ys := by simp [gsteepR, hv]
    have T1 := fun B cb w hI => iGlassTurned rn cn B ys cb w hI hl2
    have P1 := fun B cb w hI => iGlassSteep rn cn B ys cb w hI hl2
    generalize gturnQ rn cn ys = zs at hl3 e4 e5 e6 e7 e8
    have V3 := fun B cb w hI => iGlassSmooth cn rn B zs cb w hI hl3
    simp only [e4] at T1
    simp only [e8] at V3
    simp only [e9, hv] at P1
    generalize gsteep cn ys = n at hle P1
    clear hs hv e3 e4 e5 e6 e7 e8 e9
    go_wp2_with fail
    refine (V1 B cb _ (hI.alloc _)).mono ?_
    rintro e w2 ⟨rfl, hx⟩
    have b2 := (Box.new w1 _ _).ex hx
    replace hx := ((Ex.refl w1).alloc _).trans hx
    replace hE := hE.trans hx
    have cb2 := b2.cell
    have zb2 := b2.lt
    replace hI := hI.ex hx
    clear hx
    go_wp2_with fail
    refine (V2 B cb _ (hI)).mono ?_
    rintro e w3 ⟨rfl, hx⟩
    replace hE := hE.trans hx
    replace b2 := b2.ex hx
    replace cb2 := b2.cell
    replace zb2 := b2.lt
    replace hI := hI.ex hx
    clear hx
    go_wp2_with fail
    refine (T1 B cb _ (hI)).mono ?_
    rintro e w4 ⟨B1, d1, rfl, h1, hx⟩
    replace hE := hE.trans hx
    replace b2 := b2.ex hx
    replace cb2 := b2.cell
    replace zb2 := b2.lt
    replace hI := hI.ex hx
    clear hx
    go_wp2_with fail
    refine (P1 B cb _ (hI.alloc _)).mono ?_
    rintro e w5 ⟨rfl, hx⟩
    have b5 := (Box.new w4 _ _).ex hx
    replace hx := ((Ex.refl w4).alloc _).trans hx
    replace hE := hE.trans hx
    replace b2 := b2.ex hx
    replace cb2 := b2.cell
    replace zb2 := b2.lt
    have cb5 := b5.cell
    have zb5 := b5.lt
    replace hI := hI.ex hx
    replace h1 := h1.ex hx
    clear hx
    go_wp2_with fail
    refine (V3 B1 d1 _ (h1).ints).mono ?_
    rintro e w6 ⟨rfl, hx⟩
    replace hE := hE.trans hx
    replace b2 := b2.ex hx
    replace cb2 := b2.cell
    replace zb2 := b2.lt
    replace b5 := b5.ex hx
    replace cb5 := b5.cell
    replace zb5 := b5.lt
    replace hI := hI.ex hx
    replace h1 := h1.ex hx
    clear hx
    go_wp2
    go_ret
    exact ⟨rfl, hE⟩
end Go.Proofs.Ytploaldfkfjibaa
