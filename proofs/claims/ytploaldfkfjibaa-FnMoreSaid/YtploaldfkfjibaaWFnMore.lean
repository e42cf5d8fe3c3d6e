/-
  The walk of the law FnMore.
-/
import Derived.Test.YtploaldfkfjibaaDrawH
import Derived.Test.YtploaldfkfjibaaLawS
import Derived.Test.YtploaldfkfjibaaRead
import Derived.Test.YtploaldfkfjibaaDrawM
import Derived.Test.YtploaldfkfjibaaGlsR
import Derived.Test.YtploaldfkfjibaaGlsM
namespace Go.Proofs.Ytploaldfkfjibaa
open Go.RowKit

set_option maxRecDepth 4000 in
set_option maxHeartbeats 2000000 in
theorem law_FnMore (v : Value) (w : World) (h : IsBytes w v) : Calls Try.prog 8 #[v] w fun e w' => e = .returned (.bool true) ∧ Ex w w' := by
  obtain ⟨A, cap, xs, rfl, hl, hcap, hcap2, hS, hbs⟩ := h
  have hB : Byts w A xs := ⟨hS, hbs⟩
  clear hS hbs
  by_cases hbig : (1048576 : Int) < xs.length
  · go_enter Try.func8, Try.ntmps8
    go_wp2
    go_ret
    exact ⟨rfl, Ex.refl _⟩
  go_enter Try.func8, Try.ntmps8
  go_wp2_with fail
  refine (drawGlassMore A xs cap w hB hl hcap hcap2).mono ?_
  rintro e w1 ⟨r, c, B, cb, ys, n, rfl, hy, hI, hx⟩
  have hE := hx
  clear hx
  have hl2 : ys.length ≤ 1048576 := by omega
  clear hB hy
  have V1 := fun B cb w hI => iGlassMore r c B ys cb n w hI hl2
  have V2 := fun B cb w hI => sGlassMore r c B ys cb n w hI hl2
  have hq := gmore_len r c ys n hl2
  have hb := gmore_back (r := r) (c := c) (q := ys) (n := n)
  generalize hR : gmore r c ys n = R at V1 V2 hq hb
  obtain ⟨ok, r1, c1, zs⟩ := R
  simp only at hq
  rcases ok with _ | _
  · clear hb hR
    go_wp2_with fail
    refine (V1 _ cb _ (hI.alloc _)).mono ?_
    rintro e w2 ⟨B1, d1, rfl, h1, hx⟩
    have b2 := (Box.new w1 _ _).ex hx
    replace hx := ((Ex.refl w1).alloc _).trans hx
    replace hE := hE.trans hx
    have cb2 := b2.cell
    have zb2 := b2.lt
    replace hI := hI.ex hx
    clear hx
    go_wp2_with fail
    refine (V2 _ cb _ (hI.alloc _)).mono ?_
    rintro e w3 ⟨B2, d2, rfl, h2, hx⟩
    have b3 := (Box.new w2 _ _).ex hx
    replace hx := ((Ex.refl w2).alloc _).trans hx
    replace hE := hE.trans hx
    replace b2 := b2.ex hx
    replace cb2 := b2.cell
    replace zb2 := b2.lt
    have cb3 := b3.cell
    have zb3 := b3.lt
    replace hI := hI.ex hx
    replace h1 := h1.ex hx
    clear hx
    go_wp2_with fail
    refine (sameGlass_same r1 c1 B1 B2 zs d1 d2 _ (h1.alloc _).ints (h2.alloc _).ints hq).mono ?_
    rintro e w4 ⟨rfl, hx⟩
    have b4 := (Box.new w3 _ _).ex hx
    replace hx := ((Ex.refl w3).alloc _).trans hx
    replace hE := hE.trans hx
    replace b2 := b2.ex hx
    replace cb2 := b2.cell
    replace zb2 := b2.lt
    replace b3 := b3.ex hx
    replace cb3 := b3.cell
    replace zb3 := b3.lt
    have cb4 := b4.cell
    have zb4 := b4.lt
    replace hI := hI.ex hx
    replace h1 := h1.ex hx
    replace h2 := h2.ex hx
    clear hx
    go_wp2_with fail
    refine (sameGlass_same r1 c1 B1 B2 zs d1 d2 _ (h1).ints (h2).ints hq).mono ?_
    rintro e w5 ⟨rfl, hx⟩
    replace hE := hE.trans hx
    replace b2 := b2.ex hx
    replace cb2 := b2.cell
    replace zb2 := b2.lt
    replace b3 := b3.ex hx
    replace cb3 := b3.cell
    replace zb3 := b3.lt
    replace b4 := b4.ex hx
    replace cb4 := b4.cell
    replace zb4 := b4.lt
    replace hI := hI.ex hx
    replace h1 := h1.ex hx
    replace h2 := h2.ex hx
    clear hx
    go_wp2
    go_ret
    exact ⟨rfl, hE⟩
  · obtain ⟨e1, e2, e3, -, -, e6⟩ := hb rfl
    simp only [GR.mk.injEq, true_and] at e1
    obtain ⟨rfl, rfl, hz⟩ := e1
    rw [← hz] at e6
    clear hb hz hR
    have W1 := fun B cb w hI => iGlassMore r1 c1 B zs cb (0 - n) w hI hq
    simp only [e6] at W1
    rw [Int.zero_sub] at W1
    have hn0 := IntWalk.i64_in (-n) (by omega)
    clear e6
    go_wp2_with fail
    refine (V1 _ cb _ (hI.alloc _)).mono ?_
    rintro e w2 ⟨B1, d1, rfl, h1, hx⟩
    have b2 := (Box.new w1 _ _).ex hx
    replace hx := ((Ex.refl w1).alloc _).trans hx
    replace hE := hE.trans hx
    have cb2 := b2.cell
    have zb2 := b2.lt
    replace hI := hI.ex hx
    clear hx
    go_wp2_with fail
    refine (V2 _ cb _ (hI.alloc _)).mono ?_
    rintro e w3 ⟨B2, d2, rfl, h2, hx⟩
    have b3 := (Box.new w2 _ _).ex hx
    replace hx := ((Ex.refl w2).alloc _).trans hx
    replace hE := hE.trans hx
    replace b2 := b2.ex hx
    replace cb2 := b2.cell
    replace zb2 := b2.lt
    have cb3 := b3.cell
    have zb3 := b3.lt
    replace hI := hI.ex hx
    replace h1 := h1.ex hx
    clear hx
    go_wp2_with fail
    refine (sameGlass_same r1 c1 B1 B2 zs d1 d2 _ (h1.alloc _).ints (h2.alloc _).ints hq).mono ?_
    rintro e w4 ⟨rfl, hx⟩
    have b4 := (Box.new w3 _ _).ex hx
    replace hx := ((Ex.refl w3).alloc _).trans hx
    replace hE := hE.trans hx
    replace b2 := b2.ex hx
    replace cb2 := b2.cell
    replace zb2 := b2.lt
    replace b3 := b3.ex hx
    replace cb3 := b3.cell
    replace zb3 := b3.lt
    have cb4 := b4.cell
    have zb4 := b4.lt
    replace hI := hI.ex hx
    replace h1 := h1.ex hx
    replace h2 := h2.ex hx
    clear hx
    go_wp2_with fail
    refine (W1 _ d1 _ (h1).ints).mono ?_
    rintro e w5 ⟨B3, d3, rfl, h3, hx⟩
    replace hE := hE.trans hx
    replace b2 := b2.ex hx
    replace cb2 := b2.cell
    replace zb2 := b2.lt
    replace b3 := b3.ex hx
    replace cb3 := b3.cell
    replace zb3 := b3.lt
    replace b4 := b4.ex hx
    replace cb4 := b4.cell
    replace zb4 := b4.lt
    replace hI := hI.ex hx
    replace h1 := h1.ex hx
    replace h2 := h2.ex hx
    clear hx
    go_wp2_with fail
    refine (sameGlass_same r1 c1 B3 _ ys d3 cb _ (h3.alloc _).ints (hI.alloc _) hl2).mono ?_
    rintro e w6 ⟨rfl, hx⟩
    have b6 := (Box.new w5 _ _).ex hx
    replace hx := ((Ex.refl w5).alloc _).trans hx
    replace hE := hE.trans hx
    replace b2 := b2.ex hx
    replace cb2 := b2.cell
    replace zb2 := b2.lt
    replace b3 := b3.ex hx
    replace cb3 := b3.cell
    replace zb3 := b3.lt
    replace b4 := b4.ex hx
    replace cb4 := b4.cell
    replace zb4 := b4.lt
    have cb6 := b6.cell
    have zb6 := b6.lt
    replace hI := hI.ex hx
    replace h1 := h1.ex hx
    replace h2 := h2.ex hx
    replace h3 := h3.ex hx
    clear hx
    go_wp2
    go_ret
    exact ⟨rfl, hE⟩
end Go.Proofs.Ytploaldfkfjibaa
