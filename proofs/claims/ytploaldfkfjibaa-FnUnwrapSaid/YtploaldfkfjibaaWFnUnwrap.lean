/-
  The walk of the law FnUnwrap.
-/
import Derived.Test.YtploaldfkfjibaaDrawH
import Derived.Test.YtploaldfkfjibaaLawS
import Derived.Test.YtploaldfkfjibaaRead
import Derived.Test.YtploaldfkfjibaaGlsN
import Derived.Test.YtploaldfkfjibaaGlsW
import Derived.Test.YtploaldfkfjibaaGlsX
import Derived.Test.YtploaldfkfjibaaGlsY
import Derived.Deep.RegionHeld3
namespace Go.Proofs.Ytploaldfkfjibaa
open Go.RowKit

set_option maxRecDepth 4000 in
set_option maxHeartbeats 2000000 in
theorem law_FnUnwrap (v : Value) (w : World) (h : IsBytes w v) : Calls Try.prog 18 #[v] w fun e w' => e = .returned (.bool true) ∧ Ex w w' := by
  obtain ⟨A, cap, xs, rfl, hl, hcap, hcap2, hS, hbs⟩ := h
  have hB : Byts w A xs := ⟨hS, hbs⟩
  clear hS hbs
  by_cases hbig : (1048576 : Int) < xs.length
  · go_enter Try.func18, Try.ntmps18
    go_wp2
    go_ret
    exact ⟨rfl, Ex.refl _⟩
  go_enter Try.func18, Try.ntmps18
  go_wp2_with fail
  refine (drawGlassUnwrap A xs cap w hB hl hcap hcap2).mono ?_
  rintro e w1 ⟨r, c, B, cb, ys, rfl, hy, hI, hx⟩
  have hE := hx
  clear hx
  have hl2 : ys.length ≤ 1048576 := by omega
  clear hB hy
  have V1 := fun B cb w hI => iGlassUnwrap r c B ys cb w hI hl2
  have V2 := fun B cb w hI => sGlassUnwrap r c B ys cb w hI hl2
  have hq := gunwrap_len r c ys hl2
  have hb := gunwrap_back (r := r) (c := c) (q := ys)
  generalize gunwrap r c ys = R at V1 V2 hq hb
  obtain ⟨ok, r1, c1, zs⟩ := R
  simp only at hq
  rcases ok with _ | _
  · clear hb
    go_wp2_with fail
    refine (V1 _ cb _ (hI.alloc _)).mono ?_
    rintro e w2 ⟨B1, d1, rfl, h1, hx⟩
    have b2 := (Box.new w1 _ _).ex hx
    replace hx := ((Ex.refl w1).alloc _).trans hx
    replace hE := hE.trans hx
    have cb2 := b2.cell
    have zb2 := b2.lt
    replace hI := hI.ex hx
    clear hx
    go_wp2_with fail
    refine (V2 _ cb _ (hI.alloc _)).mono ?_
    rintro e w3 ⟨B2, d2, rfl, h2, hx⟩
    have b3 := (Box.new w2 _ _).ex hx
    replace hx := ((Ex.refl w2).alloc _).trans hx
    replace hE := hE.trans hx
    replace b2 := b2.ex hx
    replace cb2 := b2.cell
    replace zb2 := b2.lt
    have cb3 := b3.cell
    have zb3 := b3.lt
    replace hI := hI.ex hx
    replace h1 := h1.ex hx
    clear hx
    go_wp2_with fail
    refine (sameGlass_same r1 c1 B1 B2 zs d1 d2 _ (h1.alloc _).ints (h2.alloc _).ints hq).mono ?_
    rintro e w4 ⟨rfl, hx⟩
    have b4 := (Box.new w3 _ _).ex hx
    replace hx := ((Ex.refl w3).alloc _).trans hx
    replace hE := hE.trans hx
    replace b2 := b2.ex hx
    replace cb2 := b2.cell
    replace zb2 := b2.lt
    replace b3 := b3.ex hx
    replace cb3 := b3.cell
    replace zb3 := b3.lt
    have cb4 := b4.cell
    have zb4 := b4.lt
    replace hI := hI.ex hx
    replace h1 := h1.ex hx
    replace h2 := h2.ex hx
    clear hx
    go_wp2_with fail
    refine (sameGlass_same r1 c1 B1 B2 zs d1 d2 _ (h1).ints (h2).ints hq).mono ?_
    rintro e w5 ⟨rfl, hx⟩
    replace hE := hE.trans hx
    replace b2 := b2.ex hx
    replace cb2 := b2.cell
    replace zb2 := b2.lt
    replace b3 := b3.ex hx
    replace cb3 := b3.cell
    replace zb3 := b3.lt
    replace b4 := b4.ex hx
    replace cb4 := b4.cell
    replace zb4 := b4.lt
    replace hI := hI.ex hx
    replace h1 := h1.ex hx
    replace h2 := h2.ex hx
    clear hx
    go_wp2
    go_ret
    exact ⟨rfl, hE⟩
  · obtain ⟨ys1, e1, e2, e3, e4, e5, -, -⟩ := hb rfl
    simp only [GR.mk.injEq, true_and] at e1
    obtain ⟨rfl, rfl, rfl⟩ := e1
    clear hb
    have E2 := Lib.hid e2
    clear e2
    have W1 := fun B cb w hI => iGlassWrap r1 c1 B zs cb w hI hq
    simp only [e4] at W1
    obtain ⟨gb, go, rfl, hc0⟩ := hI.at (by omega)
    clear hc0 e4
    go_wp2_with fail
    refine (V1 _ cb _ (hI.alloc _)).mono ?_
    rintro e w2 ⟨B1, d1, rfl, h1, hx⟩
    have b2 := (Box.new w1 _ _).ex hx
    replace hx := ((Ex.refl w1).alloc _).trans hx
    replace hE := hE.trans hx
    have cb2 := b2.cell
    have zb2 := b2.lt
    replace hI := hI.ex hx
    clear hx
    go_wp2_with fail
    refine (V2 _ cb _ (hI.alloc _)).mono ?_
    rintro e w3 ⟨B2, d2, rfl, h2, hx⟩
    have b3 := (Box.new w2 _ _).ex hx
    replace hx := ((Ex.refl w2).alloc _).trans hx
    replace hE := hE.trans hx
    replace b2 := b2.ex hx
    replace cb2 := b2.cell
    replace zb2 := b2.lt
    have cb3 := b3.cell
    have zb3 := b3.lt
    replace hI := hI.ex hx
    replace h1 := h1.ex hx
    clear hx
    go_wp2_with fail
    refine (sameGlass_same r1 c1 B1 B2 zs d1 d2 _ (h1.alloc _).ints (h2.alloc _).ints hq).mono ?_
    rintro e w4 ⟨rfl, hx⟩
    have b4 := (Box.new w3 _ _).ex hx
    replace hx := ((Ex.refl w3).alloc _).trans hx
    replace hE := hE.trans hx
    replace b2 := b2.ex hx
    replace cb2 := b2.cell
    replace zb2 := b2.lt
    replace b3 := b3.ex hx
    replace cb3 := b3.cell
    replace zb3 := b3.lt
    have cb4 := b4.cell
    have zb4 := b4.lt
    replace hI := hI.ex hx
    replace h1 := h1.ex hx
    replace h2 := h2.ex hx
    clear hx
    obtain ⟨hb, rfl, -, -, hc0, -⟩ := h1.at (by have := E2.out; omega)
    clear hc0
    go_wp2_with fail
    refine (W1 _ d1 _ (h1).ints).mono ?_
    rintro e w5 ⟨B3, d3, rfl, h3, hx⟩
    replace hE := hE.trans hx
    replace b2 := b2.ex hx
    replace cb2 := b2.cell
    replace zb2 := b2.lt
    replace b3 := b3.ex hx
    replace cb3 := b3.cell
    replace zb3 := b3.lt
    replace b4 := b4.ex hx
    replace cb4 := b4.cell
    replace zb4 := b4.lt
    replace hI := hI.ex hx
    replace h1 := h1.ex hx
    replace h2 := h2.ex hx
    clear hx
    go_wp2_with fail
    obtain ⟨w6, hW⟩ : ∃ W, W = w5.alloc (.cells #[.int .i64 r1, .int .i64 c1, .slice B3 ys.length d3] 27) := ⟨_, rfl⟩
    have b6 : Box w6 w5.heap.size 27 #[.int .i64 r1, .int .i64 c1, .slice B3 ys.length d3] := by rw [hW]; exact Box.new _ _ _
    have hx : Ex w5 w6 := by rw [hW]; exact (Ex.refl _).alloc _
    rw [← hW]
    clear hW
    replace hE := hE.trans hx
    replace b2 := b2.ex hx
    replace cb2 := b2.cell
    replace zb2 := b2.lt
    replace b3 := b3.ex hx
    replace cb3 := b3.cell
    replace zb3 := b3.lt
    replace b4 := b4.ex hx
    replace cb4 := b4.cell
    replace zb4 := b4.lt
    have cb6 := b6.cell
    have zb6 := b6.lt
    replace hI := hI.ex hx
    replace h1 := h1.ex hx
    replace h2 := h2.ex hx
    replace h3 := h3.ex hx
    clear hx
    have k1 := h1.ints.head (by have := E2.out; omega)
    have k2 := hI.head (by omega)
    rw [e5] at k1
    obtain ⟨x0, hx0⟩ : ∃ x, x = ys.getD 0 0 := ⟨_, rfl⟩
    rw [← hx0] at k1 k2
    clear hx0 e5
    have keepS : ∀ w', Ex w6 w' → (w'.cell? ⟨w5.heap.size, 0, none⟩ = some (.int .i64 r1) ∧ w'.cell? ⟨w5.heap.size, 1, none⟩ = some (.int .i64 c1) ∧ w'.cell? ⟨w5.heap.size, 2, none⟩ = some (.slice B3 ys.length d3)) ∧ (w'.cell? ⟨w1.heap.size, 0, none⟩ = some (.int .i64 r1) ∧ w'.cell? ⟨w1.heap.size, 1, none⟩ = some (.int .i64 c1) ∧ w'.cell? ⟨w1.heap.size, 2, none⟩ = some (.slice (some ⟨gb, go, none⟩) ys.length cb)) ∧ w'.cell? ⟨w2.heap.size, 2, none⟩ = some (.slice (some ⟨hb, 0, none⟩) zs.length d1) ∧ w'.cell? ⟨gb, go, none⟩ = some (.int .i64 x0) ∧ w'.cell? ⟨hb, 0, none⟩ = some (.int .i64 x0) := fun w' h => ⟨⟨h.get (cb6 0), h.get (cb6 1), h.get (cb6 2)⟩, ⟨h.get (cb2 0), h.get (cb2 1), h.get (cb2 2)⟩, h.get (cb3 2), h.get k2, h.get k1⟩
    have hS0 := keepS _ (Ex.refl _)
    have hlz : 0 < zs.length := by have := E2.out; omega
    have hly : 0 < ys.length := e3
    have ctr := fun w' (h : Ex w6 w') => sameGlass_same r1 c1 B3 (some ⟨gb, go, none⟩) ys d3 cb w' (h3.ex h).ints (hI.ex h) hl2
    clear k1 k2 V1 V2 W1 h1 h2 cb2 cb3 cb4 cb6
    obtain ⟨⟨s1, s2, s3⟩, ⟨s4, s5, s6⟩, s7, s8, s9⟩ := hS0
    go_region_held3 (fun w' => (w'.cell? ⟨w5.heap.size, 0, none⟩ = some (.int .i64 r1) ∧ w'.cell? ⟨w5.heap.size, 1, none⟩ = some (.int .i64 c1) ∧ w'.cell? ⟨w5.heap.size, 2, none⟩ = some (.slice B3 ys.length d3)) ∧ (w'.cell? ⟨w1.heap.size, 0, none⟩ = some (.int .i64 r1) ∧ w'.cell? ⟨w1.heap.size, 1, none⟩ = some (.int .i64 c1) ∧ w'.cell? ⟨w1.heap.size, 2, none⟩ = some (.slice (some ⟨gb, go, none⟩) ys.length cb)) ∧ w'.cell? ⟨w2.heap.size, 2, none⟩ = some (.slice (some ⟨hb, 0, none⟩) zs.length d1) ∧ w'.cell? ⟨gb, go, none⟩ = some (.int .i64 x0) ∧ w'.cell? ⟨hb, 0, none⟩ = some (.int .i64 x0)) (first | exact keepS _ (Ex.refl _) | exact keepS _ (Ex.refl _).drew | exact keepS _ hx7 | go_keep) (first | ((go_at_call 28; (first | (refine (ctr _ (Ex.refl _)).mono ?_) | (refine (ctr _ (Ex.refl _).drew).mono ?_)); rintro e w7 ⟨rfl, hx6⟩; have hx7 : Ex w6 w7 := (by first | exact hx6 | exact ((Ex.refl _).drew).trans hx6); obtain ⟨⟨t1, t2, t3⟩, ⟨t4, t5, t6⟩, t7, t8, t9⟩ := keepS _ hx7)))
    all_goals
      go_wp2
      go_ret
      exact ⟨rfl, hE.trans hx7⟩
end Go.Proofs.Ytploaldfkfjibaa
