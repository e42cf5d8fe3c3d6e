/-
  The walk of the law FnWrap.
-/
import Derived.Test.YtploaldfkfjibaaDrawH
import Derived.Test.YtploaldfkfjibaaLawS
import Derived.Test.YtploaldfkfjibaaRead
import Derived.Test.YtploaldfkfjibaaGlsN
import Derived.Test.YtploaldfkfjibaaGlsW
import Derived.Test.YtploaldfkfjibaaGlsM
namespace Go.Proofs.Ytploaldfkfjibaa
open Go.RowKit

set_option maxRecDepth 4000 in
set_option maxHeartbeats 2000000 in
theorem law_FnWrap (v : Value) (w : World) (h : IsBytes w v) : Calls Try.prog 10 #[v] w fun e w' => e = .returned (.bool true) ∧ Ex w w' := by
  obtain ⟨A, cap, xs, rfl, hl, hcap, hcap2, hS, hbs⟩ := h
  have hB : Byts w A xs := ⟨hS, hbs⟩
  clear hS hbs
  by_cases hbig : (1048576 : Int) < xs.length
  · go_enter Try.func10, Try.ntmps10
    go_wp2
    go_ret
    exact ⟨rfl, Ex.refl _⟩
  go_enter Try.func10, Try.ntmps10
  go_wp2_with fail
  refine (drawGlassWrap A xs cap w hB hl hcap hcap2).mono ?_
  rintro e w1 ⟨r, c, B, cb, ys, rfl, hy, hI, hx⟩
  have hE := hx
  clear hx
  have hl2 : ys.length ≤ 1048576 := by omega
  clear hB hy
  have V1 := fun B cb w hI => iGlassWrap r c B ys cb w hI hl2
  have V2 := fun B cb w hI => sGlassWrap r c B ys cb w hI hl2
  have M1 := fun B cb w hI => iGlassMore r c B ys cb 4 w hI hl2
  have hl4 := gmore_len r c ys 4 hl2
  rcases hv : gvalid r c ys with _ | _
  · have e1 : gwrap r c ys = ⟨false, 0, 0, []⟩ := by simp [gwrap, hv, GR.zero]
    simp only [e1] at V1 V2
    clear M1 hl4 hv e1
    go_wp2_with fail
    refine (V1 _ cb _ (hI.alloc _)).mono ?_
    rintro e w2 ⟨B1, d1, rfl, h1, hx⟩
    have b2 := (Box.new w1 _ _).ex hx
    replace hx := ((Ex.refl w1).alloc _).trans hx
    replace hE := hE.trans hx
    have cb2 := b2.cell
    have zb2 := b2.lt
    replace hI := hI.ex hx
    clear hx
    go_wp2_with fail
    refine (V2 _ cb _ (hI.alloc _)).mono ?_
    rintro e w3 ⟨B2, d2, rfl, h2, hx⟩
    have b3 := (Box.new w2 _ _).ex hx
    replace hx := ((Ex.refl w2).alloc _).trans hx
    replace hE := hE.trans hx
    replace b2 := b2.ex hx
    replace cb2 := b2.cell
    replace zb2 := b2.lt
    have cb3 := b3.cell
    have zb3 := b3.lt
    replace hI := hI.ex hx
    replace h1 := h1.ex hx
    clear hx
    go_wp2_with fail
    refine (sameGlass_same 0 0 B1 B2 [] d1 d2 _ (h1.alloc _).ints (h2.alloc _).ints (by simp)).mono ?_
    rintro e w4 ⟨rfl, hx⟩
    have b4 := (Box.new w3 _ _).ex hx
    replace hx := ((Ex.refl w3).alloc _).trans hx
    replace hE := hE.trans hx
    replace b2 := b2.ex hx
    replace cb2 := b2.cell
    replace zb2 := b2.lt
    replace b3 := b3.ex hx
    replace cb3 := b3.cell
    replace zb3 := b3.lt
    have cb4 := b4.cell
    have zb4 := b4.lt
    replace hI := hI.ex hx
    replace h1 := h1.ex hx
    replace h2 := h2.ex hx
    clear hx
    go_wp2_with fail
    refine (sameGlass_same 0 0 B1 B2 [] d1 d2 _ (h1).ints (h2).ints (by simp)).mono ?_
    rintro e w5 ⟨rfl, hx⟩
    replace hE := hE.trans hx
    replace b2 := b2.ex hx
    replace cb2 := b2.cell
    replace zb2 := b2.lt
    replace b3 := b3.ex hx
    replace cb3 := b3.cell
    replace zb3 := b3.lt
    replace b4 := b4.ex hx
    replace cb4 := b4.cell
    replace zb4 := b4.lt
    replace hI := hI.ex hx
    replace h1 := h1.ex hx
    replace h2 := h2.ex hx
    clear hx
    go_wp2
    go_ret
    exact ⟨rfl, hE⟩
  · obtain ⟨e1, -, e2, hm⟩ := gwrap_valid hv
    have hq : (ys.map (· % (4 : Int))).length ≤ 1048576 := by simpa using hl2
    have e3 := gwrap_more (r := r) (c := c) (q := ys)
    simp only [e1] at V1 V2
    generalize ys.map (· % (4 : Int)) = zs at V1 V2 e2 e3 hm hq
    have W1 := fun B cb w hI => iGlassWrap r c B zs cb w hI hq
    simp only [e2] at W1
    generalize gmore r c ys 4 = R at M1 hl4 e3
    obtain ⟨ok, r2, c2, us⟩ := R
    simp only at hl4
    have W3 := fun B cb w hI => iGlassWrap r2 c2 B us cb w hI hl4
    clear hv e1 e2
    have hm2 : ∀ k, k < zs.length → 0 ≤ zs.getD k 0 ∧ zs.getD k 0 ≤ 3 := fun k hk => by
      have := hm zs[k] (List.getElem_mem hk)
      simpa [hk] using this
    clear hm
    rcases ok with _ | _
    · clear e3
      generalize gwrap r2 c2 us = R3 at W3
      obtain ⟨ok3, r3, c3, vs⟩ := R3
      go_wp2_with fail
      refine (V1 _ cb _ (hI.alloc _)).mono ?_
      rintro e w2 ⟨B1, d1, rfl, h1, hx⟩
      have b2 := (Box.new w1 _ _).ex hx
      replace hx := ((Ex.refl w1).alloc _).trans hx
      replace hE := hE.trans hx
      have cb2 := b2.cell
      have zb2 := b2.lt
      replace hI := hI.ex hx
      clear hx
      go_wp2_with fail
      refine (V2 _ cb _ (hI.alloc _)).mono ?_
      rintro e w3 ⟨B2, d2, rfl, h2, hx⟩
      have b3 := (Box.new w2 _ _).ex hx
      replace hx := ((Ex.refl w2).alloc _).trans hx
      replace hE := hE.trans hx
      replace b2 := b2.ex hx
      replace cb2 := b2.cell
      replace zb2 := b2.lt
      have cb3 := b3.cell
      have zb3 := b3.lt
      replace hI := hI.ex hx
      replace h1 := h1.ex hx
      clear hx
      go_wp2_with fail
      refine (sameGlass_same r c B1 B2 zs d1 d2 _ (h1.alloc _).ints (h2.alloc _).ints hq).mono ?_
      rintro e w4 ⟨rfl, hx⟩
      have b4 := (Box.new w3 _ _).ex hx
      replace hx := ((Ex.refl w3).alloc _).trans hx
      replace hE := hE.trans hx
      replace b2 := b2.ex hx
      replace cb2 := b2.cell
      replace zb2 := b2.lt
      replace b3 := b3.ex hx
      replace cb3 := b3.cell
      replace zb3 := b3.lt
      have cb4 := b4.cell
      have zb4 := b4.lt
      replace hI := hI.ex hx
      replace h1 := h1.ex hx
      replace h2 := h2.ex hx
      clear hx
      go_wp2_with fail
      refine (W1 _ d1 _ (h1).ints).mono ?_
      rintro e w5 ⟨B3, d3, rfl, h3, hx⟩
      replace hE := hE.trans hx
      replace b2 := b2.ex hx
      replace cb2 := b2.cell
      replace zb2 := b2.lt
      replace b3 := b3.ex hx
      replace cb3 := b3.cell
      replace zb3 := b3.lt
      replace b4 := b4.ex hx
      replace cb4 := b4.cell
      replace zb4 := b4.lt
      replace hI := hI.ex hx
      replace h1 := h1.ex hx
      replace h2 := h2.ex hx
      clear hx
      go_wp2_with fail
      refine (M1 _ cb _ (hI.alloc _)).mono ?_
      rintro e w6 ⟨B4, d4, rfl, h4, hx⟩
      have b6 := (Box.new w5 _ _).ex hx
      replace hx := ((Ex.refl w5).alloc _).trans hx
      replace hE := hE.trans hx
      replace b2 := b2.ex hx
      replace cb2 := b2.cell
      replace zb2 := b2.lt
      replace b3 := b3.ex hx
      replace cb3 := b3.cell
      replace zb3 := b3.lt
      replace b4 := b4.ex hx
      replace cb4 := b4.cell
      replace zb4 := b4.lt
      have cb6 := b6.cell
      have zb6 := b6.lt
      replace hI := hI.ex hx
      replace h1 := h1.ex hx
      replace h2 := h2.ex hx
      replace h3 := h3.ex hx
      clear hx
      go_wp2_with fail
      refine (W3 _ d4 _ (h4.alloc _).ints).mono ?_
      rintro e w7 ⟨B5, d5, rfl, h5, hx⟩
      have b7 := (Box.new w6 _ _).ex hx
      replace hx := ((Ex.refl w6).alloc _).trans hx
      replace hE := hE.trans hx
      replace b2 := b2.ex hx
      replace cb2 := b2.cell
      replace zb2 := b2.lt
      replace b3 := b3.ex hx
      replace cb3 := b3.cell
      replace zb3 := b3.lt
      replace b4 := b4.ex hx
      replace cb4 := b4.cell
      replace zb4 := b4.lt
      replace b6 := b6.ex hx
      replace cb6 := b6.cell
      replace zb6 := b6.lt
      have cb7 := b7.cell
      have zb7 := b7.lt
      replace hI := hI.ex hx
      replace h1 := h1.ex hx
      replace h2 := h2.ex hx
      replace h3 := h3.ex hx
      replace h4 := h4.ex hx
      clear hx
      go_wp2_with fail
      obtain ⟨w8, hW⟩ : ∃ W, W = w7.alloc (.cells #[.int .i64 r3, .int .i64 c3, .slice B5 vs.length d5] 27) := ⟨_, rfl⟩
      have b8 : Box w8 w7.heap.size 27 #[.int .i64 r3, .int .i64 c3, .slice B5 vs.length d5] := by rw [hW]; exact Box.new _ _ _
      have hx : Ex w7 w8 := by rw [hW]; exact (Ex.refl _).alloc _
      rw [← hW]
      clear hW
      replace hE := hE.trans hx
      replace b2 := b2.ex hx
      replace cb2 := b2.cell
      replace zb2 := b2.lt
      replace b3 := b3.ex hx
      replace cb3 := b3.cell
      replace zb3 := b3.lt
      replace b4 := b4.ex hx
      replace cb4 := b4.cell
      replace zb4 := b4.lt
      replace b6 := b6.ex hx
      replace cb6 := b6.cell
      replace zb6 := b6.lt
      replace b7 := b7.ex hx
      replace cb7 := b7.cell
      replace zb7 := b7.lt
      have cb8 := b8.cell
      have zb8 := b8.lt
      replace hI := hI.ex hx
      replace h1 := h1.ex hx
      replace h2 := h2.ex hx
      replace h3 := h3.ex hx
      replace h4 := h4.ex hx
      replace h5 := h5.ex hx
      clear hx
      go_loopw [14] (fun i wr => ∃ (k : Nat), k ≤ zs.length ∧ i = .int .i64 k ∧ w8 = wr) (fun i _ => zs.length - (intOf i).toNat)
      case atStart => exact ⟨0, by omega, rfl, rfl⟩
      case round =>
        obtain ⟨k, hk, rfl, rfl⟩ := hrel
        by_cases hlt : k < zs.length
        · obtain ⟨hb, rfl, -, -, hc0, -⟩ := h1.at (by omega)
          have hc1 := hc0 k hlt
          obtain ⟨g0, g1⟩ := hm2 k hlt
          obtain ⟨x0, hx0⟩ : ∃ x, x = zs.getD k 0 := ⟨_, rfl⟩
          rw [← hx0] at hc1 g0 g1
          clear hc0 hx0
          go_wp2
          go_roundw
          case rel => exact ⟨k + 1, by omega, by go_num, trivial⟩
          case measure => simp [intOf]; omega
        · go_wp2_with fail
          refine (sameGlass_same r c B3 B1 zs d3 d1 _ (h3).ints (h1).ints hq).mono ?_
          rintro e w9 ⟨rfl, hx⟩
          replace hE := hE.trans hx
          replace b2 := b2.ex hx
          replace cb2 := b2.cell
          replace zb2 := b2.lt
          replace b3 := b3.ex hx
          replace cb3 := b3.cell
          replace zb3 := b3.lt
          replace b4 := b4.ex hx
          replace cb4 := b4.cell
          replace zb4 := b4.lt
          replace b6 := b6.ex hx
          replace cb6 := b6.cell
          replace zb6 := b6.lt
          replace b7 := b7.ex hx
          replace cb7 := b7.cell
          replace zb7 := b7.lt
          replace b8 := b8.ex hx
          replace cb8 := b8.cell
          replace zb8 := b8.lt
          replace hI := hI.ex hx
          replace h1 := h1.ex hx
          replace h2 := h2.ex hx
          replace h3 := h3.ex hx
          replace h4 := h4.ex hx
          replace h5 := h5.ex hx
          clear hx
          go_wp2
          go_ret
          exact ⟨rfl, hE⟩
    · obtain ⟨e4, e5⟩ := e3 rfl
      simp only [GR.mk.injEq, true_and] at e4
      obtain ⟨rfl, rfl, hus⟩ := e4
      rw [← hus] at e5
      simp only [e5] at W3
      clear hus
      clear e3 e5
      go_wp2_with fail
      refine (V1 _ cb _ (hI.alloc _)).mono ?_
      rintro e w2 ⟨B1, d1, rfl, h1, hx⟩
      have b2 := (Box.new w1 _ _).ex hx
      replace hx := ((Ex.refl w1).alloc _).trans hx
      replace hE := hE.trans hx
      have cb2 := b2.cell
      have zb2 := b2.lt
      replace hI := hI.ex hx
      clear hx
      go_wp2_with fail
      refine (V2 _ cb _ (hI.alloc _)).mono ?_
      rintro e w3 ⟨B2, d2, rfl, h2, hx⟩
      have b3 := (Box.new w2 _ _).ex hx
      replace hx := ((Ex.refl w2).alloc _).trans hx
      replace hE := hE.trans hx
      replace b2 := b2.ex hx
      replace cb2 := b2.cell
      replace zb2 := b2.lt
      have cb3 := b3.cell
      have zb3 := b3.lt
      replace hI := hI.ex hx
      replace h1 := h1.ex hx
      clear hx
      go_wp2_with fail
      refine (sameGlass_same r2 c2 B1 B2 zs d1 d2 _ (h1.alloc _).ints (h2.alloc _).ints hq).mono ?_
      rintro e w4 ⟨rfl, hx⟩
      have b4 := (Box.new w3 _ _).ex hx
      replace hx := ((Ex.refl w3).alloc _).trans hx
      replace hE := hE.trans hx
      replace b2 := b2.ex hx
      replace cb2 := b2.cell
      replace zb2 := b2.lt
      replace b3 := b3.ex hx
      replace cb3 := b3.cell
      replace zb3 := b3.lt
      have cb4 := b4.cell
      have zb4 := b4.lt
      replace hI := hI.ex hx
      replace h1 := h1.ex hx
      replace h2 := h2.ex hx
      clear hx
      go_wp2_with fail
      refine (W1 _ d1 _ (h1).ints).mono ?_
      rintro e w5 ⟨B3, d3, rfl, h3, hx⟩
      replace hE := hE.trans hx
      replace b2 := b2.ex hx
      replace cb2 := b2.cell
      replace zb2 := b2.lt
      replace b3 := b3.ex hx
      replace cb3 := b3.cell
      replace zb3 := b3.lt
      replace b4 := b4.ex hx
      replace cb4 := b4.cell
      replace zb4 := b4.lt
      replace hI := hI.ex hx
      replace h1 := h1.ex hx
      replace h2 := h2.ex hx
      clear hx
      go_wp2_with fail
      refine (M1 _ cb _ (hI.alloc _)).mono ?_
      rintro e w6 ⟨B4, d4, rfl, h4, hx⟩
      have b6 := (Box.new w5 _ _).ex hx
      replace hx := ((Ex.refl w5).alloc _).trans hx
      replace hE := hE.trans hx
      replace b2 := b2.ex hx
      replace cb2 := b2.cell
      replace zb2 := b2.lt
      replace b3 := b3.ex hx
      replace cb3 := b3.cell
      replace zb3 := b3.lt
      replace b4 := b4.ex hx
      replace cb4 := b4.cell
      replace zb4 := b4.lt
      have cb6 := b6.cell
      have zb6 := b6.lt
      replace hI := hI.ex hx
      replace h1 := h1.ex hx
      replace h2 := h2.ex hx
      replace h3 := h3.ex hx
      clear hx
      go_wp2_with fail
      refine (W3 _ d4 _ (h4.alloc _).ints).mono ?_
      rintro e w7 ⟨B5, d5, rfl, h5, hx⟩
      have b7 := (Box.new w6 _ _).ex hx
      replace hx := ((Ex.refl w6).alloc _).trans hx
      replace hE := hE.trans hx
      replace b2 := b2.ex hx
      replace cb2 := b2.cell
      replace zb2 := b2.lt
      replace b3 := b3.ex hx
      replace cb3 := b3.cell
      replace zb3 := b3.lt
      replace b4 := b4.ex hx
      replace cb4 := b4.cell
      replace zb4 := b4.lt
      replace b6 := b6.ex hx
      replace cb6 := b6.cell
      replace zb6 := b6.lt
      have cb7 := b7.cell
      have zb7 := b7.lt
      replace hI := hI.ex hx
      replace h1 := h1.ex hx
      replace h2 := h2.ex hx
      replace h3 := h3.ex hx
      replace h4 := h4.ex hx
      clear hx
      go_wp2_with fail
      obtain ⟨w8, hW⟩ : ∃ W, W = w7.alloc (.cells #[.int .i64 r2, .int .i64 c2, .slice B5 zs.length d5] 27) := ⟨_, rfl⟩
      have b8 : Box w8 w7.heap.size 27 #[.int .i64 r2, .int .i64 c2, .slice B5 zs.length d5] := by rw [hW]; exact Box.new _ _ _
      have hx : Ex w7 w8 := by rw [hW]; exact (Ex.refl _).alloc _
      rw [← hW]
      clear hW
      replace hE := hE.trans hx
      replace b2 := b2.ex hx
      replace cb2 := b2.cell
      replace zb2 := b2.lt
      replace b3 := b3.ex hx
      replace cb3 := b3.cell
      replace zb3 := b3.lt
      replace b4 := b4.ex hx
      replace cb4 := b4.cell
      replace zb4 := b4.lt
      replace b6 := b6.ex hx
      replace cb6 := b6.cell
      replace zb6 := b6.lt
      replace b7 := b7.ex hx
      replace cb7 := b7.cell
      replace zb7 := b7.lt
      have cb8 := b8.cell
      have zb8 := b8.lt
      replace hI := hI.ex hx
      replace h1 := h1.ex hx
      replace h2 := h2.ex hx
      replace h3 := h3.ex hx
      replace h4 := h4.ex hx
      replace h5 := h5.ex hx
      clear hx
      go_loopw [14] (fun i wr => ∃ (k : Nat), k ≤ zs.length ∧ i = .int .i64 k ∧ w8 = wr) (fun i _ => zs.length - (intOf i).toNat)
      case atStart => exact ⟨0, by omega, rfl, rfl⟩
      case round =>
        obtain ⟨k, hk, rfl, rfl⟩ := hrel
        by_cases hlt : k < zs.length
        · obtain ⟨hb, rfl, -, -, hc0, -⟩ := h1.at (by omega)
          have hc1 := hc0 k hlt
          obtain ⟨g0, g1⟩ := hm2 k hlt
          obtain ⟨x0, hx0⟩ : ∃ x, x = zs.getD k 0 := ⟨_, rfl⟩
          rw [← hx0] at hc1 g0 g1
          clear hc0 hx0
          go_wp2
          go_roundw
          case rel => exact ⟨k + 1, by omega, by go_num, trivial⟩
          case measure => simp [intOf]; omega
        · go_wp2_with fail
          refine (sameGlass_same r2 c2 B3 B1 zs d3 d1 _ (h3).ints (h1).ints hq).mono ?_
          rintro e w9 ⟨rfl, hx⟩
          replace hE := hE.trans hx
          replace b2 := b2.ex hx
          replace cb2 := b2.cell
          replace zb2 := b2.lt
          replace b3 := b3.ex hx
          replace cb3 := b3.cell
          replace zb3 := b3.lt
          replace b4 := b4.ex hx
          replace cb4 := b4.cell
          replace zb4 := b4.lt
          replace b6 := b6.ex hx
          replace cb6 := b6.cell
          replace zb6 := b6.lt
          replace b7 := b7.ex hx
          replace cb7 := b7.cell
          replace zb7 := b7.lt
          replace b8 := b8.ex hx
          replace cb8 := b8.cell
          replace zb8 := b8.lt
          replace hI := hI.ex hx
          replace h1 := h1.ex hx
          replace h2 := h2.ex hx
          replace h3 := h3.ex hx
          replace h4 := h4.ex hx
          replace h5 := h5.ex hx
          clear hx
          go_wp2_with fail
          refine (sameGlass_same r2 c2 B5 B1 zs d5 d1 _ (h5).ints (h1).ints hq).mono ?_
          rintro e w10 ⟨rfl, hx⟩
          replace hE := hE.trans hx
          replace b2 := b2.ex hx
          replace cb2 := b2.cell
          replace zb2 := b2.lt
          replace b3 := b3.ex hx
          replace cb3 := b3.cell
          replace zb3 := b3.lt
          replace b4 := b4.ex hx
          replace cb4 := b4.cell
          replace zb4 := b4.lt
          replace b6 := b6.ex hx
          replace cb6 := b6.cell
          replace zb6 := b6.lt
          replace b7 := b7.ex hx
          replace cb7 := b7.cell
          replace zb7 := b7.lt
          replace b8 := b8.ex hx
          replace cb8 := b8.cell
          replace zb8 := b8.lt
          replace hI := hI.ex hx
          replace h1 := h1.ex hx
          replace h2 := h2.ex hx
          replace h3 := h3.ex hx
          replace h4 := h4.ex hx
          replace h5 := h5.ex hx
          clear hx
          go_wp2
          go_ret
          exact ⟨rfl, hE⟩
end Go.Proofs.Ytploaldfkfjibaa
