/-
  The walk of the law FnResidues.
-/
import Derived.Test.YtploaldfkfjibaaDrawH
import Derived.Test.YtploaldfkfjibaaLawS
import Derived.Test.YtploaldfkfjibaaRead
import Derived.Test.YtploaldfkfjibaaGlsO
import Derived.Test.YtploaldfkfjibaaGlsRi
import Derived.Test.YtploaldfkfjibaaGlsS
import Derived.Test.YtploaldfkfjibaaGlsY
namespace Go.Proofs.Ytploaldfkfjibaa
open Go.RowKit

set_option maxRecDepth 4000 in
set_option maxHeartbeats 2000000 in
theorem law_FnResidues (v : Value) (w : World) (h : IsBytes w v) : Calls Try.prog 19 #[v] w fun e w' => e = .returned (.bool true) ∧ Ex w w' := by
  obtain ⟨A, cap, xs, rfl, hl, hcap, hcap2, hS, hbs⟩ := h
  have hB : Byts w A xs := ⟨hS, hbs⟩
  clear hS hbs
  by_cases hbig : (1048576 : Int) < xs.length
  · go_enter Try.func19, Try.ntmps19
    go_wp2
    go_ret
    exact ⟨rfl, Ex.refl _⟩
  go_enter Try.func19, Try.ntmps19
  go_wp2_with fail
  refine (drawGlassResidues A xs cap w hB hl hcap hcap2).mono ?_
  rintro e w1 ⟨r, c, B, cb, ys, rfl, hy, hI, hx⟩
  have hE := hx
  clear hx
  have hl2 : ys.length ≤ 1048576 := by omega
  clear hB hy
  have V1 := fun B cb w hI => iGlassResidues r c B ys cb w hI hl2
  have V2 := fun B cb w hI => sGlassResidues r c B ys cb w hI hl2
  have U1 := fun B cb w hI => iGlassUnwrap r c B ys cb w hI hl2
  have hq := gresidues_len2 r c ys
  have hbd := gresidues_bd (r := r) (c := c) (q := ys)
  have hsm := gresidues_smooth (r := r) (c := c) (q := ys)
  have hsz := gresidues_size (r := r) (c := c) (q := ys)
  have hul := gunwrap_len r c ys hl2
  generalize gresidues r c ys = zs at V1 V2 hq hbd hsm hsz
  rcases hw : gwrapped r c ys with _ | _
  · simp only [hw] at V1 V2
    clear U1 hbd hsm hsz hul hw
    go_wp2_with fail
    refine (V1 _ cb _ (hI.alloc _)).mono ?_
    rintro e w2 ⟨B1, d1, rfl, h1, hx⟩
    have b2 := (Box.new w1 _ _).ex hx
    replace hx := ((Ex.refl w1).alloc _).trans hx
    replace hE := hE.trans hx
    have cb2 := b2.cell
    have zb2 := b2.lt
    replace hI := hI.ex hx
    clear hx
    go_wp2_with fail
    refine (V2 _ cb _ (hI)).mono ?_
    rintro e w3 ⟨B2, d2, rfl, h2, hx⟩
    replace hE := hE.trans hx
    replace b2 := b2.ex hx
    replace cb2 := b2.cell
    replace zb2 := b2.lt
    replace hI := hI.ex hx
    replace h1 := h1.ex hx
    clear hx
    go_wp2_with fail
    refine (sameInts_same B1 B2 zs d1 d2 _ (h1).ints (h2).ints hq).mono ?_
    rintro e w4 ⟨rfl, hx⟩
    replace hE := hE.trans hx
    replace b2 := b2.ex hx
    replace cb2 := b2.cell
    replace zb2 := b2.lt
    replace hI := hI.ex hx
    replace h1 := h1.ex hx
    replace h2 := h2.ex hx
    clear hx
    go_wp2_with fail
    refine (sameInts_same B1 B2 zs d1 d2 _ (h1).ints (h2).ints hq).mono ?_
    rintro e w5 ⟨rfl, hx⟩
    replace hE := hE.trans hx
    replace b2 := b2.ex hx
    replace cb2 := b2.cell
    replace zb2 := b2.lt
    replace hI := hI.ex hx
    replace h1 := h1.ex hx
    replace h2 := h2.ex hx
    clear hx
    go_wp2
    go_ret
    exact ⟨rfl, hE⟩
  · simp only [hw] at V1 V2
    obtain ⟨rn, cn, rfl, rfl, g1, g2, g3, g4, hsz⟩ := hsz hw
    have hsz2 : (zs.length : Int) = ((rn : Int) - 1) * ((cn : Int) - 1) := by
      rw [hsz, Int.natCast_mul, Int.natCast_sub g1, Int.natCast_sub g3]; rfl
    have HSZ := Lib.hid hsz2
    generalize gunwrap rn cn ys = R at U1 hsm hul
    obtain ⟨ok2, r2, c2, us⟩ := R
    simp only at hul hsm
    have S1 := fun B cb w hI => iGlassSmooth r2 c2 B us cb w hI hul
    generalize gsmooth r2 c2 us = sm at S1 hsm
    have HBD := Lib.hid hbd
    clear hw hsz hsz2 hbd
    rcases ok2 with _ | _
    · clear S1 hsm
      go_wp2_with fail
      refine (V1 _ cb _ (hI.alloc _)).mono ?_
      rintro e w2 ⟨B1, d1, rfl, h1, hx⟩
      have b2 := (Box.new w1 _ _).ex hx
      replace hx := ((Ex.refl w1).alloc _).trans hx
      replace hE := hE.trans hx
      have cb2 := b2.cell
      have zb2 := b2.lt
      replace hI := hI.ex hx
      clear hx
      go_wp2_with fail
      refine (V2 _ cb _ (hI)).mono ?_
      rintro e w3 ⟨B2, d2, rfl, h2, hx⟩
      replace hE := hE.trans hx
      replace b2 := b2.ex hx
      replace cb2 := b2.cell
      replace zb2 := b2.lt
      replace hI := hI.ex hx
      replace h1 := h1.ex hx
      clear hx
      go_wp2_with fail
      refine (sameInts_same B1 B2 zs d1 d2 _ (h1).ints (h2).ints hq).mono ?_
      rintro e w4 ⟨rfl, hx⟩
      replace hE := hE.trans hx
      replace b2 := b2.ex hx
      replace cb2 := b2.cell
      replace zb2 := b2.lt
      replace hI := hI.ex hx
      replace h1 := h1.ex hx
      replace h2 := h2.ex hx
      clear hx
      go_wp2_with fail
      refine (U1 _ cb _ (hI)).mono ?_
      rintro e w5 ⟨B3, d3, rfl, h3, hx⟩
      replace hE := hE.trans hx
      replace b2 := b2.ex hx
      replace cb2 := b2.cell
      replace zb2 := b2.lt
      replace hI := hI.ex hx
      replace h1 := h1.ex hx
      replace h2 := h2.ex hx
      clear hx
      go_wp2_with fail
      obtain ⟨w6, hW⟩ : ∃ W, W = w5.alloc (.cells #[.int .i64 r2, .int .i64 c2, .slice B3 us.length d3] 27) := ⟨_, rfl⟩
      have b6 : Box w6 w5.heap.size 27 #[.int .i64 r2, .int .i64 c2, .slice B3 us.length d3] := by rw [hW]; exact Box.new _ _ _
      have hx : Ex w5 w6 := by rw [hW]; exact (Ex.refl _).alloc _
      rw [← hW]
      clear hW
      replace hE := hE.trans hx
      replace b2 := b2.ex hx
      replace cb2 := b2.cell
      replace zb2 := b2.lt
      have cb6 := b6.cell
      have zb6 := b6.lt
      replace hI := hI.ex hx
      replace h1 := h1.ex hx
      replace h2 := h2.ex hx
      replace h3 := h3.ex hx
      clear hx
      go_loopw [11] (fun i wr => ∃ (k : Nat), k ≤ zs.length ∧ i = .int .i64 k ∧ w6 = wr) (fun i _ => zs.length - (intOf i).toNat)
      case atStart => exact ⟨0, by omega, rfl, rfl⟩
      case round =>
        obtain ⟨k, hk, rfl, rfl⟩ := hrel
        by_cases hlt : k < zs.length
        · obtain ⟨hb, rfl, -, -, hc0, -⟩ := h1.at (by omega)
          have hc1 := hc0 k hlt
          have hm2 : zs.getD k 0 ∈ zs := by rw [List.getD_eq_getElem?_getD, List.getElem?_eq_getElem hlt]; exact List.getElem_mem hlt
          have hx9 := HBD.out _ hm2
          obtain ⟨x, hx⟩ : ∃ x, x = zs.getD k 0 := ⟨_, rfl⟩
          rw [← hx] at hc1 hx9
          clear hc0 hx hm2
          by_cases h9 : x = 9
          · subst h9
            clear hx9
            go_wp2
            go_roundw
            case rel => exact ⟨k + 1, by omega, by go_num, trivial⟩
            case measure => simp [intOf]; omega
          · have h9b : (x != 9) = true := by simpa using h9
            obtain ⟨l1, l2⟩ : -1 ≤ x ∧ x ≤ 1 := by omega
            clear hx9 h9
            go_wp2
            go_roundw
            case rel => exact ⟨k + 1, by omega, by go_num, trivial⟩
            case measure => simp [intOf]; omega
        · have w1 := IntWalk.i64_in ((rn : Int) - 1) (by omega)
          have w2 := IntWalk.i64_in ((cn : Int) - 1) (by omega)
          have w3 := IntWalk.i64_in (((rn : Int) - 1) * ((cn : Int) - 1)) (by have := HSZ.out; omega)
          have w4 : ((zs.length : Int) == ((rn : Int) - 1) * ((cn : Int) - 1)) = true := by rw [HSZ.out]; simp
          go_wp2
          go_ret
          exact ⟨rfl, hE⟩
    · have HSM : Hid (sm = true → ∀ n ∈ zs, n = 0) := hsm rfl
      clear hsm
      rcases sm with _ | _
      · clear HSM
        go_wp2_with fail
        refine (V1 _ cb _ (hI.alloc _)).mono ?_
        rintro e w2 ⟨B1, d1, rfl, h1, hx⟩
        have b2 := (Box.new w1 _ _).ex hx
        replace hx := ((Ex.refl w1).alloc _).trans hx
        replace hE := hE.trans hx
        have cb2 := b2.cell
        have zb2 := b2.lt
        replace hI := hI.ex hx
        clear hx
        go_wp2_with fail
        refine (V2 _ cb _ (hI)).mono ?_
        rintro e w3 ⟨B2, d2, rfl, h2, hx⟩
        replace hE := hE.trans hx
        replace b2 := b2.ex hx
        replace cb2 := b2.cell
        replace zb2 := b2.lt
        replace hI := hI.ex hx
        replace h1 := h1.ex hx
        clear hx
        go_wp2_with fail
        refine (sameInts_same B1 B2 zs d1 d2 _ (h1).ints (h2).ints hq).mono ?_
        rintro e w4 ⟨rfl, hx⟩
        replace hE := hE.trans hx
        replace b2 := b2.ex hx
        replace cb2 := b2.cell
        replace zb2 := b2.lt
        replace hI := hI.ex hx
        replace h1 := h1.ex hx
        replace h2 := h2.ex hx
        clear hx
        go_wp2_with fail
        refine (U1 _ cb _ (hI)).mono ?_
        rintro e w5 ⟨B3, d3, rfl, h3, hx⟩
        replace hE := hE.trans hx
        replace b2 := b2.ex hx
        replace cb2 := b2.cell
        replace zb2 := b2.lt
        replace hI := hI.ex hx
        replace h1 := h1.ex hx
        replace h2 := h2.ex hx
        clear hx
        go_wp2_with fail
        refine (S1 _ d3 _ (h3.alloc _).ints).mono ?_
        rintro e w6 ⟨rfl, hx⟩
        have b6 := (Box.new w5 _ _).ex hx
        replace hx := ((Ex.refl w5).alloc _).trans hx
        replace hE := hE.trans hx
        replace b2 := b2.ex hx
        replace cb2 := b2.cell
        replace zb2 := b2.lt
        have cb6 := b6.cell
        have zb6 := b6.lt
        replace hI := hI.ex hx
        replace h1 := h1.ex hx
        replace h2 := h2.ex hx
        replace h3 := h3.ex hx
        clear hx
        go_wp2_with fail
        go_loopw [11] (fun i wr => ∃ (k : Nat), k ≤ zs.length ∧ i = .int .i64 k ∧ w6 = wr) (fun i _ => zs.length - (intOf i).toNat)
        case atStart => exact ⟨0, by omega, rfl, rfl⟩
        case round =>
          obtain ⟨k, hk, rfl, rfl⟩ := hrel
          by_cases hlt : k < zs.length
          · obtain ⟨hb, rfl, -, -, hc0, -⟩ := h1.at (by omega)
            have hc1 := hc0 k hlt
            have hm2 : zs.getD k 0 ∈ zs := by rw [List.getD_eq_getElem?_getD, List.getElem?_eq_getElem hlt]; exact List.getElem_mem hlt
            have hx9 := HBD.out _ hm2
            obtain ⟨x, hx⟩ : ∃ x, x = zs.getD k 0 := ⟨_, rfl⟩
            rw [← hx] at hc1 hx9
            clear hc0 hx hm2
            by_cases h9 : x = 9
            · subst h9
              clear hx9
              go_wp2
              go_roundw
              case rel => exact ⟨k + 1, by omega, by go_num, trivial⟩
              case measure => simp [intOf]; omega
            · have h9b : (x != 9) = true := by simpa using h9
              obtain ⟨l1, l2⟩ : -1 ≤ x ∧ x ≤ 1 := by omega
              clear hx9 h9
              go_wp2
              go_roundw
              case rel => exact ⟨k + 1, by omega, by go_num, trivial⟩
              case measure => simp [intOf]; omega
          · have w1 := IntWalk.i64_in ((rn : Int) - 1) (by omega)
            have w2 := IntWalk.i64_in ((cn : Int) - 1) (by omega)
            have w3 := IntWalk.i64_in (((rn : Int) - 1) * ((cn : Int) - 1)) (by have := HSZ.out; omega)
            have w4 : ((zs.length : Int) == ((rn : Int) - 1) * ((cn : Int) - 1)) = true := by rw [HSZ.out]; simp
            go_wp2
            go_ret
            exact ⟨rfl, hE⟩
      · go_wp2_with fail
        refine (V1 _ cb _ (hI.alloc _)).mono ?_
        rintro e w2 ⟨B1, d1, rfl, h1, hx⟩
        have b2 := (Box.new w1 _ _).ex hx
        replace hx := ((Ex.refl w1).alloc _).trans hx
        replace hE := hE.trans hx
        have cb2 := b2.cell
        have zb2 := b2.lt
        replace hI := hI.ex hx
        clear hx
        go_wp2_with fail
        refine (V2 _ cb _ (hI)).mono ?_
        rintro e w3 ⟨B2, d2, rfl, h2, hx⟩
        replace hE := hE.trans hx
        replace b2 := b2.ex hx
        replace cb2 := b2.cell
        replace zb2 := b2.lt
        replace hI := hI.ex hx
        replace h1 := h1.ex hx
        clear hx
        go_wp2_with fail
        refine (sameInts_same B1 B2 zs d1 d2 _ (h1).ints (h2).ints hq).mono ?_
        rintro e w4 ⟨rfl, hx⟩
        replace hE := hE.trans hx
        replace b2 := b2.ex hx
        replace cb2 := b2.cell
        replace zb2 := b2.lt
        replace hI := hI.ex hx
        replace h1 := h1.ex hx
        replace h2 := h2.ex hx
        clear hx
        go_wp2_with fail
        refine (U1 _ cb _ (hI)).mono ?_
        rintro e w5 ⟨B3, d3, rfl, h3, hx⟩
        replace hE := hE.trans hx
        replace b2 := b2.ex hx
        replace cb2 := b2.cell
        replace zb2 := b2.lt
        replace hI := hI.ex hx
        replace h1 := h1.ex hx
        replace h2 := h2.ex hx
        clear hx
        go_wp2_with fail
        refine (S1 _ d3 _ (h3.alloc _).ints).mono ?_
        rintro e w6 ⟨rfl, hx⟩
        have b6 := (Box.new w5 _ _).ex hx
        replace hx := ((Ex.refl w5).alloc _).trans hx
        replace hE := hE.trans hx
        replace b2 := b2.ex hx
        replace cb2 := b2.cell
        replace zb2 := b2.lt
        have cb6 := b6.cell
        have zb6 := b6.lt
        replace hI := hI.ex hx
        replace h1 := h1.ex hx
        replace h2 := h2.ex hx
        replace h3 := h3.ex hx
        clear hx
        go_wp2_with fail
        go_loopw [11] (fun i wr => ∃ (k : Nat), k ≤ zs.length ∧ i = .int .i64 k ∧ w6 = wr) (fun i _ => zs.length - (intOf i).toNat)
        case atStart => exact ⟨0, by omega, rfl, rfl⟩
        case round =>
          obtain ⟨k, hk, rfl, rfl⟩ := hrel
          by_cases hlt : k < zs.length
          · obtain ⟨hb, rfl, -, -, hc0, -⟩ := h1.at (by omega)
            have hc1 := hc0 k hlt
            have hm2 : zs.getD k 0 ∈ zs := by rw [List.getD_eq_getElem?_getD, List.getElem?_eq_getElem hlt]; exact List.getElem_mem hlt
            have hx9 := HBD.out _ hm2
            have hx0 := HSM.out (by trivial) _ hm2
            obtain ⟨x, hx⟩ : ∃ x, x = zs.getD k 0 := ⟨_, rfl⟩
            rw [← hx] at hc1 hx9 hx0
            clear hc0 hx hm2
            subst hx0
            clear hx9
            go_wp2
            go_roundw
            case rel => exact ⟨k + 1, by omega, by go_num, trivial⟩
            case measure => simp [intOf]; omega
          · have w1 := IntWalk.i64_in ((rn : Int) - 1) (by omega)
            have w2 := IntWalk.i64_in ((cn : Int) - 1) (by omega)
            have w3 := IntWalk.i64_in (((rn : Int) - 1) * ((cn : Int) - 1)) (by have := HSZ.out; omega)
            have w4 : ((zs.length : Int) == ((rn : Int) - 1) * ((cn : Int) - 1)) = true := by rw [HSZ.out]; simp
            go_wp2
            go_ret
            exact ⟨rfl, hE⟩
end Go.Proofs.Ytploaldfkfjibaa
