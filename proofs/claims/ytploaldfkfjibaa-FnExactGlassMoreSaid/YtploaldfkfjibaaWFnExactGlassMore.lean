/-
  The walk of the law FnExactGlassMore.
-/
import Derived.Test.YtploaldfkfjibaaLawM
import Derived.Test.YtploaldfkfjibaaRead
import Derived.Test.YtploaldfkfjibaaGlsM
import Derived.Test.YtploaldfkfjibaaGlsQ
import Derived.Deep.RegionWith
import Derived.Deep.DeepCutAuto
namespace Go.Proofs.Ytploaldfkfjibaa
open Go.RowKit

set_option maxRecDepth 4000 in
set_option maxHeartbeats 2000000 in
theorem lawFnExactGlassMore (r c : Int) (A : Option Addr) (xs : List Int) (cap : Nat) (n : Int) (w : World) (hI : Ints w A xs) (hl : xs.length ≤ 9223372036854775807) :
    Calls Try.prog 14 #[.agg #[.int .i64 r, .int .i64 c, .slice A xs.length cap], .int .i64 n] w fun e w' => e = .returned (.bool true) ∧ Ex w w' := by
  by_cases hbig : (1048576 : Int) < xs.length
  · have hlt : (if (1048576 : Int) < xs.length then (-1 : Int) else 1048576 - xs.length) = -1 := if_pos hbig
    go_enter Try.func14, Try.ntmps14
    go_wp2_with (go_at_call 20; refine (szGlass_any r c A xs.length cap 1048576 _ (by omega) (by omega) hl).mono ?_; rintro e w1 ⟨rfl, hb⟩)
    go_ret
    exact ⟨rfl, ((Ex.refl _).alloc _).trans hb⟩
  · have hlt : (if (1048576 : Int) < xs.length then (-1 : Int) else 1048576 - xs.length) = 1048576 - xs.length := if_neg hbig
    have hl2 : xs.length ≤ 1048576 := by omega
    have hs := fun A cap w hI => sGlassMore r c A xs cap n w hI hl2
    have hi := fun A cap w hI => iGlassMore r c A xs cap n w hI hl2
    have hq := gmore_len r c xs n hl2
    generalize gmore r c xs n = R at hs hi hq
    obtain ⟨ok, r', c', ys⟩ := R
    rcases ok with _ | _
    all_goals
      simp only at hq
      go_enter Try.func14, Try.ntmps14
      go_wp2_with fail
      refine (szGlass_any r c A xs.length cap 1048576 _ (by omega) (by omega) hl).mono ?_
      rintro e w1 ⟨rfl, hx⟩
      have hE := ((Ex.refl w).alloc _).trans hx
      have b1 := (Box.new w _ _).ex hx
      have c1 := b1.cell
      have z1 := b1.lt
      clear hx
      go_wp2_with fail
      refine (toGlass_any r c A xs cap w1 (hI.ex hE) hl2).mono ?_
      rintro e w2 ⟨A2, d2, rfl, ho2, hx⟩
      go_wp2_with fail
      refine (hs A2 d2 w2 ho2.ints).mono ?_
      rintro e w3 ⟨B, cb, rfl, hoB, hx'⟩
      replace hx := hx.trans hx'
      replace hE := hE.trans hx
      replace b1 := b1.ex hx
      replace c1 := b1.cell
      replace z1 := b1.lt
      have y1 := z1
      have zB := fun b (h : (Value.slice B ys.length cb).ownBlock = some b) => (Own.lt hoB b h).2
      clear hx hx' ho2
      go_wp2_with fail
      refine (toGlass_any r c A xs cap _ ((hI.ex hE).alloc _) hl2).mono ?_
      rintro e w4 ⟨A4, d4, rfl, ho4, hx⟩
      have bW := (Box.new w3 _ _).ex hx
      have y2 := bW.lt
      replace hx := ((Ex.refl w3).alloc _).trans hx
      replace hE := hE.trans hx
      replace b1 := b1.ex hx
      replace c1 := b1.cell
      replace z1 := b1.lt
      replace hoB := hoB.ex hx
      have zA := fun b (h : (Value.slice A4 xs.length d4).ownBlock = some b) => Own.lt ho4 b h
      simp only [World.size_alloc] at zA
      clear hx
      go_wp2_with fail
      refine (hi A4 d4 _ (ho4.alloc _).ints).mono ?_
      rintro e w5 ⟨G, cg, rfl, hoG, hx⟩
      have bX := (Box.new w4 _ _).ex hx
      replace hx := ((Ex.refl w4).alloc _).trans hx
      replace hE := hE.trans hx
      replace b1 := b1.ex hx
      replace bW := bW.ex hx
      replace hoB := hoB.ex hx
      have ho5 := ho4.ex hx
      have zG := fun b (h : (Value.slice G ys.length cg).ownBlock = some b) => Own.lt hoG b h
      simp only [World.size_alloc] at zG
      clear hx ho4 c1
      have c1 := b1.cell
      replace z1 := b1.lt
      have cW := bW.cell
      have cX := bX.cell
      have z3 := bW.lt
      have z4 := bX.lt
      have y3 := bW.lt
      go_wp2_with fail
      refine (eqGlass_same r' c' G B ys cg cb _ (hoG.alloc _).ints (hoB.alloc _).ints hq).mono ?_
      rintro e w6 ⟨rfl, hx⟩
      have bG := (Box.new w5 _ _).ex hx
      replace hx := ((Ex.refl w5).alloc _).trans hx
      replace hE := hE.trans hx
      replace b1 := b1.ex hx
      replace bW := bW.ex hx
      replace bX := bX.ex hx
      replace hoB := hoB.ex hx
      replace hoG := hoG.ex hx
      replace ho5 := ho5.ex hx
      replace c1 := b1.cell
      replace cW := bW.cell
      replace cX := bX.cell
      clear hx
      go_upto_region 10 with fail
      go_cut [49] (fun s wx => s = .bool false ∧ Ex w6 wx)
      case first =>
        clear hs hi zA zB zG cW hoB hoG bW bG y1 y2 y3 z3 z4 hlt hbig
        go_region_with (first
          | (go_at_call 22; refine (toGlass_any r c A xs cap w6.drew (hI.ex hE).drew hl2).mono ?_; rintro e w7 ⟨A7, d7, rfl, ho7, hx⟩; have cX' := (bX.drew.ex hx).cell)
          | (go_at_call 24; refine (eqGlass_same r c A4 A7 xs d4 d7 w7 (ho5.drew.ex hx).ints ho7.ints hl2).mono ?_; rintro e w8 ⟨rfl, hx8⟩))
        all_goals
          go_wp2_with fail
          go_meet
          exact ⟨rfl, ((Ex.refl w6).drew.trans hx).trans hx8⟩
      case rest =>
        obtain ⟨rfl, hx⟩ := hcut
        replace hE := hE.trans hx
        replace b1 := b1.ex hx
        replace bW := bW.ex hx
        replace bX := bX.ex hx
        replace bG := bG.ex hx
        replace hoB := hoB.ex hx
        replace hoG := hoG.ex hx
        replace ho5 := ho5.ex hx
        replace c1 := b1.cell
        replace cW := bW.cell
        replace cX := bX.cell
        have cG := bG.cell
        clear hx
        go_wp2_with fail
        refine (markGlass_any r c _ A4 xs xs.length d4 1 _ ho5 rfl hl2 (by omega) (by omega)).mono ?_
        rintro e w7 ⟨rfl, -, o, hg⟩
        replace hE := (hE.alloc o).grown hg (fun k hk => by have := (zA k hk).1; omega)
        replace hoB := (hoB.alloc o).other hg (fun b hb e => by have := zB b hb; have := zA b e; omega)
        replace hoG := (hoG.alloc o).other hg (fun b hb e => by have := zG b hb; have := zA b e; omega)
        replace b1 := (b1.alloc o).grown hg (Own.ne ho5 b1 (by decide))
        replace bW := (bW.alloc o).grown hg (Own.ne ho5 bW (by decide))
        replace bG := (bG.alloc o).grown hg (Own.ne ho5 bG (by decide))
        replace c1 := b1.cell
        replace cW := bW.cell
        replace cG := bG.cell
        clear hg ho5 bX cX
        have hk : ¬ ((1 : Int) + xs.length < 0) := by omega
        go_wp2_with fail
        refine (eqGlass_same r' c' G B ys cg cb _ hoG.ints hoB.ints hq).mono ?_
        rintro e w8 ⟨rfl, hx⟩
        replace hE := hE.trans hx
        replace b1 := b1.ex hx
        replace bW := bW.ex hx
        replace bG := bG.ex hx
        replace hoB := hoB.ex hx
        replace hoG := hoG.ex hx
        replace c1 := b1.cell
        replace cW := bW.cell
        replace cG := bG.cell
        clear hx hk
        go_wp2_with fail
        refine (markGlass_any r' c' _ G ys ys.length cg 1 _ hoG rfl hq (by omega) (by omega)).mono ?_
        rintro e w9 ⟨rfl, hoM, o, hg⟩
        replace hE := (hE.alloc o).grown hg (fun k hk => by have := (zG k hk).1; omega)
        replace hoB := (hoB.alloc o).other hg (fun b hb e => by have := zB b hb; have := zG b e; omega)
        replace b1 := (b1.alloc o).grown hg (Own.ne hoG b1 (by decide))
        replace bW := (bW.alloc o).grown hg (Own.ne hoG bW (by decide))
        replace bG := (bG.alloc o).grown hg (Own.ne hoG bG (by decide))
        replace c1 := b1.cell
        replace cW := bW.cell
        replace cG := bG.cell
        clear hg hoG
        have hk : ¬ ((1 : Int) + ys.length < 0) := by omega
        go_wp2_with fail
        refine (heldGlass_any r' c' G ys.length cg 1 _ hoM.ints hq (by omega) (by omega)).mono ?_
        rintro e w10 ⟨rfl, hx⟩
        replace hE := hE.trans hx
        replace b1 := b1.ex hx
        replace bW := bW.ex hx
        replace bG := bG.ex hx
        replace hoB := hoB.ex hx
        replace hoM := hoM.ex hx
        replace c1 := b1.cell
        replace cW := bW.cell
        replace cG := bG.cell
        clear hx
        go_wp2_with fail
        refine (toGlass_any r c A xs cap _ (hI.ex hE) hl2).mono ?_
        rintro e w11 ⟨A11, d11, rfl, ho11, hx⟩
        go_wp2_with fail
        refine (hi A11 d11 _ ho11.ints).mono ?_
        rintro e w12 ⟨H, ch, rfl, hoH, hx'⟩
        replace hx := hx.trans hx'
        replace hE := hE.trans hx
        replace b1 := b1.ex hx
        replace bW := bW.ex hx
        replace bG := bG.ex hx
        replace hoB := hoB.ex hx
        replace hoM := hoM.ex hx
        replace c1 := b1.cell
        replace cW := bW.cell
        replace cG := bG.cell
        have y5 := bW.lt
        have y6 := bG.lt
        clear hx hx' ho11
        go_wp2_with fail
        refine (eqGlass_same r' c' H B ys ch cb _ (hoH.alloc _).ints (hoB.alloc _).ints hq).mono ?_
        rintro e w13 ⟨rfl, hx⟩
        replace hx := ((Ex.refl w12).alloc _).trans hx
        replace hE := hE.trans hx
        replace bG := bG.ex hx
        replace hoM := hoM.ex hx
        replace cG := bG.cell
        clear hx b1 c1 bW cW hoB y5 y6
        go_wp2_with fail
        refine (heldGlass_any r' c' G ys.length cg 1 _ hoM.ints hq (by omega) (by omega)).mono ?_
        rintro e w14 ⟨rfl, hx⟩
        replace hE := hE.trans hx
        clear hx
        go_wp2
        go_ret
        exact ⟨rfl, hE⟩

theorem law_FnExactGlassMore (v u : Value) (w : World) (h : IsGlass w v) (h2 : IsInt w u) : Calls Try.prog 14 #[v, u] w fun e w' => e = .returned (.bool true) ∧ Ex w w' := by
  obtain ⟨r, c, A, cap, xs, rfl, -, -, hl, hI, -⟩ := h
  obtain ⟨n, rfl, -⟩ := h2
  exact lawFnExactGlassMore r c A xs cap n w hI hl
end Go.Proofs.Ytploaldfkfjibaa
