/-
  The walk of the law FnExactGlassLight.
-/
import Derived.Test.YtmmjkchjgeklnaaDoorLawN
import Derived.Test.YtmmjkchjgeklnaaDoorRead
import Derived.Test.YtmmjkchjgeklnaaDoorLgtI
import Derived.Test.YtmmjkchjgeklnaaDoorLgtS
import Derived.Deep.RegionWith
import Derived.Deep.DeepCutAuto
namespace Go.Proofs.YtmmjkchjgeklnaaDoor
open Go.RowKit

theorem glight_len (ok : Bool) (p q : Int) (xs : List Int) : (glight ok p q xs).1.length ≤ xs.length := by
  unfold glight
  split
  · simp
  · simp
theorem OwnF.other {w w' : World} {lo : Nat} {A : Option Addr} {cap : Nat} {xs : List Fr} {row : Option Nat} (h : OwnF w lo A cap xs) (hg : w.grownBy w' row) (hne : ∀ b, (Value.slice A xs.length cap).ownBlock = some b → row ≠ some b) : OwnF w' lo A cap xs := Own.other h hg hne

set_option maxRecDepth 4000 in
set_option maxHeartbeats 2000000 in
theorem lawFnExactGlassLight (r c p q : Int) (A : Option Addr) (xs : List Int) (cap : Nat) (w : World) (hG : Glob w) (hI : Ints w A xs) (hl : xs.length ≤ 9223372036854775807) :
    Calls Tryd.prog 3 #[.agg #[.int .i64 r, .int .i64 c, .slice A xs.length cap], .int .i64 p, .int .i64 q] w fun e w' => e = .returned (.bool true) ∧ Ex w w' := by
  by_cases hbig : (1048576 : Int) < xs.length
  · have hlt : (if (1048576 : Int) < xs.length then (-1 : Int) else 1048576 - xs.length) = -1 := if_pos hbig
    go_enter Tryd.func3, Tryd.ntmps3
    go_wp2_with (go_at_call 5; refine (szGlass_any r c A xs.length cap 1048576 _ (by omega) (by omega) hl).mono ?_; rintro e w1 ⟨rfl, hb⟩)
    go_ret
    exact ⟨rfl, ((Ex.refl _).alloc _).trans hb⟩
  · have hlt : (if (1048576 : Int) < xs.length then (-1 : Int) else 1048576 - xs.length) = 1048576 - xs.length := if_neg hbig
    have hl2 : xs.length ≤ 1048576 := by omega
    have hs := fun A cap w hI => sGlassLight r c p q A xs cap w hI hl2
    have hi := fun A cap w (h : Glob w) hI => iGlassLight r c p q A xs cap w hI hl2
    have hq : (glight (gvalid r c xs) p q xs).1.length ≤ 1048576 := Nat.le_trans (glight_len _ _ _ _) hl2
    generalize glight (gvalid r c xs) p q xs = R at hs hi hq
    obtain ⟨ys, ok⟩ := R
    simp only [GotFs] at hs hi hq
    rcases ok with _ | _
    all_goals
      go_enter Tryd.func3, Tryd.ntmps3
      go_wp2_with fail
      refine (szGlass_any r c A xs.length cap 1048576 _ (by omega) (by omega) hl).mono ?_
      rintro e w1 ⟨rfl, hx⟩
      have hE := ((Ex.refl w).alloc _).trans hx
      have b1 := (Box.new w _ _).ex hx
      have c1 := b1.cell
      have z1 := b1.lt
      clear hx
      go_wp2_with fail
      refine (toGlass_any r c A xs cap w1 (hI.ex hE) hl2).mono ?_
      rintro e w2 ⟨A2, d2, rfl, ho2, hx⟩
      go_wp2_with fail
      refine (hs A2 d2 w2 ho2.ints).mono ?_
      rintro e w3 ⟨B, cb, rfl, hoB, hx'⟩
      replace hx := hx.trans hx'
      replace hE := hE.trans hx
      replace b1 := b1.ex hx
      replace c1 := b1.cell
      replace z1 := b1.lt
      have y1 := z1
      have zB := fun b (h : (Value.slice B ys.length cb).ownBlock = some b) => (Own.lt hoB b h).2
      clear hx hx' ho2
      go_wp2_with fail
      refine (toGlass_any r c A xs cap w3 (hI.ex hE) hl2).mono ?_
      rintro e w4 ⟨A4, d4, rfl, ho4, hx⟩
      have y2 := hx.size
      replace hE := hE.trans hx
      replace b1 := b1.ex hx
      replace c1 := b1.cell
      replace z1 := b1.lt
      replace hoB := hoB.ex hx
      have zA := fun b (h : (Value.slice A4 xs.length d4).ownBlock = some b) => Own.lt ho4 b h
      clear hx
      go_wp2_with fail
      refine (hi A4 d4 _ (hG.ex (hE.alloc _)) (ho4.alloc _).ints).mono ?_
      rintro e w5 ⟨G, cg, rfl, hoG, hx⟩
      have bX := (Box.new w4 _ _).ex hx
      replace hx := ((Ex.refl w4).alloc _).trans hx
      replace hE := hE.trans hx
      replace b1 := b1.ex hx
      replace hoB := hoB.ex hx
      have ho5 := ho4.ex hx
      have zG := fun b (h : (Value.slice G ys.length cg).ownBlock = some b) => Own.lt hoG b h
      simp only [World.size_alloc] at zG
      clear hx ho4 c1
      have c1 := b1.cell
      replace z1 := b1.lt
      have cX := bX.cell
      have z4 := bX.lt
      go_wp2_with fail
      refine (eqFracS_same G B ys cg cb _ hoG.fracs hoB.fracs hq).mono ?_
      rintro e w6 ⟨rfl, hx⟩
      replace hE := hE.trans hx
      replace b1 := b1.ex hx
      replace bX := bX.ex hx
      replace hoB := hoB.ex hx
      replace hoG := hoG.ex hx
      replace ho5 := ho5.ex hx
      replace c1 := b1.cell
      replace cX := bX.cell
      clear hx
      go_upto_region 10 with fail
      go_cut [53] (fun s wx => s = .bool false ∧ Ex w6 wx)
      case first =>
        clear hs hi zA zB zG hoB hoG y1 y2 z4 hlt hbig
        go_region_with (first
          | (go_at_call 7; refine (toGlass_any r c A xs cap w6.drew (hI.ex hE).drew hl2).mono ?_; rintro e w7 ⟨A7, d7, rfl, ho7, hx⟩; have cX' := (bX.drew.ex hx).cell)
          | (go_at_call 10; refine (eqGlass_same r c A4 A7 xs d4 d7 w7 (ho5.drew.ex hx).ints ho7.ints hl2).mono ?_; rintro e w8 ⟨rfl, hx8⟩))
        all_goals
          go_wp2_with fail
          go_meet
          exact ⟨rfl, ((Ex.refl w6).drew.trans hx).trans hx8⟩
      case rest =>
        obtain ⟨rfl, hx⟩ := hcut
        replace hE := hE.trans hx
        replace b1 := b1.ex hx
        replace bX := bX.ex hx
        replace hoB := hoB.ex hx
        replace hoG := hoG.ex hx
        replace ho5 := ho5.ex hx
        replace c1 := b1.cell
        replace cX := bX.cell
        clear hx
        go_wp2_with fail
        refine (markGlass_any r c _ A4 xs xs.length d4 1 _ ho5 rfl hl2 (by omega) (by omega)).mono ?_
        rintro e w7 ⟨rfl, -, o, hg⟩
        replace hE := (hE.alloc o).grown hg (fun k hk => by have := (zA k hk).1; omega)
        replace hoB := (hoB.alloc o).other hg (fun b hb e => by have := zB b hb; have := zA b e; omega)
        replace hoG := (hoG.alloc o).other hg (fun b hb e => by have := zG b hb; have := zA b e; omega)
        replace b1 := (b1.alloc o).grown hg (Own.ne ho5 b1 (by decide))
        replace c1 := b1.cell
        clear hg ho5 bX cX
        have hk : ¬ ((1 : Int) + xs.length < 0) := by omega
        go_wp2_with fail
        refine (eqFracS_same G B ys cg cb _ hoG.fracs hoB.fracs hq).mono ?_
        rintro e w8 ⟨rfl, hx⟩
        replace hE := hE.trans hx
        replace b1 := b1.ex hx
        replace hoB := hoB.ex hx
        replace hoG := hoG.ex hx
        replace c1 := b1.cell
        clear hx hk
        go_wp2_with fail
        refine (markFracS_any _ G ys ys.length cg 1 _ hoG rfl hq (by omega) (by omega)).mono ?_
        rintro e w9 ⟨rfl, hoM, hg⟩
        replace hE := hE.grown hg (fun k hk => by have := (zG k hk).1; omega)
        replace hoB := hoB.other hg (fun b hb e => by have := zB b hb; have := zG b e; omega)
        replace b1 := b1.grown hg (Own.ne hoG b1 (by decide))
        replace c1 := b1.cell
        clear hg hoG
        have hk : ¬ ((1 : Int) + (ys.length : Int) * 3 < 0) := by omega
        go_wp2_with fail
        refine (heldFracS_any G ys.length cg 1 _ hoM.fracs hq (by omega) (by omega)).mono ?_
        rintro e w10 ⟨rfl, hx⟩
        replace hE := hE.trans hx
        replace b1 := b1.ex hx
        replace hoB := hoB.ex hx
        replace hoM := hoM.ex hx
        replace c1 := b1.cell
        clear hx
        go_wp2_with fail
        refine (toGlass_any r c A xs cap _ (hI.ex hE) hl2).mono ?_
        rintro e w11 ⟨A11, d11, rfl, ho11, hx⟩
        go_wp2_with fail
        refine (hi A11 d11 _ (hG.ex (hE.trans hx)) ho11.ints).mono ?_
        rintro e w12 ⟨H, ch, rfl, hoH, hx'⟩
        replace hx := hx.trans hx'
        replace hE := hE.trans hx
        replace hoB := hoB.ex hx
        replace hoM := hoM.ex hx
        clear hx hx' ho11 b1 c1
        go_wp2_with fail
        refine (eqFracS_same H B ys ch cb _ hoH.fracs hoB.fracs hq).mono ?_
        rintro e w13 ⟨rfl, hx⟩
        replace hE := hE.trans hx
        replace hoM := hoM.ex hx
        clear hx hoB
        go_wp2_with fail
        refine (heldFracS_any G ys.length cg 1 _ hoM.fracs hq (by omega) (by omega)).mono ?_
        rintro e w14 ⟨rfl, hx⟩
        replace hE := hE.trans hx
        clear hx
        go_wp2
        go_ret
        exact ⟨rfl, hE⟩

theorem law_FnExactGlassLight (v u x : Value) (w : World) (h : IsGlass w v) (h1 : IsInt w u) (h2 : IsInt w x) (hG : Glob w) : Calls Tryd.prog 3 #[v, u, x] w fun e w' => e = .returned (.bool true) ∧ Ex w w' := by
  obtain ⟨r, c, A, cap, xs, rfl, -, -, hl, hI, -⟩ := h
  obtain ⟨p, rfl, -⟩ := h1
  obtain ⟨q, rfl, -⟩ := h2
  exact lawFnExactGlassLight r c p q A xs cap w hG hI hl
end Go.Proofs.YtmmjkchjgeklnaaDoor
