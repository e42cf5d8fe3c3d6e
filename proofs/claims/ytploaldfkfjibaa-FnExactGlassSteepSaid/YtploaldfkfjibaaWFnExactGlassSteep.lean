/-
  The walk of the law FnExactGlassSteep.
-/
import Derived.Test.YtploaldfkfjibaaLawG
import Derived.Test.YtploaldfkfjibaaRead
import Derived.Test.YtploaldfkfjibaaGlsS
import Derived.Deep.RegionWith
namespace Go.Proofs.Ytploaldfkfjibaa
open Go.RowKit

set_option maxHeartbeats 1000000 in
theorem lawExactGlassSteep (r c : Int) (A : Option Addr) (xs : List Int) (cap : Nat) (w : World) (hI : Ints w A xs) (hl : xs.length ≤ 9223372036854775807) :
    Calls Try.prog 7 #[.agg #[.int .i64 r, .int .i64 c, .slice A xs.length cap]] w fun e w' => e = .returned (.bool true) ∧ Ex w w' := by
  by_cases hbig : (1048576 : Int) < xs.length
  · have hlt : (if (1048576 : Int) < xs.length then (-1 : Int) else 1048576 - xs.length) = -1 := if_pos hbig
    go_enter Try.func7, Try.ntmps7
    go_wp2_with (go_at_call 20; refine (szGlass_any r c A xs.length cap 1048576 _ (by omega) (by omega) hl).mono ?_; rintro e w1 ⟨rfl, hb⟩)
    go_ret
    exact ⟨rfl, ((Ex.refl _).alloc _).trans hb⟩
  · have hlt : (if (1048576 : Int) < xs.length then (-1 : Int) else 1048576 - xs.length) = 1048576 - xs.length := if_neg hbig
    have hl2 : xs.length ≤ 1048576 := by omega
    go_enter Try.func7, Try.ntmps7
    go_wp2_with fail
    refine (szGlass_any r c A xs.length cap 1048576 _ (by omega) (by omega) hl).mono ?_
    rintro e w1 ⟨rfl, hx⟩
    have hE := ((Ex.refl w).alloc _).trans hx
    have b1 := (Box.new _ _ _).ex hx
    have c1 := b1.cell
    clear hx
    go_wp2_with fail
    refine (toGlass_any r c A xs cap w1 (hI.ex hE) hl2).mono ?_
    rintro e w2 ⟨A2, c2, rfl, ho2, hx⟩
    go_wp2_with fail
    refine (sGlassSteep r c A2 xs c2 w2 ho2.ints hl2).mono ?_
    rintro e w3 ⟨rfl, hx'⟩
    replace hx := hx.trans hx'
    replace hE := hE.trans hx
    replace b1 := b1.ex hx
    replace c1 := b1.cell
    clear hx hx' ho2
    go_wp2_with fail
    refine (toGlass_any r c A xs cap w3 (hI.ex hE) hl2).mono ?_
    rintro e w4 ⟨A4, d4, rfl, ho4, hx⟩
    replace hE := hE.trans hx
    replace b1 := b1.ex hx
    replace c1 := b1.cell
    clear hx
    go_wp2_with fail
    refine (iGlassSteep r c A4 xs d4 _ (ho4.alloc _).ints hl2).mono ?_
    rintro e w5 ⟨rfl, hx⟩
    have b2 := (Box.new _ _ _).ex hx
    have c2 := b2.cell
    replace hx := ((Ex.refl w4).alloc _).trans hx
    have ho5 := ho4.ex hx
    replace hE := hE.trans hx
    replace b1 := b1.ex hx
    replace c1 := b1.cell
    clear hx
    go_wp2_with fail
    go_region_with (first
      | (go_at_call 22; refine (toGlass_any r c A xs cap w5.drew (hI.ex hE).drew hl2).mono ?_; rintro e w6 ⟨A6, d6, rfl, ho6, hx⟩; have c2' := (b2.drew.ex hx).cell)
      | (go_at_call 24; refine (eqGlass_any r c r c A4 A6 xs xs d4 d6 w6 (ho5.drew.ex hx).ints ho6.ints hl2 hl2).mono ?_; rintro e w7 ⟨rfl, hx7⟩))
    all_goals
      go_wp2
      go_ret
      exact ⟨rfl, (hE.drew.trans hx).trans hx7⟩

theorem law_FnExactGlassSteep (v : Value) (w : World) (h : IsGlass w v) : Calls Try.prog 7 #[v] w fun e w' => e = .returned (.bool true) ∧ Ex w w' := by
  obtain ⟨r, c, A, cap, xs, rfl, -, -, hl, hI, -⟩ := h
  exact lawExactGlassSteep r c A xs cap w hI hl
end Go.Proofs.Ytploaldfkfjibaa
