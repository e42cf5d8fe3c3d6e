/-
  Walks: GlassWrap and GlassMore, the program's and the reference's.
-/
import Derived.Test.YtmmjkchjgeklnaaDoorGlsT
namespace Go.Proofs.YtmmjkchjgeklnaaDoor
open Go.RowKit

theorem rest_any (n : Int) (w : World) : Calls Tryd.prog 26 #[.int .i64 n] w fun e w' => e = .returned (.int .i64 (n % 4)) ∧ w = w' := by
  obtain ⟨h1, h2, h3⟩ := tmod4 n
  have H := Lib.hid h3
  clear h3
  go_enter Tryd.func26, Tryd.ntmps26
  go_wp2
  go_ret
  exact ⟨ret_int H.out, rfl⟩
theorem mod_any (n : Int) (w : World) : Calls Tryd.prog 21 #[.int .i64 n] w fun e w' => e = .returned (.int .i64 (n % 4)) ∧ w = w' := by
  obtain ⟨h1, h2, h3⟩ := tmod4 n
  have H := Lib.hid h3
  clear h3
  go_enter Tryd.func21, Tryd.ntmps21
  go_wp2
  go_ret
  exact ⟨ret_int H.out, rfl⟩
set_option maxHeartbeats 1000000 in
theorem each_rest (r c : Int) (A : Option Addr) (q : List Int) (cap : Nat) (w : World) (hI : Ints w A q) (hl : q.length ≤ 64) (hq : ∀ k, k < q.length → -1000 ≤ q.getD k 0 ∧ q.getD k 0 ≤ 1000) :
    Calls Tryd.prog 35 #[.agg #[.int .i64 r, .int .i64 c, .slice A q.length cap], .func (.func 26) #[] #[]] w (fun e w' => ∃ B cb, e = .returned (.agg #[.int .i64 r, .int .i64 c, .slice B (q.map (· % 4)).length cb]) ∧ OwnI w' w.heap.size B cb (q.map (· % 4)) ∧ Ex w w') := by
  go_enter Tryd.func35, Tryd.ntmps35
  go_wp2_with fail
  have b1 := Box.new w #[.int .i64 r, .int .i64 c, .slice A q.length cap] 29
  have b2 := Box.new (w.alloc (.cells #[.int .i64 r, .int .i64 c, .slice A q.length cap] 29)) #[.int .i64 0, .int .i64 0, .slice none 0 0] 29
  have hE0 := ((Ex.refl w).alloc (.cells #[.int .i64 r, .int .i64 c, .slice A q.length cap] 29)).alloc (.cells #[.int .i64 0, .int .i64 0, .slice none 0 0] 29)
  have b4 := Box.new (((w.alloc (.cells #[.int .i64 r, .int .i64 c, .slice A q.length cap] 29)).alloc (.cells #[.int .i64 0, .int .i64 0, .slice none 0 0] 29)).alloc (.cells #[] 3)) #[.int .i64 r, .int .i64 c, .slice (some ⟨w.heap.size + 1 + 1, 0, none⟩) 0 0] 29
  have hO := ownI_nil ((w.alloc (.cells #[.int .i64 r, .int .i64 c, .slice A q.length cap] 29)).alloc (.cells #[.int .i64 0, .int .i64 0, .slice none 0 0] 29)) w.heap.size hE0.size
  simp only [World.size_alloc] at b2 b4 hO
  go_loopw [17] (fun i wr => ∃ (k : Nat) (B : Option Addr) (cb : Nat) (ys : List Int), k ≤ q.length ∧ i = .int .i64 k ∧ Hid (ys = (q.take k).map (· % 4)) ∧ OwnI wr w.heap.size B cb ys ∧ Ex w wr ∧
      Box wr (w.heap.size + 1) 29 #[.int .i64 0, .int .i64 0, .slice none 0 0] ∧
      Box wr (w.heap.size + 1 + 1 + 1) 29 #[.int .i64 r, .int .i64 c, .slice B ys.length cb]) (fun i _ => q.length - (intOf i).toNat)
  case atStart => exact ⟨0, _, _, [], by omega, rfl, rfl, hO.alloc _, (hE0.alloc _).alloc _, (b2.alloc _).alloc _, b4⟩
  case round =>
    clear hE0 b1 b2 b4 hO
    obtain ⟨k, B, cb, ys, hk, rfl, HY, hown, hEr, b2r, b4r⟩ := hrel
    have HO := Lib.hid hown
    clear hown
    by_cases hlt : k < q.length
    · have hyl : ys.length ≤ 1048576 := by
        rw [HY.out, List.length_map, List.length_take]
        omega
      obtain ⟨b, off, rfl, hc⟩ := hI.at (by omega)
      have hcell := hEr.get (hc _ hlt)
      clear hc
      have hqk := hq k hlt
      have hqe : q.getD k 0 = q[k] := by simp [hlt]
      rw [hqe] at hqk
      have hq1 := hqk.1
      have hq2 := hqk.2
      clear hqk hqe
      have c4 := b4r.cell
      have f4 := b4r.frozen
      have z4 := b4r.lt
      have hlo := hEr.size
      go_wp2_with fail
      go_region_law (first
        | (refine step_appI rfl _ _ wr rfl w.heap.size B cb ys (q[k] % 4) rfl HO.out rfl hyl hlo ?_; intro B' cb' w2 hown2 hk2; have b4s := hk2.box _ _ _ b4r (by decide); have c4s := b4s.cell; have f4s := b4s.frozen; have hE2 := hk2.ex _ hEr (Nat.le_refl _))
        | (go_simp; go_at_call 26; refine (rest_any _ _).mono ?_; rintro e w' ⟨rfl, rfl⟩))
      all_goals
        clear c4 f4 c4s f4s hcell z4
        have b4t := b4s.set_ 2 (.slice B' (ys.length + 1) cb')
        have b2t := (hk2.box _ _ _ b2r (by decide)).far (p := ⟨w.heap.size + 1 + 1 + 1, 2, none⟩) (by simp <;> omega) (.slice B' (ys.length + 1) cb')
        have hE3 := hE2.setCell (p := ⟨w.heap.size + 1 + 1 + 1, 2, none⟩) (by simp <;> omega) (.slice B' (ys.length + 1) cb')
        have hO2 := Own.setCell (p := ⟨w.heap.size + 1 + 1 + 1, 2, none⟩) hown2 (fun g hg e => by subst e; exact Own.ne hown2 b4s (by decide) hg.symm) (.slice B' (ys.length + 1) cb')
        clear hk2 b4s hE2 hown2 b2r b4r hEr
        go_wp2
        go_roundw
        case rel =>
          refine ⟨k + 1, B', cb', ys ++ [q[k] % 4], by omega, by go_num, ?_, hO2, hE3, b2t, ?_⟩
          · show _ = _
            rw [map_take_succ _ _ _ hlt, HY.out]
            simp [hlt]
          · simpa using b4t
        case measure => simp [intOf]; omega
    · have c2 := b2r.cell
      have f2 := b2r.frozen
      have c4 := b4r.cell
      go_wp2
      refine bodyPost_ret (v := .agg #[.int .i64 r, .int .i64 c, .slice B ys.length cb]) (by simp [results, Tryd.results35, go_sem, c2]) rfl ?_
      have hy := HY.out
      rw [List.take_of_length_le (by omega)] at hy
      subst hy
      have hne : ∀ g, (Value.slice B (q.map (· % 4)).length cb).ownBlock = some g → g ≠ w.heap.size + 1 := fun g hg e => by
        subst e
        exact Own.ne HO.out b2r (by decide) hg.symm
      exact ⟨B, cb, rfl, ((Own.setCell HO.out hne _).setCell hne _).setCell hne _, ((hEr.setCell (by simp) _).setCell (by simp) _).setCell (by simp) _⟩

set_option maxHeartbeats 1000000 in
theorem iGlassWrap (r c : Int) (A : Option Addr) (q : List Int) (cap : Nat) (w : World) (hI : Ints w A q) (hl : q.length ≤ 1048576) :
    Calls Tryd.prog 16 #[.agg #[.int .i64 r, .int .i64 c, .slice A q.length cap]] w (GotGB w (gwrap r c q)) := by
  rcases hv : gvalid r c q with _ | _
  · go_enter Tryd.func16, Tryd.ntmps16
    go_wp2_with (go_at_call 24; refine (iGlassValid _ _ _ _ _ _ ((hI.alloc _).alloc _) hl).mono ?_; rintro e w1 ⟨rfl, hx⟩; have b2 := (Box.new _ _ _).ex hx; simp only [World.size_alloc] at b2; have c2 := b2.cell; have f2 := b2.frozen)
    refine bodyPost_ret (v := .tuple #[.agg #[.int .i64 0, .int .i64 0, .slice none 0 0], .bool false]) (by simp [results, Tryd.results16, go_sem, *]) rfl ?_
    have hg : gwrap r c q = .zero := by simp [gwrap, hv]
    rw [hg]
    refine ⟨none, 0, rfl, ownI_none _ _, ?_⟩
    have hE := (((Ex.refl w).alloc _).alloc _).trans hx
    exact ((hE.setCell (by simp) _).setCell (by simp) _).setCell (by simp) _
  · have hl64 := (gvalid_len hv).2
    have hg : gwrap r c q = ⟨true, r, c, q.map (· % 4)⟩ := by simp [gwrap, hv]
    have hq := gvalid_cell hv
    have HG := Lib.hid hg
    have HQ := Lib.hid hq
    clear hg hq
    go_enter Tryd.func16, Tryd.ntmps16
    go_wp2_with fail
    refine (iGlassValid _ _ _ _ _ _ ((hI.alloc _).alloc _) hl).mono ?_
    rintro e w1 ⟨rfl, hx⟩
    have hE := (((Ex.refl w).alloc _).alloc _).trans hx
    have b2 := (Box.new _ _ _).ex hx
    have b1 := ((Box.new _ _ _).alloc _).ex hx
    simp only [World.size_alloc] at b2
    have c1 := b1.cell
    clear hx
    go_wp2_with fail
    refine (each_rest r c A q cap w1 (hI.ex hE) hl64 HQ.out).mono ?_
    rintro e w2 ⟨B, cb, rfl, hown, hx⟩
    replace hE := hE.trans hx
    have b2s := b2.ex hx
    have c2s := b2s.cell
    have f2s := b2s.frozen
    have HO := Lib.hid hown
    clear hown c1 hx
    go_wp2
    refine bodyPost_ret (v := .tuple #[.agg #[.int .i64 r, .int .i64 c, .slice B (q.map (· % 4)).length cb], .bool true]) (by simp [results, Tryd.results16, go_sem, *]) rfl ?_
    rw [HG.out]
    have HO2 := Own.wide HO.out (lo' := w.heap.size) (by have := b2.lt; omega)
    have hne : ∀ g, (Value.slice B (q.map (· % 4)).length cb).ownBlock = some g → g ≠ w.heap.size + 1 := fun g hg e => by
      subst e
      exact Own.ne HO2 b2s (by decide) hg.symm
    exact ⟨B, cb, rfl, ((Own.setCell HO2 hne _).setCell hne _).setCell hne _, ((hE.setCell (by simp) _).setCell (by simp) _).setCell (by simp) _⟩
end Go.Proofs.YtmmjkchjgeklnaaDoor
