/-
  Walks: GlassWrap and GlassMore, the program's and the reference's.
-/
import Derived.Test.YtploaldfkfjibaaGlsT
namespace Go.Proofs.Ytploaldfkfjibaa
open Go.RowKit

theorem rest_any (n : Int) (w : World) : Calls Try.prog 65 #[.int .i64 n] w fun e w' => e = .returned (.int .i64 (n % 4)) ∧ w = w' := by
  obtain ⟨h1, h2, h3⟩ := tmod4 n
  have H := Lib.hid h3
  clear h3
  go_enter Try.func65, Try.ntmps65
  go_wp2
  go_ret
  exact ⟨ret_int H.out, rfl⟩
theorem mod_any (n : Int) (w : World) : Calls Try.prog 66 #[.int .i64 n] w fun e w' => e = .returned (.int .i64 (n % 4)) ∧ w = w' := by
  obtain ⟨h1, h2, h3⟩ := tmod4 n
  have H := Lib.hid h3
  clear h3
  go_enter Try.func66, Try.ntmps66
  go_wp2
  go_ret
  exact ⟨ret_int H.out, rfl⟩
theorem more1_any (n m : Int) (bm : Nat) (w : World) (h1 : -1000 ≤ n) (h2 : n ≤ 1000) (h3 : -1000 ≤ m) (h4 : m ≤ 1000) (hb : Box w bm 3 #[.int .i64 m]) :
    Calls Try.prog 61 #[.int .i64 n, .pointer (some ⟨bm, 0, none⟩)] w fun e w' => e = .returned (.int .i64 (n + m)) ∧ w = w' := by
  have c := hb.cell
  go_enter Try.func61, Try.ntmps61
  go_wp2
  go_ret
  exact ⟨rfl, rfl⟩

set_option maxHeartbeats 1000000 in
theorem each_rest (r c : Int) (A : Option Addr) (q : List Int) (cap : Nat) (w : World) (hI : Ints w A q) (hl : q.length ≤ 64) (hq : ∀ k, k < q.length → -1000 ≤ q.getD k 0 ∧ q.getD k 0 ≤ 1000) :
    Calls Try.prog 60 #[.agg #[.int .i64 r, .int .i64 c, .slice A q.length cap], .func (.func 65) #[] #[]] w (fun e w' => ∃ B cb, e = .returned (.agg #[.int .i64 r, .int .i64 c, .slice B (q.map (· % 4)).length cb]) ∧ OwnI w' w.heap.size B cb (q.map (· % 4)) ∧ Ex w w') := by
  go_enter Try.func60, Try.ntmps60
  go_wp2_with fail
  have b1 := Box.new w #[.int .i64 r, .int .i64 c, .slice A q.length cap] 27
  have b2 := Box.new (w.alloc (.cells #[.int .i64 r, .int .i64 c, .slice A q.length cap] 27)) #[.int .i64 0, .int .i64 0, .slice none 0 0] 27
  have hE0 := ((Ex.refl w).alloc (.cells #[.int .i64 r, .int .i64 c, .slice A q.length cap] 27)).alloc (.cells #[.int .i64 0, .int .i64 0, .slice none 0 0] 27)
  have b4 := Box.new (((w.alloc (.cells #[.int .i64 r, .int .i64 c, .slice A q.length cap] 27)).alloc (.cells #[.int .i64 0, .int .i64 0, .slice none 0 0] 27)).alloc (.cells #[] 3)) #[.int .i64 r, .int .i64 c, .slice (some ⟨w.heap.size + 1 + 1, 0, none⟩) 0 0] 27
  have hO := ownI_nil ((w.alloc (.cells #[.int .i64 r, .int .i64 c, .slice A q.length cap] 27)).alloc (.cells #[.int .i64 0, .int .i64 0, .slice none 0 0] 27)) w.heap.size hE0.size
  simp only [World.size_alloc] at b2 b4 hO
  go_loopw [17] (fun i wr => ∃ (k : Nat) (B : Option Addr) (cb : Nat) (ys : List Int), k ≤ q.length ∧ i = .int .i64 k ∧ Hid (ys = (q.take k).map (· % 4)) ∧ OwnI wr w.heap.size B cb ys ∧ Ex w wr ∧
      Box wr (w.heap.size + 1) 27 #[.int .i64 0, .int .i64 0, .slice none 0 0] ∧
      Box wr (w.heap.size + 1 + 1 + 1) 27 #[.int .i64 r, .int .i64 c, .slice B ys.length cb]) (fun i _ => q.length - (intOf i).toNat)
  case atStart => exact ⟨0, _, _, [], by omega, rfl, rfl, hO.alloc _, (hE0.alloc _).alloc _, (b2.alloc _).alloc _, b4⟩
  case round =>
    clear hE0 b1 b2 b4 hO
    obtain ⟨k, B, cb, ys, hk, rfl, HY, hown, hEr, b2r, b4r⟩ := hrel
    have HO := Lib.hid hown
    clear hown
    by_cases hlt : k < q.length
    · have hyl : ys.length ≤ 1048576 := by
        rw [HY.out, List.length_map, List.length_take]
        omega
      obtain ⟨b, off, rfl, hc⟩ := hI.at (by omega)
      have hcell := hEr.get (hc _ hlt)
      clear hc
      have hqk := hq k hlt
      have hqe : q.getD k 0 = q[k] := by simp [hlt]
      rw [hqe] at hqk
      have hq1 := hqk.1
      have hq2 := hqk.2
      clear hqk hqe
      have c4 := b4r.cell
      have f4 := b4r.frozen
      have z4 := b4r.lt
      have hlo := hEr.size
      go_wp2_with fail
      go_region_law (first
        | (refine step_appI rfl _ _ wr rfl w.heap.size B cb ys (q[k] % 4) rfl HO.out rfl hyl hlo ?_; intro B' cb' w2 hown2 hk2; have b4s := hk2.box _ _ _ b4r (by decide); have c4s := b4s.cell; have f4s := b4s.frozen; have hE2 := hk2.ex _ hEr (Nat.le_refl _))
        | (go_simp; go_at_call 65; refine (rest_any _ _).mono ?_; rintro e w' ⟨rfl, rfl⟩))
      all_goals
        clear c4 f4 c4s f4s hcell z4
        have b4t := b4s.set_ 2 (.slice B' (ys.length + 1) cb')
        have b2t := (hk2.box _ _ _ b2r (by decide)).far (p := ⟨w.heap.size + 1 + 1 + 1, 2, none⟩) (by simp <;> omega) (.slice B' (ys.length + 1) cb')
        have hE3 := hE2.setCell (p := ⟨w.heap.size + 1 + 1 + 1, 2, none⟩) (by simp <;> omega) (.slice B' (ys.length + 1) cb')
        have hO2 := Own.setCell (p := ⟨w.heap.size + 1 + 1 + 1, 2, none⟩) hown2 (fun g hg e => by subst e; exact Own.ne hown2 b4s (by decide) hg.symm) (.slice B' (ys.length + 1) cb')
        clear hk2 b4s hE2 hown2 b2r b4r hEr
        go_wp2
        go_roundw
        case rel =>
          refine ⟨k + 1, B', cb', ys ++ [q[k] % 4], by omega, by go_num, ?_, hO2, hE3, b2t, ?_⟩
          · show _ = _
            rw [map_take_succ _ _ _ hlt, HY.out]
            simp [hlt]
          · simpa using b4t
        case measure => simp [intOf]; omega
    · have c2 := b2r.cell
      have f2 := b2r.frozen
      have c4 := b4r.cell
      go_wp2
      refine bodyPost_ret (v := .agg #[.int .i64 r, .int .i64 c, .slice B ys.length cb]) (by simp [results, Try.results60, go_sem, c2]) rfl ?_
      have hy := HY.out
      rw [List.take_of_length_le (by omega)] at hy
      subst hy
      have hne : ∀ g, (Value.slice B (q.map (· % 4)).length cb).ownBlock = some g → g ≠ w.heap.size + 1 := fun g hg e => by
        subst e
        exact Own.ne HO.out b2r (by decide) hg.symm
      exact ⟨B, cb, rfl, ((Own.setCell HO.out hne _).setCell hne _).setCell hne _, ((hEr.setCell (by simp) _).setCell (by simp) _).setCell (by simp) _⟩

set_option maxHeartbeats 1000000 in
theorem each_more (r c : Int) (A : Option Addr) (q : List Int) (cap : Nat) (m : Int) (bm : Nat) (w : World) (hI : Ints w A q) (hm1 : -1000 ≤ m) (hm2 : m ≤ 1000) (hbm : Box w bm 3 #[.int .i64 m]) (hl : q.length ≤ 64) (hq : ∀ k, k < q.length → -1000 ≤ q.getD k 0 ∧ q.getD k 0 ≤ 1000) :
    Calls Try.prog 60 #[.agg #[.int .i64 r, .int .i64 c, .slice A q.length cap], .func (.func 61) #[] #[.pointer (some ⟨bm, 0, none⟩)]] w (fun e w' => ∃ B cb, e = .returned (.agg #[.int .i64 r, .int .i64 c, .slice B (q.map (· + m)).length cb]) ∧ OwnI w' w.heap.size B cb (q.map (· + m)) ∧ Ex w w') := by
  go_enter Try.func60, Try.ntmps60
  go_wp2_with fail
  have b1 := Box.new w #[.int .i64 r, .int .i64 c, .slice A q.length cap] 27
  have b2 := Box.new (w.alloc (.cells #[.int .i64 r, .int .i64 c, .slice A q.length cap] 27)) #[.int .i64 0, .int .i64 0, .slice none 0 0] 27
  have hE0 := ((Ex.refl w).alloc (.cells #[.int .i64 r, .int .i64 c, .slice A q.length cap] 27)).alloc (.cells #[.int .i64 0, .int .i64 0, .slice none 0 0] 27)
  have b4 := Box.new (((w.alloc (.cells #[.int .i64 r, .int .i64 c, .slice A q.length cap] 27)).alloc (.cells #[.int .i64 0, .int .i64 0, .slice none 0 0] 27)).alloc (.cells #[] 3)) #[.int .i64 r, .int .i64 c, .slice (some ⟨w.heap.size + 1 + 1, 0, none⟩) 0 0] 27
  have hO := ownI_nil ((w.alloc (.cells #[.int .i64 r, .int .i64 c, .slice A q.length cap] 27)).alloc (.cells #[.int .i64 0, .int .i64 0, .slice none 0 0] 27)) w.heap.size hE0.size
  simp only [World.size_alloc] at b2 b4 hO
  go_loopw [17] (fun i wr => ∃ (k : Nat) (B : Option Addr) (cb : Nat) (ys : List Int), k ≤ q.length ∧ i = .int .i64 k ∧ Hid (ys = (q.take k).map (· + m)) ∧ OwnI wr w.heap.size B cb ys ∧ Ex w wr ∧
      Box wr (w.heap.size + 1) 27 #[.int .i64 0, .int .i64 0, .slice none 0 0] ∧
      Box wr (w.heap.size + 1 + 1 + 1) 27 #[.int .i64 r, .int .i64 c, .slice B ys.length cb]) (fun i _ => q.length - (intOf i).toNat)
  case atStart => exact ⟨0, _, _, [], by omega, rfl, rfl, hO.alloc _, (hE0.alloc _).alloc _, (b2.alloc _).alloc _, b4⟩
  case round =>
    clear hE0 b1 b2 b4 hO
    obtain ⟨k, B, cb, ys, hk, rfl, HY, hown, hEr, b2r, b4r⟩ := hrel
    have HO := Lib.hid hown
    clear hown
    by_cases hlt : k < q.length
    · have hyl : ys.length ≤ 1048576 := by
        rw [HY.out, List.length_map, List.length_take]
        omega
      obtain ⟨b, off, rfl, hc⟩ := hI.at (by omega)
      have hcell := hEr.get (hc _ hlt)
      clear hc
      have hqk := hq k hlt
      have hqe : q.getD k 0 = q[k] := by simp [hlt]
      rw [hqe] at hqk
      have hq1 := hqk.1
      have hq2 := hqk.2
      clear hqk hqe
      have c4 := b4r.cell
      have f4 := b4r.frozen
      have z4 := b4r.lt
      have hlo := hEr.size
      have cm := (hbm.ex hEr)
      go_wp2_with fail
      go_region_law (first
        | (refine step_appI rfl _ _ wr rfl w.heap.size B cb ys (q[k] + m) rfl HO.out rfl hyl hlo ?_; intro B' cb' w2 hown2 hk2; have b4s := hk2.box _ _ _ b4r (by decide); have c4s := b4s.cell; have f4s := b4s.frozen; have hE2 := hk2.ex _ hEr (Nat.le_refl _))
        | (go_simp; go_at_call 61; refine (more1_any _ _ _ wr.drew hq1 hq2 hm1 hm2 cm).mono ?_; rintro e w' ⟨rfl, rfl⟩))
      all_goals
        clear c4 f4 c4s f4s hcell z4 cm
        have b4t := b4s.set_ 2 (.slice B' (ys.length + 1) cb')
        have b2t := (hk2.box _ _ _ b2r (by decide)).far (p := ⟨w.heap.size + 1 + 1 + 1, 2, none⟩) (by simp <;> omega) (.slice B' (ys.length + 1) cb')
        have hE3 := hE2.setCell (p := ⟨w.heap.size + 1 + 1 + 1, 2, none⟩) (by simp <;> omega) (.slice B' (ys.length + 1) cb')
        have hO2 := Own.setCell (p := ⟨w.heap.size + 1 + 1 + 1, 2, none⟩) hown2 (fun g hg e => by subst e; exact Own.ne hown2 b4s (by decide) hg.symm) (.slice B' (ys.length + 1) cb')
        clear hk2 b4s hE2 hown2 b2r b4r hEr
        go_wp2
        go_roundw
        case rel =>
          refine ⟨k + 1, B', cb', ys ++ [q[k] + m], by omega, by go_num, ?_, hO2, hE3, b2t, ?_⟩
          · show _ = _
            rw [map_take_succ _ _ _ hlt, HY.out]
            simp [hlt]
          · simpa using b4t
        case measure => simp [intOf]; omega
    · have c2 := b2r.cell
      have f2 := b2r.frozen
      have c4 := b4r.cell
      go_wp2
      refine bodyPost_ret (v := .agg #[.int .i64 r, .int .i64 c, .slice B ys.length cb]) (by simp [results, Try.results60, go_sem, c2]) rfl ?_
      have hy := HY.out
      rw [List.take_of_length_le (by omega)] at hy
      subst hy
      have hne : ∀ g, (Value.slice B (q.map (· + m)).length cb).ownBlock = some g → g ≠ w.heap.size + 1 := fun g hg e => by
        subst e
        exact Own.ne HO.out b2r (by decide) hg.symm
      exact ⟨B, cb, rfl, ((Own.setCell HO.out hne _).setCell hne _).setCell hne _, ((hEr.setCell (by simp) _).setCell (by simp) _).setCell (by simp) _⟩

/-- l13With: a struct is put together. -/
theorem with_any (r c : Int) (A B : Option Addr) (n cap m cb : Nat) (w : World) :
    Calls Try.prog 64 #[.agg #[.int .i64 r, .int .i64 c, .slice A n cap], .slice B m cb] w fun e w' => e = .returned (.agg #[.int .i64 r, .int .i64 c, .slice B m cb]) ∧ Ex w w' := by
  go_enter Try.func64, Try.ntmps64
  go_wp2
  refine bodyPost_ret (v := .agg #[.int .i64 r, .int .i64 c, .slice B m cb]) (by simp [results, Try.results64, go_sem]) rfl ?_
  exact ⟨rfl, ((Ex.refl _).alloc _).alloc _⟩

set_option maxHeartbeats 1000000 in
theorem sGlassWrap (r c : Int) (A : Option Addr) (q : List Int) (cap : Nat) (w : World) (hI : Ints w A q) (hl : q.length ≤ 1048576) :
    Calls Try.prog 40 #[.agg #[.int .i64 r, .int .i64 c, .slice A q.length cap]] w (GotGB w (gwrap r c q)) := by
  rcases hv : gvalid r c q with _ | _
  · go_enter Try.func40, Try.ntmps40
    go_wp2_with (go_at_call 21; refine (sGlassValid _ _ _ _ _ _ ((hI.alloc _).alloc _) hl).mono ?_; rintro e w1 ⟨rfl, hx⟩; have b2 := (Box.new _ _ _).ex hx; simp only [World.size_alloc] at b2; have c2 := b2.cell; have f2 := b2.frozen)
    refine bodyPost_ret (v := .tuple #[.agg #[.int .i64 0, .int .i64 0, .slice none 0 0], .bool false]) (by simp [results, Try.results40, go_sem, *]) rfl ?_
    have hg : gwrap r c q = .zero := by simp [gwrap, hv]
    rw [hg]
    refine ⟨none, 0, rfl, ownI_none _ _, ?_⟩
    have hE := (((Ex.refl w).alloc _).alloc _).trans hx
    exact ((hE.setCell (by simp) _).setCell (by simp) _).setCell (by simp) _
  · have hl64 := (gvalid_len hv).2
    have hg : gwrap r c q = ⟨true, r, c, q.map (· % 4)⟩ := by simp [gwrap, hv]
    have HG := Lib.hid hg
    clear hg
    go_enter Try.func40, Try.ntmps40
    go_wp2_with (go_at_call 21; refine (sGlassValid _ _ _ _ _ _ ((hI.alloc _).alloc _) hl).mono ?_; rintro e w1 ⟨rfl, hx⟩; have hE := (((Ex.refl w).alloc _).alloc _).trans hx; have b2 := (Box.new _ _ _).ex hx; have b1 := ((Box.new _ _ _).alloc _).ex hx;  simp only [World.size_alloc] at b2; have c2 := b2.cell; have c1 := b1.cell)
    clear hv hx c1 c2
    go_loopw [4, 5] (fun v i wr => ∃ (k : Nat) (B : Option Addr) (cb : Nat) (ys : List Int), k ≤ q.length ∧ i = .int .i64 k ∧ v = .slice B ys.length cb ∧ Hid (ys = (q.take k).map (· % 4)) ∧ OwnI wr w.heap.size B cb ys ∧ Ex w wr ∧
        Box wr w.heap.size 27 #[.int .i64 r, .int .i64 c, .slice A q.length cap] ∧ Box wr (w.heap.size + 1) 27 #[.int .i64 0, .int .i64 0, .slice none 0 0]) (fun _ i _ => q.length - (intOf i).toNat)
    case atStart => exact ⟨0, _, _, [], by omega, rfl, rfl, rfl, (ownI_nil w1 w.heap.size hE.size), hE.alloc _, b1.alloc _, b2.alloc _⟩
    case round =>
      obtain ⟨k, B, cb, ys, hk, rfl, rfl, HY, hown, hEr, b1r, b2r⟩ := hrel
      clear hE b1 b2
      have c1 := b1r.cell
      have HO := Lib.hid hown
      clear hown
      by_cases hlt : k < q.length
      · have hyl : ys.length ≤ 1048576 := by
          rw [HY.out, List.length_map, List.length_take]
          omega
        obtain ⟨b, off, rfl, hc⟩ := (hI.ex hEr).at (by omega)
        have hcell := hc _ hlt
        clear hc
        go_wp2_with (first
          | (at_builtin; refine wpList_appI rfl _ _ wr rfl w.heap.size B cb ys (q[k] % 4) rfl HO.out rfl hyl hEr.size ?_)
          | (go_at_call 66; refine (mod_any _ _).mono ?_; rintro e w' ⟨rfl, rfl⟩))
        intro B' cb' w2 hown2 hk2
        replace hEr := hk2.ex _ hEr (Nat.le_refl _)
        replace b1r := hk2.box _ _ _ b1r (by decide)
        replace b2r := hk2.box _ _ _ b2r (by decide)
        clear hk2 c1 hcell HO
        go_wp2
        go_roundw
        case rel =>
          refine ⟨k + 1, B', cb', ys ++ [q[k] % 4], by omega, by go_num, by simp, ?_, hown2, hEr, b1r, b2r⟩
          show _ = _
          rw [map_take_succ _ _ _ hlt, HY.out]
          simp [hlt]
        case measure => simp [intOf]; omega
      · have c2 := b2r.cell
        have f2 := b2r.frozen
        go_wp2_with (go_at_call 64; refine (with_any _ _ _ _ _ _ _ _ _).mono ?_; rintro e w2 ⟨rfl, hx⟩; have b2s := b2r.ex hx; have c2s := b2s.cell; have f2s := b2s.frozen)
        refine bodyPost_ret (v := .tuple #[.agg #[.int .i64 r, .int .i64 c, .slice B ys.length cb], .bool true]) (by simp [results, Try.results40, go_sem, *]) rfl ?_
        have hy := HY.out
        rw [List.take_of_length_le (by omega)] at hy
        subst hy
        rw [HG.out]
        have hE2 := hEr.trans hx
        have HO2 := Own.ex HO.out hx
        have hne : ∀ g, (Value.slice B (q.map (· % 4)).length cb).ownBlock = some g → g ≠ w.heap.size + 1 := fun g hg e => by
          subst e
          exact Own.ne HO2 b2s (by decide) hg.symm
        exact ⟨B, cb, rfl, ((Own.setCell HO2 hne _).setCell hne _).setCell hne _, ((hE2.setCell (by simp) _).setCell (by simp) _).setCell (by simp) _⟩

set_option maxHeartbeats 1000000 in
theorem iGlassWrap (r c : Int) (A : Option Addr) (q : List Int) (cap : Nat) (w : World) (hI : Ints w A q) (hl : q.length ≤ 1048576) :
    Calls Try.prog 39 #[.agg #[.int .i64 r, .int .i64 c, .slice A q.length cap]] w (GotGB w (gwrap r c q)) := by
  rcases hv : gvalid r c q with _ | _
  · go_enter Try.func39, Try.ntmps39
    go_wp2_with (go_at_call 23; refine (iGlassValid _ _ _ _ _ _ ((hI.alloc _).alloc _) hl).mono ?_; rintro e w1 ⟨rfl, hx⟩; have b2 := (Box.new _ _ _).ex hx; simp only [World.size_alloc] at b2; have c2 := b2.cell; have f2 := b2.frozen)
    refine bodyPost_ret (v := .tuple #[.agg #[.int .i64 0, .int .i64 0, .slice none 0 0], .bool false]) (by simp [results, Try.results39, go_sem, *]) rfl ?_
    have hg : gwrap r c q = .zero := by simp [gwrap, hv]
    rw [hg]
    refine ⟨none, 0, rfl, ownI_none _ _, ?_⟩
    have hE := (((Ex.refl w).alloc _).alloc _).trans hx
    exact ((hE.setCell (by simp) _).setCell (by simp) _).setCell (by simp) _
  · have hl64 := (gvalid_len hv).2
    have hg : gwrap r c q = ⟨true, r, c, q.map (· % 4)⟩ := by simp [gwrap, hv]
    have hq := gvalid_cell hv
    have HG := Lib.hid hg
    have HQ := Lib.hid hq
    clear hg hq
    go_enter Try.func39, Try.ntmps39
    go_wp2_with fail
    refine (iGlassValid _ _ _ _ _ _ ((hI.alloc _).alloc _) hl).mono ?_
    rintro e w1 ⟨rfl, hx⟩
    have hE := (((Ex.refl w).alloc _).alloc _).trans hx
    have b2 := (Box.new _ _ _).ex hx
    have b1 := ((Box.new _ _ _).alloc _).ex hx
    simp only [World.size_alloc] at b2
    have c1 := b1.cell
    clear hx
    go_wp2_with fail
    refine (each_rest r c A q cap w1 (hI.ex hE) hl64 HQ.out).mono ?_
    rintro e w2 ⟨B, cb, rfl, hown, hx⟩
    replace hE := hE.trans hx
    have b2s := b2.ex hx
    have c2s := b2s.cell
    have f2s := b2s.frozen
    have HO := Lib.hid hown
    clear hown c1 hx
    go_wp2
    refine bodyPost_ret (v := .tuple #[.agg #[.int .i64 r, .int .i64 c, .slice B (q.map (· % 4)).length cb], .bool true]) (by simp [results, Try.results39, go_sem, *]) rfl ?_
    rw [HG.out]
    have HO2 := Own.wide HO.out (lo' := w.heap.size) (by have := b2.lt; omega)
    have hne : ∀ g, (Value.slice B (q.map (· % 4)).length cb).ownBlock = some g → g ≠ w.heap.size + 1 := fun g hg e => by
      subst e
      exact Own.ne HO2 b2s (by decide) hg.symm
    exact ⟨B, cb, rfl, ((Own.setCell HO2 hne _).setCell hne _).setCell hne _, ((hE.setCell (by simp) _).setCell (by simp) _).setCell (by simp) _⟩
end Go.Proofs.Ytploaldfkfjibaa
