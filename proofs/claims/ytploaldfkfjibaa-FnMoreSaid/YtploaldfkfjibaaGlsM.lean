/-
  Walks: GlassMore, the program's and the reference's.
-/
import Derived.Test.YtploaldfkfjibaaGlsW
namespace Go.Proofs.Ytploaldfkfjibaa
open Go.RowKit

theorem each_more_as (r c : Int) (A : Option Addr) (q ys : List Int) (cap : Nat) (m : Int) (bm : Nat) (w : World) (hys : Hid (ys = q.map (· + m))) (hI : Ints w A q) (hm1 : -1000 ≤ m) (hm2 : m ≤ 1000) (hbm : Box w bm 3 #[.int .i64 m]) (hl : q.length ≤ 64) (hq : ∀ k, k < q.length → -1000 ≤ q.getD k 0 ∧ q.getD k 0 ≤ 1000) :
    Calls Try.prog 60 #[.agg #[.int .i64 r, .int .i64 c, .slice A q.length cap], .func (.func 61) #[] #[.pointer (some ⟨bm, 0, none⟩)]] w
      (fun e w' => ∃ B cb, e = .returned (.agg #[.int .i64 r, .int .i64 c, .slice B ys.length cb]) ∧ OwnI w' w.heap.size B cb ys ∧ Ex w w') := by
  have h := hys.out
  subst h
  exact each_more r c A q cap m bm w hI hm1 hm2 hbm hl hq

set_option maxHeartbeats 1000000 in
theorem iGlassMore (r c : Int) (A : Option Addr) (q : List Int) (cap : Nat) (n : Int) (w : World) (hI : Ints w A q) (hl : q.length ≤ 1048576) :
    Calls Try.prog 30 #[.agg #[.int .i64 r, .int .i64 c, .slice A q.length cap], .int .i64 n] w (GotGB w (gmore r c q n)) := by
  rcases hv : gvalid r c q with _ | _
  · go_enter Try.func30, Try.ntmps30
    go_wp2_with (go_at_call 23; refine (iGlassValid _ _ _ _ _ _ (((hI.alloc _).alloc _).alloc _) hl).mono ?_; rintro e w1 ⟨rfl, hx⟩; have b2 := (Box.new _ _ _).ex hx; simp only [World.size_alloc] at b2; have c2 := b2.cell; have f2 := b2.frozen)
    refine bodyPost_ret (v := .tuple #[.agg #[.int .i64 0, .int .i64 0, .slice none 0 0], .bool false]) (by simp [results, Try.results30, go_sem, *]) rfl ?_
    have hg : gmore r c q n = .zero := by simp [gmore, hv]
    rw [hg]
    refine ⟨none, 0, rfl, ownI_none _ _, ?_⟩
    have hE := ((((Ex.refl w).alloc _).alloc _).alloc _).trans hx
    exact ((hE.setCell (by simp; omega) _).setCell (by simp; omega) _).setCell (by simp; omega) _
  rcases hn : inB n (-1000) 1000 with _ | _
  · go_enter Try.func30, Try.ntmps30
    go_wp2_with (first
      | (go_at_call 23; refine (iGlassValid _ _ _ _ _ _ (((hI.alloc _).alloc _).alloc _) hl).mono ?_; rintro e w1 ⟨rfl, hx⟩; have b2 := (Box.new _ _ _).ex hx; have b1 := ((Box.new _ _ _).alloc _).ex hx; simp only [World.size_alloc] at b2 b1; have c2 := b2.cell; have f2 := b2.frozen; have c1 := b1.cell)
      | (go_at_call 57; refine (within_any _ _ _ _).mono ?_; rintro e w' ⟨rfl, rfl⟩))
    refine bodyPost_ret (v := .tuple #[.agg #[.int .i64 0, .int .i64 0, .slice none 0 0], .bool false]) (by simp [results, Try.results30, go_sem, *]) rfl ?_
    have hg : gmore r c q n = .zero := by simp [gmore, hv, hn]
    rw [hg]
    refine ⟨none, 0, rfl, ownI_none _ _, ?_⟩
    have hE := ((((Ex.refl w).alloc _).alloc _).alloc _).trans hx
    exact ((hE.setCell (by simp; omega) _).setCell (by simp; omega) _).setCell (by simp; omega) _
  have hl64 := (gvalid_len hv).2
  have hq := gvalid_cell hv
  have hnb := inB_out hn
  have HQ := Lib.hid hq
  clear hq
  obtain ⟨ys, hys⟩ : ∃ ys, ys = q.map (· + n) := ⟨_, rfl⟩
  have hyl : ys.length ≤ 1048576 := by rw [hys, List.length_map]; exact hl
  have hgm : ∀ b, gvalid r c ys = b → gmore r c q n = if b then ⟨true, r, c, ys⟩ else .zero := fun b hb => by rw [hys] at hb; simp [gmore, hv, hn, hb, hys]
  have HY := Lib.hid hys
  have HGM := Lib.hid hgm
  clear hys hgm
  rcases hv2 : gvalid r c ys with _ | _
  · have hg : gmore r c q n = .zero := HGM.out false hv2
    have HG := Lib.hid hg
    clear hg
    go_enter Try.func30, Try.ntmps30
    go_wp2_with fail
    refine (iGlassValid _ _ _ _ _ _ (((hI.alloc _).alloc _).alloc _) hl).mono ?_
    rintro e w1 ⟨rfl, hx⟩
    have hE := ((((Ex.refl w).alloc _).alloc _).alloc _).trans hx
    have b3 := (Box.new _ _ _).ex hx
    have b2 := ((Box.new _ _ _).alloc _).ex hx
    have b1 := (((Box.new _ _ _).alloc _).alloc _).ex hx
    simp only [World.size_alloc] at b2 b3
    have c1 := b1.cell
    have c2 := b2.cell
    clear hx
    go_wp2_with (go_at_call 57; refine (within_any _ _ _ _).mono ?_; rintro e w' ⟨rfl, rfl⟩)
    go_wp2_with fail
    refine (each_more_as r c A q ys cap n (w.heap.size + 1) w1 HY (hI.ex hE) hnb.1 hnb.2 b2 hl64 HQ.out).mono ?_
    rintro e w2 ⟨B, cb, rfl, hown, hx⟩
    replace hE := hE.trans hx
    replace b3 := b3.ex hx
    have HO := Lib.hid hown
    clear hown c1 c2 hx
    go_wp2_with fail
    refine (iGlassValid r c B ys cb _ ((OwnI.ints HO.out).alloc _) hyl).mono ?_
    rintro e w3 ⟨rfl, hx⟩
    replace b3 := (b3.alloc _).ex hx
    have c3 := b3.cell
    have f3 := b3.frozen
    replace hE := (hE.alloc _).trans hx
    clear hx
    go_wp2
    refine bodyPost_ret (v := .tuple #[.agg #[.int .i64 0, .int .i64 0, .slice none 0 0], .bool false]) (by simp [results, Try.results30, go_sem, *]) rfl ?_
    rw [HG.out]
    exact ⟨none, 0, rfl, ownI_none _ _, ((hE.setCell (by simp; omega) _).setCell (by simp; omega) _).setCell (by simp; omega) _⟩
  · have hg : gmore r c q n = ⟨true, r, c, ys⟩ := HGM.out true hv2
    have HG := Lib.hid hg
    clear hg
    go_enter Try.func30, Try.ntmps30
    go_wp2_with fail
    refine (iGlassValid _ _ _ _ _ _ (((hI.alloc _).alloc _).alloc _) hl).mono ?_
    rintro e w1 ⟨rfl, hx⟩
    have hE := ((((Ex.refl w).alloc _).alloc _).alloc _).trans hx
    have b3 := (Box.new _ _ _).ex hx
    have b2 := ((Box.new _ _ _).alloc _).ex hx
    have b1 := (((Box.new _ _ _).alloc _).alloc _).ex hx
    simp only [World.size_alloc] at b2 b3
    have c1 := b1.cell
    have c2 := b2.cell
    clear hx
    go_wp2_with (go_at_call 57; refine (within_any _ _ _ _).mono ?_; rintro e w' ⟨rfl, rfl⟩)
    go_wp2_with fail
    refine (each_more_as r c A q ys cap n (w.heap.size + 1) w1 HY (hI.ex hE) hnb.1 hnb.2 b2 hl64 HQ.out).mono ?_
    rintro e w2 ⟨B, cb, rfl, hown, hx⟩
    replace hE := hE.trans hx
    have hz1 := b3.lt
    replace b3 := b3.ex hx
    have HO := Lib.hid hown
    clear hown c1 c2 hx
    go_wp2_with fail
    refine (iGlassValid r c B ys cb _ ((OwnI.ints HO.out).alloc _) hyl).mono ?_
    rintro e w3 ⟨rfl, hx⟩
    have b4 := (Box.new _ _ _).ex hx
    replace b3 := (b3.alloc _).ex hx
    have HO3 := Lib.hid ((HO.out.alloc _).ex hx)
    have c3 := b3.cell
    have f3 := b3.frozen
    have c4 := b4.cell
    replace hE := (hE.alloc _).trans hx
    clear hx
    go_wp2
    refine bodyPost_ret (v := .tuple #[.agg #[.int .i64 r, .int .i64 c, .slice B ys.length cb], .bool true]) (by simp [results, Try.results30, go_sem, c3]) rfl ?_
    rw [HG.out]
    have HO2 := Own.wide HO3.out (lo' := w.heap.size) (by omega)
    have hne : ∀ g, (Value.slice B ys.length cb).ownBlock = some g → g ≠ w.heap.size + 1 + 1 := fun g hg e => by
      subst e
      exact Own.ne HO2 b3 (by decide) hg.symm
    exact ⟨B, cb, rfl, ((Own.setCell HO2 hne _).setCell hne _).setCell hne _, ((hE.setCell (by simp; omega) _).setCell (by simp; omega) _).setCell (by simp; omega) _⟩

set_option maxHeartbeats 1000000 in
theorem sGlassMore (r c : Int) (A : Option Addr) (q : List Int) (cap : Nat) (n : Int) (w : World) (hI : Ints w A q) (hl : q.length ≤ 1048576) :
    Calls Try.prog 36 #[.agg #[.int .i64 r, .int .i64 c, .slice A q.length cap], .int .i64 n] w (GotGB w (gmore r c q n)) := by
  rcases hv : gvalid r c q with _ | _
  · go_enter Try.func36, Try.ntmps36
    go_wp2_with (go_at_call 21; refine (sGlassValid _ _ _ _ _ _ ((hI.alloc _).alloc _) hl).mono ?_; rintro e w1 ⟨rfl, hx⟩; have b2 := (Box.new _ _ _).ex hx; simp only [World.size_alloc] at b2; have c2 := b2.cell; have f2 := b2.frozen)
    refine bodyPost_ret (v := .tuple #[.agg #[.int .i64 0, .int .i64 0, .slice none 0 0], .bool false]) (by simp [results, Try.results36, go_sem, *]) rfl ?_
    have hg : gmore r c q n = .zero := by simp [gmore, hv]
    rw [hg]
    refine ⟨none, 0, rfl, ownI_none _ _, ?_⟩
    have hE := (((Ex.refl w).alloc _).alloc _).trans hx
    exact ((hE.setCell (by simp) _).setCell (by simp) _).setCell (by simp) _
  rcases hn : inB n (-1000) 1000 with _ | _
  · go_enter Try.func36, Try.ntmps36
    go_wp2_with (first
      | (go_at_call 21; refine (sGlassValid _ _ _ _ _ _ ((hI.alloc _).alloc _) hl).mono ?_; rintro e w1 ⟨rfl, hx⟩; have b2 := (Box.new _ _ _).ex hx; have b1 := ((Box.new _ _ _).alloc _).ex hx; simp only [World.size_alloc] at b2; have c2 := b2.cell; have f2 := b2.frozen; have c1 := b1.cell)
      | (go_at_call 55; refine (l6In_any _ _ _ _).mono ?_; rintro e w' ⟨rfl, rfl⟩))
    refine bodyPost_ret (v := .tuple #[.agg #[.int .i64 0, .int .i64 0, .slice none 0 0], .bool false]) (by simp [results, Try.results36, go_sem, *]) rfl ?_
    have hg : gmore r c q n = .zero := by simp [gmore, hv, hn]
    rw [hg]
    refine ⟨none, 0, rfl, ownI_none _ _, ?_⟩
    have hE := (((Ex.refl w).alloc _).alloc _).trans hx
    exact ((hE.setCell (by simp) _).setCell (by simp) _).setCell (by simp) _
  have hl64 := (gvalid_len hv).2
  have hq := gvalid_cell hv
  have hnb := inB_out hn
  have HQ := Lib.hid hq
  clear hq
  have hn1 := hnb.1
  have hn2 := hnb.2
  obtain ⟨zs, hzs⟩ : ∃ zs, zs = q.map (· + n) := ⟨_, rfl⟩
  have hzl : zs.length ≤ 1048576 := by rw [hzs, List.length_map]; exact hl
  have hgm : ∀ b, gvalid r c zs = b → gmore r c q n = if b then ⟨true, r, c, zs⟩ else .zero := fun b hb => by rw [hzs] at hb; simp [gmore, hv, hn, hb, hzs]
  have HZ := Lib.hid hzs
  have HGM := Lib.hid hgm
  clear hzs hgm hnb
  go_enter Try.func36, Try.ntmps36
  go_wp2_with fail
  refine (sGlassValid _ _ _ _ _ _ ((hI.alloc _).alloc _) hl).mono ?_
  rintro e w1 ⟨rfl, hx⟩
  have hE := (((Ex.refl w).alloc _).alloc _).trans hx
  have b2 := (Box.new _ _ _).ex hx
  have b1 := ((Box.new _ _ _).alloc _).ex hx
  simp only [World.size_alloc] at b2
  have c1 := b1.cell
  go_wp2_with (go_at_call 55; refine (l6In_any _ _ _ _).mono ?_; rintro e w' ⟨rfl, rfl⟩)
  clear hv hn hx c1
  go_loopw [6, 7] (fun v i wr => ∃ (k : Nat) (B : Option Addr) (cb : Nat) (ys : List Int), k ≤ q.length ∧ i = .int .i64 k ∧ v = .slice B ys.length cb ∧ Hid (ys = (q.take k).map (· + n)) ∧ OwnI wr w.heap.size B cb ys ∧ Ex w wr ∧
      Box wr w.heap.size 27 #[.int .i64 r, .int .i64 c, .slice A q.length cap] ∧ Box wr (w.heap.size + 1) 27 #[.int .i64 0, .int .i64 0, .slice none 0 0]) (fun _ i _ => q.length - (intOf i).toNat)
  case atStart => exact ⟨0, _, _, [], by omega, rfl, rfl, rfl, (ownI_nil w1 w.heap.size hE.size), hE.alloc _, b1.alloc _, b2.alloc _⟩
  case round =>
    obtain ⟨k, B, cb, ys, hk, rfl, rfl, HY, hown, hEr, b1r, b2r⟩ := hrel
    clear hE b1 b2
    have c1 := b1r.cell
    have HO := Lib.hid hown
    clear hown
    by_cases hlt : k < q.length
    · have hyl : ys.length ≤ 1048576 := by
        rw [HY.out, List.length_map, List.length_take]
        omega
      obtain ⟨b, off, rfl, hc⟩ := (hI.ex hEr).at (by omega)
      have hcell := hc _ hlt
      have hqk := HQ.out k hlt
      have hqe : q.getD k 0 = q[k] := by simp [hlt]
      rw [hqe] at hqk
      have hq1 := hqk.1
      have hq2 := hqk.2
      clear hc hqk hqe
      go_wp2_with (at_builtin; refine wpList_appI rfl _ _ wr rfl w.heap.size B cb ys (q[k] + n) rfl HO.out rfl hyl hEr.size ?_)
      intro B' cb' w2 hown2 hk2
      replace hEr := hk2.ex _ hEr (Nat.le_refl _)
      replace b1r := hk2.box _ _ _ b1r (by decide)
      replace b2r := hk2.box _ _ _ b2r (by decide)
      clear hk2 c1 hcell HO
      go_wp2
      go_roundw
      case rel =>
        refine ⟨k + 1, B', cb', ys ++ [q[k] + n], by omega, by go_num, by simp, ?_, hown2, hEr, b1r, b2r⟩
        show _ = _
        rw [map_take_succ _ _ _ hlt, HY.out]
        simp [hlt]
      case measure => simp [intOf]; omega
    · have hy := HY.out
      rw [List.take_of_length_le (by omega), ← HZ.out] at hy
      subst hy
      clear HY
      go_wp2_with fail
      refine (with_any _ _ _ _ _ _ _ _ _).mono ?_
      rintro e w2 ⟨rfl, hx⟩
      replace b2r := b2r.ex hx
      replace hEr := hEr.trans hx
      have HO2 := Lib.hid (Own.ex HO.out hx)
      clear hx c1
      go_wp2_with fail
      refine (sGlassValid r c B ys cb _ ((OwnI.ints HO2.out).alloc _) hzl).mono ?_
      rintro e w3 ⟨rfl, hx⟩
      have b4 := (Box.new _ _ _).ex hx
      replace b2r := (b2r.alloc _).ex hx
      have HO3 := Lib.hid ((Own.alloc HO2.out _).ex hx)
      have c3 := b2r.cell
      have f3 := b2r.frozen
      have c4 := b4.cell
      replace hEr := (hEr.alloc _).trans hx
      clear hx
      rcases hv2 : gvalid r c ys with _ | _
      · go_wp2
        refine bodyPost_ret (v := .tuple #[.agg #[.int .i64 0, .int .i64 0, .slice none 0 0], .bool false]) (by simp [results, Try.results36, go_sem, *]) rfl ?_
        have hg : gmore r c q n = .zero := HGM.out false hv2
        rw [hg]
        exact ⟨none, 0, rfl, ownI_none _ _, ((hEr.setCell (by simp) _).setCell (by simp) _).setCell (by simp) _⟩
      · go_wp2
        refine bodyPost_ret (v := .tuple #[.agg #[.int .i64 r, .int .i64 c, .slice B ys.length cb], .bool true]) (by simp [results, Try.results36, go_sem, c3]) rfl ?_
        have hg : gmore r c q n = ⟨true, r, c, ys⟩ := HGM.out true hv2
        rw [hg]
        have hne : ∀ g, (Value.slice B ys.length cb).ownBlock = some g → g ≠ w.heap.size + 1 := fun g hg e => by
          subst e
          exact Own.ne HO3.out b2r (by decide) hg.symm
        exact ⟨B, cb, rfl, ((Own.setCell HO3.out hne _).setCell hne _).setCell hne _, ((hEr.setCell (by simp) _).setCell (by simp) _).setCell (by simp) _⟩
end Go.Proofs.Ytploaldfkfjibaa
