/-
  Walks: GlassUnwrap, the reference's.
-/
import Derived.Test.YtploaldfkfjibaaGlsU
namespace Go.Proofs.Ytploaldfkfjibaa
open Go.RowKit

theorem gunwrap_none {rn cn : Nat} {q : List Int} {k : Nat} (hv : gwrapped rn cn q = true) (hk : k ≤ q.length) (h : gunwrapTo cn q k = none) : gunwrap rn cn q = .zero := by
  have : ∀ j, k ≤ j → gunwrapTo cn q j = none := by
    intro j hj
    induction j with
    | zero => obtain rfl : k = 0 := by omega
              exact h
    | succ j ih =>
      rcases Nat.lt_or_ge k (j + 1) with h1 | h1
      · simp [gunwrapTo, ih (by omega)]
      · obtain rfl : k = j + 1 := by omega
        exact h
  unfold gunwrap
  rw [if_pos hv]
  have e := this q.length hk
  simp only [Int.toNat_natCast, e]

set_option maxHeartbeats 2000000 in
theorem sGlassUnwrap (r c : Int) (A : Option Addr) (q : List Int) (cap : Nat) (w : World) (hI : Ints w A q) (hl : q.length ≤ 1048576) :
    Calls Try.prog 50 #[.agg #[.int .i64 r, .int .i64 c, .slice A q.length cap]] w (GotGB w (gunwrap r c q)) := by
  rcases hv : gwrapped r c q with _ | _
  · go_enter Try.func50, Try.ntmps50
    go_wp2_with (go_at_call 69; refine (l13Wrapped_any _ _ _ _ _ _ ((hI.alloc _).alloc _) hl).mono ?_; rintro e w1 ⟨rfl, hx⟩; have b2 := (Box.new _ _ _).ex hx; simp only [World.size_alloc] at b2; have c2 := b2.cell; have f2 := b2.frozen)
    refine bodyPost_ret (v := .tuple #[.agg #[.int .i64 0, .int .i64 0, .slice none 0 0], .bool false]) (by simp [results, Try.results50, go_sem, *]) rfl ?_
    have hg : gunwrap r c q = .zero := by simp [gunwrap, hv]
    rw [hg]
    refine ⟨none, 0, rfl, ownI_none _ _, ?_⟩
    have hE := (((Ex.refl w).alloc _).alloc _).trans hx
    exact ((hE.setCell (by simp) _).setCell (by simp) _).setCell (by simp) _
  obtain ⟨rn, cn, rfl, rfl, hr1, hr2, hc1, hc2, -, hl64⟩ := gvalid_nat (gwrapped_valid hv)
  have hq := gwrapped_cell hv
  have hq' : ∀ k, 0 ≤ q.getD k 0 ∧ q.getD k 0 ≤ 3 := fun k => by
    rcases Nat.lt_or_ge k q.length with h | h
    · exact hq k h
    · have e : q.getD k 0 = 0 := by simp [List.getElem?_eq_none h]
      omega
  have hn := fun k hk h => gunwrap_none (k := k) hv hk h
  have hy : ∀ ys, gunwrapTo cn q q.length = some ys → gunwrap rn cn q = ⟨true, rn, cn, ys⟩ := fun ys h => by
    unfold gunwrap
    rw [if_pos hv]
    simp only [Int.toNat_natCast, h]
  have HQ := Lib.hid hq'
  have HN := Lib.hid hn
  have HYY := Lib.hid hy
  clear hq hq' hn hy
  go_enter Try.func50, Try.ntmps50
  go_wp2_with (go_at_call 69; refine (l13Wrapped_any _ _ _ _ _ _ ((hI.alloc _).alloc _) hl).mono ?_; rintro e w1 ⟨rfl, hx⟩; have hE := (((Ex.refl w).alloc _).alloc _).trans hx; have b2 := (Box.new _ _ _).ex hx; have b1 := ((Box.new _ _ _).alloc _).ex hx;  simp only [World.size_alloc] at b2; have c2 := b2.cell; have c1 := b1.cell)
  clear hv hx c1 c2
  go_loopw [4, 5] (fun v i wr => ∃ (k : Nat) (B : Option Addr) (cb : Nat) (ys : List Int), k ≤ q.length ∧ i = .int .i64 k ∧ v = .slice B ys.length cb ∧ Hid (gunwrapTo cn q k = some ys) ∧ OwnI wr w.heap.size B cb ys ∧ Ex w wr ∧
      Box wr w.heap.size 27 #[.int .i64 rn, .int .i64 cn, .slice A q.length cap] ∧ Box wr (w.heap.size + 1) 27 #[.int .i64 0, .int .i64 0, .slice none 0 0]) (fun _ i _ => q.length - (intOf i).toNat)
  case atStart => exact ⟨0, _, _, [], by omega, rfl, rfl, rfl, (ownI_nil w1 w.heap.size hE.size), hE.alloc _, b1.alloc _, b2.alloc _⟩
  case round =>
    obtain ⟨k, B, cb, ys, hk, rfl, rfl, HY, hown, hEr, b1r, b2r⟩ := hrel
    clear hE b1 b2
    have HO := Lib.hid hown
    clear hown
    by_cases hlt : k < q.length
    · have hyk := gunwrapTo_len HY.out
      have hyl : ys.length ≤ 1048576 := by omega
      have hylt : ys.length ≤ 64 := by omega
      have hyk1 : ys.length ≤ k := by omega
      have hyk2 : k ≤ ys.length := by omega
      obtain ⟨b, off, rfl, hc⟩ := (hI.ex hEr).at (by omega)
      obtain ⟨x, hx⟩ : ∃ x, x = q.getD k 0 := ⟨_, rfl⟩
      have hcx := hc _ hlt
      have hbx := HQ.out k
      rw [← hx] at hcx hbx
      have hbx1 := hbx.1
      have hbx2 := hbx.2
      have HX := Lib.hid hx
      have HYK := Lib.hid hyk
      clear hx hyk hbx
      have c1 := b1r.cell
      by_cases h0 : k = 0
      · subst h0
        rw [Nat.add_zero] at hcx
        clear hc
        go_wp2_with (at_builtin; refine wpList_appI rfl _ _ wr rfl w.heap.size B cb ys x rfl HO.out rfl hyl hEr.size ?_)
        intro B' cb' w2 hown2 hk2
        replace hEr := hk2.ex _ hEr (Nat.le_refl _)
        replace b1r := hk2.box _ _ _ b1r (by decide)
        replace b2r := hk2.box _ _ _ b2r (by decide)
        clear hk2 c1 HO
        go_wp2
        go_roundw
        case rel =>
          refine ⟨0 + 1, B', cb', ys ++ [x], by omega, by go_num, by simp, ?_, hown2, hEr, b1r, b2r⟩
          show _ = _
          have := HYK.out
          rw [List.eq_nil_of_length_eq_zero this, HX.out]
          rfl
        case measure => simp [intOf]; omega
      · have hk1 : 1 ≤ k := by omega
        have h0b : ((k : Int) == 0) = false := by simpa using by omega
        obtain ⟨fk, hfk⟩ : ∃ fk, fk = gfrom cn k := ⟨_, rfl⟩
        have hflt : fk < k := by rw [hfk]; exact gfrom_lt hc1 hk1
        obtain ⟨y, hy⟩ : ∃ y, y = q.getD fk 0 := ⟨_, rfl⟩
        have hcy := hc fk (by omega)
        have hby := HQ.out fk
        rw [← hy] at hcy hby
        have hby1 := hby.1
        have hby2 := hby.2
        obtain ⟨s, hs⟩ : ∃ s, s = gshort y x := ⟨_, rfl⟩
        have hsb := gshort_bd y x
        rw [← hs] at hsb
        have hsb1 := hsb.1
        have hsb2 := hsb.2
        obtain ⟨z, hz⟩ : ∃ z, z = ys.getD fk 0 := ⟨_, rfl⟩
        have hzb := gunwrapTo_bd hc1 HQ.out HY.out fk hflt
        rw [← hz] at hzb
        have hzb1 := hzb.1
        have hzb2 := hzb.2
        obtain ⟨g, hg, -, -, hcg, -⟩ := OwnI.at HO.out (by have := HYK.out; omega)
        subst hg
        have hcz := hcg fk (by have := HYK.out; omega)
        rw [← hz] at hcz
        have HS := Lib.hid hs
        have HF := Lib.hid hfk
        have HYD := Lib.hid hy
        have HZ := Lib.hid hz
        have hstep : ∀ w, Calls Try.prog 71 #[.int .i64 y, .int .i64 x] w fun e w' => e = .returned (.int .i64 s) ∧ w' = w := fun w => (step_any y x w (by omega) (by omega) (by omega) (by omega)).mono fun e w' ⟨h1, h2⟩ => ⟨by rw [HS.out]; exact h1, h2.symm⟩
        have HST := Lib.hid hstep
        clear hc hcg hs hfk hy hz hby hsb hzb hstep
        have hfin : ∀ b : Bool, (s == 2) = b → (b = true → gunwrapTo cn q (k + 1) = none) ∧ (b = false → gunwrapTo cn q (k + 1) = some (ys ++ [z + s])) := fun b hb => by
          have e : gshort (q.getD (gfrom cn k) 0) (q.getD k 0) = s := by rw [← HF.out, ← HYD.out, ← HX.out, ← HS.out]
          refine ⟨fun h => ?_, fun h => ?_⟩
          · rw [h] at hb
            exact gunwrapTo_stop HY.out h0 (by rw [e]; simpa using hb) _ (by omega)
          · rw [h] at hb
            have := gunwrapTo_step HY.out h0 (by rw [e]; simpa using hb)
            rwa [e, ← HF.out, ← HZ.out] at this
        have HFIN := Lib.hid hfin
        clear hfin
        have hkm : (IntKind.i64.wrap ((k : Int) - 1)) = (k : Int) - 1 := IntWalk.i64_in _ (by omega)
        by_cases hm : k % cn = 0
        · have hmb : ((k : Int) % cn == 0) = true := by simpa using by omega
          have hcle : cn ≤ k := by
            rcases Nat.lt_or_ge k cn with h | h
            · rw [Nat.mod_eq_of_lt h] at hm; omega
            · exact h
          have hfe : fk = k - cn := by rw [HF.out]; unfold gfrom; rw [if_pos hm]
          have HFE := Lib.hid hfe
          have hix : ((k : Int) - cn).toNat = k - cn := by omega
          rw [hfe] at hcy hcz
          clear hm hfe
          rcases hs2 : (s == 2) with _ | _
          · go_wp2_with fail
            go_quiet ((go_at_call 71; exact Calls.quiet_of_same (HST.out _)))
            have hEq : Ex w (wr.drewN nq) := hEr.drewN nq
            have b1q : Box (wr.drewN nq) _ _ _ := b1r
            have b2q : Box (wr.drewN nq) _ _ _ := b2r
            have hOq : OwnI (wr.drewN nq) _ _ _ _ := HO.out
            have HOq := Lib.hid hOq
            have hczq : (wr.drewN nq).cell? ⟨g, k - cn, none⟩ = some (Value.int .i64 z) := hcz
            clear hOq hEr b1r b2r HO hcz c1 hcx hcy hI hkm
            generalize wr.drewN nq = wq at *
            go_wp2_with (at_builtin; refine wpList_appI rfl _ _ wq rfl w.heap.size (some ⟨g, 0, none⟩) cb ys (z + s) rfl HOq.out rfl hyl hEq.size ?_)
            intro B' cb' w2 hown2 hk2
            have hEr := hk2.ex _ hEq (Nat.le_refl _)
            have b1r := hk2.box _ _ _ b1q (by decide)
            have b2r := hk2.box _ _ _ b2q (by decide)
            clear hk2 HOq hczq
            go_wp2
            go_roundw
            case rel => exact ⟨k + 1, B', cb', ys ++ [z + s], by omega, by go_num, by simp, (HFIN.out false hs2).2 rfl, hown2, hEr, b1r, b2r⟩
            case measure => simp [intOf]; omega
          · have c2 := b2r.cell
            have f2 := b2r.frozen
            go_wp2_with fail
            go_quiet ((go_at_call 71; exact Calls.quiet_of_same (HST.out _)))
            go_wp2
            refine bodyPost_ret (v := .tuple #[.agg #[.int .i64 0, .int .i64 0, .slice none 0 0], .bool false]) (by simp [results, Try.results50, go_sem, c2]) rfl ?_
            rw [HN.out (k + 1) (by omega) ((HFIN.out true hs2).1 rfl)]
            exact ⟨none, 0, rfl, ownI_none _ _, (((hEr.drewN _).setCell (by simp) _).setCell (by simp) _).setCell (by simp) _⟩
        · have hmb : ((k : Int) % cn == 0) = false := by simpa using by omega
          have hfe : fk = k - 1 := by rw [HF.out]; unfold gfrom; rw [if_neg hm]
          have HFE := Lib.hid hfe
          have hix : ((k : Int) - 1).toNat = k - 1 := by omega
          rw [hfe] at hcy hcz
          clear hm hfe
          rcases hs2 : (s == 2) with _ | _
          · go_wp2_with fail
            go_quiet ((go_at_call 71; exact Calls.quiet_of_same (HST.out _)))
            have hEq : Ex w (wr.drewN nq) := hEr.drewN nq
            have b1q : Box (wr.drewN nq) _ _ _ := b1r
            have b2q : Box (wr.drewN nq) _ _ _ := b2r
            have hOq : OwnI (wr.drewN nq) _ _ _ _ := HO.out
            have HOq := Lib.hid hOq
            have hczq : (wr.drewN nq).cell? ⟨g, k - 1, none⟩ = some (Value.int .i64 z) := hcz
            clear hOq hEr b1r b2r HO hcz c1 hcx hcy hI hkm
            generalize wr.drewN nq = wq at *
            go_wp2_with (at_builtin; refine wpList_appI rfl _ _ wq rfl w.heap.size (some ⟨g, 0, none⟩) cb ys (z + s) rfl HOq.out rfl hyl hEq.size ?_)
            intro B' cb' w2 hown2 hk2
            have hEr := hk2.ex _ hEq (Nat.le_refl _)
            have b1r := hk2.box _ _ _ b1q (by decide)
            have b2r := hk2.box _ _ _ b2q (by decide)
            clear hk2 HOq hczq
            go_wp2
            go_roundw
            case rel => exact ⟨k + 1, B', cb', ys ++ [z + s], by omega, by go_num, by simp, (HFIN.out false hs2).2 rfl, hown2, hEr, b1r, b2r⟩
            case measure => simp [intOf]; omega
          · have c2 := b2r.cell
            have f2 := b2r.frozen
            go_wp2_with fail
            go_quiet ((go_at_call 71; exact Calls.quiet_of_same (HST.out _)))
            go_wp2
            refine bodyPost_ret (v := .tuple #[.agg #[.int .i64 0, .int .i64 0, .slice none 0 0], .bool false]) (by simp [results, Try.results50, go_sem, c2]) rfl ?_
            rw [HN.out (k + 1) (by omega) ((HFIN.out true hs2).1 rfl)]
            exact ⟨none, 0, rfl, ownI_none _ _, (((hEr.drewN _).setCell (by simp) _).setCell (by simp) _).setCell (by simp) _⟩
    · obtain rfl : k = q.length := by omega
      have c1 := b1r.cell
      have c2 := b2r.cell
      have f2 := b2r.frozen
      go_wp2_with (go_at_call 64; refine (with_any _ _ _ _ _ _ _ _ _).mono ?_; rintro e w2 ⟨rfl, hx⟩; have b2s := b2r.ex hx; have c2s := b2s.cell; have f2s := b2s.frozen)
      refine bodyPost_ret (v := .tuple #[.agg #[.int .i64 rn, .int .i64 cn, .slice B ys.length cb], .bool true]) (by simp [results, Try.results50, go_sem, c2s]) rfl ?_
      rw [HYY.out ys HY.out]
      have hE2 := hEr.trans hx
      have HO2 := Own.ex HO.out hx
      have hne : ∀ g, (Value.slice B ys.length cb).ownBlock = some g → g ≠ w.heap.size + 1 := fun g hg e => by
        subst e
        exact Own.ne HO2 b2s (by decide) hg.symm
      exact ⟨B, cb, rfl, ((Own.setCell HO2 hne _).setCell hne _).setCell hne _, ((hE2.setCell (by simp) _).setCell (by simp) _).setCell (by simp) _⟩
end Go.Proofs.Ytploaldfkfjibaa
