/-
  Walks: GlassUnwrap, the program's.
-/
import Derived.Test.YtploaldfkfjibaaGlsX
import Derived.Test.YtploaldfkfjibaaLib2
import Derived.Deep.DeepCutAuto
namespace Go.Proofs.Ytploaldfkfjibaa
open Go.RowKit

set_option maxHeartbeats 4000000 in
theorem iGlassUnwrap (r c : Int) (A : Option Addr) (q : List Int) (cap : Nat) (w : World) (hI : Ints w A q) (hl : q.length ≤ 1048576) :
    Calls Try.prog 44 #[.agg #[.int .i64 r, .int .i64 c, .slice A q.length cap]] w (GotGB w (gunwrap r c q)) := by
  rcases hv : gwrapped r c q with _ | _
  · go_enter Try.func44, Try.ntmps44
    go_wp2_with (go_at_call 67; refine (wrapped_any _ _ _ _ _ _ ((hI.alloc _).alloc _) hl).mono ?_; rintro e w1 ⟨rfl, hx⟩; have b2 := (Box.new _ _ _).ex hx; simp only [World.size_alloc] at b2; have c2 := b2.cell; have f2 := b2.frozen)
    refine bodyPost_ret (v := .tuple #[.agg #[.int .i64 0, .int .i64 0, .slice none 0 0], .bool false]) (by simp [results, Try.results44, go_sem, *]) rfl ?_
    have hg : gunwrap r c q = .zero := by simp [gunwrap, hv]
    rw [hg]
    refine ⟨none, 0, rfl, ownI_none _ _, ?_⟩
    have hE := (((Ex.refl w).alloc _).alloc _).trans hx
    exact ((hE.setCell (by simp) _).setCell (by simp) _).setCell (by simp) _
  obtain ⟨rn, cn, rfl, rfl, hr1, hr2, hc1, hc2, -, hl64⟩ := gvalid_nat (gwrapped_valid hv)
  have hq := gwrapped_cell hv
  have hq' : ∀ k, 0 ≤ q.getD k 0 ∧ q.getD k 0 ≤ 3 := fun k => by
    rcases Nat.lt_or_ge k q.length with h | h
    · exact hq k h
    · have e : q.getD k 0 = 0 := by simp [List.getElem?_eq_none h]
      omega
  have hn := fun k hk h => gunwrap_none (k := k) hv hk h
  have hy : ∀ ys, gunwrapTo cn q q.length = some ys → gunwrap rn cn q = ⟨true, rn, cn, ys⟩ := fun ys h => by
    unfold gunwrap
    rw [if_pos hv]
    simp only [Int.toNat_natCast, h]
  have HQ := Lib.hid hq'
  have HN := Lib.hid hn
  have HYY := Lib.hid hy
  clear hq hq' hn hy
  go_enter Try.func44, Try.ntmps44
  go_wp2_with (go_at_call 67; refine (wrapped_any _ _ _ _ _ _ ((hI.alloc _).alloc _) hl).mono ?_; rintro e w1 ⟨rfl, hx⟩; have hE := (((Ex.refl w).alloc _).alloc _).trans hx; have b2 := (Box.new _ _ _).ex hx; have b1 := ((Box.new _ _ _).alloc _).ex hx;  simp only [World.size_alloc] at b2; have c2 := b2.cell; have c1 := b1.cell)
  have z1 := b1.lt
  have hmk := fun W => run_make_ints q.length hl W
  clear hv hx c2
  go_cut [4] (fun s4 wx => ∃ bo G : Nat, s4 = .pointer (some ⟨bo, 0, none⟩) ∧ w.heap.size + 1 < bo ∧ OwnI wx w.heap.size (some ⟨G, 0, none⟩) q.length (List.replicate q.length 0) ∧ Ex w wx ∧ Box wx bo 27 #[.int .i64 rn, .int .i64 cn, .slice (some ⟨G, 0, none⟩) q.length q.length] ∧
      Box wx w.heap.size 27 #[.int .i64 rn, .int .i64 cn, .slice A q.length cap] ∧ Box wx (w.heap.size + 1) 27 #[.int .i64 0, .int .i64 0, .slice none 0 0])
  case first =>
    go_region
    all_goals go_wp2_with fail
    all_goals go_meet
    · refine ⟨w1.heap.size + 1, w1.heap.size, rfl, by have := b2.lt; omega, (ownI_made _ _ hl w1 hE.size).alloc _, ((hE.alloc _).alloc _).drew, ?_, (b1.alloc _).alloc _, (b2.alloc _).alloc _⟩
      have b := Box.new (w1.alloc (.cells (madeCells #[.int .i64 0] q.length) 3)) #[.int .i64 rn, .int .i64 cn, .slice (some ⟨w1.heap.size, 0, none⟩) q.length q.length] 27
      simp only [World.size_alloc] at b
      exact b
    · refine ⟨w1.heap.size, w1.heap.size + 1, rfl, b2.lt, ?_, ((hE.alloc _).alloc _).drew, (Box.new _ _ _).alloc _, (b1.alloc _).alloc _, (b2.alloc _).alloc _⟩
      have h := ownI_made q.length w.heap.size hl (w1.alloc (.cells #[.int .i64 rn, .int .i64 cn, .slice (some ⟨w1.heap.size + 1, 0, none⟩) q.length q.length] 27)) (by have := hE.size; simp; omega)
      simp only [World.size_alloc] at h
      exact h
  case rest =>
    clear c1 z1 b1 b2 hE hmk
    obtain ⟨bo, G, rfl, hbo, hown, hE, b4, b1, b2⟩ := hcut
    have hzl : (List.replicate q.length (0 : Int)).length = q.length := by simp
    obtain ⟨zs, hzs⟩ : ∃ zs, zs = List.replicate q.length (0 : Int) := ⟨_, rfl⟩
    rw [← hzs] at hown hzl
    have HO := Lib.hid hown
    have HZL := Lib.hid hzl
    clear hown hzs hzl
    have c1 := b1.cell
    go_wp2_with fail
    clear c1
    go_loopw [25] (fun i wr => ∃ (k : Nat) (ys zs : List Int), k ≤ q.length ∧ i = .int .i64 k ∧ Hid (gunwrapTo cn q k = some ys) ∧ Hid (zs.length = q.length) ∧ Hid (∀ j, j < k → zs[j]? = ys[j]?) ∧ OwnI wr w.heap.size (some ⟨G, 0, none⟩) q.length zs ∧ Ex w wr ∧
        Box wr bo 27 #[.int .i64 rn, .int .i64 cn, .slice (some ⟨G, 0, none⟩) q.length q.length] ∧
        Box wr w.heap.size 27 #[.int .i64 rn, .int .i64 cn, .slice A q.length cap] ∧ Box wr (w.heap.size + 1) 27 #[.int .i64 0, .int .i64 0, .slice none 0 0]) (fun i _ => q.length - (intOf i).toNat)
    case atStart => exact ⟨0, [], zs, by omega, rfl, rfl, HZL, fun j hj => by omega, HO.out, hE, b4, b1, b2⟩
    case round =>
      clear HO HZL hE b4 b1 b2
      obtain ⟨k, ys, zs, hk, rfl, HY, HZL, HZY, hown, hEr, b4r, b1r, b2r⟩ := hrel
      have HO := Lib.hid hown
      clear hown
      by_cases hlt : k < q.length
      · have hyk := gunwrapTo_len HY.out
        obtain ⟨b, off, rfl, hc⟩ := (hI.ex hEr).at (by omega)
        obtain ⟨x, hx⟩ : ∃ x, x = q.getD k 0 := ⟨_, rfl⟩
        have hcx := hc _ hlt
        have hbx := HQ.out k
        rw [← hx] at hcx hbx
        have hbx1 := hbx.1
        have hbx2 := hbx.2
        have HX := Lib.hid hx
        have HYK := Lib.hid hyk
        obtain ⟨g, hg, hglo, -, hcg, hfg⟩ := OwnI.at HO.out (by have := HZL.out; omega)
        obtain rfl : G = g := by simpa using hg
        have hck := hcg k (by have := HZL.out; omega)
        have hfk := hfg k
        obtain ⟨old, hold⟩ : ∃ old, old = zs.getD k 0 := ⟨_, rfl⟩
        rw [← hold] at hck
        have gb1 := Own.ne HO.out b1r (by decide)
        have gb2 := Own.ne HO.out b2r (by decide)
        have gb4 := Own.ne HO.out b4r (by decide)
        simp only [Value.ownBlock, ne_eq, Option.some.injEq] at gb1 gb2 gb4
        clear hx hyk hbx hg hold
        have c1 := b1r.cell
        have c4 := b4r.cell
        have hset : ∀ u, (∀ j, j < k + 1 → (zs.set k u)[j]? = (ys ++ [u])[j]?) := fun u j hj => by
          have h1 := HZL.out
          have h2 := HYK.out
          rcases Nat.lt_or_ge j k with h | h
          · rw [List.getElem?_set_ne (by omega), List.getElem?_append_left (by omega)]
            exact HZY.out j h
          · obtain rfl : j = k := by omega
            rw [List.getElem?_set_self (by omega), List.getElem?_append_right (by omega), h2]
            simp
        have HSET := Lib.hid hset
        clear hset
        by_cases h0 : k = 0
        · subst h0
          rw [Nat.add_zero] at hcx
          clear hc hcg hfg
          go_wp2
          go_roundw
          case rel =>
            refine ⟨0 + 1, ys ++ [x], zs.set 0 x, by omega, by go_num, ?_, ?_, HSET.out x, HO.out.store 0 x, hEr.setCell hglo _, b4r.far gb4 _, b1r.far gb1 _, b2r.far gb2 _⟩
            · show _ = _
              have := HYK.out
              rw [List.eq_nil_of_length_eq_zero this, HX.out]
              rfl
            · show _ = _
              rw [List.length_set, HZL.out]
          case measure => simp [intOf]; omega
        · have hk1 : 1 ≤ k := by omega
          obtain ⟨fk, hfk2⟩ : ∃ fk, fk = gfrom cn k := ⟨_, rfl⟩
          have hflt : fk < k := by rw [hfk2]; exact gfrom_lt hc1 hk1
          obtain ⟨y, hy⟩ : ∃ y, y = q.getD fk 0 := ⟨_, rfl⟩
          have hcy := hc fk (by omega)
          have hby := HQ.out fk
          rw [← hy] at hcy hby
          have hby1 := hby.1
          have hby2 := hby.2
          obtain ⟨s, hs⟩ : ∃ s, s = gshort y x := ⟨_, rfl⟩
          have hsb := gshort_bd y x
          rw [← hs] at hsb
          have hsb1 := hsb.1
          have hsb2 := hsb.2
          obtain ⟨z, hz⟩ : ∃ z, z = ys.getD fk 0 := ⟨_, rfl⟩
          have hzb := gunwrapTo_bd hc1 HQ.out HY.out fk hflt
          rw [← hz] at hzb
          have hzb1 := hzb.1
          have hzb2 := hzb.2
          have hcz := hcg fk (by have := HZL.out; omega)
          have hzz : zs.getD fk 0 = z := by rw [hz, List.getD_eq_getElem?_getD, HZY.out fk hflt, ← List.getD_eq_getElem?_getD]
          rw [hzz] at hcz
          have HS := Lib.hid hs
          have HF := Lib.hid hfk2
          have HYD := Lib.hid hy
          have HZ := Lib.hid hz
          have hstep : ∀ w, Calls Try.prog 68 #[.int .i64 y, .int .i64 x] w fun e w' => e = .returned (.int .i64 s) ∧ w = w' := fun w => (short_any y x w (by omega) (by omega) (by omega) (by omega)).mono fun e w' ⟨h1, h2⟩ => ⟨by rw [HS.out]; exact h1, h2⟩
          have HST := Lib.hid hstep
          clear hc hcg hfg hs hfk2 hy hz hby hsb hzb hstep hzz
          have hfin : ∀ b : Bool, (s == 2) = b → (b = true → gunwrapTo cn q (k + 1) = none) ∧ (b = false → gunwrapTo cn q (k + 1) = some (ys ++ [z + s])) := fun b hb => by
            have e : gshort (q.getD (gfrom cn k) 0) (q.getD k 0) = s := by rw [← HF.out, ← HYD.out, ← HX.out, ← HS.out]
            refine ⟨fun h => ?_, fun h => ?_⟩
            · rw [h] at hb
              exact gunwrapTo_stop HY.out h0 (by rw [e]; simpa using hb) _ (by omega)
            · rw [h] at hb
              have := gunwrapTo_step HY.out h0 (by rw [e]; simpa using hb)
              rwa [e, ← HF.out, ← HZ.out] at this
          have HFIN := Lib.hid hfin
          clear hfin
          have hzs := IntWalk.i64_in (z + s) (by omega)
          have HZS := Lib.hid hzs
          clear hzs
          by_cases hm : k % cn = 0
          · have hmb : ((k : Int) % cn == 0) = true := by simpa using by omega
            have hcle : cn ≤ k := by
              rcases Nat.lt_or_ge k cn with h | h
              · rw [Nat.mod_eq_of_lt h] at hm; omega
              · exact h
            have hfe : fk = k - cn := by rw [HF.out]; unfold gfrom; rw [if_pos hm]
            have HFE := Lib.hid hfe
            have hix : ((k : Int) - cn).toNat = k - cn := by omega
            rw [hfe] at hcy hcz
            clear hm hfe
            rcases hs2 : (s == 2) with _ | _
            · go_wp2_with (go_at_call 68; refine (HST.out _).mono ?_; rintro e w' ⟨rfl, rfl⟩)
              have hzs := HZS.out
              go_region
              all_goals
                clear hzs
                go_wp2
                go_roundw
                case rel =>
                  refine ⟨k + 1, ys ++ [z + s], zs.set k (z + s), by omega, by go_num, (HFIN.out false hs2).2 rfl, ?_, HSET.out _, (HO.out.store k _).drew, (hEr.setCell hglo _).drew, (b4r.far gb4 _).drew, (b1r.far gb1 _).drew, (b2r.far gb2 _).drew⟩
                  show _ = _
                  rw [List.length_set, HZL.out]
                case measure => simp [intOf]; omega
            · have c2 := b2r.cell
              have f2 := b2r.frozen
              go_wp2_with (go_at_call 68; refine (HST.out _).mono ?_; rintro e w' ⟨rfl, rfl⟩)
              refine bodyPost_ret (v := .tuple #[.agg #[.int .i64 0, .int .i64 0, .slice none 0 0], .bool false]) (by simp [results, Try.results44, go_sem, c2]) rfl ?_
              rw [HN.out (k + 1) (by omega) ((HFIN.out true hs2).1 rfl)]
              exact ⟨none, 0, rfl, ownI_none _ _, ((hEr.setCell (by simp) _).setCell (by simp) _).setCell (by simp) _⟩
          · have hmb : ((k : Int) % cn == 0) = false := by simpa using by omega
            have hfe : fk = k - 1 := by rw [HF.out]; unfold gfrom; rw [if_neg hm]
            have HFE := Lib.hid hfe
            have hix : ((k : Int) - 1).toNat = k - 1 := by omega
            rw [hfe] at hcy hcz
            clear hm hfe
            rcases hs2 : (s == 2) with _ | _
            · go_wp2_with (go_at_call 68; refine (HST.out _).mono ?_; rintro e w' ⟨rfl, rfl⟩)
              have hzs := HZS.out
              go_region
              all_goals
                clear hzs
                go_wp2
                go_roundw
                case rel =>
                  refine ⟨k + 1, ys ++ [z + s], zs.set k (z + s), by omega, by go_num, (HFIN.out false hs2).2 rfl, ?_, HSET.out _, (HO.out.store k _).drew, (hEr.setCell hglo _).drew, (b4r.far gb4 _).drew, (b1r.far gb1 _).drew, (b2r.far gb2 _).drew⟩
                  show _ = _
                  rw [List.length_set, HZL.out]
                case measure => simp [intOf]; omega
            · have c2 := b2r.cell
              have f2 := b2r.frozen
              go_wp2_with (go_at_call 68; refine (HST.out _).mono ?_; rintro e w' ⟨rfl, rfl⟩)
              refine bodyPost_ret (v := .tuple #[.agg #[.int .i64 0, .int .i64 0, .slice none 0 0], .bool false]) (by simp [results, Try.results44, go_sem, c2]) rfl ?_
              rw [HN.out (k + 1) (by omega) ((HFIN.out true hs2).1 rfl)]
              exact ⟨none, 0, rfl, ownI_none _ _, ((hEr.setCell (by simp) _).setCell (by simp) _).setCell (by simp) _⟩
      · obtain rfl : k = q.length := by omega
        have c2 := b2r.cell
        have f2 := b2r.frozen
        have c4 := b4r.cell
        go_wp2
        have e : zs = ys := List.ext_getElem? fun j => by
          have h1 := HZL.out
          have h2 := gunwrapTo_len HY.out
          rcases Nat.lt_or_ge j q.length with h | h
          · exact HZY.out j h
          · rw [List.getElem?_eq_none (by omega), List.getElem?_eq_none (by omega)]
        subst e
        refine bodyPost_ret (v := .tuple #[.agg #[.int .i64 rn, .int .i64 cn, .slice (some ⟨G, 0, none⟩) q.length q.length], .bool true]) (by simp [results, Try.results44, go_sem, c2]) rfl ?_
        rw [HYY.out zs HY.out]
        have hne : ∀ g, (Value.slice (some ⟨G, 0, none⟩) zs.length q.length).ownBlock = some g → g ≠ w.heap.size + 1 := fun g hg e => by
          subst e
          exact Own.ne HO.out b2r (by decide) hg.symm
        exact ⟨_, q.length, by rw [HZL.out], ((Own.setCell HO.out hne _).setCell hne _).setCell hne _, ((hEr.setCell (by simp) _).setCell (by simp) _).setCell (by simp) _⟩
end Go.Proofs.Ytploaldfkfjibaa
