/-
  Walks: GlassTurned, the program's and the reference's.
-/
import Derived.Test.YtploaldfkfjibaaGlsV
import Derived.Deep.RegionHeld3
import Derived.Deep.RegionLaw
import Derived.Deep.AppendLies
namespace Go.Proofs.Ytploaldfkfjibaa
open Go.RowKit

/-- A call hands back a glass in new memory, and whether there is one. -/
def GotGB (w : World) (x : GR) (e : Ending) (w' : World) : Prop :=
  ∃ A cap, e = .returned (.tuple #[.agg #[.int .i64 x.r, .int .i64 x.c, .slice A x.q.length cap], .bool x.ok]) ∧ OwnI w' w.heap.size A cap x.q ∧ Ex w w'

theorem ownI_none (w : World) (lo : Nat) : OwnI w lo none 0 [] := World.ownsRow_nil _ _ _ _

set_option maxHeartbeats 1000000 in
theorem sGlassTurned (r c : Int) (A : Option Addr) (q : List Int) (cap : Nat) (w : World) (hI : Ints w A q) (hl : q.length ≤ 1048576) :
    Calls Try.prog 27 #[.agg #[.int .i64 r, .int .i64 c, .slice A q.length cap]] w (GotGB w (gturn r c q)) := by
  rcases hv : gvalid r c q with _ | _
  · go_enter Try.func27, Try.ntmps27
    go_wp2_with (go_at_call 21; refine (sGlassValid _ _ _ _ _ _ ((hI.alloc _).alloc _) hl).mono ?_; rintro e w1 ⟨rfl, hx⟩; have b2 := (Box.new _ _ _).ex hx; simp only [World.size_alloc] at b2; have c2 := b2.cell; have f2 := b2.frozen)
    refine bodyPost_ret (v := .tuple #[.agg #[.int .i64 0, .int .i64 0, .slice none 0 0], .bool false]) (by simp [results, Try.results27, go_sem, *]) rfl ?_
    have hg : gturn r c q = .zero := by simp [gturn, hv]
    rw [hg]
    refine ⟨none, 0, rfl, ownI_none _ _, ?_⟩
    have hE := (((Ex.refl w).alloc _).alloc _).trans hx
    exact ((hE.setCell (by simp) _).setCell (by simp) _).setCell (by simp) _
  · obtain ⟨rn, cn, rfl, rfl, hr1, hr2, hc1, hc2, hlen, hl64⟩ := gvalid_nat hv
    have HL := Lib.hid hlen
    clear hlen
    go_enter Try.func27, Try.ntmps27
    go_wp2_with (go_at_call 21; refine (sGlassValid _ _ _ _ _ _ ((hI.alloc _).alloc _) hl).mono ?_; rintro e w1 ⟨rfl, hx⟩; have hE := (((Ex.refl w).alloc _).alloc _).trans hx; have b2 := (Box.new _ _ _).ex hx; have b1 := ((Box.new _ _ _).alloc _).ex hx;  simp only [World.size_alloc] at b2; have c2 := b2.cell; have c1 := b1.cell)
    have hg : gturn rn cn q = ⟨true, cn, rn, gcols rn cn q cn⟩ := by simp [gturn, hv, gturnQ]
    have HG := Lib.hid hg
    clear hg hv hx c1 c2
    go_loopw [4, 5] (fun v i wr => ∃ (k : Nat) (B : Option Addr) (cb : Nat), k ≤ cn ∧ i = .int .i64 k ∧ v = .slice B (gcols rn cn q k).length cb ∧ OwnI wr w.heap.size B cb (gcols rn cn q k) ∧ Ex w wr ∧
        Box wr w.heap.size 27 #[.int .i64 rn, .int .i64 cn, .slice A q.length cap] ∧ Box wr (w.heap.size + 1) 27 #[.int .i64 0, .int .i64 0, .slice none 0 0]) (fun _ i _ => cn - (intOf i).toNat)
    case atStart => exact ⟨0, _, _, by omega, rfl, rfl, (ownI_nil w1 w.heap.size hE.size), hE.alloc _, b1.alloc _, b2.alloc _⟩
    case round =>
      obtain ⟨k, B, cb, hk, rfl, rfl, hown, hEr, b1r, b2r⟩ := hrel
      clear hE b1 b2
      have c1 := b1r.cell
      have HO := Lib.hid hown
      clear hown
      by_cases hlt : k < cn
      · go_wp2_with fail
        obtain ⟨wo, rfl⟩ : ∃ wo : World, wo = wr := ⟨_, rfl⟩
        clear c1
        go_loopw [4, 6] (fun v i wr => ∃ (j : Nat) (B : Option Addr) (cb : Nat) (ys : List Int), j ≤ rn ∧ i = .int .i64 j ∧ v = .slice B ys.length cb ∧ Hid (ys = gcols rn cn q k ++ gcol j cn q k) ∧ OwnI wr w.heap.size B cb ys ∧ Ex w wr ∧
            Box wr w.heap.size 27 #[.int .i64 rn, .int .i64 cn, .slice A q.length cap] ∧ Box wr (w.heap.size + 1) 27 #[.int .i64 0, .int .i64 0, .slice none 0 0]) (fun _ i _ => rn - (intOf i).toNat)
        case atStart => exact ⟨0, B, cb, gcols rn cn q k, by omega, rfl, rfl, show _ = _ by simp [gcol], HO.out, hEr, b1r, b2r⟩
        case round =>
          clear hEr b1r b2r HO
          obtain ⟨j, B, cb, ys, hj, rfl, rfl, HY, hown, hEr, b1r, b2r⟩ := hrel
          have c1 := b1r.cell
          have HO := Lib.hid hown
          clear hown
          by_cases hjt : j < rn
          · have hix := idx_lt hjt hlt
            rw [← HL.out] at hix
            have hm1 : (j : Int) * cn = ((j * cn : Nat) : Int) := (Int.natCast_mul _ _).symm
            have hm2 : j * cn ≤ 64 := by omega
            have hx0 : 0 ≤ (j : Int) * cn + k := by omega
            have hx1 : (j : Int) * cn + k < q.length := by omega
            have hx2 : ((j : Int) * cn + k).toNat = j * cn + k := by omega
            have hx3 : 0 ≤ (j : Int) * cn := by omega
            have hx4 : (j : Int) * cn ≤ 64 := by omega
            clear hm1
            obtain ⟨b, off, rfl, hc⟩ := (hI.ex hEr).at (by omega)
            have hcell := hc _ hix
            clear hc
            have hyl : ys.length ≤ 1048576 := by
              rw [HY.out, List.length_append, gcols_len, gcol_len]
              have : k * rn ≤ 8 * 8 := Nat.mul_le_mul (by omega) hr2
              omega
            go_wp2_with (at_builtin; refine wpList_appI rfl _ _ wr rfl w.heap.size B cb ys q[j * cn + k] rfl HO.out rfl hyl hEr.size ?_)
            intro B' cb' w2 hown2 hk2
            replace hEr := hk2.ex _ hEr (Nat.le_refl _)
            replace b1r := hk2.box _ _ _ b1r (by decide)
            replace b2r := hk2.box _ _ _ b2r (by decide)
            clear hk2 c1 hcell HO
            go_wp2
            go_roundw
            case rel =>
              refine ⟨j + 1, B', cb', ys ++ [q[j * cn + k]], by omega, by go_num, by simp, ?_, hown2, hEr, b1r, b2r⟩
              show _ = _
              rw [gcol_take_succ, ← List.append_assoc, ← HY.out]
              simp [hix]
            case measure => simp [intOf]; omega
          · go_wp2
            go_roundw
            case rel =>
              obtain rfl : j = rn := by omega
              refine ⟨k + 1, B, cb, by omega, by go_num, by rw [gcols_succ, ← HY.out], ?_, hEr, b1r, b2r⟩
              rw [gcols_succ, ← HY.out]
              exact HO.out
            case measure => simp [intOf]; omega
      · have c2 := b2r.cell
        have f2 := b2r.frozen
        obtain rfl : k = cn := by omega
        go_wp2
        refine bodyPost_ret (v := .tuple #[.agg #[.int .i64 k, .int .i64 rn, .slice B (gcols rn k q k).length cb], .bool true]) (by simp [results, Try.results27, go_sem, *]) rfl ?_
        rw [HG.out]
        refine ⟨B, cb, rfl, ?_, ((hEr.setCell (by simp) _).setCell (by simp) _).setCell (by simp) _⟩
        have hne : ∀ g, (Value.slice B (gcols rn k q k).length cb).ownBlock = some g → g ≠ w.heap.size + 1 := fun g hg e => by
          subst e
          exact Own.ne HO.out b2r (by decide) hg.symm
        exact ((Own.setCell HO.out hne _).setCell hne _).setCell hne _

set_option maxHeartbeats 1600000 in
theorem iGlassTurned (r c : Int) (A : Option Addr) (q : List Int) (cap : Nat) (w : World) (hI : Ints w A q) (hl : q.length ≤ 1048576) :
    Calls Try.prog 26 #[.agg #[.int .i64 r, .int .i64 c, .slice A q.length cap]] w (GotGB w (gturn r c q)) := by
  rcases hv : gvalid r c q with _ | _
  · go_enter Try.func26, Try.ntmps26
    go_wp2_with (go_at_call 23; refine (iGlassValid _ _ _ _ _ _ ((hI.alloc _).alloc _) hl).mono ?_; rintro e w1 ⟨rfl, hx⟩; have b2 := (Box.new _ _ _).ex hx; simp only [World.size_alloc] at b2; have c2 := b2.cell; have f2 := b2.frozen)
    refine bodyPost_ret (v := .tuple #[.agg #[.int .i64 0, .int .i64 0, .slice none 0 0], .bool false]) (by simp [results, Try.results26, go_sem, *]) rfl ?_
    have hg : gturn r c q = .zero := by simp [gturn, hv]
    rw [hg]
    refine ⟨none, 0, rfl, ownI_none _ _, ?_⟩
    have hE := (((Ex.refl w).alloc _).alloc _).trans hx
    exact ((hE.setCell (by simp) _).setCell (by simp) _).setCell (by simp) _
  · obtain ⟨rn, cn, rfl, rfl, hr1, hr2, hc1, hc2, hlen, hl64⟩ := gvalid_nat hv
    have HL := Lib.hid hlen
    clear hlen
    go_enter Try.func26, Try.ntmps26
    go_wp2_with (go_at_call 23; refine (iGlassValid _ _ _ _ _ _ ((hI.alloc _).alloc _) hl).mono ?_; rintro e w1 ⟨rfl, hx⟩; have hE := (((Ex.refl w).alloc _).alloc _).trans hx; have b2 := (Box.new _ _ _).ex hx; have b1 := ((Box.new _ _ _).alloc _).ex hx;  simp only [World.size_alloc] at b2; have c2 := b2.cell; have c1 := b1.cell; have z1 := b1.lt; have z2 := b2.lt)
    have hg : gturn rn cn q = ⟨true, cn, rn, gcols rn cn q cn⟩ := by simp [gturn, hv, gturnQ]
    have HG := Lib.hid hg
    clear hg hv hx c1 c2
    have hw1 : w1.heap.size + 1 = (w1.alloc (.cells #[] 3)).heap.size := by simp
    have b4 := Box.new (w1.alloc (.cells #[] 3)) #[.int .i64 cn, .int .i64 rn, .slice (some ⟨w1.heap.size, 0, none⟩) 0 0] 27
    rw [← hw1] at b4
    clear hw1
    go_loopw [19] (fun i wr => ∃ (k : Nat) (B : Option Addr) (cb : Nat) (ys : List Int), k ≤ cn ∧ i = .int .i64 k ∧ Hid (ys = gcols rn cn q k) ∧ OwnI wr w.heap.size B cb ys ∧ Ex w wr ∧
        Box wr w.heap.size 27 #[.int .i64 rn, .int .i64 cn, .slice A q.length cap] ∧ Box wr (w.heap.size + 1) 27 #[.int .i64 0, .int .i64 0, .slice none 0 0] ∧
        Box wr (w1.heap.size + 1) 27 #[.int .i64 cn, .int .i64 rn, .slice B ys.length cb]) (fun i _ => cn - (intOf i).toNat)
    case atStart => exact ⟨0, _, _, [], by omega, rfl, rfl, (ownI_nil w1 w.heap.size hE.size).alloc _, (hE.alloc _).alloc _, (b1.alloc _).alloc _, (b2.alloc _).alloc _, b4⟩
    case round =>
      obtain ⟨k, B, cb, ys, hk, rfl, HY, hown, hEr, b1r, b2r, b4r⟩ := hrel
      clear hE b1 b2 b4
      have c1 := b1r.cell
      have HO := Lib.hid hown
      clear hown
      by_cases hlt : k < cn
      · go_wp2_with fail
        obtain ⟨wo, rfl⟩ : ∃ wo : World, wo = wr := ⟨_, rfl⟩
        clear c1
        go_loopw [24] (fun i wr => ∃ (j : Nat) (B : Option Addr) (cb : Nat) (ys : List Int), j ≤ rn ∧ i = .int .i64 j ∧ Hid (ys = gcols rn cn q k ++ gcol j cn q k) ∧ OwnI wr w.heap.size B cb ys ∧ Ex w wr ∧
            Box wr w.heap.size 27 #[.int .i64 rn, .int .i64 cn, .slice A q.length cap] ∧ Box wr (w.heap.size + 1) 27 #[.int .i64 0, .int .i64 0, .slice none 0 0] ∧
            Box wr (w1.heap.size + 1) 27 #[.int .i64 cn, .int .i64 rn, .slice B ys.length cb]) (fun i _ => rn - (intOf i).toNat)
        case atStart => exact ⟨0, B, cb, ys, by omega, rfl, show _ = _ by rw [HY.out]; simp [gcol], HO.out, hEr, b1r, b2r, b4r⟩
        case round =>
          clear hEr b1r b2r b4r HO HY
          obtain ⟨j, B, cb, ys, hj, rfl, HY, hown, hEr, b1r, b2r, b4r⟩ := hrel
          have HO := Lib.hid hown
          clear hown
          by_cases hjt : j < rn
          · have hix := idx_lt hjt hlt
            rw [← HL.out] at hix
            have hm1 : (j : Int) * cn = ((j * cn : Nat) : Int) := (Int.natCast_mul _ _).symm
            have hm2 : j * cn ≤ 64 := by omega
            have hx0 : 0 ≤ (j : Int) * cn + k := by omega
            have hx1 : (j : Int) * cn + k < q.length := by omega
            have hx2 : ((j : Int) * cn + k).toNat = j * cn + k := by omega
            have hx3 : 0 ≤ (j : Int) * cn := by omega
            have hx4 : (j : Int) * cn ≤ 64 := by omega
            clear hm1
            obtain ⟨b, off, rfl, hc⟩ := hI.at (by omega)
            have hcell0 := hc _ hix
            have hcell := hEr.get hcell0
            clear hc
            have c1 := b1r.cell
            have z1 := b1r.lt
            have zq := World.block_lt_of_cell? _ _ hcell
            have c4 := b4r.cell
            have f4 := b4r.frozen
            have z4 := b4r.lt
            have hyl : ys.length ≤ 1048576 := by
              rw [HY.out, List.length_append, gcols_len, gcol_len]
              have : k * rn ≤ 8 * 8 := Nat.mul_le_mul (by omega) hr2
              omega
            have hlo := hEr.size
            have hs1 := IntWalk.i64_in ((j : Int) * cn) (by omega)
            have hs2 := IntWalk.i64_in ((j : Int) * cn + k) (by omega)
            go_wp2_with fail
            go_region_law (refine step_appI rfl _ _ wr rfl w.heap.size B cb ys q[j * cn + k] rfl HO.out rfl hyl hlo ?_; intro B' cb' w2 hown2 hk2; have b1s := hk2.box _ _ _ b1r (by decide); have b4s := hk2.box _ _ _ b4r (by decide); have c4s := b4s.cell; have f4s := b4s.frozen; have hE2 := hk2.ex _ hEr (Nat.le_refl _))
            all_goals
              clear hs1 hs2 c1 c4 f4 c4s f4s hcell z1 z4 zq
              have b4t := b4s.set_ 2 (.slice B' (ys.length + 1) cb')
              have b1t := b1s.far (p := ⟨w1.heap.size + 1, 2, none⟩) (by simp; omega) (.slice B' (ys.length + 1) cb')
              have b2t := (hk2.box _ _ _ b2r (by decide)).far (p := ⟨w1.heap.size + 1, 2, none⟩) (by simp; omega) (.slice B' (ys.length + 1) cb')
              have hE3 := hE2.setCell (p := ⟨w1.heap.size + 1, 2, none⟩) (by simp; omega) (.slice B' (ys.length + 1) cb')
              have hO2 := Own.setCell (p := ⟨w1.heap.size + 1, 2, none⟩) hown2 (fun g hg e => by subst e; exact Own.ne hown2 b4s (by decide) hg.symm) (.slice B' (ys.length + 1) cb')
              clear hk2 b1s b4s hE2 hown2 b1r b2r b4r hEr
              go_wp2
              go_roundw
              case rel =>
                refine ⟨j + 1, B', cb', ys ++ [q[j * cn + k]], by omega, by go_num, ?_, hO2, hE3, b1t, b2t, ?_⟩
                · show _ = _
                  rw [gcol_take_succ, ← List.append_assoc, ← HY.out]
                  simp [hix]
                · simpa using b4t
              case measure => simp [intOf]; omega
          · go_wp2
            go_roundw
            case rel =>
              obtain rfl : j = rn := by omega
              refine ⟨k + 1, B, cb, ys, by omega, by go_num, ?_, HO.out, hEr, b1r, b2r, b4r⟩
              show _ = _
              rw [gcols_succ, ← HY.out]
            case measure => simp [intOf]; omega
      · have c2 := b2r.cell
        have f2 := b2r.frozen
        have c4 := b4r.cell
        obtain rfl : k = cn := by omega
        go_wp2
        refine bodyPost_ret (v := .tuple #[.agg #[.int .i64 k, .int .i64 rn, .slice B ys.length cb], .bool true]) (by simp [results, Try.results26, go_sem, *]) rfl ?_
        rw [HG.out]
        have hy := HY.out
        subst hy
        refine ⟨B, cb, rfl, ?_, ((hEr.setCell (by simp) _).setCell (by simp) _).setCell (by simp) _⟩
        have hne : ∀ g, (Value.slice B (gcols rn k q k).length cb).ownBlock = some g → g ≠ w.heap.size + 1 := fun g hg e => by
          subst e
          exact Own.ne HO.out b2r (by decide) hg.symm
        exact ((Own.setCell HO.out hne _).setCell hne _).setCell hne _
end Go.Proofs.Ytploaldfkfjibaa
