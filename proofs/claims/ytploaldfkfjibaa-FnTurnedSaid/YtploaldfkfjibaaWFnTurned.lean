/-
  The walk of the law FnTurned.
-/
import Derived.Test.YtploaldfkfjibaaDrawH
import Derived.Test.YtploaldfkfjibaaLawS
import Derived.Test.YtploaldfkfjibaaRead
import Derived.Test.YtploaldfkfjibaaGlsR
import Derived.Test.YtploaldfkfjibaaGlsT
namespace Go.Proofs.Ytploaldfkfjibaa
open Go.RowKit

set_option maxRecDepth 4000 in
set_option maxHeartbeats 2000000 in
theorem law_FnTurned (v : Value) (w : World) (h : IsBytes w v) : Calls Try.prog 4 #[v] w fun e w' => e = .returned (.bool true) ∧ Ex w w' := by
  obtain ⟨A, cap, xs, rfl, hl, hcap, hcap2, hS, hbs⟩ := h
  have hB : Byts w A xs := ⟨hS, hbs⟩
  clear hS hbs
  by_cases hbig : (1048576 : Int) < xs.length
  · go_enter Try.func4, Try.ntmps4
    go_wp2
    go_ret
    exact ⟨rfl, Ex.refl _⟩
  go_enter Try.func4, Try.ntmps4
  go_wp2_with fail
  refine (drawGlassTurned A xs cap w hB hl hcap hcap2).mono ?_
  rintro e w1 ⟨r, c, B, cb, ys, rfl, hy, hI, hx⟩
  have hE := hx
  clear hx
  have hl2 : ys.length ≤ 1048576 := by omega
  clear hB hy
  have V1 := fun B cb w hI => iGlassTurned r c B ys cb w hI hl2
  have V2 := fun B cb w hI => sGlassTurned r c B ys cb w hI hl2
  rcases hv : gvalid r c ys with _ | _
  · have e1 : gturn r c ys = ⟨false, 0, 0, []⟩ := by simp [gturn, hv, GR.zero]
    simp only [e1] at V1 V2
    clear hv e1
    go_wp2_with fail
    refine (V1 _ cb _ (hI.alloc _)).mono ?_
    rintro e w2 ⟨B1, d1, rfl, h1, hx⟩
    have b2 := (Box.new w1 _ _).ex hx
    replace hx := ((Ex.refl w1).alloc _).trans hx
    replace hE := hE.trans hx
    have cb2 := b2.cell
    have zb2 := b2.lt
    replace hI := hI.ex hx
    clear hx
    go_wp2_with fail
    refine (V2 _ cb _ (hI.alloc _)).mono ?_
    rintro e w3 ⟨B2, d2, rfl, h2, hx⟩
    have b3 := (Box.new w2 _ _).ex hx
    replace hx := ((Ex.refl w2).alloc _).trans hx
    replace hE := hE.trans hx
    replace b2 := b2.ex hx
    replace cb2 := b2.cell
    replace zb2 := b2.lt
    have cb3 := b3.cell
    have zb3 := b3.lt
    replace hI := hI.ex hx
    replace h1 := h1.ex hx
    clear hx
    go_wp2_with fail
    refine (sameGlass_same 0 0 B1 B2 [] d1 d2 _ (h1.alloc _).ints (h2.alloc _).ints (by simp)).mono ?_
    rintro e w4 ⟨rfl, hx⟩
    have b4 := (Box.new w3 _ _).ex hx
    replace hx := ((Ex.refl w3).alloc _).trans hx
    replace hE := hE.trans hx
    replace b2 := b2.ex hx
    replace cb2 := b2.cell
    replace zb2 := b2.lt
    replace b3 := b3.ex hx
    replace cb3 := b3.cell
    replace zb3 := b3.lt
    have cb4 := b4.cell
    have zb4 := b4.lt
    replace hI := hI.ex hx
    replace h1 := h1.ex hx
    replace h2 := h2.ex hx
    clear hx
    go_wp2_with fail
    refine (sameGlass_same 0 0 B1 B2 [] d1 d2 _ (h1).ints (h2).ints (by simp)).mono ?_
    rintro e w5 ⟨rfl, hx⟩
    replace hE := hE.trans hx
    replace b2 := b2.ex hx
    replace cb2 := b2.cell
    replace zb2 := b2.lt
    replace b3 := b3.ex hx
    replace cb3 := b3.cell
    replace zb3 := b3.lt
    replace b4 := b4.ex hx
    replace cb4 := b4.cell
    replace zb4 := b4.lt
    replace hI := hI.ex hx
    replace h1 := h1.ex hx
    replace h2 := h2.ex hx
    clear hx
    go_wp2
    go_ret
    exact ⟨rfl, hE⟩
  · obtain ⟨rn, cn, rfl, rfl, e3, g1, g2, g3, g4, e4, e5, -⟩ := gturn_valid hv
    have hq : (gturnQ rn cn ys).length ≤ 1048576 := by rw [gturnQ_len, Nat.mul_comm, ← e3]; exact hl2
    have hzl := gturnQ_len rn cn ys
    have hat : ∀ k i, k < cn → i < rn → (gturnQ rn cn ys).getD (k * rn + i) 0 = ys.getD (i * cn + k) 0 := fun k i hk hi => gturnQ_at ys hk hi
    simp only [e4] at V1 V2
    generalize gturnQ rn cn ys = zs at V1 V2 hq hat hzl
    have E3 := Lib.hid e3
    have EZ := Lib.hid hzl
    clear hv e3 e4 e5 hzl
    go_wp2_with fail
    refine (V1 _ cb _ (hI.alloc _)).mono ?_
    rintro e w2 ⟨B1, d1, rfl, h1, hx⟩
    have b2 := (Box.new w1 _ _).ex hx
    replace hx := ((Ex.refl w1).alloc _).trans hx
    replace hE := hE.trans hx
    have cb2 := b2.cell
    have zb2 := b2.lt
    replace hI := hI.ex hx
    clear hx
    go_wp2_with fail
    refine (V2 _ cb _ (hI.alloc _)).mono ?_
    rintro e w3 ⟨B2, d2, rfl, h2, hx⟩
    have b3 := (Box.new w2 _ _).ex hx
    replace hx := ((Ex.refl w2).alloc _).trans hx
    replace hE := hE.trans hx
    replace b2 := b2.ex hx
    replace cb2 := b2.cell
    replace zb2 := b2.lt
    have cb3 := b3.cell
    have zb3 := b3.lt
    replace hI := hI.ex hx
    replace h1 := h1.ex hx
    clear hx
    go_wp2_with fail
    refine (sameGlass_same cn rn B1 B2 zs d1 d2 _ (h1.alloc _).ints (h2.alloc _).ints hq).mono ?_
    rintro e w4 ⟨rfl, hx⟩
    have b4 := (Box.new w3 _ _).ex hx
    replace hx := ((Ex.refl w3).alloc _).trans hx
    replace hE := hE.trans hx
    replace b2 := b2.ex hx
    replace cb2 := b2.cell
    replace zb2 := b2.lt
    replace b3 := b3.ex hx
    replace cb3 := b3.cell
    replace zb3 := b3.lt
    have cb4 := b4.cell
    have zb4 := b4.lt
    replace hI := hI.ex hx
    replace h1 := h1.ex hx
    replace h2 := h2.ex hx
    clear hx
    go_wp2_with fail
    have hp1 : 0 < ys.length := by rw [E3.out]; exact Nat.mul_pos g1 g3
    have hp2 : 0 < zs.length := by rw [EZ.out]; exact Nat.mul_pos g3 g1
    obtain ⟨gb, go, rfl, hc0⟩ := hI.at hp1
    obtain ⟨hb, rfl, -, -, hd0, -⟩ := h1.at hp2
    clear V1 V2
    go_loopw [8] (fun i wr => ∃ (k : Nat), k ≤ rn ∧ i = .int .i64 k ∧ Ex w4 wr) (fun i _ => rn - (intOf i).toNat)
    case atStart => exact ⟨0, by omega, rfl, Ex.refl _⟩
    case round =>
      obtain ⟨k, hk, rfl, hxr⟩ := hrel
      have q2 := (b2.ex hxr).cell
      have q3 := (b3.ex hxr).cell
      by_cases hlt : k < rn
      · go_wp2_with fail
        clear q2 q3
        go_loopw [9] (fun i wr => ∃ (j : Nat), j ≤ cn ∧ i = .int .i64 j ∧ Ex w4 wr) (fun i _ => cn - (intOf i).toNat)
        case atStart => exact ⟨0, by omega, rfl, hxr⟩
        case round =>
          clear hxr
          obtain ⟨j, hj, rfl, hxr⟩ := hrel
          have q2 := (b2.ex hxr).cell
          have q3 := (b3.ex hxr).cell
          by_cases hjt : j < cn
          · have i1 := idx_lt hlt hjt
            have i2 := idx_lt hjt hlt
            rw [← E3.out] at i1
            rw [← EZ.out] at i2
            have k1 := hxr.get (hc0 _ i1)
            have k2 := hxr.get (hd0 _ i2)
            rw [hat j k hjt hlt] at k2
            obtain ⟨x, hx0⟩ : ∃ x, x = ys.getD (k * cn + j) 0 := ⟨_, rfl⟩
            rw [← hx0] at k1 k2
            clear hx0
            have a1 : (k : Int) * cn = ((k * cn : Nat) : Int) := (Int.natCast_mul _ _).symm
            have a2 : 0 ≤ (k : Int) * cn + j := by omega
            have a3 : (k : Int) * cn + j < ys.length := by omega
            have a4 : ((k : Int) * cn + j).toNat = k * cn + j := by omega
            have a5 := IntWalk.i64_in ((k : Int) * cn) (by omega)
            have a6 := IntWalk.i64_in ((k : Int) * cn + j) (by omega)
            have b1 : (j : Int) * rn = ((j * rn : Nat) : Int) := (Int.natCast_mul _ _).symm
            have b2 : 0 ≤ (j : Int) * rn + k := by omega
            have b3 : (j : Int) * rn + k < zs.length := by omega
            have b4 : ((j : Int) * rn + k).toNat = j * rn + k := by omega
            have b5 := IntWalk.i64_in ((j : Int) * rn) (by omega)
            have b6 := IntWalk.i64_in ((j : Int) * rn + k) (by omega)
            clear a1 b1
            go_wp2
            go_quiet (fail)
            go_wp2
            go_roundw
            case rel => exact ⟨j + 1, by omega, by go_num, hxr.drewN _⟩
            case measure => simp [intOf]; omega
          · go_wp2
            go_roundw
            case rel => exact ⟨k + 1, by omega, by go_num, hxr⟩
            case measure => simp [intOf]; omega
      · go_wp2
        go_ret
        exact ⟨rfl, hE.trans hxr⟩
end Go.Proofs.Ytploaldfkfjibaa
