/-
  The walk of the law FnSorted.
-/
import Derived.Test.YtgkekdiffgmllaaDrawT
import Derived.Test.YtgkekdiffgmllaaSortP
import Derived.Test.YtgkekdiffgmllaaRead
import Derived.Deep.RegionHeld3
import Derived.Laws.StructEq
import Derived.Deep.DeepCutAuto
namespace Go.Proofs.Ytgkekdiffgmllaa
open Go.RowKit

set_option maxHeartbeats 1000000 in
theorem sameFracs_same (A B : Option Addr) (xs : List Fr) (ca cb : Nat) (w : World) (hA : Fracs w A xs) (hB : Fracs w B xs) (hl : xs.length ≤ 1048576) :
    Calls Try.prog 48 #[.slice A xs.length ca, .slice B xs.length cb] w fun e w' => e = .returned (.bool true) ∧ Ex w w' := by
  go_enter Try.func48, Try.ntmps48
  go_wp2
  go_loopw [5] (fun i wr => ∃ k : Nat, k ≤ xs.length ∧ i = .int .i64 k ∧ Ex w wr) (fun i _ => xs.length - (intOf i).toNat)
  case atStart => exact ⟨0, by omega, rfl, Ex.refl _⟩
  case round =>
    obtain ⟨k, hk, rfl, hE⟩ := hrel
    by_cases hlt : k < xs.length
    · obtain ⟨b, off, rfl, hc⟩ := (hA.ex hE).at (by omega)
      obtain ⟨c1, c2, c3⟩ := hc k hlt
      obtain ⟨b', off', rfl, hd⟩ := (hB.ex hE).at (by omega)
      obtain ⟨d1, d2, d3⟩ := hd k hlt
      generalize (xs.getD k .zero).re = r1 at c1 d1
      generalize (xs.getD k .zero).im = r2 at c2 d2
      generalize (xs.getD k .zero).den = r3 at c3 d3
      clear hc hd
      go_wp2_with fail
      go_quiet (fail)
      go_wp2
      go_roundw
      case rel => exact ⟨k + 1, by omega, by go_num, by repeat' (with_reducible first | exact Ex.refl _ | assumption | refine Ex.alloc ?_ _ | refine Ex.drewN ?_ _ | refine Ex.drew ?_ | refine Ex.setCell ?_ (by simp <;> omega) _)⟩
      case measure => simp [intOf]; omega
    · go_wp2
      go_ret
      exact ⟨rfl, hE⟩

set_option maxRecDepth 4000 in
set_option maxHeartbeats 4000000 in
theorem law_FnSorted (v : Value) (w : World) (h : IsBytes w v) : Calls Try.prog 11 #[v] w fun e w' => e = .returned (.bool true) ∧ Ex w w' := by
  obtain ⟨A, cap, xs, rfl, hl, hcap, hcap2, hS, hbs⟩ := h
  have hB : Byts w A xs := ⟨hS, hbs⟩
  clear hS hbs
  by_cases hbig : (1048576 : Int) < xs.length
  · go_enter Try.func11, Try.ntmps11
    go_wp2
    go_ret
    exact ⟨rfl, Ex.refl _⟩
  go_enter Try.func11, Try.ntmps11
  go_wp2_with fail
  refine (drawGridSorted A xs cap w hB hl hcap hcap2).mono ?_
  rintro e w1 ⟨B, cb, ys, a, rfl, hy, hF, hE⟩
  have hl2 : ys.length ≤ 1048576 := by omega
  clear hB hy hbig
  have kA := fun w hS => iGridSorted B ys cb a w hS hl2
  have sA := fun w hS => sGridSorted B ys cb a w hS hl2
  have hlen := gsorted_len ys a
  have hout := fun zs => sorted_facts (xs := ys) (a := a) (ys := zs)
  generalize gsorted ys a = g at kA sA hout hlen
  obtain ⟨zs, ok⟩ := g
  simp only at hlen
  have hlz : zs.length ≤ 1048576 := by omega
  have hFr := hF.fracs
  clear hF
  rcases ok with _ | _
  · clear hout
    obtain ⟨a1, a2, a3⟩ := a
    have KA : Hid (∀ w, Fracs w B ys → Calls Try.prog 41 #[.slice B ys.length cb, .agg #[.int .i64 a1, .int .i64 a2, .int .i64 a3]] w (GotFs w (zs, false))) := kA
    have SA : Hid (∀ w, Fracs w B ys → Calls Try.prog 40 #[.slice B ys.length cb, .agg #[.int .i64 a1, .int .i64 a2, .int .i64 a3]] w (GotFs w (zs, false))) := sA
    clear kA sA
    simp only [Fr.v]
    go_wp2_with fail
    refine (KA.out _ (hFr.alloc _)).mono ?_
    rintro e w2 ⟨G, cg, rfl, hG, hx⟩
    dsimp only at hG
    have bA := (Box.new _ _ _).ex hx
    have cA := bA.cell
    replace hx := ((Ex.refl _).alloc _).trans hx
    replace hFr := hFr.ex hx
    replace hE := hE.trans hx
    clear hx
    go_wp2_with fail
    refine (SA.out _ hFr).mono ?_
    rintro e w3 ⟨H, ch, rfl, hH, hx⟩
    dsimp only at hH
    have hG3 := (hG.ex hx).fracs
    have hH3 := hH.fracs
    replace hE := hE.trans hx
    clear hx hG hH cA bA hFr
    go_wp2_with fail
    refine (sameFracs_same G H zs cg ch _ hG3 hH3 hlz).mono ?_
    rintro e w4 ⟨rfl, hx⟩
    replace hE := hE.trans hx
    go_wp2_with fail
    refine (sameFracs_same G H zs cg ch _ (hG3.ex hx) (hH3.ex hx) hlz).mono ?_
    rintro e w5 ⟨rfl, hx⟩
    replace hE := hE.trans hx
    go_wp2
    go_ret
    exact ⟨rfl, hE⟩
  obtain ⟨hzl, hy1, hfar, hord, hagain, n, hfit, hnl, hhead⟩ := hout zs rfl
  have kf : ∀ k, k < zs.length → ∀ w, Calls Try.prog 37 #[(zs.getD k .zero).v, a.v] w fun e w' => e = .returned (.tuple #[.float .f32 (gd a (zs.getD k .zero)), .bool true]) ∧ Ex w w' := by
    intro k hk w
    have h := iGridFar (zs.getD k .zero) a w
    rw [hfar k hk] at h
    exact h
  have hcmp : ∀ k, k + 1 < zs.length → (FloatKind.f32.format.order (gd a (zs.getD (k + 1) .zero)) (gd a (zs.getD k .zero)) == some .lt) = false := by
    intro k hk
    rw [flt_lt _ _ (gd_le _ _) (gd_le _ _), decide_eq_false_iff_not]
    have := hord k hk
    unfold gk at this
    omega
  have kz : ∀ C cc w, Fracs w C zs → Calls Try.prog 41 #[.slice C zs.length cc, a.v] w (GotFs w (zs, true)) := by
    intro C cc w hS
    have h := iGridSorted C zs cc a w hS hlz
    rw [hagain] at h
    exact h
  have ky : ∀ w, Fracs w B ys → Calls Try.prog 24 #[.slice B ys.length cb, a.v] w fun e w' => e = .returned (.tuple #[.int .i64 (n : Nat), .bool true]) ∧ Ex w w' := by
    intro w hS
    have h := iGridFit B ys cb a w hS hl2
    rw [hfit] at h
    exact h
  have HZL := Lib.hid hzl
  generalize gd a = gg at kf hcmp
  clear hfar hord hagain hfit hout hzl
  obtain ⟨a1, a2, a3⟩ := a
  have KA : Hid (∀ w, Fracs w B ys → Calls Try.prog 41 #[.slice B ys.length cb, .agg #[.int .i64 a1, .int .i64 a2, .int .i64 a3]] w (GotFs w (zs, true))) := kA
  have SA : Hid (∀ w, Fracs w B ys → Calls Try.prog 40 #[.slice B ys.length cb, .agg #[.int .i64 a1, .int .i64 a2, .int .i64 a3]] w (GotFs w (zs, true))) := sA
  have KZ : Hid (∀ C cc w, Fracs w C zs → Calls Try.prog 41 #[.slice C zs.length cc, .agg #[.int .i64 a1, .int .i64 a2, .int .i64 a3]] w (GotFs w (zs, true))) := kz
  have KY : Hid (∀ w, Fracs w B ys → Calls Try.prog 24 #[.slice B ys.length cb, .agg #[.int .i64 a1, .int .i64 a2, .int .i64 a3]] w fun e w' => e = .returned (.tuple #[.int .i64 (n : Nat), .bool true]) ∧ Ex w w') := ky
  have KF := Lib.hid kf
  have KC := Lib.hid hcmp
  have HH := Lib.hid hhead
  clear kA sA kz ky kf hcmp hhead
  simp only [Fr.v]
  go_wp2_with fail
  refine (KA.out _ (hFr.alloc _)).mono ?_
  rintro e w2 ⟨G, cg, rfl, hG, hx⟩
  dsimp only at hG
  have bA := (Box.new _ _ _).ex hx
  have cA := bA.cell
  replace hx := ((Ex.refl _).alloc _).trans hx
  replace hFr := hFr.ex hx
  replace hE := hE.trans hx
  clear hx
  go_wp2_with fail
  refine (SA.out _ hFr).mono ?_
  rintro e w3 ⟨H, ch, rfl, hH, hx⟩
  dsimp only at hH
  have hG3 := (hG.ex hx).fracs
  have hH3 := hH.fracs
  replace hE := hE.trans hx
  replace hFr := hFr.ex hx
  replace bA := bA.ex hx
  clear hx hG hH cA KA SA
  go_wp2_with fail
  refine (sameFracs_same G H zs cg ch _ hG3 hH3 hlz).mono ?_
  rintro e w4 ⟨rfl, hx⟩
  replace hE := hE.trans hx
  replace hFr := hFr.ex hx
  replace hG3 := hG3.ex hx
  replace bA := bA.ex hx
  have cA := bA.cell
  clear hx hH3
  go_wp2_with fail
  refine (KY.out _ hFr).mono ?_
  rintro e w5 ⟨rfl, hx⟩
  replace hE := hE.trans hx
  replace hFr := hFr.ex hx
  replace hG3 := hG3.ex hx
  replace bA := bA.ex hx
  replace cA := bA.cell
  clear hx
  go_wp2_with fail
  refine (KZ.out G cg _ hG3).mono ?_
  rintro e w6 ⟨X, cx, rfl, hX, hx⟩
  dsimp only at hX
  have hX3 := hX.fracs
  replace hE := hE.trans hx
  replace hFr := hFr.ex hx
  replace hG3 := hG3.ex hx
  replace bA := bA.ex hx
  clear hx hX KZ KY cA
  have hz1 : 0 < zs.length := by rw [HZL.out]; omega
  obtain ⟨gb, goff, rfl, -⟩ := hG3.at hz1
  go_wp2
  go_loopw [13] (fun i wr => ∃ k : Nat, 1 ≤ k ∧ k ≤ zs.length ∧ i = .int .i64 k ∧ Ex w6 wr) (fun i _ => zs.length - (intOf i).toNat)
  case atStart => exact ⟨1, by omega, hz1, rfl, Ex.refl _⟩
  case round =>
    obtain ⟨k, hk1, hk, rfl, hEr⟩ := hrel
    by_cases hlt : k < zs.length
    · obtain ⟨j, rfl⟩ : ∃ j, k = j + 1 := ⟨k - 1, by omega⟩
      obtain ⟨gb', goff', e0, hc⟩ := (hG3.ex hEr).at hz1
      simp only [Option.some.injEq, Addr.mk.injEq, and_true] at e0
      obtain ⟨rfl, rfl⟩ := e0
      obtain ⟨c1, c2, c3⟩ := hc j (by omega)
      obtain ⟨f1, f2, f3⟩ := hc (j + 1) hlt
      have kf1 := KF.out j (by omega)
      have kf2 := KF.out (j + 1) hlt
      have kc := KC.out j hlt
      have d1 : wr.cell? ⟨w1.heap.size, 0, none⟩ = some (.int .i64 a1) := (bA.ex hEr).cell 0
      have d2 : wr.cell? ⟨w1.heap.size, 1, none⟩ = some (.int .i64 a2) := (bA.ex hEr).cell 1
      have d3 : wr.cell? ⟨w1.heap.size, 2, none⟩ = some (.int .i64 a3) := (bA.ex hEr).cell 2
      have kf3 : ∀ w, Calls Try.prog 37 #[.agg #[.int .i64 (zs.getD j .zero).re, .int .i64 (zs.getD j .zero).im, .int .i64 (zs.getD j .zero).den], .agg #[.int .i64 a1, .int .i64 a2, .int .i64 a3]] w fun e w' => e = .returned (.tuple #[.float .f32 (gg (zs.getD j .zero)), .bool true]) ∧ Ex w w' := kf1
      have kf4 : ∀ w, Calls Try.prog 37 #[.agg #[.int .i64 (zs.getD (j + 1) .zero).re, .int .i64 (zs.getD (j + 1) .zero).im, .int .i64 (zs.getD (j + 1) .zero).den], .agg #[.int .i64 a1, .int .i64 a2, .int .i64 a3]] w fun e w' => e = .returned (.tuple #[.float .f32 (gg (zs.getD (j + 1) .zero)), .bool true]) ∧ Ex w w' := kf2
      clear hc kf1 kf2
      generalize gg (zs.getD j .zero) = gu at kc kf3
      generalize gg (zs.getD (j + 1) .zero) = gv at kc kf4
      generalize (zs.getD j .zero).re = r1 at c1 kf3
      generalize (zs.getD j .zero).im = r2 at c2 kf3
      generalize (zs.getD j .zero).den = r3 at c3 kf3
      generalize (zs.getD (j + 1) .zero).re = s1 at f1 kf4
      generalize (zs.getD (j + 1) .zero).im = s2 at f2 kf4
      generalize (zs.getD (j + 1) .zero).den = s3 at f3 kf4
      have hw1 : IntKind.i64.wrap ((j : Nat) : Int) = (j : Nat) := IntWalk.i64_in _ (by omega)
      have hb1 : (0 : Int) ≤ (j : Nat) := by omega
      have hb2 : ((j : Nat) : Int) < (zs.length : Nat) := by omega
      have hb3 : (j : Int) + 1 < (zs.length : Nat) := by omega
      have hb5 : (0 : Int) ≤ (j : Int) + 1 := by omega
      have hb6 : ((j : Int) + 1).toNat = j + 1 := by omega
      have hb7 : j < zs.length := by omega
      go_wp2_with fail
      go_region_held3 (fun w' => (w'.cell? ⟨gb, goff + j * 3, none⟩ = some (.int .i64 r1) ∧ w'.cell? ⟨gb, goff + j * 3 + 1, none⟩ = some (.int .i64 r2) ∧ w'.cell? ⟨gb, goff + j * 3 + 2, none⟩ = some (.int .i64 r3)) ∧ w'.cell? ⟨w1.heap.size, 0, none⟩ = some (.int .i64 a1) ∧ w'.cell? ⟨w1.heap.size, 1, none⟩ = some (.int .i64 a2) ∧ w'.cell? ⟨w1.heap.size, 2, none⟩ = some (.int .i64 a3)) (go_keep) ((go_at_call 37; (first | (refine (kf3 wr).mono ?_) | (refine (kf3 wr.drew).mono ?_)); rintro e w7 ⟨rfl, hx4⟩; have hx5 : Ex wr w7 := (by first | exact hx4 | exact ((Ex.refl _).drew).trans hx4); have e1 := hx5.get c1; have e2 := hx5.get c2; have e3 := hx5.get c3; have e4 := hx5.get d1; have e5 := hx5.get d2; have e6 := hx5.get d3))
      replace f1 := hx5.get f1
      replace f2 := hx5.get f2
      replace f3 := hx5.get f3
      clear c1 c2 c3 d1 d2 d3 e1 e2 e3
      go_wp2_with fail
      go_region_held3 (fun w' => (w'.cell? ⟨gb, goff + (j + 1) * 3, none⟩ = some (.int .i64 s1) ∧ w'.cell? ⟨gb, goff + (j + 1) * 3 + 1, none⟩ = some (.int .i64 s2) ∧ w'.cell? ⟨gb, goff + (j + 1) * 3 + 2, none⟩ = some (.int .i64 s3)) ∧ w'.cell? ⟨w1.heap.size, 0, none⟩ = some (.int .i64 a1) ∧ w'.cell? ⟨w1.heap.size, 1, none⟩ = some (.int .i64 a2) ∧ w'.cell? ⟨w1.heap.size, 2, none⟩ = some (.int .i64 a3)) (go_keep) ((go_at_call 37; (first | (refine (kf4 w7).mono ?_) | (refine (kf4 w7.drew).mono ?_)); rintro e w8 ⟨rfl, hx6⟩; have hx7 : Ex w7 w8 := (by first | exact hx6 | exact ((Ex.refl _).drew).trans hx6); have g1 := hx7.get f1; have g2 := hx7.get f2; have g3 := hx7.get f3; have g4 := hx7.get e4; have g5 := hx7.get e5; have g6 := hx7.get e6))
      have hE8 := (hEr.trans hx5).trans hx7
      go_wp2
      go_roundw
      case rel => exact ⟨j + 1 + 1, by omega, by omega, by go_num, hE8⟩
      case measure => simp [intOf]; omega
    · have hk2 : k = zs.length := by omega
      subst hk2
      have hEw := hE.trans hEr
      have hXr := hX3.ex hEr
      have hGr := hG3.ex hEr
      obtain ⟨gb', goff', e0, hc⟩ := hGr.at hz1
      simp only [Option.some.injEq, Addr.mk.injEq, and_true] at e0
      obtain ⟨rfl, rfl⟩ := e0
      obtain ⟨c1, c2, c3⟩ := hc 0 hz1
      obtain ⟨b, off, rfl, hd⟩ := (hFr.ex hEr).at (by omega)
      obtain ⟨d1, d2, d3⟩ := hd n hnl
      rw [← HH.out] at d1 d2 d3
      generalize (zs.getD 0 .zero).re = r1 at c1 d1
      generalize (zs.getD 0 .zero).im = r2 at c2 d2
      generalize (zs.getD 0 .zero).den = r3 at c3 d3
      rw [Nat.zero_mul, Nat.add_zero] at c1 c2 c3
      have hzy : zs.length = ys.length := HZL.out
      have hzy2 : ((zs.length : Int) == (ys.length : Int)) = true := by rw [hzy]; simp
      have HS := Lib.hid (fun w' (h : Ex wr w') => sameFracs_same X (some ⟨gb, goff, none⟩) zs cx cg w' (hXr.ex h) (hGr.ex h) hlz)
      clear hc hd hzy HZL
      go_wp2_with fail
      go_region_held3 (fun w' => (w'.cell? ⟨gb, goff, none⟩ = some (.int .i64 r1) ∧ w'.cell? ⟨gb, goff + 1, none⟩ = some (.int .i64 r2) ∧ w'.cell? ⟨gb, goff + 2, none⟩ = some (.int .i64 r3)) ∧ w'.cell? ⟨b, off + n * 3, none⟩ = some (.int .i64 r1) ∧ w'.cell? ⟨b, off + n * 3 + 1, none⟩ = some (.int .i64 r2) ∧ w'.cell? ⟨b, off + n * 3 + 2, none⟩ = some (.int .i64 r3)) (go_keep) ((go_at_call 48; (first | (refine (HS.out wr (Ex.refl _)).mono ?_) | (refine (HS.out wr.drew (Ex.refl _).drew).mono ?_)); rintro e w7 ⟨rfl, hx4⟩; have hx5 : Ex wr w7 := (by first | exact hx4 | exact ((Ex.refl _).drew).trans hx4); have e1 := hx5.get c1; have e2 := hx5.get c2; have e3 := hx5.get c3; have e4 := hx5.get d1; have e5 := hx5.get d2; have e6 := hx5.get d3))
      go_wp2
      go_ret
      exact ⟨rfl, hEw.trans hx5⟩
end Go.Proofs.Ytgkekdiffgmllaa
