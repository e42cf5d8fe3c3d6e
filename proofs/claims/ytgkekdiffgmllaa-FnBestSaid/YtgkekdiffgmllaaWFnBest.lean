/-
  The walk of the law FnBest.
-/
import Derived.Test.YtgkekdiffgmllaaDrawT
import Derived.Test.YtgkekdiffgmllaaGrdBs
import Derived.Test.YtgkekdiffgmllaaBestP
import Derived.Test.YtgkekdiffgmllaaRead
import Derived.Deep.RegionHeld3
import Derived.Laws.StructEq
import Derived.Deep.DeepCutAuto
namespace Go.Proofs.Ytgkekdiffgmllaa
open Go.RowKit


set_option maxRecDepth 4000 in
set_option maxHeartbeats 4000000 in
theorem law_FnBest (v : Value) (w : World) (h : IsBytes w v) : Calls Try.prog 10 #[v] w fun e w' => e = .returned (.bool true) ∧ Ex w w' := by
  obtain ⟨A, cap, xs, rfl, hl, hcap, hcap2, hS, hbs⟩ := h
  have hB : Byts w A xs := ⟨hS, hbs⟩
  clear hS hbs
  by_cases hbig : (1048576 : Int) < xs.length
  · go_enter Try.func10, Try.ntmps10
    go_wp2
    go_ret
    exact ⟨rfl, Ex.refl _⟩
  go_enter Try.func10, Try.ntmps10
  go_wp2_with fail
  refine (drawGridBest A xs cap w hB hl hcap hcap2).mono ?_
  rintro e w1 ⟨B, cb, ys, a, rfl, hy, hF, hE⟩
  have hl2 : ys.length ≤ 1048576 := by omega
  clear hB hy hbig
  have kA := fun w hS => iGridBest B ys cb a w hS hl2
  have sA := fun w hS => sGridBest B ys cb a w hS hl2
  have hout := fun n => gbest_out (xs := ys) (a := a) (n := n)
  generalize gbest ys a = g at kA sA hout
  obtain ⟨n, ok⟩ := g
  have hFr := hF.fracs
  clear hF
  rcases ok with _ | _
  · clear hout
    obtain ⟨a1, a2, a3⟩ := a
    have KA : Hid (∀ w, Fracs w B ys → Calls Try.prog 39 #[.slice B ys.length cb, .agg #[.int .i64 a1, .int .i64 a2, .int .i64 a3]] w fun e w' => e = .returned (.tuple #[.int .i64 (n : Nat), .bool false]) ∧ Ex w w') := kA
    have SA : Hid (∀ w, Fracs w B ys → Calls Try.prog 38 #[.slice B ys.length cb, .agg #[.int .i64 a1, .int .i64 a2, .int .i64 a3]] w fun e w' => e = .returned (.tuple #[.int .i64 (n : Nat), .bool false]) ∧ Ex w w') := sA
    clear kA sA
    simp only [Fr.v]
    go_wp2_with fail
    refine (KA.out _ (hFr.alloc _)).mono ?_
    rintro e w2 ⟨rfl, hx⟩
    have bA := (Box.new _ _ _).ex hx
    have cA := bA.cell
    replace hx := ((Ex.refl _).alloc _).trans hx
    replace hFr := hFr.ex hx
    replace hE := hE.trans hx
    clear hx
    go_wp2_with fail
    refine (SA.out _ hFr).mono ?_
    rintro e w3 ⟨rfl, hx⟩
    replace hE := hE.trans hx
    go_wp2
    go_ret
    exact ⟨rfl, hE⟩
  obtain ⟨hnl, hok, hcmp, hzero⟩ := hout n rfl
  obtain ⟨fl, hfl⟩ : ∃ fl : Nat → Fr, fl = fun k => (fless (ys.getD k .zero) a).1 := ⟨_, rfl⟩
  obtain ⟨np, hnp⟩ : ∃ np : Nat → Fr, np = fun k => (npow (ys.getD k .zero) a).1 := ⟨_, rfl⟩
  obtain ⟨cc, hcc⟩ : ∃ cc : Nat → Int, cc = fun k => (fcmp (npow (ys.getD k .zero) a).1 (npow (ys.getD n .zero) a).1).1 := ⟨_, rfl⟩
  have kl : ∀ k, k < ys.length → ∀ w, Calls Try.prog 44 #[(ys.getD k .zero).v, a.v] w fun e w' => e = .returned (.tuple #[(fl k).v, .bool true]) ∧ Ex w w' := by
    intro k hk w
    have h := iFracLess (ys.getD k .zero) a w
    have e : fless (ys.getD k .zero) a = (fl k, true) := by rw [hfl]; exact Prod.ext rfl (hok k hk).1
    rw [e] at h
    exact h
  have kp : ∀ k, k < ys.length → ∀ w, Calls Try.prog 45 #[(fl k).v] w fun e w' => e = .returned (.tuple #[(np k).v, .bool true]) ∧ Ex w w' := by
    intro k hk w
    have h := iFracPower (fl k) w
    have e : fpower (fl k) = (np k, true) := by rw [hfl, hnp]; exact Prod.ext rfl (hok k hk).2
    rw [e] at h
    exact h
  have kc : ∀ k, k < ys.length → ∀ w, Calls Try.prog 46 #[(np k).v, (np n).v] w fun e w' => e = .returned (.tuple #[.int .i64 (cc k), .bool true]) ∧ Ex w w' := by
    intro k hk w
    have h := iFracCompare (np k) (np n) w
    have e : fcmp (np k) (np n) = (cc k, true) := by rw [hnp, hcc]; exact Prod.ext rfl (hcmp k hk).1
    rw [e] at h
    exact h
  have KL := Lib.hid kl
  have KP := Lib.hid kp
  have KC := Lib.hid kc
  have HC : Hid (∀ k, k < ys.length → 0 ≤ cc k ∧ (k < n → cc k ≠ 0)) := Lib.hid (by rw [hcc]; exact fun k hk => (hcmp k hk).2)
  have HZ : Hid ((np n).re = 0 ↔ ∃ k, k < ys.length ∧ ys.getD k .zero = a) := Lib.hid (by rw [hnp]; exact hzero)
  clear kl kp kc hfl hnp hcc hok hcmp hzero hout
  obtain ⟨a1, a2, a3⟩ := a
  have KA : Hid (∀ w, Fracs w B ys → Calls Try.prog 39 #[.slice B ys.length cb, .agg #[.int .i64 a1, .int .i64 a2, .int .i64 a3]] w fun e w' => e = .returned (.tuple #[.int .i64 (n : Nat), .bool true]) ∧ Ex w w') := kA
  have SA : Hid (∀ w, Fracs w B ys → Calls Try.prog 38 #[.slice B ys.length cb, .agg #[.int .i64 a1, .int .i64 a2, .int .i64 a3]] w fun e w' => e = .returned (.tuple #[.int .i64 (n : Nat), .bool true]) ∧ Ex w w') := sA
  clear kA sA
  simp only [Fr.v]
  go_wp2_with fail
  refine (KA.out _ (hFr.alloc _)).mono ?_
  rintro e w2 ⟨rfl, hx⟩
  have bA := (Box.new _ _ _).ex hx
  have cA := bA.cell
  replace hx := ((Ex.refl _).alloc _).trans hx
  replace hFr := hFr.ex hx
  replace hE := hE.trans hx
  clear hx
  go_wp2_with fail
  refine (SA.out _ hFr).mono ?_
  rintro e w3 ⟨rfl, hx⟩
  replace hE := hE.trans hx
  replace hFr := hFr.ex hx
  replace bA := bA.ex hx
  clear hx KA SA cA
  obtain ⟨b, off, rfl, hc⟩ := hFr.at (by omega)
  obtain ⟨c1, c2, c3⟩ := hc n hnl
  have kf0 : ∀ w, Calls Try.prog 44 #[.agg #[.int .i64 (ys.getD n .zero).re, .int .i64 (ys.getD n .zero).im, .int .i64 (ys.getD n .zero).den], .agg #[.int .i64 a1, .int .i64 a2, .int .i64 a3]] w fun e w' => e = .returned (.tuple #[.agg #[.int .i64 (fl n).re, .int .i64 (fl n).im, .int .i64 (fl n).den], .bool true]) ∧ Ex w w' := KL.out n hnl
  have kp0 : ∀ w, Calls Try.prog 45 #[.agg #[.int .i64 (fl n).re, .int .i64 (fl n).im, .int .i64 (fl n).den]] w fun e w' => e = .returned (.tuple #[.agg #[.int .i64 (np n).re, .int .i64 (np n).im, .int .i64 (np n).den], .bool true]) ∧ Ex w w' := KP.out n hnl
  generalize (ys.getD n .zero).re = r1 at c1 kf0
  generalize (ys.getD n .zero).im = r2 at c2 kf0
  generalize (ys.getD n .zero).den = r3 at c3 kf0
  generalize (fl n).re = f1 at kf0 kp0
  generalize (fl n).im = f2 at kf0 kp0
  generalize (fl n).den = f3 at kf0 kp0
  obtain ⟨m1, hm1⟩ : ∃ m, m = (np n).re := ⟨_, rfl⟩
  obtain ⟨m2, hm2⟩ : ∃ m, m = (np n).im := ⟨_, rfl⟩
  obtain ⟨m3, hm3⟩ : ∃ m, m = (np n).den := ⟨_, rfl⟩
  rw [← hm1, ← hm2, ← hm3] at kp0
  have HM1 := Lib.hid hm1
  have HM2 := Lib.hid hm2
  have HM3 := Lib.hid hm3
  clear hm1 hm2 hm3
  have d1 : w3.cell? ⟨w1.heap.size, 0, none⟩ = some (.int .i64 a1) := bA.cell 0
  have d2 : w3.cell? ⟨w1.heap.size, 1, none⟩ = some (.int .i64 a2) := bA.cell 1
  have d3 : w3.cell? ⟨w1.heap.size, 2, none⟩ = some (.int .i64 a3) := bA.cell 2
  have KF0 := Lib.hid kf0
  have KP0 := Lib.hid kp0
  clear hc kf0 kp0
  have zb : b < w3.heap.size := World.block_lt_of_cell? _ _ c1
  have zA2 : w1.heap.size < w3.heap.size := World.block_lt_of_cell? _ _ d1
  have nb1 : ¬ b = w3.heap.size := by omega
  have nb2 : ¬ w3.heap.size = b := by omega
  have nb3 : ¬ w1.heap.size = w3.heap.size := by omega
  have nb4 : ¬ w3.heap.size = w1.heap.size := by omega
  go_upto_region 8 with fail
  go_cut [9, 10] (fun p q wx => q = .bool true ∧ ∃ pb, p = .pointer (some ⟨pb, 0, none⟩) ∧ Box wx pb 24 #[.int .i64 f1, .int .i64 f2, .int .i64 f3] ∧ w3.heap.size ≤ pb ∧ Ex w3 wx)
  case first =>
    go_region_held3 (fun w' => (w'.cell? ⟨b, off + n * 3, none⟩ = some (.int .i64 r1) ∧ w'.cell? ⟨b, off + n * 3 + 1, none⟩ = some (.int .i64 r2) ∧ w'.cell? ⟨b, off + n * 3 + 2, none⟩ = some (.int .i64 r3)) ∧ w'.cell? ⟨w1.heap.size, 0, none⟩ = some (.int .i64 a1) ∧ w'.cell? ⟨w1.heap.size, 1, none⟩ = some (.int .i64 a2) ∧ w'.cell? ⟨w1.heap.size, 2, none⟩ = some (.int .i64 a3)) (go_keep) (first | (go_at_call 44; refine (KF0.out w3).mono ?_; rintro e w4 ⟨rfl, hx3⟩; have hx4 : Ex w3 w4 := Ex.trans (Ex.refl _) hx3; have g1 := hx4.get c1; have g2 := hx4.get c2; have g3 := hx4.get c3; have g4 := hx4.get d1; have g5 := hx4.get d2; have g6 := hx4.get d3) | (go_at_call 44; refine (KF0.out w3.drew).mono ?_; rintro e w4 ⟨rfl, hx3⟩; have hx4 : Ex w3 w4 := Ex.trans (Ex.refl _).drew hx3; have g1 := hx4.get c1; have g2 := hx4.get c2; have g3 := hx4.get c3; have g4 := hx4.get d1; have g5 := hx4.get d2; have g6 := hx4.get d3) | (go_at_call 44; refine (KF0.out (w3.alloc (.cells #[.int .i64 0, .int .i64 0, .int .i64 0] 24))).mono ?_; rintro e w4 ⟨rfl, hx3⟩; have hx4 : Ex w3 w4 := Ex.trans ((Ex.refl _).alloc _) hx3; have pz : Box w4 w3.heap.size 24 #[.int .i64 0, .int .i64 0, .int .i64 0] := Box.ex (Box.new _ _ _) hx3; have cz := pz.cell; have fz := pz.frozen; have g1 := hx4.get c1; have g2 := hx4.get c2; have g3 := hx4.get c3; have g4 := hx4.get d1; have g5 := hx4.get d2; have g6 := hx4.get d3) | (go_at_call 44; refine (KF0.out (w3.alloc (.cells #[.int .i64 0, .int .i64 0, .int .i64 0] 24)).drew).mono ?_; rintro e w4 ⟨rfl, hx3⟩; have hx4 : Ex w3 w4 := Ex.trans ((Ex.refl _).alloc _).drew hx3; have pz : Box w4 w3.heap.size 24 #[.int .i64 0, .int .i64 0, .int .i64 0] := Box.ex (Box.drew (Box.new _ _ _)) hx3; have cz := pz.cell; have fz := pz.frozen; have g1 := hx4.get c1; have g2 := hx4.get c2; have g3 := hx4.get c3; have g4 := hx4.get d1; have g5 := hx4.get d2; have g6 := hx4.get d3))
    all_goals
      go_wp2_with fail
      go_meet
      first
        | exact ⟨rfl, _, rfl, Box.new _ _ _, hx4.size, hx4.alloc _⟩
        | exact ⟨rfl, _, rfl, ((pz.set_ 0 _).set_ 1 _).set_ 2 _, Nat.le_refl _, ((hx4.setCell (Nat.le_refl _) _).setCell (Nat.le_refl _) _).setCell (Nat.le_refl _) _⟩
  case rest =>
    obtain ⟨rfl, pb, rfl, bP, hpb, hw⟩ := hcut
    replace hE := hE.trans hw
    have bA2 := bA.ex hw
    have hFr2 := hFr.ex hw
    have cP := bP.cell
    clear c1 c2 c3 d1 d2 d3 KF0 hw bA hFr zb zA2 nb1 nb2 nb3 nb4 hpb
    go_wp2_with fail
    refine (KP0.out _).mono ?_
    rintro e w5 ⟨rfl, hx⟩
    have bA5 := (bA2.ex hx).alloc (.cells #[.int .i64 m1, .int .i64 m2, .int .i64 m3] 24)
    have hFr5 := (hFr2.ex hx).alloc (.cells #[.int .i64 m1, .int .i64 m2, .int .i64 m3] 24)
    have hE5 := (hE.trans hx).alloc (.cells #[.int .i64 m1, .int .i64 m2, .int .i64 m3] 24)
    have bM5 := Box.new w5 #[.int .i64 m1, .int .i64 m2, .int .i64 m3] 24
    clear hx KP0 cP bP bA2 hFr2 hE
    go_wp2
    go_loopw [14, 13, 15, 17] (fun i s p15 p17 wr => ∃ (k : Nat) (ins : Bool), k ≤ ys.length ∧ i = .int .i64 k ∧ s = .bool ins ∧ Hid (ins = true ↔ ∃ j, j < k ∧ ys.getD j .zero = ⟨a1, a2, a3⟩) ∧ Box wr w1.heap.size 24 #[.int .i64 a1, .int .i64 a2, .int .i64 a3] ∧ Box wr w5.heap.size 24 #[.int .i64 m1, .int .i64 m2, .int .i64 m3] ∧ Fracs wr (some ⟨b, off, none⟩) ys ∧ Ex w wr) (fun i _ _ _ _ => ys.length - (intOf i).toNat)
    case atStart => exact ⟨0, false, by omega, rfl, rfl, Lib.hid ⟨fun h => (by cases h), fun ⟨j, hj, _⟩ => by omega⟩, bA5, bM5, hFr5, hE5⟩
    case round =>
      clear bA5 bM5 hFr5 hE5
      obtain ⟨k, ins, hk, rfl, rfl, HI, bAr, bMr, hFrr, hEr⟩ := hrel
      by_cases hlt : k < ys.length
      · obtain ⟨b', off', e0, hc⟩ := hFrr.at (by omega)
        simp only [Option.some.injEq, Addr.mk.injEq, and_true] at e0
        obtain ⟨rfl, rfl⟩ := e0
        obtain ⟨c1, c2, c3⟩ := hc k hlt
        have kf0 : ∀ w, Calls Try.prog 44 #[.agg #[.int .i64 (ys.getD k .zero).re, .int .i64 (ys.getD k .zero).im, .int .i64 (ys.getD k .zero).den], .agg #[.int .i64 a1, .int .i64 a2, .int .i64 a3]] w fun e w' => e = .returned (.tuple #[.agg #[.int .i64 (fl k).re, .int .i64 (fl k).im, .int .i64 (fl k).den], .bool true]) ∧ Ex w w' := KL.out k hlt
        have kp0 : ∀ w, Calls Try.prog 45 #[.agg #[.int .i64 (fl k).re, .int .i64 (fl k).im, .int .i64 (fl k).den]] w fun e w' => e = .returned (.tuple #[.agg #[.int .i64 (np k).re, .int .i64 (np k).im, .int .i64 (np k).den], .bool true]) ∧ Ex w w' := KP.out k hlt
        have kc0 : ∀ w, Calls Try.prog 46 #[.agg #[.int .i64 (np k).re, .int .i64 (np k).im, .int .i64 (np k).den], .agg #[.int .i64 (np n).re, .int .i64 (np n).im, .int .i64 (np n).den]] w fun e w' => e = .returned (.tuple #[.int .i64 (cc k), .bool true]) ∧ Ex w w' := KC.out k hlt
        rw [← HM1.out, ← HM2.out, ← HM3.out] at kc0
        have hcc := HC.out k hlt
        have hs : ((ys.getD k .zero).re = a1 ∧ (ys.getD k .zero).im = a2 ∧ (ys.getD k .zero).den = a3) ↔ ys.getD k .zero = ⟨a1, a2, a3⟩ := by
          cases hq : ys.getD k .zero with
          | mk q1 q2 q3 => simp
        have hnext : (∃ j, j < k + 1 ∧ ys.getD j .zero = ⟨a1, a2, a3⟩) ↔ ((∃ j, j < k ∧ ys.getD j .zero = ⟨a1, a2, a3⟩) ∨ ((ys.getD k .zero).re = a1 ∧ (ys.getD k .zero).im = a2 ∧ (ys.getD k .zero).den = a3)) := by
          rw [hs]
          constructor
          · rintro ⟨j, hj, h⟩
            by_cases hjk : j = k
            · subst hjk; exact .inr h
            · exact .inl ⟨j, by omega, h⟩
          · rintro (⟨j, hj, h⟩ | h)
            · exact ⟨j, by omega, h⟩
            · exact ⟨k, by omega, h⟩
        rw [← HI.out] at hnext
        generalize (ys.getD k .zero).re = r1 at c1 kf0 hnext
        generalize (ys.getD k .zero).im = r2 at c2 kf0 hnext
        generalize (ys.getD k .zero).den = r3 at c3 kf0 hnext
        generalize (fl k).re = f1 at kf0 kp0
        generalize (fl k).im = f2 at kf0 kp0
        generalize (fl k).den = f3 at kf0 kp0
        generalize (np k).re = n1 at kp0 kc0
        generalize (np k).im = n2 at kp0 kc0
        generalize (np k).den = n3 at kp0 kc0
        generalize cc k = c at kc0 hcc
        have HN := Lib.hid hnext
        have KF0 := Lib.hid kf0
        have KP0 := Lib.hid kp0
        have KC0 := Lib.hid kc0
        have HCC := Lib.hid hcc
        have d1 : wr.cell? ⟨w1.heap.size, 0, none⟩ = some (.int .i64 a1) := bAr.cell 0
        have d2 : wr.cell? ⟨w1.heap.size, 1, none⟩ = some (.int .i64 a2) := bAr.cell 1
        have d3 : wr.cell? ⟨w1.heap.size, 2, none⟩ = some (.int .i64 a3) := bAr.cell 2
        clear hc hnext hs kf0 kp0 kc0 hcc HI
        have zb : b < wr.heap.size := World.block_lt_of_cell? _ _ c1
        have zA2 : w1.heap.size < wr.heap.size := World.block_lt_of_cell? _ _ d1
        have nb1 : ¬ b = wr.heap.size := by omega
        have nb2 : ¬ wr.heap.size = b := by omega
        have nb3 : ¬ w1.heap.size = wr.heap.size := by omega
        have nb4 : ¬ wr.heap.size = w1.heap.size := by omega
        go_upto_region 14 with fail
        go_cut [15, 16] (fun p q wx => q = .bool true ∧ ∃ pb, p = .pointer (some ⟨pb, 0, none⟩) ∧ Box wx pb 24 #[.int .i64 f1, .int .i64 f2, .int .i64 f3] ∧ wr.heap.size ≤ pb ∧ Ex wr wx)
        case first =>
          go_region_held3 (fun w' => (w'.cell? ⟨b, off + k * 3, none⟩ = some (.int .i64 r1) ∧ w'.cell? ⟨b, off + k * 3 + 1, none⟩ = some (.int .i64 r2) ∧ w'.cell? ⟨b, off + k * 3 + 2, none⟩ = some (.int .i64 r3)) ∧ w'.cell? ⟨w1.heap.size, 0, none⟩ = some (.int .i64 a1) ∧ w'.cell? ⟨w1.heap.size, 1, none⟩ = some (.int .i64 a2) ∧ w'.cell? ⟨w1.heap.size, 2, none⟩ = some (.int .i64 a3)) (go_keep) (first | (go_at_call 44; refine (KF0.out wr).mono ?_; rintro e w4 ⟨rfl, hx3⟩; have hx4 : Ex wr w4 := Ex.trans (Ex.refl _) hx3; have g1 := hx4.get c1; have g2 := hx4.get c2; have g3 := hx4.get c3; have g4 := hx4.get d1; have g5 := hx4.get d2; have g6 := hx4.get d3) | (go_at_call 44; refine (KF0.out wr.drew).mono ?_; rintro e w4 ⟨rfl, hx3⟩; have hx4 : Ex wr w4 := Ex.trans (Ex.refl _).drew hx3; have g1 := hx4.get c1; have g2 := hx4.get c2; have g3 := hx4.get c3; have g4 := hx4.get d1; have g5 := hx4.get d2; have g6 := hx4.get d3) | (go_at_call 44; refine (KF0.out (wr.alloc (.cells #[.int .i64 0, .int .i64 0, .int .i64 0] 24))).mono ?_; rintro e w4 ⟨rfl, hx3⟩; have hx4 : Ex wr w4 := Ex.trans ((Ex.refl _).alloc _) hx3; have pz : Box w4 wr.heap.size 24 #[.int .i64 0, .int .i64 0, .int .i64 0] := Box.ex (Box.new _ _ _) hx3; have cz := pz.cell; have fz := pz.frozen; have g1 := hx4.get c1; have g2 := hx4.get c2; have g3 := hx4.get c3; have g4 := hx4.get d1; have g5 := hx4.get d2; have g6 := hx4.get d3) | (go_at_call 44; refine (KF0.out (wr.alloc (.cells #[.int .i64 0, .int .i64 0, .int .i64 0] 24)).drew).mono ?_; rintro e w4 ⟨rfl, hx3⟩; have hx4 : Ex wr w4 := Ex.trans ((Ex.refl _).alloc _).drew hx3; have pz : Box w4 wr.heap.size 24 #[.int .i64 0, .int .i64 0, .int .i64 0] := Box.ex (Box.drew (Box.new _ _ _)) hx3; have cz := pz.cell; have fz := pz.frozen; have g1 := hx4.get c1; have g2 := hx4.get c2; have g3 := hx4.get c3; have g4 := hx4.get d1; have g5 := hx4.get d2; have g6 := hx4.get d3))
          all_goals
            go_wp2_with fail
            go_meet
            first
              | exact ⟨rfl, _, rfl, Box.new _ _ _, hx4.size, hx4.alloc _⟩
              | exact ⟨rfl, _, rfl, ((pz.set_ 0 _).set_ 1 _).set_ 2 _, Nat.le_refl _, ((hx4.setCell (Nat.le_refl _) _).setCell (Nat.le_refl _) _).setCell (Nat.le_refl _) _⟩
        case rest =>
          obtain ⟨rfl, pb, rfl, bP, hpb, hw⟩ := hcut
          have hE2 := hEr.trans hw
          have bA2 := bAr.ex hw
          have bM2 := bMr.ex hw
          have hFr2 := hFrr.ex hw
          have cP := bP.cell
          have g1 := hw.get c1
          have g2 := hw.get c2
          have g3 := hw.get c3
          have g4 := hw.get d1
          have g5 := hw.get d2
          have g6 := hw.get d3
          clear c1 c2 c3 d1 d2 d3 KF0 hw bAr bMr hFrr hEr zb zA2 nb1 nb2 nb3 nb4 hpb
          go_wp2_with fail
          refine (KP0.out _).mono ?_
          rintro e w6 ⟨rfl, hx⟩
          have bA6 := bA2.ex hx
          have bM6 := bM2.ex hx
          have hFr6 := hFr2.ex hx
          have hE6 := hE2.trans hx
          have cM6 := bM6.cell
          have zM6 := bM6.lt
          replace g1 := hx.get g1
          replace g2 := hx.get g2
          replace g3 := hx.get g3
          replace g4 := hx.get g4
          replace g5 := hx.get g5
          replace g6 := hx.get g6
          clear hx KP0 cP bP bA2 bM2 hFr2 hE2
          go_wp2_with fail
          refine (KC0.out _).mono ?_
          rintro e w7 ⟨rfl, hx⟩
          replace hx := ((Ex.refl w6).alloc _).trans hx
          have bA7 := bA6.ex hx
          have bM7 := bM6.ex hx
          have hFr7 := hFr6.ex hx
          have hE7 := hE6.trans hx
          replace g1 := hx.get g1
          replace g2 := hx.get g2
          replace g3 := hx.get g3
          replace g4 := hx.get g4
          replace g5 := hx.get g5
          replace g6 := hx.get g6
          obtain ⟨hc0, hc1⟩ := HCC.out
          have hneg : ¬ c < 0 := by omega
          have hneg2 : decide (c < 0) = false := decide_eq_false hneg
          have HC1 := Lib.hid hc1
          clear hx KC0 cM6 zM6 bA6 bM6 hFr6 hE6 HCC hc0 hc1
          by_cases hkn : k < n
          · have hknI : ((k : Int) < (n : Int)) := by omega
            have hcz : ¬ c = 0 := HC1.out hkn
            have hcz2 : (c == 0) = false := by simpa using hcz
            have hkn2 : decide ((k : Int) < (n : Int)) = true := decide_eq_true hknI
            clear HC1
            rcases ins with _ | _
            · have HN2 := Lib.hid (HN.out)
              clear HN
              by_cases hq : r1 = a1 ∧ r2 = a2 ∧ r3 = a3
              · have HQ : Hid (∃ j, j < k + 1 ∧ ys.getD j .zero = ⟨a1, a2, a3⟩) := Lib.hid (HN2.out.2 (.inr hq))
                obtain ⟨q1, q2, q3⟩ := hq
                clear HN2
                go_wp2_with fail
                go_quiet (fail)
                go_wp2
                go_roundw
                case rel => exact ⟨k + 1, true, by omega, by go_num, rfl, Lib.hid ⟨fun _ => HQ.out, fun _ => rfl⟩, bA7.ex (by repeat' (with_reducible first | exact Ex.refl _ | assumption | refine Ex.alloc ?_ _ | refine Ex.drewN ?_ _ | refine Ex.drew ?_ | refine Ex.setCell ?_ (by simp <;> omega) _)), bM7.ex (by repeat' (with_reducible first | exact Ex.refl _ | assumption | refine Ex.alloc ?_ _ | refine Ex.drewN ?_ _ | refine Ex.drew ?_ | refine Ex.setCell ?_ (by simp <;> omega) _)), hFr7.ex (by repeat' (with_reducible first | exact Ex.refl _ | assumption | refine Ex.alloc ?_ _ | refine Ex.drewN ?_ _ | refine Ex.drew ?_ | refine Ex.setCell ?_ (by simp <;> omega) _)), by repeat' (with_reducible first | exact Ex.refl _ | assumption | refine Ex.alloc ?_ _ | refine Ex.drewN ?_ _ | refine Ex.drew ?_ | refine Ex.setCell ?_ (by simp <;> omega) _)⟩
                case measure => simp [intOf]; omega
              · have HQ : Hid (¬ ∃ j, j < k + 1 ∧ ys.getD j .zero = ⟨a1, a2, a3⟩) := Lib.hid (fun h => by rcases HN2.out.1 h with h | h; (cases h); exact hq h)
                have hd : ¬ r1 = a1 ∨ (r1 = a1 ∧ ¬ r2 = a2) ∨ (r1 = a1 ∧ r2 = a2 ∧ ¬ r3 = a3) := by
                  by_cases q1 : r1 = a1
                  · by_cases q2 : r2 = a2
                    · exact .inr (.inr ⟨q1, q2, fun q3 => hq ⟨q1, q2, q3⟩⟩)
                    · exact .inr (.inl ⟨q1, q2⟩)
                  · exact .inl q1
                clear hq HN2
                rcases hd with q1 | ⟨q1, q2⟩ | ⟨q1, q2, q3⟩
                all_goals
                  go_wp2_with fail
                  go_quiet (fail)
                  go_wp2
                  go_roundw
                  case rel => exact ⟨k + 1, false, by omega, by go_num, rfl, Lib.hid ⟨fun h => (by cases h), fun h => absurd h HQ.out⟩, bA7.ex (by repeat' (with_reducible first | exact Ex.refl _ | assumption | refine Ex.alloc ?_ _ | refine Ex.drewN ?_ _ | refine Ex.drew ?_ | refine Ex.setCell ?_ (by simp <;> omega) _)), bM7.ex (by repeat' (with_reducible first | exact Ex.refl _ | assumption | refine Ex.alloc ?_ _ | refine Ex.drewN ?_ _ | refine Ex.drew ?_ | refine Ex.setCell ?_ (by simp <;> omega) _)), hFr7.ex (by repeat' (with_reducible first | exact Ex.refl _ | assumption | refine Ex.alloc ?_ _ | refine Ex.drewN ?_ _ | refine Ex.drew ?_ | refine Ex.setCell ?_ (by simp <;> omega) _)), by repeat' (with_reducible first | exact Ex.refl _ | assumption | refine Ex.alloc ?_ _ | refine Ex.drewN ?_ _ | refine Ex.drew ?_ | refine Ex.setCell ?_ (by simp <;> omega) _)⟩
                  case measure => simp [intOf]; omega
            · have HQ : Hid (∃ j, j < k + 1 ∧ ys.getD j .zero = ⟨a1, a2, a3⟩) := Lib.hid (HN.out.2 (.inl rfl))
              clear HN
              go_wp2_with fail
              go_quiet (fail)
              go_wp2
              go_roundw
              case rel => exact ⟨k + 1, true, by omega, by go_num, rfl, Lib.hid ⟨fun _ => HQ.out, fun _ => rfl⟩, bA7.ex (by repeat' (with_reducible first | exact Ex.refl _ | assumption | refine Ex.alloc ?_ _ | refine Ex.drewN ?_ _ | refine Ex.drew ?_ | refine Ex.setCell ?_ (by simp <;> omega) _)), bM7.ex (by repeat' (with_reducible first | exact Ex.refl _ | assumption | refine Ex.alloc ?_ _ | refine Ex.drewN ?_ _ | refine Ex.drew ?_ | refine Ex.setCell ?_ (by simp <;> omega) _)), hFr7.ex (by repeat' (with_reducible first | exact Ex.refl _ | assumption | refine Ex.alloc ?_ _ | refine Ex.drewN ?_ _ | refine Ex.drew ?_ | refine Ex.setCell ?_ (by simp <;> omega) _)), by repeat' (with_reducible first | exact Ex.refl _ | assumption | refine Ex.alloc ?_ _ | refine Ex.drewN ?_ _ | refine Ex.drew ?_ | refine Ex.setCell ?_ (by simp <;> omega) _)⟩
              case measure => simp [intOf]; omega
          · have hknI : ¬ ((k : Int) < (n : Int)) := by omega
            clear HC1
            rcases ins with _ | _
            · have HN2 := Lib.hid (HN.out)
              clear HN
              by_cases hq : r1 = a1 ∧ r2 = a2 ∧ r3 = a3
              · have HQ : Hid (∃ j, j < k + 1 ∧ ys.getD j .zero = ⟨a1, a2, a3⟩) := Lib.hid (HN2.out.2 (.inr hq))
                obtain ⟨q1, q2, q3⟩ := hq
                clear HN2
                go_wp2_with fail
                go_quiet (fail)
                go_wp2
                go_roundw
                case rel => exact ⟨k + 1, true, by omega, by go_num, rfl, Lib.hid ⟨fun _ => HQ.out, fun _ => rfl⟩, bA7.ex (by repeat' (with_reducible first | exact Ex.refl _ | assumption | refine Ex.alloc ?_ _ | refine Ex.drewN ?_ _ | refine Ex.drew ?_ | refine Ex.setCell ?_ (by simp <;> omega) _)), bM7.ex (by repeat' (with_reducible first | exact Ex.refl _ | assumption | refine Ex.alloc ?_ _ | refine Ex.drewN ?_ _ | refine Ex.drew ?_ | refine Ex.setCell ?_ (by simp <;> omega) _)), hFr7.ex (by repeat' (with_reducible first | exact Ex.refl _ | assumption | refine Ex.alloc ?_ _ | refine Ex.drewN ?_ _ | refine Ex.drew ?_ | refine Ex.setCell ?_ (by simp <;> omega) _)), by repeat' (with_reducible first | exact Ex.refl _ | assumption | refine Ex.alloc ?_ _ | refine Ex.drewN ?_ _ | refine Ex.drew ?_ | refine Ex.setCell ?_ (by simp <;> omega) _)⟩
                case measure => simp [intOf]; omega
              · have HQ : Hid (¬ ∃ j, j < k + 1 ∧ ys.getD j .zero = ⟨a1, a2, a3⟩) := Lib.hid (fun h => by rcases HN2.out.1 h with h | h; (cases h); exact hq h)
                have hd : ¬ r1 = a1 ∨ (r1 = a1 ∧ ¬ r2 = a2) ∨ (r1 = a1 ∧ r2 = a2 ∧ ¬ r3 = a3) := by
                  by_cases q1 : r1 = a1
                  · by_cases q2 : r2 = a2
                    · exact .inr (.inr ⟨q1, q2, fun q3 => hq ⟨q1, q2, q3⟩⟩)
                    · exact .inr (.inl ⟨q1, q2⟩)
                  · exact .inl q1
                clear hq HN2
                rcases hd with q1 | ⟨q1, q2⟩ | ⟨q1, q2, q3⟩
                all_goals
                  go_wp2_with fail
                  go_quiet (fail)
                  go_wp2
                  go_roundw
                  case rel => exact ⟨k + 1, false, by omega, by go_num, rfl, Lib.hid ⟨fun h => (by cases h), fun h => absurd h HQ.out⟩, bA7.ex (by repeat' (with_reducible first | exact Ex.refl _ | assumption | refine Ex.alloc ?_ _ | refine Ex.drewN ?_ _ | refine Ex.drew ?_ | refine Ex.setCell ?_ (by simp <;> omega) _)), bM7.ex (by repeat' (with_reducible first | exact Ex.refl _ | assumption | refine Ex.alloc ?_ _ | refine Ex.drewN ?_ _ | refine Ex.drew ?_ | refine Ex.setCell ?_ (by simp <;> omega) _)), hFr7.ex (by repeat' (with_reducible first | exact Ex.refl _ | assumption | refine Ex.alloc ?_ _ | refine Ex.drewN ?_ _ | refine Ex.drew ?_ | refine Ex.setCell ?_ (by simp <;> omega) _)), by repeat' (with_reducible first | exact Ex.refl _ | assumption | refine Ex.alloc ?_ _ | refine Ex.drewN ?_ _ | refine Ex.drew ?_ | refine Ex.setCell ?_ (by simp <;> omega) _)⟩
                  case measure => simp [intOf]; omega
            · have HQ : Hid (∃ j, j < k + 1 ∧ ys.getD j .zero = ⟨a1, a2, a3⟩) := Lib.hid (HN.out.2 (.inl rfl))
              clear HN
              go_wp2_with fail
              go_quiet (fail)
              go_wp2
              go_roundw
              case rel => exact ⟨k + 1, true, by omega, by go_num, rfl, Lib.hid ⟨fun _ => HQ.out, fun _ => rfl⟩, bA7.ex (by repeat' (with_reducible first | exact Ex.refl _ | assumption | refine Ex.alloc ?_ _ | refine Ex.drewN ?_ _ | refine Ex.drew ?_ | refine Ex.setCell ?_ (by simp <;> omega) _)), bM7.ex (by repeat' (with_reducible first | exact Ex.refl _ | assumption | refine Ex.alloc ?_ _ | refine Ex.drewN ?_ _ | refine Ex.drew ?_ | refine Ex.setCell ?_ (by simp <;> omega) _)), hFr7.ex (by repeat' (with_reducible first | exact Ex.refl _ | assumption | refine Ex.alloc ?_ _ | refine Ex.drewN ?_ _ | refine Ex.drew ?_ | refine Ex.setCell ?_ (by simp <;> omega) _)), by repeat' (with_reducible first | exact Ex.refl _ | assumption | refine Ex.alloc ?_ _ | refine Ex.drewN ?_ _ | refine Ex.drew ?_ | refine Ex.setCell ?_ (by simp <;> omega) _)⟩
              case measure => simp [intOf]; omega
      · have hk2 : k = ys.length := by omega
        subst hk2
        have cMr := bMr.cell
        have hz : (m1 = 0) ↔ ins = true := by rw [HM1.out]; exact HZ.out.trans HI.out.symm
        clear HI HZ HM1 HM2 HM3 KL KP KC HC
        rcases ins with _ | _
        · have h0 : (m1 == 0) = false := by
            rcases h : (m1 == 0) with _ | _
            · rfl
            · have := hz.1 (by simpa using h); cases this
          clear hz
          go_wp2
          go_ret
          exact ⟨ret_bool (by simp [h0]), hEr⟩
        · have h0 : m1 = 0 := hz.2 rfl
          clear hz
          go_wp2
          go_ret
          exact ⟨ret_bool (by simp [h0]), hEr⟩
end Go.Proofs.Ytgkekdiffgmllaa
