/-
  The walk of the law FnFit.
-/
import Derived.Test.YtgkekdiffgmllaaDrawT
import Derived.Test.YtgkekdiffgmllaaGrdF
import Derived.Test.YtgkekdiffgmllaaRead
import Derived.Deep.RegionHeld3
import Derived.Laws.StructEq
import Derived.Deep.DeepCutAuto
namespace Go.Proofs.Ytgkekdiffgmllaa
open Go.RowKit

/-- What is known of an element that fits. -/
theorem gfit_out {xs : List Fr} {a : Fr} {n : Nat} (h : gfit xs a = (n, true)) : gok xs = true ∧ a.valid = true ∧ n < xs.length ∧ (∀ i, i < xs.length → fkey xs a n ≤ fkey xs a i) ∧ (∀ i, i < n → fkey xs a n < fkey xs a i) := by
  unfold gfit at h
  rcases hg : gok xs with _ | _
  · rw [hg] at h; simp at h
  rcases hv : a.valid with _ | _
  · rw [hv] at h; simp at h
  rw [hg, hv] at h
  simp at h
  have hn := (gok_out hg).2.1
  subst h
  have hle := argm_le (fkey xs a) (xs.length - 1)
  exact ⟨rfl, rfl, by omega, fun i hi => argm_least _ _ i (by omega), argm_first _ _⟩

set_option maxRecDepth 4000 in
set_option maxHeartbeats 4000000 in
theorem law_FnFit (v : Value) (w : World) (h : IsBytes w v) : Calls Try.prog 7 #[v] w fun e w' => e = .returned (.bool true) ∧ Ex w w' := by
  obtain ⟨A, cap, xs, rfl, hl, hcap, hcap2, hS, hbs⟩ := h
  have hB : Byts w A xs := ⟨hS, hbs⟩
  clear hS hbs
  by_cases hbig : (1048576 : Int) < xs.length
  · go_enter Try.func7, Try.ntmps7
    go_wp2
    go_ret
    exact ⟨rfl, Ex.refl _⟩
  go_enter Try.func7, Try.ntmps7
  go_wp2_with fail
  refine (drawGridFit A xs cap w hB hl hcap hcap2).mono ?_
  rintro e w1 ⟨B, cb, ys, a, rfl, hy, hF, hE⟩
  have hl2 : ys.length ≤ 1048576 := by omega
  clear hB hy hbig
  have kA := fun w hS => iGridFit B ys cb a w hS hl2
  have sA := fun w hS => sGridFit B ys cb a w hS hl2
  have hout := fun n => gfit_out (xs := ys) (a := a) (n := n)
  generalize gfit ys a = g at kA sA hout
  obtain ⟨n, ok⟩ := g
  have hFr := hF.fracs
  clear hF
  rcases ok with _ | _
  · clear hout
    obtain ⟨a1, a2, a3⟩ := a
    have KA : Hid (∀ w, Fracs w B ys → Calls Try.prog 24 #[.slice B ys.length cb, .agg #[.int .i64 a1, .int .i64 a2, .int .i64 a3]] w fun e w' => e = .returned (.tuple #[.int .i64 (n : Nat), .bool false]) ∧ Ex w w') := kA
    have SA : Hid (∀ w, Fracs w B ys → Calls Try.prog 21 #[.slice B ys.length cb, .agg #[.int .i64 a1, .int .i64 a2, .int .i64 a3]] w fun e w' => e = .returned (.tuple #[.int .i64 (n : Nat), .bool false]) ∧ Ex w w') := sA
    clear kA sA
    simp only [Fr.v]
    go_wp2_with fail
    refine (KA.out _ (hFr.alloc _)).mono ?_
    rintro e w2 ⟨rfl, hx⟩
    have bA := (Box.new _ _ _).ex hx
    have cA := bA.cell
    replace hx := ((Ex.refl _).alloc _).trans hx
    replace hFr := hFr.ex hx
    replace hE := hE.trans hx
    clear hx
    go_wp2_with fail
    refine (SA.out _ hFr).mono ?_
    rintro e w3 ⟨rfl, hx⟩
    replace hE := hE.trans hx
    go_wp2
    go_ret
    exact ⟨rfl, hE⟩
  obtain ⟨hgok, hav, hnl, hmin, hfst⟩ := hout n rfl
  obtain ⟨hall, -, -⟩ := gok_out hgok
  have kf : ∀ k, k < ys.length → ∀ w, Calls Try.prog 37 #[(ys.getD k .zero).v, a.v] w fun e w' => e = .returned (.tuple #[.float .f32 (gfarN (ys.getD k .zero) a), .bool true]) ∧ Ex w w' := by
    intro k hk w
    have := iGridFar (ys.getD k .zero) a w
    rw [gfar_ok (hall k hk) hav] at this
    exact this
  have kle : ∀ k, k < ys.length → gfarN (ys.getD k .zero) a ≤ Ieee.single.infRung := fun k hk => gfarN_le (hall k hk) hav
  have kself : ∀ k, k < ys.length → ys.getD k .zero = a → gfarN (ys.getD k .zero) a = 0 := fun k hk h => by rw [h]; exact gfarN_self hav
  obtain ⟨g, hgd⟩ : ∃ g : Nat → Nat, g = fun k => gfarN (ys.getD k .zero) a := ⟨_, rfl⟩
  have hfk : fkey ys a = fun k => skey (g k) := by rw [hgd]; rfl
  rw [hfk] at hmin hfst
  have KF : Hid (∀ k, k < ys.length → ∀ w, Calls Try.prog 37 #[(ys.getD k .zero).v, a.v] w fun e w' => e = .returned (.tuple #[.float .f32 (g k), .bool true]) ∧ Ex w w') := by rw [hgd]; exact kf
  have KL : Hid (∀ k, k < ys.length → g k ≤ Ieee.single.infRung) := by rw [hgd]; exact kle
  have KS : Hid (∀ k, k < ys.length → ys.getD k .zero = a → g k = 0) := by rw [hgd]; exact kself
  have HMin : Hid (∀ i, i < ys.length → skey (g n) ≤ skey (g i)) := hmin
  have HFst : Hid (∀ i, i < n → skey (g n) < skey (g i)) := hfst
  clear kf kle kself hfk hgd hmin hfst hall hout hgok hav
  obtain ⟨a1, a2, a3⟩ := a
  have KA : Hid (∀ w, Fracs w B ys → Calls Try.prog 24 #[.slice B ys.length cb, .agg #[.int .i64 a1, .int .i64 a2, .int .i64 a3]] w fun e w' => e = .returned (.tuple #[.int .i64 (n : Nat), .bool true]) ∧ Ex w w') := kA
  have SA : Hid (∀ w, Fracs w B ys → Calls Try.prog 21 #[.slice B ys.length cb, .agg #[.int .i64 a1, .int .i64 a2, .int .i64 a3]] w fun e w' => e = .returned (.tuple #[.int .i64 (n : Nat), .bool true]) ∧ Ex w w') := sA
  clear kA sA
  simp only [Fr.v]
  go_wp2_with fail
  refine (KA.out _ (hFr.alloc _)).mono ?_
  rintro e w2 ⟨rfl, hx⟩
  have bA := (Box.new _ _ _).ex hx
  have cA := bA.cell
  replace hx := ((Ex.refl _).alloc _).trans hx
  replace hFr := hFr.ex hx
  replace hE := hE.trans hx
  clear hx
  go_wp2_with fail
  refine (SA.out _ hFr).mono ?_
  rintro e w3 ⟨rfl, hx⟩
  replace hE := hE.trans hx
  replace hFr := hFr.ex hx
  replace bA := bA.ex hx
  clear hx KA SA cA
  obtain ⟨b, off, rfl, hc⟩ := hFr.at (by omega)
  obtain ⟨c1, c2, c3⟩ := hc n hnl
  have kf0 : ∀ w, Calls Try.prog 37 #[.agg #[.int .i64 (ys.getD n .zero).re, .int .i64 (ys.getD n .zero).im, .int .i64 (ys.getD n .zero).den], .agg #[.int .i64 a1, .int .i64 a2, .int .i64 a3]] w fun e w' => e = .returned (.tuple #[.float .f32 (g n), .bool true]) ∧ Ex w w' := KF.out n hnl
  generalize (ys.getD n .zero).re = r1 at c1 kf0
  generalize (ys.getD n .zero).im = r2 at c2 kf0
  generalize (ys.getD n .zero).den = r3 at c3 kf0
  have d1 : w3.cell? ⟨w1.heap.size, 0, none⟩ = some (.int .i64 a1) := bA.cell 0
  have d2 : w3.cell? ⟨w1.heap.size, 1, none⟩ = some (.int .i64 a2) := bA.cell 1
  have d3 : w3.cell? ⟨w1.heap.size, 2, none⟩ = some (.int .i64 a3) := bA.cell 2
  clear hc
  go_upto_region 8 with fail
  go_cut [9, 10] (fun l q wx => l = .float .f32 (g n) ∧ q = .bool true ∧ Ex w3 wx)
  case first =>
    go_region_held3 (fun w' => (w'.cell? ⟨b, off + n * 3, none⟩ = some (.int .i64 r1) ∧ w'.cell? ⟨b, off + n * 3 + 1, none⟩ = some (.int .i64 r2) ∧ w'.cell? ⟨b, off + n * 3 + 2, none⟩ = some (.int .i64 r3)) ∧ w'.cell? ⟨w1.heap.size, 0, none⟩ = some (.int .i64 a1) ∧ w'.cell? ⟨w1.heap.size, 1, none⟩ = some (.int .i64 a2) ∧ w'.cell? ⟨w1.heap.size, 2, none⟩ = some (.int .i64 a3)) (go_keep) ((go_at_call 37; (first | (refine (kf0 w3).mono ?_) | (refine (kf0 w3.drew).mono ?_)); rintro e w4 ⟨rfl, hx3⟩; have hx4 : Ex w3 w4 := (by first | exact hx3 | exact ((Ex.refl _).drew).trans hx3); have e1 := hx4.get c1; have e2 := hx4.get c2; have e3 := hx4.get c3; have e4 := hx4.get d1; have e5 := hx4.get d2; have e6 := hx4.get d3))
    all_goals
      go_wp2_with fail
      go_meet
      exact ⟨rfl, rfl, by repeat' (with_reducible first | exact Ex.refl _ | assumption | refine Ex.alloc ?_ _ | refine Ex.drewN ?_ _ | refine Ex.drew ?_ | refine Ex.setCell ?_ (by simp <;> omega) _)⟩
  case rest =>
    obtain ⟨rfl, rfl, hw⟩ := hcut
    replace hE := hE.trans hw
    have bA2 := bA.ex hw
    have hFr2 := hFr.ex hw
    clear c1 c2 c3 d1 d2 d3 kf0 hw bA hFr
    go_wp2
    go_loopw [12, 11] (fun i s wr => ∃ (k : Nat) (ins : Bool), k ≤ ys.length ∧ i = .int .i64 k ∧ s = .bool ins ∧ Hid (ins = true → skey (g n) = 0) ∧ Box wr w1.heap.size 24 #[.int .i64 a1, .int .i64 a2, .int .i64 a3] ∧ Fracs wr (some ⟨b, off, none⟩) ys ∧ Ex w wr) (fun i _ _ => ys.length - (intOf i).toNat)
    case atStart => exact ⟨0, false, by omega, rfl, rfl, (fun h => by cases h), bA2, hFr2, hE⟩
    case round =>
      clear bA2 hFr2 hE
      obtain ⟨k, ins, hk, rfl, rfl, HI, bAr, hFrr, hEr⟩ := hrel
      by_cases hlt : k < ys.length
      · obtain ⟨b', off', e0, hc⟩ := hFrr.at (by omega)
        simp only [Option.some.injEq, Addr.mk.injEq, and_true] at e0
        obtain ⟨rfl, rfl⟩ := e0
        obtain ⟨c1, c2, c3⟩ := hc k hlt
        have kf0 : ∀ w, Calls Try.prog 37 #[.agg #[.int .i64 (ys.getD k .zero).re, .int .i64 (ys.getD k .zero).im, .int .i64 (ys.getD k .zero).den], .agg #[.int .i64 a1, .int .i64 a2, .int .i64 a3]] w fun e w' => e = .returned (.tuple #[.float .f32 (g k), .bool true]) ∧ Ex w w' := KF.out k hlt
        have hs : (ys.getD k .zero).re = a1 → (ys.getD k .zero).im = a2 → (ys.getD k .zero).den = a3 → g k = 0 := fun h1 h2 h3 => KS.out k hlt (by
          cases hq : ys.getD k .zero with
          | mk q1 q2 q3 => rw [hq] at h1 h2 h3; simp only at h1 h2 h3; rw [h1, h2, h3])
        generalize (ys.getD k .zero).re = r1 at c1 kf0 hs
        generalize (ys.getD k .zero).im = r2 at c2 kf0 hs
        generalize (ys.getD k .zero).den = r3 at c3 kf0 hs
        have hle := HMin.out k hlt
        have hx1 : (FloatKind.f32.format.order (g k) (g n) == some .lt) = false := by rw [flt_lt _ _ (KL.out k hlt) (KL.out n hnl)]; simp; omega
        have hx2 : k < n → (FloatKind.f32.format.order (g k) (g n) == some .eq) = false := fun h => by
          have := HFst.out k h
          rw [flt_eq _ _ (KL.out k hlt) (KL.out n hnl)]; simp; omega
        have hz : r1 = a1 → r2 = a2 → r3 = a3 → skey (g n) = 0 := fun h1 h2 h3 => by
          rw [hs h1 h2 h3, skey_zero] at hle; omega
        have HZ := Lib.hid hz
        have HX2 := Lib.hid hx2
        have d1 : wr.cell? ⟨w1.heap.size, 0, none⟩ = some (.int .i64 a1) := bAr.cell 0
        have d2 : wr.cell? ⟨w1.heap.size, 1, none⟩ = some (.int .i64 a2) := bAr.cell 1
        have d3 : wr.cell? ⟨w1.heap.size, 2, none⟩ = some (.int .i64 a3) := bAr.cell 2
        generalize g k = x at kf0 hx1 HX2
        clear hc hz hx2 hs hle
        go_upto_region 13 with fail
        go_cut [13, 14] (fun l q wx => l = .float .f32 x ∧ q = .bool true ∧ Ex wr wx)
        case first =>
          go_region_held3 (fun w' => (w'.cell? ⟨b, off + k * 3, none⟩ = some (.int .i64 r1) ∧ w'.cell? ⟨b, off + k * 3 + 1, none⟩ = some (.int .i64 r2) ∧ w'.cell? ⟨b, off + k * 3 + 2, none⟩ = some (.int .i64 r3)) ∧ w'.cell? ⟨w1.heap.size, 0, none⟩ = some (.int .i64 a1) ∧ w'.cell? ⟨w1.heap.size, 1, none⟩ = some (.int .i64 a2) ∧ w'.cell? ⟨w1.heap.size, 2, none⟩ = some (.int .i64 a3)) (go_keep) ((go_at_call 37; (first | (refine (kf0 wr).mono ?_) | (refine (kf0 wr.drew).mono ?_)); rintro e w4 ⟨rfl, hx3⟩; have hx4 : Ex wr w4 := (by first | exact hx3 | exact ((Ex.refl _).drew).trans hx3); have e1 := hx4.get c1; have e2 := hx4.get c2; have e3 := hx4.get c3; have e4 := hx4.get d1; have e5 := hx4.get d2; have e6 := hx4.get d3))
          all_goals
            go_wp2_with fail
            go_meet
            exact ⟨rfl, rfl, by repeat' (with_reducible first | exact Ex.refl _ | assumption | refine Ex.alloc ?_ _ | refine Ex.drewN ?_ _ | refine Ex.drew ?_ | refine Ex.setCell ?_ (by simp <;> omega) _)⟩
        case rest =>
          obtain ⟨rfl, rfl, hw⟩ := hcut
          have hE2 := hEr.trans hw
          have bA3 := bAr.ex hw
          have hFr3 := hFrr.ex hw
          have f1 := hw.get c1
          have f2 := hw.get c2
          have f3 := hw.get c3
          have f4 := hw.get d1
          have f5 := hw.get d2
          have f6 := hw.get d3
          clear c1 c2 c3 d1 d2 d3 kf0 hw bAr hFrr hEr
          by_cases hkn : k < n
          · have hx2 := HX2.out hkn
            have hknI : ((k : Int) < (n : Int)) := by omega
            clear HX2
            rcases ins with _ | _
            · by_cases hq : r1 = a1 ∧ r2 = a2 ∧ r3 = a3
              · have HQ := Lib.hid (HZ.out hq.1 hq.2.1 hq.2.2)
                obtain ⟨q1, q2, q3⟩ := hq
                clear HZ
                go_wp2_with fail
                go_quiet (fail)
                go_wp2
                go_roundw
                case rel => exact ⟨k + 1, true, by omega, by go_num, rfl, Lib.hid (fun _ => HQ.out), bA3.ex (by repeat' (with_reducible first | exact Ex.refl _ | assumption | refine Ex.alloc ?_ _ | refine Ex.drewN ?_ _ | refine Ex.drew ?_ | refine Ex.setCell ?_ (by simp <;> omega) _)), hFr3.ex (by repeat' (with_reducible first | exact Ex.refl _ | assumption | refine Ex.alloc ?_ _ | refine Ex.drewN ?_ _ | refine Ex.drew ?_ | refine Ex.setCell ?_ (by simp <;> omega) _)), by repeat' (with_reducible first | exact Ex.refl _ | assumption | refine Ex.alloc ?_ _ | refine Ex.drewN ?_ _ | refine Ex.drew ?_ | refine Ex.setCell ?_ (by simp <;> omega) _)⟩
                case measure => simp [intOf]; omega
              · have hd : ¬ r1 = a1 ∨ (r1 = a1 ∧ ¬ r2 = a2) ∨ (r1 = a1 ∧ r2 = a2 ∧ ¬ r3 = a3) := by
                  by_cases q1 : r1 = a1
                  · by_cases q2 : r2 = a2
                    · exact .inr (.inr ⟨q1, q2, fun q3 => hq ⟨q1, q2, q3⟩⟩)
                    · exact .inr (.inl ⟨q1, q2⟩)
                  · exact .inl q1
                clear hq HZ
                rcases hd with q1 | ⟨q1, q2⟩ | ⟨q1, q2, q3⟩
                all_goals
                  go_wp2_with fail
                  go_quiet (fail)
                  go_wp2
                  go_roundw
                  case rel => exact ⟨k + 1, false, by omega, by go_num, rfl, Lib.hid (fun h => by cases h), bA3.ex (by repeat' (with_reducible first | exact Ex.refl _ | assumption | refine Ex.alloc ?_ _ | refine Ex.drewN ?_ _ | refine Ex.drew ?_ | refine Ex.setCell ?_ (by simp <;> omega) _)), hFr3.ex (by repeat' (with_reducible first | exact Ex.refl _ | assumption | refine Ex.alloc ?_ _ | refine Ex.drewN ?_ _ | refine Ex.drew ?_ | refine Ex.setCell ?_ (by simp <;> omega) _)), by repeat' (with_reducible first | exact Ex.refl _ | assumption | refine Ex.alloc ?_ _ | refine Ex.drewN ?_ _ | refine Ex.drew ?_ | refine Ex.setCell ?_ (by simp <;> omega) _)⟩
                  case measure => simp [intOf]; omega
            · have HI2 := Lib.hid (HI.out rfl)
              clear HI
              go_wp2_with fail
              go_quiet (fail)
              go_wp2
              go_roundw
              case rel => exact ⟨k + 1, true, by omega, by go_num, rfl, Lib.hid (fun _ => HI2.out), bA3.ex (by repeat' (with_reducible first | exact Ex.refl _ | assumption | refine Ex.alloc ?_ _ | refine Ex.drewN ?_ _ | refine Ex.drew ?_ | refine Ex.setCell ?_ (by simp <;> omega) _)), hFr3.ex (by repeat' (with_reducible first | exact Ex.refl _ | assumption | refine Ex.alloc ?_ _ | refine Ex.drewN ?_ _ | refine Ex.drew ?_ | refine Ex.setCell ?_ (by simp <;> omega) _)), by repeat' (with_reducible first | exact Ex.refl _ | assumption | refine Ex.alloc ?_ _ | refine Ex.drewN ?_ _ | refine Ex.drew ?_ | refine Ex.setCell ?_ (by simp <;> omega) _)⟩
              case measure => simp [intOf]; omega
          · clear HX2
            have hknI : ¬ ((k : Int) < (n : Int)) := by omega
            rcases ins with _ | _
            · by_cases hq : r1 = a1 ∧ r2 = a2 ∧ r3 = a3
              · have HQ := Lib.hid (HZ.out hq.1 hq.2.1 hq.2.2)
                obtain ⟨q1, q2, q3⟩ := hq
                clear HZ
                go_wp2_with fail
                go_quiet (fail)
                go_wp2
                go_roundw
                case rel => exact ⟨k + 1, true, by omega, by go_num, rfl, Lib.hid (fun _ => HQ.out), bA3.ex (by repeat' (with_reducible first | exact Ex.refl _ | assumption | refine Ex.alloc ?_ _ | refine Ex.drewN ?_ _ | refine Ex.drew ?_ | refine Ex.setCell ?_ (by simp <;> omega) _)), hFr3.ex (by repeat' (with_reducible first | exact Ex.refl _ | assumption | refine Ex.alloc ?_ _ | refine Ex.drewN ?_ _ | refine Ex.drew ?_ | refine Ex.setCell ?_ (by simp <;> omega) _)), by repeat' (with_reducible first | exact Ex.refl _ | assumption | refine Ex.alloc ?_ _ | refine Ex.drewN ?_ _ | refine Ex.drew ?_ | refine Ex.setCell ?_ (by simp <;> omega) _)⟩
                case measure => simp [intOf]; omega
              · have hd : ¬ r1 = a1 ∨ (r1 = a1 ∧ ¬ r2 = a2) ∨ (r1 = a1 ∧ r2 = a2 ∧ ¬ r3 = a3) := by
                  by_cases q1 : r1 = a1
                  · by_cases q2 : r2 = a2
                    · exact .inr (.inr ⟨q1, q2, fun q3 => hq ⟨q1, q2, q3⟩⟩)
                    · exact .inr (.inl ⟨q1, q2⟩)
                  · exact .inl q1
                clear hq HZ
                rcases hd with q1 | ⟨q1, q2⟩ | ⟨q1, q2, q3⟩
                all_goals
                  go_wp2_with fail
                  go_quiet (fail)
                  go_wp2
                  go_roundw
                  case rel => exact ⟨k + 1, false, by omega, by go_num, rfl, Lib.hid (fun h => by cases h), bA3.ex (by repeat' (with_reducible first | exact Ex.refl _ | assumption | refine Ex.alloc ?_ _ | refine Ex.drewN ?_ _ | refine Ex.drew ?_ | refine Ex.setCell ?_ (by simp <;> omega) _)), hFr3.ex (by repeat' (with_reducible first | exact Ex.refl _ | assumption | refine Ex.alloc ?_ _ | refine Ex.drewN ?_ _ | refine Ex.drew ?_ | refine Ex.setCell ?_ (by simp <;> omega) _)), by repeat' (with_reducible first | exact Ex.refl _ | assumption | refine Ex.alloc ?_ _ | refine Ex.drewN ?_ _ | refine Ex.drew ?_ | refine Ex.setCell ?_ (by simp <;> omega) _)⟩
                  case measure => simp [intOf]; omega
            · have HI2 := Lib.hid (HI.out rfl)
              clear HI
              go_wp2_with fail
              go_quiet (fail)
              go_wp2
              go_roundw
              case rel => exact ⟨k + 1, true, by omega, by go_num, rfl, Lib.hid (fun _ => HI2.out), bA3.ex (by repeat' (with_reducible first | exact Ex.refl _ | assumption | refine Ex.alloc ?_ _ | refine Ex.drewN ?_ _ | refine Ex.drew ?_ | refine Ex.setCell ?_ (by simp <;> omega) _)), hFr3.ex (by repeat' (with_reducible first | exact Ex.refl _ | assumption | refine Ex.alloc ?_ _ | refine Ex.drewN ?_ _ | refine Ex.drew ?_ | refine Ex.setCell ?_ (by simp <;> omega) _)), by repeat' (with_reducible first | exact Ex.refl _ | assumption | refine Ex.alloc ?_ _ | refine Ex.drewN ?_ _ | refine Ex.drew ?_ | refine Ex.setCell ?_ (by simp <;> omega) _)⟩
              case measure => simp [intOf]; omega
      · have hfin : ins = true → (FloatKind.f32.format.order (g n) 0 == some .eq) = true := fun h => by
          rw [flt_eq (g n) 0 (KL.out n hnl) (Nat.zero_le _), HI.out h, skey_zero]; rfl
        rcases ins with _ | _
        · clear hfin HI
          go_wp2
          go_ret
          exact ⟨rfl, hEr⟩
        · have hf := hfin rfl
          clear hfin HI
          go_wp2
          go_ret
          exact ⟨rfl, hEr⟩
end Go.Proofs.Ytgkekdiffgmllaa
