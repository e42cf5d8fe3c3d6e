/-
  Walks: which element of a grid fits, the program's and the reference's.
-/
import Derived.Test.YtgkekdiffgmllaaGrdS
import Derived.Test.YtgkekdiffgmllaaGrdP
import Derived.Deep.RegionHeld3
import Derived.Deep.DeepCutAuto
namespace Go.Proofs.Ytgkekdiffgmllaa
open Go.RowKit

def FitGot (w : World) (r : Nat × Bool) : Ending → World → Prop := fun e w' => e = .returned (.tuple #[.int .i64 (r.1 : Nat), .bool r.2]) ∧ Ex w w'

set_option maxHeartbeats 1000000 in
theorem iGridFit (A : Option Addr) (xs : List Fr) (cap : Nat) (a : Fr) (w : World) (hS : Fracs w A xs) (hl : xs.length ≤ 1048576) :
    Calls Try.prog 24 #[.slice A xs.length cap, a.v] w (FitGot w (gfit xs a)) := by
  have k1 := fun w hS => gridOk_any A xs cap w hS hl
  rcases hg : gok xs with _ | _
  · have hr : gfit xs a = (0, false) := by simp [gfit, hg]
    simp only [hg] at k1
    rw [hr]
    obtain ⟨a1, a2, a3⟩ := a
    show Calls _ _ #[_, .agg #[.int .i64 a1, .int .i64 a2, .int .i64 a3]] _ _
    clear hr hg
    have K1 := Lib.hid k1
    clear k1
    go_enter Try.func24, Try.ntmps24
    go_wp2_with fail
    refine (K1.out _ (hS.alloc _)).mono ?_
    rintro e w1 ⟨rfl, hx⟩
    go_wp2
    refine bodyPost_ret (v := .tuple #[.int .i64 0, .bool false]) ?_ rfl ⟨rfl, ?_⟩
    · simp [results, Try.results24, go_sem]
    · exact ((Ex.refl _).alloc _).trans hx
  have k2 := fun w => iFracValid a.re a.im a.den w
  rcases hv : a.valid with _ | _
  · have hr : gfit xs a = (0, false) := by simp [gfit, hv]
    have hv' : fvalid a.re a.im a.den = false := hv
    simp only [hg] at k1
    simp only [hv'] at k2
    rw [hr]
    obtain ⟨a1, a2, a3⟩ := a
    show Calls _ _ #[_, .agg #[.int .i64 a1, .int .i64 a2, .int .i64 a3]] _ _
    clear hr hg hv hv'
    have K1 := Lib.hid k1
    have K2 := Lib.hid k2
    clear k1 k2
    go_enter Try.func24, Try.ntmps24
    go_wp2_with fail
    refine (K1.out _ (hS.alloc _)).mono ?_
    rintro e w1 ⟨rfl, hx⟩
    have bA := (Box.new _ _ _).ex hx
    have cA := bA.cell
    replace hx := ((Ex.refl _).alloc _).trans hx
    go_wp2_with fail
    refine (K2.out _).mono ?_
    rintro e w2 ⟨rfl, hx2⟩
    go_wp2
    refine bodyPost_ret (v := .tuple #[.int .i64 0, .bool false]) ?_ rfl ⟨rfl, ?_⟩
    · simp [results, Try.results24, go_sem]
    · exact hx.trans hx2
  have hr : gfit xs a = (argm (fkey xs a) (xs.length - 1), true) := by simp [gfit, hg, hv]
  have hv' : fvalid a.re a.im a.den = true := hv
  obtain ⟨hall, hn1, hn2⟩ := gok_out hg
  simp only [hg] at k1
  simp only [hv'] at k2
  rw [hr]
  clear hr hg hv'
  -- what is asked of each element
  have kf : ∀ k, k < xs.length → ∀ w, Calls Try.prog 37 #[(xs.getD k .zero).v, a.v] w fun e w' => e = .returned (.tuple #[.float .f32 (gfarN (xs.getD k .zero) a), .bool true]) ∧ Ex w w' := by
    intro k hk w
    have := iGridFar (xs.getD k .zero) a w
    rw [gfar_ok (hall k hk) hv] at this
    exact this
  have kle : ∀ k, k < xs.length → gfarN (xs.getD k .zero) a ≤ Ieee.single.infRung := fun k hk => gfarN_le (hall k hk) hv
  clear hall hv
  obtain ⟨g, hgd⟩ : ∃ g : Nat → Nat, g = fun k => gfarN (xs.getD k .zero) a := ⟨_, rfl⟩
  have hfk : fkey xs a = fun k => skey (g k) := by rw [hgd]; rfl
  rw [hfk]
  have kf2 : ∀ k, k < xs.length → ∀ w, Calls Try.prog 37 #[(xs.getD k .zero).v, a.v] w fun e w' => e = .returned (.tuple #[.float .f32 (g k), .bool true]) ∧ Ex w w' := by rw [hgd]; exact kf
  have kle2 : ∀ k, k < xs.length → g k ≤ Ieee.single.infRung := by rw [hgd]; exact kle
  clear kf kle hfk hgd
  obtain ⟨a1, a2, a3⟩ := a
  have KF := Lib.hid kf2
  have KL := Lib.hid kle2
  clear kf2 kle2
  show Calls _ _ #[_, .agg #[.int .i64 a1, .int .i64 a2, .int .i64 a3]] _ _
  have K1 := Lib.hid k1
  have K2 := Lib.hid k2
  clear k1 k2
  go_enter Try.func24, Try.ntmps24
  go_wp2_with fail
  refine (K1.out _ (hS.alloc _)).mono ?_
  rintro e w1 ⟨rfl, hx⟩
  have bA := (Box.new _ _ _).ex hx
  have cA := bA.cell
  replace hx := ((Ex.refl _).alloc _).trans hx
  go_wp2_with fail
  refine (K2.out _).mono ?_
  rintro e w2 ⟨rfl, hx2⟩
  replace hx := hx.trans hx2
  replace bA := bA.ex hx2
  replace cA := bA.cell
  clear hx2 K1 K2
  obtain ⟨b, off, rfl, hc⟩ := (hS.ex hx).at (by omega)
  obtain ⟨c1, c2, c3⟩ := hc 0 (by omega)
  have kf0 : ∀ w, Calls Try.prog 37 #[.agg #[.int .i64 (xs.getD 0 .zero).re, .int .i64 (xs.getD 0 .zero).im, .int .i64 (xs.getD 0 .zero).den], .agg #[.int .i64 a1, .int .i64 a2, .int .i64 a3]] w fun e w' => e = .returned (.tuple #[.float .f32 (g 0), .bool true]) ∧ Ex w w' := KF.out 0 (by omega)
  generalize (xs.getD 0 .zero).re = r1 at c1 kf0
  generalize (xs.getD 0 .zero).im = r2 at c2 kf0
  generalize (xs.getD 0 .zero).den = r3 at c3 kf0
  rw [Nat.zero_mul, Nat.add_zero] at c1 c2 c3
  have hpos : 0 < xs.length := by omega
  have d1 : w2.cell? ⟨w.heap.size, 0, none⟩ = some (.int .i64 a1) := cA 0
  have d2 : w2.cell? ⟨w.heap.size, 1, none⟩ = some (.int .i64 a2) := cA 1
  have d3 : w2.cell? ⟨w.heap.size, 2, none⟩ = some (.int .i64 a3) := cA 2
  clear cA hc
  go_wp2_with fail
  go_upto_region 4 with fail
  go_cut [7] (fun l wx => l = .float .f32 (g 0) ∧ Ex w2 wx)
  case first =>
    go_region_held3 (fun w' => (w'.cell? ⟨b, off, none⟩ = some (.int .i64 r1) ∧ w'.cell? ⟨b, off + 1, none⟩ = some (.int .i64 r2) ∧ w'.cell? ⟨b, off + 2, none⟩ = some (.int .i64 r3)) ∧ w'.cell? ⟨w.heap.size, 0, none⟩ = some (.int .i64 a1) ∧ w'.cell? ⟨w.heap.size, 1, none⟩ = some (.int .i64 a2) ∧ w'.cell? ⟨w.heap.size, 2, none⟩ = some (.int .i64 a3)) (go_keep) ((go_at_call 37; (first | (refine (kf0 w2).mono ?_) | (refine (kf0 w2.drew).mono ?_)); rintro e w3 ⟨rfl, hx3⟩; have hx4 : Ex w2 w3 := (by first | exact hx3 | exact ((Ex.refl _).drew).trans hx3); have e1 := hx4.get c1; have e2 := hx4.get c2; have e3 := hx4.get c3; have e4 := hx4.get d1; have e5 := hx4.get d2; have e6 := hx4.get d3))
    all_goals
      go_wp2_with fail
      go_meet
      exact ⟨rfl, by repeat' (with_reducible first | exact Ex.refl _ | assumption | refine Ex.alloc ?_ _ | refine Ex.drewN ?_ _ | refine Ex.drew ?_ | refine Ex.setCell ?_ (by simp <;> omega) _)⟩
  case rest =>
    obtain ⟨rfl, hw⟩ := hcut
    replace hx := hx.trans hw
    have bA2 := bA.ex hw
    clear hpos c1 c2 c3 d1 d2 d3 kf0 hw bA
    go_wp2
    go_loopw [31, 6, 7, 10] (fun i bi l f wr => ∃ (k : Nat), k ≤ xs.length ∧ i = .int .i64 k ∧ bi = .int .i64 (argm (fun k => skey (g k)) (k - 1) : Nat) ∧ l = .float .f32 (g (argm (fun k => skey (g k)) (k - 1))) ∧ Box wr w.heap.size 24 #[.int .i64 a1, .int .i64 a2, .int .i64 a3] ∧ Ex w wr) (fun i _ _ _ _ => xs.length - (intOf i).toNat)
    case atStart => exact ⟨0, by omega, rfl, rfl, rfl, bA2, hx⟩
    case round =>
      obtain ⟨k, hk, rfl, rfl, rfl, bAr, hEr⟩ := hrel
      by_cases hlt : k < xs.length
      · obtain ⟨b', off', e0, hc⟩ := (hS.ex hEr).at (by omega)
        simp only [Option.some.injEq, Addr.mk.injEq, and_true] at e0
        obtain ⟨rfl, rfl⟩ := e0
        obtain ⟨c1, c2, c3⟩ := hc k hlt
        have kf0 : ∀ w, Calls Try.prog 37 #[.agg #[.int .i64 (xs.getD k .zero).re, .int .i64 (xs.getD k .zero).im, .int .i64 (xs.getD k .zero).den], .agg #[.int .i64 a1, .int .i64 a2, .int .i64 a3]] w fun e w' => e = .returned (.tuple #[.float .f32 (g k), .bool true]) ∧ Ex w w' := KF.out k hlt
        generalize (xs.getD k .zero).re = r1 at c1 kf0
        generalize (xs.getD k .zero).im = r2 at c2 kf0
        generalize (xs.getD k .zero).den = r3 at c3 kf0
        clear hc
        have hm := argm_le (fun k => skey (g k)) (k - 1)
        have hround := argm_round (fun k => skey (g k)) k
        have hcmp := flt_lt (g k) (g (argm (fun k => skey (g k)) (k - 1))) (KL.out k hlt) (KL.out _ (by omega))
        by_cases hlt2 : skey (g k) < skey (g (argm (fun k => skey (g k)) (k - 1)))
        · rw [if_pos hlt2] at hround
          rw [decide_eq_true hlt2] at hcmp
          have e1 : g (argm (fun k => skey (g k)) (k + 1 - 1)) = g k := by rw [Nat.add_sub_cancel, hround]
          have e2 : (argm (fun k => skey (g k)) (k + 1 - 1)) = k := by rw [Nat.add_sub_cancel, hround]
          have E1 := Lib.hid e1
          have E2 := Lib.hid e2
          clear hround hlt2 e1 e2 hm
          generalize g (argm (fun k => skey (g k)) (k - 1)) = l at hcmp
          generalize (argm (fun k => skey (g k)) (k - 1)) = m
          obtain ⟨d, hd⟩ : ∃ d, d = g k := ⟨_, rfl⟩
          rw [← hd] at hcmp kf0 E1
          clear hd
          have cA := bAr.cell
          have zA := bAr.lt
          go_wp2_with fail
          refine (kf0 _).mono ?_
          rintro e w3 ⟨rfl, hx3⟩
          have bA3 := (bAr.alloc _).ex hx3
          have hE3 := (hEr.alloc _).trans hx3
          clear hx3 bAr kf0 c1 c2 c3
          go_wp2
          go_roundw
          case rel => exact ⟨k + 1, by omega, by go_num, by rw [E2.out], by rw [E1.out], bA3, hE3⟩
          case measure => simp [intOf]; omega
        · rw [if_neg hlt2] at hround
          rw [decide_eq_false hlt2] at hcmp
          have e1 : g (argm (fun k => skey (g k)) (k + 1 - 1)) = g (argm (fun k => skey (g k)) (k - 1)) := by rw [Nat.add_sub_cancel, hround]
          have e2 : (argm (fun k => skey (g k)) (k + 1 - 1)) = (argm (fun k => skey (g k)) (k - 1)) := by rw [Nat.add_sub_cancel, hround]
          have E1 := Lib.hid e1
          have E2 := Lib.hid e2
          clear hround hlt2 e1 e2 hm
          generalize g (argm (fun k => skey (g k)) (k - 1)) = l at hcmp E1
          generalize (argm (fun k => skey (g k)) (k - 1)) = m at E2
          generalize g k = d at hcmp kf0
          have cA := bAr.cell
          have zA := bAr.lt
          go_wp2_with fail
          refine (kf0 _).mono ?_
          rintro e w3 ⟨rfl, hx3⟩
          have bA3 := (bAr.alloc _).ex hx3
          have hE3 := (hEr.alloc _).trans hx3
          clear hx3 bAr kf0 c1 c2 c3
          go_wp2
          go_roundw
          case rel => exact ⟨k + 1, by omega, by go_num, by rw [E2.out], by rw [E1.out], bA3, hE3⟩
          case measure => simp [intOf]; omega
      · have hk2 : k = xs.length := by omega
        subst hk2
        go_wp2
        refine bodyPost_ret (v := .tuple #[.int .i64 (argm (fun k => skey (g k)) (xs.length - 1) : Nat), .bool true]) ?_ rfl ⟨rfl, hEr⟩
        simp [results, Try.results24, go_sem]

theorem OwnC.at {w : World} {lo : Nat} {A : Option Addr} {cap : Nat} {cs : List (Nat × Nat)} (h : OwnC w lo A cap cs) (hp : 0 < cs.length) : ∃ g, A = some ⟨g, 0, none⟩ ∧ lo ≤ g ∧ g < w.heap.size ∧
    (∀ k, k < cs.length → w.cell? ⟨g, k, none⟩ = some (.complex .f32 (cs.getD k (0, 0)).1 (cs.getD k (0, 0)).2)) ∧ (∀ k, w.frozen? ⟨g, k, none⟩ = false) := by
  obtain ⟨A', cap', hv, hA⟩ := Own.form h
  injection hv with e1 e2 e3
  subst e1; subst e3
  obtain ⟨g, rfl, hg⟩ := hA hp
  refine ⟨g, rfl, hg, (Own.lt h g rfl).2, fun k hk => ?_, fun k => World.ownsRow.frozenAt h k⟩
  rw [World.ownsRow.cellAt h k (by omega)]
  simp [sgCells, hk]

set_option maxHeartbeats 1000000 in
theorem sGridFit (A : Option Addr) (xs : List Fr) (cap : Nat) (a : Fr) (w : World) (hS : Fracs w A xs) (hl : xs.length ≤ 1048576) :
    Calls Try.prog 21 #[.slice A xs.length cap, a.v] w (FitGot w (gfit xs a)) := by
  have k1 := fun w hS => sGridSingles A xs cap w hS hl
  have k2 := fun w => sFracSingle a w
  rcases hg : gok xs with _ | _
  · have hr : gfit xs a = (0, false) := by simp [gfit, hg]
    have hr2 : gsingles xs = ([], false) := by simp [gsingles, hg]
    rw [hr2] at k1
    rw [hr]
    generalize fsingle a = f at k2
    obtain ⟨f1, f2, f3⟩ := f
    obtain ⟨a1, a2, a3⟩ := a
    show Calls _ _ #[_, .agg #[.int .i64 a1, .int .i64 a2, .int .i64 a3]] _ _
    clear hr hg hr2
    have K1 := Lib.hid k1
    have K2 := Lib.hid k2
    clear k1 k2
    go_enter Try.func21, Try.ntmps21
    go_wp2_with fail
    refine (K1.out _ (hS.alloc _)).mono ?_
    rintro e w1 ⟨B, cb, rfl, -, hx⟩
    have bA := (Box.new _ _ _).ex hx
    have cA := bA.cell
    replace hx := ((Ex.refl _).alloc _).trans hx
    go_wp2_with fail
    refine (K2.out _).mono ?_
    rintro e w2 ⟨rfl, hx2⟩
    go_wp2
    refine bodyPost_ret (v := .tuple #[.int .i64 0, .bool false]) ?_ rfl ⟨rfl, ?_⟩
    · simp [results, Try.results21, go_sem]
    · exact hx.trans hx2
  have hr2 : gsingles xs = (xs.map fsing, true) := by simp [gsingles, hg]
  rw [hr2] at k1
  clear hr2
  rcases hv : a.valid with _ | _
  · have hr : gfit xs a = (0, false) := by simp [gfit, hv]
    simp only [fsingle_no hv] at k2
    rw [hr]
    obtain ⟨a1, a2, a3⟩ := a
    show Calls _ _ #[_, .agg #[.int .i64 a1, .int .i64 a2, .int .i64 a3]] _ _
    clear hr hg hv
    generalize xs.map fsing = cs at k1
    have K1 := Lib.hid k1
    have K2 := Lib.hid k2
    clear k1 k2
    go_enter Try.func21, Try.ntmps21
    go_wp2_with fail
    refine (K1.out _ (hS.alloc _)).mono ?_
    rintro e w1 ⟨B, cb, rfl, -, hx⟩
    have bA := (Box.new _ _ _).ex hx
    have cA := bA.cell
    replace hx := ((Ex.refl _).alloc _).trans hx
    go_wp2_with fail
    refine (K2.out _).mono ?_
    rintro e w2 ⟨rfl, hx2⟩
    go_wp2
    refine bodyPost_ret (v := .tuple #[.int .i64 0, .bool false]) ?_ rfl ⟨rfl, ?_⟩
    · simp [results, Try.results21, go_sem]
    · exact hx.trans hx2
  have hr : gfit xs a = (argm (fkey xs a) (xs.length - 1), true) := by simp [gfit, hg, hv]
  obtain ⟨hall, hn1, hn2⟩ := gok_out hg
  rw [hr]
  simp only [fsingle_ok hv] at k2
  have sa := spart_sgl hv
  have kle : ∀ k, k < xs.length → gfarN (xs.getD k .zero) a ≤ Ieee.single.infRung := fun k hk => gfarN_le (hall k hk) hv
  have hkk : ∀ k, k < xs.length → ((xs.map fsing).getD k (0, 0)) = (spart (xs.getD k .zero).re (xs.getD k .zero).den, spart (xs.getD k .zero).im (xs.getD k .zero).den) := by
    intro k hk
    have e1 : (xs.map fsing).getD k (0, 0) = fsing (xs.getD k .zero) := by simp [hk]
    rw [e1]
    unfold fsing
    rw [fsingle_ok (hall k hk)]
  have kf : ∀ k, k < xs.length → ∀ w, Calls Try.prog 60 #[.complex .f32 ((xs.map fsing).getD k (0, 0)).1 ((xs.map fsing).getD k (0, 0)).2, .complex .f32 (spart a.re a.den) (spart a.im a.den)] w fun e w' => e = .returned (.float .f32 (gfarN (xs.getD k .zero) a)) ∧ w' = w := by
    intro k hk w
    rw [hkk k hk]
    have sk := spart_sgl (hall k hk)
    exact l12Far_any _ _ _ _ sk.1 sk.2 sa.1 sa.2 w
  clear hall hkk hr hg hv sa
  obtain ⟨g, hgd⟩ : ∃ g : Nat → Nat, g = fun k => gfarN (xs.getD k .zero) a := ⟨_, rfl⟩
  have hfk : fkey xs a = fun k => skey (g k) := by rw [hgd]; rfl
  rw [hfk]
  have hcl : (xs.map fsing).length = xs.length := List.length_map _
  have kf2 : ∀ k, k < xs.length → ∀ w, Calls Try.prog 60 #[.complex .f32 ((xs.map fsing).getD k (0, 0)).1 ((xs.map fsing).getD k (0, 0)).2, .complex .f32 (spart a.re a.den) (spart a.im a.den)] w fun e w' => e = .returned (.float .f32 (g k)) ∧ w' = w := by rw [hgd]; exact kf
  have kle2 : ∀ k, k < xs.length → g k ≤ Ieee.single.infRung := by rw [hgd]; exact kle
  clear kf kle hfk hgd
  generalize xs.map fsing = cs at k1 kf2 hcl
  generalize spart a.re a.den = p at k2 kf2
  generalize spart a.im a.den = q at k2 kf2
  have KF := Lib.hid kf2
  have KL := Lib.hid kle2
  clear kf2 kle2
  obtain ⟨a1, a2, a3⟩ := a
  show Calls _ _ #[_, .agg #[.int .i64 a1, .int .i64 a2, .int .i64 a3]] _ _
  have K1 := Lib.hid k1
  have K2 := Lib.hid k2
  clear k1 k2
  go_enter Try.func21, Try.ntmps21
  go_wp2_with fail
  refine (K1.out _ (hS.alloc _)).mono ?_
  rintro e w1 ⟨B, cb, rfl, hO, hx⟩
  have bA := (Box.new _ _ _).ex hx
  have cA := bA.cell
  replace hx := ((Ex.refl _).alloc _).trans hx
  go_wp2_with fail
  refine (K2.out _).mono ?_
  rintro e w2 ⟨rfl, hx2⟩
  replace hx := hx.trans hx2
  replace hO := hO.ex hx2
  obtain ⟨b, rfl, -, -, hc, -⟩ := hO.at (by omega)
  have HC := Lib.hid hc
  clear hx2 K1 K2 bA cA hO hc hS
  go_wp2
  go_loopw [11, 10] (fun i bi wr => ∃ (k : Nat), 1 ≤ k ∧ k ≤ xs.length ∧ i = .int .i64 k ∧ bi = .int .i64 (argm (fun k => skey (g k)) (k - 1) : Nat) ∧ Ex w2 wr) (fun i _ _ => xs.length - (intOf i).toNat)
  case atStart => exact ⟨1, by omega, by omega, rfl, rfl, Ex.refl _⟩
  case round =>
    obtain ⟨k, hk1, hk, rfl, rfl, hEr⟩ := hrel
    by_cases hlt : k < xs.length
    · have hm := argm_le (fun k => skey (g k)) (k - 1)
      have hround := argm_round (fun k => skey (g k)) k
      have hcmp := flt_lt (g k) (g (argm (fun k => skey (g k)) (k - 1))) (KL.out k hlt) (KL.out _ (by omega))
      have c1 := hEr.get (HC.out k (by omega))
      have c2 := hEr.get (HC.out (argm (fun k => skey (g k)) (k - 1)) (by omega))
      have f1 := KF.out k hlt
      have f2 := KF.out (argm (fun k => skey (g k)) (k - 1)) (by omega)
      have hlt' : k < cs.length := by omega
      have hm' : (argm (fun k => skey (g k)) (k - 1)) < cs.length := by omega
      by_cases hlt2 : skey (g k) < skey (g (argm (fun k => skey (g k)) (k - 1)))
      · rw [if_pos hlt2] at hround
        rw [decide_eq_true hlt2] at hcmp
        have e2 : (argm (fun k => skey (g k)) (k + 1 - 1)) = k := by rw [Nat.add_sub_cancel, hround]
        have E2 := Lib.hid e2
        clear hround hlt2 e2 hm
        generalize g (argm (fun k => skey (g k)) (k - 1)) = l at hcmp f2
        generalize (argm (fun k => skey (g k)) (k - 1)) = m at c2 f2 hm'
        generalize g k = d at hcmp f1
        generalize (cs.getD k (0, 0)).1 = x1 at c1 f1
        generalize (cs.getD k (0, 0)).2 = x2 at c1 f1
        generalize (cs.getD m (0, 0)).1 = y1 at c2 f2
        generalize (cs.getD m (0, 0)).2 = y2 at c2 f2
        have F1 := Lib.hid f1
        have F2 := Lib.hid f2
        clear f1 f2
        go_wp2
        go_quiet ((go_at_call 60; first | (with_reducible exact Calls.quiet_of_same (F1.out _)) | (with_reducible exact Calls.quiet_of_same (F2.out _))))
        go_wp2
        go_roundw
        case rel => exact ⟨k + 1, by omega, by omega, by go_num, by rw [E2.out], by repeat' (with_reducible first | exact Ex.refl _ | assumption | refine Ex.alloc ?_ _ | refine Ex.drewN ?_ _ | refine Ex.drew ?_ | refine Ex.setCell ?_ (by simp <;> omega) _)⟩
        case measure => simp [intOf]; omega
      · rw [if_neg hlt2] at hround
        rw [decide_eq_false hlt2] at hcmp
        have e2 : (argm (fun k => skey (g k)) (k + 1 - 1)) = (argm (fun k => skey (g k)) (k - 1)) := by rw [Nat.add_sub_cancel, hround]
        have E2 := Lib.hid e2
        clear hround hlt2 e2 hm
        generalize g (argm (fun k => skey (g k)) (k - 1)) = l at hcmp f2
        generalize (argm (fun k => skey (g k)) (k - 1)) = m at c2 f2 hm' E2
        generalize g k = d at hcmp f1
        generalize (cs.getD k (0, 0)).1 = x1 at c1 f1
        generalize (cs.getD k (0, 0)).2 = x2 at c1 f1
        generalize (cs.getD m (0, 0)).1 = y1 at c2 f2
        generalize (cs.getD m (0, 0)).2 = y2 at c2 f2
        have F1 := Lib.hid f1
        have F2 := Lib.hid f2
        clear f1 f2
        go_wp2
        go_quiet ((go_at_call 60; first | (with_reducible exact Calls.quiet_of_same (F1.out _)) | (with_reducible exact Calls.quiet_of_same (F2.out _))))
        go_wp2
        go_roundw
        case rel => exact ⟨k + 1, by omega, by omega, by go_num, by rw [E2.out], by repeat' (with_reducible first | exact Ex.refl _ | assumption | refine Ex.alloc ?_ _ | refine Ex.drewN ?_ _ | refine Ex.drew ?_ | refine Ex.setCell ?_ (by simp <;> omega) _)⟩
        case measure => simp [intOf]; omega
    · have hk2 : k = xs.length := by omega
      subst hk2
      go_wp2
      refine bodyPost_ret (v := .tuple #[.int .i64 (argm (fun k => skey (g k)) (xs.length - 1) : Nat), .bool true]) ?_ rfl ⟨rfl, hx.trans hEr⟩
      simp [results, Try.results21, go_sem]
end Go.Proofs.Ytgkekdiffgmllaa
