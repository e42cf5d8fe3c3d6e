/-
  Walks: a grid sorted, the program's.
-/
import Derived.Test.YtgkekdiffgmllaaGrdT
import Derived.Deep.RegionHeld3
import Derived.Deep.DeepCutAuto
import Derived.Deep.CutBlock
namespace Go.Proofs.Ytgkekdiffgmllaa
open Go.RowKit

theorem gsorted_no1 {xs : List Fr} {a : Fr} (h : gok xs = false) : gsorted xs a = ([], false) := by simp [gsorted, h]
theorem gsorted_no2 {xs : List Fr} {a : Fr} (h : a.valid = false) : gsorted xs a = ([], false) := by simp [gsorted, h]
theorem gsorted_ok {xs : List Fr} {a : Fr} (h : gok xs = true) (h2 : a.valid = true) : gsorted xs a = (isort (gk a) xs, true) := by simp [gsorted, h, h2]
theorem ownF_nil {w : World} {b lo : Nat} (hb : w.heap.size = b) (hlo : lo ≤ b) : OwnF (w.alloc (.cells #[] 24)) lo (some ⟨b, 0, none⟩) 0 [] := by
  subst hb
  have := own_nil w lo 24 3 hlo
  unfold OwnF
  simpa [frCells] using this
theorem OwnF.at {w : World} {lo g cap : Nat} {ys : List Fr} (h : OwnF w lo (some ⟨g, 0, none⟩) cap ys) : ∀ k, k < ys.length →
    w.cell? ⟨g, k * 3, none⟩ = some (.int .i64 (ys.getD k .zero).re) ∧ w.cell? ⟨g, k * 3 + 1, none⟩ = some (.int .i64 (ys.getD k .zero).im) ∧ w.cell? ⟨g, k * 3 + 2, none⟩ = some (.int .i64 (ys.getD k .zero).den) := by
  intro k hk
  obtain ⟨b, off, e, hc⟩ := (OwnF.fracs h).at (by omega)
  simp only [Option.some.injEq, Addr.mk.injEq, and_true] at e
  obtain ⟨rfl, rfl⟩ := e
  have := hc k hk
  rw [Nat.zero_add] at this
  exact this
theorem ipos_go {g : Fr → Nat} {out : List Fr} {x p : Nat} (h : x < g (out.getD p .zero)) : ipos g out x (p + 1) = ipos g out x p := by
  show (if _ then _ else _) = _
  rw [if_pos h]
theorem ipos_stop {g : Fr → Nat} {out : List Fr} {x p : Nat} (h : ¬ x < g (out.getD p .zero)) : ipos g out x (p + 1) = p + 1 := by
  show (if _ then _ else _) = _
  rw [if_neg h]

set_option maxHeartbeats 2000000 in
theorem iGridSorted (A : Option Addr) (xs : List Fr) (cap : Nat) (a : Fr) (w : World) (hS : Fracs w A xs) (hl : xs.length ≤ 1048576) :
    Calls Try.prog 41 #[.slice A xs.length cap, a.v] w (GotFs w (gsorted xs a)) := by
  have k1 := fun w hS => gridOk_any A xs cap w hS hl
  rcases hg : gok xs with _ | _
  · rw [gsorted_no1 hg]
    simp only [hg] at k1
    obtain ⟨a1, a2, a3⟩ := a
    show Calls _ _ #[_, .agg #[.int .i64 a1, .int .i64 a2, .int .i64 a3]] _ _
    clear hg
    have K1 := Lib.hid k1
    clear k1
    go_enter Try.func41, Try.ntmps41
    go_wp2_with fail
    refine (K1.out _ ((hS.alloc _).alloc _)).mono ?_
    rintro e w1 ⟨rfl, hx⟩
    go_wp2
    refine bodyPost_ret (v := .tuple #[.slice (some ⟨w.heap.size + 1, 0, none⟩) 0 0, .bool false]) ?_ rfl ?_
    · simp [results, Try.results41, go_sem]
    · exact ⟨_, _, rfl, (ownF_nil (by simp) (by omega)).ex hx, (((Ex.refl _).alloc _).alloc _).trans hx⟩
  have k2 := fun w => iFracValid a.re a.im a.den w
  rcases hv : a.valid with _ | _
  · rw [gsorted_no2 hv]
    have hv' : fvalid a.re a.im a.den = false := hv
    simp only [hg] at k1
    simp only [hv'] at k2
    obtain ⟨a1, a2, a3⟩ := a
    show Calls _ _ #[_, .agg #[.int .i64 a1, .int .i64 a2, .int .i64 a3]] _ _
    clear hg hv hv'
    have K1 := Lib.hid k1
    have K2 := Lib.hid k2
    clear k1 k2
    go_enter Try.func41, Try.ntmps41
    go_wp2_with fail
    refine (K1.out _ ((hS.alloc _).alloc _)).mono ?_
    rintro e w1 ⟨rfl, hx⟩
    have bA := ((Box.new _ _ _).alloc _).ex hx
    have cA := bA.cell
    have hO : OwnF w1 w.heap.size (some ⟨w.heap.size + 1, 0, none⟩) 0 [] := (ownF_nil (by simp) (by omega)).ex hx
    replace hx := (((Ex.refl _).alloc _).alloc _).trans hx
    go_wp2_with fail
    refine (K2.out _).mono ?_
    rintro e w2 ⟨rfl, hx2⟩
    go_wp2
    refine bodyPost_ret (v := .tuple #[.slice (some ⟨w.heap.size + 1, 0, none⟩) 0 0, .bool false]) ?_ rfl ?_
    · simp [results, Try.results41, go_sem]
    · exact ⟨_, _, rfl, hO.ex hx2, hx.trans hx2⟩
  rw [gsorted_ok hg hv]
  have hv' : fvalid a.re a.im a.den = true := hv
  have hn := (gok_out hg).2
  have HD : Hid (∀ k, k < xs.length → (xs.getD k .zero).den ≠ 0) := Lib.hid (fun k hk => by have := (Fr.valid_out ((gok_out hg).1 k hk)).2.2.1; omega)
  simp only [hg] at k1
  simp only [hv'] at k2
  clear hg hv hv'
  have kf : ∀ x w, Calls Try.prog 37 #[x.v, a.v] w fun e w' => e = .returned (.tuple #[.float .f32 (gd a x), .bool (gfar x a).2]) ∧ Ex w w' := fun x w => iGridFar x a w
  have hle : ∀ x, gd a x ≤ Ieee.single.infRung := gd_le a
  have hgk : gk a = fun x => skey (gd a x) := rfl
  rw [hgk]
  clear hgk
  generalize gd a = g at kf hle ⊢
  have kf2 : ∃ okf : Fr → Bool, ∀ x w, Calls Try.prog 37 #[x.v, a.v] w fun e w' => e = .returned (.tuple #[.float .f32 (g x), .bool (okf x)]) ∧ Ex w w' := ⟨fun x => (gfar x a).2, kf⟩
  obtain ⟨okf, kf3⟩ := kf2
  clear kf
  obtain ⟨a1, a2, a3⟩ := a
  have kf4 : ∀ x w, Calls Try.prog 37 #[.agg #[.int .i64 x.re, .int .i64 x.im, .int .i64 x.den], .agg #[.int .i64 a1, .int .i64 a2, .int .i64 a3]] w fun e w' => e = .returned (.tuple #[.float .f32 (g x), .bool (okf x)]) ∧ Ex w w' := kf3
  obtain ⟨sk, hsk⟩ : ∃ sk : Fr → Nat, sk = fun x => skey (g x) := ⟨_, rfl⟩
  rw [← hsk]
  have hcmp : ∀ x y, (FloatKind.f32.format.order (g x) (g y) == some .lt) = decide (sk x < sk y) := fun x y => by rw [hsk]; exact flt_lt _ _ (hle x) (hle y)
  show Calls _ _ #[_, .agg #[.int .i64 a1, .int .i64 a2, .int .i64 a3]] _ _
  have K1 := Lib.hid k1
  have K2 := Lib.hid k2
  have KF := Lib.hid kf4
  have KC := Lib.hid hcmp
  clear k1 k2 kf3 kf4 hcmp hsk hle
  go_enter Try.func41, Try.ntmps41
  go_wp2_with fail
  refine (K1.out _ ((hS.alloc _).alloc _)).mono ?_
  rintro e w1 ⟨rfl, hx⟩
  have bA := ((Box.new _ _ _).alloc _).ex hx
  have cA := bA.cell
  have hO : OwnF w1 (w.heap.size + 1) (some ⟨w.heap.size + 1, 0, none⟩) 0 [] := (ownF_nil (by simp) (by omega)).ex hx
  replace hx := (((Ex.refl _).alloc _).alloc _).trans hx
  go_wp2_with fail
  refine (K2.out _).mono ?_
  rintro e w2 ⟨rfl, hx2⟩
  replace hx := hx.trans hx2
  replace bA := bA.ex hx2
  replace hO := hO.ex hx2
  clear hx2 K1 K2 cA
  go_wp2
  go_loopw [26, 6, 8] (fun i v f wr => ∃ (k gb cb : Nat) (ys : List Fr), k ≤ xs.length ∧ i = .int .i64 k ∧ v = .slice (some ⟨gb, 0, none⟩) ys.length cb ∧ Hid (ys = isort sk (xs.take k)) ∧ Hid (OwnF wr (w.heap.size + 1) (some ⟨gb, 0, none⟩) cb ys) ∧ Box wr w.heap.size 24 #[.int .i64 a1, .int .i64 a2, .int .i64 a3] ∧ Ex w wr) (fun i _ _ _ => xs.length - (intOf i).toNat)
  case atStart => exact ⟨0, _, 0, [], by omega, rfl, rfl, Lib.hid rfl, Lib.hid hO, bA, hx⟩
  case round =>
    clear bA hO
    obtain ⟨k, gb, cb, ys, hk, rfl, rfl, HY, HO, bA, hEr⟩ := hrel
    by_cases hlt : k < xs.length
    · obtain ⟨b, off, rfl, hc⟩ := (hS.ex hEr).at (by omega)
      obtain ⟨c1, c2, c3⟩ := hc k hlt
      have hyl : ys.length ≤ 1048576 := by rw [HY.out, isort_len, List.length_take]; omega
      have HYn : Hid (ins sk ys (xs.getD k .zero) = isort sk (xs.take (k + 1))) := Lib.hid (by rw [isort_snoc sk hlt, HY.out])
      have kf1 := KF.out (xs.getD k .zero)
      have kc1 := KC.out (xs.getD k .zero)
      have hfd := HD.out k hlt
      have zgb := Own.lt HO.out gb rfl
      obtain ⟨f, hf⟩ : ∃ f, f = xs.getD k .zero := ⟨_, rfl⟩
      rw [← hf] at c1 c2 c3 kf1 kc1 HYn hfd
      clear hc hf
      obtain ⟨f1, f2, f3⟩ := f
      simp only at c1 c2 c3 hfd
      have K1 : Hid (∀ w, Calls Try.prog 37 #[.agg #[.int .i64 f1, .int .i64 f2, .int .i64 f3], .agg #[.int .i64 a1, .int .i64 a2, .int .i64 a3]] w fun e w' => e = .returned (.tuple #[.float .f32 (g ⟨f1, f2, f3⟩), .bool (okf ⟨f1, f2, f3⟩)]) ∧ Ex w w') := kf1
      have KC1 := Lib.hid kc1
      clear kf1 kc1 KC
      generalize hgf : g ⟨f1, f2, f3⟩ = gf at K1 KC1
      generalize okf ⟨f1, f2, f3⟩ = okk at K1
      have cA := bA.cell
      have zA := bA.lt
      go_wp2_with fail
      refine (K1.out _).mono ?_
      rintro e w3 ⟨rfl, hx3⟩
      have bF := (Box.new _ _ _).ex hx3
      have bA3 := (bA.alloc _).ex hx3
      have HO3 := Lib.hid ((HO.out.alloc _).ex hx3)
      have hE3 := (hEr.alloc _).trans hx3
      clear hx3 bA cA zA HO K1 c1 c2 c3
      go_upto_block 2 with fail
      go_cut [11] (fun at_ wx => ∃ p : Nat, at_ = .int .i64 p ∧ Hid (p = ipos sk ys (sk ⟨f1, f2, f3⟩) ys.length) ∧ Ex w3 wx)
      case first =>
        go_wp2_with fail
        go_loopw [11] (fun at_ wx => ∃ p : Nat, p ≤ ys.length ∧ at_ = .int .i64 p ∧ Hid (ipos sk ys (sk ⟨f1, f2, f3⟩) ys.length = ipos sk ys (sk ⟨f1, f2, f3⟩) p) ∧ Ex w3 wx) (fun at_ _ => (intOf at_).toNat)
        case atStart => exact ⟨ys.length, by omega, rfl, Lib.hid rfl, Ex.refl _⟩
        case round =>
          obtain ⟨p, hp, rfl, HP, hEx⟩ := hrel
          match p, hp, HP with
          | 0, hp, HP =>
            go_wp2_with fail
            go_meet
            exact ⟨0, rfl, Lib.hid HP.out.symm, hEx⟩
          | q + 1, hp, HP =>
            obtain ⟨c1, c2, c3⟩ := OwnF.at (HO3.out.ex hEx) q (by omega)
            have kf1 := KF.out (ys.getD q .zero)
            have kc1 := KC1.out (ys.getD q .zero)
            have hgo : sk ⟨f1, f2, f3⟩ < sk (ys.getD q .zero) → Hid (ipos sk ys (sk ⟨f1, f2, f3⟩) ys.length = ipos sk ys (sk ⟨f1, f2, f3⟩) q) := fun h => Lib.hid (by rw [HP.out, ipos_go h])
            have hst : ¬ sk ⟨f1, f2, f3⟩ < sk (ys.getD q .zero) → Hid (q + 1 = ipos sk ys (sk ⟨f1, f2, f3⟩) ys.length) := fun h => Lib.hid (by rw [HP.out, ipos_stop h])
            have cA := (bA3.ex hEx).cell
            have d1 : wr.cell? ⟨w.heap.size, 0, none⟩ = some (.int .i64 a1) := cA 0
            have d2 : wr.cell? ⟨w.heap.size, 1, none⟩ = some (.int .i64 a2) := cA 1
            have d3 : wr.cell? ⟨w.heap.size, 2, none⟩ = some (.int .i64 a3) := cA 2
            generalize g (ys.getD q .zero) = gy at kf1 kc1
            generalize okf (ys.getD q .zero) = oky at kf1
            generalize sk (ys.getD q .zero) = sy at kc1 hgo hst
            generalize (ys.getD q .zero).re = r1 at c1 kf1
            generalize (ys.getD q .zero).im = r2 at c2 kf1
            generalize (ys.getD q .zero).den = r3 at c3 kf1
            clear cA HP
            have hq : q + 1 ≤ 1048576 := by omega
            have hq2 : q < ys.length := by omega
            have hw1 : IntKind.i64.wrap ((q : Nat) : Int) = (q : Nat) := IntWalk.i64_in _ (by omega)
            have hb1 : (0 : Int) ≤ (q : Nat) := by omega
            have hb2 : ((q : Nat) : Int) < (ys.length : Nat) := by omega
            have hb3 : ¬ ((q : Nat) : Int) < 0 := by omega
            have hb4 : ¬ ((ys.length : Nat) : Int) ≤ (q : Nat) := by omega
            by_cases hc : sk ⟨f1, f2, f3⟩ < sy
            · rw [decide_eq_true hc] at kc1
              have HG := hgo hc
              clear hc hgo hst
              go_wp2
              go_region_held3 (fun w' => (w'.cell? ⟨gb, q * 3, none⟩ = some (.int .i64 r1) ∧ w'.cell? ⟨gb, q * 3 + 1, none⟩ = some (.int .i64 r2) ∧ w'.cell? ⟨gb, q * 3 + 2, none⟩ = some (.int .i64 r3)) ∧ w'.cell? ⟨w.heap.size, 0, none⟩ = some (.int .i64 a1) ∧ w'.cell? ⟨w.heap.size, 1, none⟩ = some (.int .i64 a2) ∧ w'.cell? ⟨w.heap.size, 2, none⟩ = some (.int .i64 a3)) (go_keep) ((go_at_call 37; (first | (refine (kf1 wr).mono ?_) | (refine (kf1 wr.drew).mono ?_)); rintro e w4 ⟨rfl, hx4⟩; have hx5 : Ex wr w4 := (by first | exact hx4 | exact ((Ex.refl _).drew).trans hx4); have e1 := hx5.get c1; have e2 := hx5.get c2; have e3 := hx5.get c3; have e4 := hx5.get d1; have e5 := hx5.get d2; have e6 := hx5.get d3))
              have hE5 := hEx.trans hx5
              go_wp2
              go_roundw
              case rel => exact ⟨q, by omega, rfl, HG, hE5⟩
              case measure => simp [intOf]
            · rw [decide_eq_false hc] at kc1
              have HG := hst hc
              clear hc hgo hst
              go_wp2
              go_region_held3 (fun w' => (w'.cell? ⟨gb, q * 3, none⟩ = some (.int .i64 r1) ∧ w'.cell? ⟨gb, q * 3 + 1, none⟩ = some (.int .i64 r2) ∧ w'.cell? ⟨gb, q * 3 + 2, none⟩ = some (.int .i64 r3)) ∧ w'.cell? ⟨w.heap.size, 0, none⟩ = some (.int .i64 a1) ∧ w'.cell? ⟨w.heap.size, 1, none⟩ = some (.int .i64 a2) ∧ w'.cell? ⟨w.heap.size, 2, none⟩ = some (.int .i64 a3)) (go_keep) ((go_at_call 37; (first | (refine (kf1 wr).mono ?_) | (refine (kf1 wr.drew).mono ?_)); rintro e w4 ⟨rfl, hx4⟩; have hx5 : Ex wr w4 := (by first | exact hx4 | exact ((Ex.refl _).drew).trans hx4); have e1 := hx5.get c1; have e2 := hx5.get c2; have e3 := hx5.get c3; have e4 := hx5.get d1; have e5 := hx5.get d2; have e6 := hx5.get d3))
              have hE5 := hEx.trans hx5
              go_wp2_with fail
              go_meet
              exact ⟨q + 1, rfl, HG, hE5⟩
      case rest =>
        obtain ⟨p, rfl, HPP, hxw⟩ := hcut
        have hp : p ≤ ys.length := by rw [HPP.out]; exact ipos_le _ _ _ _
        have HO4 := Lib.hid (HO3.out.ex hxw)
        have bF4 := bF.ex hxw
        have bA4 := bA3.ex hxw
        have hE4 := hE3.trans hxw
        have hlo := hEr.size
        have hlo2 := hE4.size
        have zA4 := bA4.lt
        clear hxw bF bA3 HO3 hE3 KC1 KF
        go_wp2_with (at_builtin; refine wpList_appF rfl _ _ wc rfl (w.heap.size + 1) (some ⟨gb, 0, none⟩) cb ys.length (frCells ys) (.int .i64 0) (.int .i64 0) (.int .i64 0) rfl rfl rfl rfl HO4.out rfl hyl zA4 ?_)
        intro g' cap' w5 hg' hown5 hgr5
        have hE5 : Ex w w5 := (hE4.alloc _).grown hgr5 (fun j hj => by simp only [Value.ownBlock, Option.some.injEq] at hj; omega)
        have bF5 := (bF4.alloc (.cells #[.int .i64 0, .int .i64 0, .int .i64 0] 24)).grown hgr5 (fun hj => by simp only [Value.ownBlock, Option.some.injEq] at hj; omega)
        have bA5 := (bA4.alloc (.cells #[.int .i64 0, .int .i64 0, .int .i64 0] 24)).grown hgr5 (fun hj => by simp only [Value.ownBlock, Option.some.injEq] at hj; omega)
        have hne5 : wr.heap.size ≠ g' := Own.neBox3 hown5 bF5 (by omega) (fun h => by
          have : ys = [] := List.eq_nil_of_length_eq_zero (by omega)
          subst this
          simp [frCells]
          omega)
        have hcp := (Own.cap hown5).1
        have h1c : ∀ v ∈ frCells ys ++ [Value.int .i64 0, .int .i64 0, .int .i64 0], v.oneCell' = true := fun v hv => by
          rw [List.mem_append] at hv
          rcases hv with hv | hv
          · exact frCells_one ys v hv
          · simp only [List.mem_cons, List.not_mem_nil, or_false] at hv
            rcases hv with rfl | rfl | rfl <;> rfl
        obtain ⟨u1, u2, u3, hsh⟩ := shift_cells ys p hp (.int .i64 0) (.int .i64 0) (.int .i64 0)
        have HCS : Hid (∃ cs, cs = frCells ys ++ [Value.int .i64 0, .int .i64 0, .int .i64 0]) := ⟨_, rfl⟩
        obtain ⟨cs, hcs⟩ := HCS.out
        rw [← hcs] at hown5 h1c hsh
        have HI := Lib.hid (insAt_cells ys p ⟨f1, f2, f3⟩)
        have hil : Hid ((insAt ys p ⟨f1, f2, f3⟩).length = ys.length + 1) := Lib.hid (insAt_len _ _ _ hp)
        have HYn2 : Hid (insAt ys p ⟨f1, f2, f3⟩ = isort sk (xs.take (k + 1))) := Lib.hid (by rw [← HYn.out, HPP.out]; rfl)
        have HSH := Lib.hid hsh
        have HON := Lib.hid hown5
        have H1C := Lib.hid h1c
        clear hsh HCS hcs hgr5 bF4 bA4 HO4 HPP HYn hE4 hown5 h1c
        have hw1 : IntKind.i64.wrap ((p : Int) + 1) = (p : Int) + 1 := IntWalk.i64_in _ (by omega)
        have hw2 : ((p : Int) + 1).toNat = p + 1 := by omega
        have hz1 : (0 : Int) ≤ (p : Int) + 1 := by omega
        have hz2 : (p : Int) ≤ (ys.length : Int) + 1 := by omega
        have hz3 : ¬ cap' = p := by omega
        go_wp2_with fail
        go_region_law (refine step_copyF rfl (.tmp 63) (.tmp 66) w5.drew rfl (w.heap.size + 1) g' (ys.length + 1) cap' cs HON.out H1C.out p (by omega) (if cap' = p + 1 then some ⟨g', 0, none⟩ else some ⟨g', (p + 1) * 3, none⟩) (some ⟨g', p * 3, none⟩) (ys.length - p) (ys.length + 1 - p) (cap' - (p + 1)) (cap' - p) (by omega) rfl (by simp [Act.eval, Act.put]) (by simp [Act.eval, Act.put]) (fun h => ⟨if_neg (by omega), rfl⟩) ?_; rw [HSH.out]; intro w6 hown6 hgr6; have bF6 := bF5.drew.grown hgr6 (fun hj => hne5 (by simpa using hj)); have bA6 := bA5.drew.grown hgr6 (fun hj => by simp only [Option.some.injEq] at hj; omega); have hE6 := hE5.drew.grown hgr6 (fun j hj => by simp only [Option.some.injEq] at hj; omega))
        clear hgr6 bF5 bA5 hE5 HON H1C HSH
        have cF6 := bF6.cell
        have hfr : ∀ j, w6.frozen? ⟨g', j, none⟩ = false := fun j => World.ownsRow.frozenAt hown6 j
        have hl1 : (frCells (ys.take p)).length = p * 3 := by rw [frCells_len, List.length_take]; congr 1; omega
        generalize frCells (ys.take p) = X at hown6 HI hl1
        generalize frCells (ys.drop p) = Y at hown6 HI
        have e1 : w6.cell? ⟨g', p * 3, none⟩ = some u1 := by
          rw [World.ownsRow.cellAt hown6 _ (by omega)]
          simp [hl1]
        have e2 : w6.cell? ⟨g', p * 3 + 1, none⟩ = some u2 := by
          rw [World.ownsRow.cellAt hown6 _ (by omega)]
          simp [hl1]
        have e3 : w6.cell? ⟨g', p * 3 + 2, none⟩ = some u3 := by
          rw [World.ownsRow.cellAt hown6 _ (by omega)]
          simp [hl1]
        have HON6 := Lib.hid hown6
        have HL1 := Lib.hid hl1
        have hb1 : (p : Int) < (ys.length : Int) + 1 := by omega
        clear hown6 hl1
        go_wp2
        go_roundw
        case rel =>
          refine ⟨k + 1, g', cap', insAt ys p ⟨f1, f2, f3⟩, by omega, by go_num, by rw [hil.out], HYn2, Lib.hid ?_, ((bA6.far (by simp <;> omega) _).far (by simp <;> omega) _).far (by simp <;> omega) _, ((hE6.setCell (by simp <;> omega) _).setCell (by simp <;> omega) _).setCell (by simp <;> omega) _⟩
          have s1 := (World.ownsRow.stored HON6.out (p * 3) (.int .i64 f1)).1
          have s2 := (World.ownsRow.stored s1 (p * 3 + 1) (.int .i64 f2)).1
          have s3 := (World.ownsRow.stored s2 (p * 3 + 2) (.int .i64 f3)).1
          rw [ins_cells X Y _ HL1.out, ← HI.out] at s3
          unfold OwnF
          rw [hil.out]
          exact s3
        case measure => simp [intOf]; omega
    · have e1 : ys = isort sk xs := by rw [HY.out, List.take_of_length_le (by omega)]
      subst e1
      go_wp2
      refine bodyPost_ret (v := .tuple #[.slice (some ⟨gb, 0, none⟩) (isort sk xs).length cb, .bool true]) ?_ rfl ?_
      · simp [results, Try.results41, go_sem]
      · exact ⟨_, _, rfl, HO.out.wide (by omega), hEr⟩
end Go.Proofs.Ytgkekdiffgmllaa
