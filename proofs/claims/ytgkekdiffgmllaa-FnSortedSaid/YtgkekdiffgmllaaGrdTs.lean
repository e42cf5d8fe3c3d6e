/-
  Walks: a grid sorted, the reference's.
-/
import Derived.Test.YtgkekdiffgmllaaGrdTi
namespace Go.Proofs.Ytgkekdiffgmllaa
open Go.RowKit

theorem gfit_snd (xs : List Fr) (a : Fr) : (gfit xs a).2 = (gok xs && a.valid) := by
  unfold gfit
  split
  · rename_i h; exact h.symm
  · rename_i h; simpa using h

theorem Box.new' {w : World} {b : Nat} {cs : Array Value} {t : TypeId} (hb : w.heap.size = b) : Box (w.alloc (.cells cs t)) b t cs := by
  subst hb
  exact Box.new w cs t
theorem own_addr {w : World} {lo : Nat} {e : TypeId} {sz n cap : Nat} {A : Option Addr} {cs : List Value} (h : Own w lo e sz (.slice A n cap) n cs) (hn : 0 < n) : ∃ g, A = some ⟨g, 0, none⟩ ∧ lo ≤ g := by
  obtain ⟨A', cap', hv, hA⟩ := Own.form h
  injection hv with e1 e2 e3
  subst e1
  exact hA hn
theorem box_news {w : World} {b : Nat} {t : TypeId} {u1 u2 u3 : Value} (h : Box w b t #[u1, u2, u3]) : ∀ (j : Nat) (u : Value), [u1, u2, u3][j]? = some u → w.cell? ((⟨b, 0, none⟩ : Addr).add j) = some u := by
  intro j u hj
  rw [addr_add, Nat.zero_add, h.cell j]
  simpa using hj
set_option maxHeartbeats 2000000 in
theorem sGridSorted (A : Option Addr) (xs : List Fr) (cap : Nat) (a : Fr) (w : World) (hS : Fracs w A xs) (hl : xs.length ≤ 1048576) :
    Calls Try.prog 40 #[.slice A xs.length cap, a.v] w (GotFs w (gsorted xs a)) := by
  have k1 : ∀ w, Fracs w A xs → Calls Try.prog 21 #[.slice A xs.length cap, a.v] w fun e w' => e = .returned (.tuple #[.int .i64 ((gfit xs a).1 : Nat), .bool (gfit xs a).2]) ∧ Ex w w' := fun w hS => sGridFit A xs cap a w hS hl
  rw [gfit_snd] at k1
  generalize (gfit xs a).1 = fi at k1
  rcases hg : (gok xs && a.valid) with _ | _
  · have hr : gsorted xs a = ([], false) := by simp [gsorted, hg]
    rw [hr]
    rw [hg] at k1
    obtain ⟨a1, a2, a3⟩ := a
    have K1 : Hid (∀ w, Fracs w A xs → Calls Try.prog 21 #[.slice A xs.length cap, .agg #[.int .i64 a1, .int .i64 a2, .int .i64 a3]] w fun e w' => e = .returned (.tuple #[.int .i64 (fi : Nat), .bool false]) ∧ Ex w w') := k1
    show Calls _ _ #[_, .agg #[.int .i64 a1, .int .i64 a2, .int .i64 a3]] _ _
    clear hg hr k1
    go_enter Try.func40, Try.ntmps40
    go_wp2_with fail
    refine (K1.out _ ((hS.alloc _).alloc _)).mono ?_
    rintro e w1 ⟨rfl, hx⟩
    go_wp2
    refine bodyPost_ret (v := .tuple #[.slice (some ⟨w.heap.size + 1, 0, none⟩) 0 0, .bool false]) ?_ rfl ?_
    · simp [results, Try.results40, go_sem]
    · exact ⟨_, _, rfl, (ownF_nil (by simp) (by omega)).ex hx, (((Ex.refl _).alloc _).alloc _).trans hx⟩
  have hr : gsorted xs a = (isort (gk a) xs, true) := by simp [gsorted, hg]
  rw [hr]
  rw [hg] at k1
  simp only [Bool.and_eq_true] at hg
  have hn := (gok_out hg.1).2
  clear hr
  have kf : ∀ x w, Calls Try.prog 74 #[x.v, a.v] w fun e w' => e = .returned (.tuple #[.float .f32 (gd a x), .bool (gfar x a).2]) ∧ Ex w w' := fun x w => sGridFar x a w
  clear hg
  have hle : ∀ x, gd a x ≤ Ieee.single.infRung := gd_le a
  have hgk : gk a = fun x => skey (gd a x) := rfl
  rw [hgk]
  clear hgk
  generalize gd a = g at kf hle ⊢
  have kf2 : ∃ okf : Fr → Bool, ∀ x w, Calls Try.prog 74 #[x.v, a.v] w fun e w' => e = .returned (.tuple #[.float .f32 (g x), .bool (okf x)]) ∧ Ex w w' := ⟨fun x => (gfar x a).2, kf⟩
  obtain ⟨okf, kf3⟩ := kf2
  clear kf
  obtain ⟨a1, a2, a3⟩ := a
  have kf4 : ∀ x w, Calls Try.prog 74 #[.agg #[.int .i64 x.re, .int .i64 x.im, .int .i64 x.den], .agg #[.int .i64 a1, .int .i64 a2, .int .i64 a3]] w fun e w' => e = .returned (.tuple #[.float .f32 (g x), .bool (okf x)]) ∧ Ex w w' := kf3
  obtain ⟨sk, hsk⟩ : ∃ sk : Fr → Nat, sk = fun x => skey (g x) := ⟨_, rfl⟩
  rw [← hsk]
  have hcmp : ∀ x y, (FloatKind.f32.format.order (g y) (g x) == some .lt || FloatKind.f32.format.order (g y) (g x) == some .eq) = decide (sk y ≤ sk x) := fun x y => by rw [hsk]; exact flt_le _ _ (hle y) (hle x)
  have K1 : Hid (∀ w, Fracs w A xs → Calls Try.prog 21 #[.slice A xs.length cap, .agg #[.int .i64 a1, .int .i64 a2, .int .i64 a3]] w fun e w' => e = .returned (.tuple #[.int .i64 (fi : Nat), .bool true]) ∧ Ex w w') := k1
  show Calls _ _ #[_, .agg #[.int .i64 a1, .int .i64 a2, .int .i64 a3]] _ _
  have KF := Lib.hid kf4
  have KC := Lib.hid hcmp
  clear k1 kf3 kf4 hcmp hsk hle
  go_enter Try.func40, Try.ntmps40
  go_wp2_with fail
  refine (K1.out _ ((hS.alloc _).alloc _)).mono ?_
  rintro e w2 ⟨rfl, hx⟩
  have bA := ((Box.new _ _ _).alloc _).ex hx
  have hO : OwnF w2 (w.heap.size + 1) (some ⟨w.heap.size + 1, 0, none⟩) 0 [] := (ownF_nil (by simp) (by omega)).ex hx
  replace hx := (((Ex.refl _).alloc _).alloc _).trans hx
  clear K1
  go_wp2
  go_loopw [9, 6] (fun i v wr => ∃ (k gb cb : Nat) (ys : List Fr), k ≤ xs.length ∧ i = .int .i64 k ∧ v = .slice (some ⟨gb, 0, none⟩) ys.length cb ∧ Hid (ys = isort sk (xs.take k)) ∧ Hid (OwnF wr (w.heap.size + 1) (some ⟨gb, 0, none⟩) cb ys) ∧ Box wr w.heap.size 24 #[.int .i64 a1, .int .i64 a2, .int .i64 a3] ∧ Ex w wr) (fun i _ _ => xs.length - (intOf i).toNat)
  case atStart => exact ⟨0, _, 0, [], by omega, rfl, rfl, Lib.hid rfl, Lib.hid hO, bA, hx⟩
  case round =>
    clear bA hO
    obtain ⟨k, gb, cb, ys, hk, rfl, rfl, HY, HO, bA, hEr⟩ := hrel
    by_cases hlt : k < xs.length
    · obtain ⟨b, off, rfl, hc⟩ := (hS.ex hEr).at (by omega)
      obtain ⟨c1, c2, c3⟩ := hc k hlt
      have hyl : ys.length ≤ 1048576 := by rw [HY.out, isort_len, List.length_take]; omega
      have HYn : Hid (ins sk ys (xs.getD k .zero) = isort sk (xs.take (k + 1))) := Lib.hid (by rw [isort_snoc sk hlt, HY.out])
      have kf1 := KF.out (xs.getD k .zero)
      have kc1 := KC.out (xs.getD k .zero)
      have zgb := Own.lt HO.out gb rfl
      obtain ⟨f, hf⟩ : ∃ f, f = xs.getD k .zero := ⟨_, rfl⟩
      rw [← hf] at c1 c2 c3 kf1 kc1 HYn
      clear hc hf
      obtain ⟨f1, f2, f3⟩ := f
      simp only at c1 c2 c3
      have kf2 : (∀ w, Calls Try.prog 74 #[.agg #[.int .i64 f1, .int .i64 f2, .int .i64 f3], .agg #[.int .i64 a1, .int .i64 a2, .int .i64 a3]] w fun e w' => e = .returned (.tuple #[.float .f32 (g ⟨f1, f2, f3⟩), .bool (okf ⟨f1, f2, f3⟩)]) ∧ Ex w w') := kf1
      have KC1 := Lib.hid kc1
      clear kf1 kc1 KC
      generalize hgf : g ⟨f1, f2, f3⟩ = gf at kf2 KC1
      generalize okf ⟨f1, f2, f3⟩ = okk at kf2
      have cA := bA.cell
      have d1 : wr.cell? ⟨w.heap.size, 0, none⟩ = some (.int .i64 a1) := cA 0
      have d2 : wr.cell? ⟨w.heap.size, 1, none⟩ = some (.int .i64 a2) := cA 1
      have d3 : wr.cell? ⟨w.heap.size, 2, none⟩ = some (.int .i64 a3) := cA 2
      clear cA
      go_wp2_with fail
      go_region_held3 (fun w' => (w'.cell? ⟨b, off + k * 3, none⟩ = some (.int .i64 f1) ∧ w'.cell? ⟨b, off + k * 3 + 1, none⟩ = some (.int .i64 f2) ∧ w'.cell? ⟨b, off + k * 3 + 2, none⟩ = some (.int .i64 f3)) ∧ w'.cell? ⟨w.heap.size, 0, none⟩ = some (.int .i64 a1) ∧ w'.cell? ⟨w.heap.size, 1, none⟩ = some (.int .i64 a2) ∧ w'.cell? ⟨w.heap.size, 2, none⟩ = some (.int .i64 a3)) (go_keep) ((go_at_call 74; (first | (refine (kf2 wr).mono ?_) | (refine (kf2 wr.drew).mono ?_)); rintro e w4 ⟨rfl, hx4⟩; have hx5 : Ex wr w4 := (by first | exact hx4 | exact ((Ex.refl _).drew).trans hx4); have e1 := hx5.get c1; have e2 := hx5.get c2; have e3 := hx5.get c3; have e4 := hx5.get d1; have e5 := hx5.get d2; have e6 := hx5.get d3))
      have bF3 := bA.ex hx5
      have HO3 := Lib.hid (HO.out.ex hx5)
      have hE3 := hEr.trans hx5
      have HC := Lib.hid (And.intro e1 (And.intro e2 e3))
      clear hx4 hx5 bA HO e1 e2 e3 e4 e5 e6 c1 c2 c3 d1 d2 d3 kf2
      go_upto_block 2 with fail
      go_cut [12] (fun at_ wx => ∃ p : Nat, at_ = .int .i64 p ∧ Hid (p = ipos sk ys (sk ⟨f1, f2, f3⟩) ys.length) ∧ Ex w4 wx)
      case first =>
        go_wp2_with fail
        go_loopw [12] (fun at_ wx => ∃ p : Nat, p ≤ ys.length ∧ at_ = .int .i64 p ∧ Hid (ipos sk ys (sk ⟨f1, f2, f3⟩) ys.length = ipos sk ys (sk ⟨f1, f2, f3⟩) p) ∧ Ex w4 wx) (fun at_ _ => (intOf at_).toNat)
        case atStart => exact ⟨ys.length, by omega, rfl, Lib.hid rfl, Ex.refl _⟩
        case round =>
          obtain ⟨p, hp, rfl, HP, hEx⟩ := hrel
          match p, hp, HP with
          | 0, hp, HP =>
            go_wp2_with fail
            go_meet
            exact ⟨0, rfl, Lib.hid HP.out.symm, hEx⟩
          | q + 1, hp, HP =>
            obtain ⟨c1, c2, c3⟩ := OwnF.at (HO3.out.ex hEx) q (by omega)
            have kf1 := KF.out (ys.getD q .zero)
            have kc1 := KC1.out (ys.getD q .zero)
            have hgo : ¬ sk (ys.getD q .zero) ≤ sk ⟨f1, f2, f3⟩ → Hid (ipos sk ys (sk ⟨f1, f2, f3⟩) ys.length = ipos sk ys (sk ⟨f1, f2, f3⟩) q) := fun h => Lib.hid (by rw [HP.out, ipos_go (by omega)])
            have hst : sk (ys.getD q .zero) ≤ sk ⟨f1, f2, f3⟩ → Hid (q + 1 = ipos sk ys (sk ⟨f1, f2, f3⟩) ys.length) := fun h => Lib.hid (by rw [HP.out, ipos_stop (by omega)])
            have cA := (bF3.ex hEx).cell
            have d1 : wr.cell? ⟨w.heap.size, 0, none⟩ = some (.int .i64 a1) := cA 0
            have d2 : wr.cell? ⟨w.heap.size, 1, none⟩ = some (.int .i64 a2) := cA 1
            have d3 : wr.cell? ⟨w.heap.size, 2, none⟩ = some (.int .i64 a3) := cA 2
            generalize g (ys.getD q .zero) = gy at kf1 kc1
            generalize okf (ys.getD q .zero) = oky at kf1
            generalize sk (ys.getD q .zero) = sy at kc1 hgo hst
            generalize (ys.getD q .zero).re = r1 at c1 kf1
            generalize (ys.getD q .zero).im = r2 at c2 kf1
            generalize (ys.getD q .zero).den = r3 at c3 kf1
            clear cA HP
            have hq : q + 1 ≤ 1048576 := by omega
            have hq2 : q < ys.length := by omega
            have hw1 : IntKind.i64.wrap ((q : Nat) : Int) = (q : Nat) := IntWalk.i64_in _ (by omega)
            have hb1 : (0 : Int) ≤ (q : Nat) := by omega
            have hb2 : ((q : Nat) : Int) < (ys.length : Nat) := by omega
            have hb3 : ¬ ((q : Nat) : Int) < 0 := by omega
            have hb4 : ¬ ((ys.length : Nat) : Int) ≤ (q : Nat) := by omega
            by_cases hc : sy ≤ sk ⟨f1, f2, f3⟩
            · rw [decide_eq_true hc] at kc1
              have HG := hst hc
              clear hc hgo hst
              go_wp2
              go_region_held3 (fun w' => (w'.cell? ⟨gb, q * 3, none⟩ = some (.int .i64 r1) ∧ w'.cell? ⟨gb, q * 3 + 1, none⟩ = some (.int .i64 r2) ∧ w'.cell? ⟨gb, q * 3 + 2, none⟩ = some (.int .i64 r3)) ∧ w'.cell? ⟨w.heap.size, 0, none⟩ = some (.int .i64 a1) ∧ w'.cell? ⟨w.heap.size, 1, none⟩ = some (.int .i64 a2) ∧ w'.cell? ⟨w.heap.size, 2, none⟩ = some (.int .i64 a3)) (go_keep) ((go_at_call 74; (first | (refine (kf1 wr).mono ?_) | (refine (kf1 wr.drew).mono ?_)); rintro e w4 ⟨rfl, hx4⟩; have hx5 : Ex wr w4 := (by first | exact hx4 | exact ((Ex.refl _).drew).trans hx4); have e1 := hx5.get c1; have e2 := hx5.get c2; have e3 := hx5.get c3; have e4 := hx5.get d1; have e5 := hx5.get d2; have e6 := hx5.get d3))
              have hE5 := hEx.trans hx5
              go_wp2_with fail
              go_meet
              exact ⟨q + 1, rfl, HG, hE5⟩
            · rw [decide_eq_false hc] at kc1
              have HG := hgo hc
              clear hc hgo hst
              go_wp2
              go_region_held3 (fun w' => (w'.cell? ⟨gb, q * 3, none⟩ = some (.int .i64 r1) ∧ w'.cell? ⟨gb, q * 3 + 1, none⟩ = some (.int .i64 r2) ∧ w'.cell? ⟨gb, q * 3 + 2, none⟩ = some (.int .i64 r3)) ∧ w'.cell? ⟨w.heap.size, 0, none⟩ = some (.int .i64 a1) ∧ w'.cell? ⟨w.heap.size, 1, none⟩ = some (.int .i64 a2) ∧ w'.cell? ⟨w.heap.size, 2, none⟩ = some (.int .i64 a3)) (go_keep) ((go_at_call 74; (first | (refine (kf1 wr).mono ?_) | (refine (kf1 wr.drew).mono ?_)); rintro e w4 ⟨rfl, hx4⟩; have hx5 : Ex wr w4 := (by first | exact hx4 | exact ((Ex.refl _).drew).trans hx4); have e1 := hx5.get c1; have e2 := hx5.get c2; have e3 := hx5.get c3; have e4 := hx5.get d1; have e5 := hx5.get d2; have e6 := hx5.get d3))
              have hE5 := hEx.trans hx5
              go_wp2
              go_roundw
              case rel => exact ⟨q, by omega, rfl, HG, hE5⟩
              case measure => simp [intOf]
      case rest =>
        obtain ⟨p, rfl, HPP, hxw⟩ := hcut
        have hp : p ≤ ys.length := by rw [HPP.out]; exact ipos_le _ _ _ _
        have HO4 := Lib.hid (HO3.out.ex hxw)
        have bA4 := bF3.ex hxw
        have hE4 := hE3.trans hxw
        have c1 := hxw.get HC.out.1
        have c2 := hxw.get HC.out.2.1
        have c3 := hxw.get HC.out.2.2
        have hlo := hEr.size
        have hlo2 := hE4.size
        have zA4 := bA4.lt
        have hsl := OwnF.fracs HO4.out
        have hcp := (Own.cap HO4.out).1
        have HYn2 : Hid (insAt ys p ⟨f1, f2, f3⟩ = isort sk (xs.take (k + 1))) := Lib.hid (by rw [← HYn.out, HPP.out]; rfl)
        obtain ⟨off3, hoff3⟩ : ∃ o, o = if cb = p then 0 else p * 3 := ⟨_, rfl⟩
        obtain ⟨T1, hT1⟩ : ∃ T, T = frCells (ys.take p) := ⟨_, rfl⟩
        obtain ⟨T3, hT3⟩ : ∃ T, T = frCells (ys.drop p) := ⟨_, rfl⟩
        have hcut1 : frCells (ys.take p) ++ frCells (ys.drop p) = frCells ys := by rw [← frCells_append, List.take_append_drop]
        have HI : Hid (frCells (insAt ys p ⟨f1, f2, f3⟩) = T1 ++ .int .i64 f1 :: .int .i64 f2 :: .int .i64 f3 :: T3) := by rw [hT1, hT3]; exact insAt_cells ys p ⟨f1, f2, f3⟩
        have hil : Hid ((insAt ys p ⟨f1, f2, f3⟩).length = ys.length + 1) := Lib.hid (insAt_len _ _ _ hp)
        have HN1 : Hid (∀ W, Ex wc W → ∀ j u, T1[j]? = some u → W.cell? ((⟨gb, 0, none⟩ : Addr).add j) = some u) := by
          intro W hW j u hj
          rw [addr_add, Nat.zero_add]
          refine hW.get ?_
          have hj1 := (List.getElem?_eq_some_iff.1 hj).1
          rw [hT1, frCells_len, List.length_take] at hj1
          rw [World.ownsRow.cellAt HO4.out j (by omega), ← hcut1, ← hT1, List.getElem?_append_left (List.getElem?_eq_some_iff.1 hj).1]
          exact hj
        have HN3 : Hid (∀ W, Ex wc W → ∀ j u, T3[j]? = some u → W.cell? ((⟨gb, off3, none⟩ : Addr).add j) = some u) := by
          intro W hW j u hj
          have hj1 := (List.getElem?_eq_some_iff.1 hj).1
          have hj2 := hj1
          rw [hT3, frCells_len, List.length_drop] at hj1
          rw [hoff3, if_neg (by omega), addr_add]
          refine hW.get ?_
          have hl1 : T1.length = p * 3 := by rw [hT1, frCells_len, List.length_take]; congr 1; omega
          rw [World.ownsRow.cellAt HO4.out _ (by omega), ← hcut1, ← hT1, ← hT3, ← hl1, List.getElem?_append_right (by omega), Nat.add_sub_cancel_left]
          exact hj
        have H11 : Hid (∀ u ∈ T1, u.oneCell' = true) := by rw [hT1]; exact frCells_one _
        have H31 : Hid (∀ u ∈ T3, u.oneCell' = true) := by rw [hT3]; exact frCells_one _
        have HL1 : Hid (T1.length = p * 3) := Lib.hid (by rw [hT1, frCells_len, List.length_take]; congr 1; omega)
        have HL3 : Hid (T3.length = (ys.length - p) * 3) := Lib.hid (by rw [hT3, frCells_len, List.length_drop])
        clear hxw bF3 HO3 hE3 KC1 KF HPP HYn hT1 hT3 HC hcut1 hsl
        have hz1 : (p : Int) ≤ (ys.length : Int) := by omega
        have hz2 : (p : Int) ≤ (cb : Int) := by omega
        have hw1 : IntKind.i64.wrap (p : Int) = (p : Int) := IntWalk.i64_in _ (by omega)
        go_wp2_with fail
        go_region_held3 (fun w' => w'.cell? ⟨b, off + k * 3, none⟩ = some (.int .i64 f1) ∧ w'.cell? ⟨b, off + k * 3 + 1, none⟩ = some (.int .i64 f2) ∧ w'.cell? ⟨b, off + k * 3 + 2, none⟩ = some (.int .i64 f3)) (go_keep) (first
          | (refine step_appM rfl (.tmp 59) (.tmp 62) ((wc.alloc (.cells #[] 24)).drew) rfl wc.heap.size (some ⟨wc.heap.size, 0, none⟩) 0 0 [] T1 T1 p p (Nat.zero_add _) rfl HL1.out H11.out ?_ ?_ ⟨gb, 0, none⟩ cb ?_ ?_ ?_ ?_ ?_
             · simp [Act.eval]
             · exact Own.drew (own_nilb (w := wc) rfl (Nat.le_refl _))
             · simp [Act.eval]
             · exact HN1.out _ (by first | exact ((Ex.refl wc).alloc _).drew | exact ((Ex.refl wc).alloc _) | exact (((Ex.refl wc).alloc _).alloc _).drew | exact (((Ex.refl wc).alloc _).alloc _))
             · omega
             · simp <;> omega
             intro A1 cap1 w1 hown1 hgr1
             have hw0 : Own ((wc.alloc (.cells #[] 24)).drew) wc.heap.size 24 3 (.slice (some ⟨wc.heap.size, 0, none⟩) 0 0) 0 [] := (own_nilb (w := wc) rfl (Nat.le_refl _))
             have hx1 : Ex wc w1 := Ex.own (W := wc) (by first | exact ((Ex.refl wc).alloc _).drew | exact ((Ex.refl wc).alloc _) | exact (((Ex.refl wc).alloc _).alloc _).drew | exact (((Ex.refl wc).alloc _).alloc _)) hw0 hgr1 (Nat.le_refl _)
             have e1 := hx1.get c1
             have e2 := hx1.get c2
             have e3 := hx1.get c3)
          | (refine step_appM rfl (.tmp 59) (.tmp 62) (((wc.alloc (.cells #[] 24)).alloc (.cells #[.int .i64 f1, .int .i64 f2, .int .i64 f3] 24)).drew) rfl wc.heap.size (some ⟨wc.heap.size, 0, none⟩) 0 0 [] T1 T1 p p (Nat.zero_add _) rfl HL1.out H11.out ?_ ?_ ⟨gb, 0, none⟩ cb ?_ ?_ ?_ ?_ ?_
             · simp [Act.eval]
             · exact Own.drew ((own_nilb (w := wc) rfl (Nat.le_refl _)).alloc _)
             · simp [Act.eval]
             · exact HN1.out _ (by first | exact ((Ex.refl wc).alloc _).drew | exact ((Ex.refl wc).alloc _) | exact (((Ex.refl wc).alloc _).alloc _).drew | exact (((Ex.refl wc).alloc _).alloc _))
             · omega
             · simp <;> omega
             intro A1 cap1 w1 hown1 hgr1
             have hw0 : Own (((wc.alloc (.cells #[] 24)).alloc (.cells #[.int .i64 f1, .int .i64 f2, .int .i64 f3] 24)).drew) wc.heap.size 24 3 (.slice (some ⟨wc.heap.size, 0, none⟩) 0 0) 0 [] := ((own_nilb (w := wc) rfl (Nat.le_refl _)).alloc _)
             have hx1 : Ex wc w1 := Ex.own (W := wc) (by first | exact ((Ex.refl wc).alloc _).drew | exact ((Ex.refl wc).alloc _) | exact (((Ex.refl wc).alloc _).alloc _).drew | exact (((Ex.refl wc).alloc _).alloc _)) hw0 hgr1 (Nat.le_refl _)
             have e1 := hx1.get c1
             have e2 := hx1.get c2
             have e3 := hx1.get c3
             have bf1 : Box w1 (wc.heap.size + 1) 24 #[.int .i64 f1, .int .i64 f2, .int .i64 f3] := Box.grown (Box.drew (Box.new' (w := wc.alloc (.cells #[] 24)) (by simp))) hgr1 (fun h => by simp [Value.ownBlock] at h))
          | (refine step_appM rfl (.tmp 59) (.tmp 62) (((wc.alloc (.cells #[.int .i64 f1, .int .i64 f2, .int .i64 f3] 24)).alloc (.cells #[] 24)).drew) rfl wc.heap.size (some ⟨wc.heap.size + 1, 0, none⟩) 0 0 [] T1 T1 p p (Nat.zero_add _) rfl HL1.out H11.out ?_ ?_ ⟨gb, 0, none⟩ cb ?_ ?_ ?_ ?_ ?_
             · simp [Act.eval]
             · exact Own.drew (own_nilb (w := wc.alloc (.cells #[.int .i64 f1, .int .i64 f2, .int .i64 f3] 24)) (by simp) (by omega))
             · simp [Act.eval]
             · exact HN1.out _ (by first | exact ((Ex.refl wc).alloc _).drew | exact ((Ex.refl wc).alloc _) | exact (((Ex.refl wc).alloc _).alloc _).drew | exact (((Ex.refl wc).alloc _).alloc _))
             · omega
             · simp <;> omega
             intro A1 cap1 w1 hown1 hgr1
             have hw0 : Own (((wc.alloc (.cells #[.int .i64 f1, .int .i64 f2, .int .i64 f3] 24)).alloc (.cells #[] 24)).drew) wc.heap.size 24 3 (.slice (some ⟨wc.heap.size + 1, 0, none⟩) 0 0) 0 [] := (own_nilb (w := wc.alloc (.cells #[.int .i64 f1, .int .i64 f2, .int .i64 f3] 24)) (by simp) (by omega))
             have hx1 : Ex wc w1 := Ex.own (W := wc) (by first | exact ((Ex.refl wc).alloc _).drew | exact ((Ex.refl wc).alloc _) | exact (((Ex.refl wc).alloc _).alloc _).drew | exact (((Ex.refl wc).alloc _).alloc _)) hw0 hgr1 (Nat.le_refl _)
             have e1 := hx1.get c1
             have e2 := hx1.get c2
             have e3 := hx1.get c3
             have bf1 : Box w1 wc.heap.size 24 #[.int .i64 f1, .int .i64 f2, .int .i64 f3] := Box.grown (Box.drew ((Box.new wc _ _).alloc _)) hgr1 (fun h => by simp [Value.ownBlock] at h))
          | (refine step_appM rfl (.tmp 63) (.tmp 68) (w1.alloc (.cells #[.int .i64 f1, .int .i64 f2, .int .i64 f3] 24)) rfl wc.heap.size A1 cap1 p T1 [.int .i64 f1, .int .i64 f2, .int .i64 f3] (T1 ++ [.int .i64 f1, .int .i64 f2, .int .i64 f3]) 1 (p + 1) rfl rfl rfl (by simp [Value.oneCell']) ?_ ?_ ⟨w1.heap.size, 0, none⟩ 1 ?_ ?_ ?_ ?_ ?_
             · simp [Act.eval]
             · first | exact hown1 | exact hown1.alloc _
             · simp [Act.eval]
             · exact box_news (Box.new w1 _ _)
             · omega
             · have := hx1.size
               simp <;> omega
             intro A2 cap2 w2' hown2 hgr2
             have hx2 : Ex wc w2' := Ex.own (W := wc) (by first | exact hx1 | exact hx1.alloc _) (by first | exact hown1 | exact hown1.alloc _) hgr2 (Nat.le_refl _)
             have e1 := hx2.get c1
             have e2 := hx2.get c2
             have e3 := hx2.get c3)
          | (refine step_appM rfl (.tmp 63) (.tmp 68) (w1) rfl wc.heap.size A1 cap1 p T1 [.int .i64 f1, .int .i64 f2, .int .i64 f3] (T1 ++ [.int .i64 f1, .int .i64 f2, .int .i64 f3]) 1 (p + 1) rfl rfl rfl (by simp [Value.oneCell']) ?_ ?_ ⟨wc.heap.size + 1, 0, none⟩ 1 ?_ ?_ ?_ ?_ ?_
             · simp [Act.eval]
             · first | exact hown1 | exact hown1.alloc _
             · simp [Act.eval]
             · exact box_news (bf1)
             · omega
             · have := hx1.size
               simp <;> omega
             intro A2 cap2 w2' hown2 hgr2
             have hx2 : Ex wc w2' := Ex.own (W := wc) (by first | exact hx1 | exact hx1.alloc _) (by first | exact hown1 | exact hown1.alloc _) hgr2 (Nat.le_refl _)
             have e1 := hx2.get c1
             have e2 := hx2.get c2
             have e3 := hx2.get c3)
          | (refine step_appM rfl (.tmp 63) (.tmp 68) (w1) rfl wc.heap.size A1 cap1 p T1 [.int .i64 f1, .int .i64 f2, .int .i64 f3] (T1 ++ [.int .i64 f1, .int .i64 f2, .int .i64 f3]) 1 (p + 1) rfl rfl rfl (by simp [Value.oneCell']) ?_ ?_ ⟨wc.heap.size, 0, none⟩ 1 ?_ ?_ ?_ ?_ ?_
             · simp [Act.eval]
             · first | exact hown1 | exact hown1.alloc _
             · simp [Act.eval]
             · exact box_news (bf1)
             · omega
             · have := hx1.size
               simp <;> omega
             intro A2 cap2 w2' hown2 hgr2
             have hx2 : Ex wc w2' := Ex.own (W := wc) (by first | exact hx1 | exact hx1.alloc _) (by first | exact hown1 | exact hown1.alloc _) hgr2 (Nat.le_refl _)
             have e1 := hx2.get c1
             have e2 := hx2.get c2
             have e3 := hx2.get c3)
          | (refine step_appM rfl (.tmp 69) (.tmp 72) w2' rfl wc.heap.size A2 cap2 (p + 1) (T1 ++ [.int .i64 f1, .int .i64 f2, .int .i64 f3]) T3 _ (ys.length - p) (ys.length + 1) (by omega) rfl HL3.out H31.out ?_ hown2 ⟨gb, off3, none⟩ (cb - p) ?_ (HN3.out _ hx2) ?_ hx2.size ?_
             · simp [Act.eval]
             · rw [hoff3]
               simp [Act.eval]
               split <;> rfl
             · omega
             intro A3 cap3 w3' hown3 hgr3
             have hx3 : Ex wc w3' := Ex.own (W := wc) hx2 hown2 hgr3 (Nat.le_refl _)
             have e1 := hx3.get c1
             have e2 := hx3.get c2
             have e3 := hx3.get c3))
        all_goals
          have hE3 := hE4.trans hx3
          have bA3 := bA4.ex hx3
          obtain ⟨g', rfl, hg'⟩ := own_addr hown3 (by omega)
          have HON := Lib.hid hown3
          clear hx3 hown3 hgr3 hown2 hgr2 hx2 hown1 hgr1 hx1 hw0 e1 e2 e3 c1 c2 c3 bA4 hE4
          go_wp2
          go_roundw
          case rel =>
            refine ⟨k + 1, g', cap3, insAt ys p ⟨f1, f2, f3⟩, by omega, by go_num, by rw [hil.out], HYn2, Lib.hid ?_, bA3, hE3⟩
            have s3 := Own.wide HON.out (show w.heap.size + 1 ≤ wc.heap.size by omega)
            rw [List.append_assoc, List.cons_append, List.cons_append, List.cons_append, List.nil_append, ← HI.out] at s3
            unfold OwnF
            rw [hil.out]
            exact s3
          case measure => simp [intOf]; omega
    · have e1 : ys = isort sk xs := by rw [HY.out, List.take_of_length_le (by omega)]
      subst e1
      go_wp2
      refine bodyPost_ret (v := .tuple #[.slice (some ⟨gb, 0, none⟩) (isort sk xs).length cb, .bool true]) ?_ rfl ?_
      · simp [results, Try.results40, go_sem]
      · exact ⟨_, _, rfl, HO.out.wide (by omega), hEr⟩
theorem gsorted_len (xs : List Fr) (a : Fr) : (gsorted xs a).1.length ≤ xs.length := by
  unfold gsorted
  split
  · simp [isort_len]
  · simp
end Go.Proofs.Ytgkekdiffgmllaa
