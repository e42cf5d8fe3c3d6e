/-
  The walk of the law FnGlassLight.
-/
import Derived.Test.YtmmjkchjgeklnaaDoorDrawQ
import Derived.Test.YtmmjkchjgeklnaaDoorLgtI
import Derived.Test.YtmmjkchjgeklnaaDoorLgtS
import Derived.Test.YtmmjkchjgeklnaaDoorRead
import Derived.Laws.StructEq
namespace Go.Proofs.YtmmjkchjgeklnaaDoor
open Go.RowKit

set_option maxHeartbeats 1000000 in
theorem sameFracs_same (A B : Option Addr) (xs : List Fr) (ca cb : Nat) (w : World) (hA : Fracs w A xs) (hB : Fracs w B xs) (hl : xs.length ≤ 1048576) :
    Calls Tryd.prog 15 #[.slice A xs.length ca, .slice B xs.length cb] w fun e w' => e = .returned (.bool true) ∧ Ex w w' := by
  go_enter Tryd.func15, Tryd.ntmps15
  go_wp2
  go_loopw [5] (fun i wr => ∃ k : Nat, k ≤ xs.length ∧ i = .int .i64 k ∧ Ex w wr) (fun i _ => xs.length - (intOf i).toNat)
  case atStart => exact ⟨0, by omega, rfl, Ex.refl _⟩
  case round =>
    obtain ⟨k, hk, rfl, hE⟩ := hrel
    by_cases hlt : k < xs.length
    · obtain ⟨b, off, rfl, hc⟩ := (hA.ex hE).at (by omega)
      obtain ⟨c1, c2, c3⟩ := hc k hlt
      obtain ⟨b', off', rfl, hd⟩ := (hB.ex hE).at (by omega)
      obtain ⟨d1, d2, d3⟩ := hd k hlt
      generalize (xs.getD k .zero).re = r1 at c1 d1
      generalize (xs.getD k .zero).im = r2 at c2 d2
      generalize (xs.getD k .zero).den = r3 at c3 d3
      clear hc hd
      go_wp2_with fail
      go_quiet (fail)
      go_wp2
      go_roundw
      case rel => exact ⟨k + 1, by omega, by go_num, by repeat' (with_reducible first | exact Ex.refl _ | assumption | refine Ex.alloc ?_ _ | refine Ex.drewN ?_ _ | refine Ex.drew ?_ | refine Ex.setCell ?_ (by simp <;> omega) _)⟩
      case measure => simp [intOf]; omega
    · go_wp2
      go_ret
      exact ⟨rfl, hE⟩
theorem glight_len2 (ok : Bool) (p q : Int) (xs : List Int) : (glight ok p q xs).1.length ≤ xs.length := by
  unfold glight
  split
  · simp
  · simp
theorem glight_wrap {r c p q : Int} {xs : List Int} {zs : List Fr} (h : glight (gvalid r c xs) p q xs = (zs, true)) :
    gwrap r c xs = ⟨true, r, c, xs.map (· % 4)⟩ ∧ glight (gvalid r c (xs.map (· % 4))) p q (xs.map (· % 4)) = (zs, true) ∧ zs.length = xs.length ∧ ∀ f ∈ zs, f.im = 0 ∧ 0 ≤ f.re ∧ f.re ≤ f.den := by
  unfold glight at h
  split at h
  · rename_i hc
    simp only [Prod.mk.injEq, and_true] at h
    subst h
    rw [Bool.and_eq_true] at hc
    obtain ⟨hv, ha⟩ := hc
    have hv2 : gvalid r c (xs.map (· % 4)) = true := by
      unfold gvalid at hv ⊢
      simp only [Bool.and_eq_true] at hv ⊢
      refine ⟨⟨⟨hv.1.1.1, hv.1.1.2⟩, by simpa using hv.1.2⟩, ?_⟩
      rw [List.all_eq_true]
      intro n hn
      rw [List.mem_map] at hn
      obtain ⟨m, -, rfl⟩ := hn
      have h0 := Int.emod_nonneg m (show (4 : Int) ≠ 0 by decide)
      have h1 := Int.emod_lt_of_pos m (show (0 : Int) < 4 by decide)
      simp only [inB, Bool.and_eq_true, decide_eq_true_eq]
      omega
    refine ⟨by simp [gwrap, hv], ?_, by simp, ?_⟩
    · unfold glight
      rw [if_pos]
      · simp only [List.map_map, Prod.mk.injEq, and_true]
        apply List.map_congr_left
        intro n _
        simp
      · rw [hv2, Bool.true_and, List.all_map, List.all_eq_true]
        intro n hn
        have := List.all_eq_true.1 ha n hn
        simpa using this
    · intro f hf
      rw [List.mem_map] at hf
      obtain ⟨n, hn, rfl⟩ := hf
      have h2 := List.all_eq_true.1 ha n hn
      have h0 := Int.emod_nonneg n (show (4 : Int) ≠ 0 by decide)
      have h1 := Int.emod_lt_of_pos n (show (0 : Int) < 4 by decide)
      exact fcell_range (p := p) (q := q) (k := n % 4) h0 (by omega) (by rw [← h2])
  · cases h
set_option maxRecDepth 4000 in
set_option maxHeartbeats 4000000 in
theorem law_FnGlassLight (v : Value) (w : World) (h : IsBytes w v) (hG : Glob w) : Calls Tryd.prog 4 #[v] w fun e w' => e = .returned (.bool true) ∧ Ex w w' := by
  obtain ⟨A, cap, xs, rfl, hl, hcap, hcap2, hS, hbs⟩ := h
  have hB : Byts w A xs := ⟨hS, hbs⟩
  clear hS hbs
  by_cases hbig : (1048576 : Int) < xs.length
  · go_enter Tryd.func4, Tryd.ntmps4
    go_wp2
    go_ret
    exact ⟨rfl, Ex.refl _⟩
  go_enter Tryd.func4, Tryd.ntmps4
  go_wp2_with fail
  refine (drawGlassLight A xs cap w hB hl hcap hcap2).mono ?_
  rintro e w1 ⟨r, c, B, cb, ys, p, q, rfl, hy, hI, hx⟩
  have hE := hx
  clear hx
  have hl2 : ys.length ≤ 1048576 := by omega
  clear hB
  have V1 := fun B cb w (h : Glob w) hI => iGlassLight r c p q B ys cb w hI hl2
  have V2 := fun B cb w hI => sGlassLight r c p q B ys cb w hI hl2
  have V3 := fun B cb w hI => iGlassWrap r c B ys cb w hI hl2
  have V4 := fun B cb w (h : Glob w) hI => iGlassLight r c p q B (ys.map (· % 4)) cb w hI (by simpa using hl2)
  have hq : (glight (gvalid r c ys) p q ys).1.length ≤ 1048576 := Nat.le_trans (glight_len2 _ _ _ _) hl2
  have hwr := fun zs => glight_wrap (r := r) (c := c) (p := p) (q := q) (xs := ys) (zs := zs)
  generalize glight (gvalid r c ys) p q ys = R at V1 V2 hq hwr
  obtain ⟨zs, ok⟩ := R
  simp only at V1 V2 hq
  rcases ok with _ | _
  · clear V3 V4 hwr
    go_wp2_with fail
    refine (V1 _ cb _ (hG.ex (hE.alloc _)) (hI.alloc _)).mono ?_
    rintro e w2 ⟨B1, d1, rfl, h1, hx⟩
    have b2 := (Box.new w1 _ _).ex hx
    replace hx := ((Ex.refl w1).alloc _).trans hx
    replace hE := hE.trans hx
    have cb2 := b2.cell
    have zb2 := b2.lt
    replace hI := hI.ex hx
    clear hx
    go_wp2_with fail
    refine (V2 _ cb _ hI).mono ?_
    rintro e w3 ⟨B2, d2, rfl, h2, hx⟩
    replace hE := hE.trans hx
    replace h1 := h1.ex hx
    clear hx cb2 zb2 b2
    go_wp2_with fail
    refine (sameFracs_same B1 B2 zs d1 d2 _ h1.fracs h2.fracs hq).mono ?_
    rintro e w4 ⟨rfl, hx⟩
    replace hE := hE.trans hx
    replace h1 := h1.ex hx
    replace h2 := h2.ex hx
    clear hx
    go_wp2_with fail
    refine (sameFracs_same B1 B2 zs d1 d2 _ h1.fracs h2.fracs hq).mono ?_
    rintro e w5 ⟨rfl, hx⟩
    replace hE := hE.trans hx
    clear hx
    go_wp2
    go_ret
    exact ⟨rfl, hE⟩
  · obtain ⟨e1, e2, e3, e4⟩ := hwr zs rfl
    rw [e1] at V3
    rw [e2] at V4
    have HR := Lib.hid e4
    have HL := Lib.hid e3
    clear e1 e2 hwr e4 e3
    generalize ys.map (· % 4) = us at V3 V4
    go_wp2_with fail
    refine (V1 _ cb _ (hG.ex (hE.alloc _)) (hI.alloc _)).mono ?_
    rintro e w2 ⟨B1, d1, rfl, h1, hx⟩
    have b2 := (Box.new w1 _ _).ex hx
    replace hx := ((Ex.refl w1).alloc _).trans hx
    replace hE := hE.trans hx
    have cb2 := b2.cell
    have zb2 := b2.lt
    replace hI := hI.ex hx
    clear hx
    go_wp2_with fail
    refine (V2 _ cb _ hI).mono ?_
    rintro e w3 ⟨B2, d2, rfl, h2, hx⟩
    replace hE := hE.trans hx
    replace h1 := h1.ex hx
    replace b2 := b2.ex hx
    replace cb2 := b2.cell
    replace zb2 := b2.lt
    replace hI := hI.ex hx
    clear hx
    go_wp2_with fail
    refine (sameFracs_same B1 B2 zs d1 d2 _ h1.fracs h2.fracs hq).mono ?_
    rintro e w4 ⟨rfl, hx⟩
    replace hE := hE.trans hx
    replace h1 := h1.ex hx
    replace b2 := b2.ex hx
    replace cb2 := b2.cell
    replace zb2 := b2.lt
    replace hI := hI.ex hx
    clear hx h2
    go_wp2_with fail
    refine (V3 _ cb _ hI).mono ?_
    rintro e w5 ⟨B3, d3, rfl, h3, hx⟩
    replace hE := hE.trans hx
    replace h1 := h1.ex hx
    replace b2 := b2.ex hx
    replace cb2 := b2.cell
    replace zb2 := b2.lt
    clear hx
    go_wp2_with fail
    refine (V4 _ d3 _ (hG.ex (hE.alloc _)) (h3.alloc _).ints).mono ?_
    rintro e w6 ⟨B4, d4, rfl, h4, hx⟩
    replace hx := ((Ex.refl w5).alloc _).trans hx
    replace hE := hE.trans hx
    replace h1 := h1.ex hx
    replace b2 := b2.ex hx
    replace cb2 := b2.cell
    replace zb2 := b2.lt
    clear hx h3 V1 V2 V3 V4
    go_wp2_with fail
    go_loopw [14] (fun i wr => ∃ (k : Nat), k ≤ zs.length ∧ i = .int .i64 k ∧ Ex w6 wr) (fun i _ => zs.length - (intOf i).toNat)
    case atStart => exact ⟨0, by omega, rfl, Ex.refl _⟩
    case round =>
      obtain ⟨k, hk, rfl, hx⟩ := hrel
      by_cases hlt : k < zs.length
      · obtain ⟨b, off, rfl, hc⟩ := (h1.fracs.ex hx).at (by omega)
        obtain ⟨c1, c2, c3⟩ := hc k hlt
        have hm : zs.getD k .zero ∈ zs := by rw [List.getD_eq_getElem?_getD, List.getElem?_eq_getElem hlt]; exact List.getElem_mem hlt
        obtain ⟨m1, m2, m3⟩ := HR.out _ hm
        rw [m1] at c2
        generalize (zs.getD k .zero).re = r1 at c1 m2 m3
        generalize (zs.getD k .zero).den = r3 at c3 m3
        have n1 : ¬ r1 < 0 := by omega
        have n2 : ¬ r3 < r1 := by omega
        clear hc hm m1 m2 m3 cb2 b2
        go_wp2_with fail
        go_quiet (fail)
        go_wp2
        go_roundw
        case rel => exact ⟨k + 1, by omega, by go_num, by repeat' (with_reducible first | exact Ex.refl _ | assumption | refine Ex.alloc ?_ _ | refine Ex.drewN ?_ _ | refine Ex.drew ?_ | refine Ex.setCell ?_ (by simp <;> omega) _)⟩
        case measure => simp [intOf]; omega
      · have hEr := hE.trans hx
        replace b2 := b2.ex hx
        replace cb2 := b2.cell
        replace h1 := h1.ex hx
        replace h4 := h4.ex hx
        go_wp2_with fail
        refine (sameFracs_same B4 B1 zs d4 d1 _ h4.fracs h1.fracs hq).mono ?_
        rintro e w7 ⟨rfl, hx7⟩
        replace hEr := hEr.trans hx7
        replace b2 := b2.ex hx7
        replace cb2 := b2.cell
        have e5 : ((zs.length : Int) == (ys.length : Int)) = true := by rw [HL.out]; simp
        go_wp2_with fail
        go_ret
        exact ⟨rfl, hEr⟩
end Go.Proofs.YtmmjkchjgeklnaaDoor
