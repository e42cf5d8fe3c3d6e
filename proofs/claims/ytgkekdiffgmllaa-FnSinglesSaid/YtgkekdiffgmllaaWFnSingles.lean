/-
  The walk of the law FnSingles.
-/
import Derived.Test.YtgkekdiffgmllaaLawD
import Derived.Test.YtgkekdiffgmllaaLawH
import Derived.Test.YtgkekdiffgmllaaRead
namespace Go.Proofs.Ytgkekdiffgmllaa
open Go.RowKit

theorem gsingles_ok {xs : List Fr} {cs : List (Nat × Nat)} (h : gsingles xs = (cs, true)) : gok xs = true ∧ cs = xs.map fsing := by
  unfold gsingles at h
  rcases hg : gok xs with _ | _
  · rw [hg] at h; simp at h
  · rw [hg] at h
    simp at h
    exact ⟨rfl, h.symm⟩

set_option maxRecDepth 4000 in
set_option maxHeartbeats 4000000 in
theorem law_FnSingles (v : Value) (w : World) (h : IsBytes w v) : Calls Try.prog 5 #[v] w fun e w' => e = .returned (.bool true) ∧ Ex w w' := by
  obtain ⟨A, cap, xs, rfl, hl, hcap, hcap2, hS, hbs⟩ := h
  have hB : Byts w A xs := ⟨hS, hbs⟩
  clear hS hbs
  by_cases hbig : (1048576 : Int) < xs.length
  · go_enter Try.func5, Try.ntmps5
    go_wp2
    go_ret
    exact ⟨rfl, Ex.refl _⟩
  go_enter Try.func5, Try.ntmps5
  go_wp2_with fail
  refine (drawGridSingles A xs cap w hB hl hcap hcap2).mono ?_
  rintro e w1 ⟨B, cb, ys, rfl, hy, hF, hE⟩
  have hl2 : ys.length ≤ 1048576 := by omega
  clear hB hy hbig
  have ki := fun w hS => iGridSingles B ys cb w hS hl2
  have ks := fun w hS => sGridSingles B ys cb w hS hl2
  obtain ⟨hcl, hsg⟩ := gsingles_facts ys
  have hok := fun cs => gsingles_ok (xs := ys) (cs := cs)
  generalize gsingles ys = R at ki ks hcl hsg hok
  obtain ⟨cs, ok⟩ := R
  simp only at hcl hsg
  have hcl2 : cs.length ≤ 1048576 := by omega
  have hFr := hF.fracs
  clear hF
  rcases ok with _ | _
  · clear hok
    go_wp2_with fail
    refine (ki _ hFr).mono ?_
    rintro e w2 ⟨G, cg, rfl, hG, hx⟩
    replace hFr := hFr.ex hx
    replace hE := hE.trans hx
    clear hx
    go_wp2_with fail
    refine (ks _ hFr).mono ?_
    rintro e w3 ⟨H, ch, rfl, hH, hx⟩
    replace hG := OwnC.ex hG hx
    replace hE := hE.trans hx
    clear hx
    have kk := fun w hA hB => sameSingles_same G H cs cg ch w hA hB hcl2 hsg
    dsimp only at hG hH
    go_wp2_with fail
    refine (kk _ hG.sgls hH.sgls).mono ?_
    rintro e w4 ⟨rfl, hx⟩
    replace hG := OwnC.ex hG hx
    replace hH := OwnC.ex hH hx
    replace hE := hE.trans hx
    clear hx
    go_wp2_with fail
    refine (kk _ hG.sgls hH.sgls).mono ?_
    rintro e w5 ⟨rfl, hx⟩
    replace hE := hE.trans hx
    go_wp2
    go_ret
    exact ⟨rfl, hE⟩
  · obtain ⟨hgok, hcs⟩ := hok cs rfl
    obtain ⟨hall, -, -⟩ := gok_out hgok
    have hlen : cs.length = ys.length := by rw [hcs]; simp
    have hf : ∀ k, k < ys.length → ∀ w, Calls Try.prog 30 #[(ys.getD k .zero).v] w fun e w' => e = .returned (.tuple #[.complex .f32 (cs.getD k (0, 0)).1 (cs.getD k (0, 0)).2, .bool true]) ∧ Ex w w' := by
      intro k hk w
      have h1 := iFracSingle (ys.getD k .zero) w
      have e1 : cs.getD k (0, 0) = fsing (ys.getD k .zero) := by rw [hcs]; simp [hk]
      have e2 := fsingle_ok (hall k hk)
      have e3 : (fsingle (ys.getD k .zero)).2.2 = true := by rw [e2]
      rw [e1]
      unfold fsing
      rw [← e3]
      exact h1
    have HF := Lib.hid hf
    have HLen := Lib.hid hlen
    have HSG := Lib.hid hsg
    have kk0 := fun G cg H ch w hA hB => sameSingles_same G H cs cg ch w hA hB hcl2 hsg
    have KK := Lib.hid kk0
    clear hok hcs hf hall hgok kk0 hlen hsg hcl
    go_wp2_with fail
    refine (ki _ hFr).mono ?_
    rintro e w2 ⟨G, cg, rfl, hG, hx⟩
    replace hFr := hFr.ex hx
    replace hE := hE.trans hx
    clear hx
    go_wp2_with fail
    refine (ks _ hFr).mono ?_
    rintro e w3 ⟨H, ch, rfl, hH, hx⟩
    replace hG := OwnC.ex hG hx
    replace hFr := hFr.ex hx
    replace hE := hE.trans hx
    clear hx
    dsimp only at hG hH
    go_wp2_with fail
    refine (KK.out G cg H ch _ hG.sgls hH.sgls).mono ?_
    rintro e w4 ⟨rfl, hx⟩
    have hG2 := (OwnC.ex hG hx).sgls
    replace hFr := hFr.ex hx
    replace hE := hE.trans hx
    clear hx hH ki ks hG
    go_wp2
    go_loopw [8] (fun i wr => ∃ (k : Nat), k ≤ cs.length ∧ i = .int .i64 k ∧ Ex w4 wr) (fun i _ => cs.length - (intOf i).toNat)
    case atStart => exact ⟨0, by omega, rfl, Ex.refl _⟩
    case round =>
      obtain ⟨k, hk, rfl, hEr⟩ := hrel
      by_cases hlt : k < cs.length
      · have hky : k < ys.length := by have := HLen.out; omega
        obtain ⟨b, off, rfl, hc⟩ := (hFr.ex hEr).at (by omega)
        obtain ⟨b2, off2, rfl, hc2⟩ := (hG2.ex hEr).at (by omega)
        obtain ⟨c1, c2, c3⟩ := hc k hky
        have d1 := hc2 k hlt
        obtain ⟨s1, s2⟩ := HSG.out k hlt
        have kf : ∀ w, Calls Try.prog 30 #[.agg #[.int .i64 (ys.getD k .zero).re, .int .i64 (ys.getD k .zero).im, .int .i64 (ys.getD k .zero).den]] w fun e w' => e = .returned (.tuple #[.complex .f32 (cs.getD k (0, 0)).1 (cs.getD k (0, 0)).2, .bool true]) ∧ Ex w w' := HF.out k hky
        generalize (ys.getD k .zero).re = r1 at c1 kf
        generalize (ys.getD k .zero).im = r2 at c2 kf
        generalize (ys.getD k .zero).den = r3 at c3 kf
        have kt := fun w => singleAlike_self _ _ s1 s2 w
        generalize (cs.getD k (0, 0)).1 = p at d1 kf kt
        generalize (cs.getD k (0, 0)).2 = q at d1 kf kt
        have KT := Lib.hid kt
        clear hc hc2 kt s1 s2
        go_wp2_with fail
        refine (kf _).mono ?_
        rintro e w5 ⟨rfl, hx⟩
        replace d1 := hx.get d1
        have hE5 := hEr.trans hx
        clear hx c1 c2 c3 kf hEr
        go_wp2_with fail
        refine (KT.out _).mono ?_
        rintro e w6 ⟨rfl, rfl⟩
        go_wp2
        go_roundw
        case rel => exact ⟨k + 1, by omega, by go_num, by repeat' (with_reducible first | exact Ex.refl _ | assumption | refine Ex.alloc ?_ _ | refine Ex.drewN ?_ _ | refine Ex.drew ?_ | refine Ex.setCell ?_ (by simp <;> omega) _)⟩
        case measure => simp [intOf]; omega
      · have hfin : ((cs.length : Int) == (ys.length : Int)) = true := by rw [HLen.out]; simp
        have hln := HLen.out
        go_wp2
        go_ret
        exact ⟨ret_bool (by simp [hln]), hE.trans hEr⟩
end Go.Proofs.Ytgkekdiffgmllaa
