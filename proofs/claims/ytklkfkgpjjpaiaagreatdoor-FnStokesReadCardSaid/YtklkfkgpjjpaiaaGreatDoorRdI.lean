/-
  Walks: the program's reading of a text of a fraction.
-/
import Derived.Test.YtklkfkgpjjpaiaaGreatDoorRdL
set_option linter.unusedSimpArgs false
set_option linter.unusedVariables false
namespace Go.Proofs.YtklkfkgpjjpaiaaGreatDoor
open Go.RowKit

theorem cut_len (l sep : List UInt8) : (Lib.cut l sep).1.length ≤ l.length ∧ (Lib.cut l sep).2.1.length ≤ l.length := by
  unfold Lib.cut
  split
  · simp; omega
  · simp
theorem extract_to (l : List UInt8) (n : Nat) : (Bs l).extract 0 n = Bs (l.take n) := by
  have := ByteArray.extract_mk l 0 n
  simpa [Bs] using this
theorem extract_from (l : List UInt8) (n : Nat) : (Bs l).extract n (Bs l).size = Bs (l.drop n) := by
  have := ByteArray.extract_mk l n l.length
  unfold Bs at *
  have e : (ByteArray.mk l.toArray).size = l.length := rfl
  rw [e, this, List.take_of_length_le (by simp)]
/-- What is known where the text is that of a fraction. -/
theorem parts_of {l : List UInt8} {n : Int} (h : LiaAt (Lib.cut l [105]).1 n) (x : Fr) (hv : x.valid = true) (ht : txt x = l) :
    (Lib.cut l [105]).2.2 = true ∧ 1 ≤ n ∧ Lib.atoiAll ((Lib.cut l [105]).1.take n.toNat) = .ok x.re ∧ Lib.atoiAll ((Lib.cut l [105]).1.drop n.toNat) = .ok x.im ∧ (Lib.cut l [105]).2.1 = tailT x := by
  obtain ⟨b1, b2, b3⟩ := Fr.bounds hv
  subst ht
  rw [cut_txt] at h ⊢
  obtain ⟨-, -, h3⟩ := h
  have hn : n = (sgn x.re).length := by
    rw [← lastSign_txt x.re x.im]
    refine h3 fun c hc => ?_
    rcases List.mem_append.1 hc with hc | hc
    · have := sgn_bytes _ c hc; omega
    · have := sgn_bytes _ c hc; omega
  have l1 := sgn_short b1.1 b1.2
  have e1 : (sgn x.re ++ sgn x.im).take n.toNat = sgn x.re := by
    rw [hn, Int.toNat_natCast]
    exact List.take_left' rfl
  have e2 : (sgn x.re ++ sgn x.im).drop n.toNat = sgn x.im := by
    rw [hn, Int.toNat_natCast]
    exact List.drop_left' rfl
  refine ⟨rfl, by omega, ?_, ?_, rfl⟩
  · rw [e1]; exact atoi_sgn b1.1 b1.2
  · rw [e2]; exact atoi_sgn b2.1 b2.2
theorem trim_len (l : List UInt8) : (Lib.trimPrefix l [47]).length ≤ l.length := by
  unfold Lib.trimPrefix
  split
  · simp
  · exact Nat.le_refl _
theorem den_of {x : Fr} {rt : List UInt8} (hv : x.valid = true) (hr : ¬ rt = []) (h : rt = tailT x) : Lib.atoiAll (Lib.trimPrefix rt [47]) = .ok x.den := by
  obtain ⟨b1, b2, b3⟩ := Fr.bounds hv
  by_cases hd : x.den = 1
  · exact absurd (h.trans (if_pos hd)) hr
  · rw [h]
    unfold tailT
    rw [if_neg hd, trim_den]
    exact atoi_den b3.1 b3.2
theorem den_one {x : Fr} {rt : List UInt8} (hv : x.valid = true) (hr : rt = []) (h : rt = tailT x) : x.den = 1 := by
  by_cases hd : x.den = 1
  · exact hd
  · rw [hr] at h
    unfold tailT at h
    rw [if_neg hd] at h
    cases h
set_option maxRecDepth 10000 in
set_option maxHeartbeats 2000000 in
theorem iFracRead (l : List UInt8) (hl : l.length ≤ 1048576) (w : World) (hm : Mem w) : Calls Tryz.prog 18 #[.string (Bs l)] w (GotF w (rd l)) := by
  have kc := fun w hm => cut_any l hl w hm
  have hcl := cut_len l [105]
  have hpo := fun n h => parts_of (l := l) (n := n) h
  generalize Lib.cut l [105] = c at kc hcl hpo
  obtain ⟨lf, rt, fd⟩ := c
  simp only at kc hcl hpo
  have kl := fun w hm => lia_any lf (by omega) w hm
  show Calls _ _ _ w fun e w' => e = .returned (.tuple #[(rd l).1.v, .bool (rd l).2]) ∧ Ex w w'
  obtain ⟨S, HS⟩ : ∃ S, Hid (S = Bs l) := ⟨_, Lib.hid rfl⟩
  obtain ⟨SL, HSL⟩ : ∃ S, Hid (S = Bs lf) := ⟨_, Lib.hid rfl⟩
  obtain ⟨SR, HSR⟩ : ∃ S, Hid (S = Bs rt) := ⟨_, Lib.hid rfl⟩
  rw [← HS.out, ← HSL.out, ← HSR.out] at kc
  rw [← HS.out]
  rw [← HSL.out] at kl
  have HP := Lib.hid hpo
  have KC := Lib.hid kc
  have KL := Lib.hid kl
  have HM := Lib.hid hm
  have HL := Lib.hid hcl
  have HLL := Lib.hid hl
  clear hpo kc kl hm hcl hl
  rcases fd with _ | _
  · go_enter Tryz.func18, Tryz.ntmps18
    go_wp2_with fail
    refine (KC.out _ (HM.out.alloc _)).mono ?_
    rintro e w1 ⟨rfl, hx⟩
    have hE := ((Ex.refl _).alloc _).trans hx
    have bR := (Box.new w #[.int .i64 0, .int .i64 0, .int .i64 0] 24).ex hx
    clear hx
    go_wp2_with fail
    refine (KL.out _ (HM.out.ex hE)).mono ?_
    rintro e w2 ⟨n, rfl, hx, hn⟩
    replace hE := hE.trans hx
    replace bR := bR.ex hx
    clear hx
    have HN : Hid (LiaAt lf n) := Lib.hid hn
    clear hn
    have HR : Hid (rd l = (⟨0, 0, 0⟩, false)) := Lib.hid (rd_none fun x hv ht => by have h := (HP.out n HN.out x hv ht).1; cases h)
    have cR := bR.cell
    have zR := bR.lt
    have fR := bR.frozen
    go_wp2
    clear cR zR fR
    replace hE := exs3 hE (b := w.heap.size) (Nat.le_refl _) (.int .i64 0) (.int .i64 0) (.int .i64 0)
    replace bR := put3 bR (.int .i64 0) (.int .i64 0) (.int .i64 0)
    generalize ((w2.setCell ⟨w.heap.size, 0, none⟩ (.int .i64 0)).setCell ⟨w.heap.size, 1, none⟩ (.int .i64 0)).setCell ⟨w.heap.size, 2, none⟩ (.int .i64 0) = Y at bR hE ⊢
    have cR := bR.cell
    refine bodyPost_ret (v := .tuple #[.agg #[.int .i64 0, .int .i64 0, .int .i64 0], .bool false]) ?_ rfl ⟨by rw [HR.out]; rfl, hE⟩
    simp [results, Tryz.results18, go_sem, cR]
  · go_enter Tryz.func18, Tryz.ntmps18
    go_wp2_with fail
    refine (KC.out _ (HM.out.alloc _)).mono ?_
    rintro e w1 ⟨rfl, hx⟩
    have hE := ((Ex.refl _).alloc _).trans hx
    have bR := (Box.new w #[.int .i64 0, .int .i64 0, .int .i64 0] 24).ex hx
    clear hx
    go_wp2_with fail
    refine (KL.out _ (HM.out.ex hE)).mono ?_
    rintro e w2 ⟨n, rfl, hx, hn⟩
    replace hE := hE.trans hx
    replace bR := bR.ex hx
    clear hx
    have HN : Hid (LiaAt lf n) := Lib.hid hn
    clear hn
    by_cases h1 : n < 1
    · have HR : Hid (rd l = (⟨0, 0, 0⟩, false)) := Lib.hid (rd_none fun x hv ht => by have := (HP.out n HN.out x hv ht).2.1; omega)
      have cR := bR.cell
      have zR := bR.lt
      have fR := bR.frozen
      go_wp2
      clear cR zR fR
      replace hE := exs3 hE (b := w.heap.size) (Nat.le_refl _) (.int .i64 0) (.int .i64 0) (.int .i64 0)
      replace bR := put3 bR (.int .i64 0) (.int .i64 0) (.int .i64 0)
      generalize ((w2.setCell ⟨w.heap.size, 0, none⟩ (.int .i64 0)).setCell ⟨w.heap.size, 1, none⟩ (.int .i64 0)).setCell ⟨w.heap.size, 2, none⟩ (.int .i64 0) = Y at bR hE ⊢
      have cR := bR.cell
      refine bodyPost_ret (v := .tuple #[.agg #[.int .i64 0, .int .i64 0, .int .i64 0], .bool false]) ?_ rfl ⟨by rw [HR.out]; rfl, hE⟩
      simp [results, Tryz.results18, go_sem, cR]
    · have h0 : 0 ≤ n := by omega
      have hle : n ≤ (SL.size : Int) := by rw [HSL.out, Bs_size]; have := HN.out.2.1; omega
      have ht1 : SL.extract 0 n.toNat = Bs (lf.take n.toNat) := by rw [HSL.out]; exact extract_to _ _
      have ht2 : SL.extract n.toNat SL.size = Bs (lf.drop n.toNat) := by rw [HSL.out]; exact extract_from _ _
      have k1 := fun w hm => atoi_any (lf.take n.toNat) (by rw [List.length_take]; have := HL.out.1; have := HLL.out; omega) w hm
      have k2 := fun w hm => atoi_any (lf.drop n.toNat) (by rw [List.length_drop]; have := HL.out.1; have := HLL.out; omega) w hm
      generalize Bs (lf.take n.toNat) = S1 at k1 ht1
      generalize Bs (lf.drop n.toNat) = S2 at k2 ht2
      have K1 := Lib.hid k1
      have K2 := Lib.hid k2
      clear k1 k2
      by_cases hr : rt = []
      · subst hr
        obtain rfl : SR = ⟨#[]⟩ := HSR.out
        have hb := bR.lt
        go_wp2_with fail
        refine (K1.out _ ((HM.out.ex hE).alloc _)).mono ?_
        rintro e w3 ⟨v1, er1, rfl, hx, he1, hk1⟩
        have bA := (Box.new w2 #[.int .i64 0, .int .i64 0, .int .i64 1] 24).ex hx
        replace hE := (hE.alloc _).trans hx
        replace bR := (bR.alloc (.cells #[.int .i64 0, .int .i64 0, .int .i64 1] 24)).ex hx
        have HK1 := Lib.hid hk1
        have HE1 := Lib.hid he1
        clear hx hk1 he1
        have cA := bA.cell
        have zA := bA.lt
        have fA := bA.frozen
        go_wp2_with fail
        clear cA zA fA
        replace hE := hE.setCell (p := ⟨w2.heap.size, 0, none⟩) (by show _ ≤ w2.heap.size; omega) (.int .i64 v1)
        replace bA : Box (w3.setCell ⟨w2.heap.size, 0, none⟩ (.int .i64 v1)) w2.heap.size 24 #[.int .i64 v1, .int .i64 0, .int .i64 1] := by simpa using bA.set_ 0 (.int .i64 v1)
        replace bR := bR.far (p := ⟨w2.heap.size, 0, none⟩) (by show w.heap.size ≠ w2.heap.size; omega) (.int .i64 v1)
        refine (K2.out _ (HM.out.ex hE)).mono ?_
        rintro e w4 ⟨v2, er2, rfl, hx, he2, hk2⟩
        replace hE := hE.trans hx
        replace bA := bA.ex hx
        replace bR := bR.ex hx
        have HK2 := Lib.hid hk2
        have HE2 := Lib.hid he2
        clear hx hk2 he2
        have cA := bA.cell
        have zA := bA.lt
        have fA := bA.frozen
        go_upto_region 11 with fail
        clear cA zA fA
        replace hE := hE.setCell (p := ⟨w2.heap.size, 1, none⟩) (by show _ ≤ w2.heap.size; omega) (.int .i64 v2)
        replace bA : Box (w4.setCell ⟨w2.heap.size, 1, none⟩ (.int .i64 v2)) w2.heap.size 24 #[.int .i64 v1, .int .i64 v2, .int .i64 1] := by simpa using bA.set_ 1 (.int .i64 v2)
        replace bR := bR.far (p := ⟨w2.heap.size, 1, none⟩) (by show w.heap.size ≠ w2.heap.size; omega) (.int .i64 v2)
        generalize w4.setCell ⟨w2.heap.size, 1, none⟩ (.int .i64 v2) = w7 at hE bA bR ⊢
        have HX : Hid (∀ x : Fr, x.valid = true → txt x = l → (⟨v1, v2, 1⟩ : Fr) = x ∧ er1 = .nilIface ∧ er2 = .nilIface) := Lib.hid fun x hv ht => by
          obtain ⟨-, -, h3, h4, h5⟩ := HP.out n HN.out x hv ht
          obtain ⟨rfl, rfl⟩ := HK1.out _ h3
          obtain ⟨rfl, rfl⟩ := HK2.out _ h4
          have := den_one hv rfl h5
          exact ⟨by obtain ⟨x1, x2, x3⟩ := x; simp only at this ⊢; rw [this], rfl, rfl⟩
        have he1 := HE1.out
        have he2 := HE2.out
        clear HE1 HE2 HK1 HK2 K1 K2 HN HP
        rcases he1 with rfl | ⟨N, rfl⟩
        rotate_left
        · have HR : Hid (rd l = (⟨0, 0, 0⟩, false)) := Lib.hid (rd_none fun x hv ht => by have h := (HX.out x hv ht).2.1; cases h)
          clear bA
          have cR := bR.cell
          have zR := bR.lt
          have fR := bR.frozen
          go_wp2
          clear cR zR fR
          replace hE := exs3 hE (b := w.heap.size) (Nat.le_refl _) (.int .i64 0) (.int .i64 0) (.int .i64 0)
          replace bR := put3 bR (.int .i64 0) (.int .i64 0) (.int .i64 0)
          generalize ((w7.setCell ⟨w.heap.size, 0, none⟩ (.int .i64 0)).setCell ⟨w.heap.size, 1, none⟩ (.int .i64 0)).setCell ⟨w.heap.size, 2, none⟩ (.int .i64 0) = Y at bR hE ⊢
          have cR := bR.cell
          refine bodyPost_ret (v := .tuple #[.agg #[.int .i64 0, .int .i64 0, .int .i64 0], .bool false]) ?_ rfl ⟨by rw [HR.out]; rfl, hE⟩
          simp [results, Tryz.results18, go_sem, cR]
        rcases he2 with rfl | ⟨N, rfl⟩
        rotate_left
        · have HR : Hid (rd l = (⟨0, 0, 0⟩, false)) := Lib.hid (rd_none fun x hv ht => by have h := (HX.out x hv ht).2.2; cases h)
          clear bA
          have cR := bR.cell
          have zR := bR.lt
          have fR := bR.frozen
          go_wp2
          clear cR zR fR
          replace hE := exs3 hE (b := w.heap.size) (Nat.le_refl _) (.int .i64 0) (.int .i64 0) (.int .i64 0)
          replace bR := put3 bR (.int .i64 0) (.int .i64 0) (.int .i64 0)
          generalize ((w7.setCell ⟨w.heap.size, 0, none⟩ (.int .i64 0)).setCell ⟨w.heap.size, 1, none⟩ (.int .i64 0)).setCell ⟨w.heap.size, 2, none⟩ (.int .i64 0) = Y at bR hE ⊢
          have cR := bR.cell
          refine bodyPost_ret (v := .tuple #[.agg #[.int .i64 0, .int .i64 0, .int .i64 0], .bool false]) ?_ rfl ⟨by rw [HR.out]; rfl, hE⟩
          simp [results, Tryz.results18, go_sem, cR]
        have kt := fun w ht => iFracText ⟨v1, v2, 1⟩ w ht
        rcases hv : (⟨v1, v2, 1⟩ : Fr).valid with _ | _
        · have HR : Hid (rd l = (⟨0, 0, 0⟩, false)) := Lib.hid (rd_none fun x hx ht => by have h := (HX.out x hx ht).1; rw [h, hx] at hv; cases hv)
          have e : ftext ⟨v1, v2, 1⟩ = ([], false) := by simp [ftext, hv]
          rw [e] at kt
          have KF : Hid (∀ w, Tab w → Calls Tryz.prog 28 #[.agg #[.int .i64 v1, .int .i64 v2, .int .i64 1]] w fun e w' => e = .returned (.tuple #[.string ⟨#[]⟩, .bool false]) ∧ Ex w w') := kt
          clear kt e hv HX
          have cA := bA.cell
          go_wp2_with fail
          refine (KF.out _ (HM.out.ex hE).tab).mono ?_
          rintro e w8 ⟨rfl, hx⟩
          replace hE := hE.trans hx
          replace bA := bA.ex hx
          replace bR := bR.ex hx
          replace cA := bA.cell
          clear hx
          have cR := bR.cell
          have zR := bR.lt
          have fR := bR.frozen
          go_wp2
          clear cR zR fR
          replace hE := exs3 hE (b := w.heap.size) (Nat.le_refl _) (.int .i64 0) (.int .i64 0) (.int .i64 0)
          replace bR := put3 bR (.int .i64 0) (.int .i64 0) (.int .i64 0)
          generalize ((w8.setCell ⟨w.heap.size, 0, none⟩ (.int .i64 0)).setCell ⟨w.heap.size, 1, none⟩ (.int .i64 0)).setCell ⟨w.heap.size, 2, none⟩ (.int .i64 0) = Y at bR hE ⊢
          have cR := bR.cell
          refine bodyPost_ret (v := .tuple #[.agg #[.int .i64 0, .int .i64 0, .int .i64 0], .bool false]) ?_ rfl ⟨by rw [HR.out]; rfl, hE⟩
          simp [results, Tryz.results18, go_sem, cR]
        · have e : ftext ⟨v1, v2, 1⟩ = (txt ⟨v1, v2, 1⟩, true) := by simp [ftext, hv]
          rw [e] at kt
          have kt2 : ∀ w, Tab w → Calls Tryz.prog 28 #[.agg #[.int .i64 v1, .int .i64 v2, .int .i64 1]] w fun e w' => e = .returned (.tuple #[.string (Bs (txt ⟨v1, v2, 1⟩)), .bool true]) ∧ Ex w w' := kt
          by_cases ht : txt ⟨v1, v2, 1⟩ = l
          · have HR : Hid (rd l = (⟨v1, v2, 1⟩, true)) := Lib.hid (rd_of hv ht)
            rw [ht, ← HS.out] at kt2
            have KF := Lib.hid kt2
            clear kt kt2 e hv HX ht
            have cA := bA.cell
            go_wp2_with fail
            refine (KF.out _ (HM.out.ex hE).tab).mono ?_
            rintro e w8 ⟨rfl, hx⟩
            replace hE := hE.trans hx
            replace bA := bA.ex hx
            replace bR := bR.ex hx
            replace cA := bA.cell
            clear hx
            have cR := bR.cell
            have zR := bR.lt
            have fR := bR.frozen
            go_wp2
            clear cR zR fR
            replace hE := exs3 hE (b := w.heap.size) (Nat.le_refl _) (.int .i64 v1) (.int .i64 v2) (.int .i64 1)
            replace bR := put3 bR (.int .i64 v1) (.int .i64 v2) (.int .i64 1)
            generalize ((w8.setCell ⟨w.heap.size, 0, none⟩ (.int .i64 v1)).setCell ⟨w.heap.size, 1, none⟩ (.int .i64 v2)).setCell ⟨w.heap.size, 2, none⟩ (.int .i64 1) = Y at bR hE ⊢
            have cR := bR.cell
            refine bodyPost_ret (v := .tuple #[.agg #[.int .i64 v1, .int .i64 v2, .int .i64 1], .bool true]) ?_ rfl ⟨by rw [HR.out]; rfl, hE⟩
            simp [results, Tryz.results18, go_sem, cR]
          · have HR : Hid (rd l = (⟨0, 0, 0⟩, false)) := Lib.hid (rd_none fun x hx h => by have h2 := (HX.out x hx h).1; rw [← h2] at h; exact ht h)
            have hne := Bs_ne ht
            rw [← HS.out] at hne
            generalize Bs (txt ⟨v1, v2, 1⟩) = T at kt2 hne
            have hne2 := str_ne hne
            have KF := Lib.hid kt2
            clear kt kt2 e hv HX ht
            have cA := bA.cell
            go_wp2_with fail
            refine (KF.out _ (HM.out.ex hE).tab).mono ?_
            rintro e w8 ⟨rfl, hx⟩
            replace hE := hE.trans hx
            replace bA := bA.ex hx
            replace bR := bR.ex hx
            replace cA := bA.cell
            clear hx
            have cR := bR.cell
            have zR := bR.lt
            have fR := bR.frozen
            go_wp2
            clear cR zR fR
            replace hE := exs3 hE (b := w.heap.size) (Nat.le_refl _) (.int .i64 0) (.int .i64 0) (.int .i64 0)
            replace bR := put3 bR (.int .i64 0) (.int .i64 0) (.int .i64 0)
            generalize ((w8.setCell ⟨w.heap.size, 0, none⟩ (.int .i64 0)).setCell ⟨w.heap.size, 1, none⟩ (.int .i64 0)).setCell ⟨w.heap.size, 2, none⟩ (.int .i64 0) = Y at bR hE ⊢
            have cR := bR.cell
            refine bodyPost_ret (v := .tuple #[.agg #[.int .i64 0, .int .i64 0, .int .i64 0], .bool false]) ?_ rfl ⟨by rw [HR.out]; rfl, hE⟩
            simp [results, Tryz.results18, go_sem, cR]
      · have HRT := Lib.hid hr
        have hs0 : (SR.toList.isEmpty) = false := by rw [HSR.out, Lib.toList_data]; cases rt with | nil => exact absurd rfl hr | cons c r => rfl
        have k3 := fun w hm => atoi_any (Lib.trimPrefix rt [47]) (by have := trim_len rt; have := HL.out.2; have := HLL.out; omega) w hm
        have kt := fun w => trim_any rt w
        rw [← HSR.out] at kt
        generalize Bs (Lib.trimPrefix rt [47]) = S3 at k3 kt
        have K3 := Lib.hid k3
        have KT := Lib.hid kt
        clear k3 kt hr
        have hb := bR.lt
        go_wp2_with fail
        refine (K1.out _ ((HM.out.ex hE).alloc _)).mono ?_
        rintro e w3 ⟨v1, er1, rfl, hx, he1, hk1⟩
        have bA := (Box.new w2 #[.int .i64 0, .int .i64 0, .int .i64 1] 24).ex hx
        replace hE := (hE.alloc _).trans hx
        replace bR := (bR.alloc (.cells #[.int .i64 0, .int .i64 0, .int .i64 1] 24)).ex hx
        have HK1 := Lib.hid hk1
        have HE1 := Lib.hid he1
        clear hx hk1 he1
        have cA := bA.cell
        have zA := bA.lt
        have fA := bA.frozen
        go_wp2_with fail
        clear cA zA fA
        replace hE := hE.setCell (p := ⟨w2.heap.size, 0, none⟩) (by show _ ≤ w2.heap.size; omega) (.int .i64 v1)
        replace bA : Box (w3.setCell ⟨w2.heap.size, 0, none⟩ (.int .i64 v1)) w2.heap.size 24 #[.int .i64 v1, .int .i64 0, .int .i64 1] := by simpa using bA.set_ 0 (.int .i64 v1)
        replace bR := bR.far (p := ⟨w2.heap.size, 0, none⟩) (by show w.heap.size ≠ w2.heap.size; omega) (.int .i64 v1)
        refine (K2.out _ (HM.out.ex hE)).mono ?_
        rintro e w4 ⟨v2, er2, rfl, hx, he2, hk2⟩
        replace hE := hE.trans hx
        replace bA := bA.ex hx
        replace bR := bR.ex hx
        have HK2 := Lib.hid hk2
        have HE2 := Lib.hid he2
        clear hx hk2 he2
        have cA := bA.cell
        have zA := bA.lt
        have fA := bA.frozen
        go_wp2_with fail
        clear cA zA fA
        replace hE := hE.setCell (p := ⟨w2.heap.size, 1, none⟩) (by show _ ≤ w2.heap.size; omega) (.int .i64 v2)
        replace bA : Box (w4.setCell ⟨w2.heap.size, 1, none⟩ (.int .i64 v2)) w2.heap.size 24 #[.int .i64 v1, .int .i64 v2, .int .i64 1] := by simpa using bA.set_ 1 (.int .i64 v2)
        replace bR := bR.far (p := ⟨w2.heap.size, 1, none⟩) (by show w.heap.size ≠ w2.heap.size; omega) (.int .i64 v2)
        refine (KT.out _).mono ?_
        rintro e w5 ⟨rfl, hx⟩
        replace hE := hE.trans hx
        replace bA := bA.ex hx
        replace bR := bR.ex hx
        clear hx
        go_wp2_with fail
        refine (K3.out _ (HM.out.ex hE)).mono ?_
        rintro e w6 ⟨v3, er3, rfl, hx, he3, hk3⟩
        replace hE := hE.trans hx
        replace bA := bA.ex hx
        replace bR := bR.ex hx
        have HK3 := Lib.hid hk3
        have HE3 := Lib.hid he3
        clear hx hk3 he3
        have cA := bA.cell
        have zA := bA.lt
        have fA := bA.frozen
        go_upto_region 11 with fail
        clear cA zA fA
        replace hE := hE.setCell (p := ⟨w2.heap.size, 2, none⟩) (by show _ ≤ w2.heap.size; omega) (.int .i64 v3)
        replace bA : Box (w6.setCell ⟨w2.heap.size, 2, none⟩ (.int .i64 v3)) w2.heap.size 24 #[.int .i64 v1, .int .i64 v2, .int .i64 v3] := by simpa using bA.set_ 2 (.int .i64 v3)
        replace bR := bR.far (p := ⟨w2.heap.size, 2, none⟩) (by show w.heap.size ≠ w2.heap.size; omega) (.int .i64 v3)
        generalize w6.setCell ⟨w2.heap.size, 2, none⟩ (.int .i64 v3) = w7 at hE bA bR ⊢
        have HX : Hid (∀ x : Fr, x.valid = true → txt x = l → (⟨v1, v2, v3⟩ : Fr) = x ∧ er1 = .nilIface ∧ er2 = .nilIface ∧ er3 = .nilIface) := Lib.hid fun x hv ht => by
          obtain ⟨-, -, h3, h4, h5⟩ := HP.out n HN.out x hv ht
          obtain ⟨rfl, rfl⟩ := HK1.out _ h3
          obtain ⟨rfl, rfl⟩ := HK2.out _ h4
          obtain ⟨rfl, rfl⟩ := HK3.out _ (den_of hv HRT.out h5)
          exact ⟨rfl, rfl, rfl, rfl⟩
        have he1 := HE1.out
        have he2 := HE2.out
        have he3 := HE3.out
        clear HE1 HE2 HK1 HK2 K1 K2 HN HP HE3 HK3 K3 KT
        rcases he1 with rfl | ⟨N, rfl⟩
        rotate_left
        · have HR : Hid (rd l = (⟨0, 0, 0⟩, false)) := Lib.hid (rd_none fun x hv ht => by have h := (HX.out x hv ht).2.1; cases h)
          clear bA
          have cR := bR.cell
          have zR := bR.lt
          have fR := bR.frozen
          go_wp2
          clear cR zR fR
          replace hE := exs3 hE (b := w.heap.size) (Nat.le_refl _) (.int .i64 0) (.int .i64 0) (.int .i64 0)
          replace bR := put3 bR (.int .i64 0) (.int .i64 0) (.int .i64 0)
          generalize ((w7.setCell ⟨w.heap.size, 0, none⟩ (.int .i64 0)).setCell ⟨w.heap.size, 1, none⟩ (.int .i64 0)).setCell ⟨w.heap.size, 2, none⟩ (.int .i64 0) = Y at bR hE ⊢
          have cR := bR.cell
          refine bodyPost_ret (v := .tuple #[.agg #[.int .i64 0, .int .i64 0, .int .i64 0], .bool false]) ?_ rfl ⟨by rw [HR.out]; rfl, hE⟩
          simp [results, Tryz.results18, go_sem, cR]
        rcases he2 with rfl | ⟨N, rfl⟩
        rotate_left
        · have HR : Hid (rd l = (⟨0, 0, 0⟩, false)) := Lib.hid (rd_none fun x hv ht => by have h := (HX.out x hv ht).2.2.1; cases h)
          clear bA
          have cR := bR.cell
          have zR := bR.lt
          have fR := bR.frozen
          go_wp2
          clear cR zR fR
          replace hE := exs3 hE (b := w.heap.size) (Nat.le_refl _) (.int .i64 0) (.int .i64 0) (.int .i64 0)
          replace bR := put3 bR (.int .i64 0) (.int .i64 0) (.int .i64 0)
          generalize ((w7.setCell ⟨w.heap.size, 0, none⟩ (.int .i64 0)).setCell ⟨w.heap.size, 1, none⟩ (.int .i64 0)).setCell ⟨w.heap.size, 2, none⟩ (.int .i64 0) = Y at bR hE ⊢
          have cR := bR.cell
          refine bodyPost_ret (v := .tuple #[.agg #[.int .i64 0, .int .i64 0, .int .i64 0], .bool false]) ?_ rfl ⟨by rw [HR.out]; rfl, hE⟩
          simp [results, Tryz.results18, go_sem, cR]
        rcases he3 with rfl | ⟨N, rfl⟩
        rotate_left
        · have HR : Hid (rd l = (⟨0, 0, 0⟩, false)) := Lib.hid (rd_none fun x hv ht => by have h := (HX.out x hv ht).2.2.2; cases h)
          clear bA
          have cR := bR.cell
          have zR := bR.lt
          have fR := bR.frozen
          go_wp2
          clear cR zR fR
          replace hE := exs3 hE (b := w.heap.size) (Nat.le_refl _) (.int .i64 0) (.int .i64 0) (.int .i64 0)
          replace bR := put3 bR (.int .i64 0) (.int .i64 0) (.int .i64 0)
          generalize ((w7.setCell ⟨w.heap.size, 0, none⟩ (.int .i64 0)).setCell ⟨w.heap.size, 1, none⟩ (.int .i64 0)).setCell ⟨w.heap.size, 2, none⟩ (.int .i64 0) = Y at bR hE ⊢
          have cR := bR.cell
          refine bodyPost_ret (v := .tuple #[.agg #[.int .i64 0, .int .i64 0, .int .i64 0], .bool false]) ?_ rfl ⟨by rw [HR.out]; rfl, hE⟩
          simp [results, Tryz.results18, go_sem, cR]
        have kt := fun w ht => iFracText ⟨v1, v2, v3⟩ w ht
        rcases hv : (⟨v1, v2, v3⟩ : Fr).valid with _ | _
        · have HR : Hid (rd l = (⟨0, 0, 0⟩, false)) := Lib.hid (rd_none fun x hx ht => by have h := (HX.out x hx ht).1; rw [h, hx] at hv; cases hv)
          have e : ftext ⟨v1, v2, v3⟩ = ([], false) := by simp [ftext, hv]
          rw [e] at kt
          have KF : Hid (∀ w, Tab w → Calls Tryz.prog 28 #[.agg #[.int .i64 v1, .int .i64 v2, .int .i64 v3]] w fun e w' => e = .returned (.tuple #[.string ⟨#[]⟩, .bool false]) ∧ Ex w w') := kt
          clear kt e hv HX
          have cA := bA.cell
          go_wp2_with fail
          refine (KF.out _ (HM.out.ex hE).tab).mono ?_
          rintro e w8 ⟨rfl, hx⟩
          replace hE := hE.trans hx
          replace bA := bA.ex hx
          replace bR := bR.ex hx
          replace cA := bA.cell
          clear hx
          have cR := bR.cell
          have zR := bR.lt
          have fR := bR.frozen
          go_wp2
          clear cR zR fR
          replace hE := exs3 hE (b := w.heap.size) (Nat.le_refl _) (.int .i64 0) (.int .i64 0) (.int .i64 0)
          replace bR := put3 bR (.int .i64 0) (.int .i64 0) (.int .i64 0)
          generalize ((w8.setCell ⟨w.heap.size, 0, none⟩ (.int .i64 0)).setCell ⟨w.heap.size, 1, none⟩ (.int .i64 0)).setCell ⟨w.heap.size, 2, none⟩ (.int .i64 0) = Y at bR hE ⊢
          have cR := bR.cell
          refine bodyPost_ret (v := .tuple #[.agg #[.int .i64 0, .int .i64 0, .int .i64 0], .bool false]) ?_ rfl ⟨by rw [HR.out]; rfl, hE⟩
          simp [results, Tryz.results18, go_sem, cR]
        · have e : ftext ⟨v1, v2, v3⟩ = (txt ⟨v1, v2, v3⟩, true) := by simp [ftext, hv]
          rw [e] at kt
          have kt2 : ∀ w, Tab w → Calls Tryz.prog 28 #[.agg #[.int .i64 v1, .int .i64 v2, .int .i64 v3]] w fun e w' => e = .returned (.tuple #[.string (Bs (txt ⟨v1, v2, v3⟩)), .bool true]) ∧ Ex w w' := kt
          by_cases ht : txt ⟨v1, v2, v3⟩ = l
          · have HR : Hid (rd l = (⟨v1, v2, v3⟩, true)) := Lib.hid (rd_of hv ht)
            rw [ht, ← HS.out] at kt2
            have KF := Lib.hid kt2
            clear kt kt2 e hv HX ht
            have cA := bA.cell
            go_wp2_with fail
            refine (KF.out _ (HM.out.ex hE).tab).mono ?_
            rintro e w8 ⟨rfl, hx⟩
            replace hE := hE.trans hx
            replace bA := bA.ex hx
            replace bR := bR.ex hx
            replace cA := bA.cell
            clear hx
            have cR := bR.cell
            have zR := bR.lt
            have fR := bR.frozen
            go_wp2
            clear cR zR fR
            replace hE := exs3 hE (b := w.heap.size) (Nat.le_refl _) (.int .i64 v1) (.int .i64 v2) (.int .i64 v3)
            replace bR := put3 bR (.int .i64 v1) (.int .i64 v2) (.int .i64 v3)
            generalize ((w8.setCell ⟨w.heap.size, 0, none⟩ (.int .i64 v1)).setCell ⟨w.heap.size, 1, none⟩ (.int .i64 v2)).setCell ⟨w.heap.size, 2, none⟩ (.int .i64 v3) = Y at bR hE ⊢
            have cR := bR.cell
            refine bodyPost_ret (v := .tuple #[.agg #[.int .i64 v1, .int .i64 v2, .int .i64 v3], .bool true]) ?_ rfl ⟨by rw [HR.out]; rfl, hE⟩
            simp [results, Tryz.results18, go_sem, cR]
          · have HR : Hid (rd l = (⟨0, 0, 0⟩, false)) := Lib.hid (rd_none fun x hx h => by have h2 := (HX.out x hx h).1; rw [← h2] at h; exact ht h)
            have hne := Bs_ne ht
            rw [← HS.out] at hne
            generalize Bs (txt ⟨v1, v2, v3⟩) = T at kt2 hne
            have hne2 := str_ne hne
            have KF := Lib.hid kt2
            clear kt kt2 e hv HX ht
            have cA := bA.cell
            go_wp2_with fail
            refine (KF.out _ (HM.out.ex hE).tab).mono ?_
            rintro e w8 ⟨rfl, hx⟩
            replace hE := hE.trans hx
            replace bA := bA.ex hx
            replace bR := bR.ex hx
            replace cA := bA.cell
            clear hx
            have cR := bR.cell
            have zR := bR.lt
            have fR := bR.frozen
            go_wp2
            clear cR zR fR
            replace hE := exs3 hE (b := w.heap.size) (Nat.le_refl _) (.int .i64 0) (.int .i64 0) (.int .i64 0)
            replace bR := put3 bR (.int .i64 0) (.int .i64 0) (.int .i64 0)
            generalize ((w8.setCell ⟨w.heap.size, 0, none⟩ (.int .i64 0)).setCell ⟨w.heap.size, 1, none⟩ (.int .i64 0)).setCell ⟨w.heap.size, 2, none⟩ (.int .i64 0) = Y at bR hE ⊢
            have cR := bR.cell
            refine bodyPost_ret (v := .tuple #[.agg #[.int .i64 0, .int .i64 0, .int .i64 0], .bool false]) ?_ rfl ⟨by rw [HR.out]; rfl, hE⟩
            simp [results, Tryz.results18, go_sem, cR]
end Go.Proofs.YtklkfkgpjjpaiaaGreatDoor
