/-
  Walks: GlassSteep and GlassSmooth, the program's and the reference's.
-/
import Derived.Test.YtploaldfkfjibaaGlsV
import Derived.Deep.Cut
namespace Go.Proofs.Ytploaldfkfjibaa
open Go.RowKit

theorem size_any (n : Int) (w : World) (h1 : -1000000 ≤ n) (h2 : n ≤ 1000000) :
    Calls Try.prog 73 #[.int .i64 n] w fun e w' => e = .returned (.int .i64 (gabs n)) ∧ w = w' := by
  go_enter Try.func73, Try.ntmps73
  go_wp2
  all_goals
    go_ret
    exact ⟨ret_int (by unfold gabs; omega), rfl⟩

theorem gabs_le (n : Int) : 0 ≤ gabs n := by unfold gabs; omega

set_option maxHeartbeats 1000000 in
theorem steep_any (r : Int) (cn : Nat) (A : Option Addr) (q : List Int) (cap : Nat) (w : World) (hI : Ints w A q) (hl : q.length ≤ 64) (hc1 : 1 ≤ cn) (hc2 : cn ≤ 8)
    (hq : ∀ k, k < q.length → -1000 ≤ q.getD k 0 ∧ q.getD k 0 ≤ 1000) :
    Calls Try.prog 62 #[.agg #[.int .i64 r, .int .i64 cn, .slice A q.length cap]] w fun e w' => e = .returned (.int .i64 (gsteepTo cn q q.length)) ∧ Ex w w' := by
  have HQ := Lib.hid hq
  clear hq
  go_enter Try.func62, Try.ntmps62
  go_wp2_with fail
  have b1 := Box.new w #[.int .i64 r, .int .i64 cn, .slice A q.length cap] 27
  have hE := (Ex.refl w).alloc (.cells #[.int .i64 r, .int .i64 cn, .slice A q.length cap] 27)
  go_loop [3, 9] (fun m i => ∃ (k : Nat), k ≤ q.length ∧ i = .int .i64 k ∧ m = .int .i64 (gsteepTo cn q k)) (fun _ i => q.length - (intOf i).toNat)
  case atStart => exact ⟨0, by omega, rfl, rfl⟩
  case round =>
    obtain ⟨k, hk, rfl, rfl⟩ := hrel
    obtain ⟨m, hm⟩ : ∃ m, m = gsteepTo cn q k := ⟨_, rfl⟩
    rw [← hm]
    have HM := Lib.hid hm
    clear hm
    by_cases hlt : k < q.length
    · obtain ⟨b, off, rfl, hc⟩ := (hI.ex hE).at (by omega)
      obtain ⟨x, hx⟩ : ∃ x, x = q.getD k 0 := ⟨_, rfl⟩
      have hcx := hc _ hlt
      have hbx := HQ.out k hlt
      rw [← hx] at hcx hbx
      have HX := Lib.hid hx
      have c1 := b1.cell
      clear hx b1
      have fin : ∀ v : Int, gstepI cn q m k = v → gsteepTo cn q (k + 1) = v := fun v hv => by rw [gsteepTo_succ, ← HM.out]; exact hv
      have FIN := Lib.hid fin
      clear fin
      by_cases h1 : 0 < k % cn
      · have hk1 : 1 ≤ k := by
          rcases Nat.eq_zero_or_pos k with e | e
          · subst e; simp at h1
          · exact e
        have h1' : (0 : Int) < (k : Int) % cn := by omega
        obtain ⟨y, hy⟩ : ∃ y, y = q.getD (k - 1) 0 := ⟨_, rfl⟩
        have hcy := hc (k - 1) (by omega)
        have hby := HQ.out (k - 1) (by omega)
        rw [← hy] at hcy hby
        have HYY := Lib.hid hy
        clear hy
        by_cases h2 : cn ≤ k
        · obtain ⟨z, hz⟩ : ∃ z, z = q.getD (k - cn) 0 := ⟨_, rfl⟩
          have hcz := hc (k - cn) (by omega)
          have hbz := HQ.out (k - cn) (by omega)
          rw [← hz] at hcz hbz
          have HZ := Lib.hid hz
          have gx := gabs_le (x - y)
          have gz := gabs_le (x - z)
          clear hz hc
          go_wp2_with (go_at_call 73; refine (size_any _ _ (by omega) (by omega)).mono ?_; rintro e w' ⟨rfl, rfl⟩)
          all_goals
            go_round
            case rel => exact ⟨k + 1, by omega, by go_num, congrArg (Value.int .i64) (FIN.out _ (by unfold gstepI; rw [← HX.out, ← HYY.out, ← HZ.out, if_pos h1, if_pos h2]; omega)).symm⟩
            case measure => simp [intOf]; omega
        · clear hc
          go_wp2_with (go_at_call 73; refine (size_any _ _ (by omega) (by omega)).mono ?_; rintro e w' ⟨rfl, rfl⟩)
          all_goals
            go_round
            case rel => exact ⟨k + 1, by omega, by go_num, congrArg (Value.int .i64) (FIN.out _ (by unfold gstepI; rw [← HX.out, ← HYY.out]; simp only [if_pos h1, if_neg h2]; omega)).symm⟩
            case measure => simp [intOf]; omega
      · have h1' : ¬ (0 : Int) < (k : Int) % cn := by omega
        by_cases h2 : cn ≤ k
        · obtain ⟨z, hz⟩ : ∃ z, z = q.getD (k - cn) 0 := ⟨_, rfl⟩
          have hcz := hc (k - cn) (by omega)
          have hbz := HQ.out (k - cn) (by omega)
          rw [← hz] at hcz hbz
          have HZ := Lib.hid hz
          clear hz hc
          go_wp2_with (go_at_call 73; refine (size_any _ _ (by omega) (by omega)).mono ?_; rintro e w' ⟨rfl, rfl⟩)
          all_goals
            go_round
            case rel => exact ⟨k + 1, by omega, by go_num, congrArg (Value.int .i64) (FIN.out _ (by unfold gstepI; rw [← HX.out, ← HZ.out]; simp only [if_neg h1, if_pos h2]; omega)).symm⟩
            case measure => simp [intOf]; omega
        · clear hc
          go_wp2
          go_round
          case rel => exact ⟨k + 1, by omega, by go_num, congrArg (Value.int .i64) (FIN.out _ (by unfold gstepI; simp only [if_neg h1, if_neg h2])).symm⟩
          case measure => simp [intOf]; omega
    · obtain rfl : k = q.length := by omega
      go_wp2
      go_ret
      exact ⟨ret_int HM.out, hE⟩

theorem iGlassSteep (r c : Int) (A : Option Addr) (q : List Int) (cap : Nat) (w : World) (hI : Ints w A q) (hl : q.length ≤ 1048576) :
    Calls Try.prog 34 #[.agg #[.int .i64 r, .int .i64 c, .slice A q.length cap]] w fun e w' => e = .returned (.tuple #[.int .i64 (gsteepR r c q), .bool (gvalid r c q)]) ∧ Ex w w' := by
  rcases hv : gvalid r c q with _ | _
  · go_enter Try.func34, Try.ntmps34
    go_wp2_with (go_at_call 23; refine (iGlassValid _ _ _ _ _ _ (hI.alloc _) hl).mono ?_; rintro e w1 ⟨rfl, hx⟩)
    go_ret2
    exact ⟨by simp [gsteepR, hv], ((Ex.refl w).alloc _).trans hx⟩
  · obtain ⟨rn, cn, rfl, rfl, hr1, hr2, hc1, hc2, -, hl64⟩ := gvalid_nat hv
    have hq := gvalid_cell hv
    have HQ := Lib.hid hq
    clear hq
    go_enter Try.func34, Try.ntmps34
    go_wp2_with fail
    refine (iGlassValid _ _ _ _ _ _ (hI.alloc _) hl).mono ?_
    rintro e w1 ⟨rfl, hx⟩
    have b1 := (Box.new _ _ _).ex hx
    have c1 := b1.cell
    have hE := ((Ex.refl w).alloc _).trans hx
    go_wp2_with fail
    refine (steep_any rn cn A q cap w1 (hI.ex hE) hl64 hc1 hc2 HQ.out).mono ?_
    rintro e w2 ⟨rfl, hx2⟩
    go_wp2
    go_ret2
    exact ⟨by simp [gsteepR, hv, gsteep], hE.trans hx2⟩

theorem iGlassSmooth (r c : Int) (A : Option Addr) (q : List Int) (cap : Nat) (w : World) (hI : Ints w A q) (hl : q.length ≤ 1048576) :
    Calls Try.prog 32 #[.agg #[.int .i64 r, .int .i64 c, .slice A q.length cap]] w fun e w' => e = .returned (.bool (gsmooth r c q)) ∧ Ex w w' := by
  rcases hv : gvalid r c q with _ | _
  · go_enter Try.func32, Try.ntmps32
    go_wp2_with (go_at_call 23; refine (iGlassValid _ _ _ _ _ _ (hI.alloc _) hl).mono ?_; rintro e w1 ⟨rfl, hx⟩)
    go_ret
    exact ⟨ret_bool (by simp [gsmooth, hv]), ((Ex.refl w).alloc _).trans hx⟩
  · obtain ⟨rn, cn, rfl, rfl, hr1, hr2, hc1, hc2, -, hl64⟩ := gvalid_nat hv
    have hq := gvalid_cell hv
    have HQ := Lib.hid hq
    clear hq
    go_enter Try.func32, Try.ntmps32
    go_wp2_with fail
    refine (iGlassValid _ _ _ _ _ _ (hI.alloc _) hl).mono ?_
    rintro e w1 ⟨rfl, hx⟩
    have b1 := (Box.new _ _ _).ex hx
    have c1 := b1.cell
    have hE := ((Ex.refl w).alloc _).trans hx
    have hs : gsmooth rn cn q = decide (gsteepTo cn q q.length ≤ 1) := by unfold gsmooth gsteep; rw [hv]; rfl
    have HS := Lib.hid hs
    clear hs
    go_wp2_with fail
    refine (steep_any rn cn A q cap w1 (hI.ex hE) hl64 hc1 hc2 HQ.out).mono ?_
    rintro e w2 ⟨rfl, hx2⟩
    go_wp2
    all_goals
      go_ret
      exact ⟨ret_bool (by rw [HS.out]), hE.trans hx2⟩

set_option maxHeartbeats 1000000 in
theorem sGlassSteep (r c : Int) (A : Option Addr) (q : List Int) (cap : Nat) (w : World) (hI : Ints w A q) (hl : q.length ≤ 1048576) :
    Calls Try.prog 33 #[.agg #[.int .i64 r, .int .i64 c, .slice A q.length cap]] w fun e w' => e = .returned (.tuple #[.int .i64 (gsteepR r c q), .bool (gvalid r c q)]) ∧ Ex w w' := by
  rcases hv : gvalid r c q with _ | _
  · go_enter Try.func33, Try.ntmps33
    go_wp2_with (go_at_call 21; refine (sGlassValid _ _ _ _ _ _ (hI.alloc _) hl).mono ?_; rintro e w1 ⟨rfl, hx⟩)
    go_ret2
    exact ⟨by simp [gsteepR, hv], ((Ex.refl w).alloc _).trans hx⟩
  obtain ⟨rn, cn, rfl, rfl, hr1, hr2, hc1, hc2, -, hl64⟩ := gvalid_nat hv
  have hq := gvalid_cell hv
  have HQ := Lib.hid hq
  have hs : gsteepR rn cn q = gsteepTo cn q q.length := by simp [gsteepR, hv, gsteep]
  have HS := Lib.hid hs
  clear hq hs
  go_enter Try.func33, Try.ntmps33
  go_wp2_with fail
  refine (sGlassValid _ _ _ _ _ _ (hI.alloc _) hl).mono ?_
  rintro e w1 ⟨rfl, hx⟩
  have b1 := (Box.new _ _ _).ex hx
  have hE := ((Ex.refl w).alloc _).trans hx
  go_wp2_with fail
  clear hx hv
  go_loopw [4, 5] (fun m i wr => ∃ (k : Nat), k ≤ q.length ∧ i = .int .i64 k ∧ m = .int .i64 (gsteepTo cn q k) ∧ Ex w wr ∧ Box wr w.heap.size 27 #[.int .i64 rn, .int .i64 cn, .slice A q.length cap]) (fun _ i _ => q.length - (intOf i).toNat)
  case atStart => exact ⟨0, by omega, rfl, rfl, hE, b1⟩
  case round =>
    clear hE b1
    obtain ⟨k, hk, rfl, rfl, hE, b1⟩ := hrel
    obtain ⟨m, hm⟩ : ∃ m, m = gsteepTo cn q k := ⟨_, rfl⟩
    rw [← hm]
    have HM := Lib.hid hm
    clear hm
    have c1 := b1.cell
    by_cases hlt : k < q.length
    · obtain ⟨b, off, rfl, hc⟩ := (hI.ex hE).at (by omega)
      obtain ⟨x, hx⟩ : ∃ x, x = q.getD k 0 := ⟨_, rfl⟩
      have hcx := hc _ hlt
      have hbx := HQ.out k hlt
      rw [← hx] at hcx hbx
      have HX := Lib.hid hx
      clear hx
      have fin : ∀ v : Int, gstepI cn q m k = v → gsteepTo cn q (k + 1) = v := fun v hv => by rw [gsteepTo_succ, ← HM.out]; exact hv
      have FIN := Lib.hid fin
      clear fin
      by_cases h1 : 0 < k % cn
      · have hk1 : 1 ≤ k := by
          rcases Nat.eq_zero_or_pos k with e | e
          · subst e; simp at h1
          · exact e
        have h1' : (0 : Int) < (k : Int) % cn := by omega
        obtain ⟨y, hy⟩ : ∃ y, y = q.getD (k - 1) 0 := ⟨_, rfl⟩
        have hcy := hc (k - 1) (by omega)
        have hby := HQ.out (k - 1) (by omega)
        rw [← hy] at hcy hby
        have HYY := Lib.hid hy
        clear hy
        have hs1 := IntWalk.i64_in ((k : Int) - 1) (by omega)
        have hs2 := IntWalk.i64_in (x - y) (by omega)
        have hs3 : ((k : Int) - 1).toNat = k - 1 := by omega
        by_cases h2 : cn ≤ k
        · obtain ⟨z, hz⟩ : ∃ z, z = q.getD (k - cn) 0 := ⟨_, rfl⟩
          have hcz := hc (k - cn) (by omega)
          have hbz := HQ.out (k - cn) (by omega)
          rw [← hz] at hcz hbz
          have HZ := Lib.hid hz
          clear hz hc
          have hs4 := IntWalk.i64_in ((k : Int) - cn) (by omega)
          have hs5 := IntWalk.i64_in (x - z) (by omega)
          have hs6 : ((k : Int) - cn).toNat = k - cn := by omega
          go_wp2_with fail
          go_quiet (fail)
          go_upto_region 11 with (fail)
          go_quiet (fail)
          clear hs1 hs2 hs3 hs4 hs5 hs6
          go_wp2_with fail
          all_goals
            go_roundw
            case rel => exact ⟨k + 1, by omega, by go_num, congrArg (Value.int .i64) (FIN.out _ (by unfold gstepI gabs; rw [← HX.out, ← HYY.out, ← HZ.out]; simp only [if_pos h1, if_pos h2]; omega)).symm, hE.drewN _, b1⟩
            case measure => simp [intOf]; omega
        · clear hc
          go_wp2_with fail
          go_quiet (fail)
          clear hs1 hs2 hs3
          go_wp2_with fail
          all_goals
            go_roundw
            case rel => exact ⟨k + 1, by omega, by go_num, congrArg (Value.int .i64) (FIN.out _ (by unfold gstepI gabs; rw [← HX.out, ← HYY.out]; simp only [if_pos h1, if_neg h2]; omega)).symm, hE.drewN _, b1⟩
            case measure => simp [intOf]; omega
      · have h1' : ¬ (0 : Int) < (k : Int) % cn := by omega
        by_cases h2 : cn ≤ k
        · obtain ⟨z, hz⟩ : ∃ z, z = q.getD (k - cn) 0 := ⟨_, rfl⟩
          have hcz := hc (k - cn) (by omega)
          have hbz := HQ.out (k - cn) (by omega)
          rw [← hz] at hcz hbz
          have HZ := Lib.hid hz
          clear hz hc
          have hs4 := IntWalk.i64_in ((k : Int) - cn) (by omega)
          have hs5 := IntWalk.i64_in (x - z) (by omega)
          have hs6 : ((k : Int) - cn).toNat = k - cn := by omega
          go_wp2_with fail
          go_quiet (fail)
          clear hs4 hs5 hs6
          go_wp2_with fail
          all_goals
            go_roundw
            case rel => exact ⟨k + 1, by omega, by go_num, congrArg (Value.int .i64) (FIN.out _ (by unfold gstepI gabs; rw [← HX.out, ← HZ.out]; simp only [if_neg h1, if_pos h2]; omega)).symm, hE.drewN _, b1⟩
            case measure => simp [intOf]; omega
        · clear hc
          go_wp2
          go_roundw
          case rel => exact ⟨k + 1, by omega, by go_num, congrArg (Value.int .i64) (FIN.out _ (by unfold gstepI; simp only [if_neg h1, if_neg h2])).symm, hE, b1⟩
          case measure => simp [intOf]; omega
    · obtain rfl : k = q.length := by omega
      go_wp2
      go_ret2
      exact ⟨by rw [HS.out, ← HM.out]; rfl, hE⟩

theorem sGlassSmooth (r c : Int) (A : Option Addr) (q : List Int) (cap : Nat) (w : World) (hI : Ints w A q) (hl : q.length ≤ 1048576) :
    Calls Try.prog 31 #[.agg #[.int .i64 r, .int .i64 c, .slice A q.length cap]] w fun e w' => e = .returned (.bool (gsmooth r c q)) ∧ Ex w w' := by
  rcases hv : gvalid r c q with _ | _
  · go_enter Try.func31, Try.ntmps31
    go_wp2_with (go_at_call 33; refine (sGlassSteep _ _ _ _ _ _ (hI.alloc _) hl).mono ?_; rintro e w1 ⟨rfl, hx⟩)
    go_ret
    exact ⟨ret_bool (by simp [gsmooth, hv]), ((Ex.refl w).alloc _).trans hx⟩
  · have hs : gsmooth r c q = decide (gsteepR r c q ≤ 1) := by unfold gsmooth gsteepR; rw [hv]; rfl
    have HS := Lib.hid hs
    clear hs
    go_enter Try.func31, Try.ntmps31
    go_wp2_with (go_at_call 33; refine (sGlassSteep _ _ _ _ _ _ (hI.alloc _) hl).mono ?_; rintro e w1 ⟨rfl, hx⟩)
    all_goals
      go_ret
      exact ⟨ret_bool (by rw [HS.out]), ((Ex.refl w).alloc _).trans hx⟩
end Go.Proofs.Ytploaldfkfjibaa
