/-
  Walks: the helpers of the laws on slices of singles: whether they are the same, marks.
-/
import Derived.Test.YtgkekdiffgmllaaGrdF
namespace Go.Proofs.Ytgkekdiffgmllaa
open Go.RowKit
open Ieee

theorem order_self {f : Format} {x : Nat} {k : Int} (h : NumLe f x k) : f.order x x = some .eq := by
  obtain ⟨s, m, e, hr, -⟩ := h
  unfold Format.order
  rw [hr]
  simp [Datum.order]
theorem widen_ok {p : Nat} (h : Sgl p) : ∃ r, floatToFloatBits .f32 p .f64 = some r ∧ NumLe double r 34 := by
  obtain ⟨s, m, e, hr, hm⟩ := h
  obtain ⟨t, M, P, hr2, hM⟩ := nearest_num (f := double) s m e 33 hm (by decide +kernel) (by decide +kernel)
  refine ⟨double.nearest s m e, ?_, ⟨t, M, P, hr2, hM⟩⟩
  have e2 : (FloatKind.f32.decode p) = .number s m e := hr
  have e3 : (FloatKind.f64.decode (FloatKind.f64.encode (.number s m e))).isInfinity = false := by
    show (double.read (double.nearest s m e)).isInfinity = false
    rw [hr2]
    rfl
  unfold floatToFloatBits
  rw [if_neg (by decide), e2]
  simp only [e3]
  rfl
def widen (p : Nat) : Nat := (floatToFloatBits .f32 p .f64).getD 0
theorem widen_at {p : Nat} (h : Sgl p) : floatToFloatBits .f32 p .f64 = some (widen p) ∧ NumLe double (widen p) 34 := by
  obtain ⟨r, e1, e2⟩ := widen_ok h
  have : widen p = r := by unfold widen; rw [e1]; rfl
  rw [this]
  exact ⟨e1, e2⟩
theorem one_over {x : Nat} {k : Int} (h : NumLe double x k) : ∃ r, floatBits .quo .f64 4607182418800017408 x = some r := by
  obtain ⟨s, m, e, hr, -⟩ := h
  have h1 : double.read 4607182418800017408 = .number false 4503599627370496 (-52) := by decide +kernel
  show ∃ r, double.div 4607182418800017408 x = some r
  unfold Format.div
  rw [hr, h1]
  simp only [Datum.quotient]
  by_cases hm : m = 0
  · rw [if_pos hm, if_neg (by decide)]
    exact ⟨_, rfl⟩
  · rw [if_neg hm]
    exact ⟨_, rfl⟩
theorem sameFloat_self (x : Nat) (k : Int) (h : NumLe double x k) (w : World) : Calls Try.prog 84 #[.float .f64 x, .float .f64 x] w fun e w' => e = .returned (.bool true) ∧ w' = w := by
  have hs : FloatKind.f64.format.order x x = some .eq := order_self h
  obtain ⟨r, hr⟩ := one_over h
  have ho : ∀ t w, (binOp .quo t (.float .f64 4607182418800017408) (.float .f64 x)).run Try.prog w = .ok (.float .f64 r) w := fun t w => run_float_arith w .quo t .f64 _ _ _ hr
  clear h hr
  rcases hz : (FloatKind.f64.format.order x 0 == some .eq) with _ | _
  · go_enter Try.func84, Try.ntmps84
    go_wp2_with (simp only [ho])
    all_goals
      go_ret
      exact ⟨ret_bool (by simp [hs]), rfl⟩
  · go_enter Try.func84, Try.ntmps84
    go_wp2_with (simp only [ho])
    all_goals
      go_ret
      exact ⟨ret_bool (by simp), rfl⟩
theorem sameComplex_self (x y : Nat) (k : Int) (h1 : NumLe double x k) (h2 : NumLe double y k) (w : World) : Calls Try.prog 66 #[.complex .f64 x y, .complex .f64 x y] w fun e w' => e = .returned (.bool true) ∧ w' = w := by
  go_enter Try.func66, Try.ntmps66
  go_wp2_with fail
  refine (sameFloat_self x k h1 _).mono ?_
  rintro e w1 ⟨rfl, rfl⟩
  go_wp2_with fail
  refine (sameFloat_self y k h2 _).mono ?_
  rintro e w1 ⟨rfl, rfl⟩
  go_wp2
  go_ret
  exact ⟨rfl, rfl⟩
/-- A slice that reads as these singles. -/
def Sgls (w : World) (A : Option Addr) (cs : List (Nat × Nat)) : Prop := Slc w A (sgCells cs)
theorem Sgls.ex {w w1 : World} {A : Option Addr} {cs : List (Nat × Nat)} (h : Sgls w A cs) (he : Ex w w1) : Sgls w1 A cs := Slc.ex h he
theorem OwnC.sgls {w : World} {lo : Nat} {A : Option Addr} {cap : Nat} {cs : List (Nat × Nat)} (h : OwnC w lo A cap cs) : Sgls w A cs := Own.slc h
theorem Sgls.at {w : World} {A : Option Addr} {cs : List (Nat × Nat)} (h : Sgls w A cs) (hp : 0 < cs.length) : ∃ b off, A = some ⟨b, off, none⟩ ∧ ∀ k, k < cs.length →
    w.cell? ⟨b, off + k, none⟩ = some (.complex .f32 (cs.getD k (0, 0)).1 (cs.getD k (0, 0)).2) := by
  obtain ⟨b, off, rfl, hc⟩ := h (by unfold sgCells; simpa using hp)
  refine ⟨b, off, rfl, fun k hk => ?_⟩
  rw [hc k (by unfold sgCells; simpa using hk)]
  simp [sgCells, hk]
theorem conv_wide {p q : Nat} (h1 : Sgl p) (h2 : Sgl q) : ∀ w, (convert 51 28 (.complex .f32 p q)).run Try.prog w = .ok (.complex .f64 (widen p) (widen q)) w := by
  intro w
  refine run_convert_complex w _ _ .f32 .f64 _ _ _ _ (by kernel_rfl) (by kernel_rfl) ?_
  unfold cConvBits
  rw [(widen_at h1).1, (widen_at h2).1]
  rfl
set_option maxHeartbeats 400000 in
theorem eqComplex64S_same (A B : Option Addr) (cs : List (Nat × Nat)) (ca cb : Nat) (w : World) (hA : Sgls w A cs) (hB : Sgls w B cs) (hl : cs.length ≤ 1048576) (hs : ∀ k, k < cs.length → Sgl (cs.getD k (0, 0)).1 ∧ Sgl (cs.getD k (0, 0)).2) :
    Calls Try.prog 32 #[.slice A cs.length ca, .slice B cs.length cb] w fun e w' => e = .returned (.bool true) ∧ Ex w w' := by
  have HS := Lib.hid hs
  clear hs
  go_enter Try.func32, Try.ntmps32
  go_wp2
  go_loopw [5] (fun i wr => ∃ (k : Nat), k ≤ cs.length ∧ i = .int .i64 k ∧ Ex w wr) (fun i _ => cs.length - (intOf i).toNat)
  case atStart => exact ⟨0, by omega, rfl, Ex.refl _⟩
  case round =>
    obtain ⟨k, hk, rfl, hb⟩ := hrel
    by_cases hlt : k < cs.length
    · obtain ⟨b, off, rfl, hc⟩ := (hA.ex hb).at (by omega)
      obtain ⟨b2, off2, rfl, hc2⟩ := (hB.ex hb).at (by omega)
      have c1 := hc k hlt
      have d1 := hc2 k hlt
      obtain ⟨s1, s2⟩ := HS.out k hlt
      have o := conv_wide s1 s2
      have kt := fun w => sameComplex_self _ _ 34 (widen_at s1).2 (widen_at s2).2 w
      generalize (cs.getD k (0, 0)).1 = p at c1 d1 o kt
      generalize (cs.getD k (0, 0)).2 = q at c1 d1 o kt
      generalize widen p = p' at o kt
      generalize widen q = q' at o kt
      have KT := Lib.hid kt
      clear hc hc2 kt s1 s2
      go_wp2
      go_quiet ((go_at_call 66; exact Calls.quiet_of_same (KT.out _)))
      go_wp2
      go_roundw
      case rel => exact ⟨k + 1, by omega, by go_num, by repeat' (with_reducible first | exact Ex.refl _ | assumption | refine Ex.alloc ?_ _ | refine Ex.drewN ?_ _ | refine Ex.drew ?_ | refine Ex.setCell ?_ (by simp <;> omega) _)⟩
      case measure => simp [intOf]; omega
    · go_wp2
      go_ret
      exact ⟨rfl, hb⟩

/-- The mark of a number, as a single. -/
def cm (k : Int) : Nat := (floatToFloatBits .f64 (floatOfInt .f64 k) .f32).getD 0
def oneS : Nat := 1065353216
theorem cm_at (k : Int) (h1 : -2000000000 ≤ k) (h2 : k ≤ 2000000000) : floatToFloatBits .f64 (floatOfInt .f64 k) .f32 = some (cm k) ∧ NumLe single (cm k) 32 := by
  have hn : NumLe double (floatOfInt .f64 k) 31 := by
    refine nearest_num (f := double) (decide (k < 0)) k.natAbs 0 30 (fun h => ?_) (by decide +kernel) (by decide +kernel)
    have : k.natAbs.log2 ≤ 30 := log2_le_of h (by omega)
    omega
  obtain ⟨t, M2, P2, hr2, hM2⟩ := hn
  obtain ⟨u, M3, P3, hr3, hM3⟩ := nearest_num (f := single) t M2 P2 31 hM2 (by decide +kernel) (by decide +kernel)
  have e2 : (FloatKind.f64.decode (floatOfInt .f64 k)) = .number t M2 P2 := hr2
  have e3 : (FloatKind.f32.decode (FloatKind.f32.encode (.number t M2 P2))).isInfinity = false := by
    show (single.read (single.nearest t M2 P2)).isInfinity = false
    rw [hr3]
    rfl
  have e4 : floatToFloatBits .f64 (floatOfInt .f64 k) .f32 = some (single.nearest t M2 P2) := by
    unfold floatToFloatBits
    rw [if_neg (by decide), e2]
    simp only [e3]
    rfl
  have e5 : cm k = single.nearest t M2 P2 := by unfold cm; rw [e4]; rfl
  rw [e5]
  exact ⟨e4, u, M3, P3, hr3, hM3⟩
theorem conv_mark (k : Int) (h1 : -2000000000 ≤ k) (h2 : k ≤ 2000000000) : ∀ w, (convert 28 51 (.complex .f64 (floatOfInt .f64 k) 4607182418800017408)).run Try.prog w = .ok (.complex .f32 (cm k) oneS) w := by
  intro w
  refine run_convert_complex w _ _ .f64 .f32 _ _ _ _ (by kernel_rfl) (by kernel_rfl) ?_
  unfold cConvBits
  have h3 : floatToFloatBits .f64 4607182418800017408 .f32 = some oneS := by decide +kernel
  rw [(cm_at k h1 h2).1, h3]
  rfl
theorem run_store_cx {P : Program} {w : World} {a : Addr} {k : FloatKind} {x y : Nat} {m : Mode} : (store a (.complex k x y) m).run P w = stored P w a (.complex k x y) m := run_store P w a _ m rfl
def cmarks (k : Int) (n : Nat) : List (Nat × Nat) := (List.range n).map fun (i : Nat) => (cm (k + (i : Int)), oneS)
@[simp] theorem cmarks_len (k : Int) (n : Nat) : (cmarks k n).length = n := by simp [cmarks]
theorem cmarks_at (k : Int) (n j : Nat) (h : j < n) : (cmarks k n).getD j (0, 0) = (cm (k + j), oneS) := by simp [cmarks, h]
theorem grow_refl (w : World) (row : Option Nat) : w.grownBy w row := ⟨rfl, rfl, rfl, Nat.le_refl _, fun _ _ _ => rfl⟩
theorem Own.other {w w' : World} {lo : Nat} {e : TypeId} {size n : Nat} {v : Value} {cs : List Value} {row : Option Nat} (h : Own w lo e size v n cs) (hg : w.grownBy w' row)
    (hne : ∀ b, v.ownBlock = some b → row ≠ some b) : Own w' lo e size v n cs := by
  refine ⟨h.1, ?_⟩
  rcases h.2 with h0 | ⟨g, cp, cur, hv, hlo, hh, hr⟩
  · exact .inl h0
  · refine .inr ⟨g, cp, cur, hv, hlo, ?_, hr⟩
    have hlt : g < w.heap.size := by
      rcases Nat.lt_or_ge g w.heap.size with h | h
      · exact h
      · rw [Array.getElem?_eq_none h] at hh; cases hh
    exact (hg.block g hlt (fun e => hne g (by rw [hv]; rfl) e.symm)).trans hh
theorem OwnC.store {w : World} {lo g cap : Nat} {cs : List (Nat × Nat)} (h : OwnC w lo (some ⟨g, 0, none⟩) cap cs) (j : Nat) (u : Nat × Nat) : OwnC (w.setCell ⟨g, j, none⟩ (.complex .f32 u.1 u.2)) lo (some ⟨g, 0, none⟩) cap (cs.set j u) := by
  have hs := (World.ownsRow.stored h j (.complex .f32 u.1 u.2)).1
  unfold OwnC Own
  rw [List.length_set]
  unfold sgCells at hs ⊢
  rw [List.map_set]
  exact hs

set_option maxHeartbeats 400000 in
theorem markComplex64S_any (lo : Nat) (A : Option Addr) (cs : List (Nat × Nat)) (n cap : Nat) (k : Int) (w : World) (hown : OwnC w lo A cap cs) (hn : cs.length = n) (hl : n ≤ 1048576) (h0 : 0 ≤ k) (h1 : k ≤ 1048577) :
    Calls Try.prog 34 #[.slice A n cap, .int .i64 k] w fun e w' => e = .returned (.int .i64 (k + n)) ∧ OwnC w' lo A cap (cmarks k n) ∧ w.grownBy w' (Value.slice A n cap).ownBlock := by
  have HN := Lib.hid hn
  clear hn
  go_enter Try.func34, Try.ntmps34
  go_wp2
  go_loopw [1, 5] (fun s i wr => ∃ (j : Nat) (ys : List (Nat × Nat)), j ≤ n ∧ s = .int .i64 (k + j) ∧ i = .int .i64 j ∧ Hid (ys.length = n) ∧ Hid (∀ t, t < j → ys[t]? = some (cm (k + (t : Int)), oneS)) ∧ OwnC wr lo A cap ys ∧ w.grownBy wr (Value.slice A n cap).ownBlock) (fun _ i _ => n - (intOf i).toNat)
  case atStart => exact ⟨0, cs, by omega, by simp, rfl, HN, (fun t ht => by omega : ∀ t, t < 0 → _), hown, grow_refl _ _⟩
  case round =>
    clear hown
    obtain ⟨j, ys, hj, rfl, rfl, HY, HS, hown, hg⟩ := hrel
    have HO := Lib.hid hown
    clear hown
    by_cases hlt : j < n
    · obtain ⟨g, rfl, hlo, hgs, hc, hf⟩ := HO.out.at (by rw [HY.out]; omega)
      have c := hc j (by rw [HY.out]; omega)
      have f := hf j
      have o := conv_mark (k + j) (by omega) (by omega)
      clear hc hf
      go_wp2_with (first | simp only [o] | (simp only [run_store_cx]; go_simp))
      go_roundw
      case rel =>
        refine ⟨j + 1, ys.set j (cm (k + j), oneS), by omega, by go_num, by go_num, show _ = _ by rw [List.length_set, HY.out], ?_, HO.out.store j (cm (k + j), oneS), ?_⟩
        · intro t ht
          by_cases e : t = j
          · subst e
            rw [List.getElem?_set_self (by rw [HY.out]; omega)]
          · rw [List.getElem?_set_ne (Ne.symm e)]
            exact HS.out t (by omega)
        · exact hg.trans (World.ownsRow.stored HO.out j (.complex .f32 (cm (k + j)) oneS)).2
      case measure => simp [intOf]; omega
    · go_wp2
      go_ret
      obtain rfl : j = n := by omega
      have e : ys = cmarks k j := List.ext_getElem? fun t => by
        by_cases ht : t < j
        · rw [HS.out t ht]; simp [cmarks, ht]
        · rw [List.getElem?_eq_none (by have := HY.out; omega), List.getElem?_eq_none (by simp; omega)]
      subst e
      exact ⟨rfl, HO.out, hg⟩

set_option maxHeartbeats 400000 in
theorem heldComplex64S_any (A : Option Addr) (n cap : Nat) (k : Int) (w : World) (hI : Sgls w A (cmarks k n)) (hl : n ≤ 1048576) (h0 : 0 ≤ k) (h1 : k ≤ 1048577) :
    Calls Try.prog 35 #[.slice A n cap, .int .i64 k] w fun e w' => e = .returned (.int .i64 (k + n)) ∧ Ex w w' := by
  have hone : FloatKind.f32.format.order oneS oneS = some .eq := by decide +kernel
  go_enter Try.func35, Try.ntmps35
  go_wp2
  go_loopw [1, 5] (fun s i wr => ∃ (j : Nat), j ≤ n ∧ s = .int .i64 (k + j) ∧ i = .int .i64 j ∧ Ex w wr) (fun _ i _ => n - (intOf i).toNat)
  case atStart => exact ⟨0, by omega, by simp, rfl, Ex.refl _⟩
  case round =>
    obtain ⟨j, hj, rfl, rfl, hE⟩ := hrel
    by_cases hlt : j < n
    · obtain ⟨g, off, rfl, hc⟩ := (hI.ex hE).at (by simp; omega)
      have c := hc j (by simp; omega)
      rw [cmarks_at _ _ _ hlt] at c
      have o := conv_mark (k + j) (by omega) (by omega)
      have hs : FloatKind.f32.format.order (cm (k + j)) (cm (k + j)) = some .eq := order_self (cm_at (k + j) (by omega) (by omega)).2
      clear hc
      go_wp2_with (simp only [o])
      all_goals
        go_roundw
        case rel => exact ⟨j + 1, by omega, by go_num, by go_num, by repeat' (with_reducible first | exact Ex.refl _ | assumption | refine Ex.alloc ?_ _ | refine Ex.drewN ?_ _ | refine Ex.drew ?_ | refine Ex.setCell ?_ (by simp <;> omega) _)⟩
        case measure => simp [intOf]; omega
    · go_wp2
      go_ret
      obtain rfl : j = n := by omega
      exact ⟨rfl, hE⟩
end Go.Proofs.Ytgkekdiffgmllaa
