/-
  Walks: the singles of a grid, the program's and the reference's.
-/
import Derived.Test.YtgkekdiffgmllaaApp
import Derived.Test.YtgkekdiffgmllaaFrcQ
import Derived.Test.YtgkekdiffgmllaaFltG
namespace Go.Proofs.Ytgkekdiffgmllaa
open Go.RowKit

/-- Singles as cells. -/
def sgCells (cs : List (Nat × Nat)) : List Value := cs.map fun c => .complex .f32 c.1 c.2
theorem slC : SlT 47 51 (.complex .f32 0 0) 1 8 := ⟨Try.underlying47, by kernel_rfl, rfl, by omega, by omega⟩
/-- A slice of singles of the call's own. -/
def OwnC (w : World) (lo : Nat) (A : Option Addr) (cap : Nat) (cs : List (Nat × Nat)) : Prop := Own w lo 51 1 (.slice A cs.length cap) cs.length (sgCells cs)
theorem ownC_nil (w : World) (lo : Nat) (hlo : lo ≤ w.heap.size) : OwnC (w.alloc (.cells #[] 51)) lo (some ⟨w.heap.size, 0, none⟩) 0 [] := own_nil w lo _ 1 hlo
theorem OwnC.ex {w w' : World} {lo : Nat} {A : Option Addr} {cap : Nat} {cs : List (Nat × Nat)} (h : OwnC w lo A cap cs) (he : Ex w w') : OwnC w' lo A cap cs := Own.ex h he
theorem OwnC.snoc {w' : World} {lo : Nat} {A : Option Addr} {cap : Nat} {cs : List (Nat × Nat)} {c : Nat × Nat} (h : Own w' lo 51 1 (.slice A (cs.length + 1) cap) (cs.length + 1) (sgCells cs ++ [.complex .f32 c.1 c.2])) : OwnC w' lo A cap (cs ++ [c]) := by
  unfold OwnC
  unfold sgCells at h ⊢
  simpa using h
/-- The single of a fraction, as a pair. -/
def fsing (a : Fr) : Nat × Nat := ((fsingle a).1, (fsingle a).2.1)
/-- What a call that makes singles hands back. -/
def GotCs (w : World) (r : List (Nat × Nat) × Bool) : Ending → World → Prop := fun e w' =>
  ∃ A cap, e = .returned (.tuple #[.slice A r.1.length cap, .bool r.2]) ∧ OwnC w' w.heap.size A cap r.1 ∧ Ex w w'
def gsingles (xs : List Fr) : List (Nat × Nat) × Bool := if gok xs then (xs.map fsing, true) else ([], false)
theorem map_take_fsing {xs : List Fr} {k : Nat} (hk : k < xs.length) : (xs.take (k + 1)).map fsing = (xs.take k).map fsing ++ [fsing (xs.getD k .zero)] := by
  rw [List.take_succ_eq_append_getElem hk, List.map_append]
  simp [hk]

set_option maxHeartbeats 1000000 in
theorem iGridSingles (A : Option Addr) (xs : List Fr) (cap : Nat) (w : World) (hS : Fracs w A xs) (hl : xs.length ≤ 1048576) :
    Calls Try.prog 27 #[.slice A xs.length cap] w (GotCs w (gsingles xs)) := by
  have k1 := fun w hS => gridOk_any A xs cap w hS hl
  rcases hg : gok xs with _ | _
  · have hr : gsingles xs = ([], false) := by simp [gsingles, hg]
    simp only [hg] at k1
    rw [hr]
    clear hr hg
    have K1 := Lib.hid k1
    clear k1
    go_enter Try.func27, Try.ntmps27
    go_wp2_with fail
    refine (K1.out _ (hS.alloc _)).mono ?_
    rintro e w1 ⟨rfl, hx⟩
    go_wp2
    refine bodyPost_ret (v := .tuple #[.slice (some ⟨w.heap.size, 0, none⟩) 0 0, .bool false]) ?_ rfl ?_
    · simp [results, Try.results27, go_sem]
    · exact ⟨_, _, rfl, (ownC_nil w _ (Nat.le_refl _)).ex hx, ((Ex.refl _).alloc _).trans hx⟩
  · have hr : gsingles xs = (xs.map fsing, true) := by simp [gsingles, hg]
    simp only [hg] at k1
    rw [hr]
    clear hr hg
    have K1 := Lib.hid k1
    clear k1
    go_enter Try.func27, Try.ntmps27
    go_wp2_with fail
    refine (K1.out _ (hS.alloc _)).mono ?_
    rintro e w1 ⟨rfl, hx⟩
    have hO := (ownC_nil w _ (Nat.le_refl _)).ex hx
    have hE := ((Ex.refl _).alloc _).trans hx
    clear hx K1
    go_wp2
    go_loopw [16, 4, 6] (fun i v f wr => ∃ (k : Nat) (B : Option Addr) (cb : Nat) (ys : List (Nat × Nat)), k ≤ xs.length ∧ i = .int .i64 k ∧ v = .slice B ys.length cb ∧ Hid (ys = (xs.take k).map fsing) ∧ Hid (OwnC wr w.heap.size B cb ys) ∧ Ex w wr) (fun i _ _ _ => xs.length - (intOf i).toNat)
    case atStart => exact ⟨0, _, 0, [], by omega, rfl, rfl, Lib.hid (by simp), Lib.hid hO, hE⟩
    case round =>
      obtain ⟨k, B, cb, ys, hk, rfl, rfl, HY, HO, hEr⟩ := hrel
      have hsz := hEr.size
      by_cases hlt : k < xs.length
      · obtain ⟨b, off, rfl, hc⟩ := (hS.ex hEr).at (by omega)
        obtain ⟨c1, c2, c3⟩ := hc k hlt
        have hyl : ys.length ≤ 1048576 := by rw [HY.out, List.length_map, List.length_take]; omega
        have HYn : Hid (ys ++ [fsing (xs.getD k .zero)] = (xs.take (k + 1)).map fsing) := Lib.hid (by rw [map_take_fsing hlt, HY.out])
        have k2 : ∀ w, Calls _ _ #[.agg #[.int .i64 (xs.getD k .zero).re, .int .i64 (xs.getD k .zero).im, .int .i64 (xs.getD k .zero).den]] w fun e w' => e = .returned (.tuple #[.complex .f32 (fsing (xs.getD k .zero)).1 (fsing (xs.getD k .zero)).2, .bool (fsingle (xs.getD k .zero)).2.2]) ∧ Ex w w' := fun w => iFracSingle (xs.getD k .zero) w
        generalize (fsingle (xs.getD k .zero)).2.2 = ok at k2
        generalize fsing (xs.getD k .zero) = c at k2 HYn
        generalize (xs.getD k .zero).re = r1 at c1 k2
        generalize (xs.getD k .zero).im = r2 at c2 k2
        generalize (xs.getD k .zero).den = r3 at c3 k2
        obtain ⟨z1, z2⟩ := c
        clear hc
        go_wp2_with fail
        refine (k2 _).mono ?_
        rintro e w2 ⟨rfl, hx⟩
        have HO2 := Lib.hid ((HO.out.ex ((Ex.refl _).alloc _)).ex hx)
        have hE2 := (hEr.alloc _).trans hx
        have hs2 := hE2.size
        clear hx k2 c1 c2 c3
        go_wp2_with (at_builtin; refine wpList_appV slC rfl _ _ w2 rfl w.heap.size B cb ys.length (sgCells ys) [.complex .f32 z1 z2] rfl (by simp [Value.oneCell']) rfl HO2.out rfl hyl hs2 ?_)
        intro A' cap' w' hown' hk'
        have hE3 := hk'.ex w hE2 (Nat.le_refl _)
        have HO3 := Lib.hid (OwnC.snoc (c := (z1, z2)) hown')
        clear hown' hk'
        go_wp2
        go_roundw
        case rel => exact ⟨k + 1, A', cap', ys ++ [(z1, z2)], by omega, by go_num, by simp, HYn, HO3, hE3⟩
        case measure => simp [intOf]; omega
      · have e1 : ys = xs.map fsing := by rw [HY.out, List.take_of_length_le (by omega)]
        go_wp2
        refine bodyPost_ret (v := .tuple #[.slice B ys.length cb, .bool true]) ?_ rfl ?_
        · simp [results, Try.results27, go_sem]
        · rw [← e1]
          exact ⟨_, _, rfl, HO.out, hEr⟩
set_option maxHeartbeats 1000000 in
theorem sGridSingles (A : Option Addr) (xs : List Fr) (cap : Nat) (w : World) (hS : Fracs w A xs) (hl : xs.length ≤ 1048576) :
    Calls Try.prog 28 #[.slice A xs.length cap] w (GotCs w (gsingles xs)) := by
  have k1 := fun w hS => l12Grid_any A xs cap w hS hl
  rcases hg : gok xs with _ | _
  · have hr : gsingles xs = ([], false) := by simp [gsingles, hg]
    simp only [hg] at k1
    rw [hr]
    clear hr hg
    have K1 := Lib.hid k1
    clear k1
    go_enter Try.func28, Try.ntmps28
    go_wp2_with fail
    refine (K1.out _ (hS.alloc _)).mono ?_
    rintro e w1 ⟨rfl, hx⟩
    go_wp2
    refine bodyPost_ret (v := .tuple #[.slice (some ⟨w.heap.size, 0, none⟩) 0 0, .bool false]) ?_ rfl ?_
    · simp [results, Try.results28, go_sem]
    · exact ⟨_, _, rfl, (ownC_nil w _ (Nat.le_refl _)).ex hx, ((Ex.refl _).alloc _).trans hx⟩
  · have hr : gsingles xs = (xs.map fsing, true) := by simp [gsingles, hg]
    simp only [hg] at k1
    rw [hr]
    clear hr hg
    have K1 := Lib.hid k1
    clear k1
    go_enter Try.func28, Try.ntmps28
    go_wp2_with fail
    refine (K1.out _ (hS.alloc _)).mono ?_
    rintro e w1 ⟨rfl, hx⟩
    have hO := (ownC_nil w _ (Nat.le_refl _)).ex hx
    have hE := ((Ex.refl _).alloc _).trans hx
    clear hx K1
    go_wp2
    go_loopw [5, 4] (fun i v wr => ∃ (k : Nat) (B : Option Addr) (cb : Nat) (ys : List (Nat × Nat)), k ≤ xs.length ∧ i = .int .i64 k ∧ v = .slice B ys.length cb ∧ Hid (ys = (xs.take k).map fsing) ∧ Hid (OwnC wr w.heap.size B cb ys) ∧ Ex w wr) (fun i _ _ => xs.length - (intOf i).toNat)
    case atStart => exact ⟨0, _, 0, [], by omega, rfl, rfl, Lib.hid (by simp), Lib.hid hO, hE⟩
    case round =>
      obtain ⟨k, B, cb, ys, hk, rfl, rfl, HY, HO, hEr⟩ := hrel
      have hsz := hEr.size
      by_cases hlt : k < xs.length
      · obtain ⟨b, off, rfl, hc⟩ := (hS.ex hEr).at (by omega)
        obtain ⟨c1, c2, c3⟩ := hc k hlt
        have hyl : ys.length ≤ 1048576 := by rw [HY.out, List.length_map, List.length_take]; omega
        have HYn : Hid (ys ++ [fsing (xs.getD k .zero)] = (xs.take (k + 1)).map fsing) := Lib.hid (by rw [map_take_fsing hlt, HY.out])
        have k2 : ∀ w, Calls _ _ #[.agg #[.int .i64 (xs.getD k .zero).re, .int .i64 (xs.getD k .zero).im, .int .i64 (xs.getD k .zero).den]] w fun e w' => e = .returned (.tuple #[.complex .f32 (fsing (xs.getD k .zero)).1 (fsing (xs.getD k .zero)).2, .bool (fsingle (xs.getD k .zero)).2.2]) ∧ Ex w w' := fun w => sFracSingle (xs.getD k .zero) w
        generalize (fsingle (xs.getD k .zero)).2.2 = ok at k2
        generalize fsing (xs.getD k .zero) = c at k2 HYn
        generalize (xs.getD k .zero).re = r1 at c1 k2
        generalize (xs.getD k .zero).im = r2 at c2 k2
        generalize (xs.getD k .zero).den = r3 at c3 k2
        obtain ⟨z1, z2⟩ := c
        clear hc
        go_wp2_with fail
        refine (k2 _).mono ?_
        rintro e w2 ⟨rfl, hx⟩
        have HO2 := Lib.hid (HO.out.ex hx)
        have hE2 := hEr.trans hx
        have hs2 := hE2.size
        clear hx k2 c1 c2 c3
        go_wp2_with (at_builtin; refine wpList_appV slC rfl _ _ w2 rfl w.heap.size B cb ys.length (sgCells ys) [.complex .f32 z1 z2] rfl (by simp [Value.oneCell']) rfl HO2.out rfl hyl hs2 ?_)
        intro A' cap' w' hown' hk'
        have hE3 := hk'.ex w hE2 (Nat.le_refl _)
        have HO3 := Lib.hid (OwnC.snoc (c := (z1, z2)) hown')
        clear hown' hk'
        go_wp2
        go_roundw
        case rel => exact ⟨k + 1, A', cap', ys ++ [(z1, z2)], by omega, by go_num, by simp, HYn, HO3, hE3⟩
        case measure => simp [intOf]; omega
      · have e1 : ys = xs.map fsing := by rw [HY.out, List.take_of_length_le (by omega)]
        go_wp2
        refine bodyPost_ret (v := .tuple #[.slice B ys.length cb, .bool true]) ?_ rfl ?_
        · simp [results, Try.results28, go_sem]
        · rw [← e1]
          exact ⟨_, _, rfl, HO.out, hEr⟩
end Go.Proofs.Ytgkekdiffgmllaa
