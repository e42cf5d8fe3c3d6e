/-
  Walks: the helpers of the laws on fractions and slices of fractions.
-/
import Derived.Test.YtgkekdiffgmllaaFrcQ
import Derived.Test.YtgkekdiffgmllaaApp
import Derived.Deep.RegionHeld3
namespace Go.Proofs.Ytgkekdiffgmllaa
open Go.RowKit

/-- A slice of fractions of the call's own. -/
def OwnF (w : World) (lo : Nat) (A : Option Addr) (cap : Nat) (xs : List Fr) : Prop := Own w lo 24 3 (.slice A xs.length cap) xs.length (frCells xs)
section
variable {w w' : World} {lo lo' : Nat} {A : Option Addr} {cap : Nat} {xs : List Fr}
theorem OwnF.ex (h : OwnF w lo A cap xs) (he : Ex w w') : OwnF w' lo A cap xs := Own.ex h he
theorem OwnF.wide (h : OwnF w lo A cap xs) (h1 : lo' ≤ lo) : OwnF w lo' A cap xs := Own.wide h h1
theorem OwnF.alloc (h : OwnF w lo A cap xs) (o : Obj) : OwnF (w.alloc o) lo A cap xs := Own.alloc h o
theorem OwnF.fracs (h : OwnF w lo A cap xs) : Fracs w A xs := Own.slc h
end
theorem szFracS_any (A : Option Addr) (n cap : Nat) (k : Int) (w : World) (h0 : 0 ≤ k) (h1 : k ≤ 1048576) (hn : n ≤ 9223372036854775807) :
    Calls Try.prog 20 #[.slice A n cap, .int .i64 k] w fun e w' => e = .returned (.int .i64 (if k < n then -1 else k - n)) ∧ w' = w := by
  by_cases h : k < n
  · go_enter Try.func20, Try.ntmps20
    go_wp2
    go_ret
    exact ⟨ret_int (by first | rfl | rw [if_pos h]), rfl⟩
  · go_enter Try.func20, Try.ntmps20
    go_wp2
    go_ret
    exact ⟨ret_int (by first | rfl | rw [if_neg h]), rfl⟩
set_option maxHeartbeats 400000 in
theorem toFrac_any (a1 a2 a3 : Int) (w : World) : Calls Try.prog 23 #[.agg #[.int .i64 a1, .int .i64 a2, .int .i64 a3]] w fun e w' => e = .returned (.agg #[.int .i64 a1, .int .i64 a2, .int .i64 a3]) ∧ Ex w w' := by
  go_enter Try.func23, Try.ntmps23
  go_wp2
  refine bodyPost_ret (v := .agg #[.int .i64 a1, .int .i64 a2, .int .i64 a3]) ?_ rfl ⟨rfl, ?_⟩
  · simp [results, Try.results23, go_sem]
  · repeat' (with_reducible first | exact Ex.refl _ | assumption | refine Ex.alloc ?_ _ | refine Ex.drewN ?_ _ | refine Ex.drew ?_ | refine Ex.setCell ?_ (by simp <;> omega) _)
theorem eqFrac_same (a1 a2 a3 : Int) (w : World) : Calls Try.prog 63 #[.agg #[.int .i64 a1, .int .i64 a2, .int .i64 a3], .agg #[.int .i64 a1, .int .i64 a2, .int .i64 a3]] w fun e w' => e = .returned (.bool true) ∧ Ex w w' := by
  go_enter Try.func63, Try.ntmps63
  go_wp2
  go_ret
  exact ⟨rfl, ((Ex.refl _).alloc _).alloc _⟩
theorem take_set_succ {cs ds : List Value} {m : Nat} {u : Value} (h : cs.take m = ds.take m) (hm : m < cs.length) (hd : ds[m]? = some u) : (cs.set m u).take (m + 1) = ds.take (m + 1) := by
  apply List.ext_getElem?
  intro j
  rw [List.getElem?_take, List.getElem?_take]
  by_cases h1 : j < m + 1
  · rw [if_pos h1, if_pos h1]
    by_cases h2 : j = m
    · subst h2
      rw [List.getElem?_set_self hm, hd]
    · rw [List.getElem?_set_ne (Ne.symm h2)]
      have h3 := congrArg (fun l => l[j]?) h
      simp only [List.getElem?_take] at h3
      rw [if_pos (by omega), if_pos (by omega)] at h3
      exact h3
  · rw [if_neg h1, if_neg h1]
def GotF (w : World) (xs : List Fr) (e : Ending) (w' : World) : Prop :=
  ∃ A cap, e = .returned (.slice A xs.length cap) ∧ OwnF w' w.heap.size A cap xs ∧ Ex w w'

set_option maxHeartbeats 1000000 in
theorem toFracS_any (A : Option Addr) (xs : List Fr) (cap : Nat) (w : World) (hI : Fracs w A xs) (hl : xs.length ≤ 1048576) :
    Calls Try.prog 22 #[.slice A xs.length cap] w (GotF w xs) := by
  obtain ⟨i0, hi, hz0, hz1, hz2⟩ := info_parts (show (Try.prog.info? 24).map (fun i => (i.zero, i.size, i.bytes)) = some (some (.agg #[.int .i64 0, .int .i64 0, .int .i64 0]), 3, 24) by kernel_rfl)
  go_enter Try.func22, Try.ntmps22
  go_wp2_with (refine wpList_make_full _ rfl _ _ 41 rfl w.heap.size 24 i0 (.agg #[.int .i64 0, .int .i64 0, .int .i64 0]) 3 Try.underlying41 hi hz0 hz1 .i64 .i64 _ _ xs.length rfl rfl rfl rfl (by rw [hz2]; omega) (by unfold maxLen; omega) (Nat.le_refl _) ?_; intro w1 hown1 hg1)
  go_loopw [4] (fun i wr => ∃ (k : Nat) (cs : List Value), k ≤ xs.length ∧ i = .int .i64 k ∧ Hid (cs.length = xs.length * 3 ∧ cs.take (k * 3) = (frCells xs).take (k * 3)) ∧
      Hid (Own wr w.heap.size 24 3 (.slice (some ⟨w.heap.size, 0, none⟩) xs.length xs.length) xs.length cs) ∧ Ex w wr) (fun i _ => xs.length - (intOf i).toNat)
  case atStart =>
    exact ⟨0, _, by omega, rfl, Lib.hid ⟨hown1.1, by simp⟩, Lib.hid hown1, (Ex.refl _).grown hg1 (by simp)⟩
  case round =>
    obtain ⟨k, cs, hk, rfl, HC, HO, hb⟩ := hrel
    clear hown1 hg1
    by_cases hlt : k < xs.length
    · obtain ⟨b, off, rfl, hc⟩ := (hI.ex hb).at (by omega)
      obtain ⟨c1, c2, c3⟩ := hc k hlt
      have hx3 := frCells_at xs k hlt
      have HX := Lib.hid hx3
      have hfr : ∀ j, wr.frozen? ⟨w.heap.size, j, none⟩ = false := fun j => World.ownsRow.frozenAt HO.out j
      obtain ⟨hcl, hct⟩ := HC.out
      have hcells : ∀ j, j < xs.length * 3 → wr.cell? ⟨w.heap.size, j, none⟩ = cs[j]? := fun j hj => World.ownsRow.cellAt HO.out j (by omega)
      obtain ⟨u1, hu1⟩ : ∃ u, cs[k * 3]? = some u := ⟨_, List.getElem?_eq_getElem (by omega)⟩
      obtain ⟨u2, hu2⟩ : ∃ u, cs[k * 3 + 1]? = some u := ⟨_, List.getElem?_eq_getElem (by omega)⟩
      obtain ⟨u3, hu3⟩ : ∃ u, cs[k * 3 + 2]? = some u := ⟨_, List.getElem?_eq_getElem (by omega)⟩
      have e1 := hcells (k * 3) (by omega)
      have e2 := hcells (k * 3 + 1) (by omega)
      have e3 := hcells (k * 3 + 2) (by omega)
      rw [hu1] at e1; rw [hu2] at e2; rw [hu3] at e3
      have kt := fun w => toFrac_any (xs.getD k .zero).re (xs.getD k .zero).im (xs.getD k .zero).den w
      generalize (xs.getD k .zero).re = r1 at c1 kt HX
      generalize (xs.getD k .zero).im = r2 at c2 kt HX
      generalize (xs.getD k .zero).den = r3 at c3 kt HX
      clear hc hx3 hcells hu1 hu2 hu3 hcl hct
      go_wp2_with fail
      refine (kt _).mono ?_
      rintro e w3 ⟨rfl, hx⟩
      replace hb := hb.trans hx
      have HO2 := Lib.hid (HO.out.ex hx)
      have f3 : ∀ j, w3.frozen? ⟨w.heap.size, j, none⟩ = false := fun j => World.ownsRow.frozenAt HO2.out j
      replace e1 := hx.get e1
      replace e2 := hx.get e2
      replace e3 := hx.get e3
      clear hx HO hfr kt c1 c2 c3
      go_wp2
      go_roundw
      case rel =>
        obtain ⟨hcl, hct⟩ := HC.out
        obtain ⟨x1, x2, x3⟩ := HX.out
        refine ⟨k + 1, ((cs.set (k * 3) (.int .i64 r1)).set (k * 3 + 1) (.int .i64 r2)).set (k * 3 + 2) (.int .i64 r3), by omega, by go_num, Lib.hid ⟨by simpa using hcl, ?_⟩, Lib.hid ?_, ((hb.setCell (Nat.le_refl _) _).setCell (Nat.le_refl _) _).setCell (Nat.le_refl _) _⟩
        · have t1 := take_set_succ hct (by omega) x1
          have t2 := take_set_succ t1 (by simp; omega) x2
          have t3 := take_set_succ t2 (by simp; omega) x3
          rw [show (k + 1) * 3 = k * 3 + 2 + 1 by omega]
          exact t3
        · have s1 := (World.ownsRow.stored HO2.out (k * 3) (.int .i64 r1)).1
          have s2 := (World.ownsRow.stored s1 (k * 3 + 1) (.int .i64 r2)).1
          exact (World.ownsRow.stored s2 (k * 3 + 2) (.int .i64 r3)).1
      case measure => simp [intOf]; omega
    · have hcs : cs = frCells xs := by
        obtain ⟨h1, h2⟩ := HC.out
        rw [List.take_of_length_le (by omega), List.take_of_length_le (by rw [frCells_len]; omega)] at h2
        exact h2
      go_wp2
      go_ret
      refine ⟨_, _, rfl, ?_, hb⟩
      rw [hcs] at HO
      exact HO.out

set_option maxHeartbeats 400000 in
theorem eqFracS_same (A B : Option Addr) (xs : List Fr) (ca cb : Nat) (w : World) (hA : Fracs w A xs) (hB : Fracs w B xs) (hl : xs.length ≤ 1048576) :
    Calls Try.prog 25 #[.slice A xs.length ca, .slice B xs.length cb] w fun e w' => e = .returned (.bool true) ∧ Ex w w' := by
  go_enter Try.func25, Try.ntmps25
  go_wp2
  go_loopw [5] (fun i wr => ∃ (k : Nat), k ≤ xs.length ∧ i = .int .i64 k ∧ Ex w wr) (fun i _ => xs.length - (intOf i).toNat)
  case atStart => exact ⟨0, by omega, rfl, Ex.refl _⟩
  case round =>
    obtain ⟨k, hk, rfl, hb⟩ := hrel
    by_cases hlt : k < xs.length
    · obtain ⟨b, off, rfl, hc⟩ := (hA.ex hb).at (by omega)
      obtain ⟨b2, off2, rfl, hc2⟩ := (hB.ex hb).at (by omega)
      obtain ⟨c1, c2, c3⟩ := hc k hlt
      obtain ⟨d1, d2, d3⟩ := hc2 k hlt
      have kt := fun w => eqFrac_same (xs.getD k .zero).re (xs.getD k .zero).im (xs.getD k .zero).den w
      generalize (xs.getD k .zero).re = r1 at c1 d1 kt
      generalize (xs.getD k .zero).im = r2 at c2 d2 kt
      generalize (xs.getD k .zero).den = r3 at c3 d3 kt
      clear hc hc2
      go_wp2
      go_region_held3 (fun w' => (w'.cell? ⟨b, off + k * 3, none⟩ = some (.int .i64 r1) ∧ w'.cell? ⟨b, off + k * 3 + 1, none⟩ = some (.int .i64 r2) ∧ w'.cell? ⟨b, off + k * 3 + 2, none⟩ = some (.int .i64 r3)) ∧ w'.cell? ⟨b2, off2 + k * 3, none⟩ = some (.int .i64 r1) ∧ w'.cell? ⟨b2, off2 + k * 3 + 1, none⟩ = some (.int .i64 r2) ∧ w'.cell? ⟨b2, off2 + k * 3 + 2, none⟩ = some (.int .i64 r3)) (go_keep) ((go_at_call 63; (first | (refine (kt wr).mono ?_) | (refine (kt wr.drew).mono ?_)); rintro e w3 ⟨rfl, hx3⟩; have hx4 : Ex wr w3 := (by first | exact hx3 | exact ((Ex.refl _).drew).trans hx3); have e1 := hx4.get c1; have e2 := hx4.get c2; have e3 := hx4.get c3; have e4 := hx4.get d1; have e5 := hx4.get d2; have e6 := hx4.get d3))
      have hb2 := hb.trans hx4
      go_wp2
      go_roundw
      case rel => exact ⟨k + 1, by omega, by go_num, by repeat' (with_reducible first | exact Ex.refl _ | assumption | refine Ex.alloc ?_ _ | refine Ex.drewN ?_ _ | refine Ex.drew ?_ | refine Ex.setCell ?_ (by simp <;> omega) _)⟩
      case measure => simp [intOf]; omega
    · go_wp2
      go_ret
      exact ⟨rfl, hb⟩
end Go.Proofs.Ytgkekdiffgmllaa
