/-
  Walks: the helpers of the laws on slices of integers.
-/
import Derived.Test.YtmmjkchjgeklnaaDoorLib
namespace Go.Proofs.YtmmjkchjgeklnaaDoor
open Go.RowKit

theorem szIntS_any (A : Option Addr) (n cap : Nat) (k : Int) (w : World) (h0 : 0 ≤ k) (h1 : k ≤ 1048576) (hn : n ≤ 9223372036854775807) :
    Calls Tryd.prog 17 #[.slice A n cap, .int .i64 k] w fun e w' => e = .returned (.int .i64 (if k < n then -1 else k - n)) ∧ w = w' := by
  by_cases h : k < n
  · go_enter Tryd.func17, Tryd.ntmps17
    go_wp2
    go_ret
    exact ⟨ret_int (by first | rfl | rw [if_pos h]), rfl⟩
  · go_enter Tryd.func17, Tryd.ntmps17
    go_wp2
    go_ret
    exact ⟨ret_int (by first | rfl | rw [if_neg (by omega)]), rfl⟩

def GotI (w : World) (xs : List Int) (e : Ending) (w' : World) : Prop :=
  ∃ A cap, e = .returned (.slice A xs.length cap) ∧ OwnI w' w.heap.size A cap xs ∧ Ex w w'

set_option maxHeartbeats 400000 in
theorem toIntS_any (A : Option Addr) (xs : List Int) (cap : Nat) (w : World) (hI : Ints w A xs) (hl : xs.length ≤ 1048576) :
    Calls Tryd.prog 22 #[.slice A xs.length cap] w (GotI w xs) := by
  obtain ⟨i0, hi, hz0, hz1, hz2⟩ := info_parts Tryd.infoI
  go_enter Tryd.func22, Tryd.ntmps22
  go_wp2_with (refine wpList_make_full _ rfl _ _ 22 rfl w.heap.size 3 i0 (.int .i64 0) 1 Tryd.underlying22 hi hz0 hz1 .i64 .i64 _ _ xs.length rfl rfl rfl rfl (by rw [hz2]; omega) (by unfold maxLen; omega) (Nat.le_refl _) ?_; intro w1 hown1 hg1)
  go_loopw [4] (fun i wr => ∃ (k : Nat) (ys : List Int), k ≤ xs.length ∧ i = .int .i64 k ∧ ys.length = xs.length ∧ (∀ j, j < k → ys[j]? = xs[j]?) ∧
      OwnI wr w.heap.size (some ⟨w.heap.size, 0, none⟩) xs.length ys ∧ Ex w wr) (fun i _ => xs.length - (intOf i).toNat)
  case atStart =>
    refine ⟨0, List.replicate xs.length 0, by omega, rfl, by simp, fun j hj => by omega, ?_, (Ex.refl _).grown hg1 (by simp)⟩
    have h := hown1
    rw [Nat.mul_one, show (Value.int .i64 0).cells = #[.int .i64 0] from rfl, toList_madeCells_one] at h
    simpa [OwnI, Own] using h
  case round =>
    obtain ⟨k, ys, hk, rfl, hy, hys, hown, hb⟩ := hrel
    clear hown1 hg1
    have HY := Lib.hid hy
    have HYS := Lib.hid hys
    have HO := Lib.hid hown
    clear hy hys hown
    by_cases hlt : k < xs.length
    · obtain ⟨b, off, rfl, hc⟩ := (hI.ex hb).at (by omega)
      have hcell := hc k hlt
      obtain ⟨g, hg, -, -, hcg, hfg⟩ := HO.out.at (by rw [HY.out]; omega)
      obtain rfl : w.heap.size = g := by simpa using hg
      have hcg' := hcg k (by rw [HY.out]; omega)
      have hfg' := hfg k
      clear hc hcg hfg hg
      go_wp2
      go_roundw
      case rel =>
        refine ⟨k + 1, ys.set k xs[k], by omega, by go_num, by rw [List.length_set, HY.out], ?_, ?_, hb.setCell (Nat.le_refl _) _⟩
        · intro j hj
          by_cases e : j = k
          · subst e
            rw [List.getElem?_set_self (by rw [HY.out]; omega)]
            simp [hlt]
          · rw [List.getElem?_set_ne (Ne.symm e)]
            exact HYS.out j (by omega)
        · have hs := (World.ownsRow.stored HO.out k (.int .i64 xs[k])).1
          unfold OwnI
          rw [List.length_set, List.map_set]
          exact hs
      case measure => simp [intOf]; omega
    · go_wp2
      go_ret
      have e : ys = xs := List.ext_getElem? fun j => by
        by_cases hj : j < k
        · exact HYS.out j hj
        · rw [List.getElem?_eq_none (by have := HY.out; omega), List.getElem?_eq_none (by omega)]
      subst e
      exact ⟨_, _, rfl, HO.out, hb⟩

set_option maxHeartbeats 400000 in
theorem eqIntS_any (A B : Option Addr) (xs ys : List Int) (ca cb : Nat) (w : World) (hA : Ints w A xs) (hB : Ints w B ys)
    (hl : xs.length ≤ 1048576) (hl' : ys.length ≤ 1048576) :
    Calls Tryd.prog 30 #[.slice A xs.length ca, .slice B ys.length cb] w fun e w' => e = .returned (.bool (decide (xs = ys))) ∧ Ex w w' := by
  rcases hn : ((xs.length : Int) != ys.length) with _ | _
  case true =>
    go_enter Tryd.func30, Tryd.ntmps30
    go_wp2
    go_ret
    exact ⟨ret_bool (by symm; rw [decide_eq_false_iff_not]; rintro rfl; simp at hn), Ex.refl _⟩
  have hlen : xs.length = ys.length := by have : (xs.length : Int) = ys.length := by simpa using hn
                                          omega
  have HL := Lib.hid hlen
  clear hlen
  go_enter Tryd.func30, Tryd.ntmps30
  go_wp2
  clear hn
  go_loopw [5] (fun i wr => ∃ (k : Nat), k ≤ xs.length ∧ i = .int .i64 k ∧ (∀ j, j < k → ys[j]? = xs[j]?) ∧ Ex w wr) (fun i _ => xs.length - (intOf i).toNat)
  case atStart => exact ⟨0, by omega, rfl, fun j hj => by omega, Ex.refl _⟩
  case round =>
    obtain ⟨k, hk, rfl, hys, hb⟩ := hrel
    have HYS := Lib.hid hys
    clear hys
    by_cases hlt : k < xs.length
    · have hlt' : k < ys.length := by have := HL.out; omega
      obtain ⟨b, off, rfl, hc⟩ := (hA.ex hb).at (by omega)
      have hcell := hc k hlt
      obtain ⟨b', off', rfl, hc'⟩ := (hB.ex hb).at (by omega)
      have hcell' := hc' k hlt'
      clear hc hc'
      rcases ht : (xs[k] != ys[k]) with _ | _
      · go_wp2
        go_quiet (fail)
        go_wp2
        go_roundw
        case rel =>
          refine ⟨k + 1, by omega, by go_num, fun j hj => ?_, hb.drewN _⟩
          by_cases e : j = k
          · subst e
            have : xs[j] = ys[j] := by simpa using ht
            simp [hlt, hlt', this]
          · exact HYS.out j (by omega)
        case measure => simp [intOf]; omega
      · go_wp2
        go_quiet (fail)
        go_wp2
        go_ret
        refine ⟨ret_bool ?_, hb.drewN _⟩
        symm
        rw [decide_eq_false_iff_not]
        rintro rfl
        simp at ht
    · go_wp2
      go_ret
      refine ⟨ret_bool ?_, hb⟩
      symm
      rw [decide_eq_true_eq]
      have hlen := HL.out
      exact (List.ext_getElem? fun j => by
        by_cases hj : j < k
        · exact HYS.out j hj
        · rw [List.getElem?_eq_none (by omega), List.getElem?_eq_none (by omega)]).symm
end Go.Proofs.YtmmjkchjgeklnaaDoor
