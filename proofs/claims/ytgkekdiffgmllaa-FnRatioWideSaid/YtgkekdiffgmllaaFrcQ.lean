/-
  Slices of fractions: what they read as; the tests of grids.
-/
import Derived.Test.YtgkekdiffgmllaaFrcM
namespace Go.Proofs.Ytgkekdiffgmllaa
open Go.RowKit

def Fr.cs (x : Fr) : List Value := [.int .i64 x.re, .int .i64 x.im, .int .i64 x.den]
def frCells (xs : List Fr) : List Value := xs.flatMap Fr.cs
theorem frCells_len (xs : List Fr) : (frCells xs).length = xs.length * 3 := by
  induction xs with
  | nil => rfl
  | cons x xs ih => simp [frCells, Fr.cs] at *; omega
def Fr.zero : Fr := ⟨0, 0, 0⟩
theorem frCells_at (xs : List Fr) (k : Nat) (hk : k < xs.length) :
    (frCells xs)[k * 3]? = some (.int .i64 (xs.getD k .zero).re) ∧ (frCells xs)[k * 3 + 1]? = some (.int .i64 (xs.getD k .zero).im) ∧ (frCells xs)[k * 3 + 2]? = some (.int .i64 (xs.getD k .zero).den) := by
  induction xs generalizing k with
  | nil => simp at hk
  | cons x xs ih =>
    match k with
    | 0 => simp [frCells, Fr.cs]
    | k + 1 =>
      have h := ih k (by simpa using hk)
      have e : frCells (x :: xs) = Value.int .i64 x.re :: .int .i64 x.im :: .int .i64 x.den :: frCells xs := rfl
      rw [e]
      have e1 : (k + 1) * 3 = k * 3 + 1 + 1 + 1 := by omega
      rw [e1]
      simpa using h
/-- A slice that reads as these fractions. -/
def Fracs (w : World) (A : Option Addr) (xs : List Fr) : Prop := Slc w A (frCells xs)
section
variable {w w1 : World} {A : Option Addr} {xs : List Fr}
theorem Fracs.ex (h : Fracs w A xs) (he : Ex w w1) : Fracs w1 A xs := Slc.ex h he
theorem Fracs.alloc (h : Fracs w A xs) (o : Obj) : Fracs (w.alloc o) A xs := Slc.alloc h o
theorem Fracs.drew (h : Fracs w A xs) : Fracs w.drew A xs := h
theorem Fracs.at (h : Fracs w A xs) (hp : 0 < xs.length) : ∃ b off, A = some ⟨b, off, none⟩ ∧ ∀ k, k < xs.length →
    w.cell? ⟨b, off + k * 3, none⟩ = some (.int .i64 (xs.getD k .zero).re) ∧ w.cell? ⟨b, off + k * 3 + 1, none⟩ = some (.int .i64 (xs.getD k .zero).im) ∧ w.cell? ⟨b, off + k * 3 + 2, none⟩ = some (.int .i64 (xs.getD k .zero).den) := by
  have hl := frCells_len xs
  obtain ⟨b, off, rfl, hc⟩ := h (by omega)
  refine ⟨b, off, rfl, fun k hk => ?_⟩
  obtain ⟨h1, h2, h3⟩ := frCells_at xs k hk
  have c1 := hc (k * 3) (by omega)
  have c2 := hc (k * 3 + 1) (by omega)
  have c3 := hc (k * 3 + 2) (by omega)
  rw [h1] at c1; rw [h2] at c2; rw [h3] at c3
  exact ⟨c1, c2, c3⟩
end
def gok (xs : List Fr) : Bool := xs.all Fr.valid && inB2 xs.length 1 40
theorem gok_bad {xs : List Fr} (k : Nat) (hk : k < xs.length) (h : (xs.getD k .zero).valid = false) : gok xs = false := by
  unfold gok
  have : xs.all Fr.valid = false := by
    rw [List.all_eq_false]
    refine ⟨xs[k], List.getElem_mem hk, ?_⟩
    simpa [hk] using h
  rw [this]
  rfl
theorem all_take_succ_fr {xs : List Fr} {k : Nat} (hk : k < xs.length) (h : (xs.take k).all Fr.valid = true) (hv : (xs.getD k .zero).valid = true) : (xs.take (k + 1)).all Fr.valid = true := by
  rw [List.take_succ_eq_append_getElem hk, List.all_append, h]
  simpa [hk] using hv
theorem gok_good {xs : List Fr} {k : Nat} (hk : xs.length ≤ k) (h : (xs.take k).all Fr.valid = true) : gok xs = inB2 xs.length 1 40 := by
  rw [List.take_of_length_le hk] at h
  unfold gok
  rw [h]
  rfl

set_option maxHeartbeats 400000 in
theorem gridOk_any (A : Option Addr) (xs : List Fr) (cap : Nat) (w : World) (hS : Fracs w A xs) (hl : xs.length ≤ 1048576) :
    Calls Try.prog 61 #[.slice A xs.length cap] w fun e w' => e = .returned (.bool (gok xs)) ∧ Ex w w' := by
  go_enter Try.func61, Try.ntmps61
  go_wp2
  go_loopw [7, 4] (fun i v wr => ∃ k : Nat, k ≤ xs.length ∧ i = .int .i64 k ∧ Hid ((xs.take k).all Fr.valid = true) ∧ Ex w wr) (fun i _ _ => xs.length - (intOf i).toNat)
  case atStart => exact ⟨0, by omega, rfl, Lib.hid (by simp), Ex.refl _⟩
  case round =>
    obtain ⟨k, hk, rfl, HA, hE⟩ := hrel
    by_cases hlt : k < xs.length
    · obtain ⟨b, off, rfl, hc⟩ := (hS.ex hE).at (by omega)
      obtain ⟨c1, c2, c3⟩ := hc k hlt
      have hbad := gok_bad k hlt
      have hgood := all_take_succ_fr hlt HA.out
      have k1 := fun w => iFracValid (xs.getD k .zero).re (xs.getD k .zero).im (xs.getD k .zero).den w
      have hvv : fvalid (xs.getD k .zero).re (xs.getD k .zero).im (xs.getD k .zero).den = (xs.getD k .zero).valid := rfl
      simp only [hvv] at k1
      generalize (xs.getD k .zero).valid = v at k1 hbad hgood
      generalize (xs.getD k .zero).re = r1 at c1 k1
      generalize (xs.getD k .zero).im = r2 at c2 k1
      generalize (xs.getD k .zero).den = r3 at c3 k1
      clear hc hvv
      have KK := Lib.hid k1
      have HB := Lib.hid hbad
      have HG := Lib.hid hgood
      clear k1 hbad hgood
      go_wp2_with fail
      refine (KK.out _).mono ?_
      rintro e w2 ⟨rfl, hx⟩
      replace hE := (hE.alloc _).trans hx
      clear hx
      rcases v with _ | _
      · have H2 := Lib.hid (HB.out rfl)
        clear HB HG
        go_wp2
        go_ret
        exact ⟨ret_bool H2.out.symm, hE⟩
      · have H2 := Lib.hid (HG.out rfl)
        clear HB HG
        go_wp2
        go_roundw
        case rel => exact ⟨k + 1, by omega, by go_num, H2, hE⟩
        case measure => simp [intOf]; omega
    · have hfin := gok_good (by omega) HA.out
      have H := Lib.hid hfin
      clear hfin
      go_wp2_with fail
      refine (within_q _ _ _ _).mono ?_
      rintro e w2 ⟨rfl, rfl⟩
      go_wp2
      go_ret
      exact ⟨ret_bool H.out.symm, hE⟩

set_option maxHeartbeats 400000 in
theorem l12Grid_any (A : Option Addr) (xs : List Fr) (cap : Nat) (w : World) (hS : Fracs w A xs) (hl : xs.length ≤ 1048576) :
    Calls Try.prog 65 #[.slice A xs.length cap] w fun e w' => e = .returned (.bool (gok xs)) ∧ Ex w w' := by
  go_enter Try.func65, Try.ntmps65
  go_wp2
  go_loopw [3] (fun i wr => ∃ k : Nat, k ≤ xs.length ∧ i = .int .i64 k ∧ Hid ((xs.take k).all Fr.valid = true) ∧ Ex w wr) (fun i _ => xs.length - (intOf i).toNat)
  case atStart => exact ⟨0, by omega, rfl, Lib.hid (by simp), Ex.refl _⟩
  case round =>
    obtain ⟨k, hk, rfl, HA, hE⟩ := hrel
    by_cases hlt : k < xs.length
    · obtain ⟨b, off, rfl, hc⟩ := (hS.ex hE).at (by omega)
      obtain ⟨c1, c2, c3⟩ := hc k hlt
      have hbad := gok_bad k hlt
      have hgood := all_take_succ_fr hlt HA.out
      have k1 := fun w => sFracValid (xs.getD k .zero).re (xs.getD k .zero).im (xs.getD k .zero).den w
      have hvv : fvalid (xs.getD k .zero).re (xs.getD k .zero).im (xs.getD k .zero).den = (xs.getD k .zero).valid := rfl
      simp only [hvv] at k1
      generalize (xs.getD k .zero).valid = v at k1 hbad hgood
      generalize (xs.getD k .zero).re = r1 at c1 k1
      generalize (xs.getD k .zero).im = r2 at c2 k1
      generalize (xs.getD k .zero).den = r3 at c3 k1
      clear hc hvv
      have KK := Lib.hid k1
      have HB := Lib.hid hbad
      have HG := Lib.hid hgood
      clear k1 hbad hgood
      go_wp2_with fail
      refine (KK.out _).mono ?_
      rintro e w2 ⟨rfl, hx⟩
      replace hE := hE.trans hx
      clear hx
      rcases v with _ | _
      · have H2 := Lib.hid (HB.out rfl)
        clear HB HG
        go_wp2
        go_ret
        exact ⟨ret_bool H2.out.symm, hE⟩
      · have H2 := Lib.hid (HG.out rfl)
        clear HB HG
        go_wp2
        go_roundw
        case rel => exact ⟨k + 1, by omega, by go_num, H2, hE⟩
        case measure => simp [intOf]; omega
    · have hfin := gok_good (by omega) HA.out
      have H := Lib.hid hfin
      clear hfin
      go_wp2_with fail
      refine (l6In_q _ _ _ _).mono ?_
      rintro e w2 ⟨rfl, rfl⟩
      go_wp2
      go_ret
      exact ⟨ret_bool H.out.symm, hE⟩
end Go.Proofs.Ytgkekdiffgmllaa
