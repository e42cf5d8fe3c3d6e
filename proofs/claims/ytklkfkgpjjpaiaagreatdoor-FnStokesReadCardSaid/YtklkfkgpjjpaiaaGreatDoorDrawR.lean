/-
  Walks: draws of fractions. What a draw gives is not told.
-/
import Derived.Test.YtklkfkgpjjpaiaaGreatDoorDraw
import Derived.Test.YtklkfkgpjjpaiaaGreatDoorFrcL
import Derived.Test.YtklkfkgpjjpaiaaGreatDoorFrcM
import Derived.Deep.RegionWith
set_option linter.unusedSimpArgs false
set_option linter.unusedVariables false
namespace Go.Proofs.YtklkfkgpjjpaiaaGreatDoor
open Go.RowKit

/-- What a draw leaves: only the reader's block may have changed. -/
structure Dr (bo : Nat) (w w' : World) : Prop where
  ex : ∀ W, Ex W w → W.heap.size ≤ bo → Ex W w'
  box : ∀ b t cs, b ≠ bo → Box w b t cs → Box w' b t cs
  own : ∀ lo e size v n cs, e ≠ 57 → Own w lo e size v n cs → Own w' lo e size v n cs
  size : w.heap.size ≤ w'.heap.size
theorem Dr.of_ex {bo : Nat} {w w' : World} (h : Ex w w') : Dr bo w w' := ⟨fun W hW _ => hW.trans h, fun _ _ _ _ hb => hb.ex h, fun _ _ _ _ _ _ _ ho => Own.ex ho h, h.size⟩
theorem Dr.refl (bo : Nat) (w : World) : Dr bo w w := Dr.of_ex (Ex.refl w)
theorem Dr.trans {bo : Nat} {w w1 w2 : World} (h : Dr bo w w1) (k : Dr bo w1 w2) : Dr bo w w2 :=
  ⟨fun W hW hl => k.ex W (h.ex W hW hl) hl, fun b t cs hne hb => k.box b t cs hne (h.box b t cs hne hb), fun _ _ _ _ _ _ he ho => k.own _ _ _ _ _ _ he (h.own _ _ _ _ _ _ he ho), Nat.le_trans h.size k.size⟩
theorem Dr.alloc {bo : Nat} {w w1 : World} (h : Dr bo w w1) (o : Obj) : Dr bo w (w1.alloc o) := h.trans (Dr.of_ex ((Ex.refl _).alloc o))
theorem Dr.setNew {bo : Nat} {w w1 : World} (h : Dr bo w w1) {p : Addr} (hp : w.heap.size ≤ p.block) (u : Value) : Dr bo w (w1.setCell p u) :=
  ⟨fun W hW hl => (h.ex W hW hl).setCell (Nat.le_trans hW.size hp) u, fun b t cs hne hb => (h.box b t cs hne hb).far (by have := hb.lt; omega) u,
   fun lo e size v n cs he ho => Own.setCell (h.own _ _ _ _ _ _ he ho) (fun g hg e => by have := (Own.lt ho g hg).2; omega) u, by have := h.size; simpa using this⟩
/-- The reader's block. -/
def Rdr (w : World) (bo : Nat) (A : Option Addr) (n cap a : Nat) : Prop := Box w bo 57 #[.slice A n cap, .int .i64 (a : Int)]
def PickD (m : Int) (bo : Nat) (A : Option Addr) (n cap a : Nat) (w : World) : Ending → World → Prop := fun e w' =>
  ∃ v : Int, e = .returned (.int .i64 v) ∧ 0 ≤ v ∧ v < m ∧ Dr bo w w' ∧ Rdr w' bo A n cap (a + 1)
theorem pick_dr {W : World} {A : Option Addr} {bs : List Int} (hB : Byts W A bs) (hl : bs.length ≤ 2000) (bo cap a : Nat) (m : Int) (w : World) (hE : Ex W w) (hbo : W.heap.size ≤ bo)
    (hb : Rdr w bo A bs.length cap a) (ha : a ≤ 1099511627776) (hm : 1 ≤ m) (hm2 : m ≤ 1099511627776) :
    Calls Tryz.prog 20 #[.pointer (some ⟨bo, 0, none⟩), .int .i64 m] w (PickD m bo A bs.length cap a w) := by
  refine (pick_any bo A bs cap a m w (hB.ex hE) hl hb ?_ ha hm hm2).mono ?_
  · intro b off hA hp
    obtain ⟨b', off', hA', hc⟩ := hB.at hp
    rw [hA] at hA'
    simp only [Option.some.injEq, Addr.mk.injEq, and_true] at hA'
    obtain ⟨rfl, rfl⟩ := hA'
    have := World.block_lt_of_cell? _ _ (hc 0 hp).1
    simp only at this
    omega
  · rintro e w' ⟨v, d, rfl, h0, h1, rfl⟩
    have hbs := hb.set_ 1 (.int .i64 ((a : Int) + 1))
    refine ⟨v, rfl, h0, h1, ⟨fun W' hW hw => (hW.setCell hw _).drewN d, fun b t cs h1 h3 => ?_, fun lo e size v n cs he ho => ?_, ?_⟩, ?_⟩
    · exact (h3.far (p := ⟨bo, 1, none⟩) h1 _).ex ((Ex.refl _).drewN d)
    · exact Own.ex (Own.setCell (p := ⟨bo, 1, none⟩) ho (fun g hg e => by subst e; exact Own.ne ho hb he hg.symm) _) ((Ex.refl _).drewN d)
    · simp
    · have := hbs.ex ((Ex.refl _).drewN d)
      unfold Rdr
      simpa using this
def LFrac (bo : Nat) (A : Option Addr) (n cap a : Nat) (w : World) : Ending → World → Prop := fun e w' =>
  ∃ (x : Fr) (a' : Nat), e = .returned x.v ∧ a' ≤ a + 5 ∧ Dr bo w w' ∧ Rdr w' bo A n cap a'
theorem mul_pick {p q : Int} (h1 : 0 ≤ p) (h2 : p < 9) (h3 : 0 ≤ q) (h4 : q < 2) : -4 ≤ (p - 4) * q ∧ (p - 4) * q ≤ 4 := by
  have : q = 0 ∨ q = 1 := by omega
  rcases this with rfl | rfl <;> omega

set_option maxHeartbeats 2000000 in
theorem l91Frac_any {W : World} {A : Option Addr} {bs : List Int} (hB : Byts W A bs) (hl : bs.length ≤ 2000) (bo cap a : Nat) (w : World) (hE : Ex W w) (hbo : W.heap.size ≤ bo)
    (hb : Rdr w bo A bs.length cap a) (ha : a ≤ 1000000) :
    Calls Tryz.prog 48 #[.pointer (some ⟨bo, 0, none⟩)] w (LFrac bo A bs.length cap a w) := by
  have hpk := fun a m w hE hb ha hm hm2 => pick_dr hB hl bo cap a m w hE hbo hb ha hm hm2
  have HP := Lib.hid hpk
  clear hpk hB hl
  go_enter Tryz.func48, Tryz.ntmps48
  go_wp2_with fail
  refine (HP.out a 40 _ (hE.alloc _) (hb.alloc _) (by omega) (by omega) (by omega)).mono ?_
  rintro e w1 ⟨v, rfl, hv0, hv1, hd, hb1⟩
  have hzb := hb.lt
  have bR := hd.box _ _ _ (by omega) (Box.new w #[.int .i64 0, .int .i64 0, .int .i64 0] 24)
  replace hd := (Dr.of_ex ((Ex.refl w).alloc _)).trans hd
  have cR := bR.cell
  have fR := bR.frozen
  have fin : ∀ x1 x2 x3 : Int, LFrac bo A bs.length cap a w (.returned (.agg #[.int .i64 x1, .int .i64 x2, .int .i64 x3])) (((w1.setCell ⟨w.heap.size, 0, none⟩ (.int .i64 x1)).setCell ⟨w.heap.size, 1, none⟩ (.int .i64 x2)).setCell ⟨w.heap.size, 2, none⟩ (.int .i64 x3)) := fun x1 x2 x3 =>
    ⟨⟨x1, x2, x3⟩, a + 1, rfl, by omega, ((hd.setNew (Nat.le_refl _) _).setNew (Nat.le_refl _) _).setNew (Nat.le_refl _) _, ((hb1.far (p := ⟨w.heap.size, 0, none⟩) (by simp only; omega) _).far (p := ⟨w.heap.size, 1, none⟩) (by simp only; omega) _).far (p := ⟨w.heap.size, 2, none⟩) (by simp only; omega) _⟩
  have HF := Lib.hid fin
  clear fin
  rcases (by omega : v = 0 ∨ v = 1 ∨ v = 2 ∨ v = 3 ∨ 4 ≤ v) with rfl | rfl | rfl | rfl | hv
  · go_wp2
    refine bodyPost_ret (v := .agg #[.int .i64 2, .int .i64 4, .int .i64 2]) ?_ rfl (HF.out _ _ _)
    simp [results, Tryz.results48, go_sem, cR]
  · go_wp2
    refine bodyPost_ret (v := .agg #[.int .i64 1, .int .i64 0, .int .i64 0]) ?_ rfl (HF.out _ _ _)
    simp [results, Tryz.results48, go_sem, cR]
  · go_wp2
    refine bodyPost_ret (v := .agg #[.int .i64 2000000000, .int .i64 1, .int .i64 7]) ?_ rfl (HF.out _ _ _)
    simp [results, Tryz.results48, go_sem, cR]
  · go_wp2
    refine bodyPost_ret (v := .agg #[.int .i64 0, .int .i64 0, .int .i64 1]) ?_ rfl (HF.out _ _ _)
    simp [results, Tryz.results48, go_sem, cR]
  · have t0 : (v == 0) = false := by simp; omega
    have t1 : (v == 1) = false := by simp; omega
    have t2 : (v == 2) = false := by simp; omega
    have t3 : (v == 3) = false := by simp; omega
    clear HF
    go_wp2_with fail
    refine (HP.out (a + 1) 13 _ (hd.ex W hE hbo) hb1 (by omega) (by omega) (by omega)).mono ?_
    rintro e w2 ⟨u1, rfl, hu10, hu11, hd2, hb2⟩
    replace bR := hd2.box _ _ _ (by omega) bR
    replace hd := hd.trans hd2
    clear hd2 cR fR t0 t1 t2 t3
    go_wp2_with fail
    refine (HP.out (a + 1 + 1) 9 _ (hd.ex W hE hbo) hb2 (by omega) (by omega) (by omega)).mono ?_
    rintro e w3 ⟨u2, rfl, hu20, hu21, hd2, hb3⟩
    replace bR := hd2.box _ _ _ (by omega) bR
    replace hd := hd.trans hd2
    clear hd2 hb2
    go_wp2_with fail
    refine (HP.out (a + 1 + 1 + 1) 2 _ (hd.ex W hE hbo) hb3 (by omega) (by omega) (by omega)).mono ?_
    rintro e w4 ⟨u3, rfl, hu30, hu31, hd2, hb4⟩
    replace bR := hd2.box _ _ _ (by omega) bR
    replace hd := hd.trans hd2
    clear hd2 hb3
    have hm := mul_pick hu20 hu21 hu30 hu31
    obtain ⟨y, hy⟩ : ∃ y, (u2 - 4) * u3 = y := ⟨_, rfl⟩
    rw [hy] at hm
    go_wp2_with fail
    refine (HP.out (a + 1 + 1 + 1 + 1) 5 _ (hd.ex W hE hbo) hb4 (by omega) (by omega) (by omega)).mono ?_
    rintro e w5 ⟨u4, rfl, hu40, hu41, hd2, hb5⟩
    replace bR := hd2.box _ _ _ (by omega) bR
    replace hd := hd.trans hd2
    clear hd2 hb4
    have l1 := fun w => l2Low_any (u1 - 6) y (1 + u4) w (by omega) (by omega) (by omega)
    generalize flow (u1 - 6) y (1 + u4) = r at l1
    obtain ⟨⟨r1, r2, r3⟩, ok⟩ := r
    replace l1 := fun w => FrGot.spell (l1 w)
    have L1 := Lib.hid l1
    clear l1
    go_wp2_with fail
    refine (L1.out _).mono ?_
    rintro e w6 ⟨rfl, hx⟩
    replace bR := bR.ex hx
    replace hd := hd.trans (Dr.of_ex hx)
    have hb6 : Rdr w6 bo A bs.length cap (a + 1 + 1 + 1 + 1 + 1) := Box.ex hb5 hx
    have cR := bR.cell
    have fR := bR.frozen
    have zR := bR.lt
    clear hx hb5 hy
    go_wp2
    refine bodyPost_ret (v := .agg #[.int .i64 r1, .int .i64 r2, .int .i64 r3]) ?_ rfl ⟨⟨r1, r2, r3⟩, a + 1 + 1 + 1 + 1 + 1, rfl, by omega, ?_, ?_⟩
    · simp [results, Tryz.results48, go_sem, cR, zR]
    · repeat' (first
        | exact hd
        | refine Dr.alloc ?_ _
        | refine Dr.setNew ?_ (by simp) _)
    · unfold Rdr at hb6 ⊢
      repeat' (first
        | exact hb6
        | refine Box.alloc ?_ _
        | refine Box.far ?_ (by simp <;> omega) _)


end Go.Proofs.YtklkfkgpjjpaiaaGreatDoor
