/-
  Walks: draws of fractions and of grids. What a draw gives is not told.
-/
import Derived.Test.YtgkekdiffgmllaaDraw
import Derived.Test.YtgkekdiffgmllaaFrcL
import Derived.Test.YtgkekdiffgmllaaLawF
import Derived.Deep.RegionWith
namespace Go.Proofs.Ytgkekdiffgmllaa
open Go.RowKit

/-- What a draw leaves: only the reader's block may have changed. -/
structure Dr (bo : Nat) (w w' : World) : Prop where
  ex : ∀ W, Ex W w → W.heap.size ≤ bo → Ex W w'
  box : ∀ b t cs, b ≠ bo → Box w b t cs → Box w' b t cs
  own : ∀ lo e size v n cs, e ≠ 91 → Own w lo e size v n cs → Own w' lo e size v n cs
  size : w.heap.size ≤ w'.heap.size
theorem Dr.of_ex {bo : Nat} {w w' : World} (h : Ex w w') : Dr bo w w' := ⟨fun W hW _ => hW.trans h, fun _ _ _ _ hb => hb.ex h, fun _ _ _ _ _ _ _ ho => Own.ex ho h, h.size⟩
theorem Dr.refl (bo : Nat) (w : World) : Dr bo w w := Dr.of_ex (Ex.refl w)
theorem Dr.trans {bo : Nat} {w w1 w2 : World} (h : Dr bo w w1) (k : Dr bo w1 w2) : Dr bo w w2 :=
  ⟨fun W hW hl => k.ex W (h.ex W hW hl) hl, fun b t cs hne hb => k.box b t cs hne (h.box b t cs hne hb), fun _ _ _ _ _ _ he ho => k.own _ _ _ _ _ _ he (h.own _ _ _ _ _ _ he ho), Nat.le_trans h.size k.size⟩
theorem Dr.alloc {bo : Nat} {w w1 : World} (h : Dr bo w w1) (o : Obj) : Dr bo w (w1.alloc o) := h.trans (Dr.of_ex ((Ex.refl _).alloc o))
theorem Dr.setNew {bo : Nat} {w w1 : World} (h : Dr bo w w1) {p : Addr} (hp : w.heap.size ≤ p.block) (u : Value) : Dr bo w (w1.setCell p u) :=
  ⟨fun W hW hl => (h.ex W hW hl).setCell (Nat.le_trans hW.size hp) u, fun b t cs hne hb => (h.box b t cs hne hb).far (by have := hb.lt; omega) u,
   fun lo e size v n cs he ho => Own.setCell (h.own _ _ _ _ _ _ he ho) (fun g hg e => by have := (Own.lt ho g hg).2; omega) u, by have := h.size; simpa using this⟩
/-- The reader's block. -/
def Rdr (w : World) (bo : Nat) (A : Option Addr) (n cap a : Nat) : Prop := Box w bo 91 #[.slice A n cap, .int .i64 (a : Int)]
def PickD (m : Int) (bo : Nat) (A : Option Addr) (n cap a : Nat) (w : World) : Ending → World → Prop := fun e w' =>
  ∃ v : Int, e = .returned (.int .i64 v) ∧ 0 ≤ v ∧ v < m ∧ Dr bo w w' ∧ Rdr w' bo A n cap (a + 1)
theorem pick_dr {W : World} {A : Option Addr} {bs : List Int} (hB : Byts W A bs) (hl : bs.length ≤ 2000) (bo cap a : Nat) (m : Int) (w : World) (hE : Ex W w) (hbo : W.heap.size ≤ bo)
    (hb : Rdr w bo A bs.length cap a) (ha : a ≤ 1099511627776) (hm : 1 ≤ m) (hm2 : m ≤ 1099511627776) :
    Calls Try.prog 78 #[.pointer (some ⟨bo, 0, none⟩), .int .i64 m] w (PickD m bo A bs.length cap a w) := by
  refine (pick_any bo A bs cap a m w (hB.ex hE) hl hb ?_ ha hm hm2).mono ?_
  · intro b off hA hp
    obtain ⟨b', off', hA', hc⟩ := hB.at hp
    rw [hA] at hA'
    simp only [Option.some.injEq, Addr.mk.injEq, and_true] at hA'
    obtain ⟨rfl, rfl⟩ := hA'
    have := World.block_lt_of_cell? _ _ (hc 0 hp).1
    simp only at this
    omega
  · rintro e w' ⟨v, d, rfl, h0, h1, rfl⟩
    have hbs := hb.set_ 1 (.int .i64 ((a : Int) + 1))
    refine ⟨v, rfl, h0, h1, ⟨fun W' hW hw => (hW.setCell hw _).drewN d, fun b t cs h1 h3 => ?_, fun lo e size v n cs he ho => ?_, ?_⟩, ?_⟩
    · exact (h3.far (p := ⟨bo, 1, none⟩) h1 _).ex ((Ex.refl _).drewN d)
    · exact Own.ex (Own.setCell (p := ⟨bo, 1, none⟩) ho (fun g hg e => by subst e; exact Own.ne ho hb he hg.symm) _) ((Ex.refl _).drewN d)
    · simp
    · have := hbs.ex ((Ex.refl _).drewN d)
      unfold Rdr
      simpa using this
def LFrac (bo : Nat) (A : Option Addr) (n cap a : Nat) (w : World) : Ending → World → Prop := fun e w' =>
  ∃ (x : Fr) (a' : Nat), e = .returned x.v ∧ a' ≤ a + 5 ∧ Dr bo w w' ∧ Rdr w' bo A n cap a'
theorem mul_pick {p q : Int} (h1 : 0 ≤ p) (h2 : p < 9) (h3 : 0 ≤ q) (h4 : q < 2) : -4 ≤ (p - 4) * q ∧ (p - 4) * q ≤ 4 := by
  have : q = 0 ∨ q = 1 := by omega
  rcases this with rfl | rfl <;> omega

set_option maxHeartbeats 2000000 in
theorem l91Frac_any {W : World} {A : Option Addr} {bs : List Int} (hB : Byts W A bs) (hl : bs.length ≤ 2000) (bo cap a : Nat) (w : World) (hE : Ex W w) (hbo : W.heap.size ≤ bo)
    (hb : Rdr w bo A bs.length cap a) (ha : a ≤ 1000000) :
    Calls Try.prog 77 #[.pointer (some ⟨bo, 0, none⟩)] w (LFrac bo A bs.length cap a w) := by
  have hpk := fun a m w hE hb ha hm hm2 => pick_dr hB hl bo cap a m w hE hbo hb ha hm hm2
  have HP := Lib.hid hpk
  clear hpk hB hl
  go_enter Try.func77, Try.ntmps77
  go_wp2_with fail
  refine (HP.out a 40 _ (hE.alloc _) (hb.alloc _) (by omega) (by omega) (by omega)).mono ?_
  rintro e w1 ⟨v, rfl, hv0, hv1, hd, hb1⟩
  have hzb := hb.lt
  have bR := hd.box _ _ _ (by omega) (Box.new w #[.int .i64 0, .int .i64 0, .int .i64 0] 24)
  replace hd := (Dr.of_ex ((Ex.refl w).alloc _)).trans hd
  have cR := bR.cell
  have fR := bR.frozen
  have fin : ∀ x1 x2 x3 : Int, LFrac bo A bs.length cap a w (.returned (.agg #[.int .i64 x1, .int .i64 x2, .int .i64 x3])) (((w1.setCell ⟨w.heap.size, 0, none⟩ (.int .i64 x1)).setCell ⟨w.heap.size, 1, none⟩ (.int .i64 x2)).setCell ⟨w.heap.size, 2, none⟩ (.int .i64 x3)) := fun x1 x2 x3 =>
    ⟨⟨x1, x2, x3⟩, a + 1, rfl, by omega, ((hd.setNew (Nat.le_refl _) _).setNew (Nat.le_refl _) _).setNew (Nat.le_refl _) _, ((hb1.far (p := ⟨w.heap.size, 0, none⟩) (by simp only; omega) _).far (p := ⟨w.heap.size, 1, none⟩) (by simp only; omega) _).far (p := ⟨w.heap.size, 2, none⟩) (by simp only; omega) _⟩
  have HF := Lib.hid fin
  clear fin
  rcases (by omega : v = 0 ∨ v = 1 ∨ v = 2 ∨ v = 3 ∨ 4 ≤ v) with rfl | rfl | rfl | rfl | hv
  · go_wp2
    refine bodyPost_ret (v := .agg #[.int .i64 2, .int .i64 4, .int .i64 2]) ?_ rfl (HF.out _ _ _)
    simp [results, Try.results77, go_sem, cR]
  · go_wp2
    refine bodyPost_ret (v := .agg #[.int .i64 1, .int .i64 0, .int .i64 0]) ?_ rfl (HF.out _ _ _)
    simp [results, Try.results77, go_sem, cR]
  · go_wp2
    refine bodyPost_ret (v := .agg #[.int .i64 2000000000, .int .i64 1, .int .i64 7]) ?_ rfl (HF.out _ _ _)
    simp [results, Try.results77, go_sem, cR]
  · go_wp2
    refine bodyPost_ret (v := .agg #[.int .i64 0, .int .i64 0, .int .i64 1]) ?_ rfl (HF.out _ _ _)
    simp [results, Try.results77, go_sem, cR]
  · have t0 : (v == 0) = false := by simp; omega
    have t1 : (v == 1) = false := by simp; omega
    have t2 : (v == 2) = false := by simp; omega
    have t3 : (v == 3) = false := by simp; omega
    clear HF
    go_wp2_with fail
    refine (HP.out (a + 1) 13 _ (hd.ex W hE hbo) hb1 (by omega) (by omega) (by omega)).mono ?_
    rintro e w2 ⟨u1, rfl, hu10, hu11, hd2, hb2⟩
    replace bR := hd2.box _ _ _ (by omega) bR
    replace hd := hd.trans hd2
    clear hd2 cR fR t0 t1 t2 t3
    go_wp2_with fail
    refine (HP.out (a + 1 + 1) 9 _ (hd.ex W hE hbo) hb2 (by omega) (by omega) (by omega)).mono ?_
    rintro e w3 ⟨u2, rfl, hu20, hu21, hd2, hb3⟩
    replace bR := hd2.box _ _ _ (by omega) bR
    replace hd := hd.trans hd2
    clear hd2 hb2
    go_wp2_with fail
    refine (HP.out (a + 1 + 1 + 1) 2 _ (hd.ex W hE hbo) hb3 (by omega) (by omega) (by omega)).mono ?_
    rintro e w4 ⟨u3, rfl, hu30, hu31, hd2, hb4⟩
    replace bR := hd2.box _ _ _ (by omega) bR
    replace hd := hd.trans hd2
    clear hd2 hb3
    have hm := mul_pick hu20 hu21 hu30 hu31
    obtain ⟨y, hy⟩ : ∃ y, (u2 - 4) * u3 = y := ⟨_, rfl⟩
    rw [hy] at hm
    go_wp2_with fail
    refine (HP.out (a + 1 + 1 + 1 + 1) 5 _ (hd.ex W hE hbo) hb4 (by omega) (by omega) (by omega)).mono ?_
    rintro e w5 ⟨u4, rfl, hu40, hu41, hd2, hb5⟩
    replace bR := hd2.box _ _ _ (by omega) bR
    replace hd := hd.trans hd2
    clear hd2 hb4
    have l1 := fun w => l2Low_any (u1 - 6) y (1 + u4) w (by omega) (by omega) (by omega)
    generalize flow (u1 - 6) y (1 + u4) = r at l1
    obtain ⟨⟨r1, r2, r3⟩, ok⟩ := r
    replace l1 := fun w => FrGot.spell (l1 w)
    have L1 := Lib.hid l1
    clear l1
    go_wp2_with fail
    refine (L1.out _).mono ?_
    rintro e w6 ⟨rfl, hx⟩
    replace bR := bR.ex hx
    replace hd := hd.trans (Dr.of_ex hx)
    have hb6 : Rdr w6 bo A bs.length cap (a + 1 + 1 + 1 + 1 + 1) := Box.ex hb5 hx
    have cR := bR.cell
    have fR := bR.frozen
    have zR := bR.lt
    clear hx hb5 hy
    go_wp2
    refine bodyPost_ret (v := .agg #[.int .i64 r1, .int .i64 r2, .int .i64 r3]) ?_ rfl ⟨⟨r1, r2, r3⟩, a + 1 + 1 + 1 + 1 + 1, rfl, by omega, ?_, ?_⟩
    · simp [results, Try.results77, go_sem, cR, zR]
    · repeat' (first
        | exact hd
        | refine Dr.alloc ?_ _
        | refine Dr.setNew ?_ (by simp) _)
    · unfold Rdr at hb6 ⊢
      repeat' (first
        | exact hb6
        | refine Box.alloc ?_ _
        | refine Box.far ?_ (by simp <;> omega) _)

theorem OwnF.snoc2 {w' : World} {lo : Nat} {A : Option Addr} {cap : Nat} {xs : List Fr} {x : Fr} (h : Own w' lo 24 3 (.slice A (xs.length + 1) cap) (xs.length + 1) (frCells xs ++ [.int .i64 x.re, .int .i64 x.im, .int .i64 x.den])) : OwnF w' lo A cap (xs ++ [x]) := by
  unfold OwnF frCells at *
  simpa [Fr.cs] using h
theorem slF2 : SlT 41 24 (.agg #[.int .i64 0, .int .i64 0, .int .i64 0]) 3 24 := ⟨Try.underlying41, by kernel_rfl, rfl, by omega, by omega⟩
/-- What a drawn grid is. -/
def LGrid (W : World) (bo : Nat) (A : Option Addr) (n cap a : Nat) (w : World) : Ending → World → Prop := fun e w' =>
  ∃ (B : Option Addr) (cb : Nat) (xs : List Fr) (a' : Nat), e = .returned (.slice B xs.length cb) ∧ xs.length ≤ 6 ∧ OwnF w' w.heap.size B cb xs ∧ a' ≤ a + 32 ∧ Ex W w' ∧ Rdr w' bo A n cap a' ∧ w.heap.size ≤ w'.heap.size
set_option maxHeartbeats 1000000 in
theorem l92Grid_any {W0 W : World} {A : Option Addr} {bs : List Int} (hB : Byts W0 A bs) (hl : bs.length ≤ 2000) (bo cap a : Nat) (w : World) (hE0 : Ex W0 W) (hE : Ex W w) (hbo : W.heap.size ≤ bo)
    (hb : Rdr w bo A bs.length cap a) (ha : a ≤ 900000) :
    Calls Try.prog 64 #[.pointer (some ⟨bo, 0, none⟩)] w (LGrid W bo A bs.length cap a w) := by
  have hpk := fun a m w hE hb ha hm hm2 => pick_dr (hB.ex hE0) hl bo cap a m w hE hbo hb ha hm hm2
  have hlf := fun a w hE hb ha => l91Frac_any (hB.ex hE0) hl bo cap a w hE hbo hb ha
  have HP := Lib.hid hpk
  have HF := Lib.hid hlf
  clear hpk hlf hB hl
  have hzb := hb.lt
  have ho0 : OwnF (w.alloc (.cells #[] 24)) w.heap.size (some ⟨w.heap.size, 0, none⟩) 0 [] := by
    have := own_nil w w.heap.size 24 3 (Nat.le_refl _)
    unfold OwnF
    simpa [frCells] using this
  go_enter Try.func64, Try.ntmps64
  go_wp2_with fail
  refine (HP.out a 6 _ (hE.alloc _) (hb.alloc _) (by omega) (by omega) (by omega)).mono ?_
  rintro e w1 ⟨v, rfl, hv0, hv1, hd, hb1⟩
  have ho1 := hd.own _ _ _ _ _ _ (by decide) ho0
  have hE1 := hd.ex W (hE.alloc _) hbo
  have hWw := hE.size
  have hs1 := hd.size
  simp only [World.size_alloc] at hs1
  obtain ⟨n, rfl⟩ := Int.eq_ofNat_of_zero_le hv0
  clear hd ho0 hb hE
  go_wp2
  go_loopw [5, 3] (fun i s wr => ∃ (k : Nat) (B : Option Addr) (cb : Nat) (ys : List Fr) (a' : Nat), k ≤ n + 1 ∧ i = .int .i64 k ∧ s = .slice B ys.length cb ∧ ys.length = k ∧ a' ≤ a + 1 + 5 * k ∧ Hid (OwnF wr w.heap.size B cb ys) ∧ Rdr wr bo A bs.length cap a' ∧ Ex W wr ∧ w.heap.size ≤ wr.heap.size) (fun i _ _ => n + 1 - (intOf i).toNat)
  case atStart => exact ⟨0, _, 0, [], a + 1, by omega, rfl, rfl, rfl, by omega, ho1, hb1, hE1, by omega⟩
  case round =>
    clear ho1 hb1 hE1 hs1
    obtain ⟨k, B, cb, ys, a', hk, rfl, rfl, hyk, haa, HO, hbr, hEr, hsr⟩ := hrel
    have HYK := Lib.hid hyk
    clear hyk
    by_cases hlt : (k : Int) < 1 + (n : Int)
    · go_wp2_with fail
      refine (HF.out a' _ hEr hbr (by omega)).mono ?_
      rintro e w2 ⟨⟨x1, x2, x3⟩, a2, rfl, ha2, hd, hb2⟩
      have HO2 : Hid (OwnF w2 w.heap.size B cb ys) := Lib.hid (hd.own _ _ _ _ _ _ (by decide) HO.out)
      have hE2 := hd.ex W hEr hbo
      have hs2 := Nat.le_trans hsr hd.size
      clear hd HO hbr hEr hsr
      have hyl : ys.length ≤ 1048576 := by have := HYK.out; omega
      simp only [Fr.v]
      go_wp2_with (at_builtin; refine wpList_appV slF2 rfl _ _ w2 rfl w.heap.size B cb ys.length (frCells ys) [.int .i64 x1, .int .i64 x2, .int .i64 x3] rfl (by simp [Value.oneCell']) rfl HO2.out rfl hyl hs2 ?_)
      intro A' cap' w' hown' hk'
      have hb3 := hk'.box _ _ _ hb2 (by decide)
      have hE3 := hk'.ex W hE2 hWw
      have hs3 := Nat.le_trans hs2 hk'.size
      have HO3 := Lib.hid (OwnF.snoc2 (x := ⟨x1, x2, x3⟩) hown')
      clear hown' hk' HO2 hb2 hE2 hs2
      go_wp2
      go_roundw
      case rel => exact ⟨k + 1, A', cap', ys ++ [⟨x1, x2, x3⟩], a2, by omega, by go_num, by simp, by rw [List.length_append, HYK.out]; rfl, by omega, HO3, hb3, hE3, hs3⟩
      case measure => simp [intOf]; omega
    · go_wp2_with fail
      refine (HP.out a' 24 _ hEr hbr (by omega) (by omega) (by omega)).mono ?_
      rintro e w2 ⟨u, rfl, hu0, hu1, hd, hb2⟩
      have HO2 : Hid (OwnF w2 w.heap.size B cb ys) := Lib.hid (hd.own _ _ _ _ _ _ (by decide) HO.out)
      have hE2 := hd.ex W hEr hbo
      have hs2 := Nat.le_trans hsr hd.size
      clear hd HO hbr hEr hsr
      rcases h0 : (u == 0) with _ | _
      · go_wp2
        go_ret
        exact ⟨B, cb, ys, a' + 1, rfl, by have := HYK.out; omega, HO2.out, by omega, hE2, hb2, hs2⟩
      · go_wp2
        go_ret
        refine ⟨some ⟨w2.heap.size, 0, none⟩, 0, [], a' + 1, rfl, by simp, ?_, by omega, hE2.alloc _, hb2.alloc _, by simp; omega⟩
        have := own_nil w2 w.heap.size 24 3 hs2
        unfold OwnF
        simpa [frCells] using this

end Go.Proofs.Ytgkekdiffgmllaa
