/-
  Proved: what functions compute, part 40. No condition.
-/
import Derived.Test.YtmmjkchjgeklnaaGreatDoorK38
import Derived.Test.YtmmjkchjgeklnaaGreatDoorK39
import Derived.Test.YtmmjkchjgeklnaaGreatDoorK36
set_option linter.unusedSimpArgs false
set_option linter.unusedVariables false
set_option maxRecDepth 20000
set_option maxHeartbeats 8000000
namespace Go.Proofs.YtmmjkchjgeklnaaGreatDoor
section
open Go.RowKit

attribute [local go_sem] Zk Zj
theorem Dr.setRow {bo : Nat} {w w1 : World} (h : Dr bo w w1) {g : Nat} (hg : w.heap.size ≤ g) (x : Array Value) : Dr bo w (w1.setRow g x) :=
  ⟨fun W hW hl => (h.ex W hW hl).setRow (Nat.le_trans hW.size hg) x, fun b t cs hne hb => (h.box b t cs hne hb).setRow_far (by have := hb.lt; omega) x,
   fun lo e size v n cs he ho => by
    have ho' := h.own _ _ _ _ _ _ he ho
    refine ⟨ho'.1, ?_⟩
    rcases ho'.2 with h0 | ⟨g', cap, cur, rfl, hg', hh, hr⟩
    · exact .inl h0
    · refine .inr ⟨g', cap, cur, rfl, hg', ?_, hr⟩
      have : g' ≠ g := by have := (Own.lt ho g' rfl).2; omega
      exact (setRow_other w1 g g' x this).trans hh, by have := h.size; simpa using this⟩
def StkD (c bo : Nat) (A : Option Addr) (n cap a : Nat) (w : World) : Ending → World → Prop := fun e w' =>
  ∃ (v : M4) (a' : Nat), e = .returned v.v ∧ a' ≤ a + c ∧ Dr bo w w' ∧ Rdr w' bo A n cap a'
def RecD (c bo : Nat) (A : Option Addr) (n cap a : Nat) (w : World) : Ending → World → Prop := fun e w' =>
  ∃ (S : ByteArray) (v : M4) (h : Int) (a' : Nat), e = .returned (Ws S v h) ∧ S.size ≤ 1000 ∧ a' ≤ a + c ∧ Dr bo w w' ∧ Rdr w' bo A n cap a'
theorem Kv {W : World} {A : Option Addr} {bs : List Int} (hB : Vd W A bs) (hl : bs.length ≤ 2000) (bo cap a : Nat) (w : World) (hE : Ex W w) (hbo : W.heap.size ≤ bo)
    (hb : Rdr w bo A bs.length cap a) (ha : a ≤ 900000) : Calls Tryz.prog 43 #[.pointer (some ⟨bo, 0, none⟩)] w (StkD 10 bo A bs.length cap a w) := by
  have HP := Gv (fun a m w hE hb ha hm hm2 => To hB hl bo cap a m w hE hbo hb ha hm hm2)
  have hlb := hb.lt
  clear hB hl
  have hD := (Dr.refl bo w).alloc (.cells #[.int .i64 0, .int .i64 0, .int .i64 0, .int .i64 0, .int .i64 0, .int .i64 0, .int .i64 0, .int .i64 0, .int .i64 0, .int .i64 0, .int .i64 0, .int .i64 0] 35)
  replace hE := hE.alloc (.cells #[.int .i64 0, .int .i64 0, .int .i64 0, .int .i64 0, .int .i64 0, .int .i64 0, .int .i64 0, .int .i64 0, .int .i64 0, .int .i64 0, .int .i64 0, .int .i64 0] 35)
  replace hb := Box.alloc hb (.cells #[.int .i64 0, .int .i64 0, .int .i64 0, .int .i64 0, .int .i64 0, .int .i64 0, .int .i64 0, .int .i64 0, .int .i64 0, .int .i64 0, .int .i64 0, .int .i64 0] 35)
  have bR := Box.new w #[.int .i64 0, .int .i64 0, .int .i64 0, .int .i64 0, .int .i64 0, .int .i64 0, .int .i64 0, .int .i64 0, .int .i64 0, .int .i64 0, .int .i64 0, .int .i64 0] 35
  go_enter Tryz.func43, Tryz.ntmps43
  go_upto_region 1 with fail
  generalize w.alloc (.cells #[.int .i64 0, .int .i64 0, .int .i64 0, .int .i64 0, .int .i64 0, .int .i64 0, .int .i64 0, .int .i64 0, .int .i64 0, .int .i64 0, .int .i64 0, .int .i64 0] 35) = W0 at *
  go_wp2_with fail
  refine (HP.out a 5 _ hE hb (by omega) (by omega) (by omega)).mono ?_
  rintro e u1 ⟨v1, rfl, hv1a, hv1b, hd, hb2⟩
  replace hE := hd.ex W hE hbo
  replace hD := hD.trans hd
  replace bR := hd.box _ _ _ (by omega) bR
  replace hb := hb2
  clear hd hb2
  have w1 : IntKind.i64.wrap (v1 - 2) = v1 - 2 := Gp _ (by omega)
  go_wp2_with fail
  refine (HP.out (a + 1) 3 _ hE hb (by omega) (by omega) (by omega)).mono ?_
  rintro e u2 ⟨v2, rfl, hv2a, hv2b, hd, hb2⟩
  replace hE := hd.ex W hE hbo
  replace hD := hD.trans hd
  replace bR := hd.box _ _ _ (by omega) bR
  replace hb := hb2
  clear hd hb2
  have w2 : IntKind.i64.wrap (v2 - 1) = v2 - 1 := Gp _ (by omega)
  go_wp2_with fail
  refine (HP.out ((a + 1) + 1) 5 _ hE hb (by omega) (by omega) (by omega)).mono ?_
  rintro e u3 ⟨v3, rfl, hv3a, hv3b, hd, hb2⟩
  replace hE := hd.ex W hE hbo
  replace hD := hD.trans hd
  replace bR := hd.box _ _ _ (by omega) bR
  replace hb := hb2
  clear hd hb2
  have w3 : IntKind.i64.wrap (v3 - 2) = v3 - 2 := Gp _ (by omega)
  go_wp2_with fail
  refine (HP.out (((a + 1) + 1) + 1) 3 _ hE hb (by omega) (by omega) (by omega)).mono ?_
  rintro e u4 ⟨v4, rfl, hv4a, hv4b, hd, hb2⟩
  replace hE := hd.ex W hE hbo
  replace hD := hD.trans hd
  replace bR := hd.box _ _ _ (by omega) bR
  replace hb := hb2
  clear hd hb2
  have w4 : IntKind.i64.wrap (v4 - 1) = v4 - 1 := Gp _ (by omega)
  go_upto_region 2 with fail
  have hx := (Ex.refl u4).alloc (.cells #[.int .i64 (v1 - 2), .int .i64 (v2 - 1), .int .i64 1, .int .i64 (v3 - 2), .int .i64 (v4 - 1), .int .i64 1] 112)
  have bJ := Box.new u4 #[.int .i64 (v1 - 2), .int .i64 (v2 - 1), .int .i64 1, .int .i64 (v3 - 2), .int .i64 (v4 - 1), .int .i64 1] 112
  skip
  replace hE := hE.trans hx
  replace hD := hD.trans (Dr.of_ex hx)
  replace bR := bR.ex hx
  replace hb : Rdr (u4.alloc (.cells #[.int .i64 (v1 - 2), .int .i64 (v2 - 1), .int .i64 1, .int .i64 (v3 - 2), .int .i64 (v4 - 1), .int .i64 1] 112)) bo A bs.length cap ((((a + 1) + 1) + 1) + 1) := Box.ex hb hx
  clear hx
  generalize u4.alloc (.cells #[.int .i64 (v1 - 2), .int .i64 (v2 - 1), .int .i64 1, .int .i64 (v3 - 2), .int .i64 (v4 - 1), .int .i64 1] 112) = U5 at *
  have cJ := bJ.cell
  have fJ := bJ.lt
  go_wp2_with fail
  refine (Ot _ _ _ _ _ _ _).mono ?_
  rintro e u6 ⟨x, y, z, t, ok, rfl, hx⟩
  clear cJ fJ bJ
  replace hE := hE.trans hx
  replace hD := hD.trans (Dr.of_ex hx)
  replace bR := bR.ex hx
  replace hb : Rdr u6 bo A bs.length cap ((((a + 1) + 1) + 1) + 1) := Box.ex hb hx
  clear hx
  obtain ⟨p1, p2, p3⟩ := x
  obtain ⟨q1, q2, q3⟩ := y
  obtain ⟨r1, r2, r3⟩ := z
  obtain ⟨s1, s2, s3⟩ := t
  unfold Sv
  simp only
  go_upto_region 3 with fail
  have hx := (Ex.refl u6).alloc (.cells #[.int .i64 p1, .int .i64 p2, .int .i64 p3, .int .i64 q1, .int .i64 q2, .int .i64 q3, .int .i64 r1, .int .i64 r2, .int .i64 r3, .int .i64 s1, .int .i64 s2, .int .i64 s3] 35)
  have bS := Box.new u6 #[.int .i64 p1, .int .i64 p2, .int .i64 p3, .int .i64 q1, .int .i64 q2, .int .i64 q3, .int .i64 r1, .int .i64 r2, .int .i64 r3, .int .i64 s1, .int .i64 s2, .int .i64 s3] 35
  replace hE := hE.trans hx
  replace hD := hD.trans (Dr.of_ex hx)
  replace bR := bR.ex hx
  replace hb : Rdr (u6.alloc (.cells #[.int .i64 p1, .int .i64 p2, .int .i64 p3, .int .i64 q1, .int .i64 q2, .int .i64 q3, .int .i64 r1, .int .i64 r2, .int .i64 r3, .int .i64 s1, .int .i64 s2, .int .i64 s3] 35)) bo A bs.length cap ((((a + 1) + 1) + 1) + 1) := Box.ex hb hx
  clear hx
  generalize u6.alloc (.cells #[.int .i64 p1, .int .i64 p2, .int .i64 p3, .int .i64 q1, .int .i64 q2, .int .i64 q3, .int .i64 r1, .int .i64 r2, .int .i64 r3, .int .i64 s1, .int .i64 s2, .int .i64 s3] 35) = U7 at *
  have h1 : (#[.int .i64 p1, .int .i64 p2, .int .i64 p3, .int .i64 q1, .int .i64 q2, .int .i64 q3, .int .i64 r1, .int .i64 r2, .int .i64 r3, .int .i64 s1, .int .i64 s2, .int .i64 s3] : Array Value).all (fun x => x.oneCell') = true := by simp [Value.oneCell']
  go_wp2_with (first | (refine wpList_load_row rfl _ _ rfl _ rfl _ _ (0, 0) _ bS Tryz.underlying35 rfl (Ss rfl) ?_) | (refine wpList_store_row rfl _ _ _ rfl _ _ rfl rfl _ _ bR (Ss rfl) rfl h1 ?_))
  exact Gq (results_cell_row Tryz.results43 _ _ _ _ _ (0, 0) _ rfl (bR.setRow _) Tryz.underlying35 rfl (Ss rfl)) rfl ⟨⟨⟨p1, p2, p3⟩, ⟨q1, q2, q3⟩, ⟨r1, r2, r3⟩, ⟨s1, s2, s3⟩⟩, _, rfl, by omega, hD.setRow (Nat.le_refl _) _, Box.setRow_far hb (by omega) _⟩
theorem Te {W : World} {A : Option Addr} {bs : List Int} (hB : Vd W A bs) (hl : bs.length ≤ 2000) (bo cap a : Nat) (w : World) (hE : Ex W w) (hbo : W.heap.size ≤ bo)
    (hb : Rdr w bo A bs.length cap a) (ha : a ≤ 700000) : Calls Tryz.prog 40 #[.pointer (some ⟨bo, 0, none⟩)] w (RecD 100 bo A bs.length cap a w) := by
  have HP := Gv (fun a m w hE hb ha hm hm2 => To hB hl bo cap a m w hE hbo hb ha hm hm2)
  have HBe := Gv (fun a w hE hb ha => Kw hB hl bo cap a w hE hbo hb ha)
  have HLi := Gv (fun a w hE hb ha => Kv hB hl bo cap a w hE hbo hb ha)
  have hlb := hb.lt
  clear hB hl
  have hD := (Dr.refl bo w).alloc (.cells #[.string ⟨#[]⟩, .int .i64 0, .int .i64 0, .int .i64 0, .int .i64 0, .int .i64 0, .int .i64 0, .int .i64 0, .int .i64 0, .int .i64 0, .int .i64 0, .int .i64 0, .int .i64 0, .int .u32 0] 37)
  replace hE := hE.alloc (.cells #[.string ⟨#[]⟩, .int .i64 0, .int .i64 0, .int .i64 0, .int .i64 0, .int .i64 0, .int .i64 0, .int .i64 0, .int .i64 0, .int .i64 0, .int .i64 0, .int .i64 0, .int .i64 0, .int .u32 0] 37)
  replace hb := Box.alloc hb (.cells #[.string ⟨#[]⟩, .int .i64 0, .int .i64 0, .int .i64 0, .int .i64 0, .int .i64 0, .int .i64 0, .int .i64 0, .int .i64 0, .int .i64 0, .int .i64 0, .int .i64 0, .int .i64 0, .int .u32 0] 37)
  have bR := Box.new w #[.string ⟨#[]⟩, .int .i64 0, .int .i64 0, .int .i64 0, .int .i64 0, .int .i64 0, .int .i64 0, .int .i64 0, .int .i64 0, .int .i64 0, .int .i64 0, .int .i64 0, .int .i64 0, .int .u32 0] 37
  go_enter Tryz.func40, Tryz.ntmps40
  go_upto_region 1 with fail
  generalize w.alloc (.cells #[.string ⟨#[]⟩, .int .i64 0, .int .i64 0, .int .i64 0, .int .i64 0, .int .i64 0, .int .i64 0, .int .i64 0, .int .i64 0, .int .i64 0, .int .i64 0, .int .i64 0, .int .i64 0, .int .u32 0] 37) = W0 at *
  go_wp2_with fail
  refine (HBe.out a _ hE hb (by omega)).mono ?_
  rintro e u1 ⟨S, a1, rfl, hS, ha1, hd, hb2⟩
  replace hE := hd.ex W hE hbo
  replace hD := hD.trans hd
  replace bR := hd.box _ _ _ (by omega) bR
  replace hb := hb2
  clear hd hb2
  go_wp2_with fail
  refine (HLi.out a1 _ hE hb (by omega)).mono ?_
  rintro e u2 ⟨v, a2, rfl, ha2, hd, hb2⟩
  replace hE := hd.ex W hE hbo
  replace hD := hD.trans hd
  replace bR := hd.box _ _ _ (by omega) bR
  replace hb := hb2
  clear hd hb2
  have ks := fun w => Ns S.data.toList (by rw [Wb]; omega) v w
  rw [← Qm] at ks
  generalize Vw S.data.toList v = R at ks
  obtain ⟨h, ok⟩ := R
  have hSb : Bs S.data.toList = S := (Qm S).symm
  simp only [Hk, Ws, hSb] at ks
  clear hSb
  obtain ⟨⟨e1, e2, e3⟩, ⟨f1, f2, f3⟩, ⟨g1, g2, g3⟩, ⟨j1, j2, j3⟩⟩ := v
  simp only [M4.v] at ks ⊢
  go_upto_region 3 with fail
  have hx := (Ex.refl u2).alloc (.cells #[.int .i64 e1, .int .i64 e2, .int .i64 e3, .int .i64 f1, .int .i64 f2, .int .i64 f3, .int .i64 g1, .int .i64 g2, .int .i64 g3, .int .i64 j1, .int .i64 j2, .int .i64 j3] 35)
  have bL := Box.new u2 #[.int .i64 e1, .int .i64 e2, .int .i64 e3, .int .i64 f1, .int .i64 f2, .int .i64 f3, .int .i64 g1, .int .i64 g2, .int .i64 g3, .int .i64 j1, .int .i64 j2, .int .i64 j3] 35
  replace hE := hE.trans hx
  replace hD := hD.trans (Dr.of_ex hx)
  replace bR := bR.ex hx
  replace hb : Rdr (u2.alloc (.cells #[.int .i64 e1, .int .i64 e2, .int .i64 e3, .int .i64 f1, .int .i64 f2, .int .i64 f3, .int .i64 g1, .int .i64 g2, .int .i64 g3, .int .i64 j1, .int .i64 j2, .int .i64 j3] 35)) bo A bs.length cap a2 := Box.ex hb hx
  clear hx
  skip
  generalize u2.alloc (.cells #[.int .i64 e1, .int .i64 e2, .int .i64 e3, .int .i64 f1, .int .i64 f2, .int .i64 f3, .int .i64 g1, .int .i64 g2, .int .i64 g3, .int .i64 j1, .int .i64 j2, .int .i64 j3] 35) = U3 at *
  have cL := bL.cell
  have zL := bL.lt
  go_wp2_with fail
  refine (ks _).mono ?_
  rintro e u4 ⟨rfl, hx⟩
  clear cL zL ks
  replace hE := hE.trans hx
  replace hD := hD.trans (Dr.of_ex hx)
  replace bR := bR.ex hx
  replace bL := bL.ex hx
  replace hb : Rdr u4 bo A bs.length cap a2 := Box.ex hb hx
  clear hx
  rcases ok with _ | _
  · simp only [Bool.false_eq_true, if_false, M4.none, Fr.none]
    go_upto_region 4 with fail
    have hx := (Ex.refl u4).alloc (.cells #[.string ⟨#[]⟩, .int .i64 0, .int .i64 0, .int .i64 0, .int .i64 0, .int .i64 0, .int .i64 0, .int .i64 0, .int .i64 0, .int .i64 0, .int .i64 0, .int .i64 0, .int .i64 0, .int .u32 0] 37)
    replace hE := hE.trans hx
    replace hD := hD.trans (Dr.of_ex hx)
    replace bR := bR.ex hx
    replace bL := bL.ex hx
    replace hb : Rdr (u4.alloc (.cells #[.string ⟨#[]⟩, .int .i64 0, .int .i64 0, .int .i64 0, .int .i64 0, .int .i64 0, .int .i64 0, .int .i64 0, .int .i64 0, .int .i64 0, .int .i64 0, .int .i64 0, .int .i64 0, .int .u32 0] 37)) bo A bs.length cap a2 := Box.ex hb hx
    clear hx
    generalize u4.alloc (.cells #[.string ⟨#[]⟩, .int .i64 0, .int .i64 0, .int .i64 0, .int .i64 0, .int .i64 0, .int .i64 0, .int .i64 0, .int .i64 0, .int .i64 0, .int .i64 0, .int .i64 0, .int .i64 0, .int .u32 0] 37) = U5 at *
    have cL := bL.cell
    have zL := bL.lt
    have h1 := Ql S e1 e2 e3 f1 f2 f3 g1 g2 g3 j1 j2 j3 3
    go_wp2_with (refine wpList_store_row rfl _ _ _ rfl _ _ rfl rfl _ _ bR (Uy rfl) rfl h1 ?_)
    exact Gq (results_cell_row Tryz.results40 _ _ _ _ _ (0, 0) _ rfl (bR.setRow _) Tryz.underlying37 rfl (Uy rfl)) rfl ⟨S, ⟨⟨e1, e2, e3⟩, ⟨f1, f2, f3⟩, ⟨g1, g2, g3⟩, ⟨j1, j2, j3⟩⟩, 3, _, rfl, by omega, by omega, hD.setRow (Nat.le_refl _) _, Box.setRow_far hb (by omega) _⟩
  · simp only [if_true]
    go_upto_region 4 with fail
    have hx := (Ex.refl u4).alloc (.cells #[.string S, .int .i64 e1, .int .i64 e2, .int .i64 e3, .int .i64 f1, .int .i64 f2, .int .i64 f3, .int .i64 g1, .int .i64 g2, .int .i64 g3, .int .i64 j1, .int .i64 j2, .int .i64 j3, .int .u32 h] 37)
    have bO := Box.new u4 #[.string S, .int .i64 e1, .int .i64 e2, .int .i64 e3, .int .i64 f1, .int .i64 f2, .int .i64 f3, .int .i64 g1, .int .i64 g2, .int .i64 g3, .int .i64 j1, .int .i64 j2, .int .i64 j3, .int .u32 h] 37
    have hgo : w.heap.size < u4.heap.size := bR.lt
    have hbo4 : bo < u4.heap.size := hb.lt
    replace hE := hE.trans hx
    replace hD := hD.trans (Dr.of_ex hx)
    replace bR := bR.ex hx
    replace hb : Rdr (u4.alloc (.cells #[.string S, .int .i64 e1, .int .i64 e2, .int .i64 e3, .int .i64 f1, .int .i64 f2, .int .i64 f3, .int .i64 g1, .int .i64 g2, .int .i64 g3, .int .i64 j1, .int .i64 j2, .int .i64 j3, .int .u32 h] 37)) bo A bs.length cap a2 := Box.ex hb hx
    clear hx
    generalize u4.alloc (.cells #[.string S, .int .i64 e1, .int .i64 e2, .int .i64 e3, .int .i64 f1, .int .i64 f2, .int .i64 f3, .int .i64 g1, .int .i64 g2, .int .i64 g3, .int .i64 j1, .int .i64 j2, .int .i64 j3, .int .u32 h] 37) = U5 at *
    generalize u4.heap.size = go at *
    go_wp2_with fail
    refine (HP.out a2 6 _ hE hb (by omega) (by omega) (by omega)).mono ?_
    rintro e u6 ⟨v1, rfl, hv1a, hv1b, hd, hb2⟩
    replace hE := hd.ex W hE hbo
    replace hD := hD.trans hd
    replace bR := hd.box _ _ _ (by omega) bR
    replace bO := hd.box _ _ _ (by omega) bO
    replace hb := hb2
    clear hd hb2
    by_cases h1 : v1 = 0
    · have h1b : (v1 == 0) = true := by simpa using h1
      have cO := bO.cell
      have zO := bO.lt
      have fO := bO.frozen
      go_upto_region 8 with fail
      have bO2 := bO.set_ 13 (.int .u32 ((h + 1) % 4294967296))
      simp only [Gt, Gs, Gr] at bO2
      have bR2 := bR.far (p := ⟨go, 13, none⟩) (by simp only; omega) (.int .u32 ((h + 1) % 4294967296))
      have hD2 := hD.setNew (p := ⟨go, 13, none⟩) (by simp only; omega) (.int .u32 ((h + 1) % 4294967296))
      have hb2 := Box.far (p := ⟨go, 13, none⟩) hb (by simp only; omega) (.int .u32 ((h + 1) % 4294967296))
      clear bO bR hD hb cO zO fO
      generalize u6.setCell ⟨go, 13, none⟩ (.int .u32 ((h + 1) % 4294967296)) = U7 at *
      have h1 := Ql S e1 e2 e3 f1 f2 f3 g1 g2 g3 j1 j2 j3 ((h + 1) % 4294967296)
      go_wp2_with (first | (refine wpList_load_row rfl _ _ rfl _ rfl _ _ (0, 0) _ bO2 Tryz.underlying37 rfl (Uy rfl) ?_) | (refine wpList_store_row rfl _ _ _ rfl _ _ rfl rfl _ _ bR2 (Uy rfl) rfl h1 ?_))
      exact Gq (results_cell_row Tryz.results40 _ _ _ _ _ (0, 0) _ rfl (bR2.setRow _) Tryz.underlying37 rfl (Uy rfl)) rfl ⟨S, ⟨⟨e1, e2, e3⟩, ⟨f1, f2, f3⟩, ⟨g1, g2, g3⟩, ⟨j1, j2, j3⟩⟩, _, _, rfl, by omega, by omega, hD2.setRow (Nat.le_refl _) _, Box.setRow_far hb2 (by omega) _⟩
    · have h1b : (v1 == 0) = false := by simpa using h1
      clear h1
      have h1 := Ql S e1 e2 e3 f1 f2 f3 g1 g2 g3 j1 j2 j3 h
      go_wp2_with (first | (refine wpList_load_row rfl _ _ rfl _ rfl _ _ (0, 0) _ bO Tryz.underlying37 rfl (Uy rfl) ?_) | (refine wpList_store_row rfl _ _ _ rfl _ _ rfl rfl _ _ bR (Uy rfl) rfl h1 ?_))
      exact Gq (results_cell_row Tryz.results40 _ _ _ _ _ (0, 0) _ rfl (bR.setRow _) Tryz.underlying37 rfl (Uy rfl)) rfl ⟨S, ⟨⟨e1, e2, e3⟩, ⟨f1, f2, f3⟩, ⟨g1, g2, g3⟩, ⟨j1, j2, j3⟩⟩, h, _, rfl, by omega, by omega, hD.setRow (Nat.le_refl _) _, Box.setRow_far hb (by omega) _⟩
end
end Go.Proofs.YtmmjkchjgeklnaaGreatDoor
