/-
  Walks: the draws of glass.
-/
import Derived.Test.YtmmjkchjgeklnaaDoorDraw
import Derived.Test.YtmmjkchjgeklnaaDoorGlsW
import Derived.Test.YtmmjkchjgeklnaaDoorLib2
import Derived.Deep.RegionHeld3
import Derived.Deep.DeepCutAuto
namespace Go.Proofs.YtmmjkchjgeklnaaDoor
open Go.RowKit

theorem Pk.setCell {bo : Nat} {w w1 : World} (h : Pk bo w w1) (hb : bo < w.heap.size) {p : Addr} (hp : w.heap.size ≤ p.block) (u : Value) : Pk bo w (w1.setCell p u) :=
  ⟨fun W hW hl => (h.ex W hW hl).setCell (by omega) u, fun b t cs h1 h2 h3 => (h.box b t cs h1 h2 h3).far (by have := h3.lt; omega) u, by simpa using h.size⟩

/-- A glass that was drawn. -/
def DrewG (bo : Nat) (A : Option Addr) (n cap a : Nat) (w : World) (e : Ending) (w' : World) : Prop :=
  ∃ (r c : Int) (B : Option Addr) (cb : Nat) (ys : List Int) (a' : Nat), e = .returned (.agg #[.int .i64 r, .int .i64 c, .slice B ys.length cb]) ∧ ys.length ≤ 16 ∧ OwnI w' w.heap.size B cb ys ∧
    Pk bo w w' ∧ Box w' bo 87 #[.slice A n cap, .int .i64 (a' : Int)] ∧ a' ≤ a + 100

set_option maxRecDepth 4000 in
set_option maxHeartbeats 2000000 in
theorem l92Glass_draw {W : World} {A : Option Addr} {bs : List Int} (hB : Byts W A bs) (hl : bs.length ≤ 2000) (bo cap a : Nat) (w : World) (hE : Ex W w) (hbo : W.heap.size ≤ bo)
    (hb : Box w bo 87 #[.slice A bs.length cap, .int .i64 a]) (ha : a ≤ 1048576) :
    Calls Tryd.prog 33 #[.pointer (some ⟨bo, 0, none⟩)] w (DrewG bo A bs.length cap a w) := by
  have hlw := hb.lt
  have pd := fun (a : Nat) (m : Int) (w : World) hE hb => pick_draw hB hl bo cap a m w hE hbo hb
  clear hB
  go_enter Tryd.func33, Tryd.ntmps33
  go_wp2_with fail
  refine (pd a 4 _ (hE.alloc _) (hb.alloc _) (by omega) (by omega) (by omega)).mono ?_
  rintro e w1 ⟨v1, rfl, h10, h11, pk1, hb1, -, -⟩
  have bR := pk1.box _ _ _ (by omega) (by decide) (Box.new w _ _)
  replace pk1 := (Pk.of_ex (bo := bo) ((Ex.refl w).alloc _)).trans pk1
  go_wp2_with fail
  refine (pd (a + 1) 4 _ (pk1.ex W hE hbo) hb1 (by omega) (by omega) (by omega)).mono ?_
  rintro e w2 ⟨v2, rfl, h20, h21, pk2, hb2, -, -⟩
  replace bR := pk2.box _ _ _ (by omega) (by decide) bR
  replace pk2 := pk1.trans pk2
  clear pk1 hb1
  have zR := bR.lt
  have zb := hb2.lt
  obtain ⟨rn, hrn, hrn1, hrn2⟩ : ∃ rn : Nat, 1 + v1 = (rn : Int) ∧ 1 ≤ rn ∧ rn ≤ 4 := ⟨(1 + v1).toNat, by omega, by omega, by omega⟩
  obtain ⟨cn, hcn, hcn1, hcn2⟩ : ∃ cn : Nat, 1 + v2 = (cn : Int) ∧ 1 ≤ cn ∧ cn ≤ 4 := ⟨(1 + v2).toNat, by omega, by omega, by omega⟩
  obtain ⟨P, hP, hP1, hP2⟩ : ∃ P : Nat, (rn : Int) * cn = (P : Int) ∧ 1 ≤ P ∧ P ≤ 16 :=
    ⟨rn * cn, (Int.natCast_mul _ _).symm, Nat.mul_le_mul hrn1 hcn1, Nat.mul_le_mul hrn2 hcn2⟩
  go_wp2_with fail
  have hE2 := pk2.ex W hE hbo
  refine (pd (a + 1 + 1) 4 _ ((hE2.alloc _).alloc _) ((hb2.alloc _).alloc _) (by omega) (by omega) (by omega)).mono ?_
  rintro e w3 ⟨v3, rfl, h30, h31, pk3, hb3, ho3, -⟩
  have hown := ho3 _ _ _ _ ((ownI_nil w2 w.heap.size pk2.size).alloc _)
  have bO := pk3.box _ _ _ (by simp; omega) (by decide) (Box.new (w2.alloc _) _ _)
  replace bR := pk3.box _ _ _ (by omega) (by decide) ((bR.alloc _).alloc _)
  simp only [World.size_alloc] at bO
  replace pk3 := pk2.trans ((Pk.of_ex (bo := bo) (((Ex.refl w2).alloc _).alloc _)).trans pk3)
  obtain ⟨bo2, hbo2, z2⟩ : ∃ b, b = w2.heap.size + 1 ∧ w.heap.size < b := ⟨_, rfl, by omega⟩
  rw [← hbo2] at bO
  clear hcn hrn h10 h11 h20 h21 hE2 hb2 zR zb
  go_wp2_with fail
  rw [← hbo2]
  generalize (v3 == 0) = rough
  clear h30 h31 hbo2 ho3 pk2
  go_loopw [5] (fun i wr => ∃ (k a' : Nat) (B : Option Addr) (cb : Nat) (ys : List Int), k ≤ P ∧ i = .int .i64 k ∧ a' ≤ a + 3 + 3 * k ∧ Hid (ys.length = k) ∧ OwnI wr w.heap.size B cb ys ∧ Pk bo w wr ∧
      Box wr bo 87 #[.slice A bs.length cap, .int .i64 (a' : Int)] ∧ Box wr w.heap.size 29 #[.int .i64 0, .int .i64 0, .slice none 0 0] ∧
      Box wr bo2 29 #[.int .i64 rn, .int .i64 cn, .slice B ys.length cb]) (fun i _ => P - (intOf i).toNat)
  case atStart => exact ⟨0, a + 1 + 1 + 1, _, 0, [], by omega, rfl, by omega, rfl, hown, pk3, hb3, bR, bO⟩
  case round =>
    clear hown pk3 hb3 bR bO
    obtain ⟨k, a', B, cb, ys, hk, rfl, ha', HY, hown, pk, hbr, bR, bO⟩ := hrel
    have cR := bR.cell
    have cO := bO.cell
    have HO := Lib.hid hown
    clear hown
    by_cases hlt : (k : Int) < P
    · rcases rough with _ | _
      · go_wp2_with fail
        refine (pd a' 9 _ (pk.ex W hE hbo) hbr (by omega) (by omega) (by omega)).mono ?_
        rintro e w4 ⟨v4, rfl, h40, h41, pk4, hb4, ho4, -⟩
        have HO4 := Lib.hid (ho4 _ _ _ _ HO.out)
        replace bR := pk4.box _ _ _ (by omega) (by decide) bR
        replace bO := pk4.box _ _ _ (by omega) (by decide) bO
        replace pk4 := pk.trans pk4
        replace cR := bR.cell
        replace cO := bO.cell
        clear pk hbr HO ho4
        go_upto_region 8 with fail
        go_cut [6] (fun s6 wx => ∃ (n : Int), s6 = .int .i64 n ∧ Pk bo w wx ∧ Box wx bo 87 #[.slice A bs.length cap, .int .i64 ((a' + 1 + 1 + 1 : Nat) : Int)] ∧
          Box wx w.heap.size 29 #[.int .i64 0, .int .i64 0, .slice none 0 0] ∧ Box wx bo2 29 #[.int .i64 rn, .int .i64 cn, .slice B ys.length cb] ∧ OwnI wx w.heap.size B cb ys)
        case first =>
          clear cR
          have cO1 : w4.cell? ⟨bo2, 1, none⟩ = some (.int .i64 cn) := cO 1
          clear cO
          have hcn0 : ¬ cn = 0 := by omega
          go_region_held3 (fun w' => w'.cell? ⟨bo2, 1, none⟩ = some (.int .i64 (cn : Int))) (go_keep) ((go_at_call 58; (first | (refine (pd _ 2 _ (pk4.ex W hE hbo) hb4 (by omega) (by omega) (by omega)).mono ?_) | (refine (pd _ 2 _ (pk4.ex W hE hbo).drew hb4 (by omega) (by omega) (by omega)).mono ?_)); rintro e wn ⟨vn, rfl, hn0, hn1, pkn, hbn, hon, -⟩; have hb4 := hbn; have HO4 := Lib.hid (hon _ _ _ _ HO4.out); have bR := pkn.box _ _ _ (by omega) (by decide) bR; have bO := pkn.box _ _ _ (by omega) (by decide) bO; have cO1 : wn.cell? ⟨bo2, 1, none⟩ = some (.int .i64 (cn : Int)) := bO.cell 1; have pk4 := pk4.trans ((Pk.of_ex (bo := bo) (by first | exact (Ex.refl _).drew | exact Ex.refl _)).trans pkn); clear pkn hbn hon))
          all_goals
            go_wp2_with fail
            go_meet
            exact ⟨_, rfl, pk4, hb4, bR, bO, HO4.out⟩
        case rest =>
          clear cR cO bR bO hb4 pk4 HO4
          obtain ⟨n, rfl, pk4, hb4, bR, bO, hO4⟩ := hcut
          have cO := bO.cell
          have HO4 := Lib.hid hO4
          clear hO4
          go_wp2_with (at_builtin; refine wpList_appI rfl _ _ wc rfl w.heap.size B cb ys n rfl HO4.out rfl (by have := HY.out; omega) pk4.size ?_)
          intro B' cb' w6 hown6 hk6
          have bR6 := (hk6.box _ _ _ bR (by decide)).far (p := ⟨bo2, 2, none⟩) (by simp; omega) (.slice B' (ys.length + 1) cb')
          have bO6' := hk6.box _ _ _ bO (by decide)
          have c6 := bO6'.cell
          have f6 := bO6'.frozen
          have bO6 := bO6'.set_ 2 (.slice B' (ys.length + 1) cb')
          have hb6 := (hk6.box _ _ _ hb4 (by decide)).far (p := ⟨bo2, 2, none⟩) (by simp; omega) (.slice B' (ys.length + 1) cb')
          have pk6 := (pk4.trans (Pk.of_keeps (bo := bo) hk6 (by omega))).setCell hlw (p := ⟨bo2, 2, none⟩) (by simp; omega) (.slice B' (ys.length + 1) cb')
          have hO6 := Own.setCell (p := ⟨bo2, 2, none⟩) hown6 (fun g hg e => by subst e; exact Own.ne hown6 bO6' (by decide) hg.symm) (.slice B' (ys.length + 1) cb')
          clear bO6' hk6 hown6 pk4 hb4 bR bO HO4 cO
          go_wp2
          go_roundw
          case rel => exact ⟨k + 1, a' + 1 + 1 + 1, B', cb', ys ++ [n], by omega, by go_num, by omega, show _ = _ by simp [HY.out], hO6, pk6, hb6, bR6, by simpa using bO6⟩
          case measure => simp [intOf]; omega
      · go_wp2_with fail
        refine (pd a' 9 _ (pk.ex W hE hbo) hbr (by omega) (by omega) (by omega)).mono ?_
        rintro e w4 ⟨v4, rfl, h40, h41, pk4, hb4, ho4, -⟩
        have HO4 := Lib.hid (ho4 _ _ _ _ HO.out)
        replace bR := pk4.box _ _ _ (by omega) (by decide) bR
        replace bO := pk4.box _ _ _ (by omega) (by decide) bO
        replace pk4 := pk.trans pk4
        clear cR
        replace cO := bO.cell
        clear pk hbr HO ho4
        go_wp2_with (at_builtin; refine wpList_appI rfl _ _ w4 rfl w.heap.size B cb ys (v4 - 4) rfl HO4.out rfl (by have := HY.out; omega) pk4.size ?_)
        intro B' cb' w6 hown6 hk6
        have bR6 := (hk6.box _ _ _ bR (by decide)).far (p := ⟨bo2, 2, none⟩) (by simp; omega) (.slice B' (ys.length + 1) cb')
        have bO6' := hk6.box _ _ _ bO (by decide)
        have c6 := bO6'.cell
        have f6 := bO6'.frozen
        have bO6 := bO6'.set_ 2 (.slice B' (ys.length + 1) cb')
        have hb6 := (hk6.box _ _ _ hb4 (by decide)).far (p := ⟨bo2, 2, none⟩) (by simp; omega) (.slice B' (ys.length + 1) cb')
        have pk6 := (pk4.trans (Pk.of_keeps (bo := bo) hk6 (by omega))).setCell hlw (p := ⟨bo2, 2, none⟩) (by simp; omega) (.slice B' (ys.length + 1) cb')
        have hO6 := Own.setCell (p := ⟨bo2, 2, none⟩) hown6 (fun g hg e => by subst e; exact Own.ne hown6 bO6' (by decide) hg.symm) (.slice B' (ys.length + 1) cb')
        clear bO6' hk6 hown6 pk4 hb4 bR bO HO4 cO
        go_wp2
        go_roundw
        case rel => exact ⟨k + 1, a' + 1, B', cb', ys ++ [v4 - 4], by omega, by go_num, by omega, show _ = _ by simp [HY.out], hO6, pk6, hb6, bR6, by simpa using bO6⟩
        case measure => simp [intOf]; omega
    · obtain rfl : k = P := by omega
      go_wp2_with fail
      refine (pd a' 24 _ (pk.ex W hE hbo) hbr (by omega) (by omega) (by omega)).mono ?_
      rintro e w4 ⟨v4, rfl, h40, h41, pk4, hb4, ho4, -⟩
      have HO4 := Lib.hid (ho4 _ _ _ _ HO.out)
      replace bR := pk4.box _ _ _ (by omega) (by decide) bR
      replace bO := pk4.box _ _ _ (by omega) (by decide) bO
      replace pk4 := pk.trans pk4
      replace cR := bR.cell
      replace cO := bO.cell
      have fR := bR.frozen
      have fO := bO.frozen
      clear pk hbr HO ho4
      have hne : ∀ (_ : Unit) (g : Nat), (Value.slice B ys.length cb).ownBlock = some g → g ≠ w.heap.size := fun _ g hg e => by
        subst e
        exact Own.ne HO4.out bR (by decide) hg.symm
      have hne2 : ∀ (_ : Unit) (g : Nat), (Value.slice B ys.length cb).ownBlock = some g → g ≠ bo2 := fun _ g hg e => by
        subst e
        exact Own.ne HO4.out bO (by decide) hg.symm
      rcases h0 : (v4 == 0) with _ | _
      · rcases h1 : (v4 == 1) with _ | _
        · go_wp2_with fail
          refine bodyPost_ret (v := .agg #[.int .i64 rn, .int .i64 cn, .slice B ys.length cb]) (by simp [results, Tryd.results33, go_sem, *]) rfl ?_
          refine ⟨rn, cn, B, cb, ys, a' + 1, rfl, by have := HY.out; omega, ?_, ?_, ?_, by omega⟩
          · exact ((Own.setCell HO4.out (hne ()) _).setCell (hne ()) _).setCell (hne ()) _
          · exact ((pk4.setCell hlw (Nat.le_refl _) _).setCell hlw (Nat.le_refl _) _).setCell hlw (Nat.le_refl _) _
          · exact ((hb4.far (by simp; omega) _).far (by simp; omega) _).far (by simp; omega) _
        · obtain ⟨g, rfl, hg1, hg2, hcg, hfg⟩ := HO4.out.at (by have := HY.out; omega)
          have cg := hcg 0 (by have := HY.out; omega)
          have fg := hfg 0
          have hyl := HY.out
          clear hcg hfg
          have hgR : g ≠ w.heap.size := hne () g rfl
          have hgO : g ≠ bo2 := hne2 () g rfl
          go_wp2_with fail
          refine bodyPost_ret (v := .agg #[.int .i64 rn, .int .i64 cn, .slice (some ⟨g, 0, none⟩) ys.length cb]) (by simp [results, Tryd.results33, go_sem, *]) rfl ?_
          have hst := HO4.out.store 0 1001
          refine ⟨rn, cn, some ⟨g, 0, none⟩, cb, ys.set 0 1001, a' + 1, by simp, by simp; omega, ?_, ?_, ?_, by omega⟩
          · have hne' : ∀ x, (Value.slice (some ⟨g, 0, none⟩) (ys.set 0 1001).length cb).ownBlock = some x → x ≠ w.heap.size := fun x hx => by
              simp [Value.ownBlock] at hx
              omega
            exact ((Own.setCell hst hne' _).setCell hne' _).setCell hne' _
          · exact (((pk4.setCell hlw (p := ⟨g, 0, none⟩) hg1 _).setCell hlw (Nat.le_refl _) _).setCell hlw (Nat.le_refl _) _).setCell hlw (Nat.le_refl _) _
          · exact (((hb4.far (p := ⟨g, 0, none⟩) (by simp; omega) _).far (by simp; omega) _).far (by simp; omega) _).far (by simp; omega) _
      · go_wp2_with fail
        refine bodyPost_ret (v := .agg #[.int .i64 9, .int .i64 cn, .slice B ys.length cb]) (by simp [results, Tryd.results33, go_sem, *]) rfl ?_
        refine ⟨9, cn, B, cb, ys, a' + 1, rfl, by have := HY.out; omega, ?_, ?_, ?_, by omega⟩
        · exact (((Own.setCell HO4.out (hne2 ()) _).setCell (hne ()) _).setCell (hne ()) _).setCell (hne ()) _
        · exact (((pk4.setCell hlw (p := ⟨bo2, 0, none⟩) (by simp; omega) _).setCell hlw (Nat.le_refl _) _).setCell hlw (Nat.le_refl _) _).setCell hlw (Nat.le_refl _) _
        · exact (((hb4.far (p := ⟨bo2, 0, none⟩) (by simp; omega) _).far (by simp; omega) _).far (by simp; omega) _).far (by simp; omega) _
end Go.Proofs.YtmmjkchjgeklnaaDoor
