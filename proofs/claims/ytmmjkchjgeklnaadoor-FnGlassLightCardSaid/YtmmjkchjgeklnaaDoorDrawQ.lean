/-
  Walks: the draws of a direction, and of a glass with one.
-/
import Derived.Test.YtmmjkchjgeklnaaDoorDrawG
namespace Go.Proofs.YtmmjkchjgeklnaaDoor
open Go.RowKit

/-- A direction that was drawn. -/
def DrewD (bo : Nat) (A : Option Addr) (n cap a : Nat) (w : World) (e : Ending) (w' : World) : Prop :=
  ∃ (p q : Int) (a' : Nat), e = .returned (.tuple #[.int .i64 p, .int .i64 q]) ∧ Pk bo w w' ∧ Box w' bo 87 #[.slice A n cap, .int .i64 (a' : Int)] ∧ a' ≤ a + 3 ∧ (∀ lo B cb ys, OwnI w lo B cb ys → OwnI w' lo B cb ys)
set_option maxHeartbeats 1000000 in
theorem l91Direction_draw {W : World} {A : Option Addr} {bs : List Int} (hB : Byts W A bs) (hl : bs.length ≤ 2000) (bo cap a : Nat) (w : World) (hE : Ex W w) (hbo : W.heap.size ≤ bo)
    (hb : Box w bo 87 #[.slice A bs.length cap, .int .i64 a]) (ha : a ≤ 1048576) :
    Calls Tryd.prog 34 #[.pointer (some ⟨bo, 0, none⟩)] w (DrewD bo A bs.length cap a w) := by
  have pd := fun (a : Nat) (m : Int) (w : World) hE hb => pick_draw hB hl bo cap a m w hE hbo hb
  clear hB
  go_enter Tryd.func34, Tryd.ntmps34
  go_wp2_with fail
  refine (pd a 7 _ hE hb (by omega) (by omega) (by omega)).mono ?_
  rintro e w1 ⟨v1, rfl, h10, h11, pk1, hb1, ho1, -⟩
  go_wp2_with fail
  refine (pd (a + 1) 7 _ (pk1.ex W hE hbo) hb1 (by omega) (by omega) (by omega)).mono ?_
  rintro e w2 ⟨v2, rfl, h20, h21, pk2, hb2, ho2, -⟩
  replace pk2 := pk1.trans pk2
  go_wp2_with fail
  refine (pd (a + 1 + 1) 30 _ (pk2.ex W hE hbo) hb2 (by omega) (by omega) (by omega)).mono ?_
  rintro e w3 ⟨v3, rfl, h30, h31, pk3, hb3, ho3, -⟩
  replace pk3 := pk2.trans pk3
  clear pd pk1 pk2 hb1 hb2 hE hb
  rcases h0 : (v3 == 0) with _ | _
  · go_wp2_with fail
    refine bodyPost_ret (v := .tuple #[.int .i64 (v1 - 3), .int .i64 (v2 - 3)]) (by simp [results, Tryd.results34, go_sem]) rfl ?_
    exact ⟨_, _, a + 1 + 1 + 1, rfl, pk3, hb3, by omega, fun lo B cb ys h => ho3 _ _ _ _ (ho2 _ _ _ _ (ho1 _ _ _ _ h))⟩
  · go_wp2_with fail
    refine bodyPost_ret (v := .tuple #[.int .i64 101, .int .i64 (v2 - 3)]) (by simp [results, Tryd.results34, go_sem]) rfl ?_
    exact ⟨_, _, a + 1 + 1 + 1, rfl, pk3, hb3, by omega, fun lo B cb ys h => ho3 _ _ _ _ (ho2 _ _ _ _ (ho1 _ _ _ _ h))⟩
/-- A glass and a direction that were drawn. -/
def GotDrawL (w : World) (e : Ending) (w' : World) : Prop :=
  ∃ (r c : Int) (B : Option Addr) (cb : Nat) (ys : List Int) (p q : Int), e = .returned (.tuple #[.agg #[.int .i64 r, .int .i64 c, .slice B ys.length cb], .int .i64 p, .int .i64 q]) ∧ ys.length ≤ 16 ∧ Ints w' B ys ∧ Ex w w'
set_option maxHeartbeats 1000000 in
theorem drawGlassLight (A : Option Addr) (xs : List Int) (cap : Nat) (w : World) (hB : Byts w A xs) (hl : xs.length ≤ 9223372036854775807) (hcap : xs.length ≤ cap) (hcap2 : cap ≤ 9223372036854775807) :
    Calls Tryd.prog 14 #[.slice A xs.length cap] w (GotDrawL w) := by
  go_enter Tryd.func14, Tryd.ntmps14
  go_wp2_with fail
  refine (l6Open_any A xs cap _ (hB.alloc _) hl hcap hcap2).mono ?_
  rintro e w1 ⟨bs, c1, rfl, hB1, hl1, hb1, hx, -⟩
  have bR := (Box.new w _ _).ex hx
  have z := bR.lt
  simp only [World.size_alloc] at hb1
  go_wp2_with fail
  refine (l92Glass_draw hB1 hl1 (w.heap.size + 1) c1 0 w1 hx (by simp) hb1 (by omega)).mono ?_
  rintro e w2 ⟨r, c, B, cb, ys, a', rfl, hy, hown, pk, hb2, ha'⟩
  replace bR := pk.box _ _ _ (by simp) (by decide) bR
  have hE := pk.ex w (((Ex.refl w).alloc _).trans hx) (by simp)
  have hE1 := pk.ex _ hx (by simp)
  have hs := hx.size
  have hs1 := hb1.lt
  have hs2 := pk.size
  simp only [World.size_alloc] at hs
  clear hx pk hb1
  go_wp2_with fail
  refine (l91Direction_draw hB1 hl1 (w.heap.size + 1) c1 a' _ (hE1.alloc _) (by simp) (hb2.alloc _) (by omega)).mono ?_
  rintro e w3 ⟨p, q, a2, rfl, pk3, -, -, hk3⟩
  have b6 := pk3.box _ _ _ (by omega) (by decide) (Box.new w2 _ _)
  replace bR := pk3.box _ _ _ (by simp) (by decide) (bR.alloc _)
  replace hE := pk3.ex w (hE.alloc _) (by simp)
  have hown3 := hk3 _ _ _ _ (hown.alloc _)
  have cR := bR.cell
  have fR := bR.frozen
  have zR := bR.lt
  have c6 := b6.cell
  have z6 := b6.lt
  have n6 : ¬ w2.heap.size = w.heap.size := by omega
  clear hb2 hE1 hB1 pk3 hk3
  go_wp2_with fail
  refine bodyPost_ret (v := .tuple #[.agg #[.int .i64 r, .int .i64 c, .slice B ys.length cb], .int .i64 p, .int .i64 q]) (by simp [results, Tryd.results14, go_sem, *]) rfl ?_
  exact ⟨r, c, B, cb, ys, p, q, rfl, hy, (((hown3.setBelow (by simp; omega) _).setBelow (by simp; omega) _).setBelow (by simp; omega) _).ints, ((hE.setCell (Nat.le_refl _) _).setCell (Nat.le_refl _) _).setCell (Nat.le_refl _) _⟩
end Go.Proofs.YtmmjkchjgeklnaaDoor
