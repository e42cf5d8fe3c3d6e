/-
  Walks: the draws of glass, by name.
-/
import Derived.Test.YtploaldfkfjibaaDrawG
namespace Go.Proofs.Ytploaldfkfjibaa
open Go.RowKit

/-- What a law gets: a glass. -/
def GotDraw (w : World) (e : Ending) (w' : World) : Prop :=
  ∃ (r c : Int) (B : Option Addr) (cb : Nat) (ys : List Int), e = .returned (.agg #[.int .i64 r, .int .i64 c, .slice B ys.length cb]) ∧ ys.length ≤ 16 ∧ Ints w' B ys ∧ Ex w w'

theorem Ints.head {w : World} {b off : Nat} {xs : List Int} (h : Ints w (some ⟨b, off, none⟩) xs) (hp : 0 < xs.length) : w.cell? ⟨b, off, none⟩ = some (.int .i64 (xs.getD 0 0)) := by
  obtain ⟨b', off', e, hc⟩ := h.at hp
  injection e with e
  injection e with e1 e2
  subst e1; subst e2
  have := hc 0 hp
  simpa using this
theorem gwrap_len_eq (r c : Int) (q : List Int) : (gwrap r c q).q.length ≤ q.length := by
  unfold gwrap
  split
  · simp
  · simp [GR.zero]

def DrewW (bo : Nat) (w : World) (e : Ending) (w' : World) : Prop :=
  ∃ (r c : Int) (B : Option Addr) (cb : Nat) (ys : List Int), e = .returned (.agg #[.int .i64 r, .int .i64 c, .slice B ys.length cb]) ∧ ys.length ≤ 16 ∧ OwnI w' w.heap.size B cb ys ∧ Pk bo w w'
set_option maxHeartbeats 1000000 in
theorem l92Wrapped_draw {W : World} {A : Option Addr} {bs : List Int} (hB : Byts W A bs) (hl : bs.length ≤ 2000) (bo cap a : Nat) (w : World) (hE : Ex W w) (hbo : W.heap.size ≤ bo)
    (hb : Box w bo 59 #[.slice A bs.length cap, .int .i64 a]) (ha : a ≤ 1048576) :
    Calls Try.prog 72 #[.pointer (some ⟨bo, 0, none⟩)] w (DrewW bo w) := by
  have hlw := hb.lt
  go_enter Try.func72, Try.ntmps72
  go_wp2_with fail
  refine (l92Glass_draw hB hl bo cap a _ (hE.alloc _) hbo (hb.alloc _) ha).mono ?_
  rintro e w1 ⟨r, c, B, cb, ys, a', rfl, hy, ho1, pk, hb1, ha'⟩
  have bR := pk.box _ _ _ (by omega) (by decide) (Box.new w _ _)
  replace pk := (Pk.of_ex (bo := bo) ((Ex.refl w).alloc _)).trans pk
  replace ho1 := ho1.wide (lo' := w.heap.size) (by simp)
  go_wp2_with fail
  refine (sGlassWrap r c B ys cb _ (ho1.alloc _).ints (by omega)).mono ?_
  have hq := gwrap_len_eq r c ys
  generalize gwrap r c ys = R at hq
  obtain ⟨ok, r', c', zs⟩ := R
  rintro e w2 ⟨D, cd, rfl, ho2, hx⟩
  simp only at hq ho2
  have bO := (Box.new w1 _ _).ex hx
  replace hx := ((Ex.refl w1).alloc _).trans hx
  replace ho1 := ho1.ex hx
  replace bR := bR.ex hx
  replace hb1 := hb1.ex hx
  have hs1 := pk.size
  replace pk := pk.trans (Pk.of_ex hx)
  replace ho2 := ho2.wide (lo' := w.heap.size) (by simp; omega)
  have z1 := bO.lt
  have zR := bR.lt
  clear hx
  have cR := bR.cell
  have fR := bR.frozen
  have cO := bO.cell
  have n1 : ∀ g, (Value.slice B ys.length cb).ownBlock = some g → g ≠ w.heap.size := fun g hg e => by
    subst e
    exact Own.ne ho1 bR (by decide) hg.symm
  have n2 : ∀ g, (Value.slice D zs.length cd).ownBlock = some g → g ≠ w.heap.size := fun g hg e => by
    subst e
    exact Own.ne ho2 bR (by decide) hg.symm
  rcases ok with _ | _
  · go_wp2_with fail
    refine bodyPost_ret (v := .agg #[.int .i64 r, .int .i64 c, .slice B ys.length cb]) (by simp [results, Try.results72, go_sem, *]) rfl ?_
    refine ⟨r, c, B, cb, ys, rfl, hy, ?_, ?_⟩
    · exact Own.alloc (((Own.setCell ho1 n1 _).setCell n1 _).setCell n1 _) _
    · exact (((pk.setCell hlw (Nat.le_refl _) _).setCell hlw (Nat.le_refl _) _).setCell hlw (Nat.le_refl _) _).trans (Pk.of_ex ((Ex.refl _).alloc _))
  · go_wp2_with fail
    refine (pick_draw hB hl bo cap a' 5 _ ((pk.ex W hE hbo).alloc _) hbo (hb1.alloc _) (by omega) (by omega) (by omega)).mono ?_
    rintro e w3 ⟨v, rfl, h0, h1, pk3, -, ho3, -⟩
    have bD := pk3.box _ _ _ (by omega) (by decide) (Box.new w2 _ _)
    replace bO := pk3.box _ _ _ (by omega) (by decide) (bO.alloc _)
    replace bR := pk3.box _ _ _ (by omega) (by decide) (bR.alloc _)
    replace pk := (pk.trans (Pk.of_ex ((Ex.refl _).alloc _))).trans pk3
    replace ho1 := ho3 _ _ _ _ (ho1.alloc _)
    replace ho2 := ho3 _ _ _ _ (ho2.alloc _)
    replace cR := bR.cell
    replace fR := bR.frozen
    replace cO := bO.cell
    have cD := bD.cell
    clear pk3 ho3 hb1
    by_cases hv : 0 < v
    · go_wp2_with fail
      refine bodyPost_ret (v := .agg #[.int .i64 r', .int .i64 c', .slice D zs.length cd]) (by simp [results, Try.results72, go_sem, *]) rfl ?_
      refine ⟨r', c', D, cd, zs, rfl, by omega, ?_, ?_⟩
      · exact ((Own.setCell ho2 n2 _).setCell n2 _).setCell n2 _
      · exact ((pk.setCell hlw (Nat.le_refl _) _).setCell hlw (Nat.le_refl _) _).setCell hlw (Nat.le_refl _) _
    · go_wp2_with fail
      refine bodyPost_ret (v := .agg #[.int .i64 r, .int .i64 c, .slice B ys.length cb]) (by simp [results, Try.results72, go_sem, *]) rfl ?_
      refine ⟨r, c, B, cb, ys, rfl, hy, ?_, ?_⟩
      · exact ((Own.setCell ho1 n1 _).setCell n1 _).setCell n1 _
      · exact ((pk.setCell hlw (Nat.le_refl _) _).setCell hlw (Nat.le_refl _) _).setCell hlw (Nat.le_refl _) _

set_option maxHeartbeats 400000 in
theorem drawGlassValid (A : Option Addr) (xs : List Int) (cap : Nat) (w : World) (hB : Byts w A xs) (hl : xs.length ≤ 9223372036854775807) (hcap : xs.length ≤ cap) (hcap2 : cap ≤ 9223372036854775807) :
    Calls Try.prog 29 #[.slice A xs.length cap] w (GotDraw w) := by
  go_enter Try.func29, Try.ntmps29
  go_wp2_with fail
  refine (l6Open_any A xs cap _ (hB.alloc _) hl hcap hcap2).mono ?_
  rintro e w1 ⟨bs, c1, rfl, hB1, hl1, hb1, hx, -⟩
  have bR := (Box.new w _ _).ex hx
  have z := bR.lt
  simp only [World.size_alloc] at hb1
  go_wp2_with fail
  refine (l92Glass_draw hB1 hl1 (w.heap.size + 1) c1 0 w1 hx (by simp) hb1 (by omega)).mono ?_
  rintro e w2 ⟨r, c, B, cb, ys, a', rfl, hy, hown, pk, -, -⟩
  replace bR := pk.box _ _ _ (by simp) (by decide) bR
  have hE := pk.ex w (((Ex.refl w).alloc _).trans hx) (by simp)
  have hs := hx.size
  simp only [World.size_alloc] at hs
  have cR := bR.cell
  have fR := bR.frozen
  clear hx pk hb1
  go_wp2_with fail
  refine bodyPost_ret (v := .agg #[.int .i64 r, .int .i64 c, .slice B ys.length cb]) (by simp [results, Try.results29, go_sem, *]) rfl ?_
  exact ⟨r, c, B, cb, ys, rfl, hy, (((hown.setBelow (by simp; omega) _).setBelow (by simp; omega) _).setBelow (by simp; omega) _).ints, ((hE.setCell (Nat.le_refl _) _).setCell (Nat.le_refl _) _).setCell (Nat.le_refl _) _⟩

set_option maxHeartbeats 400000 in
theorem drawGlassTurned (A : Option Addr) (xs : List Int) (cap : Nat) (w : World) (hB : Byts w A xs) (hl : xs.length ≤ 9223372036854775807) (hcap : xs.length ≤ cap) (hcap2 : cap ≤ 9223372036854775807) :
    Calls Try.prog 25 #[.slice A xs.length cap] w (GotDraw w) := by
  go_enter Try.func25, Try.ntmps25
  go_wp2_with fail
  refine (l6Open_any A xs cap _ (hB.alloc _) hl hcap hcap2).mono ?_
  rintro e w1 ⟨bs, c1, rfl, hB1, hl1, hb1, hx, -⟩
  have bR := (Box.new w _ _).ex hx
  have z := bR.lt
  simp only [World.size_alloc] at hb1
  go_wp2_with fail
  refine (l92Glass_draw hB1 hl1 (w.heap.size + 1) c1 0 w1 hx (by simp) hb1 (by omega)).mono ?_
  rintro e w2 ⟨r, c, B, cb, ys, a', rfl, hy, hown, pk, -, -⟩
  replace bR := pk.box _ _ _ (by simp) (by decide) bR
  have hE := pk.ex w (((Ex.refl w).alloc _).trans hx) (by simp)
  have hs := hx.size
  simp only [World.size_alloc] at hs
  have cR := bR.cell
  have fR := bR.frozen
  clear hx pk hb1
  go_wp2_with fail
  refine bodyPost_ret (v := .agg #[.int .i64 r, .int .i64 c, .slice B ys.length cb]) (by simp [results, Try.results25, go_sem, *]) rfl ?_
  exact ⟨r, c, B, cb, ys, rfl, hy, (((hown.setBelow (by simp; omega) _).setBelow (by simp; omega) _).setBelow (by simp; omega) _).ints, ((hE.setCell (Nat.le_refl _) _).setCell (Nat.le_refl _) _).setCell (Nat.le_refl _) _⟩

set_option maxHeartbeats 400000 in
theorem drawGlassSmooth (A : Option Addr) (xs : List Int) (cap : Nat) (w : World) (hB : Byts w A xs) (hl : xs.length ≤ 9223372036854775807) (hcap : xs.length ≤ cap) (hcap2 : cap ≤ 9223372036854775807) :
    Calls Try.prog 37 #[.slice A xs.length cap] w (GotDraw w) := by
  go_enter Try.func37, Try.ntmps37
  go_wp2_with fail
  refine (l6Open_any A xs cap _ (hB.alloc _) hl hcap hcap2).mono ?_
  rintro e w1 ⟨bs, c1, rfl, hB1, hl1, hb1, hx, -⟩
  have bR := (Box.new w _ _).ex hx
  have z := bR.lt
  simp only [World.size_alloc] at hb1
  go_wp2_with fail
  refine (l92Glass_draw hB1 hl1 (w.heap.size + 1) c1 0 w1 hx (by simp) hb1 (by omega)).mono ?_
  rintro e w2 ⟨r, c, B, cb, ys, a', rfl, hy, hown, pk, -, -⟩
  replace bR := pk.box _ _ _ (by simp) (by decide) bR
  have hE := pk.ex w (((Ex.refl w).alloc _).trans hx) (by simp)
  have hs := hx.size
  simp only [World.size_alloc] at hs
  have cR := bR.cell
  have fR := bR.frozen
  clear hx pk hb1
  go_wp2_with fail
  refine bodyPost_ret (v := .agg #[.int .i64 r, .int .i64 c, .slice B ys.length cb]) (by simp [results, Try.results37, go_sem, *]) rfl ?_
  exact ⟨r, c, B, cb, ys, rfl, hy, (((hown.setBelow (by simp; omega) _).setBelow (by simp; omega) _).setBelow (by simp; omega) _).ints, ((hE.setCell (Nat.le_refl _) _).setCell (Nat.le_refl _) _).setCell (Nat.le_refl _) _⟩

set_option maxHeartbeats 400000 in
theorem drawGlassWrap (A : Option Addr) (xs : List Int) (cap : Nat) (w : World) (hB : Byts w A xs) (hl : xs.length ≤ 9223372036854775807) (hcap : xs.length ≤ cap) (hcap2 : cap ≤ 9223372036854775807) :
    Calls Try.prog 38 #[.slice A xs.length cap] w (GotDraw w) := by
  go_enter Try.func38, Try.ntmps38
  go_wp2_with fail
  refine (l6Open_any A xs cap _ (hB.alloc _) hl hcap hcap2).mono ?_
  rintro e w1 ⟨bs, c1, rfl, hB1, hl1, hb1, hx, -⟩
  have bR := (Box.new w _ _).ex hx
  have z := bR.lt
  simp only [World.size_alloc] at hb1
  go_wp2_with fail
  refine (l92Glass_draw hB1 hl1 (w.heap.size + 1) c1 0 w1 hx (by simp) hb1 (by omega)).mono ?_
  rintro e w2 ⟨r, c, B, cb, ys, a', rfl, hy, hown, pk, -, -⟩
  replace bR := pk.box _ _ _ (by simp) (by decide) bR
  have hE := pk.ex w (((Ex.refl w).alloc _).trans hx) (by simp)
  have hs := hx.size
  simp only [World.size_alloc] at hs
  have cR := bR.cell
  have fR := bR.frozen
  clear hx pk hb1
  go_wp2_with fail
  refine bodyPost_ret (v := .agg #[.int .i64 r, .int .i64 c, .slice B ys.length cb]) (by simp [results, Try.results38, go_sem, *]) rfl ?_
  exact ⟨r, c, B, cb, ys, rfl, hy, (((hown.setBelow (by simp; omega) _).setBelow (by simp; omega) _).setBelow (by simp; omega) _).ints, ((hE.setCell (Nat.le_refl _) _).setCell (Nat.le_refl _) _).setCell (Nat.le_refl _) _⟩

set_option maxHeartbeats 400000 in
theorem drawGlassSteep (A : Option Addr) (xs : List Int) (cap : Nat) (w : World) (hB : Byts w A xs) (hl : xs.length ≤ 9223372036854775807) (hcap : xs.length ≤ cap) (hcap2 : cap ≤ 9223372036854775807) :
    Calls Try.prog 43 #[.slice A xs.length cap] w (GotDraw w) := by
  go_enter Try.func43, Try.ntmps43
  go_wp2_with fail
  refine (l6Open_any A xs cap _ (hB.alloc _) hl hcap hcap2).mono ?_
  rintro e w1 ⟨bs, c1, rfl, hB1, hl1, hb1, hx, -⟩
  have bR := (Box.new w _ _).ex hx
  have z := bR.lt
  simp only [World.size_alloc] at hb1
  go_wp2_with fail
  refine (l92Glass_draw hB1 hl1 (w.heap.size + 1) c1 0 w1 hx (by simp) hb1 (by omega)).mono ?_
  rintro e w2 ⟨r, c, B, cb, ys, a', rfl, hy, hown, pk, -, -⟩
  replace bR := pk.box _ _ _ (by simp) (by decide) bR
  have hE := pk.ex w (((Ex.refl w).alloc _).trans hx) (by simp)
  have hs := hx.size
  simp only [World.size_alloc] at hs
  have cR := bR.cell
  have fR := bR.frozen
  clear hx pk hb1
  go_wp2_with fail
  refine bodyPost_ret (v := .agg #[.int .i64 r, .int .i64 c, .slice B ys.length cb]) (by simp [results, Try.results43, go_sem, *]) rfl ?_
  exact ⟨r, c, B, cb, ys, rfl, hy, (((hown.setBelow (by simp; omega) _).setBelow (by simp; omega) _).setBelow (by simp; omega) _).ints, ((hE.setCell (Nat.le_refl _) _).setCell (Nat.le_refl _) _).setCell (Nat.le_refl _) _⟩

set_option maxHeartbeats 400000 in
theorem drawGlassUnwrap (A : Option Addr) (xs : List Int) (cap : Nat) (w : World) (hB : Byts w A xs) (hl : xs.length ≤ 9223372036854775807) (hcap : xs.length ≤ cap) (hcap2 : cap ≤ 9223372036854775807) :
    Calls Try.prog 51 #[.slice A xs.length cap] w (GotDraw w) := by
  go_enter Try.func51, Try.ntmps51
  go_wp2_with fail
  refine (l6Open_any A xs cap _ (hB.alloc _) hl hcap hcap2).mono ?_
  rintro e w1 ⟨bs, c1, rfl, hB1, hl1, hb1, hx, -⟩
  have bR := (Box.new w _ _).ex hx
  have z := bR.lt
  simp only [World.size_alloc] at hb1
  go_wp2_with fail
  refine (l92Wrapped_draw hB1 hl1 (w.heap.size + 1) c1 0 w1 hx (by simp) hb1 (by omega)).mono ?_
  rintro e w2 ⟨r, c, B, cb, ys, rfl, hy, hown, pk⟩
  replace bR := pk.box _ _ _ (by simp) (by decide) bR
  have hE := pk.ex w (((Ex.refl w).alloc _).trans hx) (by simp)
  have hs := hx.size
  simp only [World.size_alloc] at hs
  have cR := bR.cell
  have fR := bR.frozen
  clear hx pk hb1
  go_wp2_with fail
  refine bodyPost_ret (v := .agg #[.int .i64 r, .int .i64 c, .slice B ys.length cb]) (by simp [results, Try.results51, go_sem, *]) rfl ?_
  exact ⟨r, c, B, cb, ys, rfl, hy, (((hown.setBelow (by simp; omega) _).setBelow (by simp; omega) _).setBelow (by simp; omega) _).ints, ((hE.setCell (Nat.le_refl _) _).setCell (Nat.le_refl _) _).setCell (Nat.le_refl _) _⟩

set_option maxHeartbeats 400000 in
theorem drawGlassResidues (A : Option Addr) (xs : List Int) (cap : Nat) (w : World) (hB : Byts w A xs) (hl : xs.length ≤ 9223372036854775807) (hcap : xs.length ≤ cap) (hcap2 : cap ≤ 9223372036854775807) :
    Calls Try.prog 52 #[.slice A xs.length cap] w (GotDraw w) := by
  go_enter Try.func52, Try.ntmps52
  go_wp2_with fail
  refine (l6Open_any A xs cap _ (hB.alloc _) hl hcap hcap2).mono ?_
  rintro e w1 ⟨bs, c1, rfl, hB1, hl1, hb1, hx, -⟩
  have bR := (Box.new w _ _).ex hx
  have z := bR.lt
  simp only [World.size_alloc] at hb1
  go_wp2_with fail
  refine (l92Wrapped_draw hB1 hl1 (w.heap.size + 1) c1 0 w1 hx (by simp) hb1 (by omega)).mono ?_
  rintro e w2 ⟨r, c, B, cb, ys, rfl, hy, hown, pk⟩
  replace bR := pk.box _ _ _ (by simp) (by decide) bR
  have hE := pk.ex w (((Ex.refl w).alloc _).trans hx) (by simp)
  have hs := hx.size
  simp only [World.size_alloc] at hs
  have cR := bR.cell
  have fR := bR.frozen
  clear hx pk hb1
  go_wp2_with fail
  refine bodyPost_ret (v := .agg #[.int .i64 r, .int .i64 c, .slice B ys.length cb]) (by simp [results, Try.results52, go_sem, *]) rfl ?_
  exact ⟨r, c, B, cb, ys, rfl, hy, (((hown.setBelow (by simp; omega) _).setBelow (by simp; omega) _).setBelow (by simp; omega) _).ints, ((hE.setCell (Nat.le_refl _) _).setCell (Nat.le_refl _) _).setCell (Nat.le_refl _) _⟩
end Go.Proofs.Ytploaldfkfjibaa
