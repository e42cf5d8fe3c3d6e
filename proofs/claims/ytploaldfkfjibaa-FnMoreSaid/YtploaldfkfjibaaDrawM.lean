/-
  Walks: the draw of a glass and a number.
-/
import Derived.Test.YtploaldfkfjibaaDrawH
import Derived.Deep.RegionHeld3
namespace Go.Proofs.Ytploaldfkfjibaa
open Go.RowKit

/-- What a law gets: a glass and a number. -/
def GotDrawN (w : World) (e : Ending) (w' : World) : Prop :=
  ∃ (r c : Int) (B : Option Addr) (cb : Nat) (ys : List Int) (n : Int), e = .returned (.tuple #[.agg #[.int .i64 r, .int .i64 c, .slice B ys.length cb], .int .i64 n]) ∧ ys.length ≤ 16 ∧ Ints w' B ys ∧ Ex w w'

/-- What holds between the two picks and the store, in whatever order they come. -/
structure PM (ks : Array Value) (N : Nat) (w : World) (A : Option Addr) (n cap : Nat) (b5 lo : Nat) (cs : Array Value) (B : Option Addr) (cb : Nat) (ys : List Int) (w' : World) : Prop where
  ex : Ex w w'
  rd : ∃ a : Nat, a ≤ N ∧ Box w' (w.heap.size + 1) 59 #[.slice A n cap, .int .i64 (a : Int)]
  bR : Box w' w.heap.size 27 ks
  b5 : Box w' b5 27 cs
  own : OwnI w' lo B cb ys
section
variable {ks : Array Value} {N : Nat} {w w' : World} {A : Option Addr} {n cap b5 lo : Nat} {cs : Array Value} {B : Option Addr} {cb : Nat} {ys : List Int}
theorem PM.drew (h : PM ks N w A n cap b5 lo cs B cb ys w') : PM ks N w A n cap b5 lo cs B cb ys w'.drew :=
  ⟨h.ex.drew, h.rd, h.bR, h.b5, h.own⟩
theorem PM.set (h : PM ks N w A n cap b5 lo cs B cb ys w') (h5 : w.heap.size < b5) (hlo : w.heap.size < lo) (i : Nat) (u : Value) : PM (ks.setIfInBounds i u) N w A n cap b5 lo cs B cb ys (w'.setCell ⟨w.heap.size, i, none⟩ u) := by
  obtain ⟨a, ha, hb⟩ := h.rd
  exact ⟨h.ex.setCell (Nat.le_refl _) u, ⟨a, ha, hb.far (by simp) u⟩, h.bR.set_ i u, h.b5.far (by simp; omega) u, h.own.setBelow hlo u⟩
theorem PM.frozen (h : PM ks N w A n cap b5 lo cs B cb ys w') : ∀ i, w'.frozen? ⟨w.heap.size, i, none⟩ = false := by
  exact h.bR.frozen
def PMR (ks : Array Value) (N : Nat) (w : World) (A : Option Addr) (n cap b5 lo : Nat) (cs : Array Value) (B : Option Addr) (cb : Nat) (ys : List Int) (m : Int) (e : Ending) (w' : World) : Prop :=
  ∃ v : Int, e = .returned (.int .i64 v) ∧ 0 ≤ v ∧ v < m ∧ PM ks N w A n cap b5 lo cs B cb ys w'
end
theorem pickPM {ks : Array Value} {N : Nat} {w : World} {A : Option Addr} {bs : List Int} {cap b5 lo : Nat} {cs : Array Value} {B : Option Addr} {cb : Nat} {ys : List Int} (hB : Byts w A bs) (hl : bs.length ≤ 2000) (h5 : w.heap.size + 1 < b5)
    (m : Int) (w' : World) (h : PM ks N w A bs.length cap b5 lo cs B cb ys w') (hN : N ≤ 1000000) (hm : 1 ≤ m) (hm2 : m ≤ 1099511627776) :
    Calls Try.prog 63 #[.pointer (some ⟨w.heap.size + 1, 0, none⟩), .int .i64 m] w' (PMR ks (N + 1) w A bs.length cap b5 lo cs B cb ys m) := by
  obtain ⟨a, ha, hb⟩ := h.rd
  refine (pick_draw hB hl (w.heap.size + 1) cap a m w' h.ex (by omega) hb (by omega) hm hm2).mono ?_
  rintro e w2 ⟨v, rfl, h0, h1, pk, hb2, ho, -⟩
  exact ⟨v, rfl, h0, h1, pk.ex w h.ex (by omega), ⟨a + 1, by omega, hb2⟩, pk.box _ _ _ (by omega) (by decide) h.bR, pk.box _ _ _ (by omega) (by decide) h.b5, ho _ _ _ _ h.own⟩

set_option maxHeartbeats 1000000 in
theorem drawGlassMore (A : Option Addr) (xs : List Int) (cap : Nat) (w : World) (hB : Byts w A xs) (hl : xs.length ≤ 9223372036854775807) (hcap : xs.length ≤ cap) (hcap2 : cap ≤ 9223372036854775807) :
    Calls Try.prog 35 #[.slice A xs.length cap] w (GotDrawN w) := by
  go_enter Try.func35, Try.ntmps35
  go_wp2_with fail
  refine (l6Open_any A xs cap _ (hB.alloc _) hl hcap hcap2).mono ?_
  rintro e w1 ⟨bs, c1, rfl, hB1, hl1, hb1, hx, hBW⟩
  have bR := (Box.new w _ _).ex hx
  have z := bR.lt
  simp only [World.size_alloc] at hb1
  go_wp2_with fail
  refine (l92Glass_draw hB1 hl1 (w.heap.size + 1) c1 0 w1 hx (by simp) hb1 (by omega)).mono ?_
  rintro e w2 ⟨r, c, B, cb, ys, a', rfl, hy, hown, pk, hb2, ha'⟩
  replace bR := pk.box _ _ _ (by simp) (by decide) bR
  have hs := hx.size
  simp only [World.size_alloc] at hs
  replace pk := (Pk.of_ex (bo := w.heap.size + 1) (((Ex.refl w).alloc _).trans hx)).trans pk
  have hE := pk.ex w (Ex.refl w) (by simp)
  have z2 : w.heap.size + 1 < w2.heap.size := hb2.lt
  clear hx hb1 z
  go_upto_region 3 with fail
  obtain ⟨W3, hW⟩ : ∃ W, W = w2.alloc (.cells #[.int .i64 r, .int .i64 c, .slice B ys.length cb] 27) := ⟨_, rfl⟩
  have hP : PM #[.int .i64 0, .int .i64 0, .slice none 0 0] 100 w A bs.length c1 w2.heap.size w1.heap.size #[.int .i64 r, .int .i64 c, .slice B ys.length cb] B cb ys W3 := by
    rw [hW]
    exact ⟨hE.alloc _, ⟨a', by omega, hb2.alloc _⟩, bR.alloc _, Box.new _ _ _, hown.alloc _⟩
  rw [← hW]
  have pp := fun (ks : Array Value) (N : Nat) (m : Int) (w' : World) => pickPM (ks := ks) (N := N) (cap := c1) (b5 := w2.heap.size) (lo := w1.heap.size) (cs := #[.int .i64 r, .int .i64 c, .slice B ys.length cb]) (B := B) (cb := cb) (ys := ys) (hBW w hB) hl1 z2 m w'
  clear hW hown hE pk hb2 bR hB1 hBW hB
  obtain ⟨b5, hb5, hw5⟩ : ∃ b, b = w2.heap.size ∧ w.heap.size < b := ⟨_, rfl, by omega⟩
  obtain ⟨lo, hlo, hlo5⟩ : ∃ b, b = w1.heap.size ∧ w.heap.size < b := ⟨_, rfl, by omega⟩
  rw [← hb5, ← hlo] at hP
  simp only [← hb5, ← hlo] at pp
  rw [← hb5]
  clear hb5 hlo hs z2 ha'
  have n1 : ¬ b5 = w.heap.size := by omega
  have n2 : ¬ w.heap.size = b5 := by omega
  have c5 := hP.b5.cell
  have q0 : W3.cell? ⟨b5, 0, none⟩ = some (.int .i64 r) := c5 0
  have q1 : W3.cell? ⟨b5, 1, none⟩ = some (.int .i64 c) := c5 1
  have q2 : W3.cell? ⟨b5, 2, none⟩ = some (.slice B ys.length cb) := c5 2
  have fz := hP.frozen
  have cR := hP.bR.cell
  clear c5
  go_region_held3 (fun w' => w'.cell? ⟨b5, 0, none⟩ = some (.int .i64 r) ∧ w'.cell? ⟨b5, 1, none⟩ = some (.int .i64 c) ∧ w'.cell? ⟨b5, 2, none⟩ = some (.slice B ys.length cb)) (go_keep) ((go_at_call 63; go_must ((refine (pp _ _ _ _ (by repeat' (first | exact hP | apply PM.drew | refine PM.set ?_ hw5 hlo5 _ _)) (by omega) (by omega) (by omega)).mono ?_; rintro e wn ⟨vn, rfl, hn0, hn1, hP⟩; have q0 : wn.cell? ⟨b5, 0, none⟩ = some (.int .i64 r) := hP.b5.cell 0; have q1 : wn.cell? ⟨b5, 1, none⟩ = some (.int .i64 c) := hP.b5.cell 1; have q2 : wn.cell? ⟨b5, 2, none⟩ = some (.slice B ys.length cb) := hP.b5.cell 2; have fz := hP.frozen; have cR := hP.bR.cell))))
  all_goals
    go_wp2_with fail
    generalize (IntKind.i64.wrap (IntKind.i64.wrap (_ - 4) + _)) = nn
    refine bodyPost_ret (v := .tuple #[.agg #[.int .i64 r, .int .i64 c, .slice B ys.length cb], .int .i64 nn]) (by simp [results, Try.results35, go_sem, *]) rfl ?_
    have hF := ((hP.set hw5 hlo5 0 (.int .i64 r)).set hw5 hlo5 1 (.int .i64 c)).set hw5 hlo5 2 (.slice B ys.length cb)
    exact ⟨r, c, B, cb, ys, nn, rfl, hy, hF.own.ints, hF.ex⟩
end Go.Proofs.Ytploaldfkfjibaa
