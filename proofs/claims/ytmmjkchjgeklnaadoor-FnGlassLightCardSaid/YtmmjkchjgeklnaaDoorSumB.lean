/-
  Walks: the methods of a reckoning that remembers whether something is none.
-/
import Derived.Test.YtmmjkchjgeklnaaDoorFrcY
import Derived.Test.YtmmjkchjgeklnaaDoorFrcO
namespace Go.Proofs.YtmmjkchjgeklnaaDoor
open Go.RowKit

/-- Only the block of a reckoning may have changed. -/
structure Sm (bs : Nat) (w w' : World) : Prop where
  ex : ∀ W, Ex W w → W.heap.size ≤ bs → Ex W w'
  box : ∀ b t cs, b ≠ bs → Box w b t cs → Box w' b t cs
  own : ∀ lo T k v n cs, T ≠ 75 → Own w lo T k v n cs → Own w' lo T k v n cs
  size : w.heap.size ≤ w'.heap.size
theorem Sm.of_ex {bs : Nat} {w w' : World} (h : Ex w w') : Sm bs w w' := ⟨fun _ hW _ => hW.trans h, fun _ _ _ _ hb => hb.ex h, fun _ _ _ _ _ _ _ ho => Own.ex ho h, h.size⟩
theorem Sm.refl (bs : Nat) (w : World) : Sm bs w w := Sm.of_ex (Ex.refl w)
theorem Sm.trans {bs : Nat} {w w1 w2 : World} (h : Sm bs w w1) (k : Sm bs w1 w2) : Sm bs w w2 :=
  ⟨fun W hW hl => k.ex W (h.ex W hW hl) hl, fun b t cs hne hb => k.box b t cs hne (h.box b t cs hne hb), fun _ _ _ _ _ _ hT ho => k.own _ _ _ _ _ _ hT (h.own _ _ _ _ _ _ hT ho), Nat.le_trans h.size k.size⟩
theorem Sm.set {bs : Nat} {w : World} {cs : Array Value} (hb : Box w bs 75 cs) (i : Nat) (u : Value) : Sm bs w (w.setCell ⟨bs, i, none⟩ u) :=
  ⟨fun W hW hl => hW.setCell (p := ⟨bs, i, none⟩) hl u, fun b t cs hne hb' => hb'.far (p := ⟨bs, i, none⟩) hne u,
   fun lo T k v n cs hT ho => Own.setCell (p := ⟨bs, i, none⟩) ho (fun g hg e => by subst e; exact Own.ne ho hb hT hg.symm) u, by simp⟩
theorem Sm.setNew {bs : Nat} {w w' : World} (h : Sm bs w w') {p : Addr} (hp : w.heap.size ≤ p.block) (u : Value) : Sm bs w (w'.setCell p u) :=
  ⟨fun W hW hl => (h.ex W hW hl).setCell (Nat.le_trans hW.size hp) u, fun b t cs hne hb => (h.box b t cs hne hb).far (by have := hb.lt; omega) u,
   fun lo T k v n cs hT ho => Own.setCell (h.own lo T k v n cs hT ho) (fun g hg e => by have := (Own.lt ho g hg).2; omega) u, by have := h.size; simpa using this⟩
theorem Sm.alloc {bs : Nat} {w w' : World} (h : Sm bs w w') (o : Obj) : Sm bs w (w'.alloc o) := h.trans (Sm.of_ex ((Ex.refl _).alloc o))

theorem flow_none {x y z : Int} (h : (flow x y z).2 = false) : (flow x y z).1 = Fr.none := by
  unfold flow at h ⊢
  split
  · rename_i h2; rw [if_pos h2] at h; cases h
  · rfl
def SumGot (bs : Nat) (bad : Bool) (w : World) (r : Fr × Bool) : Ending → World → Prop := fun e w' => e = .returned r.1.v ∧ Sm bs w w' ∧ Box w' bs 75 #[.bool (bad || !r.2)]
set_option maxHeartbeats 400000 in
theorem keep_any (bs : Nat) (bad : Bool) (r : Fr × Bool) (w : World) (hb : Box w bs 75 #[.bool bad]) (hn : r.2 = false → r.1 = Fr.none) :
    Calls Tryd.prog 72 #[.pointer (some ⟨bs, 0, none⟩), r.1.v, .bool r.2] w (SumGot bs bad w r) := by
  obtain ⟨⟨r1, r2, r3⟩, ok⟩ := r
  show Calls _ _ #[_, .agg #[.int .i64 r1, .int .i64 r2, .int .i64 r3], .bool ok] _ _
  have c := hb.cell
  have f := hb.frozen
  have z := hb.lt
  rcases ok with _ | _
  · have hn' := hn rfl
    simp only [Fr.none, Fr.mk.injEq] at hn'
    obtain ⟨rfl, rfl, rfl⟩ := hn'
    clear hn
    go_enter Tryd.func72, Tryd.ntmps72
    go_wp2
    refine bodyPost_ret (v := .agg #[.int .i64 0, .int .i64 0, .int .i64 0]) ?_ rfl ⟨rfl, ?_, ?_⟩
    · simp [results, Tryd.results72, go_sem]
    · exact ((Sm.set hb 0 _).alloc _).alloc _
    · have hs : Box _ bs 75 #[.bool true] := hb.set_ 0 (.bool true)
      have : (bad || !false) = true := by simp
      rw [this]
      exact (hs.alloc _).alloc _
  · clear hn
    go_enter Tryd.func72, Tryd.ntmps72
    go_wp2
    refine bodyPost_ret (v := .agg #[.int .i64 r1, .int .i64 r2, .int .i64 r3]) ?_ rfl ⟨rfl, ?_, ?_⟩
    · simp [results, Tryd.results72, go_sem]
    · exact Sm.of_ex (by repeat' (with_reducible first | exact Ex.refl _ | assumption | refine Ex.alloc ?_ _ | refine Ex.drewN ?_ _ | refine Ex.drew ?_ | refine Ex.setCell ?_ (by simp <;> omega) _))
    · have : (bad || !true) = bad := by simp
      rw [this]
      exact hb.ex (by repeat' (with_reducible first | exact Ex.refl _ | assumption | refine Ex.alloc ?_ _ | refine Ex.drewN ?_ _ | refine Ex.drew ?_ | refine Ex.setCell ?_ (by simp <;> omega) _))
theorem fadd2_none {a b : Fr} (h : (fadd2 a b).2 = false) : (fadd2 a b).1 = Fr.none := by
  unfold fadd2 at h ⊢
  split
  · rename_i hv
    rw [if_pos hv] at h
    exact flow_none h
  · rfl
set_option maxHeartbeats 400000 in
theorem add_any (bs : Nat) (bad : Bool) (a b : Fr) (w : World) (hb : Box w bs 75 #[.bool bad]) :
    Calls Tryd.prog 54 #[.pointer (some ⟨bs, 0, none⟩), a.v, b.v] w (SumGot bs bad w (fadd2 a b)) := by
  have l1 := fun w => iFracAdd a b w
  have l2 := fun w hb => keep_any bs bad (fadd2 a b) w hb fadd2_none
  generalize fadd2 a b = r at l1 l2 ⊢
  obtain ⟨a1, a2, a3⟩ := a
  obtain ⟨b1, b2, b3⟩ := b
  obtain ⟨⟨r1, r2, r3⟩, ok⟩ := r
  show Calls _ _ #[_, .agg #[.int .i64 a1, .int .i64 a2, .int .i64 a3], .agg #[.int .i64 b1, .int .i64 b2, .int .i64 b3]] _ _
  have k1 : ∀ w, Calls Tryd.prog 78 #[.agg #[.int .i64 a1, .int .i64 a2, .int .i64 a3], .agg #[.int .i64 b1, .int .i64 b2, .int .i64 b3]] w _ := fun w => FrGot.spell (l1 w)
  have k2 : ∀ w, Box w bs 75 #[.bool bad] → Calls Tryd.prog 72 #[.pointer (some ⟨bs, 0, none⟩), .agg #[.int .i64 r1, .int .i64 r2, .int .i64 r3], .bool ok] w fun e w' => e = .returned (.agg #[.int .i64 r1, .int .i64 r2, .int .i64 r3]) ∧ Sm bs w w' ∧ Box w' bs 75 #[.bool (bad || !ok)] := l2
  clear l1 l2
  have hbs := hb.lt
  go_enter Tryd.func54, Tryd.ntmps54
  go_wp2_with fail
  refine (k1 _).mono ?_
  rintro e w1 ⟨rfl, hx⟩
  have bR := (Box.new _ _ _).ex hx
  simp only [World.size_alloc] at bR
  replace hx := (((Ex.refl w).alloc _).alloc _ |>.alloc _).trans hx
  have zR := bR.lt
  go_wp2_with fail
  refine (k2 _ (hb.ex hx)).mono ?_
  rintro e w2 ⟨rfl, hsm, hb2⟩
  have bR2 := hsm.box _ _ _ (by omega) bR
  have cR := bR2.cell
  have fR := bR2.frozen
  clear bR hb
  go_wp2
  refine bodyPost_ret (v := .agg #[.int .i64 r1, .int .i64 r2, .int .i64 r3]) ?_ rfl ⟨rfl, ?_, ?_⟩
  · simp [results, Tryd.results54, go_sem, cR]
  · repeat' (first
      | exact (Sm.of_ex hx).trans hsm
      | refine Sm.setNew ?_ (by simp <;> omega) _)
  · repeat' (first
      | exact hb2
      | refine Box.far ?_ (by simp <;> omega) _)
theorem ftimes_none {a b : Fr} (h : (ftimes a b).2 = false) : (ftimes a b).1 = Fr.none := by
  unfold ftimes at h ⊢
  split
  · rename_i hv
    rw [if_pos hv] at h
    exact flow_none h
  · rfl
set_option maxHeartbeats 400000 in
theorem times_any (bs : Nat) (bad : Bool) (a b : Fr) (w : World) (hb : Box w bs 75 #[.bool bad]) :
    Calls Tryd.prog 46 #[.pointer (some ⟨bs, 0, none⟩), a.v, b.v] w (SumGot bs bad w (ftimes a b)) := by
  have l1 := fun w => iFracTimes a b w
  have l2 := fun w hb => keep_any bs bad (ftimes a b) w hb ftimes_none
  generalize ftimes a b = r at l1 l2 ⊢
  obtain ⟨a1, a2, a3⟩ := a
  obtain ⟨b1, b2, b3⟩ := b
  obtain ⟨⟨r1, r2, r3⟩, ok⟩ := r
  show Calls _ _ #[_, .agg #[.int .i64 a1, .int .i64 a2, .int .i64 a3], .agg #[.int .i64 b1, .int .i64 b2, .int .i64 b3]] _ _
  have k1 : ∀ w, Calls Tryd.prog 73 #[.agg #[.int .i64 a1, .int .i64 a2, .int .i64 a3], .agg #[.int .i64 b1, .int .i64 b2, .int .i64 b3]] w _ := fun w => FrGot.spell (l1 w)
  have k2 : ∀ w, Box w bs 75 #[.bool bad] → Calls Tryd.prog 72 #[.pointer (some ⟨bs, 0, none⟩), .agg #[.int .i64 r1, .int .i64 r2, .int .i64 r3], .bool ok] w fun e w' => e = .returned (.agg #[.int .i64 r1, .int .i64 r2, .int .i64 r3]) ∧ Sm bs w w' ∧ Box w' bs 75 #[.bool (bad || !ok)] := l2
  clear l1 l2
  have hbs := hb.lt
  go_enter Tryd.func46, Tryd.ntmps46
  go_wp2_with fail
  refine (k1 _).mono ?_
  rintro e w1 ⟨rfl, hx⟩
  have bR := (Box.new _ _ _).ex hx
  simp only [World.size_alloc] at bR
  replace hx := (((Ex.refl w).alloc _).alloc _ |>.alloc _).trans hx
  have zR := bR.lt
  go_wp2_with fail
  refine (k2 _ (hb.ex hx)).mono ?_
  rintro e w2 ⟨rfl, hsm, hb2⟩
  have bR2 := hsm.box _ _ _ (by omega) bR
  have cR := bR2.cell
  have fR := bR2.frozen
  clear bR hb
  go_wp2
  refine bodyPost_ret (v := .agg #[.int .i64 r1, .int .i64 r2, .int .i64 r3]) ?_ rfl ⟨rfl, ?_, ?_⟩
  · simp [results, Tryd.results46, go_sem, cR]
  · repeat' (first
      | exact (Sm.of_ex hx).trans hsm
      | refine Sm.setNew ?_ (by simp <;> omega) _)
  · repeat' (first
      | exact hb2
      | refine Box.far ?_ (by simp <;> omega) _)
theorem fmirror_none {a : Fr} (h : (fmirror a).2 = false) : (fmirror a).1 = Fr.none := by
  unfold fmirror at h ⊢
  split
  · rename_i hv
    rw [if_pos hv] at h
    cases h
  · rfl
set_option maxHeartbeats 400000 in
theorem mirror_any (bs : Nat) (bad : Bool) (a : Fr) (w : World) (hb : Box w bs 75 #[.bool bad]) :
    Calls Tryd.prog 76 #[.pointer (some ⟨bs, 0, none⟩), a.v] w (SumGot bs bad w (fmirror a)) := by
  have l1 := fun w => iFracMirror a w
  have l2 := fun w hb => keep_any bs bad (fmirror a) w hb fmirror_none
  generalize fmirror a = r at l1 l2 ⊢
  obtain ⟨a1, a2, a3⟩ := a
  obtain ⟨⟨r1, r2, r3⟩, ok⟩ := r
  show Calls _ _ #[_, .agg #[.int .i64 a1, .int .i64 a2, .int .i64 a3]] _ _
  have k1 : ∀ w, Calls Tryd.prog 86 #[.agg #[.int .i64 a1, .int .i64 a2, .int .i64 a3]] w _ := fun w => FrGot.spell (l1 w)
  have k2 : ∀ w, Box w bs 75 #[.bool bad] → Calls Tryd.prog 72 #[.pointer (some ⟨bs, 0, none⟩), .agg #[.int .i64 r1, .int .i64 r2, .int .i64 r3], .bool ok] w fun e w' => e = .returned (.agg #[.int .i64 r1, .int .i64 r2, .int .i64 r3]) ∧ Sm bs w w' ∧ Box w' bs 75 #[.bool (bad || !ok)] := l2
  clear l1 l2
  have hbs := hb.lt
  go_enter Tryd.func76, Tryd.ntmps76
  go_wp2_with fail
  refine (k1 _).mono ?_
  rintro e w1 ⟨rfl, hx⟩
  have bR := (Box.new _ _ _).ex hx
  simp only [World.size_alloc] at bR
  replace hx := (((Ex.refl w).alloc _).alloc _).trans hx
  have zR := bR.lt
  go_wp2_with fail
  refine (k2 _ (hb.ex hx)).mono ?_
  rintro e w2 ⟨rfl, hsm, hb2⟩
  have bR2 := hsm.box _ _ _ (by omega) bR
  have cR := bR2.cell
  have fR := bR2.frozen
  clear bR hb
  go_wp2
  refine bodyPost_ret (v := .agg #[.int .i64 r1, .int .i64 r2, .int .i64 r3]) ?_ rfl ⟨rfl, ?_, ?_⟩
  · simp [results, Tryd.results76, go_sem, cR]
  · repeat' (first
      | exact (Sm.of_ex hx).trans hsm
      | refine Sm.setNew ?_ (by simp <;> omega) _)
  · repeat' (first
      | exact hb2
      | refine Box.far ?_ (by simp <;> omega) _)
theorem fpower_none {a : Fr} (h : (fpower a).2 = false) : (fpower a).1 = Fr.none := by
  unfold fpower at h ⊢
  split
  · rename_i hv
    rw [if_pos hv] at h
    exact flow_none h
  · rfl
set_option maxHeartbeats 400000 in
theorem power_any (bs : Nat) (bad : Bool) (a : Fr) (w : World) (hb : Box w bs 75 #[.bool bad]) :
    Calls Tryd.prog 57 #[.pointer (some ⟨bs, 0, none⟩), a.v] w (SumGot bs bad w (fpower a)) := by
  have l1 := fun w => iFracPower a w
  have l2 := fun w hb => keep_any bs bad (fpower a) w hb fpower_none
  generalize fpower a = r at l1 l2 ⊢
  obtain ⟨a1, a2, a3⟩ := a
  obtain ⟨⟨r1, r2, r3⟩, ok⟩ := r
  show Calls _ _ #[_, .agg #[.int .i64 a1, .int .i64 a2, .int .i64 a3]] _ _
  have k1 : ∀ w, Calls Tryd.prog 79 #[.agg #[.int .i64 a1, .int .i64 a2, .int .i64 a3]] w _ := fun w => FrGot.spell (l1 w)
  have k2 : ∀ w, Box w bs 75 #[.bool bad] → Calls Tryd.prog 72 #[.pointer (some ⟨bs, 0, none⟩), .agg #[.int .i64 r1, .int .i64 r2, .int .i64 r3], .bool ok] w fun e w' => e = .returned (.agg #[.int .i64 r1, .int .i64 r2, .int .i64 r3]) ∧ Sm bs w w' ∧ Box w' bs 75 #[.bool (bad || !ok)] := l2
  clear l1 l2
  have hbs := hb.lt
  go_enter Tryd.func57, Tryd.ntmps57
  go_wp2_with fail
  refine (k1 _).mono ?_
  rintro e w1 ⟨rfl, hx⟩
  have bR := (Box.new _ _ _).ex hx
  simp only [World.size_alloc] at bR
  replace hx := (((Ex.refl w).alloc _).alloc _).trans hx
  have zR := bR.lt
  go_wp2_with fail
  refine (k2 _ (hb.ex hx)).mono ?_
  rintro e w2 ⟨rfl, hsm, hb2⟩
  have bR2 := hsm.box _ _ _ (by omega) bR
  have cR := bR2.cell
  have fR := bR2.frozen
  clear bR hb
  go_wp2
  refine bodyPost_ret (v := .agg #[.int .i64 r1, .int .i64 r2, .int .i64 r3]) ?_ rfl ⟨rfl, ?_, ?_⟩
  · simp [results, Tryd.results57, go_sem, cR]
  · repeat' (first
      | exact (Sm.of_ex hx).trans hsm
      | refine Sm.setNew ?_ (by simp <;> omega) _)
  · repeat' (first
      | exact hb2
      | refine Box.far ?_ (by simp <;> omega) _)
end Go.Proofs.YtmmjkchjgeklnaaDoor
