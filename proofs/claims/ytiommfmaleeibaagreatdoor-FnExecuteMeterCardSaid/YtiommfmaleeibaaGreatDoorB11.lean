/-
  Proved: what functions compute, part 11. No condition.
-/
import Derived.Test.YtiommfmaleeibaaGreatDoorB10
import Derived.Test.YtiommfmaleeibaaGreatDoorB05
import Derived.Test.YtiommfmaleeibaaGreatDoorB01
import Derived.Laws.StructEq
import Derived.Deep.RegionWith
set_option linter.unusedSimpArgs false
set_option linter.unusedVariables false
set_option maxRecDepth 20000
set_option maxHeartbeats 8000000
namespace Go.Proofs.YtiommfmaleeibaaGreatDoor
section
open Go.RowKit

structure Sm (bs : Nat) (w w' : World) : Prop where
  ex : ∀ W, Ex W w → W.heap.size ≤ bs → Ex W w'
  box : ∀ b t cs, b ≠ bs → Box w b t cs → Box w' b t cs
  own : ∀ lo T k v n cs, T ≠ 92 → Own w lo T k v n cs → Own w' lo T k v n cs
  size : w.heap.size ≤ w'.heap.size
theorem Sm.of_ex {bs : Nat} {w w' : World} (h : Ex w w') : Sm bs w w' := ⟨fun _ hW _ => hW.trans h, fun _ _ _ _ hb => hb.ex h, fun _ _ _ _ _ _ _ ho => Own.ex ho h, h.size⟩
theorem Sm.refl (bs : Nat) (w : World) : Sm bs w w := Sm.of_ex (Ex.refl w)
theorem Sm.trans {bs : Nat} {w w1 w2 : World} (h : Sm bs w w1) (k : Sm bs w1 w2) : Sm bs w w2 :=
  ⟨fun W hW hl => k.ex W (h.ex W hW hl) hl, fun b t cs hne hb => k.box b t cs hne (h.box b t cs hne hb), fun _ _ _ _ _ _ hT ho => k.own _ _ _ _ _ _ hT (h.own _ _ _ _ _ _ hT ho), Nat.le_trans h.size k.size⟩
theorem Sm.set {bs : Nat} {w : World} {cs : Array Value} (hb : Box w bs 92 cs) (i : Nat) (u : Value) : Sm bs w (w.setCell ⟨bs, i, none⟩ u) :=
  ⟨fun W hW hl => hW.setCell (p := ⟨bs, i, none⟩) hl u, fun b t cs hne hb' => hb'.far (p := ⟨bs, i, none⟩) hne u,
   fun lo T k v n cs hT ho => Own.setCell (p := ⟨bs, i, none⟩) ho (fun g hg e => by subst e; exact Own.ne ho hb hT hg.symm) u, by simp⟩
theorem Sm.setNew {bs : Nat} {w w' : World} (h : Sm bs w w') {p : Addr} (hp : w.heap.size ≤ p.block) (u : Value) : Sm bs w (w'.setCell p u) :=
  ⟨fun W hW hl => (h.ex W hW hl).setCell (Nat.le_trans hW.size hp) u, fun b t cs hne hb => (h.box b t cs hne hb).far (by have := hb.lt; omega) u,
   fun lo T k v n cs hT ho => Own.setCell (h.own lo T k v n cs hT ho) (fun g hg e => by have := (Own.lt ho g hg).2; omega) u, by have := h.size; simpa using this⟩
theorem Sm.alloc {bs : Nat} {w w' : World} (h : Sm bs w w') (o : Obj) : Sm bs w (w'.alloc o) := h.trans (Sm.of_ex ((Ex.refl _).alloc o))

theorem Ud {x y z : Int} (h : (flow x y z).2 = false) : (flow x y z).1 = Fr.none := by
  unfold flow at h ⊢
  split
  · rename_i h2; rw [if_pos h2] at h; cases h
  · rfl
def Xe (bs : Nat) (bad : Bool) (w : World) (r : Fr × Bool) : Ending → World → Prop := fun e w' => e = .returned r.1.v ∧ Sm bs w w' ∧ Box w' bs 92 #[.bool (bad || !r.2)]
theorem Ur (bs : Nat) (bad : Bool) (r : Fr × Bool) (w : World) (hb : Box w bs 92 #[.bool bad]) (hn : r.2 = false → r.1 = Fr.none) :
    Calls Tryz.prog 115 #[.pointer (some ⟨bs, 0, none⟩), r.1.v, .bool r.2] w (Xe bs bad w r) := by
  obtain ⟨⟨r1, r2, r3⟩, ok⟩ := r
  show Calls _ _ #[_, .agg #[.int .i64 r1, .int .i64 r2, .int .i64 r3], .bool ok] _ _
  have c := hb.cell
  have f := hb.frozen
  have z := hb.lt
  rcases ok with _ | _
  · have hn' := hn rfl
    simp only [Fr.none, Fr.mk.injEq] at hn'
    obtain ⟨rfl, rfl, rfl⟩ := hn'
    clear hn
    go_enter Tryz.func115, Tryz.ntmps115
    go_wp2
    refine Kr (v := .agg #[.int .i64 0, .int .i64 0, .int .i64 0]) ?_ rfl ⟨rfl, ?_, ?_⟩
    · simp [results, Tryz.results115, go_sem]
    · exact ((Sm.set hb 0 _).alloc _).alloc _
    · have hs : Box _ bs 92 #[.bool true] := hb.set_ 0 (.bool true)
      have : (bad || !false) = true := by simp
      rw [this]
      exact (hs.alloc _).alloc _
  · clear hn
    go_enter Tryz.func115, Tryz.ntmps115
    go_wp2
    refine Kr (v := .agg #[.int .i64 r1, .int .i64 r2, .int .i64 r3]) ?_ rfl ⟨rfl, ?_, ?_⟩
    · simp [results, Tryz.results115, go_sem]
    · exact Sm.of_ex (by repeat' (with_reducible first | exact Ex.refl _ | assumption | apply Ex.alloc | apply Ex.drewN | apply Ex.drew | refine Ex.setCell ?_ (by simp <;> omega) _))
    · have : (bad || !true) = bad := by simp
      rw [this]
      exact hb.ex (by repeat' (with_reducible first | exact Ex.refl _ | assumption | apply Ex.alloc | apply Ex.drewN | apply Ex.drew | refine Ex.setCell ?_ (by simp <;> omega) _))
theorem Wj {a b : Fr} (h : (Za a b).2 = false) : (Za a b).1 = Fr.none := by
  unfold Za at h ⊢
  split
  · rename_i hv
    rw [if_pos hv] at h
    exact Ud h
  · rfl
theorem Vy (bs : Nat) (bad : Bool) (a b : Fr) (w : World) (hb : Box w bs 92 #[.bool bad]) :
    Calls Tryz.prog 53 #[.pointer (some ⟨bs, 0, none⟩), a.v, b.v] w (Xe bs bad w (Za a b)) := by
  have l1 := fun w => iFracAdd a b w
  have l2 := fun w hb => Ur bs bad (Za a b) w hb Wj
  generalize Za a b = r at l1 l2 ⊢
  obtain ⟨a1, a2, a3⟩ := a
  obtain ⟨b1, b2, b3⟩ := b
  obtain ⟨⟨r1, r2, r3⟩, ok⟩ := r
  show Calls _ _ #[_, .agg #[.int .i64 a1, .int .i64 a2, .int .i64 a3], .agg #[.int .i64 b1, .int .i64 b2, .int .i64 b3]] _ _
  have k1 : ∀ w, Calls Tryz.prog 119 #[.agg #[.int .i64 a1, .int .i64 a2, .int .i64 a3], .agg #[.int .i64 b1, .int .i64 b2, .int .i64 b3]] w _ := fun w => Yh.spell (l1 w)
  have k2 : ∀ w, Box w bs 92 #[.bool bad] → Calls Tryz.prog 115 #[.pointer (some ⟨bs, 0, none⟩), .agg #[.int .i64 r1, .int .i64 r2, .int .i64 r3], .bool ok] w fun e w' => e = .returned (.agg #[.int .i64 r1, .int .i64 r2, .int .i64 r3]) ∧ Sm bs w w' ∧ Box w' bs 92 #[.bool (bad || !ok)] := l2
  clear l1 l2
  have hbs := hb.lt
  go_enter Tryz.func53, Tryz.ntmps53
  go_wp2_with fail
  refine (k1 _).mono ?_
  rintro e w1 ⟨rfl, hx⟩
  have bR := (Box.new _ _ _).ex hx
  simp only [Kv] at bR
  replace hx := (((Ex.refl w).alloc _).alloc _ |>.alloc _).trans hx
  have zR := bR.lt
  go_wp2_with fail
  refine (k2 _ (hb.ex hx)).mono ?_
  rintro e w2 ⟨rfl, hsm, hb2⟩
  have bR2 := hsm.box _ _ _ (by omega) bR
  have cR := bR2.cell
  have fR := bR2.frozen
  clear bR hb
  go_wp2
  refine Kr (v := .agg #[.int .i64 r1, .int .i64 r2, .int .i64 r3]) ?_ rfl ⟨rfl, ?_, ?_⟩
  · simp [results, Tryz.results53, go_sem, cR]
  · repeat' (first
      | exact (Sm.of_ex hx).trans hsm
      | refine Sm.setNew ?_ (by simp <;> omega) _)
  · repeat' (first
      | exact hb2
      | refine Box.far ?_ (by simp <;> omega) _)
theorem Wo {a b : Fr} (h : (Xy a b).2 = false) : (Xy a b).1 = Fr.none := by
  unfold Xy at h ⊢
  split
  · rename_i hv
    rw [if_pos hv] at h
    exact Ud h
  · rfl
theorem Wf (bs : Nat) (bad : Bool) (a b : Fr) (w : World) (hb : Box w bs 92 #[.bool bad]) :
    Calls Tryz.prog 54 #[.pointer (some ⟨bs, 0, none⟩), a.v, b.v] w (Xe bs bad w (Xy a b)) := by
  have l1 := fun w => iFracLess a b w
  have l2 := fun w hb => Ur bs bad (Xy a b) w hb Wo
  generalize Xy a b = r at l1 l2 ⊢
  obtain ⟨a1, a2, a3⟩ := a
  obtain ⟨b1, b2, b3⟩ := b
  obtain ⟨⟨r1, r2, r3⟩, ok⟩ := r
  show Calls _ _ #[_, .agg #[.int .i64 a1, .int .i64 a2, .int .i64 a3], .agg #[.int .i64 b1, .int .i64 b2, .int .i64 b3]] _ _
  have k1 : ∀ w, Calls Tryz.prog 120 #[.agg #[.int .i64 a1, .int .i64 a2, .int .i64 a3], .agg #[.int .i64 b1, .int .i64 b2, .int .i64 b3]] w _ := fun w => Yh.spell (l1 w)
  have k2 : ∀ w, Box w bs 92 #[.bool bad] → Calls Tryz.prog 115 #[.pointer (some ⟨bs, 0, none⟩), .agg #[.int .i64 r1, .int .i64 r2, .int .i64 r3], .bool ok] w fun e w' => e = .returned (.agg #[.int .i64 r1, .int .i64 r2, .int .i64 r3]) ∧ Sm bs w w' ∧ Box w' bs 92 #[.bool (bad || !ok)] := l2
  clear l1 l2
  have hbs := hb.lt
  go_enter Tryz.func54, Tryz.ntmps54
  go_wp2_with fail
  refine (k1 _).mono ?_
  rintro e w1 ⟨rfl, hx⟩
  have bR := (Box.new _ _ _).ex hx
  simp only [Kv] at bR
  replace hx := (((Ex.refl w).alloc _).alloc _ |>.alloc _).trans hx
  have zR := bR.lt
  go_wp2_with fail
  refine (k2 _ (hb.ex hx)).mono ?_
  rintro e w2 ⟨rfl, hsm, hb2⟩
  have bR2 := hsm.box _ _ _ (by omega) bR
  have cR := bR2.cell
  have fR := bR2.frozen
  clear bR hb
  go_wp2
  refine Kr (v := .agg #[.int .i64 r1, .int .i64 r2, .int .i64 r3]) ?_ rfl ⟨rfl, ?_, ?_⟩
  · simp [results, Tryz.results54, go_sem, cR]
  · repeat' (first
      | exact (Sm.of_ex hx).trans hsm
      | refine Sm.setNew ?_ (by simp <;> omega) _)
  · repeat' (first
      | exact hb2
      | refine Box.far ?_ (by simp <;> omega) _)
theorem Nh {a b : Fr} (h : (Zu a b).2 = false) : (Zu a b).1 = Fr.none := by
  unfold Zu at h ⊢
  split
  · rename_i hv
    rw [if_pos hv] at h
    exact Ud h
  · rfl
theorem times_any (bs : Nat) (bad : Bool) (a b : Fr) (w : World) (hb : Box w bs 92 #[.bool bad]) :
    Calls Tryz.prog 49 #[.pointer (some ⟨bs, 0, none⟩), a.v, b.v] w (Xe bs bad w (Zu a b)) := by
  have l1 := fun w => Mg a b w
  have l2 := fun w hb => Ur bs bad (Zu a b) w hb Nh
  generalize Zu a b = r at l1 l2 ⊢
  obtain ⟨a1, a2, a3⟩ := a
  obtain ⟨b1, b2, b3⟩ := b
  obtain ⟨⟨r1, r2, r3⟩, ok⟩ := r
  show Calls _ _ #[_, .agg #[.int .i64 a1, .int .i64 a2, .int .i64 a3], .agg #[.int .i64 b1, .int .i64 b2, .int .i64 b3]] _ _
  have k1 : ∀ w, Calls Tryz.prog 117 #[.agg #[.int .i64 a1, .int .i64 a2, .int .i64 a3], .agg #[.int .i64 b1, .int .i64 b2, .int .i64 b3]] w _ := fun w => Yh.spell (l1 w)
  have k2 : ∀ w, Box w bs 92 #[.bool bad] → Calls Tryz.prog 115 #[.pointer (some ⟨bs, 0, none⟩), .agg #[.int .i64 r1, .int .i64 r2, .int .i64 r3], .bool ok] w fun e w' => e = .returned (.agg #[.int .i64 r1, .int .i64 r2, .int .i64 r3]) ∧ Sm bs w w' ∧ Box w' bs 92 #[.bool (bad || !ok)] := l2
  clear l1 l2
  have hbs := hb.lt
  go_enter Tryz.func49, Tryz.ntmps49
  go_wp2_with fail
  refine (k1 _).mono ?_
  rintro e w1 ⟨rfl, hx⟩
  have bR := (Box.new _ _ _).ex hx
  simp only [Kv] at bR
  replace hx := (((Ex.refl w).alloc _).alloc _ |>.alloc _).trans hx
  have zR := bR.lt
  go_wp2_with fail
  refine (k2 _ (hb.ex hx)).mono ?_
  rintro e w2 ⟨rfl, hsm, hb2⟩
  have bR2 := hsm.box _ _ _ (by omega) bR
  have cR := bR2.cell
  have fR := bR2.frozen
  clear bR hb
  go_wp2
  refine Kr (v := .agg #[.int .i64 r1, .int .i64 r2, .int .i64 r3]) ?_ rfl ⟨rfl, ?_, ?_⟩
  · simp [results, Tryz.results49, go_sem, cR]
  · repeat' (first
      | exact (Sm.of_ex hx).trans hsm
      | refine Sm.setNew ?_ (by simp <;> omega) _)
  · repeat' (first
      | exact hb2
      | refine Box.far ?_ (by simp <;> omega) _)
theorem Ss {a : Fr} (h : (Ze a).2 = false) : (Ze a).1 = Fr.none := by
  unfold Ze at h ⊢
  split
  · rename_i hv
    rw [if_pos hv] at h
    cases h
  · rfl
theorem mirror_any (bs : Nat) (bad : Bool) (a : Fr) (w : World) (hb : Box w bs 92 #[.bool bad]) :
    Calls Tryz.prog 50 #[.pointer (some ⟨bs, 0, none⟩), a.v] w (Xe bs bad w (Ze a)) := by
  have l1 := fun w => iFracMirror a w
  have l2 := fun w hb => Ur bs bad (Ze a) w hb Ss
  generalize Ze a = r at l1 l2 ⊢
  obtain ⟨a1, a2, a3⟩ := a
  obtain ⟨⟨r1, r2, r3⟩, ok⟩ := r
  show Calls _ _ #[_, .agg #[.int .i64 a1, .int .i64 a2, .int .i64 a3]] _ _
  have k1 : ∀ w, Calls Tryz.prog 118 #[.agg #[.int .i64 a1, .int .i64 a2, .int .i64 a3]] w _ := fun w => Yh.spell (l1 w)
  have k2 : ∀ w, Box w bs 92 #[.bool bad] → Calls Tryz.prog 115 #[.pointer (some ⟨bs, 0, none⟩), .agg #[.int .i64 r1, .int .i64 r2, .int .i64 r3], .bool ok] w fun e w' => e = .returned (.agg #[.int .i64 r1, .int .i64 r2, .int .i64 r3]) ∧ Sm bs w w' ∧ Box w' bs 92 #[.bool (bad || !ok)] := l2
  clear l1 l2
  have hbs := hb.lt
  go_enter Tryz.func50, Tryz.ntmps50
  go_wp2_with fail
  refine (k1 _).mono ?_
  rintro e w1 ⟨rfl, hx⟩
  have bR := (Box.new _ _ _).ex hx
  simp only [Kv] at bR
  replace hx := (((Ex.refl w).alloc _).alloc _).trans hx
  have zR := bR.lt
  go_wp2_with fail
  refine (k2 _ (hb.ex hx)).mono ?_
  rintro e w2 ⟨rfl, hsm, hb2⟩
  have bR2 := hsm.box _ _ _ (by omega) bR
  have cR := bR2.cell
  have fR := bR2.frozen
  clear bR hb
  go_wp2
  refine Kr (v := .agg #[.int .i64 r1, .int .i64 r2, .int .i64 r3]) ?_ rfl ⟨rfl, ?_, ?_⟩
  · simp [results, Tryz.results50, go_sem, cR]
  · repeat' (first
      | exact (Sm.of_ex hx).trans hsm
      | refine Sm.setNew ?_ (by simp <;> omega) _)
  · repeat' (first
      | exact hb2
      | refine Box.far ?_ (by simp <;> omega) _)
theorem Uq {a : Fr} (h : (Zj a).2 = false) : (Zj a).1 = Fr.none := by
  unfold Zj at h ⊢
  split
  · rename_i hv
    rw [if_pos hv] at h
    exact Ud h
  · rfl
theorem power_any (bs : Nat) (bad : Bool) (a : Fr) (w : World) (hb : Box w bs 92 #[.bool bad]) :
    Calls Tryz.prog 48 #[.pointer (some ⟨bs, 0, none⟩), a.v] w (Xe bs bad w (Zj a)) := by
  have l1 := fun w => iFracPower a w
  have l2 := fun w hb => Ur bs bad (Zj a) w hb Uq
  generalize Zj a = r at l1 l2 ⊢
  obtain ⟨a1, a2, a3⟩ := a
  obtain ⟨⟨r1, r2, r3⟩, ok⟩ := r
  show Calls _ _ #[_, .agg #[.int .i64 a1, .int .i64 a2, .int .i64 a3]] _ _
  have k1 : ∀ w, Calls Tryz.prog 116 #[.agg #[.int .i64 a1, .int .i64 a2, .int .i64 a3]] w _ := fun w => Yh.spell (l1 w)
  have k2 : ∀ w, Box w bs 92 #[.bool bad] → Calls Tryz.prog 115 #[.pointer (some ⟨bs, 0, none⟩), .agg #[.int .i64 r1, .int .i64 r2, .int .i64 r3], .bool ok] w fun e w' => e = .returned (.agg #[.int .i64 r1, .int .i64 r2, .int .i64 r3]) ∧ Sm bs w w' ∧ Box w' bs 92 #[.bool (bad || !ok)] := l2
  clear l1 l2
  have hbs := hb.lt
  go_enter Tryz.func48, Tryz.ntmps48
  go_wp2_with fail
  refine (k1 _).mono ?_
  rintro e w1 ⟨rfl, hx⟩
  have bR := (Box.new _ _ _).ex hx
  simp only [Kv] at bR
  replace hx := (((Ex.refl w).alloc _).alloc _).trans hx
  have zR := bR.lt
  go_wp2_with fail
  refine (k2 _ (hb.ex hx)).mono ?_
  rintro e w2 ⟨rfl, hsm, hb2⟩
  have bR2 := hsm.box _ _ _ (by omega) bR
  have cR := bR2.cell
  have fR := bR2.frozen
  clear bR hb
  go_wp2
  refine Kr (v := .agg #[.int .i64 r1, .int .i64 r2, .int .i64 r3]) ?_ rfl ⟨rfl, ?_, ?_⟩
  · simp [results, Tryz.results48, go_sem, cR]
  · repeat' (first
      | exact (Sm.of_ex hx).trans hsm
      | refine Sm.setNew ?_ (by simp <;> omega) _)
  · repeat' (first
      | exact hb2
      | refine Box.far ?_ (by simp <;> omega) _)
end
section
open Go.RowKit

class Zt (W w : World) (bs : outParam Nat) (bad : outParam Bool) (L : outParam (List (Nat × TypeId × Array Value))) : Prop where
 sm : Sm bs W w
 sum : Box w bs 92 #[.bool bad]
 boxes : Yr w L
 far : ∀ x ∈ L, x.1 ≠ bs
theorem Yr.sm {bs : Nat} {w w1 : World} (hs : Sm bs w w1) : ∀ {L : List (Nat × TypeId × Array Value)}, (∀ x ∈ L, x.1 ≠ bs) → Yr w L → Yr w1 L
 | [], _, _ => trivial
 | _ :: _, hf, h => ⟨hs.box _ _ _ (hf _ (.head _)) h.1, Yr.sm hs (fun x hx => hf x (.tail _ hx)) h.2⟩
theorem Yr.old {w : World} : ∀ {L : List (Nat × TypeId × Array Value)}, Yr w L → ∀ x ∈ L, x.1 < w.heap.size
 | [], _, _, hx => by cases hx
 | _ :: _, h, x, hx => by
  rcases List.mem_cons.1 hx with rfl | hx
  ·exact h.1.lt
  ·exact Yr.old h.2 x hx
section
variable {W w w1 : World} {bs n : Nat} {bad : Bool} {L : List (Nat × TypeId × Array Value)} {cs : Array Value} {t : TypeId}
instance Zt.start {b : Bool} [h : Zw W w L] : Zt W (w.alloc (.cells #[.bool b] 92)) w.heap.size b L :=
 ⟨Sm.of_ex (h.ex.alloc _), Box.new w _ _, Yr.ex ((Ex.refl w).alloc _) h.boxes, fun x hx => Nat.ne_of_lt (Yr.old h.boxes x hx)⟩
instance Zt.alloc [h : Zt W w bs bad L] : Zt W (w.alloc (.cells cs t)) bs bad ((w.heap.size, t, cs) :: L) :=
 ⟨h.sm.alloc _, h.sum.alloc _, ⟨Box.new w cs t, Yr.ex ((Ex.refl w).alloc _) h.boxes⟩, fun x hx => by
  rcases List.mem_cons.1 hx with rfl | hx
  ·exact (Nat.ne_of_lt h.sum.lt).symm
  ·exact h.far x hx⟩
instance Zt.drew [h : Zt W w bs bad L] : Zt W w.drew bs bad L := ⟨h.sm.trans (Sm.of_ex (Ex.refl w).drew), h.sum.drew, Yr.ex (Ex.refl w).drew h.boxes, h.far⟩
instance Zt.drewN [h : Zt W w bs bad L] : Zt W (w.drewN n) bs bad L := ⟨h.sm.trans (Sm.of_ex ((Ex.refl w).drewN n)), h.sum.ex ((Ex.refl w).drewN n), Yr.ex ((Ex.refl w).drewN n) h.boxes, h.far⟩
theorem Zt.rel (h : Zt W w bs bad L) (hl : W.heap.size ≤ bs) : Ex W w := h.sm.ex W (Ex.refl W) hl
theorem Zt.init (hb : Box w bs 92 #[.bool bad]) : Zt w w bs bad [] := ⟨Sm.refl _ _, hb, trivial, fun x hx => by cases hx⟩
theorem Zt.put {b : Nat} (h : Zt W w bs bad L) (hb : Box w b t cs) (hne : b ≠ bs) : Zt W w bs bad ((b, t, cs) :: L) := ⟨h.sm, h.sum, ⟨hb, h.boxes⟩, fun x hx => by
 rcases List.mem_cons.1 hx with rfl | hx
 ·exact hne
 ·exact h.far x hx⟩
theorem Zt.after [h : Zt W w bs bad L] (hx : Ex w w1) : Zt W w1 bs bad L :=
 ⟨h.sm.trans (Sm.of_ex hx), h.sum.ex hx, Yr.ex hx h.boxes, h.far⟩
theorem Zt.call {bad' : Bool} (h : Zt W w bs bad L) (hs : Sm bs w w1) (hb : Box w1 bs 92 #[.bool bad']) : Zt W w1 bs bad' L :=
 ⟨h.sm.trans hs, hb, Yr.sm hs h.far h.boxes, h.far⟩
theorem Zt.reads (h : Zt W w bs bad L) : Nj w ((bs, 92, #[.bool bad]) :: L) := ⟨h.sum.cell, h.sum.frozen, h.sum.lt, h.boxes.reads⟩
end

def SumR (W : World) (bs : Nat) (bad : Bool) (L : List (Nat × TypeId × Array Value)) (r : Fr × Bool) : Ending → World → Prop := fun e w' =>
 ∃ (x y z : Int) (ok : Bool), Hid ((⟨x, y, z⟩, ok) = r) ∧ e = .returned (.agg #[.int .i64 x, .int .i64 y, .int .i64 z]) ∧ Zt W w' bs (bad || !ok) L
theorem SumR.of {W w : World} {bs : Nat} {bad : Bool} {L : List (Nat × TypeId × Array Value)} (h : Zt W w bs bad L) {r : Fr × Bool} {f : FuncId} {args : Array Value} (hc : Calls Tryz.prog f args w (Xe bs bad w r)) : Calls Tryz.prog f args w (SumR W bs bad L r) := by
 obtain ⟨⟨x, y, z⟩, ok⟩ := r
 refine hc.mono ?_
 rintro e w' ⟨rfl, hs, hb⟩
 exact ⟨x, y, z, ok, rfl, rfl, h.call hs hb⟩
section
variable (W : World) {w : World} {bs : Nat} {bad : Bool} {L : List (Nat × TypeId × Array Value)} [h : Zt W w bs bad L] {a1 a2 a3 b1 b2 b3 : Int}
theorem Ms : Calls Tryz.prog 53 #[.pointer (some ⟨bs, 0, none⟩), .agg #[.int .i64 a1, .int .i64 a2, .int .i64 a3], .agg #[.int .i64 b1, .int .i64 b2, .int .i64 b3]] w (SumR W bs bad L (Za ⟨a1, a2, a3⟩ ⟨b1, b2, b3⟩)) := SumR.of h (Vy bs bad ⟨a1, a2, a3⟩ ⟨b1, b2, b3⟩ w h.sum)
theorem Vd : Calls Tryz.prog 49 #[.pointer (some ⟨bs, 0, none⟩), .agg #[.int .i64 a1, .int .i64 a2, .int .i64 a3], .agg #[.int .i64 b1, .int .i64 b2, .int .i64 b3]] w (SumR W bs bad L (Zu ⟨a1, a2, a3⟩ ⟨b1, b2, b3⟩)) := SumR.of h (times_any bs bad ⟨a1, a2, a3⟩ ⟨b1, b2, b3⟩ w h.sum)
end
theorem Uz (bs : Nat) (bad ok : Bool) (w : World) (hb : Box w bs 92 #[.bool bad]) :
  Calls Tryz.prog 46 #[.pointer (some ⟨bs, 0, none⟩), .bool ok] w fun e w' => e = .returned (.pointer (some ⟨bs, 0, none⟩)) ∧ Sm bs w w' ∧ Box w' bs 92 #[.bool (bad || !ok)] := by
 have c := hb.cell
 have f := hb.frozen
 have z := hb.lt
 rcases ok with _ | _
 ·go_enter Tryz.func46, Tryz.ntmps46
  go_wp2
  go_ret
  refine ⟨rfl, Sm.set hb 0 _, ?_⟩
  have hs : Box _ bs 92 #[.bool true] := hb.set_ 0 (.bool true)
  have : (bad || !false) = true := by simp
  rw [this]
  exact hs
 ·go_enter Tryz.func46, Tryz.ntmps46
  go_wp2
  go_ret
  refine ⟨rfl, Sm.refl _ _, ?_⟩
  have : (bad || !true) = bad := by simp
  rw [this]
  exact hb
def NeedR (W : World) (bs : Nat) (bad ok : Bool) (L : List (Nat × TypeId × Array Value)) : Ending → World → Prop := fun e w' => e = .returned (.pointer (some ⟨bs, 0, none⟩)) ∧ Zt W w' bs (bad || !ok) L
theorem Up (W : World) {w : World} {bs : Nat} {bad ok : Bool} {L : List (Nat × TypeId × Array Value)} [h : Zt W w bs bad L] :
  Calls Tryz.prog 46 #[.pointer (some ⟨bs, 0, none⟩), .bool ok] w (NeedR W bs bad ok L) := by
 refine (Uz bs bad ok w h.sum).mono ?_
 rintro e w' ⟨rfl, hs, hb⟩
 exact ⟨rfl, h.call hs hb⟩
theorem SumR.known {W w' : World} {bs : Nat} {bad : Bool} {L : List (Nat × TypeId × Array Value)} {r : Fr × Bool} {x y z : Int} {e : Ending} (h : SumR W bs bad L r e w') (hr : r = (⟨x, y, z⟩, true)) :
  e = .returned (.agg #[.int .i64 x, .int .i64 y, .int .i64 z]) ∧ Zt W w' bs bad L := by
 obtain ⟨a, b, c, ok, H, rfl, hs⟩ := h
 have e1 := H.out
 rw [hr] at e1
 simp only [Prod.mk.injEq, Fr.mk.injEq] at e1
 obtain ⟨⟨rfl, rfl, rfl⟩, rfl⟩ := e1
 refine ⟨rfl, ?_⟩
 have : (bad || !true) = bad := by simp
 rw [this] at hs
 exact hs
end
section
open Go.RowKit

section
variable {W w : World} {bs : Nat} {b : Bool} {L : List (Nat × TypeId × Array Value)} {a1 a2 a3 b1 b2 b3 x y z : Int} {k : Bool}
theorem Tu {r : Fr × Bool} {f : FuncId} {args : Array Value} (hB : Zt W w bs b L) (hc : Calls Tryz.prog f args w (Xe bs b w r)) (hr : r = (⟨x, y, z⟩, k)) :
  Calls Tryz.prog f args w fun e w' => e = .returned (.agg #[.int .i64 x, .int .i64 y, .int .i64 z]) ∧ Zt W w' bs (b || !k) L ∧ Sm bs w w' := by
 subst hr
 refine hc.mono ?_
 rintro e w' ⟨rfl, hs, hb⟩
 exact ⟨rfl, hB.call hs hb, hs⟩
theorem Mr (hB : Zt W w bs b L) (hr : Za ⟨a1, a2, a3⟩ ⟨b1, b2, b3⟩ = (⟨x, y, z⟩, k)) : Calls Tryz.prog 53 #[.pointer (some ⟨bs, 0, none⟩), .agg #[.int .i64 a1, .int .i64 a2, .int .i64 a3], .agg #[.int .i64 b1, .int .i64 b2, .int .i64 b3]] w fun e w' => e = .returned (.agg #[.int .i64 x, .int .i64 y, .int .i64 z]) ∧ Zt W w' bs (b || !k) L ∧ Sm bs w w' := Tu hB (Vy bs b ⟨a1, a2, a3⟩ ⟨b1, b2, b3⟩ w hB.sum) hr
theorem less_det (hB : Zt W w bs b L) (hr : Xy ⟨a1, a2, a3⟩ ⟨b1, b2, b3⟩ = (⟨x, y, z⟩, k)) : Calls Tryz.prog 54 #[.pointer (some ⟨bs, 0, none⟩), .agg #[.int .i64 a1, .int .i64 a2, .int .i64 a3], .agg #[.int .i64 b1, .int .i64 b2, .int .i64 b3]] w fun e w' => e = .returned (.agg #[.int .i64 x, .int .i64 y, .int .i64 z]) ∧ Zt W w' bs (b || !k) L ∧ Sm bs w w' := Tu hB (Wf bs b ⟨a1, a2, a3⟩ ⟨b1, b2, b3⟩ w hB.sum) hr
theorem Ye (hB : Zt W w bs b L) (hr : Zu ⟨a1, a2, a3⟩ ⟨b1, b2, b3⟩ = (⟨x, y, z⟩, k)) : Calls Tryz.prog 49 #[.pointer (some ⟨bs, 0, none⟩), .agg #[.int .i64 a1, .int .i64 a2, .int .i64 a3], .agg #[.int .i64 b1, .int .i64 b2, .int .i64 b3]] w fun e w' => e = .returned (.agg #[.int .i64 x, .int .i64 y, .int .i64 z]) ∧ Zt W w' bs (b || !k) L ∧ Sm bs w w' := Tu hB (times_any bs b ⟨a1, a2, a3⟩ ⟨b1, b2, b3⟩ w hB.sum) hr
theorem Wh (hB : Zt W w bs b L) (hr : Ze ⟨a1, a2, a3⟩ = (⟨x, y, z⟩, k)) : Calls Tryz.prog 50 #[.pointer (some ⟨bs, 0, none⟩), .agg #[.int .i64 a1, .int .i64 a2, .int .i64 a3]] w fun e w' => e = .returned (.agg #[.int .i64 x, .int .i64 y, .int .i64 z]) ∧ Zt W w' bs (b || !k) L ∧ Sm bs w w' := Tu hB (mirror_any bs b ⟨a1, a2, a3⟩ w hB.sum) hr
theorem Uc (hB : Zt W w bs b L) (hr : Zj ⟨a1, a2, a3⟩ = (⟨x, y, z⟩, k)) : Calls Tryz.prog 48 #[.pointer (some ⟨bs, 0, none⟩), .agg #[.int .i64 a1, .int .i64 a2, .int .i64 a3]] w fun e w' => e = .returned (.agg #[.int .i64 x, .int .i64 y, .int .i64 z]) ∧ Zt W w' bs (b || !k) L ∧ Sm bs w w' := Tu hB (power_any bs b ⟨a1, a2, a3⟩ w hB.sum) hr
end
theorem Zt.cast {W w : World} {bs bs' : Nat} {b : Bool} {L L' : List (Nat × TypeId × Array Value)} [h : Zt W w bs b L] (e1 : bs = bs') (e2 : L = L') : Zt W w bs' b L' := by
 subst e1 e2
 exact h
theorem Zw.cast {W w : World} {L L' : List (Nat × TypeId × Array Value)} [h : Zw W w L] (e2 : L = L') : Zw W w L' := by
 subst e2
 exact h
theorem Zw.drewW {W w : World} {L : List (Nat × TypeId × Array Value)} (h : Zw W w L) : Zw W { w with drawn := w.drawn + 1 } L := Zw.drew (h := h)
theorem Zw.go {W w w1 : World} {L : List (Nat × TypeId × Array Value)} (h : Zw W w L) (hx : Ex w w1) : Zw W w1 L := Zw.after (h := h) hx
theorem Zt.drewW {W w : World} {bs : Nat} {b : Bool} {L : List (Nat × TypeId × Array Value)} (h : Zt W w bs b L) : Zt W { w with drawn := w.drawn + 1 } bs b L := Zt.drew (h := h)
theorem Zt.ex {W w w1 : World} {bs : Nat} {b : Bool} {L : List (Nat × TypeId × Array Value)} (h : Zt W w bs b L) (hx : Ex w w1) : Zt W w1 bs b L := Zt.after (h := h) hx
theorem Vc (bs : Nat) (v0 v1 v2 v3 v4 v5 v6 v7 v8 v9 v10 v11 : Int) (w : World) (hb : Box w bs 92 #[.bool true]) : Calls Tryz.prog 95 #[.pointer (some ⟨bs, 0, none⟩), .agg #[.int .i64 v0, .int .i64 v1, .int .i64 v2, .int .i64 v3, .int .i64 v4, .int .i64 v5, .int .i64 v6, .int .i64 v7, .int .i64 v8, .int .i64 v9, .int .i64 v10, .int .i64 v11]] w fun e w' => e = .returned (.tuple #[.agg #[.int .i64 0, .int .i64 0, .int .i64 0, .int .i64 0, .int .i64 0, .int .i64 0, .int .i64 0, .int .i64 0, .int .i64 0, .int .i64 0, .int .i64 0, .int .i64 0], .bool false]) ∧ Ex w w' := by
 have c := hb.cell
 have z := hb.lt
 have ne1 : w.heap.size ≠ bs := Nat.ne_of_gt z
 have hS := Zw.refl w
 have hC := True.intro
 go_enter Tryz.func95, Tryz.ntmps95
 go_wp2
 refine Kr ?_ rfl ⟨rfl, ?_⟩
 ·simp [results, Tryz.results95, go_sem, hC]
 ·repeat' (with_reducible first | exact hS.ex | exact Ex.refl _ | assumption | apply Ex.alloc | apply Ex.drewN | apply Ex.drew | refine Ex.setCell ?_ (by simp <;> omega) _)
theorem Sp (bs : Nat) (v0 v1 v2 v3 v4 v5 v6 v7 v8 v9 v10 v11 : Int) (w : World) (hb : Box w bs 92 #[.bool false]) : Calls Tryz.prog 95 #[.pointer (some ⟨bs, 0, none⟩), .agg #[.int .i64 v0, .int .i64 v1, .int .i64 v2, .int .i64 v3, .int .i64 v4, .int .i64 v5, .int .i64 v6, .int .i64 v7, .int .i64 v8, .int .i64 v9, .int .i64 v10, .int .i64 v11]] w fun e w' => e = .returned (.tuple #[.agg #[.int .i64 v0, .int .i64 v1, .int .i64 v2, .int .i64 v3, .int .i64 v4, .int .i64 v5, .int .i64 v6, .int .i64 v7, .int .i64 v8, .int .i64 v9, .int .i64 v10, .int .i64 v11], .bool true]) ∧ Ex w w' := by
 have c := hb.cell
 have z := hb.lt
 have ne1 : w.heap.size ≠ bs := Nat.ne_of_gt z
 have hS := Zw.refl w
 have hC := True.intro
 go_enter Tryz.func95, Tryz.ntmps95
 go_wp2
 refine Kr ?_ rfl ⟨rfl, ?_⟩
 ·simp [results, Tryz.results95, go_sem, hC]
 ·repeat' (with_reducible first | exact hS.ex | exact Ex.refl _ | assumption | apply Ex.alloc | apply Ex.drewN | apply Ex.drew | refine Ex.setCell ?_ (by simp <;> omega) _)
theorem Rk (bs : Nat) (v0 v1 v2 v3 v4 v5 v6 v7 v8 v9 v10 v11 : Int) (w : World) (hb : Box w bs 92 #[.bool true]) : Calls Tryz.prog 52 #[.pointer (some ⟨bs, 0, none⟩), .agg #[.int .i64 v0, .int .i64 v1, .int .i64 v2, .int .i64 v3, .int .i64 v4, .int .i64 v5, .int .i64 v6, .int .i64 v7, .int .i64 v8, .int .i64 v9, .int .i64 v10, .int .i64 v11]] w fun e w' => e = .returned (.tuple #[.agg #[.int .i64 0, .int .i64 0, .int .i64 0, .int .i64 0, .int .i64 0, .int .i64 0, .int .i64 0, .int .i64 0, .int .i64 0, .int .i64 0, .int .i64 0, .int .i64 0], .bool false]) ∧ Ex w w' := by
 have c := hb.cell
 have z := hb.lt
 have ne1 : w.heap.size ≠ bs := Nat.ne_of_gt z
 have hS := Zw.refl w
 have hC := True.intro
 go_enter Tryz.func52, Tryz.ntmps52
 go_wp2
 refine Kr ?_ rfl ⟨rfl, ?_⟩
 ·simp [results, Tryz.results52, go_sem, hC]
 ·repeat' (with_reducible first | exact hS.ex | exact Ex.refl _ | assumption | apply Ex.alloc | apply Ex.drewN | apply Ex.drew | refine Ex.setCell ?_ (by simp <;> omega) _)
theorem Rt (bs : Nat) (v0 v1 v2 v3 v4 v5 v6 v7 v8 v9 v10 v11 : Int) (w : World) (hb : Box w bs 92 #[.bool false]) : Calls Tryz.prog 52 #[.pointer (some ⟨bs, 0, none⟩), .agg #[.int .i64 v0, .int .i64 v1, .int .i64 v2, .int .i64 v3, .int .i64 v4, .int .i64 v5, .int .i64 v6, .int .i64 v7, .int .i64 v8, .int .i64 v9, .int .i64 v10, .int .i64 v11]] w fun e w' => e = .returned (.tuple #[.agg #[.int .i64 v0, .int .i64 v1, .int .i64 v2, .int .i64 v3, .int .i64 v4, .int .i64 v5, .int .i64 v6, .int .i64 v7, .int .i64 v8, .int .i64 v9, .int .i64 v10, .int .i64 v11], .bool true]) ∧ Ex w w' := by
 have c := hb.cell
 have z := hb.lt
 have ne1 : w.heap.size ≠ bs := Nat.ne_of_gt z
 have hS := Zw.refl w
 have hC := True.intro
 go_enter Tryz.func52, Tryz.ntmps52
 go_wp2
 refine Kr ?_ rfl ⟨rfl, ?_⟩
 ·simp [results, Tryz.results52, go_sem, hC]
 ·repeat' (with_reducible first | exact hS.ex | exact Ex.refl _ | assumption | apply Ex.alloc | apply Ex.drewN | apply Ex.drew | refine Ex.setCell ?_ (by simp <;> omega) _)
end
section
open Go.RowKit

theorem Og {a b : Fr} (h : a.valid = false) : Ve a b = (Fr.none, false) := by simp [Ve, h]
theorem fover_no2 {a b : Fr} (h : b.valid = false) : Ve a b = (Fr.none, false) := by simp [Ve, h]
theorem fover_no3 {a b : Fr} (h : Om b = true) : Ve a b = (Fr.none, false) := by simp [Ve, h]
theorem fover_no4 {a b : Fr} (h : (Tj b).2 = false) : Ve a b = (Fr.none, false) := by
 unfold Ve
 split
 ·rw [h]; rfl
 ·rfl
theorem fover_ok {a b : Fr} (h1 : a.valid = true) (h2 : b.valid = true) (h3 : Om b = false) (h4 : (Tj b).2 = true) : Ve a b = Zu a (Tj b).1 := by simp [Ve, h1, h2, h3, h4]
theorem nul_one {b : Fr} (h : b.valid = true) (h3 : Om b = true) : b = ⟨0, 0, 1⟩ := by
 obtain ⟨-, -, h4, h5⟩ := Fr.valid_out h
 obtain ⟨b1, b2, b3⟩ := b
 simp only [Om, Bool.and_eq_true, decide_eq_true_eq] at h3
 obtain ⟨rfl, rfl⟩ := h3
 simp only at h4 h5
 unfold Xh at h5
 simp at h5
 have : b3 = 1 := by omega
 rw [this]
def JvGot (w : World) (r : (Fr × Fr) × Bool) : Ending → World → Prop := fun e w' => e = .returned (.tuple #[.agg #[.int .i64 r.1.1.re, .int .i64 r.1.1.im, .int .i64 r.1.1.den, .int .i64 r.1.2.re, .int .i64 r.1.2.im, .int .i64 r.1.2.den], .bool r.2]) ∧ Ex w w'
theorem iFracOver (a b : Fr) (w : World) [hG : Yc w] : Calls Tryz.prog 170 #[a.v, b.v] w (Yh w (Ve a b)) := by
 have k1 := fun w => Yk a.re a.im a.den w
 have k2 := fun w => Yk b.re b.im b.den w
 rcases h1 : a.valid with _ | _
 ·rw [Og h1]
  unfold Fr.valid at h1
  simp only [h1] at k1
  clear h1 k2
  have K1 := Kw k1
  clear k1
  obtain ⟨a1, a2, a3⟩ := a
  obtain ⟨b1, b2, b3⟩ := b
  show Calls _ _ #[.agg #[.int .i64 a1, .int .i64 a2, .int .i64 a3], .agg #[.int .i64 b1, .int .i64 b2, .int .i64 b3]] _ _
  have hS := Zw.refl w
  have hC := True.intro
  have hg := hG.reads
  go_enter Tryz.func170, Tryz.ntmps170
  go_wp2_with ((go_at_call 59; (with_reducible refine (K1.out _).mono ?_); rintro e wn ⟨rfl, hx⟩; replace hS := Zw.after (W := w) hx; replace hG := Yc.after hx; clear hx; replace hC := hS.reads; simp only [Zz, Zy, Kv] at hC; replace hg := hG.reads))
  refine Kr (v := frv (Fr.none, false)) ?_ rfl ⟨rfl, ?_⟩
  ·simp [results, Tryz.results170, go_sem, hC, frv, Fr.v, Fr.none]
  ·repeat' (with_reducible first | exact hS.ex | exact Ex.refl _ | assumption | apply Ex.alloc | apply Ex.drewN | apply Ex.drew | refine Ex.setCell ?_ (by simp <;> omega) _)
 ·rcases h2 : b.valid with _ | _
  ·rw [fover_no2 h2]
   unfold Fr.valid at h1 h2
   simp only [h1] at k1
   simp only [h2] at k2
   clear h1 h2
   have K1 := Kw k1
   have K2 := Kw k2
   clear k1 k2
   obtain ⟨a1, a2, a3⟩ := a
   obtain ⟨b1, b2, b3⟩ := b
   show Calls _ _ #[.agg #[.int .i64 a1, .int .i64 a2, .int .i64 a3], .agg #[.int .i64 b1, .int .i64 b2, .int .i64 b3]] _ _
   have hS := Zw.refl w
   have hC := True.intro
   have hg := hG.reads
   go_enter Tryz.func170, Tryz.ntmps170
   go_wp2_with ((go_at_call 59; (first | (with_reducible refine (K1.out _).mono ?_) | (with_reducible refine (K2.out _).mono ?_)); rintro e wn ⟨rfl, hx⟩; replace hS := Zw.after (W := w) hx; replace hG := Yc.after hx; clear hx; replace hC := hS.reads; simp only [Zz, Zy, Kv] at hC; replace hg := hG.reads))
   refine Kr (v := frv (Fr.none, false)) ?_ rfl ⟨rfl, ?_⟩
   ·simp [results, Tryz.results170, go_sem, hC, frv, Fr.v, Fr.none]
   ·repeat' (with_reducible first | exact hS.ex | exact Ex.refl _ | assumption | apply Ex.alloc | apply Ex.drewN | apply Ex.drew | refine Ex.setCell ?_ (by simp <;> omega) _)
  ·rcases h3 : Om b with _ | _
   ·rcases h4 : (Tj b).2 with _ | _
    ·rw [fover_no4 h4]
     have hn := sq_pos h3
     obtain ⟨⟨p1, p2⟩, ⟨p3, p4⟩, ⟨p5, p6⟩, -⟩ := Fr.valid_out h2
     have m1 := Xq (a := b.den) (b := b.re) (by omega) (by omega)
     have m2 := Xq (a := -b.den) (b := b.im) (by omega) (by omega)
     have m3 := Xq (a := b.re) (b := b.re) (by omega) (by omega)
     have m4 := Xq (a := b.im) (b := b.im) (by omega) (by omega)
     have kl := fun w => Wp (b.den * b.re) (-b.den * b.im) (b.re * b.re + b.im * b.im) w (by omega) (by omega) (by omega)
     change ∀ w, Calls _ _ _ w (Yh w (Tj b)) at kl
     have w1 := Kq (-b.den) (by omega)
     have hne : (b.re == 0 && b.im == 0) = false := by unfold Om at h3; simpa using h3
     generalize Tj b = t at kl h4
     obtain ⟨⟨t1, t2, t3⟩, tk⟩ := t
     simp only at h4
     subst h4
     replace kl := fun w => Yh.spell (kl w)
     unfold Fr.valid at h1 h2
     simp only [h1] at k1
     simp only [h2] at k2
     unfold Om at h3
     clear h1 h2 hn hne
     obtain ⟨a1, a2, a3⟩ := a
     obtain ⟨b1, b2, b3⟩ := b
     simp only at *
     show Calls _ _ #[.agg #[.int .i64 a1, .int .i64 a2, .int .i64 a3], .agg #[.int .i64 b1, .int .i64 b2, .int .i64 b3]] _ _
     by_cases hb : b1 = 0
     ·subst hb
      have hb2 : (b2 == 0) = false := by simpa using h3
      clear h3 m3
      simp only [Int.mul_zero, Int.zero_add] at kl m1
      generalize ex2 : -b3 * b2 = x2 at *
      generalize ex4 : b2 * b2 = x4 at *
      have K1 := Kw k1
      have K2 := Kw k2
      have KL := Kw kl
      clear k1 k2 kl
      have hS := Zw.refl w
      have hC := True.intro
      have hg := hG.reads
      go_enter Tryz.func170, Tryz.ntmps170
      go_wp2_with ((first | (go_at_call 59; (first | (with_reducible refine (K1.out _).mono ?_) | (with_reducible refine (K2.out _).mono ?_)); rintro e wn ⟨rfl, hx⟩; replace hS := Zw.after (W := w) hx; replace hG := Yc.after hx; clear hx; replace hC := hS.reads; simp only [Zz, Zy, Kv] at hC; replace hg := hG.reads) | (go_at_call 121; (with_reducible refine (KL.out _).mono ?_); rintro e wn ⟨rfl, hx⟩; replace hS := Zw.after (W := w) hx; replace hG := Yc.after hx; clear hx; replace hC := hS.reads; simp only [Zz, Zy, Kv] at hC; replace hg := hG.reads)))
      refine Kr (v := frv (Fr.none, false)) ?_ rfl ⟨rfl, ?_⟩
      ·simp [results, Tryz.results170, go_sem, hC, frv, Fr.v, Fr.none]
      ·repeat' (with_reducible first | exact hS.ex | exact Ex.refl _ | assumption | apply Ex.alloc | apply Ex.drewN | apply Ex.drew | refine Ex.setCell ?_ (by simp <;> omega) _)
     ·have hb2 : (b1 == 0) = false := by simpa using hb
      clear h3 hb
      generalize ex1 : b3 * b1 = x1 at *
      generalize ex2 : -b3 * b2 = x2 at *
      generalize ex3 : b1 * b1 = x3 at *
      generalize ex4 : b2 * b2 = x4 at *
      have K1 := Kw k1
      have K2 := Kw k2
      have KL := Kw kl
      clear k1 k2 kl
      have hS := Zw.refl w
      have hC := True.intro
      have hg := hG.reads
      go_enter Tryz.func170, Tryz.ntmps170
      go_wp2_with ((first | (go_at_call 59; (first | (with_reducible refine (K1.out _).mono ?_) | (with_reducible refine (K2.out _).mono ?_)); rintro e wn ⟨rfl, hx⟩; replace hS := Zw.after (W := w) hx; replace hG := Yc.after hx; clear hx; replace hC := hS.reads; simp only [Zz, Zy, Kv] at hC; replace hg := hG.reads) | (go_at_call 121; (with_reducible refine (KL.out _).mono ?_); rintro e wn ⟨rfl, hx⟩; replace hS := Zw.after (W := w) hx; replace hG := Yc.after hx; clear hx; replace hC := hS.reads; simp only [Zz, Zy, Kv] at hC; replace hg := hG.reads)))
      refine Kr (v := frv (Fr.none, false)) ?_ rfl ⟨rfl, ?_⟩
      ·simp [results, Tryz.results170, go_sem, hC, frv, Fr.v, Fr.none]
      ·repeat' (with_reducible first | exact hS.ex | exact Ex.refl _ | assumption | apply Ex.alloc | apply Ex.drewN | apply Ex.drew | refine Ex.setCell ?_ (by simp <;> omega) _)
    ·rw [fover_ok h1 h2 h3 h4]
     have hn := sq_pos h3
     obtain ⟨⟨p1, p2⟩, ⟨p3, p4⟩, ⟨p5, p6⟩, -⟩ := Fr.valid_out h2
     have m1 := Xq (a := b.den) (b := b.re) (by omega) (by omega)
     have m2 := Xq (a := -b.den) (b := b.im) (by omega) (by omega)
     have m3 := Xq (a := b.re) (b := b.re) (by omega) (by omega)
     have m4 := Xq (a := b.im) (b := b.im) (by omega) (by omega)
     have kl := fun w => Wp (b.den * b.re) (-b.den * b.im) (b.re * b.re + b.im * b.im) w (by omega) (by omega) (by omega)
     change ∀ w, Calls _ _ _ w (Yh w (Tj b)) at kl
     have w1 := Kq (-b.den) (by omega)
     have hne : (b.re == 0 && b.im == 0) = false := by unfold Om at h3; simpa using h3
     have kt := fun w => Mg a (Tj b).1 w
     generalize Zu a (Tj b).1 = u at kt ⊢
     generalize Tj b = t at kl h4 kt
     obtain ⟨⟨t1, t2, t3⟩, tk⟩ := t
     simp only at h4
     subst h4
     replace kl := fun w => Yh.spell (kl w)
     obtain ⟨⟨u1, u2, u3⟩, uk⟩ := u
     replace kt := fun w => Yh.spell (kt w)
     unfold Fr.valid at h1 h2
     simp only [h1] at k1
     simp only [h2] at k2
     unfold Om at h3
     clear h1 h2 hn hne
     obtain ⟨a1, a2, a3⟩ := a
     obtain ⟨b1, b2, b3⟩ := b
     simp only at *
     show Calls _ _ #[.agg #[.int .i64 a1, .int .i64 a2, .int .i64 a3], .agg #[.int .i64 b1, .int .i64 b2, .int .i64 b3]] _ _
     have KT : Hid (∀ w, Calls Tryz.prog 117 #[.agg #[.int .i64 a1, .int .i64 a2, .int .i64 a3], .agg #[.int .i64 t1, .int .i64 t2, .int .i64 t3]] w fun e w' => e = .returned (.tuple #[.agg #[.int .i64 u1, .int .i64 u2, .int .i64 u3], .bool uk]) ∧ Ex w w') := kt
     clear kt
     by_cases hb : b1 = 0
     ·subst hb
      have hb2 : (b2 == 0) = false := by simpa using h3
      clear h3 m3
      simp only [Int.mul_zero, Int.zero_add] at kl m1
      generalize ex2 : -b3 * b2 = x2 at *
      generalize ex4 : b2 * b2 = x4 at *
      have K1 := Kw k1
      have K2 := Kw k2
      have KL := Kw kl
      clear k1 k2 kl
      have hS := Zw.refl w
      have hC := True.intro
      have hg := hG.reads
      go_enter Tryz.func170, Tryz.ntmps170
      go_wp2_with ((first | (go_at_call 59; (first | (with_reducible refine (K1.out _).mono ?_) | (with_reducible refine (K2.out _).mono ?_)); rintro e wn ⟨rfl, hx⟩; replace hS := Zw.after (W := w) hx; replace hG := Yc.after hx; clear hx; replace hC := hS.reads; simp only [Zz, Zy, Kv] at hC; replace hg := hG.reads) | (go_at_call 121; (with_reducible refine (KL.out _).mono ?_); rintro e wn ⟨rfl, hx⟩; replace hS := Zw.after (W := w) hx; replace hG := Yc.after hx; clear hx; replace hC := hS.reads; simp only [Zz, Zy, Kv] at hC; replace hg := hG.reads) | (go_at_call 117; (with_reducible refine (KT.out _).mono ?_); rintro e wn ⟨rfl, hx⟩; replace hS := Zw.after (W := w) hx; replace hG := Yc.after hx; clear hx; replace hC := hS.reads; simp only [Zz, Zy, Kv] at hC; replace hg := hG.reads)))
      refine Kr (v := frv (⟨u1, u2, u3⟩, uk)) ?_ rfl ⟨rfl, ?_⟩
      ·simp [results, Tryz.results170, go_sem, hC, frv, Fr.v, Fr.none]
      ·repeat' (with_reducible first | exact hS.ex | exact Ex.refl _ | assumption | apply Ex.alloc | apply Ex.drewN | apply Ex.drew | refine Ex.setCell ?_ (by simp <;> omega) _)
     ·have hb2 : (b1 == 0) = false := by simpa using hb
      clear h3 hb
      generalize ex1 : b3 * b1 = x1 at *
      generalize ex2 : -b3 * b2 = x2 at *
      generalize ex3 : b1 * b1 = x3 at *
      generalize ex4 : b2 * b2 = x4 at *
      have K1 := Kw k1
      have K2 := Kw k2
      have KL := Kw kl
      clear k1 k2 kl
      have hS := Zw.refl w
      have hC := True.intro
      have hg := hG.reads
      go_enter Tryz.func170, Tryz.ntmps170
      go_wp2_with ((first | (go_at_call 59; (first | (with_reducible refine (K1.out _).mono ?_) | (with_reducible refine (K2.out _).mono ?_)); rintro e wn ⟨rfl, hx⟩; replace hS := Zw.after (W := w) hx; replace hG := Yc.after hx; clear hx; replace hC := hS.reads; simp only [Zz, Zy, Kv] at hC; replace hg := hG.reads) | (go_at_call 121; (with_reducible refine (KL.out _).mono ?_); rintro e wn ⟨rfl, hx⟩; replace hS := Zw.after (W := w) hx; replace hG := Yc.after hx; clear hx; replace hC := hS.reads; simp only [Zz, Zy, Kv] at hC; replace hg := hG.reads) | (go_at_call 117; (with_reducible refine (KT.out _).mono ?_); rintro e wn ⟨rfl, hx⟩; replace hS := Zw.after (W := w) hx; replace hG := Yc.after hx; clear hx; replace hC := hS.reads; simp only [Zz, Zy, Kv] at hC; replace hg := hG.reads)))
      refine Kr (v := frv (⟨u1, u2, u3⟩, uk)) ?_ rfl ⟨rfl, ?_⟩
      ·simp [results, Tryz.results170, go_sem, hC, frv, Fr.v, Fr.none]
      ·repeat' (with_reducible first | exact hS.ex | exact Ex.refl _ | assumption | apply Ex.alloc | apply Ex.drewN | apply Ex.drew | refine Ex.setCell ?_ (by simp <;> omega) _)
   ·rw [fover_no3 h3]
    obtain rfl := nul_one h2 h3
    unfold Fr.valid at h1
    have e2 : Zg 0 0 1 = true := h2
    simp only [h1] at k1
    simp only [e2] at k2
    clear h1 h2 h3 e2
    have K1 := Kw k1
    have K2 := Kw k2
    clear k1 k2
    obtain ⟨a1, a2, a3⟩ := a
    show Calls _ _ #[.agg #[.int .i64 a1, .int .i64 a2, .int .i64 a3], .agg #[.int .i64 0, .int .i64 0, .int .i64 1]] _ _
    have hS := Zw.refl w
    have hC := True.intro
    have hg := hG.reads
    go_enter Tryz.func170, Tryz.ntmps170
    go_wp2_with ((go_at_call 59; (first | (with_reducible refine (K1.out _).mono ?_) | (with_reducible refine (K2.out _).mono ?_)); rintro e wn ⟨rfl, hx⟩; replace hS := Zw.after (W := w) hx; replace hG := Yc.after hx; clear hx; replace hC := hS.reads; simp only [Zz, Zy, Kv] at hC; replace hg := hG.reads))
    refine Kr (v := frv (Fr.none, false)) ?_ rfl ⟨rfl, ?_⟩
    ·simp [results, Tryz.results170, go_sem, hC, frv, Fr.v, Fr.none]
    ·repeat' (with_reducible first | exact hS.ex | exact Ex.refl _ | assumption | apply Ex.alloc | apply Ex.drewN | apply Ex.drew | refine Ex.setCell ?_ (by simp <;> omega) _)
end
section
open Go.RowKit

structure Dr (bo : Nat) (w w' : World) : Prop where
  ex : ∀ W, Ex W w → W.heap.size ≤ bo → Ex W w'
  box : ∀ b t cs, b ≠ bo → Box w b t cs → Box w' b t cs
  own : ∀ lo e size v n cs, e ≠ 102 → Own w lo e size v n cs → Own w' lo e size v n cs
  size : w.heap.size ≤ w'.heap.size
theorem Dr.of_ex {bo : Nat} {w w' : World} (h : Ex w w') : Dr bo w w' := ⟨fun W hW _ => hW.trans h, fun _ _ _ _ hb => hb.ex h, fun _ _ _ _ _ _ _ ho => Own.ex ho h, h.size⟩
theorem Dr.refl (bo : Nat) (w : World) : Dr bo w w := Dr.of_ex (Ex.refl w)
theorem Dr.trans {bo : Nat} {w w1 w2 : World} (h : Dr bo w w1) (k : Dr bo w1 w2) : Dr bo w w2 :=
  ⟨fun W hW hl => k.ex W (h.ex W hW hl) hl, fun b t cs hne hb => k.box b t cs hne (h.box b t cs hne hb), fun _ _ _ _ _ _ he ho => k.own _ _ _ _ _ _ he (h.own _ _ _ _ _ _ he ho), Nat.le_trans h.size k.size⟩
theorem Dr.alloc {bo : Nat} {w w1 : World} (h : Dr bo w w1) (o : Obj) : Dr bo w (w1.alloc o) := h.trans (Dr.of_ex ((Ex.refl _).alloc o))
theorem Dr.setNew {bo : Nat} {w w1 : World} (h : Dr bo w w1) {p : Addr} (hp : w.heap.size ≤ p.block) (u : Value) : Dr bo w (w1.setCell p u) :=
  ⟨fun W hW hl => (h.ex W hW hl).setCell (Nat.le_trans hW.size hp) u, fun b t cs hne hb => (h.box b t cs hne hb).far (by have := hb.lt; omega) u,
   fun lo e size v n cs he ho => Own.setCell (h.own _ _ _ _ _ _ he ho) (fun g hg e => by have := (Own.lt ho g hg).2; omega) u, by have := h.size; simpa using this⟩
def Rdr (w : World) (bo : Nat) (A : Option Addr) (n cap a : Nat) : Prop := Box w bo 102 #[.slice A n cap, .int .i64 (a : Int)]
def PickD (m : Int) (bo : Nat) (A : Option Addr) (n cap a : Nat) (w : World) : Ending → World → Prop := fun e w' =>
  ∃ v : Int, e = .returned (.int .i64 v) ∧ 0 ≤ v ∧ v < m ∧ Dr bo w w' ∧ Rdr w' bo A n cap (a + 1)
theorem pick_dr {W : World} {A : Option Addr} {bs : List Int} (hB : Sz W A bs) (hl : bs.length ≤ 2000) (bo cap a : Nat) (m : Int) (w : World) (hE : Ex W w) (hbo : W.heap.size ≤ bo)
    (hb : Rdr w bo A bs.length cap a) (ha : a ≤ 1099511627776) (hm : 1 ≤ m) (hm2 : m ≤ 1099511627776) :
    Calls Tryz.prog 21 #[.pointer (some ⟨bo, 0, none⟩), .int .i64 m] w (PickD m bo A bs.length cap a w) := by
  refine (pick_any bo A bs cap a m w (hB.ex hE) hl hb ?_ ha hm hm2).mono ?_
  · intro b off hA hp
    obtain ⟨b', off', hA', hc⟩ := hB.at hp
    rw [hA] at hA'
    simp only [Option.some.injEq, Addr.mk.injEq, and_true] at hA'
    obtain ⟨rfl, rfl⟩ := hA'
    have := World.block_lt_of_cell? _ _ (hc 0 hp).1
    simp only at this
    omega
  · rintro e w' ⟨v, d, rfl, h0, h1, rfl⟩
    have hbs := hb.set_ 1 (.int .i64 ((a : Int) + 1))
    refine ⟨v, rfl, h0, h1, ⟨fun W' hW hw => (hW.setCell hw _).drewN d, fun b t cs h1 h3 => ?_, fun lo e size v n cs he ho => ?_, ?_⟩, ?_⟩
    · exact (h3.far (p := ⟨bo, 1, none⟩) h1 _).ex ((Ex.refl _).drewN d)
    · exact Own.ex (Own.setCell (p := ⟨bo, 1, none⟩) ho (fun g hg e => by subst e; exact Own.ne ho hb he hg.symm) _) ((Ex.refl _).drewN d)
    · simp
    · have := hbs.ex ((Ex.refl _).drewN d)
      unfold Rdr
      simpa using this
def LFrac (bo : Nat) (A : Option Addr) (n cap a : Nat) (w : World) : Ending → World → Prop := fun e w' =>
  ∃ (x : Fr) (a' : Nat), e = .returned x.v ∧ a' ≤ a + 5 ∧ Dr bo w w' ∧ Rdr w' bo A n cap a'
end
end Go.Proofs.YtiommfmaleeibaaGreatDoor
