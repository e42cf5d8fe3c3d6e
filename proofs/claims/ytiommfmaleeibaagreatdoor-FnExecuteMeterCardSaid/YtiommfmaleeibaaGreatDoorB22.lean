/-
  Proved: what functions compute, part 22. No condition.
-/
import Derived.Test.YtiommfmaleeibaaGreatDoorB19
import Derived.Test.YtiommfmaleeibaaGreatDoorB21
set_option linter.unusedSimpArgs false
set_option linter.unusedVariables false
set_option maxRecDepth 20000
set_option maxHeartbeats 8000000
namespace Go.Proofs.YtiommfmaleeibaaGreatDoor
section
theorem Tg {s : Int} {a b : Fr} (h : (Yu s a b).2 = false) : (Yu s a b).1 = Fr.none := by
 unfold Yu at h ⊢
 split at h
 ·rename_i hv
  rw [if_pos hv]
  exact Mq h
 ·rename_i hv
  rw [if_neg hv]
theorem Vq {s : Int} {a b : Fr} (h : (Yu s a b).2 = true) : a.valid = true ∧ b.valid = true := by
 unfold Yu at h
 split at h
 ·rename_i hv
  simpa using hv
 ·cases h
theorem Lo {s : Int} {a b : Fr} (h : (Yu s a b).2 = true) : (Yu s a b).1.valid = true := by
 obtain ⟨h1, h2⟩ := Vq h
 have e : Yu s a b = flow (a.re * b.den + s * b.re * a.den) (a.im * b.den + s * b.im * a.den) (a.den * b.den) := by unfold Yu; rw [h1, h2]; rfl
 rw [e] at h ⊢
 obtain ⟨-, -, ⟨ad, -⟩, -⟩ := Fr.valid_out h1
 obtain ⟨-, -, ⟨bd, -⟩, -⟩ := Fr.valid_out h2
 exact Sw (Uh ad bd) h
theorem fsum_im {s : Int} {a b : Fr} (h : (Yu s a b).2 = true) (h1 : a.im = 0) (h2 : b.im = 0) : (Yu s a b).1.im = 0 := by
 obtain ⟨v1, v2⟩ := Vq h
 have e : Yu s a b = flow (a.re * b.den + s * b.re * a.den) (a.im * b.den + s * b.im * a.den) (a.den * b.den) := by unfold Yu; rw [v1, v2]; rfl
 rw [e, h1, h2]
 have e2 : 0 * b.den + s * 0 * a.den = 0 := by simp
 rw [e2]
 exact Pp
theorem fpair_self (x : Fr) : Zk x x = Zj x := by
 rw [fpower_times]
 unfold Zk
 rcases h : (Ze x).2 with _ | _
 ·rw [Ss h, Mc Wg]; rfl
 ·rfl
theorem Se {x : Fr} (h : (Zj x).2 = true) : (Zj x).1.valid = true ∧ (Zj x).1.im = 0 := fpower_valid h
theorem fpower_no {x : Fr} (h : (Zj x).2 = false) : (Zj x).1 = Fr.none := by
 unfold Zj at h ⊢
 split at h
 ·rename_i hv
  rw [if_pos hv]
  exact Mq h
 ·rename_i hv
  rw [if_neg hv]
theorem fhalf_none {x : Fr} (h : x.valid = false) : (Uo x).2 = false := by
 unfold Uo
 rw [Og h]
theorem tpart_half {a : Fr} (h : a.valid = true) (hi : a.im = 0) : We a 2 false = Uo a := by
 obtain ⟨-, -, ⟨ad, -⟩, -⟩ := Fr.valid_out h
 have e1 : Tj ⟨2, 0, 1⟩ = (⟨1, 0, 2⟩, true) := by decide
 have v2 : (⟨2, 0, 1⟩ : Fr).valid = true := by decide
 have v3 : (⟨1, 0, 2⟩ : Fr).valid = true := by decide
 have hn : Om ⟨2, 0, 1⟩ = false := by decide
 unfold Uo Ve
 rw [h, v2, hn, e1]
 simp only [Bool.not_false, Bool.and_self, if_true]
 unfold Zu We
 rw [h, v3, hi]
 simp only [Bool.and_self, if_true, Bool.false_eq_true, if_false]
 rw [Int.max_eq_right ad]
 congr 1 <;> simp
theorem tpart_re {a : Fr} (h : a.valid = true) : We a 1 false = Wz a := by
 obtain ⟨-, -, ⟨ad, -⟩, -⟩ := Fr.valid_out h
 unfold Wz We
 rw [h, Int.max_eq_right ad, Int.mul_one]
 rfl
theorem tpart_im {a : Fr} (h : a.valid = true) : We a 1 true = Wy a := by
 obtain ⟨-, -, ⟨ad, -⟩, -⟩ := Fr.valid_out h
 unfold Wy We
 rw [h, Int.max_eq_right ad, Int.mul_one]
 rfl
def Alk (x y : Fr × Bool) : Prop := x.2 = y.2 ∧ (y.2 = true → x.1 = y.1)
theorem Ph (s1 s2 s3 : Int) (a b c d : Fr) : Alk (Ob s1 s2 s3 a b c d) (Uo (Yu s3 (Yu s2 (Yu s1 (Zj a).1 (Zj b).1).1 (Zj c).1).1 (Zj d).1).1) := by
 unfold Ob
 simp only [fpair_self]
 rcases h3 : (Yu s3 (Yu s2 (Yu s1 (Zj a).1 (Zj b).1).1 (Zj c).1).1 (Zj d).1).2 with _ | _
 ·have e := fhalf_none (x := (Yu s3 (Yu s2 (Yu s1 (Zj a).1 (Zj b).1).1 (Zj c).1).1 (Zj d).1).1) (by rw [Tg h3]; exact Wg)
  refine ⟨?_, fun h => ?_⟩
  ·rw [e]; simp
  ·rw [e] at h; cases h
 ·obtain ⟨v2, vd⟩ := Vq h3
  have vs := Lo h3
  have h2 : (Yu s2 (Yu s1 (Zj a).1 (Zj b).1).1 (Zj c).1).2 = true := by
   cases h : (Yu s2 (Yu s1 (Zj a).1 (Zj b).1).1 (Zj c).1).2 with
   | true => rfl
   | false => rw [Tg h, Wg] at v2; cases v2
  obtain ⟨v1, vc⟩ := Vq h2
  have h1 : (Yu s1 (Zj a).1 (Zj b).1).2 = true := by
   cases h : (Yu s1 (Zj a).1 (Zj b).1).2 with
   | true => rfl
   | false => rw [Tg h, Wg] at v1; cases v1
  obtain ⟨va, vb⟩ := Vq h1
  have pw : ∀ x : Fr, (Zj x).1.valid = true → (Zj x).2 = true := fun x hx => by
   cases h : (Zj x).2 with
   | true => rfl
   | false => rw [fpower_no h, Wg] at hx; cases hx
  have ka := pw a va
  have kb := pw b vb
  have kc := pw c vc
  have kd := pw d vd
  have hi := fsum_im h3 (fsum_im h2 (fsum_im h1 (Se ka).2 (Se kb).2) (Se kc).2) (Se kd).2
  rw [tpart_half vs hi]
  refine ⟨?_, fun _ => rfl⟩
  rw [ka, kb, kc, kd, h1, h2]
  simp
theorem Vz (s : Int) (a b c d : Fr) : Alk (Wr s false a b c d) (Wz (Yu s (Zk a b).1 (Zk c d).1).1) ∧ Alk (Wr s true a b c d) (Wy (Yu s (Zk a b).1 (Zk c d).1).1) := by
 unfold Wr
 rcases h1 : (Yu s (Zk a b).1 (Zk c d).1).2 with _ | _
 ·have e1 : (Wz (Yu s (Zk a b).1 (Zk c d).1).1).2 = false := by rw [Tg h1]; rfl
  have e2 : (Wy (Yu s (Zk a b).1 (Zk c d).1).1).2 = false := by rw [Tg h1]; rfl
  refine ⟨⟨?_, fun h => ?_⟩, ⟨?_, fun h => ?_⟩⟩
  ·rw [e1]; simp
  ·rw [e1] at h; cases h
  ·rw [e2]; simp
  ·rw [e2] at h; cases h
 ·obtain ⟨va, vb⟩ := Vq h1
  have vs := Lo h1
  have pw : ∀ x y : Fr, (Zk x y).1.valid = true → (Zk x y).2 = true := fun x y hx => by
   cases h : (Zk x y).2 with
   | true => rfl
   | false => rw [Vr h, Wg] at hx; cases hx
  rw [pw a b va, pw c d vb, tpart_re vs, tpart_im vs]
  exact ⟨⟨by simp, fun _ => rfl⟩, ⟨by simp, fun _ => rfl⟩⟩
def Ln (a b c d : Fr) : List (Fr × Bool) := [Ob 1 1 1 a b c d, Ob (-1) 1 (-1) a b c d, Wr 1 false a b c d, Wr 1 true b a d c,
 Ob 1 (-1) (-1) a b c d, Ob (-1) (-1) 1 a b c d, Wr (-1) false a b c d, Wr (-1) true b a d c,
 Wr 1 false a c b d, Wr (-1) false a c b d, Wr 1 false a d b c, Wr (-1) true b c a d,
 Wr 1 true a c b d, Wr (-1) true a c b d, Wr 1 true a d b c, Wr (-1) false a d b c]
inductive Alks : List (Fr × Bool) → List (Fr × Bool) → Prop
 | nil : Alks [] []
 | cons {x y : Fr × Bool} {l m : List (Fr × Bool)} (h : Alk x y) (t : Alks l m) : Alks (x :: l) (y :: m)
theorem Alks.all {l m : List (Fr × Bool)} (h : Alks l m) : l.all (·.2) = m.all (·.2) ∧ (m.all (·.2) = true → l.map (·.1) = m.map (·.1)) := by
 induction h with
 | nil => exact ⟨rfl, fun _ => rfl⟩
 | cons h t ih =>
  refine ⟨?_, fun hm => ?_⟩
  ·simp only [List.all_cons, h.1, ih.1]
  ·simp only [List.all_cons, Bool.and_eq_true] at hm
   simp only [List.map_cons, h.2 hm.1, ih.2 hm.2]
theorem sCells_alks (a b c d : Fr) : Alks (Ln a b c d) (Tr a b c d (Zj a).1 (Zj b).1 (Zj c).1 (Zj d).1) := by
 unfold Ln Tr
 simp only [← Mh, ← fsum_less]
 exact .cons (Ph ..) (.cons (Ph ..) (.cons (Vz ..).1 (.cons (Vz ..).2 (.cons (Ph ..) (.cons (Ph ..) (.cons (Vz ..).1 (.cons (Vz ..).2
  (.cons (Vz ..).1 (.cons (Vz ..).1 (.cons (Vz ..).1 (.cons (Vz ..).2 (.cons (Vz ..).2 (.cons (Vz ..).2 (.cons (Vz ..).2 (.cons (Vz ..).1 .nil)))))))))))))))
theorem sTab_eq (m : M4) : (if m.valid && (Ln m.a m.b m.c m.d).all (·.2) then ((Ln m.a m.b m.c m.d).map (·.1), true) else (Wn 16, false)) = Xg m := by
 unfold Xg
 obtain ⟨h1, h2⟩ := (sCells_alks m.a m.b m.c m.d).all
 rw [h1]
 split
 ·rename_i h
  rw [h2 (by simp only [Bool.and_eq_true] at h; exact h.2)]
 ·rfl
theorem list_set3 (f : Fr) : ∀ (l : List Fr) (i : Nat), (((l.flatMap Ug).set (3 * i) (.int .i64 f.re)).set (3 * i + 1) (.int .i64 f.im)).set (3 * i + 2) (.int .i64 f.den) = (l.set i f).flatMap Ug
 | [], i => by simp
 | x :: l, 0 => by simp [Ug]
 | x :: l, i + 1 => by
  have ih := list_set3 f l i
  rw [show 3 * (i + 1) = 3 * i + 3 by omega, show 3 * i + 3 + 1 = 3 * i + 1 + 3 by omega, show 3 * i + 3 + 2 = 3 * i + 2 + 3 by omega]
  simp only [List.flatMap_cons, Ug, List.cons_append, List.nil_append, Ks]
  rw [← ih]
theorem Qa (l : List Fr) (i : Nat) (x y z : Int) : (((Zs l).setIfInBounds (3 * i) (.int .i64 x)).setIfInBounds (3 * i + 1) (.int .i64 y)).setIfInBounds (3 * i + 2) (.int .i64 z) = Zs (l.set i ⟨x, y, z⟩) := by
 unfold Zs
 rw [← list_set3 ⟨x, y, z⟩ l i]
 simp
end
section
open Go.RowKit

section
variable {w : World} {dst : Option Tmp} {ty : TypeId} {pos : String} {after : Array Edge} {ρ : Operand → Value} {x y : Operand} {g o : Nat} {u v z : Int} {p0 p1 p2 : Value}
theorem Pz (hx : ρ x = .pointer (some ⟨g, o, none⟩)) (hy : ρ y = .agg #[.int .i64 u, .int .i64 v, .int .i64 z]) (q0 : w.cell? ⟨g, o, none⟩ = some p0) (q1 : w.cell? ⟨g, o + 1, none⟩ = some p1) (q2 : w.cell? ⟨g, o + 2, none⟩ = some p2) (qf : ∀ i, w.frozen? ⟨g, i, none⟩ = false) {guard : Option (Nat × Bool)} :
  (execOp ρ { dst := dst, op := .store 30 x y, type := ty, pos := pos, after := after, guard := guard }).run Tryz.prog w = .ok .skip (((w.setCell ⟨g, o, none⟩ (.int .i64 u)).setCell ⟨g, o + 1, none⟩ (.int .i64 v)).setCell ⟨g, o + 2, none⟩ (.int .i64 z)) := by
 simp [execOp, go_sem, hx, hy, q0, q1, q2, qf]
end
theorem Sb : ∀ (l : List Fr) (i : Nat), i < l.length → ∃ p0 p1 p2, (l.flatMap Ug)[3 * i]? = some p0 ∧ (l.flatMap Ug)[3 * i + 1]? = some p1 ∧ (l.flatMap Ug)[3 * i + 2]? = some p2
 | [], i, h => by simp at h
 | x :: l, 0, h => ⟨_, _, _, by simp [Ug]; rfl, by simp [Ug]; rfl, by simp [Ug]; rfl⟩
 | x :: l, i + 1, h => by
  have ih := Sb l i (by simpa using h)
  rw [show 3 * (i + 1) = 3 * i + 3 by omega, show 3 * i + 3 + 1 = 3 * i + 1 + 3 by omega, show 3 * i + 3 + 2 = 3 * i + 2 + 3 by omega]
  simpa [Ug] using ih
theorem Zr.setF {W w : World} {bs g : Nat} {b : Bool} {t : TypeId} {l : List Fr} {L : List (Nat × TypeId × Array Value)} (h : Zr W w bs b ((g, t, Zs l) :: L)) (hg : W.heap.size ≤ g) (hne : ∀ x ∈ L, x.1 ≠ g) (i : Nat) (x y z : Int) :
  Zr W (((w.setCell ⟨g, 3 * i, none⟩ (.int .i64 x)).setCell ⟨g, 3 * i + 1, none⟩ (.int .i64 y)).setCell ⟨g, 3 * i + 2, none⟩ (.int .i64 z)) bs b ((g, t, Zs (l.set i ⟨x, y, z⟩)) :: L) := by
 have hb : g ≠ bs := h.far _ (.head _)
 refine ⟨((h.sm.setNew (p := ⟨g, _, none⟩) hg _).setNew (p := ⟨g, _, none⟩) hg _).setNew (p := ⟨g, _, none⟩) hg _, ((h.sum.far (p := ⟨g, _, none⟩) (Ne.symm hb) _).far (p := ⟨g, _, none⟩) (Ne.symm hb) _).far (p := ⟨g, _, none⟩) (Ne.symm hb) _, ⟨?_, ?_⟩, fun v hv => ?_⟩
 ·have h2 := ((h.boxes.1.set_ (3 * i) (.int .i64 x)).set_ (3 * i + 1) (.int .i64 y)).set_ (3 * i + 2) (.int .i64 z)
  rw [Qa] at h2
  exact h2
 ·have : ∀ {M : List (Nat × TypeId × Array Value)}, (∀ v ∈ M, v.1 ≠ g) → Yr w M → Yr (((w.setCell ⟨g, 3 * i, none⟩ (.int .i64 x)).setCell ⟨g, 3 * i + 1, none⟩ (.int .i64 y)).setCell ⟨g, 3 * i + 2, none⟩ (.int .i64 z)) M := by
   intro M
   induction M with
   | nil => exact fun _ _ => trivial
   | cons v M ih => exact fun hv hB => ⟨((hB.1.far (p := ⟨g, _, none⟩) (hv _ (.head _)) _).far (p := ⟨g, _, none⟩) (hv _ (.head _)) _).far (p := ⟨g, _, none⟩) (hv _ (.head _)) _, ih (fun u hu => hv u (.tail _ hu)) hB.2⟩
  exact this hne h.boxes.2
 ·rcases List.mem_cons.1 hv with rfl | hv
  ·exact hb
  ·exact h.far v (.tail _ hv)
theorem Zt.setF {W w : World} {bs g : Nat} {b : Bool} {t : TypeId} {l : List Fr} {L : List (Nat × TypeId × Array Value)} (h : Zt W w bs b ((g, t, Zs l) :: L)) (hg : W.heap.size ≤ g) (hne : ∀ x ∈ L, x.1 ≠ g) (i : Nat) (x y z : Int) :
  Zt W (((w.setCell ⟨g, 3 * i, none⟩ (.int .i64 x)).setCell ⟨g, 3 * i + 1, none⟩ (.int .i64 y)).setCell ⟨g, 3 * i + 2, none⟩ (.int .i64 z)) bs b ((g, t, Zs (l.set i ⟨x, y, z⟩)) :: L) := by
 have hb : g ≠ bs := h.far _ (.head _)
 refine ⟨((h.sm.setNew (p := ⟨g, _, none⟩) hg _).setNew (p := ⟨g, _, none⟩) hg _).setNew (p := ⟨g, _, none⟩) hg _, ((h.sum.far (p := ⟨g, _, none⟩) (Ne.symm hb) _).far (p := ⟨g, _, none⟩) (Ne.symm hb) _).far (p := ⟨g, _, none⟩) (Ne.symm hb) _, ⟨?_, ?_⟩, fun v hv => ?_⟩
 ·have h2 := ((h.boxes.1.set_ (3 * i) (.int .i64 x)).set_ (3 * i + 1) (.int .i64 y)).set_ (3 * i + 2) (.int .i64 z)
  rw [Qa] at h2
  exact h2
 ·have : ∀ {M : List (Nat × TypeId × Array Value)}, (∀ v ∈ M, v.1 ≠ g) → Yr w M → Yr (((w.setCell ⟨g, 3 * i, none⟩ (.int .i64 x)).setCell ⟨g, 3 * i + 1, none⟩ (.int .i64 y)).setCell ⟨g, 3 * i + 2, none⟩ (.int .i64 z)) M := by
   intro M
   induction M with
   | nil => exact fun _ _ => trivial
   | cons v M ih => exact fun hv hB => ⟨((hB.1.far (p := ⟨g, _, none⟩) (hv _ (.head _)) _).far (p := ⟨g, _, none⟩) (hv _ (.head _)) _).far (p := ⟨g, _, none⟩) (hv _ (.head _)) _, ih (fun u hu => hv u (.tail _ hu)) hB.2⟩
  exact this hne h.boxes.2
 ·rcases List.mem_cons.1 hv with rfl | hv
  ·exact hb
  ·exact h.far v (.tail _ hv)
theorem Zt.tail {W w : World} {bs : Nat} {b : Bool} {x : Nat × TypeId × Array Value} {L : List (Nat × TypeId × Array Value)} (h : Zt W w bs b (x :: L)) : Zt W w bs b L := ⟨h.sm, h.sum, h.boxes.2, fun y hy => h.far y (.tail _ hy)⟩
theorem Zr.tail {W w : World} {bs : Nat} {b : Bool} {x : Nat × TypeId × Array Value} {L : List (Nat × TypeId × Array Value)} (h : Zr W w bs b (x :: L)) : Zr W w bs b L := ⟨h.sm, h.sum, h.boxes.2, fun y hy => h.far y (.tail _ hy)⟩
theorem Uf {w : World} {g : Nat} {x : Array Value} : ∀ {L : List (Nat × TypeId × Array Value)}, (∀ y ∈ L, y.1 ≠ g) → Yr w L → Yr (w.setRow g x) L
 | [], _, _ => trivial
 | y :: L, h, hb => ⟨hb.1.setRow_far (h y (.head _)) x, Uf (fun z hz => h z (.tail _ hz)) hb.2⟩
theorem Zr.setRow {W w : World} {bs g : Nat} {b : Bool} {t : TypeId} {y : Array Value} {L : List (Nat × TypeId × Array Value)} (h : Zr W w bs b ((g, t, y) :: L)) (hg : W.heap.size ≤ g) (hne : ∀ x ∈ L, x.1 ≠ g) (x : Array Value) : Zr W (w.setRow g x) bs b ((g, t, x) :: L) :=
 ⟨h.sm.setRow hg x, h.sum.setRow_far (Ne.symm (h.far _ (.head _))) x, ⟨h.boxes.1.setRow x, Uf hne h.boxes.2⟩, fun v hv => by
  rcases List.mem_cons.1 hv with rfl | hv
  ·exact h.far (g, t, y) (.head _)
  ·exact h.far v (.tail _ hv)⟩
theorem Zt.set3 {W w : World} {bs g : Nat} {b : Bool} {t : TypeId} {p q r : Value} {L : List (Nat × TypeId × Array Value)} (h : Zt W w bs b ((g, t, #[p, q, r]) :: L)) (hg : W.heap.size ≤ g) (hne : ∀ x ∈ L, x.1 ≠ g) (x y z : Value) :
  Zt W (((w.setCell ⟨g, 0, none⟩ x).setCell ⟨g, 1, none⟩ y).setCell ⟨g, 2, none⟩ z) bs b ((g, t, #[x, y, z]) :: L) := by
 have hb : g ≠ bs := h.far _ (.head _)
 refine ⟨((h.sm.setNew (p := ⟨g, 0, none⟩) hg x).setNew (p := ⟨g, 1, none⟩) hg y).setNew (p := ⟨g, 2, none⟩) hg z, ((h.sum.far (p := ⟨g, 0, none⟩) (Ne.symm hb) x).far (p := ⟨g, 1, none⟩) (Ne.symm hb) y).far (p := ⟨g, 2, none⟩) (Ne.symm hb) z, ⟨?_, ?_⟩, fun v hv => ?_⟩
 ·have h2 := ((h.boxes.1.set_ 0 x).set_ 1 y).set_ 2 z
  simpa using h2
 ·have : ∀ {M : List (Nat × TypeId × Array Value)}, (∀ v ∈ M, v.1 ≠ g) → Yr w M → Yr (((w.setCell ⟨g, 0, none⟩ x).setCell ⟨g, 1, none⟩ y).setCell ⟨g, 2, none⟩ z) M := by
   intro M
   induction M with
   | nil => exact fun _ _ => trivial
   | cons v M ih => exact fun hv hB => ⟨((hB.1.far (p := ⟨g, 0, none⟩) (hv _ (.head _)) x).far (p := ⟨g, 1, none⟩) (hv _ (.head _)) y).far (p := ⟨g, 2, none⟩) (hv _ (.head _)) z, ih (fun u hu => hv u (.tail _ hu)) hB.2⟩
  exact this hne h.boxes.2
 ·rcases List.mem_cons.1 hv with rfl | hv
  ·exact hb
  ·exact h.far v (.tail _ hv)
section
variable {W w : World} {bs g i : Nat} {b : Bool} {t : TypeId} {l : List Fr} {L : List (Nat × TypeId × Array Value)} {ops : Array Oper} {rest : List Oper} {a : Act} {Q : Exit → Act → World → Prop} {x y : Operand} {u v z : Int} {ty : TypeId} {pos : String} {after : Array Edge}
theorem Rc {o : Oper} {w' : World} (hd : o.dst = none) (hg : o.guard = none) (hr : (execOp a.eval o).run Tryz.prog w = .ok .skip w') (h : wpList Tryz.prog ops Q rest a w') : wpList Tryz.prog ops Q (o :: rest) a w :=
 Sj (G := fun w2 => w2 = w') hd hg (Rf hr rfl) fun w2 e => e ▸ h
theorem Yo (h : Zr W w bs b ((g, t, Zs l) :: L)) (hg : W.heap.size ≤ g) (hne : ∀ x ∈ L, x.1 ≠ g) (i : Nat) (hi : i < l.length) (hx : a.eval x = .pointer (some ⟨g, 3 * i, none⟩)) (hy : a.eval y = .agg #[.int .i64 u, .int .i64 v, .int .i64 z])
  (hK : ∀ V, Zr W V bs b ((g, t, Zs (l.set i ⟨u, v, z⟩)) :: L) → wpList Tryz.prog ops Q rest a V) :
  wpList Tryz.prog ops Q ({ dst := none, op := .store 30 x y, type := ty, pos := pos, after := after, guard := none } :: rest) a w := by
 obtain ⟨p0, p1, p2, q0, q1, q2⟩ := Sb l i hi
 have hc := h.boxes.1.cell
 refine Rc rfl rfl (Pz hx hy ((hc _).trans (by simpa [Zs] using q0)) ((hc _).trans (by simpa [Zs] using q1)) ((hc _).trans (by simpa [Zs] using q2)) h.boxes.1.frozen) ?_
 exact hK _ (h.setF hg hne i u v z)
theorem Qh (h : Zt W w bs b ((g, t, Zs l) :: L)) (hg : W.heap.size ≤ g) (hne : ∀ x ∈ L, x.1 ≠ g) (i : Nat) (hi : i < l.length) (hx : a.eval x = .pointer (some ⟨g, 3 * i, none⟩)) (hy : a.eval y = .agg #[.int .i64 u, .int .i64 v, .int .i64 z])
  (hK : ∀ V, Zt W V bs b ((g, t, Zs (l.set i ⟨u, v, z⟩)) :: L) → wpList Tryz.prog ops Q rest a V) :
  wpList Tryz.prog ops Q ({ dst := none, op := .store 30 x y, type := ty, pos := pos, after := after, guard := none } :: rest) a w := by
 obtain ⟨p0, p1, p2, q0, q1, q2⟩ := Sb l i hi
 have hc := h.boxes.1.cell
 refine Rc rfl rfl (Pz hx hy ((hc _).trans (by simpa [Zs] using q0)) ((hc _).trans (by simpa [Zs] using q1)) ((hc _).trans (by simpa [Zs] using q2)) h.boxes.1.frozen) ?_
 exact hK _ (h.setF hg hne i u v z)
theorem Zw.setF {W w : World} {g : Nat} {t : TypeId} {l : List Fr} {L : List (Nat × TypeId × Array Value)} (h : Zw W w ((g, t, Zs l) :: L)) (hg : W.heap.size ≤ g) (hne : ∀ x ∈ L, x.1 ≠ g) (i : Nat) (x y z : Int) :
  Zw W (((w.setCell ⟨g, 3 * i, none⟩ (.int .i64 x)).setCell ⟨g, 3 * i + 1, none⟩ (.int .i64 y)).setCell ⟨g, 3 * i + 2, none⟩ (.int .i64 z)) ((g, t, Zs (l.set i ⟨x, y, z⟩)) :: L) := by
 refine ⟨((h.ex.setCell (p := ⟨g, _, none⟩) hg _).setCell (p := ⟨g, _, none⟩) hg _).setCell (p := ⟨g, _, none⟩) hg _, ?_, ?_⟩
 ·have h2 := ((h.boxes.1.set_ (3 * i) (.int .i64 x)).set_ (3 * i + 1) (.int .i64 y)).set_ (3 * i + 2) (.int .i64 z)
  rw [Qa] at h2
  exact h2
 ·have : ∀ {M : List (Nat × TypeId × Array Value)}, (∀ v ∈ M, v.1 ≠ g) → Yr w M → Yr (((w.setCell ⟨g, 3 * i, none⟩ (.int .i64 x)).setCell ⟨g, 3 * i + 1, none⟩ (.int .i64 y)).setCell ⟨g, 3 * i + 2, none⟩ (.int .i64 z)) M := by
   intro M
   induction M with
   | nil => exact fun _ _ => trivial
   | cons v M ih => exact fun hv hB => ⟨((hB.1.far (p := ⟨g, _, none⟩) (hv _ (.head _)) _).far (p := ⟨g, _, none⟩) (hv _ (.head _)) _).far (p := ⟨g, _, none⟩) (hv _ (.head _)) _, ih (fun u hu => hv u (.tail _ hu)) hB.2⟩
  exact this hne h.boxes.2
theorem wpList_storeE (h : Zw W w ((g, t, Zs l) :: L)) (hg : W.heap.size ≤ g) (hne : ∀ x ∈ L, x.1 ≠ g) (i : Nat) (hi : i < l.length) (hx : a.eval x = .pointer (some ⟨g, 3 * i, none⟩)) (hy : a.eval y = .agg #[.int .i64 u, .int .i64 v, .int .i64 z])
  (hK : ∀ V, Zw W V ((g, t, Zs (l.set i ⟨u, v, z⟩)) :: L) → wpList Tryz.prog ops Q rest a V) :
  wpList Tryz.prog ops Q ({ dst := none, op := .store 30 x y, type := ty, pos := pos, after := after, guard := none } :: rest) a w := by
 obtain ⟨p0, p1, p2, q0, q1, q2⟩ := Sb l i hi
 have hc := h.boxes.1.cell
 refine Rc rfl rfl (Pz hx hy ((hc _).trans (by simpa [Zs] using q0)) ((hc _).trans (by simpa [Zs] using q1)) ((hc _).trans (by simpa [Zs] using q2)) h.boxes.1.frozen) ?_
 exact hK _ (h.setF hg hne i u v z)
end
end
section
open Go.RowKit

attribute [local go_sem] Zi Zh
section
variable {W w : World} {bs : Nat} {b : Bool} {L : List (Nat × TypeId × Array Value)} {a1 a2 a3 b1 b2 b3 c1 c2 c3 d1 d2 d3 x y z s1 s2 s3 : Int} {k : Bool}
theorem powO (h1 : s1 = 1 ∨ s1 = -1) (h2 : s2 = 1 ∨ s2 = -1) (h3 : s3 = 1 ∨ s3 = -1) (hB : Zr W w bs (!b) L) (hr : Ob s1 s2 s3 ⟨a1, a2, a3⟩ ⟨b1, b2, b3⟩ ⟨c1, c2, c3⟩ ⟨d1, d2, d3⟩ = (⟨x, y, z⟩, k)) : Calls Tryz.prog 111 #[.pointer (some ⟨bs, 0, none⟩), .agg #[.int .i64 a1, .int .i64 a2, .int .i64 a3, .int .i64 b1, .int .i64 b2, .int .i64 b3, .int .i64 c1, .int .i64 c2, .int .i64 c3, .int .i64 d1, .int .i64 d2, .int .i64 d3], .int .i64 s1, .int .i64 s2, .int .i64 s3] w fun e w' => e = .returned (.agg #[.int .i64 x, .int .i64 y, .int .i64 z]) ∧ Zr W w' bs (!(b || !k)) L ∧ SmO bs w w' := Od hB (l6tPowers_any bs b ⟨a1, a2, a3⟩ ⟨b1, b2, b3⟩ ⟨c1, c2, c3⟩ ⟨d1, d2, d3⟩ s1 s2 s3 h1 h2 h3 w hB.sum) hr
theorem Pd (h1 : s1 = 1 ∨ s1 = -1) (hB : Zr W w bs (!b) L) (hr : Wr s1 false ⟨a1, a2, a3⟩ ⟨b1, b2, b3⟩ ⟨c1, c2, c3⟩ ⟨d1, d2, d3⟩ = (⟨x, y, z⟩, k)) : Calls Tryz.prog 112 #[.pointer (some ⟨bs, 0, none⟩), .agg #[.int .i64 a1, .int .i64 a2, .int .i64 a3, .int .i64 b1, .int .i64 b2, .int .i64 b3, .int .i64 c1, .int .i64 c2, .int .i64 c3, .int .i64 d1, .int .i64 d2, .int .i64 d3], .int .i64 0, .int .i64 1, .int .i64 s1, .int .i64 2, .int .i64 3, .bool false] w fun e w' => e = .returned (.agg #[.int .i64 x, .int .i64 y, .int .i64 z]) ∧ Zr W w' bs (!(b || !k)) L ∧ SmO bs w w' := Od hB (Lz bs b ⟨a1, a2, a3⟩ ⟨b1, b2, b3⟩ ⟨c1, c2, c3⟩ ⟨d1, d2, d3⟩ s1 h1 w hB.sum) hr
theorem Pb (h1 : s1 = 1 ∨ s1 = -1) (hB : Zr W w bs (!b) L) (hr : Wr s1 true ⟨b1, b2, b3⟩ ⟨a1, a2, a3⟩ ⟨d1, d2, d3⟩ ⟨c1, c2, c3⟩ = (⟨x, y, z⟩, k)) : Calls Tryz.prog 112 #[.pointer (some ⟨bs, 0, none⟩), .agg #[.int .i64 a1, .int .i64 a2, .int .i64 a3, .int .i64 b1, .int .i64 b2, .int .i64 b3, .int .i64 c1, .int .i64 c2, .int .i64 c3, .int .i64 d1, .int .i64 d2, .int .i64 d3], .int .i64 1, .int .i64 0, .int .i64 s1, .int .i64 3, .int .i64 2, .bool true] w fun e w' => e = .returned (.agg #[.int .i64 x, .int .i64 y, .int .i64 z]) ∧ Zr W w' bs (!(b || !k)) L ∧ SmO bs w w' := Od hB (Ly bs b ⟨a1, a2, a3⟩ ⟨b1, b2, b3⟩ ⟨c1, c2, c3⟩ ⟨d1, d2, d3⟩ s1 h1 w hB.sum) hr
theorem Pa (h1 : s1 = 1 ∨ s1 = -1) (hB : Zr W w bs (!b) L) (hr : Wr s1 false ⟨a1, a2, a3⟩ ⟨c1, c2, c3⟩ ⟨b1, b2, b3⟩ ⟨d1, d2, d3⟩ = (⟨x, y, z⟩, k)) : Calls Tryz.prog 112 #[.pointer (some ⟨bs, 0, none⟩), .agg #[.int .i64 a1, .int .i64 a2, .int .i64 a3, .int .i64 b1, .int .i64 b2, .int .i64 b3, .int .i64 c1, .int .i64 c2, .int .i64 c3, .int .i64 d1, .int .i64 d2, .int .i64 d3], .int .i64 0, .int .i64 2, .int .i64 s1, .int .i64 1, .int .i64 3, .bool false] w fun e w' => e = .returned (.agg #[.int .i64 x, .int .i64 y, .int .i64 z]) ∧ Zr W w' bs (!(b || !k)) L ∧ SmO bs w w' := Od hB (Lx bs b ⟨a1, a2, a3⟩ ⟨b1, b2, b3⟩ ⟨c1, c2, c3⟩ ⟨d1, d2, d3⟩ s1 h1 w hB.sum) hr
theorem Oz (h1 : s1 = 1 ∨ s1 = -1) (hB : Zr W w bs (!b) L) (hr : Wr s1 false ⟨a1, a2, a3⟩ ⟨d1, d2, d3⟩ ⟨b1, b2, b3⟩ ⟨c1, c2, c3⟩ = (⟨x, y, z⟩, k)) : Calls Tryz.prog 112 #[.pointer (some ⟨bs, 0, none⟩), .agg #[.int .i64 a1, .int .i64 a2, .int .i64 a3, .int .i64 b1, .int .i64 b2, .int .i64 b3, .int .i64 c1, .int .i64 c2, .int .i64 c3, .int .i64 d1, .int .i64 d2, .int .i64 d3], .int .i64 0, .int .i64 3, .int .i64 s1, .int .i64 1, .int .i64 2, .bool false] w fun e w' => e = .returned (.agg #[.int .i64 x, .int .i64 y, .int .i64 z]) ∧ Zr W w' bs (!(b || !k)) L ∧ SmO bs w w' := Od hB (Lw bs b ⟨a1, a2, a3⟩ ⟨b1, b2, b3⟩ ⟨c1, c2, c3⟩ ⟨d1, d2, d3⟩ s1 h1 w hB.sum) hr
theorem twoO_1203_im (h1 : s1 = 1 ∨ s1 = -1) (hB : Zr W w bs (!b) L) (hr : Wr s1 true ⟨b1, b2, b3⟩ ⟨c1, c2, c3⟩ ⟨a1, a2, a3⟩ ⟨d1, d2, d3⟩ = (⟨x, y, z⟩, k)) : Calls Tryz.prog 112 #[.pointer (some ⟨bs, 0, none⟩), .agg #[.int .i64 a1, .int .i64 a2, .int .i64 a3, .int .i64 b1, .int .i64 b2, .int .i64 b3, .int .i64 c1, .int .i64 c2, .int .i64 c3, .int .i64 d1, .int .i64 d2, .int .i64 d3], .int .i64 1, .int .i64 2, .int .i64 s1, .int .i64 0, .int .i64 3, .bool true] w fun e w' => e = .returned (.agg #[.int .i64 x, .int .i64 y, .int .i64 z]) ∧ Zr W w' bs (!(b || !k)) L ∧ SmO bs w w' := Od hB (Lv bs b ⟨a1, a2, a3⟩ ⟨b1, b2, b3⟩ ⟨c1, c2, c3⟩ ⟨d1, d2, d3⟩ s1 h1 w hB.sum) hr
theorem Oy (h1 : s1 = 1 ∨ s1 = -1) (hB : Zr W w bs (!b) L) (hr : Wr s1 true ⟨a1, a2, a3⟩ ⟨c1, c2, c3⟩ ⟨b1, b2, b3⟩ ⟨d1, d2, d3⟩ = (⟨x, y, z⟩, k)) : Calls Tryz.prog 112 #[.pointer (some ⟨bs, 0, none⟩), .agg #[.int .i64 a1, .int .i64 a2, .int .i64 a3, .int .i64 b1, .int .i64 b2, .int .i64 b3, .int .i64 c1, .int .i64 c2, .int .i64 c3, .int .i64 d1, .int .i64 d2, .int .i64 d3], .int .i64 0, .int .i64 2, .int .i64 s1, .int .i64 1, .int .i64 3, .bool true] w fun e w' => e = .returned (.agg #[.int .i64 x, .int .i64 y, .int .i64 z]) ∧ Zr W w' bs (!(b || !k)) L ∧ SmO bs w w' := Od hB (Lu bs b ⟨a1, a2, a3⟩ ⟨b1, b2, b3⟩ ⟨c1, c2, c3⟩ ⟨d1, d2, d3⟩ s1 h1 w hB.sum) hr
theorem twoO_0312_im (h1 : s1 = 1 ∨ s1 = -1) (hB : Zr W w bs (!b) L) (hr : Wr s1 true ⟨a1, a2, a3⟩ ⟨d1, d2, d3⟩ ⟨b1, b2, b3⟩ ⟨c1, c2, c3⟩ = (⟨x, y, z⟩, k)) : Calls Tryz.prog 112 #[.pointer (some ⟨bs, 0, none⟩), .agg #[.int .i64 a1, .int .i64 a2, .int .i64 a3, .int .i64 b1, .int .i64 b2, .int .i64 b3, .int .i64 c1, .int .i64 c2, .int .i64 c3, .int .i64 d1, .int .i64 d2, .int .i64 d3], .int .i64 0, .int .i64 3, .int .i64 s1, .int .i64 1, .int .i64 2, .bool true] w fun e w' => e = .returned (.agg #[.int .i64 x, .int .i64 y, .int .i64 z]) ∧ Zr W w' bs (!(b || !k)) L ∧ SmO bs w w' := Od hB (Lt bs b ⟨a1, a2, a3⟩ ⟨b1, b2, b3⟩ ⟨c1, c2, c3⟩ ⟨d1, d2, d3⟩ s1 h1 w hB.sum) hr
end
theorem sTableOf (m : M4) (w : World) : Calls Tryz.prog 43 #[m.v] w (fun e w' => e = .returned (Sg (Xg m)) ∧ Ex w w') := by
 obtain ⟨RV, hRV⟩ : ∃ v, v = Sg (Xg m) := ⟨_, rfl⟩
 rw [← hRV]
 rw [← sTab_eq] at hRV
 have kv := fun w => Oe m w
 generalize m.valid = mv at kv hRV
 obtain ⟨a, b, c, d⟩ := m
 simp only [M4.v] at kv ⊢
 unfold Ln at hRV
 simp only [List.all_cons, List.all_nil, List.map_cons, List.map_nil] at hRV
 rcases h0 : Ob 1 1 1 a b c d with ⟨⟨u0x, u0y, u0z⟩, k0⟩
 rcases h1 : Ob (-1) 1 (-1) a b c d with ⟨⟨u1x, u1y, u1z⟩, k1⟩
 rcases h2 : Wr 1 false a b c d with ⟨⟨u2x, u2y, u2z⟩, k2⟩
 rcases h3 : Wr 1 true b a d c with ⟨⟨u3x, u3y, u3z⟩, k3⟩
 rcases h4 : Ob 1 (-1) (-1) a b c d with ⟨⟨u4x, u4y, u4z⟩, k4⟩
 rcases h5 : Ob (-1) (-1) 1 a b c d with ⟨⟨u5x, u5y, u5z⟩, k5⟩
 rcases h6 : Wr (-1) false a b c d with ⟨⟨u6x, u6y, u6z⟩, k6⟩
 rcases h7 : Wr (-1) true b a d c with ⟨⟨u7x, u7y, u7z⟩, k7⟩
 rcases h8 : Wr 1 false a c b d with ⟨⟨u8x, u8y, u8z⟩, k8⟩
 rcases h9 : Wr (-1) false a c b d with ⟨⟨u9x, u9y, u9z⟩, k9⟩
 rcases h10 : Wr 1 false a d b c with ⟨⟨u10x, u10y, u10z⟩, k10⟩
 rcases h11 : Wr (-1) true b c a d with ⟨⟨u11x, u11y, u11z⟩, k11⟩
 rcases h12 : Wr 1 true a c b d with ⟨⟨u12x, u12y, u12z⟩, k12⟩
 rcases h13 : Wr (-1) true a c b d with ⟨⟨u13x, u13y, u13z⟩, k13⟩
 rcases h14 : Wr 1 true a d b c with ⟨⟨u14x, u14y, u14z⟩, k14⟩
 rcases h15 : Wr (-1) false a d b c with ⟨⟨u15x, u15y, u15z⟩, k15⟩
 rw [h0, h1, h2, h3, h4, h5, h6, h7, h8, h9, h10, h11, h12, h13, h14, h15] at hRV
 simp only [Bool.and_true] at hRV
 obtain ⟨a1, a2, a3⟩ := a
 obtain ⟨b1, b2, b3⟩ := b
 obtain ⟨c1, c2, c3⟩ := c
 obtain ⟨d1, d2, d3⟩ := d
 have H0 := Kw h0
 have H1 := Kw h1
 have H2 := Kw h2
 have H3 := Kw h3
 have H4 := Kw h4
 have H5 := Kw h5
 have H6 := Kw h6
 have H7 := Kw h7
 have H8 := Kw h8
 have H9 := Kw h9
 have H10 := Kw h10
 have H11 := Kw h11
 have H12 := Kw h12
 have H13 := Kw h13
 have H14 := Kw h14
 have H15 := Kw h15
 have HR := Kw hRV
 clear hRV h0 h1 h2 h3 h4 h5 h6 h7 h8 h9 h10 h11 h12 h13 h14 h15
 simp only at kv ⊢
 have KV := Kw kv
 clear kv
 have hR := Zw.refl w
 go_enter Tryz.func43, Tryz.ntmps43
 go_upto_region 1 with fail
 rw [Vv]
 have hV : Zw w ((w.alloc (.cells #[.int .i64 a1, .int .i64 a2, .int .i64 a3, .int .i64 b1, .int .i64 b2, .int .i64 b3, .int .i64 c1, .int .i64 c2, .int .i64 c3, .int .i64 d1, .int .i64 d2, .int .i64 d3] 79)).alloc (.cells Z48 85)) _ := inferInstance
 clear hR
 have hle : w.heap.size ≤ ((w.alloc (.cells #[.int .i64 a1, .int .i64 a2, .int .i64 a3, .int .i64 b1, .int .i64 b2, .int .i64 b3, .int .i64 c1, .int .i64 c2, .int .i64 c3, .int .i64 d1, .int .i64 d2, .int .i64 d3] 79)).alloc (.cells Z48 85)).heap.size := hV.ex.size
 simp only [Kv] at hV
 generalize (w.alloc (.cells #[.int .i64 a1, .int .i64 a2, .int .i64 a3, .int .i64 b1, .int .i64 b2, .int .i64 b3, .int .i64 c1, .int .i64 c2, .int .i64 c3, .int .i64 d1, .int .i64 d2, .int .i64 d3] 79)).alloc (.cells Z48 85) = W0 at *
 have hC := hV.reads
 simp only [Zz, Zy] at hC
 rcases mv with _ | _
 ·have hn := HR.out
  simp only [Bool.false_and, Bool.false_eq_true, if_false, Sg] at hn
  rw [← Z48_eq] at hn
  subst hn
  clear HR H0 H1 H2 H3 H4 H5 H6 H7 H8 H9 H10 H11 H12 H13 H14 H15
  go_upto_region 2 with (go_at_call 110; (with_reducible refine (KV.out _).mono ?_); rintro e wn ⟨rfl, hx⟩; replace hV := Zw.after (W := w) hx; clear hx; replace hC := hV.reads; simp only [Zz, Zy] at hC)
  have hb := hV.boxes.1
  go_wp2_with (refine wpList_store_row rfl _ _ _ rfl _ _ rfl rfl _ _ (hb.alloc _) (Yz Yp) rfl Wl ?_)
  refine Kr (Zl Tryz.results43 _ _ _ _ _ (0, 0) _ rfl ((hb.alloc _).setRow _) Tryz.underlying85 rfl (Yz Yp)) rfl ⟨rfl, (hV.ex.alloc _).setRow (Nat.le_succ _) _⟩
 ·go_upto_region 4 with (go_at_call 110; (with_reducible refine (KV.out _).mono ?_); rintro e wn ⟨rfl, hx⟩; replace hV := Zw.after (W := w) hx; clear hx; replace hC := hV.reads; simp only [Zz, Zy] at hC)
  have hV0 := hV.ex.size
  have bT : Box ((wn.alloc (.cells #[.bool true] 155)).alloc (.cells Z48 85)) (wn.heap.size + 1) 85 Z48 := by
   have := Box.new (wn.alloc (.cells #[.bool true] 155)) Z48 85
   rwa [Kv] at this
  have hS0 : Zr w ((wn.alloc (.cells #[.bool true] 155)).alloc (.cells Z48 85)) wn.heap.size true _ := Zr.alloc (h := Zr.start (h := hV))
  simp only [Kv] at hS0
  go_upto_region 5 with (refine wpList_store_row rfl _ _ _ rfl _ _ rfl rfl _ _ bT (Yz Yp) rfl Wl ?_)
  rw [Vv]
  clear bT
  have hlt1 := hV.boxes.1.lt
  have hlt2 := hV.boxes.2.1.lt
  have hg : w.heap.size ≤ wn.heap.size + 1 := Nat.le_succ_of_le hV.ex.size
  have hne : ∀ x ∈ ([(w.heap.size + 1, 85, Z48), (w.heap.size, 79, #[.int .i64 a1, .int .i64 a2, .int .i64 a3, .int .i64 b1, .int .i64 b2, .int .i64 b3, .int .i64 c1, .int .i64 c2, .int .i64 c3, .int .i64 d1, .int .i64 d2, .int .i64 d3])] : List (Nat × TypeId × Array Value)), x.1 ≠ wn.heap.size + 1 := by
   intro x hx
   simp only [List.mem_cons, List.not_mem_nil, or_false] at hx
   rcases hx with rfl | rfl
   ·exact Nat.ne_of_lt (Nat.lt_succ_of_lt hlt1)
   ·exact Nat.ne_of_lt (Nat.lt_succ_of_lt hlt2)
  replace hS0 := Zr.setRow hS0 hg hne Z48
  generalize ((wn.alloc (.cells #[.bool true] 155)).alloc (.cells Z48 85)).setRow (wn.heap.size + 1) Z48 = W5 at *
  have hS : Zr w W5 wn.heap.size (!false) ((wn.heap.size + 1, 85, Zs [(⟨0, 0, 0⟩ : Fr), (⟨0, 0, 0⟩ : Fr), (⟨0, 0, 0⟩ : Fr), (⟨0, 0, 0⟩ : Fr), (⟨0, 0, 0⟩ : Fr), (⟨0, 0, 0⟩ : Fr), (⟨0, 0, 0⟩ : Fr), (⟨0, 0, 0⟩ : Fr), (⟨0, 0, 0⟩ : Fr), (⟨0, 0, 0⟩ : Fr), (⟨0, 0, 0⟩ : Fr), (⟨0, 0, 0⟩ : Fr), (⟨0, 0, 0⟩ : Fr), (⟨0, 0, 0⟩ : Fr), (⟨0, 0, 0⟩ : Fr), (⟨0, 0, 0⟩ : Fr)]) :: [(w.heap.size + 1, 85, Z48), (w.heap.size, 79, #[.int .i64 a1, .int .i64 a2, .int .i64 a3, .int .i64 b1, .int .i64 b2, .int .i64 b3, .int .i64 c1, .int .i64 c2, .int .i64 c3, .int .i64 d1, .int .i64 d2, .int .i64 d3])]) := hS0
  clear hS0 hC hV
  have hC := hS.reads
  simp only [Zz, Zy] at hC
  go_upto_region 6 with (first | (go_at_call 111; (with_reducible refine (powO (.inl rfl) (.inl rfl) (.inl rfl) hS H0.out).mono ?_); rintro e wm ⟨rfl, hN, -⟩; clear hC) | (refine Yo hN hg hne 0 (by simp) rfl rfl ?_; intro V0 hS))
  clear hN H0
  have hC := hS.reads
  simp only [Zz, Zy] at hC
  go_upto_region 7 with (first | (go_at_call 111; (with_reducible refine (powO (.inr rfl) (.inl rfl) (.inr rfl) hS H1.out).mono ?_); rintro e wm ⟨rfl, hN, -⟩; clear hC) | (refine Yo hN hg hne 1 (by simp) rfl rfl ?_; intro V1 hS))
  clear hN H1
  have hC := hS.reads
  simp only [Zz, Zy] at hC
  go_upto_region 8 with (first | (go_at_call 112; (with_reducible refine (Pd (.inl rfl) hS H2.out).mono ?_); rintro e wm ⟨rfl, hN, -⟩; clear hC) | (refine Yo hN hg hne 2 (by simp) rfl rfl ?_; intro V2 hS))
  clear hN H2
  have hC := hS.reads
  simp only [Zz, Zy] at hC
  go_upto_region 9 with (first | (go_at_call 112; (with_reducible refine (Pb (.inl rfl) hS H3.out).mono ?_); rintro e wm ⟨rfl, hN, -⟩; clear hC) | (refine Yo hN hg hne 3 (by simp) rfl rfl ?_; intro V3 hS))
  clear hN H3
  have hC := hS.reads
  simp only [Zz, Zy] at hC
  go_upto_region 10 with (first | (go_at_call 111; (with_reducible refine (powO (.inl rfl) (.inr rfl) (.inr rfl) hS H4.out).mono ?_); rintro e wm ⟨rfl, hN, -⟩; clear hC) | (refine Yo hN hg hne 4 (by simp) rfl rfl ?_; intro V4 hS))
  clear hN H4
  have hC := hS.reads
  simp only [Zz, Zy] at hC
  go_upto_region 11 with (first | (go_at_call 111; (with_reducible refine (powO (.inr rfl) (.inr rfl) (.inl rfl) hS H5.out).mono ?_); rintro e wm ⟨rfl, hN, -⟩; clear hC) | (refine Yo hN hg hne 5 (by simp) rfl rfl ?_; intro V5 hS))
  clear hN H5
  have hC := hS.reads
  simp only [Zz, Zy] at hC
  go_upto_region 12 with (first | (go_at_call 112; (with_reducible refine (Pd (.inr rfl) hS H6.out).mono ?_); rintro e wm ⟨rfl, hN, -⟩; clear hC) | (refine Yo hN hg hne 6 (by simp) rfl rfl ?_; intro V6 hS))
  clear hN H6
  have hC := hS.reads
  simp only [Zz, Zy] at hC
  go_upto_region 13 with (first | (go_at_call 112; (with_reducible refine (Pb (.inr rfl) hS H7.out).mono ?_); rintro e wm ⟨rfl, hN, -⟩; clear hC) | (refine Yo hN hg hne 7 (by simp) rfl rfl ?_; intro V7 hS))
  clear hN H7
  have hC := hS.reads
  simp only [Zz, Zy] at hC
  go_upto_region 14 with (first | (go_at_call 112; (with_reducible refine (Pa (.inl rfl) hS H8.out).mono ?_); rintro e wm ⟨rfl, hN, -⟩; clear hC) | (refine Yo hN hg hne 8 (by simp) rfl rfl ?_; intro V8 hS))
  clear hN H8
  have hC := hS.reads
  simp only [Zz, Zy] at hC
  go_upto_region 15 with (first | (go_at_call 112; (with_reducible refine (Pa (.inr rfl) hS H9.out).mono ?_); rintro e wm ⟨rfl, hN, -⟩; clear hC) | (refine Yo hN hg hne 9 (by simp) rfl rfl ?_; intro V9 hS))
  clear hN H9
  have hC := hS.reads
  simp only [Zz, Zy] at hC
  go_upto_region 16 with (first | (go_at_call 112; (with_reducible refine (Oz (.inl rfl) hS H10.out).mono ?_); rintro e wm ⟨rfl, hN, -⟩; clear hC) | (refine Yo hN hg hne 10 (by simp) rfl rfl ?_; intro V10 hS))
  clear hN H10
  have hC := hS.reads
  simp only [Zz, Zy] at hC
  go_upto_region 17 with (first | (go_at_call 112; (with_reducible refine (twoO_1203_im (.inr rfl) hS H11.out).mono ?_); rintro e wm ⟨rfl, hN, -⟩; clear hC) | (refine Yo hN hg hne 11 (by simp) rfl rfl ?_; intro V11 hS))
  clear hN H11
  have hC := hS.reads
  simp only [Zz, Zy] at hC
  go_upto_region 18 with (first | (go_at_call 112; (with_reducible refine (Oy (.inl rfl) hS H12.out).mono ?_); rintro e wm ⟨rfl, hN, -⟩; clear hC) | (refine Yo hN hg hne 12 (by simp) rfl rfl ?_; intro V12 hS))
  clear hN H12
  have hC := hS.reads
  simp only [Zz, Zy] at hC
  go_upto_region 19 with (first | (go_at_call 112; (with_reducible refine (Oy (.inr rfl) hS H13.out).mono ?_); rintro e wm ⟨rfl, hN, -⟩; clear hC) | (refine Yo hN hg hne 13 (by simp) rfl rfl ?_; intro V13 hS))
  clear hN H13
  have hC := hS.reads
  simp only [Zz, Zy] at hC
  go_upto_region 20 with (first | (go_at_call 112; (with_reducible refine (twoO_0312_im (.inl rfl) hS H14.out).mono ?_); rintro e wm ⟨rfl, hN, -⟩; clear hC) | (refine Yo hN hg hne 14 (by simp) rfl rfl ?_; intro V14 hS))
  clear hN H14
  have hC := hS.reads
  simp only [Zz, Zy] at hC
  go_upto_region 21 with (first | (go_at_call 112; (with_reducible refine (Oz (.inr rfl) hS H15.out).mono ?_); rintro e wm ⟨rfl, hN, -⟩; clear hC) | (refine Yo hN hg hne 15 (by simp) rfl rfl ?_; intro V15 hS))
  clear hN H15
  have hn := HR.out
  have e : (true && (k0 && (k1 && (k2 && (k3 && (k4 && (k5 && (k6 && (k7 && (k8 && (k9 && (k10 && (k11 && (k12 && (k13 && (k14 && k15)))))))))))))))) = !((((((((((((((((false || !k0) || !k1) || !k2) || !k3) || !k4) || !k5) || !k6) || !k7) || !k8) || !k9) || !k10) || !k11) || !k12) || !k13) || !k14) || !k15) := by simp [Bool.and_assoc]
  rw [e] at hn
  clear e HR
  replace hS : Zr w V15 wn.heap.size (!((((((((((((((((false || !k0) || !k1) || !k2) || !k3) || !k4) || !k5) || !k6) || !k7) || !k8) || !k9) || !k10) || !k11) || !k12) || !k13) || !k14) || !k15)) ((wn.heap.size + 1, 85, Zs [⟨u0x, u0y, u0z⟩, ⟨u1x, u1y, u1z⟩, ⟨u2x, u2y, u2z⟩, ⟨u3x, u3y, u3z⟩, ⟨u4x, u4y, u4z⟩, ⟨u5x, u5y, u5z⟩, ⟨u6x, u6y, u6z⟩, ⟨u7x, u7y, u7z⟩, ⟨u8x, u8y, u8z⟩, ⟨u9x, u9y, u9z⟩, ⟨u10x, u10y, u10z⟩, ⟨u11x, u11y, u11z⟩, ⟨u12x, u12y, u12z⟩, ⟨u13x, u13y, u13z⟩, ⟨u14x, u14y, u14z⟩, ⟨u15x, u15y, u15z⟩]) :: [(w.heap.size + 1, 85, Z48), (w.heap.size, 79, #[.int .i64 a1, .int .i64 a2, .int .i64 a3, .int .i64 b1, .int .i64 b2, .int .i64 b3, .int .i64 c1, .int .i64 c2, .int .i64 c3, .int .i64 d1, .int .i64 d2, .int .i64 d3])]) := hS
  have hb := hS.boxes.1
  have hr := hS.boxes.2.1
  have hE := hS.rel hV0
  rcases hK : (!((((((((((((((((false || !k0) || !k1) || !k2) || !k3) || !k4) || !k5) || !k6) || !k7) || !k8) || !k9) || !k10) || !k11) || !k12) || !k13) || !k14) || !k15)) with _ | _
  ·rw [hK] at hS hn
   simp only [Bool.false_eq_true, if_false, Sg] at hn
   rw [← Z48_eq] at hn
   subst hn
   have hC := hS.reads
   simp only [Zz, Zy] at hC
   go_wp2_with (refine wpList_store_row rfl _ _ _ rfl _ _ rfl rfl _ _ hr (Yz Yp) rfl Wl ?_)
   refine Kr (Zl Tryz.results43 _ _ _ _ _ (0, 0) _ rfl (hr.setRow _) Tryz.underlying85 rfl (Yz Yp)) rfl ⟨rfl, hE.setRow (Nat.le_succ _) _⟩
  ·rw [hK] at hS hn
   simp only [if_true, Sg] at hn
   subst hn
   have hC := hS.reads
   simp only [Zz, Zy] at hC
   go_wp2_with (first | (refine wpList_load_row rfl _ _ rfl _ rfl _ _ (0, 0) _ hb Tryz.underlying85 rfl (Yz rfl) ?_) | (refine wpList_store_row rfl _ _ _ rfl _ _ rfl rfl _ _ hr (Yz rfl) rfl (Yw _) ?_))
   refine Kr (Zl Tryz.results43 _ _ _ _ _ (0, 0) _ rfl (hr.setRow _) Tryz.underlying85 rfl (Yz rfl)) rfl ⟨rfl, hE.setRow (Nat.le_succ _) _⟩
end
end Go.Proofs.YtiommfmaleeibaaGreatDoor
