/-
  Proved: what functions compute, part 20. No condition.
-/
import Derived.Test.YtmjggolkopbcnaaGreatDoorB18
import Derived.Test.YtmjggolkopbcnaaGreatDoorB19
import Derived.Test.YtmjggolkopbcnaaGreatDoorB01
import Derived.Test.YtmjggolkopbcnaaGreatDoorB17
import Derived.LoopN
import Derived.Test.YtmjggolkopbcnaaGreatDoorB11
import Derived.Test.YtmjggolkopbcnaaGreatDoorB10
import Derived.Deep.DeepCutAuto
import Derived.Test.YtmjggolkopbcnaaGreatDoorB16
import Derived.Test.YtmjggolkopbcnaaGreatDoorB05
import Derived.Deep.RegionHeld3
set_option linter.unusedSimpArgs false
set_option linter.unusedVariables false
set_option maxRecDepth 20000
set_option maxHeartbeats 8000000
namespace Go.Proofs.YtmjggolkopbcnaaGreatDoor
section
def rowR (a b c d x y z u : Fr) : Fr × Bool :=
 ((Ze (Ze (Ze (Zu a x).1 (Zu b y).1).1 (Zu c z).1).1 (Zu d u).1).1,
  (Zu a x).2 && (Zu b y).2 && (Ze (Zu a x).1 (Zu b y).1).2 && (Zu c z).2 && (Ze (Ze (Zu a x).1 (Zu b y).1).1 (Zu c z).1).2 && (Zu d u).2 &&
   (Ze (Ze (Ze (Zu a x).1 (Zu b y).1).1 (Zu c z).1).1 (Zu d u).1).2)
def rowS (a b c d x y z u : Fr) : Fr × Bool :=
 ((Xv 1 (Xv 1 (Xv 1 (Xv 1 Fr.nul (Zu a x).1).1 (Zu b y).1).1 (Zu c z).1).1 (Zu d u).1).1,
  (Zu a x).2 && (Xv 1 Fr.nul (Zu a x).1).2 && (Zu b y).2 && (Xv 1 (Xv 1 Fr.nul (Zu a x).1).1 (Zu b y).1).2 &&
  (Zu c z).2 && (Xv 1 (Xv 1 (Xv 1 Fr.nul (Zu a x).1).1 (Zu b y).1).1 (Zu c z).1).2 && (Zu d u).2 &&
  (Xv 1 (Xv 1 (Xv 1 (Xv 1 Fr.nul (Zu a x).1).1 (Zu b y).1).1 (Zu c z).1).1 (Zu d u).1).2)
def skok (v : M4) : Bool := svalid v.a v.b v.c v.d
def tabok (t : List Fr) : Bool := t.all rok
def tg (t : List Fr) (i : Nat) : Fr := t.getD i Fr.none
def trow (t : List Fr) (r : Nat) (v : M4) : Fr × Bool := rowR (tg t (4 * r)) (tg t (4 * r + 1)) (tg t (4 * r + 2)) (tg t (4 * r + 3)) v.a v.b v.c v.d
def tapply (t : List Fr) (v : M4) : M4 × Bool := Qe (trow t 0 v) (trow t 1 v) (trow t 2 v) (trow t 3 v) (tabok t && skok v)
def diag (c : Fr) : List Fr := [Fr.one, Fr.nul, Fr.nul, Fr.nul, Fr.nul, c, Fr.nul, Fr.nul, Fr.nul, Fr.nul, c, Fr.nul, Fr.nul, Fr.nul, Fr.nul, c]
def tfade (c : Fr) : List Fr × Bool := if rok c then (diag c, true) else (nones 16, false)
def row3 (v : M4) : Fr × Bool :=
 ((Ze (Ze (Zu v.b v.b).1 (Zu v.c v.c).1).1 (Zu v.d v.d).1).1,
  (Zu v.b v.b).2 && (Zu v.c v.c).2 && (Ze (Zu v.b v.b).1 (Zu v.c v.c).1).2 && (Zu v.d v.d).2 && (Ze (Ze (Zu v.b v.b).1 (Zu v.c v.c).1).1 (Zu v.d v.d).1).2)
def squares (v : M4) : Fr × Bool := if skok v && (row3 v).2 then ((row3 v).1, true) else (Fr.none, false)
def excess (v : M4) : Int × Bool := if (squares v).2 && (Zu v.a v.a).2 then fcmp (Zu v.a v.a).1 (squares v).1 else (0, false)
def slight (v : M4) : Bool := (excess v).2 && decide (0 ≤ (excess v).1) && decide (0 ≤ v.a.re)
def crossL (xs ys : List Fr) (i k : Nat) : Bool := (Zu (tg xs i) (tg ys k)).2 && (Zu (tg xs k) (tg ys i)).2 && decide ((Zu (tg xs i) (tg ys k)).1 = (Zu (tg xs k) (tg ys i)).1)
def allCross (xs ys : List Fr) : Bool := (List.range 4).all fun i => (List.range 4).all fun k => decide (i = k) || crossL xs ys i k
def M4.l (v : M4) : List Fr := [v.a, v.b, v.c, v.d]
def salike (x y : M4) : Bool := skok x && skok y && decide (fsign x.a.re = fsign y.a.re) && allCross x.l y.l
end
section
open Go.RowKit

theorem eqFr (x1 x2 x3 y1 y2 y3 : Int) (d : Nat) (w : World) : (Op.equalIn (d + 1 + 1) 27 (.agg #[.int .i64 x1, .int .i64 x2, .int .i64 x3]) (.agg #[.int .i64 y1, .int .i64 y2, .int .i64 y3])).run Tryz.prog w = .ok (decide ((⟨x1, x2, x3⟩ : Fr) = ⟨y1, y2, y3⟩)) w := by
 have hu : Tryz.prog.underlying 27 = some (.struct (Tryz.prog.fieldsOf 27)) := by kernel_rfl
 have hp : Tryz.prog.stoodInHeld 27 = false := by kernel_rfl
 rw [run_equalIn_struct w _ _ _ _ hu hp]
 by_cases h1 : x1 = y1
 ·by_cases h2 : x2 = y2
  ·by_cases h3 : x3 = y3
   ·subst h1 h2 h3
    simp [Program.fieldsOf, Tryz.underlying27, Op.eqFields, go_sem]
   ·simp [Program.fieldsOf, Tryz.underlying27, Op.eqFields, go_sem, h1, h2, h3]
  ·simp [Program.fieldsOf, Tryz.underlying27, Op.eqFields, go_sem, h1, h2]
 ·simp [Program.fieldsOf, Tryz.underlying27, Op.eqFields, go_sem, h1]
end
section
open Go.RowKit

theorem eqMt (v u : M4) (d : Nat) (w : World) : (Op.equalIn (d + 1 + 1 + 1 + 1) 30 v.v u.v).run Tryz.prog w = .ok (decide (v = u)) w := by
 have hu : Tryz.prog.underlying 30 = some (.struct (Tryz.prog.fieldsOf 30)) := by kernel_rfl
 have hp : Tryz.prog.stoodInHeld 30 = false := by kernel_rfl
 obtain ⟨i, hi⟩ := info_of_underlying Tryz.underlying27
 have hc : Tryz.prog.cellsOf 27 = 3 := by kernel_rfl
 have hr : List.range 4 = [0, 1, 2, 3] := rfl
 obtain ⟨⟨a1, a2, a3⟩, ⟨b1, b2, b3⟩, ⟨c1, c2, c3⟩, ⟨d1, d2, d3⟩⟩ := v
 obtain ⟨⟨p1, p2, p3⟩, ⟨q1, q2, q3⟩, ⟨r1, r2, r3⟩, ⟨s1, s2, s3⟩⟩ := u
 simp only [M4.v]
 rw [run_equalIn_struct w _ _ _ _ hu hp]
 have hA : (Op.equalIn (d + 1 + 1 + 1) 28 (.agg (#[.int .i64 a1, .int .i64 a2, .int .i64 a3, .int .i64 b1, .int .i64 b2, .int .i64 b3, .int .i64 c1, .int .i64 c2, .int .i64 c3, .int .i64 d1, .int .i64 d2, .int .i64 d3])) (.agg (#[.int .i64 p1, .int .i64 p2, .int .i64 p3, .int .i64 q1, .int .i64 q2, .int .i64 q3, .int .i64 r1, .int .i64 r2, .int .i64 r3, .int .i64 s1, .int .i64 s2, .int .i64 s3]))).run Tryz.prog w = .ok (decide ((⟨a1, a2, a3⟩ : Fr) = ⟨p1, p2, p3⟩) && decide ((⟨b1, b2, b3⟩ : Fr) = ⟨q1, q2, q3⟩) && decide ((⟨c1, c2, c3⟩ : Fr) = ⟨r1, r2, r3⟩) && decide ((⟨d1, d2, d3⟩ : Fr) = ⟨s1, s2, s3⟩)) w := by
  rw [run_equalIn_array w (d + 1 + 1) (#[.int .i64 a1, .int .i64 a2, .int .i64 a3, .int .i64 b1, .int .i64 b2, .int .i64 b3, .int .i64 c1, .int .i64 c2, .int .i64 c3, .int .i64 d1, .int .i64 d2, .int .i64 d3]) (#[.int .i64 p1, .int .i64 p2, .int .i64 p3, .int .i64 q1, .int .i64 q2, .int .i64 q3, .int .i64 r1, .int .i64 r2, .int .i64 r3, .int .i64 s1, .int .i64 s2, .int .i64 s3]) Tryz.underlying28 hi, hc, hr]
  have e0 := fun w => eqFr a1 a2 a3 p1 p2 p3 d w
  have e1 := fun w => eqFr b1 b2 b3 q1 q2 q3 d w
  have e2 := fun w => eqFr c1 c2 c3 r1 r2 r3 d w
  have e3 := fun w => eqFr d1 d2 d3 s1 s2 s3 d w
  generalize decide ((⟨a1, a2, a3⟩ : Fr) = ⟨p1, p2, p3⟩) = x0 at e0 ⊢
  generalize decide ((⟨b1, b2, b3⟩ : Fr) = ⟨q1, q2, q3⟩) = x1 at e1 ⊢
  generalize decide ((⟨c1, c2, c3⟩ : Fr) = ⟨r1, r2, r3⟩) = x2 at e2 ⊢
  generalize decide ((⟨d1, d2, d3⟩ : Fr) = ⟨s1, s2, s3⟩) = x3 at e3 ⊢
  have part_a : ∀ w, (Go.part 27 (#[.int .i64 a1, .int .i64 a2, .int .i64 a3, .int .i64 b1, .int .i64 b2, .int .i64 b3, .int .i64 c1, .int .i64 c2, .int .i64 c3, .int .i64 d1, .int .i64 d2, .int .i64 d3]) 0).run Tryz.prog w = .ok (.agg #[.int .i64 a1, .int .i64 a2, .int .i64 a3]) w := fun w => by simp [Go.part, go_sem]
  have part_b : ∀ w, (Go.part 27 (#[.int .i64 a1, .int .i64 a2, .int .i64 a3, .int .i64 b1, .int .i64 b2, .int .i64 b3, .int .i64 c1, .int .i64 c2, .int .i64 c3, .int .i64 d1, .int .i64 d2, .int .i64 d3]) 3).run Tryz.prog w = .ok (.agg #[.int .i64 b1, .int .i64 b2, .int .i64 b3]) w := fun w => by simp [Go.part, go_sem]
  have part_c : ∀ w, (Go.part 27 (#[.int .i64 a1, .int .i64 a2, .int .i64 a3, .int .i64 b1, .int .i64 b2, .int .i64 b3, .int .i64 c1, .int .i64 c2, .int .i64 c3, .int .i64 d1, .int .i64 d2, .int .i64 d3]) 6).run Tryz.prog w = .ok (.agg #[.int .i64 c1, .int .i64 c2, .int .i64 c3]) w := fun w => by simp [Go.part, go_sem]
  have part_d : ∀ w, (Go.part 27 (#[.int .i64 a1, .int .i64 a2, .int .i64 a3, .int .i64 b1, .int .i64 b2, .int .i64 b3, .int .i64 c1, .int .i64 c2, .int .i64 c3, .int .i64 d1, .int .i64 d2, .int .i64 d3]) 9).run Tryz.prog w = .ok (.agg #[.int .i64 d1, .int .i64 d2, .int .i64 d3]) w := fun w => by simp [Go.part, go_sem]
  have part_p : ∀ w, (Go.part 27 (#[.int .i64 p1, .int .i64 p2, .int .i64 p3, .int .i64 q1, .int .i64 q2, .int .i64 q3, .int .i64 r1, .int .i64 r2, .int .i64 r3, .int .i64 s1, .int .i64 s2, .int .i64 s3]) 0).run Tryz.prog w = .ok (.agg #[.int .i64 p1, .int .i64 p2, .int .i64 p3]) w := fun w => by simp [Go.part, go_sem]
  have part_q : ∀ w, (Go.part 27 (#[.int .i64 p1, .int .i64 p2, .int .i64 p3, .int .i64 q1, .int .i64 q2, .int .i64 q3, .int .i64 r1, .int .i64 r2, .int .i64 r3, .int .i64 s1, .int .i64 s2, .int .i64 s3]) 3).run Tryz.prog w = .ok (.agg #[.int .i64 q1, .int .i64 q2, .int .i64 q3]) w := fun w => by simp [Go.part, go_sem]
  have part_r : ∀ w, (Go.part 27 (#[.int .i64 p1, .int .i64 p2, .int .i64 p3, .int .i64 q1, .int .i64 q2, .int .i64 q3, .int .i64 r1, .int .i64 r2, .int .i64 r3, .int .i64 s1, .int .i64 s2, .int .i64 s3]) 6).run Tryz.prog w = .ok (.agg #[.int .i64 r1, .int .i64 r2, .int .i64 r3]) w := fun w => by simp [Go.part, go_sem]
  have part_s : ∀ w, (Go.part 27 (#[.int .i64 p1, .int .i64 p2, .int .i64 p3, .int .i64 q1, .int .i64 q2, .int .i64 q3, .int .i64 r1, .int .i64 r2, .int .i64 r3, .int .i64 s1, .int .i64 s2, .int .i64 s3]) 9).run Tryz.prog w = .ok (.agg #[.int .i64 s1, .int .i64 s2, .int .i64 s3]) w := fun w => by simp [Go.part, go_sem]
  cases x0 <;> cases x1 <;> cases x2 <;> cases x3 <;> simp [Op.eqItems, e0, e1, e2, e3, part_a, part_b, part_c, part_d, part_p, part_q, part_r, part_s]
 have hd : decide ((⟨⟨a1, a2, a3⟩, ⟨b1, b2, b3⟩, ⟨c1, c2, c3⟩, ⟨d1, d2, d3⟩⟩ : M4) = ⟨⟨p1, p2, p3⟩, ⟨q1, q2, q3⟩, ⟨r1, r2, r3⟩, ⟨s1, s2, s3⟩⟩) = (decide ((⟨a1, a2, a3⟩ : Fr) = ⟨p1, p2, p3⟩) && decide ((⟨b1, b2, b3⟩ : Fr) = ⟨q1, q2, q3⟩) && decide ((⟨c1, c2, c3⟩ : Fr) = ⟨r1, r2, r3⟩) && decide ((⟨d1, d2, d3⟩ : Fr) = ⟨s1, s2, s3⟩)) := by
  rw [Bool.eq_iff_iff]
  simp [and_assoc]
 rw [hd]
 generalize (decide ((⟨a1, a2, a3⟩ : Fr) = ⟨p1, p2, p3⟩) && decide ((⟨b1, b2, b3⟩ : Fr) = ⟨q1, q2, q3⟩) && decide ((⟨c1, c2, c3⟩ : Fr) = ⟨r1, r2, r3⟩) && decide ((⟨d1, d2, d3⟩ : Fr) = ⟨s1, s2, s3⟩)) = x at hA ⊢
 cases x <;> simp [Program.fieldsOf, Tryz.underlying30, Op.eqFields, go_sem, hA]
theorem eqlMt (v u : M4) (w : World) : (binOp .eql 30 v.v u.v).run Tryz.prog w = .ok (.bool (decide (v = u))) w := by
 have h := eqMt v u 9996 w
 unfold M4.v at h ⊢
 rw [run_eql_struct, h]
 rfl
end
section
open Go.RowKit
end
section
open Go.RowKit

attribute [local go_sem] Zq Zp
theorem M4.l_arr (v : M4) : v.v = .agg (Yh v.l) := rfl
def Z12 : Array Value := #[.int .i64 0, .int .i64 0, .int .i64 0, .int .i64 0, .int .i64 0, .int .i64 0, .int .i64 0, .int .i64 0, .int .i64 0, .int .i64 0, .int .i64 0, .int .i64 0]
def racc (t : List Fr) (r : Nat) (v : M4) : Nat → Fr × Bool
 | 0 => Zu (tg t (4 * r)) v.a
 | k + 1 => ((Ze (racc t r v k).1 (Zu (tg t (4 * r + (k + 1))) (tg v.l (k + 1))).1).1,
   (racc t r v k).2 && (Zu (tg t (4 * r + (k + 1))) (tg v.l (k + 1))).2 && (Ze (racc t r v k).1 (Zu (tg t (4 * r + (k + 1))) (tg v.l (k + 1))).1).2)
def rowsL (t : List Fr) (v : M4) (r : Nat) : List Fr := (List.range 4).map fun j => if j < r then (trow t j v).1 else Fr.none
def rowsK (t : List Fr) (v : M4) : Nat → Bool
 | 0 => true
 | r + 1 => rowsK t v r && (trow t r v).2
end
section
open Go.RowKit

attribute [local go_sem] Zq Zp
end
section
open Go.RowKit

attribute [local go_sem] Zq Zp
def sacc (p q : List Fr) : Nat → Fr × Bool
 | 0 => (Fr.nul, true)
 | k + 1 => ((Xv 1 (sacc p q k).1 (Zu (tg p k) (tg q k)).1).1, (sacc p q k).2 && (Zu (tg p k) (tg q k)).2 && (Xv 1 (sacc p q k).1 (Zu (tg p k) (tg q k)).1).2)
theorem Yy.flag {W w : World} {bs : Nat} {b : Bool} {L : List (Nat × TypeId × Array Value)} (h : Yy W w bs b L) (v : Bool) : Yy W (w.setCell ⟨bs, 0, none⟩ (.bool v)) bs v L := by
 refine ⟨h.sm.trans (SmO.set h.sum 0 (.bool v)), ?_, ?_, h.far⟩
 ·have h2 := h.sum.set_ 0 (.bool v)
  simpa using h2
 ·exact Zb.smO (SmO.set h.sum 0 (.bool v)) h.far h.boxes
end
section
open Go.RowKit

attribute [local go_sem] Zq Zp
end
section
open Go.RowKit

attribute [local go_sem] Zq Zp
theorem Zw.setRow {W w : World} {g : Nat} {t : TypeId} {y : Array Value} {L : List (Nat × TypeId × Array Value)} (h : Zw W w ((g, t, y) :: L)) (hg : W.heap.size ≤ g) (hne : ∀ x ∈ L, x.1 ≠ g) (x : Array Value) : Zw W (w.setRow g x) ((g, t, x) :: L) :=
 ⟨h.ex.setRow hg x, h.boxes.1.setRow x, Tz hne h.boxes.2⟩
def dl (k : Nat) : List Fr := List.replicate k Fr.nul ++ List.replicate (16 - k) Fr.none
def dc (c : Fr) (k : Nat) : List Fr := (List.range 16).map fun i => if i < k then (if i % 5 = 0 then c else Fr.nul) else Fr.none
end
section
open Go.RowKit
end
end Go.Proofs.YtmjggolkopbcnaaGreatDoor
