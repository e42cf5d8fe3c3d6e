/-
  Proved: what functions compute, part 46. No condition.
-/
import Derived.Test.YtmmjkchjgeklnaaGreatDoorK45
import Derived.Test.YtmmjkchjgeklnaaGreatDoorK19
set_option linter.unusedSimpArgs false
set_option linter.unusedVariables false
set_option maxRecDepth 20000
set_option maxHeartbeats 8000000
namespace Go.Proofs.YtmmjkchjgeklnaaGreatDoor
section
open Go.RowKit

theorem eqFr (x1 x2 x3 y1 y2 y3 : Int) (d : Nat) (w : World) : (Op.equalIn (d + 1 + 1) 32 (.agg #[.int .i64 x1, .int .i64 x2, .int .i64 x3]) (.agg #[.int .i64 y1, .int .i64 y2, .int .i64 y3])).run Tryz.prog w = .ok (decide ((⟨x1, x2, x3⟩ : Fr) = ⟨y1, y2, y3⟩)) w := by
 have hu : Tryz.prog.underlying 32 = some (.struct (Tryz.prog.fieldsOf 32)) := by kernel_rfl
 have hp : Tryz.prog.stoodInHeld 32 = false := by kernel_rfl
 rw [run_equalIn_struct w _ _ _ _ hu hp]
 by_cases h1 : x1 = y1
 ·by_cases h2 : x2 = y2
  ·by_cases h3 : x3 = y3
   ·subst h1 h2 h3
    simp [Program.fieldsOf, Tryz.underlying32, Op.eqFields, go_sem]
   ·simp [Program.fieldsOf, Tryz.underlying32, Op.eqFields, go_sem, h1, h2, h3]
  ·simp [Program.fieldsOf, Tryz.underlying32, Op.eqFields, go_sem, h1, h2]
 ·simp [Program.fieldsOf, Tryz.underlying32, Op.eqFields, go_sem, h1]
theorem neqFr (x1 x2 x3 y1 y2 y3 : Int) (w : World) : (binOp .neq 32 (.agg #[.int .i64 x1, .int .i64 x2, .int .i64 x3]) (.agg #[.int .i64 y1, .int .i64 y2, .int .i64 y3])).run Tryz.prog w = .ok (.bool (!decide ((⟨x1, x2, x3⟩ : Fr) = ⟨y1, y2, y3⟩))) w := by
 rw [run_neq_struct, eqFr x1 x2 x3 y1 y2 y3 9998]
 rfl
theorem eqSt (v u : M4) (d : Nat) (w : World) : (Op.equalIn (d + 1 + 1 + 1 + 1) 35 v.v u.v).run Tryz.prog w = .ok (decide (v = u)) w := by
 have hu : Tryz.prog.underlying 35 = some (.struct (Tryz.prog.fieldsOf 35)) := by kernel_rfl
 have hp : Tryz.prog.stoodInHeld 35 = false := by kernel_rfl
 obtain ⟨i, hi⟩ := info_of_underlying Tryz.underlying32
 have hc : Tryz.prog.cellsOf 32 = 3 := by kernel_rfl
 have hr : List.range 4 = [0, 1, 2, 3] := rfl
 obtain ⟨⟨a1, a2, a3⟩, ⟨b1, b2, b3⟩, ⟨c1, c2, c3⟩, ⟨d1, d2, d3⟩⟩ := v
 obtain ⟨⟨p1, p2, p3⟩, ⟨q1, q2, q3⟩, ⟨r1, r2, r3⟩, ⟨s1, s2, s3⟩⟩ := u
 simp only [M4.v]
 rw [run_equalIn_struct w _ _ _ _ hu hp]
 have hA : (Op.equalIn (d + 1 + 1 + 1) 33 (.agg (#[.int .i64 a1, .int .i64 a2, .int .i64 a3, .int .i64 b1, .int .i64 b2, .int .i64 b3, .int .i64 c1, .int .i64 c2, .int .i64 c3, .int .i64 d1, .int .i64 d2, .int .i64 d3])) (.agg (#[.int .i64 p1, .int .i64 p2, .int .i64 p3, .int .i64 q1, .int .i64 q2, .int .i64 q3, .int .i64 r1, .int .i64 r2, .int .i64 r3, .int .i64 s1, .int .i64 s2, .int .i64 s3]))).run Tryz.prog w = .ok (decide ((⟨a1, a2, a3⟩ : Fr) = ⟨p1, p2, p3⟩) && decide ((⟨b1, b2, b3⟩ : Fr) = ⟨q1, q2, q3⟩) && decide ((⟨c1, c2, c3⟩ : Fr) = ⟨r1, r2, r3⟩) && decide ((⟨d1, d2, d3⟩ : Fr) = ⟨s1, s2, s3⟩)) w := by
  rw [run_equalIn_array w (d + 1 + 1) (#[.int .i64 a1, .int .i64 a2, .int .i64 a3, .int .i64 b1, .int .i64 b2, .int .i64 b3, .int .i64 c1, .int .i64 c2, .int .i64 c3, .int .i64 d1, .int .i64 d2, .int .i64 d3]) (#[.int .i64 p1, .int .i64 p2, .int .i64 p3, .int .i64 q1, .int .i64 q2, .int .i64 q3, .int .i64 r1, .int .i64 r2, .int .i64 r3, .int .i64 s1, .int .i64 s2, .int .i64 s3]) Tryz.underlying33 hi, hc, hr]
  have e0 := fun w => eqFr a1 a2 a3 p1 p2 p3 d w
  have e1 := fun w => eqFr b1 b2 b3 q1 q2 q3 d w
  have e2 := fun w => eqFr c1 c2 c3 r1 r2 r3 d w
  have e3 := fun w => eqFr d1 d2 d3 s1 s2 s3 d w
  generalize decide ((⟨a1, a2, a3⟩ : Fr) = ⟨p1, p2, p3⟩) = x0 at e0 ⊢
  generalize decide ((⟨b1, b2, b3⟩ : Fr) = ⟨q1, q2, q3⟩) = x1 at e1 ⊢
  generalize decide ((⟨c1, c2, c3⟩ : Fr) = ⟨r1, r2, r3⟩) = x2 at e2 ⊢
  generalize decide ((⟨d1, d2, d3⟩ : Fr) = ⟨s1, s2, s3⟩) = x3 at e3 ⊢
  have part_a : ∀ w, (Go.part 32 (#[.int .i64 a1, .int .i64 a2, .int .i64 a3, .int .i64 b1, .int .i64 b2, .int .i64 b3, .int .i64 c1, .int .i64 c2, .int .i64 c3, .int .i64 d1, .int .i64 d2, .int .i64 d3]) 0).run Tryz.prog w = .ok (.agg #[.int .i64 a1, .int .i64 a2, .int .i64 a3]) w := fun w => by simp [Go.part, go_sem]
  have part_b : ∀ w, (Go.part 32 (#[.int .i64 a1, .int .i64 a2, .int .i64 a3, .int .i64 b1, .int .i64 b2, .int .i64 b3, .int .i64 c1, .int .i64 c2, .int .i64 c3, .int .i64 d1, .int .i64 d2, .int .i64 d3]) 3).run Tryz.prog w = .ok (.agg #[.int .i64 b1, .int .i64 b2, .int .i64 b3]) w := fun w => by simp [Go.part, go_sem]
  have part_c : ∀ w, (Go.part 32 (#[.int .i64 a1, .int .i64 a2, .int .i64 a3, .int .i64 b1, .int .i64 b2, .int .i64 b3, .int .i64 c1, .int .i64 c2, .int .i64 c3, .int .i64 d1, .int .i64 d2, .int .i64 d3]) 6).run Tryz.prog w = .ok (.agg #[.int .i64 c1, .int .i64 c2, .int .i64 c3]) w := fun w => by simp [Go.part, go_sem]
  have part_d : ∀ w, (Go.part 32 (#[.int .i64 a1, .int .i64 a2, .int .i64 a3, .int .i64 b1, .int .i64 b2, .int .i64 b3, .int .i64 c1, .int .i64 c2, .int .i64 c3, .int .i64 d1, .int .i64 d2, .int .i64 d3]) 9).run Tryz.prog w = .ok (.agg #[.int .i64 d1, .int .i64 d2, .int .i64 d3]) w := fun w => by simp [Go.part, go_sem]
  have part_p : ∀ w, (Go.part 32 (#[.int .i64 p1, .int .i64 p2, .int .i64 p3, .int .i64 q1, .int .i64 q2, .int .i64 q3, .int .i64 r1, .int .i64 r2, .int .i64 r3, .int .i64 s1, .int .i64 s2, .int .i64 s3]) 0).run Tryz.prog w = .ok (.agg #[.int .i64 p1, .int .i64 p2, .int .i64 p3]) w := fun w => by simp [Go.part, go_sem]
  have part_q : ∀ w, (Go.part 32 (#[.int .i64 p1, .int .i64 p2, .int .i64 p3, .int .i64 q1, .int .i64 q2, .int .i64 q3, .int .i64 r1, .int .i64 r2, .int .i64 r3, .int .i64 s1, .int .i64 s2, .int .i64 s3]) 3).run Tryz.prog w = .ok (.agg #[.int .i64 q1, .int .i64 q2, .int .i64 q3]) w := fun w => by simp [Go.part, go_sem]
  have part_r : ∀ w, (Go.part 32 (#[.int .i64 p1, .int .i64 p2, .int .i64 p3, .int .i64 q1, .int .i64 q2, .int .i64 q3, .int .i64 r1, .int .i64 r2, .int .i64 r3, .int .i64 s1, .int .i64 s2, .int .i64 s3]) 6).run Tryz.prog w = .ok (.agg #[.int .i64 r1, .int .i64 r2, .int .i64 r3]) w := fun w => by simp [Go.part, go_sem]
  have part_s : ∀ w, (Go.part 32 (#[.int .i64 p1, .int .i64 p2, .int .i64 p3, .int .i64 q1, .int .i64 q2, .int .i64 q3, .int .i64 r1, .int .i64 r2, .int .i64 r3, .int .i64 s1, .int .i64 s2, .int .i64 s3]) 9).run Tryz.prog w = .ok (.agg #[.int .i64 s1, .int .i64 s2, .int .i64 s3]) w := fun w => by simp [Go.part, go_sem]
  cases x0 <;> cases x1 <;> cases x2 <;> cases x3 <;> simp [Op.eqItems, e0, e1, e2, e3, part_a, part_b, part_c, part_d, part_p, part_q, part_r, part_s]
 have hd : decide ((⟨⟨a1, a2, a3⟩, ⟨b1, b2, b3⟩, ⟨c1, c2, c3⟩, ⟨d1, d2, d3⟩⟩ : M4) = ⟨⟨p1, p2, p3⟩, ⟨q1, q2, q3⟩, ⟨r1, r2, r3⟩, ⟨s1, s2, s3⟩⟩) = (decide ((⟨a1, a2, a3⟩ : Fr) = ⟨p1, p2, p3⟩) && decide ((⟨b1, b2, b3⟩ : Fr) = ⟨q1, q2, q3⟩) && decide ((⟨c1, c2, c3⟩ : Fr) = ⟨r1, r2, r3⟩) && decide ((⟨d1, d2, d3⟩ : Fr) = ⟨s1, s2, s3⟩)) := by
  rw [Bool.eq_iff_iff]
  simp [and_assoc]
 rw [hd]
 generalize (decide ((⟨a1, a2, a3⟩ : Fr) = ⟨p1, p2, p3⟩) && decide ((⟨b1, b2, b3⟩ : Fr) = ⟨q1, q2, q3⟩) && decide ((⟨c1, c2, c3⟩ : Fr) = ⟨r1, r2, r3⟩) && decide ((⟨d1, d2, d3⟩ : Fr) = ⟨s1, s2, s3⟩)) = x at hA ⊢
 cases x <;> simp [Program.fieldsOf, Tryz.underlying35, Op.eqFields, go_sem, hA]
theorem eqlSt (v u : M4) (w : World) : (binOp .eql 35 v.v u.v).run Tryz.prog w = .ok (.bool (decide (v = u))) w := by
 have h := eqSt v u 9996 w
 unfold M4.v at h ⊢
 rw [run_eql_struct, h]
 rfl
end
end Go.Proofs.YtmmjkchjgeklnaaGreatDoor
