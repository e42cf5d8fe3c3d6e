/-
  Proved: what functions compute, part 47. No condition.
-/
import Derived.Test.YtmmjkchjgeklnaaGreatDoorK46
import Derived.Test.YtmmjkchjgeklnaaGreatDoorK35
set_option linter.unusedSimpArgs false
set_option linter.unusedVariables false
set_option maxRecDepth 20000
set_option maxHeartbeats 8000000
namespace Go.Proofs.YtmmjkchjgeklnaaGreatDoor
section
open Go.RowKit

theorem eqRc (S : ByteArray) (v : M4) (h : Int) (d : Nat) (w : World) : (Op.equalIn (d + 1 + 1 + 1 + 1 + 1) 37 (Ws S v h) (Ws S v h)).run Tryz.prog w = .ok true w := by
 have hu : Tryz.prog.underlying 37 = some (.struct (Tryz.prog.fieldsOf 37)) := by kernel_rfl
 have hp : Tryz.prog.stoodInHeld 37 = false := by kernel_rfl
 have hs := fun w => eqSt v v d w
 rw [decide_eq_true rfl] at hs
 obtain ⟨⟨a1, a2, a3⟩, ⟨b1, b2, b3⟩, ⟨c1, c2, c3⟩, ⟨d1, d2, d3⟩⟩ := v
 simp only [M4.v] at hs
 unfold Ws
 rw [run_equalIn_struct w _ _ _ _ hu hp]
 have p0 : ∀ w, (Go.part 9 (#[.string S, .int .i64 a1, .int .i64 a2, .int .i64 a3, .int .i64 b1, .int .i64 b2, .int .i64 b3, .int .i64 c1, .int .i64 c2, .int .i64 c3, .int .i64 d1, .int .i64 d2, .int .i64 d3, .int .u32 h]) 0).run Tryz.prog w = .ok (.string S) w := fun w => by simp [Go.part, go_sem]
 have p1 : ∀ w, (Go.part 35 (#[.string S, .int .i64 a1, .int .i64 a2, .int .i64 a3, .int .i64 b1, .int .i64 b2, .int .i64 b3, .int .i64 c1, .int .i64 c2, .int .i64 c3, .int .i64 d1, .int .i64 d2, .int .i64 d3, .int .u32 h]) 1).run Tryz.prog w = .ok (.agg #[.int .i64 a1, .int .i64 a2, .int .i64 a3, .int .i64 b1, .int .i64 b2, .int .i64 b3, .int .i64 c1, .int .i64 c2, .int .i64 c3, .int .i64 d1, .int .i64 d2, .int .i64 d3]) w := fun w => by simp [Go.part, go_sem]
 have p2 : ∀ w, (Go.part 27 (#[.string S, .int .i64 a1, .int .i64 a2, .int .i64 a3, .int .i64 b1, .int .i64 b2, .int .i64 b3, .int .i64 c1, .int .i64 c2, .int .i64 c3, .int .i64 d1, .int .i64 d2, .int .i64 d3, .int .u32 h]) 13).run Tryz.prog w = .ok (.int .u32 h) w := fun w => by simp [Go.part, go_sem]
 have e0 : ∀ w, (Op.equalIn (d + 1 + 1 + 1 + 1) 9 (.string S) (.string S)).run Tryz.prog w = .ok true w := fun w => by rw [run_equalIn_string w _ _ _ _ Tryz.underlying9]; simp
 have e2 : ∀ w, (Op.equalIn (d + 1 + 1 + 1 + 1) 27 (.int .u32 h) (.int .u32 h)).run Tryz.prog w = .ok true w := fun w => by rw [run_equalIn_int w _ _ _ _ _ _ Tryz.underlying27]; simp
 simp [Program.fieldsOf, Tryz.underlying37, Op.eqFields, p0, p1, p2, e0, hs, e2]
theorem eqlRc (S : ByteArray) (v : M4) (h : Int) (w : World) : (binOp .eql 37 (Ws S v h) (Ws S v h)).run Tryz.prog w = .ok (.bool true) w := by
 have e := eqRc S v h 9995 w
 unfold Ws at e ⊢
 rw [run_eql_struct, e]
 rfl
theorem neqRc (S : ByteArray) (v : M4) (h : Int) (w : World) : (binOp .neq 37 (Ws S v h) (Ws S v h)).run Tryz.prog w = .ok (.bool false) w := by
 have e := eqRc S v h 9995 w
 unfold Ws at e ⊢
 rw [run_neq_struct, e]
 rfl
theorem hash_bd (v : M4) : 0 ≤ hash v ∧ hash v < 4294967296 := by
 unfold hash
 generalize Ti (Ti (Ti 2166136261 (Xf v.a).1) (Xf v.b).1) (Xf v.c).1 = x
 unfold Ti
 omega
theorem recOf_ok {l : List UInt8} {v : M4} {h : Int} (e : Vw l v = (h, true)) : 0 ≤ h ∧ h < 4294967296 := by
 unfold Vw at e
 split at e
 ·injection e with e1 _
  subst e1
  exact hash_bd _
 ·cases e
theorem right_same {l : List UInt8} {v : M4} {h : Int} (e : Vw l v = (h, true)) : Yp l v h = true := by
 unfold Yp
 rw [e]
 simp
theorem right_next {l : List UInt8} {v : M4} {h : Int} (e : Vw l v = (h, true)) : Yp l v ((h + 1) % 4294967296) = false := by
 have hb := recOf_ok e
 unfold Yp
 rw [e]
 simp
 omega
theorem right_is {l : List UInt8} {v : M4} {h : Int} (e : Yp l v h = true) : Vw l v = (h, true) := by
 unfold Yp at e
 generalize Vw l v = R at e ⊢
 obtain ⟨x, ok⟩ := R
 simp at e
 obtain ⟨rfl, rfl⟩ := e
 rfl
end
end Go.Proofs.YtmmjkchjgeklnaaGreatDoor
