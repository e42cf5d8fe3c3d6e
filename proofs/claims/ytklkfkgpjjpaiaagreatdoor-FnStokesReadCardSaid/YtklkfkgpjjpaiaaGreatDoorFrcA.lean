/-
  Walks: the greatest common divisor, the program's and the reference's.
-/
import Derived.Test.YtklkfkgpjjpaiaaGreatDoorLib
import Derived.Test.YtklkfkgpjjpaiaaGreatDoorFrcP
set_option linter.unusedSimpArgs false
set_option linter.unusedVariables false
namespace Go.Proofs.YtklkfkgpjjpaiaaGreatDoor
open Go.RowKit

set_option maxHeartbeats 400000 in
theorem divisor_any (x0 y0 : Nat) (w : World) (hx : x0 ≤ 9223372036854775807) (hy : y0 ≤ 9223372036854775807) :
    Calls Tryz.prog 71 #[.int .i64 x0, .int .i64 y0] w fun e w' => e = .returned (.int .i64 (Nat.gcd x0 y0 : Nat)) ∧ ∃ d, w' = w.drewN d := by
  go_enter Tryz.func71, Tryz.ntmps71
  go_wp2
  go_loopw [0, 1] (fun a b wr => ∃ x y : Nat, a = .int .i64 x ∧ b = .int .i64 y ∧ Hid (Nat.gcd x y = Nat.gcd x0 y0) ∧ x ≤ 9223372036854775807 ∧ y ≤ 9223372036854775807 ∧ ∃ d, wr = w.drewN d) (fun _ b _ => (intOf b).toNat)
  case atStart => exact ⟨x0, y0, rfl, rfl, rfl, hx, hy, 0, rfl⟩
  case round =>
    obtain ⟨x, y, rfl, rfl, HG, hx', hy', d, rfl⟩ := hrel
    by_cases h0 : y = 0
    · subst h0
      go_wp2
      go_ret
      have e := HG.out
      rw [Nat.gcd_zero_right] at e
      exact ⟨by rw [← e]; rfl, d, rfl⟩
    · obtain ⟨z, hz⟩ : ∃ z : Nat, z = x % y := ⟨_, rfl⟩
      have ht : (x : Int).tmod y = (z : Int) := by rw [hz]; rfl
      have hlt : z < y := by rw [hz]; exact Nat.mod_lt _ (by omega)
      have HZ := Lib.hid hz
      clear hz
      have h1 : ((y : Int) != 0) = true := by simp; omega
      go_wp2
      go_quiet (fail)
      go_wp2
      go_roundw
      case rel => exact ⟨y, z, rfl, rfl, show _ = _ by rw [HZ.out, gcd_loop, HG.out], hy', by omega, _, World.drewN_drewN _ _ _⟩
      case measure => simp [intOf]; omega

set_option maxHeartbeats 400000 in
theorem l2Gcd_any (a0 b0 : Int) (w : World) (ha : -9223372036854775807 ≤ a0 ∧ a0 ≤ 9223372036854775807) (hb : -9223372036854775807 ≤ b0 ∧ b0 ≤ 9223372036854775807) :
    Calls Tryz.prog 57 #[.int .i64 a0, .int .i64 b0] w fun e w' => e = .returned (.int .i64 (Nat.gcd a0.natAbs b0.natAbs : Nat)) ∧ ∃ d, w' = w.drewN d := by
  go_enter Tryz.func57, Tryz.ntmps57
  go_wp2
  go_loopw [0, 1] (fun a b wr => ∃ x y : Int, a = .int .i64 x ∧ b = .int .i64 y ∧ Hid (Nat.gcd x.natAbs y.natAbs = Nat.gcd a0.natAbs b0.natAbs) ∧ (-9223372036854775807 ≤ x ∧ x ≤ 9223372036854775807) ∧ (-9223372036854775807 ≤ y ∧ y ≤ 9223372036854775807) ∧ ∃ d, wr = w.drewN d) (fun _ b _ => (intOf b).natAbs)
  case atStart => exact ⟨a0, b0, rfl, rfl, rfl, ha, hb, 0, rfl⟩
  case round =>
    obtain ⟨x, y, rfl, rfl, HG, hx, hy, d, rfl⟩ := hrel
    rcases h0 : (y != 0) with _ | _
    · have hy0 : y = 0 := by simpa using h0
      have e : max x (-x) = (Nat.gcd a0.natAbs b0.natAbs : Nat) := by
        rw [← HG.out, hy0]
        simp only [Int.natAbs_zero, Nat.gcd_zero_right]
        omega
      have E := Lib.hid e
      have hw := IntWalk.i64_in (-x) (by omega)
      clear e hy0
      go_wp2
      all_goals
        go_ret
        refine ⟨?_, d, rfl⟩
        exact ret_int (by rw [← E.out]; omega)
    · have hy0 : y ≠ 0 := by simpa using h0
      obtain ⟨z, hz⟩ : ∃ z : Int, z = x.tmod y := ⟨_, rfl⟩
      have hlt : z.natAbs < y.natAbs := by rw [hz]; exact natAbs_tmod_lt x y hy0
      have hgz : Nat.gcd y.natAbs z.natAbs = Nat.gcd x.natAbs y.natAbs := by rw [hz]; exact natAbs_tmod_gcd x y
      have HZ := Lib.hid hgz
      have ht : x.tmod y = z := hz.symm
      clear hz hgz
      go_wp2
      go_roundw
      case rel => exact ⟨y, z, rfl, rfl, show _ = _ by rw [HZ.out, HG.out], hy, by omega, d, rfl⟩
      case measure => simp [intOf]; omega
end Go.Proofs.YtklkfkgpjjpaiaaGreatDoor
