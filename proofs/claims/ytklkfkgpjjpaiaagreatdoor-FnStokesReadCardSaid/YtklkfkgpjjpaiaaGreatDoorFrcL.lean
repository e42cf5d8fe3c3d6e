/-
  Walks: lowest terms, the program's and the reference's.
-/
import Derived.Test.YtklkfkgpjjpaiaaGreatDoorFrcF
set_option linter.unusedSimpArgs false
set_option linter.unusedVariables false
namespace Go.Proofs.YtklkfkgpjjpaiaaGreatDoor
open Go.RowKit

def FrGot (w : World) (r : Fr × Bool) : Ending → World → Prop := fun e w' => e = .returned (frv r) ∧ Ex w w'
theorem FrGot.spell {P : Program} {f : Nat} {args : Array Value} {w : World} {a b c : Int} {ok : Bool} (h : Calls P f args w (FrGot w (⟨a, b, c⟩, ok))) :
    Calls P f args w fun e w' => e = .returned (.tuple #[.agg #[.int .i64 a, .int .i64 b, .int .i64 c], .bool ok]) ∧ Ex w w' := h

set_option maxHeartbeats 1000000 in
theorem l2Low_any (re im den : Int) (w : World) (h1 : -9223372036854775807 ≤ re ∧ re ≤ 9223372036854775807) (h2 : -9223372036854775807 ≤ im ∧ im ≤ 9223372036854775807) (h3 : 1 ≤ den ∧ den ≤ 9223372036854775807) :
    Calls Tryz.prog 49 #[.int .i64 re, .int .i64 im, .int .i64 den] w (FrGot w (flow re im den)) := by
  have g1 := gcd3_pos re im den h3.1
  have g2 := gcd3_le re im den h3.1
  have d1 := fun w => l2Gcd_any den re w (by omega) (by omega)
  have hgle : Nat.gcd den.natAbs re.natAbs ≤ 9223372036854775807 := Nat.le_trans (Nat.gcd_le_left _ (by omega)) (show den.natAbs ≤ _ by omega)
  obtain ⟨p, hp, hp2⟩ : ∃ g : Nat, g = Nat.gcd den.natAbs re.natAbs ∧ g ≤ 9223372036854775807 := ⟨_, rfl, hgle⟩
  rw [← hp] at d1
  obtain ⟨g, hg⟩ : ∃ g : Nat, g = Nat.gcd p im.natAbs := ⟨_, rfl⟩
  have d2 := fun w => l2Gcd_any p im w (by omega) (by omega)
  rw [Int.natAbs_natCast, ← hg] at d2
  have e2 : gcd3 re im den = (g : Int) := by
    unfold gcd3
    rw [hg, hp, Nat.gcd_comm (Nat.gcd re.natAbs im.natAbs) den.natAbs, ← Nat.gcd_assoc]
  rw [e2] at g1 g2
  have b1 := tdiv_bd re g 9223372036854775807 h1.1 h1.2
  have b2 := tdiv_bd im g 9223372036854775807 h2.1 h2.2
  have b3 := tdiv_bd den g 9223372036854775807 (by omega) h3.2
  have hv := flow_valid_iff re im den h3.1
  rw [e2] at hv
  obtain ⟨x, hx⟩ : ∃ x, re.tdiv (g : Int) = x := ⟨_, rfl⟩
  obtain ⟨y, hy⟩ : ∃ x, im.tdiv (g : Int) = x := ⟨_, rfl⟩
  obtain ⟨z, hz⟩ : ∃ x, den.tdiv (g : Int) = x := ⟨_, rfl⟩
  rw [hx] at b1
  rw [hy] at b2
  rw [hz] at b3
  rw [hx, hy, hz] at hv
  have hf := flow_of' e2 hx hy hz hv
  have D1 := Lib.hid d1
  have D2 := Lib.hid d2
  have hg0 : ((g : Int) != 0) = true := by simp; omega
  have w1 := IntWalk.i64_in x (by omega)
  have w2 := IntWalk.i64_in y (by omega)
  have w3 := IntWalk.i64_in z (by omega)
  clear d1 d2 hp hg e2 hgle hv
  have k1 := fun w => sFracValid x y z w
  rcases hi1 : fvalid x y z with _ | _
  all_goals
    rw [hi1] at k1 hf
    simp at hf
    rw [hf]
    have K1 := Lib.hid k1
    clear k1 hf hi1
    go_enter Tryz.func49, Tryz.ntmps49
    go_wp2_with ((go_at_call 57; (first | (with_reducible refine (D1.out _).mono ?_) | (with_reducible refine (D2.out _).mono ?_)); rintro e wn ⟨rfl, d, rfl⟩))
    go_region
    go_wp2_with fail
    refine (K1.out _).mono ?_
    rintro e w5 ⟨rfl, hx⟩
    have hE : Ex w w5 := by
      refine Ex.trans ?_ hx
      repeat' (with_reducible first | exact Ex.refl _ | assumption | refine Ex.alloc ?_ _ | refine Ex.drewN ?_ _ | refine Ex.drew ?_ | refine Ex.setCell ?_ (by simp <;> omega) _)
    have hb := (Box.new _ #[.int .i64 x, .int .i64 y, .int .i64 z] 24).ex hx
    have hb0 : Box w5 w.heap.size 24 #[.int .i64 0, .int .i64 0, .int .i64 0] := by
      refine Box.ex (Box.new w _ _) (Ex.trans ?_ hx)
      repeat' (with_reducible first | exact Ex.refl _ | assumption | refine Ex.alloc ?_ _ | refine Ex.drewN ?_ _ | refine Ex.drew ?_ | refine Ex.setCell ?_ (by simp <;> omega) _)
    simp only [World.size_alloc, World.heap_drewN] at hb
    have c := hb.cell
    have c0 := hb0.cell
    have f0 := hb0.frozen
    clear hx hb
    go_wp2
    first
      | (refine bodyPost_ret (v := frv (Fr.none, false)) ?_ rfl ⟨rfl, ?_⟩; · simp [results, Tryz.results49, go_sem, frv, Fr.v, Fr.none, c0, f0])
      | (refine bodyPost_ret (v := frv (⟨x, y, z⟩, true)) ?_ rfl ⟨rfl, ?_⟩; · simp [results, Tryz.results49, go_sem, frv, Fr.v, c0, f0])
    repeat' (with_reducible first | exact Ex.refl _ | assumption | refine Ex.alloc ?_ _ | refine Ex.drewN ?_ _ | refine Ex.drew ?_ | refine Ex.setCell ?_ (by simp <;> omega) _)
end Go.Proofs.YtklkfkgpjjpaiaaGreatDoor
