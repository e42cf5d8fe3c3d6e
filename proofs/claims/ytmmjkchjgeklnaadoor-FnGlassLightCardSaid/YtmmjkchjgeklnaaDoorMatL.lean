/-
  Walks: plates: the program's.
-/
import Derived.Test.YtmmjkchjgeklnaaDoorMatL0
import Derived.Test.YtmmjkchjgeklnaaDoorMatL2
import Derived.Test.YtmmjkchjgeklnaaDoorMatV
namespace Go.Proofs.YtmmjkchjgeklnaaDoor
open Go.RowKit

set_option maxRecDepth 8000 in
set_option maxHeartbeats 2000000 in
theorem iMatPlate (p q k : Int) (w : World) [hG : Glob w] : Calls Tryd.prog 25 #[.int .i64 p, .int .i64 q, .int .i64 k] w (fun e w' => e = .returned (m4v (mplate p q k)) ∧ Ex w w') := by
  have kr := fun w => iMatRotator p q w
  have ki := fun w => within_q k 0 3 w
  have hrd := mrot_flag p q
  rcases h1 : (mrot p q).2 with _ | _
  · have e : mplate p q k = (M4.none, false) := by unfold mplate; rw [← hrd, h1]; rfl
    rw [e]
    generalize mrot p q = r at *
    obtain ⟨⟨⟨a1, a2, a3⟩, ⟨b1, b2, b3⟩, ⟨c1, c2, c3⟩, ⟨d1, d2, d3⟩⟩, rk⟩ := r
    simp only at h1
    subst h1
    simp only [m4v, M4.v, M4.none, Fr.none] at kr ⊢
    clear e hrd ki
    have KR := Lib.hid kr
    clear kr
    have hS := Sees.refl w
    have hC := True.intro
    go_enter Tryd.func25, Tryd.ntmps25
    go_wp2_with (go_at_call 48; (with_reducible refine (KR.out _).mono ?_); rintro e w1 ⟨rfl, hx⟩; replace hS := Sees.after (W := w) hx; clear hx; replace hC := hS.reads; simp only [reads_cons, reads_nil, World.size_alloc] at hC)
    refine bodyPost_ret ?_ rfl ⟨rfl, ?_⟩
    · simp [results, Tryd.results25, go_sem, hC]
    · repeat' (with_reducible first | exact hS.ex | exact Ex.refl _ | assumption | refine Ex.alloc ?_ _ | refine Ex.drewN ?_ _ | refine Ex.drew ?_ | refine Ex.setCell ?_ (by simp <;> omega) _)
  · rcases h2 : inB2 k 0 3 with _ | _
    · have e : mplate p q k = (M4.none, false) := by unfold mplate; rw [h2, Bool.and_false]; rfl
      rw [e]
      generalize mrot p q = r at *
      obtain ⟨⟨⟨a1, a2, a3⟩, ⟨b1, b2, b3⟩, ⟨c1, c2, c3⟩, ⟨d1, d2, d3⟩⟩, rk⟩ := r
      simp only at h1
      subst h1
      rw [h2] at ki
      simp only [m4v, M4.v, M4.none, Fr.none] at kr ⊢
      clear e hrd h2
      have KR := Lib.hid kr
      have KI := Lib.hid ki
      clear kr ki
      have hS := Sees.refl w
      have hC := True.intro
      go_enter Tryd.func25, Tryd.ntmps25
      go_wp2_with (first | (go_at_call 48; (with_reducible refine (KR.out _).mono ?_); rintro e w1 ⟨rfl, hx⟩; replace hS := Sees.after (W := w) hx; clear hx; replace hC := hS.reads; simp only [reads_cons, reads_nil, World.size_alloc] at hC) | (go_at_call 47; (with_reducible refine (KI.out _).mono ?_); rintro e wn ⟨rfl, rfl⟩))
      refine bodyPost_ret ?_ rfl ⟨rfl, ?_⟩
      · simp [results, Tryd.results25, go_sem, hC]
      · repeat' (with_reducible first | exact hS.ex | exact Ex.refl _ | assumption | refine Ex.alloc ?_ _ | refine Ex.drewN ?_ _ | refine Ex.drew ?_ | refine Ex.setCell ?_ (by simp <;> omega) _)
    · have hk := inB2_out h2
      clear kr ki hrd
      obtain rfl | rfl | rfl | rfl : k = 0 ∨ k = 1 ∨ k = 2 ∨ k = 3 := by omega
      · exact iMatPlate0 p q w h1
      · exact iMatPlate1 p q w h1
      · exact iMatPlate2 p q w h1
      · exact iMatPlate3 p q w h1
end Go.Proofs.YtmmjkchjgeklnaaDoor
