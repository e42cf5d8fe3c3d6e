/-
  Walks: powers of vectors, products: the program's.
-/
import Derived.Test.YtmmjkchjgeklnaaDoorDet
import Derived.Test.YtmmjkchjgeklnaaDoorMatE
namespace Go.Proofs.YtmmjkchjgeklnaaDoor
open Go.RowKit

theorem jpower_flag (x y : Fr) : ((((false || !(x.valid && y.valid)) || !(fpower x).2) || !(fpower y).2) || !(jpower x y).2) = !(jpower x y).2 := by
  rcases h : (jpower x y).2 with _ | _
  · simp
  · have h0 := h
    unfold jpower fadd2 at h
    split at h
    · rename_i hv
      rw [Bool.and_eq_true] at hv
      have hx : (fpower x).2 = true := by
        rcases hh : (fpower x).2 with _ | _
        · rw [fpower_none hh] at hv; exact absurd hv.1 (by decide)
        · rfl
      have hy : (fpower y).2 = true := by
        rcases hh : (fpower y).2 with _ | _
        · rw [fpower_none hh] at hv; exact absurd hv.2 (by decide)
        · rfl
      have vx : x.valid = true := by
        rcases hh : x.valid with _ | _
        · unfold fpower at hx; rw [hh] at hx; cases hx
        · rfl
      have vy : y.valid = true := by
        rcases hh : y.valid with _ | _
        · unfold fpower at hy; rw [hh] at hy; cases hy
        · rfl
      rw [hx, hy, vx, vy]; rfl
    · cases h
theorem jpower_none2 (x y : Fr) : (jpower x y).2 = false → (jpower x y).1 = Fr.none := fun h => fadd2_none h
set_option maxRecDepth 4000 in
set_option maxHeartbeats 1000000 in
theorem iJonesPower (x y : Fr) (w : World) : Calls Tryd.prog 28 #[jvv x y] w (fun e w' => e = .returned (frv (jpower x y)) ∧ Ex w w') := by
  have k1 := fun w => iJonesValid x y w
  obtain ⟨x1, x2, x3⟩ := x
  obtain ⟨y1, y2, y3⟩ := y
  rcases hp : fpower ⟨x1, x2, x3⟩ with ⟨⟨p1, p2, p3⟩, pk⟩
  rcases hq : fpower ⟨y1, y2, y3⟩ with ⟨⟨q1, q2, q3⟩, qk⟩
  rcases hr : fadd2 ⟨p1, p2, p3⟩ ⟨q1, q2, q3⟩ with ⟨⟨r1, r2, r3⟩, rk⟩
  have e0 : jpower ⟨x1, x2, x3⟩ ⟨y1, y2, y3⟩ = (⟨r1, r2, r3⟩, rk) := by simp only [jpower, hp, hq, hr]
  rw [e0]
  have hf := jpower_flag ⟨x1, x2, x3⟩ ⟨y1, y2, y3⟩
  rw [hp, hq, e0] at hf
  simp only at hf
  have hn := jpower_none2 ⟨x1, x2, x3⟩ ⟨y1, y2, y3⟩
  rw [e0] at hn
  simp only at hn
  simp only [jvv, frv, Fr.v] at k1 ⊢
  generalize ((⟨x1, x2, x3⟩ : Fr).valid && (⟨y1, y2, y3⟩ : Fr).valid) = v at *
  have HP := Lib.hid hp
  have HQ := Lib.hid hq
  have HR := Lib.hid hr
  have HF := Lib.hid hf
  have HN := Lib.hid hn
  clear e0 hp hq hr hf hn
  have K1 := Lib.hid k1
  clear k1
  have hS := Sees.refl w
  have hC := True.intro
  go_enter Tryd.func28, Tryd.ntmps28
  go_wp2_with (first | (go_at_call 52; (with_reducible refine (K1.out _).mono ?_); rintro e wn ⟨rfl, hx⟩; replace hS := SeesS.after (W := w) hx; clear hx; (try simp only [World.size_alloc] at hS); replace hC := hS.reads; simp only [reads_cons, reads_nil] at hC) | (go_at_call 44; (with_reducible refine (need_see w).mono ?_); rintro e wn ⟨rfl, hS⟩; have hC := hS.reads; simp only [reads_cons, reads_nil] at hC))
  refine wp_region_got (St := fun _ _ => True) 11 _ (B := fun b w' => SeesS w w' _ b _) (by kernel_rfl) (by kernel_rfl) (hS.drewW) (by exact fun _ _ _ _ _ h => h) ?_
  repeat (first
    | (apply lexDet_pure
       · rfl
       · intro b wb hB Q1 hQ1
         have hS := hB
         have hC := hS.reads
         simp only [reads_cons, reads_nil] at hC
         go_wp2_with fail
         exact hQ1 _ trivial hB
       · exact ⟨_, rfl⟩)
    | (apply lexDet_step
       · rfl
       · intro b wb hB Q1 hQ1
         have hS := hB
         have hC := hS.reads
         simp only [reads_cons, reads_nil] at hC
         go_wp2_with (first | (go_at_call 57; (with_reducible refine (power_det hB HP.out).mono ?_); rintro e wn ⟨rfl, hN, hM⟩) | (go_at_call 57; (with_reducible refine (power_det hB HQ.out).mono ?_); rintro e wn ⟨rfl, hN, hM⟩) | (go_at_call 54; (with_reducible refine (add_det hB HR.out).mono ?_); rintro e wn ⟨rfl, hN, hM⟩))
         exact hQ1 _ trivial hN
       · exact ⟨_, rfl⟩))
  refine lexDet_zero ?_
  intro wz hz
  rw [HF.out] at hz
  rcases rk with _ | _
  · have hq := HN.out rfl
    simp only [Fr.none, Fr.mk.injEq] at hq
    obtain ⟨rfl, rfl, rfl⟩ := hq
    go_wp2_with (go_at_call 56; (with_reducible refine (gotFrac_true _ _ _ _ _ hz.sum).mono ?_); rintro e wn ⟨rfl, hx⟩; have hS := SeesS.ex hz hx; have hC := hS.reads; simp only [reads_cons, reads_nil] at hC; have hE := hS.rel (by omega))
    refine bodyPost_ret ?_ rfl ⟨rfl, ?_⟩
    · simp [results, Tryd.results28, go_sem, hC]
    · repeat' (with_reducible first | exact hE | exact Ex.refl _ | assumption | refine Ex.alloc ?_ _ | refine Ex.drewN ?_ _ | refine Ex.drew ?_ | refine Ex.setCell ?_ (by simp <;> omega) _)
  · go_wp2_with (go_at_call 56; (with_reducible refine (gotFrac_false _ _ _ _ _ hz.sum).mono ?_); rintro e wn ⟨rfl, hx⟩; have hS := SeesS.ex hz hx; have hC := hS.reads; simp only [reads_cons, reads_nil] at hC; have hE := hS.rel (by omega))
    refine bodyPost_ret ?_ rfl ⟨rfl, ?_⟩
    · simp [results, Tryd.results28, go_sem, hC]
    · repeat' (with_reducible first | exact hE | exact Ex.refl _ | assumption | refine Ex.alloc ?_ _ | refine Ex.drewN ?_ _ | refine Ex.drew ?_ | refine Ex.setCell ?_ (by simp <;> omega) _)
end Go.Proofs.YtmmjkchjgeklnaaDoor
