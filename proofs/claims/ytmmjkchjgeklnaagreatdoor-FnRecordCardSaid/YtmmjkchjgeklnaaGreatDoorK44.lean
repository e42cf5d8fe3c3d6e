/-
  Proved: what functions compute, part 44. No condition.
-/
import Derived.Test.YtmmjkchjgeklnaaGreatDoorK41
import Derived.Test.YtmmjkchjgeklnaaGreatDoorK43
set_option linter.unusedSimpArgs false
set_option linter.unusedVariables false
set_option maxRecDepth 20000
set_option maxHeartbeats 8000000
namespace Go.Proofs.YtmmjkchjgeklnaaGreatDoor
section
open Go.RowKit

attribute [local go_sem] Zk Zj
def DrwSV (w : World) : Ending → World → Prop := fun e w' => ∃ (s : ByteArray) (v : M4), e = .returned (.tuple #[.string s, v.v]) ∧ s.size ≤ 1000 ∧ Ex w w'
theorem drawBenchRead (A : Option Addr) (xs : List Int) (cap : Nat) (w : World) (hB : Vd w A xs) (hl : xs.length ≤ 9223372036854775807) (hcap : xs.length ≤ cap) (hcap2 : cap ≤ 9223372036854775807) :
  Calls Tryz.prog 48 #[.slice A xs.length cap] w (DrwSV w) := by
 have KO := Gv (fun w hB => Ou A xs cap w hB hl hcap hcap2)
 go_enter Tryz.func48, Tryz.ntmps48
 go_upto_region 1 with fail
 have bR0 := Box.new w #[.int .i64 0, .int .i64 0, .int .i64 0, .int .i64 0, .int .i64 0, .int .i64 0, .int .i64 0, .int .i64 0, .int .i64 0, .int .i64 0, .int .i64 0, .int .i64 0] 35
 have hE0 : Ex w (w.alloc (.cells #[.int .i64 0, .int .i64 0, .int .i64 0, .int .i64 0, .int .i64 0, .int .i64 0, .int .i64 0, .int .i64 0, .int .i64 0, .int .i64 0, .int .i64 0, .int .i64 0] 35)) := by repeat' (with_reducible first | exact Ex.refl _ | refine Ex.alloc ?_ _)
 have hB0 : Vd (w.alloc (.cells #[.int .i64 0, .int .i64 0, .int .i64 0, .int .i64 0, .int .i64 0, .int .i64 0, .int .i64 0, .int .i64 0, .int .i64 0, .int .i64 0, .int .i64 0, .int .i64 0] 35)) A xs := hB.ex hE0
 generalize (w.alloc (.cells #[.int .i64 0, .int .i64 0, .int .i64 0, .int .i64 0, .int .i64 0, .int .i64 0, .int .i64 0, .int .i64 0, .int .i64 0, .int .i64 0, .int .i64 0, .int .i64 0] 35)) = W0 at *
 have HN0 := Gv (Nat.ne_of_lt bR0.lt)
 clear hB hcap hcap2 hl
 go_wp2_with fail
 refine (KO.out _ hB0).mono ?_
 rintro e u1 ⟨bs, cap2, rfl, hBs, hbl, hb, hE, -⟩
 clear KO hB0
 replace bR0 := bR0.ex hE
 go_wp2_with fail
 refine (Kw hBs hbl W0.heap.size cap2 0 u1 hE (Nat.le_refl _) hb (by omega)).mono ?_
 rintro e u2 ⟨s, a2, rfl, hs, ha2, hd, hb2⟩
 replace hE := hd.ex W0 hE (Nat.le_refl _)
 replace bR0 := hd.box _ _ _ HN0.out bR0
 clear hd hb
 go_wp2_with fail
 refine (l91Stokes_any hBs hbl W0.heap.size cap2 a2 u2 hE (Nat.le_refl _) hb2 (by omega)).mono ?_
 rintro e u3 ⟨x, y, z, t, a3, rfl, ha3, hd, hb3⟩
 replace hE := hd.ex W0 hE (Nat.le_refl _)
 replace bR0 := hd.box _ _ _ HN0.out bR0
 clear hd hb2 hb3
 obtain ⟨p1, p2, p3⟩ := x
 obtain ⟨q1, q2, q3⟩ := y
 obtain ⟨r1, r2, r3⟩ := z
 obtain ⟨s1, s2, s3⟩ := t
 unfold Sv
 simp only
 replace hE := hE0.trans hE
 have cR := bR0.cell
 have zR := bR0.lt
 have fR := bR0.frozen
 go_wp2_with fail
 refine Gq (v := .tuple #[.string s, .agg #[.int .i64 p1, .int .i64 p2, .int .i64 p3, .int .i64 q1, .int .i64 q2, .int .i64 q3, .int .i64 r1, .int .i64 r2, .int .i64 r3, .int .i64 s1, .int .i64 s2, .int .i64 s3]]) ?_ rfl ⟨s, ⟨⟨p1, p2, p3⟩, ⟨q1, q2, q3⟩, ⟨r1, r2, r3⟩, ⟨s1, s2, s3⟩⟩, rfl, by omega, ?_⟩
 ·simp [results, Tryz.results48, go_sem, cR]
 ·repeat' (with_reducible first | exact hE | refine Ex.setCell ?_ (by simp <;> omega) _)
theorem Gz (A : Option Addr) (xs : List Int) (cap : Nat) (w : World) (hB : Vd w A xs) (hl : xs.length ≤ 9223372036854775807) (hcap : xs.length ≤ cap) (hcap2 : cap ≤ 9223372036854775807) :
  Calls Tryz.prog 29 #[.slice A xs.length cap] w (DrwSV w) := by
 have KO := Gv (fun w hB => drawBenchRead A xs cap w hB hl hcap hcap2)
 go_enter Tryz.func29, Tryz.ntmps29
 go_upto_region 1 with fail
 have bR := Box.new w #[.int .i64 0, .int .i64 0, .int .i64 0, .int .i64 0, .int .i64 0, .int .i64 0, .int .i64 0, .int .i64 0, .int .i64 0, .int .i64 0, .int .i64 0, .int .i64 0] 35
 have hE := (Ex.refl w).alloc (.cells #[.int .i64 0, .int .i64 0, .int .i64 0, .int .i64 0, .int .i64 0, .int .i64 0, .int .i64 0, .int .i64 0, .int .i64 0, .int .i64 0, .int .i64 0, .int .i64 0] 35)
 have hB0 := hB.ex hE
 generalize w.alloc (.cells #[.int .i64 0, .int .i64 0, .int .i64 0, .int .i64 0, .int .i64 0, .int .i64 0, .int .i64 0, .int .i64 0, .int .i64 0, .int .i64 0, .int .i64 0, .int .i64 0] 35) = W0 at *
 go_wp2_with fail
 refine (KO.out _ hB0).mono ?_
 rintro e u1 ⟨s, v, rfl, hs, hx⟩
 replace bR := bR.ex hx
 replace hE := hE.trans hx
 obtain ⟨⟨p1, p2, p3⟩, ⟨q1, q2, q3⟩, ⟨r1, r2, r3⟩, ⟨s1, s2, s3⟩⟩ := v
 simp only [M4.v]
 have cR := bR.cell
 have zR := bR.lt
 have fR := bR.frozen
 clear hB hB0 hx
 go_wp2_with fail
 refine Gq (v := .tuple #[.string s, .agg #[.int .i64 p1, .int .i64 p2, .int .i64 p3, .int .i64 q1, .int .i64 q2, .int .i64 q3, .int .i64 r1, .int .i64 r2, .int .i64 r3, .int .i64 s1, .int .i64 s2, .int .i64 s3]]) ?_ rfl ⟨s, ⟨⟨p1, p2, p3⟩, ⟨q1, q2, q3⟩, ⟨r1, r2, r3⟩, ⟨s1, s2, s3⟩⟩, rfl, by omega, ?_⟩
 ·simp [results, Tryz.results29, go_sem, cR]
 ·repeat' (with_reducible first | exact hE | refine Ex.setCell ?_ (by simp <;> omega) _)
end
end Go.Proofs.YtmmjkchjgeklnaaGreatDoor
