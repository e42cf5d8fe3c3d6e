/-
  Proved: what functions compute, part 41. No condition.
-/
import Derived.Test.YtmmjkchjgeklnaaGreatDoorK40
set_option linter.unusedSimpArgs false
set_option linter.unusedVariables false
set_option maxRecDepth 20000
set_option maxHeartbeats 8000000
namespace Go.Proofs.YtmmjkchjgeklnaaGreatDoor
section
open Go.RowKit

attribute [local go_sem] Zk Zj
def DrwR (w : World) : Ending → World → Prop := fun e w' => ∃ (S : ByteArray) (v : M4) (h : Int), e = .returned (Ws S v h) ∧ S.size ≤ 1000 ∧ Ex w w'
theorem Iu (A : Option Addr) (xs : List Int) (cap : Nat) (w : World) (hB : Vd w A xs) (hl : xs.length ≤ 9223372036854775807) (hcap : xs.length ≤ cap) (hcap2 : cap ≤ 9223372036854775807) :
  Calls Tryz.prog 21 #[.slice A xs.length cap] w (DrwR w) := by
 have KO := Gv (fun w hB => Ou A xs cap w hB hl hcap hcap2)
 go_enter Tryz.func21, Tryz.ntmps21
 go_upto_region 1 with fail
 have bR0 := Box.new w #[.string ⟨#[]⟩, .int .i64 0, .int .i64 0, .int .i64 0, .int .i64 0, .int .i64 0, .int .i64 0, .int .i64 0, .int .i64 0, .int .i64 0, .int .i64 0, .int .i64 0, .int .i64 0, .int .u32 0] 37
 have hE0 : Ex w (w.alloc (.cells #[.string ⟨#[]⟩, .int .i64 0, .int .i64 0, .int .i64 0, .int .i64 0, .int .i64 0, .int .i64 0, .int .i64 0, .int .i64 0, .int .i64 0, .int .i64 0, .int .i64 0, .int .i64 0, .int .u32 0] 37)) := by repeat' (with_reducible first | exact Ex.refl _ | refine Ex.alloc ?_ _)
 have hB0 : Vd (w.alloc (.cells #[.string ⟨#[]⟩, .int .i64 0, .int .i64 0, .int .i64 0, .int .i64 0, .int .i64 0, .int .i64 0, .int .i64 0, .int .i64 0, .int .i64 0, .int .i64 0, .int .i64 0, .int .i64 0, .int .u32 0] 37)) A xs := hB.ex hE0
 generalize (w.alloc (.cells #[.string ⟨#[]⟩, .int .i64 0, .int .i64 0, .int .i64 0, .int .i64 0, .int .i64 0, .int .i64 0, .int .i64 0, .int .i64 0, .int .i64 0, .int .i64 0, .int .i64 0, .int .i64 0, .int .u32 0] 37)) = W0 at *
 have HN0 := Gv (Nat.ne_of_lt bR0.lt)
 clear hB hcap hcap2 hl
 go_wp2_with fail
 refine (KO.out _ hB0).mono ?_
 rintro e u1 ⟨bs, cap2, rfl, hBs, hbl, hb, hE, -⟩
 clear KO hB0
 replace bR0 := bR0.ex hE
 go_wp2_with fail
 refine (Te hBs hbl W0.heap.size cap2 0 u1 hE (Nat.le_refl _) hb (by omega)).mono ?_
 rintro e u2 ⟨S, v, h, a2, rfl, hS, ha2, hd, hb2⟩
 replace hE := hd.ex W0 hE (Nat.le_refl _)
 replace bR0 := hd.box _ _ _ HN0.out bR0
 clear hd hb hb2
 obtain ⟨⟨p1, p2, p3⟩, ⟨q1, q2, q3⟩, ⟨r1, r2, r3⟩, ⟨s1, s2, s3⟩⟩ := v
 simp only [Ws]
 replace hE := hE0.trans hE
 have h1 := Ql S p1 p2 p3 q1 q2 q3 r1 r2 r3 s1 s2 s3 h
 go_wp2_with (refine wpList_store_row rfl _ _ _ rfl _ _ rfl rfl _ _ bR0 (Uy rfl) rfl h1 ?_)
 exact Gq (results_cell_row Tryz.results21 _ _ _ _ _ (0, 0) _ rfl (bR0.setRow _) Tryz.underlying37 rfl (Uy rfl)) rfl ⟨S, ⟨⟨p1, p2, p3⟩, ⟨q1, q2, q3⟩, ⟨r1, r2, r3⟩, ⟨s1, s2, s3⟩⟩, h, rfl, by omega, hE.setRow (Nat.le_refl _) _⟩
end
end Go.Proofs.YtmmjkchjgeklnaaGreatDoor
