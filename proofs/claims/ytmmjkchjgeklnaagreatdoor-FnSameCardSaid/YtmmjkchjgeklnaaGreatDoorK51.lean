/-
  Proved: what functions compute, part 51. No condition.
-/
import Derived.Test.YtmmjkchjgeklnaaGreatDoorK41
import Derived.Test.YtmmjkchjgeklnaaGreatDoorK50
set_option linter.unusedSimpArgs false
set_option linter.unusedVariables false
set_option maxRecDepth 20000
set_option maxHeartbeats 8000000
namespace Go.Proofs.YtmmjkchjgeklnaaGreatDoor
section
open Go.RowKit

attribute [local go_sem] Zk Zj
theorem Qa {P : Program} {fn : Func} {p q : Tmp} {ty : TypeId} (h : fn.results = #[.cell p ty, .cell q ty]) (tmps : Array Value) (w : World) (g g2 : Nat) (t t2 : TypeId) (cs cs2 : Array Value) {d : TypeDesc}
  (hp : tmps.getD p undef = .pointer (some ⟨g, 0, none⟩)) (hg : Box w g t cs) (hq : tmps.getD q undef = .pointer (some ⟨g2, 0, none⟩)) (hg2 : Box w g2 t2 cs2)
  (hu : P.underlying ty = some d) (hd : (match d with | .struct _ | .array _ _ => true | _ => false) = true) (hi : (P.info? ty).map (·.size) = some cs.size) (hi2 : (P.info? ty).map (·.size) = some cs2.size) :
  (results fn tmps).run P w = .ok (.tuple #[.agg cs, .agg cs2]) w := by
 have hp' : tmps[p]?.getD undef = .pointer (some ⟨g, 0, none⟩) := by simpa using hp
 have hq' : tmps[q]?.getD undef = .pointer (some ⟨g2, 0, none⟩) := by simpa using hq
 simp [results, h, hp', hq', asAddr, run_loadVar_row w g t ty cs (0, 0) d hg hu hd hi, run_loadVar_row w g2 t2 ty cs2 (0, 0) d hg2 hu hd hi2]
def TwoR (W0 : World) (g ga : Nat) (R : Array Value) : Ending → World → Prop := fun e w5 => ∃ (T : ByteArray) (y : M4) (j : Int), e = .returned (Ws T y j) ∧ T.size ≤ 1000 ∧ Ex W0 w5 ∧ Box w5 ga 37 R ∧ Box w5 g 37 #[.string ⟨#[]⟩, .int .i64 0, .int .i64 0, .int .i64 0, .int .i64 0, .int .i64 0, .int .i64 0, .int .i64 0, .int .i64 0, .int .i64 0, .int .i64 0, .int .i64 0, .int .i64 0, .int .u32 0] ∧ Box w5 (g + 1) 37 #[.string ⟨#[]⟩, .int .i64 0, .int .i64 0, .int .i64 0, .int .i64 0, .int .i64 0, .int .i64 0, .int .i64 0, .int .i64 0, .int .i64 0, .int .i64 0, .int .i64 0, .int .i64 0, .int .u32 0]
def DrwRR (w : World) : Ending → World → Prop := fun e w' => ∃ (S : ByteArray) (v : M4) (h : Int) (S2 : ByteArray) (v2 : M4) (h2 : Int), e = .returned (.tuple #[Ws S v h, Ws S2 v2 h2]) ∧ S.size ≤ 1000 ∧ S2.size ≤ 1000 ∧ Ex w w'
theorem Gy (A : Option Addr) (xs : List Int) (cap : Nat) (w : World) (hB : Vd w A xs) (hl : xs.length ≤ 9223372036854775807) (hcap : xs.length ≤ cap) (hcap2 : cap ≤ 9223372036854775807) :
  Calls Tryz.prog 30 #[.slice A xs.length cap] w (DrwRR w) := by
 have KO := Gv (fun w hB => Ou A xs cap w hB hl hcap hcap2)
 go_enter Tryz.func30, Tryz.ntmps30
 go_upto_region 1 with fail
 have bR0 := Box.new w #[.string ⟨#[]⟩, .int .i64 0, .int .i64 0, .int .i64 0, .int .i64 0, .int .i64 0, .int .i64 0, .int .i64 0, .int .i64 0, .int .i64 0, .int .i64 0, .int .i64 0, .int .i64 0, .int .u32 0] 37
 have bR1 := Box.new (w.alloc (.cells #[.string ⟨#[]⟩, .int .i64 0, .int .i64 0, .int .i64 0, .int .i64 0, .int .i64 0, .int .i64 0, .int .i64 0, .int .i64 0, .int .i64 0, .int .i64 0, .int .i64 0, .int .i64 0, .int .u32 0] 37)) #[.string ⟨#[]⟩, .int .i64 0, .int .i64 0, .int .i64 0, .int .i64 0, .int .i64 0, .int .i64 0, .int .i64 0, .int .i64 0, .int .i64 0, .int .i64 0, .int .i64 0, .int .i64 0, .int .u32 0] 37
 replace bR0 := bR0.alloc (.cells #[.string ⟨#[]⟩, .int .i64 0, .int .i64 0, .int .i64 0, .int .i64 0, .int .i64 0, .int .i64 0, .int .i64 0, .int .i64 0, .int .i64 0, .int .i64 0, .int .i64 0, .int .i64 0, .int .u32 0] 37)
 have hE0 : Ex w ((w.alloc (.cells #[.string ⟨#[]⟩, .int .i64 0, .int .i64 0, .int .i64 0, .int .i64 0, .int .i64 0, .int .i64 0, .int .i64 0, .int .i64 0, .int .i64 0, .int .i64 0, .int .i64 0, .int .i64 0, .int .u32 0] 37)).alloc (.cells #[.string ⟨#[]⟩, .int .i64 0, .int .i64 0, .int .i64 0, .int .i64 0, .int .i64 0, .int .i64 0, .int .i64 0, .int .i64 0, .int .i64 0, .int .i64 0, .int .i64 0, .int .i64 0, .int .u32 0] 37)) := by repeat' (with_reducible first | exact Ex.refl _ | refine Ex.alloc ?_ _)
 have hB0 : Vd ((w.alloc (.cells #[.string ⟨#[]⟩, .int .i64 0, .int .i64 0, .int .i64 0, .int .i64 0, .int .i64 0, .int .i64 0, .int .i64 0, .int .i64 0, .int .i64 0, .int .i64 0, .int .i64 0, .int .i64 0, .int .u32 0] 37)).alloc (.cells #[.string ⟨#[]⟩, .int .i64 0, .int .i64 0, .int .i64 0, .int .i64 0, .int .i64 0, .int .i64 0, .int .i64 0, .int .i64 0, .int .i64 0, .int .i64 0, .int .i64 0, .int .i64 0, .int .u32 0] 37)) A xs := hB.ex hE0
 simp only [Gu] at bR1
 generalize ((w.alloc (.cells #[.string ⟨#[]⟩, .int .i64 0, .int .i64 0, .int .i64 0, .int .i64 0, .int .i64 0, .int .i64 0, .int .i64 0, .int .i64 0, .int .i64 0, .int .i64 0, .int .i64 0, .int .i64 0, .int .u32 0] 37)).alloc (.cells #[.string ⟨#[]⟩, .int .i64 0, .int .i64 0, .int .i64 0, .int .i64 0, .int .i64 0, .int .i64 0, .int .i64 0, .int .i64 0, .int .i64 0, .int .i64 0, .int .i64 0, .int .i64 0, .int .u32 0] 37)) = W0 at *
 have HN0 := Gv (Nat.ne_of_lt bR0.lt)
 have HN1 := Gv (Nat.ne_of_lt bR1.lt)
 have HL1 := Gv bR1.lt
 clear hB hcap hcap2 hl
 go_wp2_with fail
 refine (KO.out _ hB0).mono ?_
 rintro e u1 ⟨bs, cap2, rfl, hBs, hbl, hb, hE, -⟩
 clear KO hB0
 replace bR0 := bR0.ex hE
 replace bR1 := bR1.ex hE
 go_wp2_with fail
 refine (Te hBs hbl W0.heap.size cap2 0 u1 hE (Nat.le_refl _) hb (by omega)).mono ?_
 rintro e u2 ⟨S, v, h, a2, rfl, hS, ha2, hd, hb2⟩
 replace hE := hd.ex W0 hE (Nat.le_refl _)
 replace bR0 := hd.box _ _ _ HN0.out bR0
 replace bR1 := hd.box _ _ _ HN1.out bR1
 clear hd hb
 obtain ⟨⟨p1, p2, p3⟩, ⟨q1, q2, q3⟩, ⟨r1, r2, r3⟩, ⟨s1, s2, s3⟩⟩ := v
 simp only [Ws]
 go_upto_region 3 with fail
 have hx := (Ex.refl u2).alloc (.cells #[.string S, .int .i64 p1, .int .i64 p2, .int .i64 p3, .int .i64 q1, .int .i64 q2, .int .i64 q3, .int .i64 r1, .int .i64 r2, .int .i64 r3, .int .i64 s1, .int .i64 s2, .int .i64 s3, .int .u32 h] 37)
 have bA := Box.new u2 #[.string S, .int .i64 p1, .int .i64 p2, .int .i64 p3, .int .i64 q1, .int .i64 q2, .int .i64 q3, .int .i64 r1, .int .i64 r2, .int .i64 r3, .int .i64 s1, .int .i64 s2, .int .i64 s3, .int .u32 h] 37
 have HNA := Gv (Nat.ne_of_gt hb2.lt)
 have HGA := Gv (Nat.lt_of_lt_of_le HL1.out hE.size)
 replace hE := hE.trans hx
 replace bR0 := bR0.ex hx
 replace bR1 := bR1.ex hx
 replace hb2 : Rdr (u2.alloc (.cells #[.string S, .int .i64 p1, .int .i64 p2, .int .i64 p3, .int .i64 q1, .int .i64 q2, .int .i64 q3, .int .i64 r1, .int .i64 r2, .int .i64 r3, .int .i64 s1, .int .i64 s2, .int .i64 s3, .int .u32 h] 37)) W0.heap.size A bs.length cap2 a2 := Box.ex hb2 hx
 clear hx
 generalize u2.alloc (.cells #[.string S, .int .i64 p1, .int .i64 p2, .int .i64 p3, .int .i64 q1, .int .i64 q2, .int .i64 q3, .int .i64 r1, .int .i64 r2, .int .i64 r3, .int .i64 s1, .int .i64 s2, .int .i64 s3, .int .u32 h] 37) = U3 at *
 generalize u2.heap.size = ga at *
 go_wp2_with fail
 refine (To hBs hbl W0.heap.size cap2 a2 2 U3 hE (Nat.le_refl _) hb2 (by omega) (by omega) (by omega)).mono ?_
 rintro e u4 ⟨x, rfl, hx0, hx1, hd, hb4⟩
 replace hE := hd.ex W0 hE (Nat.le_refl _)
 replace bR0 := hd.box _ _ _ HN0.out bR0
 replace bR1 := hd.box _ _ _ HN1.out bR1
 replace bA := hd.box _ _ _ HNA.out bA
 clear hd hb2
 have hone1 := Ql S p1 p2 p3 q1 q2 q3 r1 r2 r3 s1 s2 s3 h
 by_cases h1 : x = 0
 ·have h1b : (x == 0) = true := by simpa using h1
  go_upto_region 4 with fail
  refine Td (σ := World → Prop) (St := fun w2 w3 => w3 = w2) (B := fun _ w2 => Box w2 ga 37 #[.string S, .int .i64 p1, .int .i64 p2, .int .i64 p3, .int .i64 q1, .int .i64 q2, .int .i64 q3, .int .i64 r1, .int .i64 r2, .int .i64 r3, .int .i64 s1, .int .i64 s2, .int .i64 s3, .int .u32 h]) (X := fun p w2 => p w2) [(0, false), (1, false), (2, true), (3, true)] (fun w2 => Ex W0 w2 ∧ Box w2 w.heap.size 37 #[.string ⟨#[]⟩, .int .i64 0, .int .i64 0, .int .i64 0, .int .i64 0, .int .i64 0, .int .i64 0, .int .i64 0, .int .i64 0, .int .i64 0, .int .i64 0, .int .i64 0, .int .i64 0, .int .u32 0] ∧ Box w2 (w.heap.size + 1) 37 #[.string ⟨#[]⟩, .int .i64 0, .int .i64 0, .int .i64 0, .int .i64 0, .int .i64 0, .int .i64 0, .int .i64 0, .int .i64 0, .int .i64 0, .int .i64 0, .int .i64 0, .int .i64 0, .int .u32 0]) false (by kernel_rfl) (by kernel_rfl) (fun _ _ _ h h2 => h ▸ h2) bA ⟨hE.drew, bR0, bR1⟩ ?_
  refine Sd rfl ?_
  (apply Zx; (· rfl); (· intro b wb hB Q1 hQ1; go_wp2_with (refine wpList_load_row rfl _ _ rfl _ rfl _ _ (0, 0) _ hB Tryz.underlying37 rfl (Uy rfl) ?_); exact hQ1 _ rfl hB); (· exact ⟨_, rfl⟩))
  refine Zv ?_
  refine Sd rfl ?_
  (apply Zx; (· rfl); (· intro b wb hB Q1 hQ1; go_wp2_with (refine wpList_load_row rfl _ _ rfl _ rfl _ _ (0, 0) _ hB Tryz.underlying37 rfl (Uy rfl) ?_); exact hQ1 _ rfl hB); (· exact ⟨_, rfl⟩))
  refine Zv ?_
  refine Tc false (fun _ p => p = fun w2 => Ex w w2 ∧ Box w2 w.heap.size 37 #[.string S, .int .i64 p1, .int .i64 p2, .int .i64 p3, .int .i64 q1, .int .i64 q2, .int .i64 q3, .int .i64 r1, .int .i64 r2, .int .i64 r3, .int .i64 s1, .int .i64 s2, .int .i64 s3, .int .u32 h] ∧ Box w2 (w.heap.size + 1) 37 #[.string ⟨#[]⟩, .int .i64 0, .int .i64 0, .int .i64 0, .int .i64 0, .int .i64 0, .int .i64 0, .int .i64 0, .int .i64 0, .int .i64 0, .int .i64 0, .int .i64 0, .int .i64 0, .int .u32 0]) rfl rfl ?_ ?_
  ·intro b wb hB hp Q1 hQ1
   obtain ⟨h1, h2, h3⟩ := hp
   go_wp2_with (refine wpList_store_row rfl _ _ _ rfl _ _ rfl rfl _ _ h2 (Uy rfl) rfl hone1 ?_)
   exact hQ1 undef _ _ rfl (Box.setRow_far hB (by have := HGA.out; omega) _) ⟨(hE0.trans h1).setRow (Nat.le_refl _) _, h2.setRow _, h3.setRow_far (by omega) _⟩
  ·rintro u _ rfl
   refine Tc false (fun _ p => p = fun w2 => Ex w w2 ∧ Box w2 w.heap.size 37 #[.string S, .int .i64 p1, .int .i64 p2, .int .i64 p3, .int .i64 q1, .int .i64 q2, .int .i64 q3, .int .i64 r1, .int .i64 r2, .int .i64 r3, .int .i64 s1, .int .i64 s2, .int .i64 s3, .int .u32 h] ∧ Box w2 (w.heap.size + 1) 37 #[.string S, .int .i64 p1, .int .i64 p2, .int .i64 p3, .int .i64 q1, .int .i64 q2, .int .i64 q3, .int .i64 r1, .int .i64 r2, .int .i64 r3, .int .i64 s1, .int .i64 s2, .int .i64 s3, .int .u32 h]) rfl rfl ?_ ?_
   ·intro b wb hB hp Q1 hQ1
    obtain ⟨h1, h2, h3⟩ := hp
    go_wp2_with (refine wpList_store_row rfl _ _ _ rfl _ _ rfl rfl _ _ h3 (Uy rfl) rfl hone1 ?_)
    exact hQ1 undef _ _ rfl (Box.setRow_far hB (by have := HGA.out; omega) _) ⟨h1.setRow (Nat.le_succ _) _, h2.setRow_far (by omega) _, h3.setRow _⟩
   ·rintro u _ rfl
    intro w5 hB5 hp5
    obtain ⟨h1, h2, h3⟩ := hp5
    go_wp2_with fail
    exact Gq (Qa Tryz.results30 _ _ _ _ _ _ _ _ rfl h2 rfl h3 Tryz.underlying37 rfl (Uy rfl) (Uy rfl)) rfl ⟨S, ⟨⟨p1, p2, p3⟩, ⟨q1, q2, q3⟩, ⟨r1, r2, r3⟩, ⟨s1, s2, s3⟩⟩, h, S, ⟨⟨p1, p2, p3⟩, ⟨q1, q2, q3⟩, ⟨r1, r2, r3⟩, ⟨s1, s2, s3⟩⟩, h, rfl, by omega, by omega, h1⟩
 ·have h1b : (x == 0) = false := by simpa using h1
  go_upto_region 5 with fail
  refine Td (σ := World → Prop) (St := fun w2 w3 => w3 = w2) (B := fun _ w2 => Box w2 ga 37 #[.string S, .int .i64 p1, .int .i64 p2, .int .i64 p3, .int .i64 q1, .int .i64 q2, .int .i64 q3, .int .i64 r1, .int .i64 r2, .int .i64 r3, .int .i64 s1, .int .i64 s2, .int .i64 s3, .int .u32 h]) (X := fun p w2 => p w2) [(0, false), (1, false), (2, true), (3, true), (4, true)] (fun w2 => Ex W0 w2 ∧ Rdr w2 W0.heap.size A bs.length cap2 (a2 + 1) ∧ Box w2 w.heap.size 37 #[.string ⟨#[]⟩, .int .i64 0, .int .i64 0, .int .i64 0, .int .i64 0, .int .i64 0, .int .i64 0, .int .i64 0, .int .i64 0, .int .i64 0, .int .i64 0, .int .i64 0, .int .i64 0, .int .u32 0] ∧ Box w2 (w.heap.size + 1) 37 #[.string ⟨#[]⟩, .int .i64 0, .int .i64 0, .int .i64 0, .int .i64 0, .int .i64 0, .int .i64 0, .int .i64 0, .int .i64 0, .int .i64 0, .int .i64 0, .int .i64 0, .int .i64 0, .int .u32 0]) false (by kernel_rfl) (by kernel_rfl) (fun _ _ _ h h2 => h ▸ h2) bA ⟨hE.drew, hb4, bR0, bR1⟩ ?_
  refine Sd rfl ?_
  (apply Zx; (· rfl); (· intro b wb hB Q1 hQ1; go_wp2_with (refine wpList_load_row rfl _ _ rfl _ rfl _ _ (0, 0) _ hB Tryz.underlying37 rfl (Uy rfl) ?_); exact hQ1 _ rfl hB); (· exact ⟨_, rfl⟩))
  refine Zv ?_
  refine Sd rfl ?_
  (apply Zx; (· rfl); (· intro b wb hB Q1 hQ1; go_wp2_with fail; exact hQ1 _ rfl hB); (· exact ⟨_, rfl⟩))
  refine Zv ?_
  refine Tc false (fun u p => ∃ (T : ByteArray) (y : M4) (j : Int), u = Ws T y j ∧ T.size ≤ 1000 ∧ p = fun w2 => Ex W0 w2 ∧ Box w2 w.heap.size 37 #[.string ⟨#[]⟩, .int .i64 0, .int .i64 0, .int .i64 0, .int .i64 0, .int .i64 0, .int .i64 0, .int .i64 0, .int .i64 0, .int .i64 0, .int .i64 0, .int .i64 0, .int .i64 0, .int .u32 0] ∧ Box w2 (w.heap.size + 1) 37 #[.string ⟨#[]⟩, .int .i64 0, .int .i64 0, .int .i64 0, .int .i64 0, .int .i64 0, .int .i64 0, .int .i64 0, .int .i64 0, .int .i64 0, .int .i64 0, .int .i64 0, .int .i64 0, .int .u32 0]) rfl rfl ?_ ?_
  ·intro b wb hB hp Q1 hQ1
   obtain ⟨h1, h2, h3, h4⟩ := hp
   go_wp2_with (go_at_call 40; refine (Te hBs hbl W0.heap.size cap2 (a2 + 1) wb h1 (Nat.le_refl _) h2 (by omega)).mono ?_; rintro e w5 ⟨T, y, j, a3, rfl, hT, -, hd, -⟩)
   exact hQ1 _ _ _ ⟨T, y, j, rfl, hT, rfl⟩ (hd.box _ _ _ HNA.out hB) ⟨hd.ex W0 h1 (Nat.le_refl _), hd.box _ _ _ HN0.out h3, hd.box _ _ _ HN1.out h4⟩
  ·rintro u _ ⟨T, y, j, rfl, hT, rfl⟩
   obtain ⟨⟨m1, m2, m3⟩, ⟨n1, n2, n3⟩, ⟨o1, o2, o3⟩, ⟨g1, g2, g3⟩⟩ := y
   simp only [Ws]
   have hone2 := Ql T m1 m2 m3 n1 n2 n3 o1 o2 o3 g1 g2 g3 j
   refine Tc false (fun _ p => p = fun w2 => Ex w w2 ∧ Box w2 w.heap.size 37 #[.string S, .int .i64 p1, .int .i64 p2, .int .i64 p3, .int .i64 q1, .int .i64 q2, .int .i64 q3, .int .i64 r1, .int .i64 r2, .int .i64 r3, .int .i64 s1, .int .i64 s2, .int .i64 s3, .int .u32 h] ∧ Box w2 (w.heap.size + 1) 37 #[.string ⟨#[]⟩, .int .i64 0, .int .i64 0, .int .i64 0, .int .i64 0, .int .i64 0, .int .i64 0, .int .i64 0, .int .i64 0, .int .i64 0, .int .i64 0, .int .i64 0, .int .i64 0, .int .u32 0]) rfl rfl ?_ ?_
   ·intro b wb hB hp Q1 hQ1
    obtain ⟨h1, h2, h3⟩ := hp
    go_wp2_with (refine wpList_store_row rfl _ _ _ rfl _ _ rfl rfl _ _ h2 (Uy rfl) rfl hone1 ?_)
    exact hQ1 undef _ _ rfl (Box.setRow_far hB (by have := HGA.out; omega) _) ⟨(hE0.trans h1).setRow (Nat.le_refl _) _, h2.setRow _, h3.setRow_far (by omega) _⟩
   ·rintro u _ rfl
    refine Tc false (fun _ p => p = fun w2 => Ex w w2 ∧ Box w2 w.heap.size 37 #[.string S, .int .i64 p1, .int .i64 p2, .int .i64 p3, .int .i64 q1, .int .i64 q2, .int .i64 q3, .int .i64 r1, .int .i64 r2, .int .i64 r3, .int .i64 s1, .int .i64 s2, .int .i64 s3, .int .u32 h] ∧ Box w2 (w.heap.size + 1) 37 #[.string T, .int .i64 m1, .int .i64 m2, .int .i64 m3, .int .i64 n1, .int .i64 n2, .int .i64 n3, .int .i64 o1, .int .i64 o2, .int .i64 o3, .int .i64 g1, .int .i64 g2, .int .i64 g3, .int .u32 j]) rfl rfl ?_ ?_
    ·intro b wb hB hp Q1 hQ1
     obtain ⟨h1, h2, h3⟩ := hp
     go_wp2_with (refine wpList_store_row rfl _ _ _ rfl _ _ rfl rfl _ _ h3 (Uy rfl) rfl hone2 ?_)
     exact hQ1 undef _ _ rfl (Box.setRow_far hB (by have := HGA.out; omega) _) ⟨h1.setRow (Nat.le_succ _) _, h2.setRow_far (by omega) _, h3.setRow _⟩
    ·rintro u _ rfl
     intro w5 hB5 hp5
     obtain ⟨h1, h2, h3⟩ := hp5
     go_wp2_with fail
     exact Gq (Qa Tryz.results30 _ _ _ _ _ _ _ _ rfl h2 rfl h3 Tryz.underlying37 rfl (Uy rfl) (Uy rfl)) rfl ⟨S, ⟨⟨p1, p2, p3⟩, ⟨q1, q2, q3⟩, ⟨r1, r2, r3⟩, ⟨s1, s2, s3⟩⟩, h, T, ⟨⟨m1, m2, m3⟩, ⟨n1, n2, n3⟩, ⟨o1, o2, o3⟩, ⟨g1, g2, g3⟩⟩, j, rfl, by omega, by omega, h1⟩
end
end Go.Proofs.YtmmjkchjgeklnaaGreatDoor
