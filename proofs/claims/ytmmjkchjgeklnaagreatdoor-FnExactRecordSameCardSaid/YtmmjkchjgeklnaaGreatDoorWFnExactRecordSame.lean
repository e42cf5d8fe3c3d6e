/-
  The walk of the law FnExactRecordSame.
-/
import Derived.Test.YtmmjkchjgeklnaaGreatDoorK36
import Derived.Test.YtmmjkchjgeklnaaGreatDoorK23
import Derived.Test.YtmmjkchjgeklnaaGreatDoorK49
import Derived.Test.YtmmjkchjgeklnaaGreatDoorK07
set_option linter.unusedSimpArgs false
set_option linter.unusedVariables false
namespace Go.Proofs.YtmmjkchjgeklnaaGreatDoor
open Go.RowKit

attribute [local go_sem] Zk Zj
set_option maxRecDepth 10000 in
set_option maxHeartbeats 4000000 in
theorem law_FnExactRecordSame (v0 v1 : Value) (w : World) (h0 : Lj w v0) (h1 : Lj w v1) (hm : Vv w ∧ Yf w) : Calls Tryz.prog 5 #[v0, v1] w fun e w' => e = .returned (.bool true) ∧ Ex w w' := by
 obtain ⟨S, v, n, rfl, hs⟩ := h0
 obtain ⟨T, u, j, rfl, ht⟩ := h1
 have kz1 := fun w => Se S v.a.re v.a.im v.a.den v.b.re v.b.im v.b.den v.c.re v.c.im v.c.den v.d.re v.d.im v.d.den n 1048576 (by omega) (by omega) hs w
 have kt1 := fun w => Sf S v.a.re v.a.im v.a.den v.b.re v.b.im v.b.den v.c.re v.c.im v.c.den v.d.re v.d.im v.d.den n w
 have kt2 := fun w => Sf T u.a.re u.a.im u.a.den u.b.re u.b.im u.b.den u.c.re u.c.im u.c.den u.d.re u.d.im u.d.den j w
 unfold szr at kz1
 unfold Ws
 have HM := Gv hm.1
 have HG := Gv hm.2
 clear hm
 by_cases hl : S.size ≤ 1048576
 ·have hlI : ¬ (1048576 : Int) - (S.size : Int) < 0 := by omega
  rw [if_neg hlI] at kz1
  have kz2 := fun w => Se T u.a.re u.a.im u.a.den u.b.re u.b.im u.b.den u.c.re u.c.im u.c.den u.d.re u.d.im u.d.den j ((1048576 : Int) - (S.size : Int)) (by omega) (by omega) ht w
  unfold szr at kz2
  by_cases hl2 : (1048576 : Int) - (S.size : Int) - (T.size : Int) < 0
  ·rw [if_pos hl2] at kz2
   generalize (1048576 : Int) - (S.size : Int) = m at kz1 kz2 hlI hl2
   clear hl2
   obtain ⟨⟨a1, a2, a3⟩, ⟨b1, b2, b3⟩, ⟨c1, c2, c3⟩, ⟨d1, d2, d3⟩⟩ := v
   obtain ⟨⟨p1, p2, p3⟩, ⟨q1, q2, q3⟩, ⟨r1, r2, r3⟩, ⟨u1, u2, u3⟩⟩ := u
   simp only at kz1 kz2 ⊢
   have KZ := Gv kz1
   have KZ2 := Gv kz2
   clear kz1 kz2 kt1 kt2
   have hS := Zw.refl w
   have hC := True.intro
   go_enter Tryz.func5, Tryz.ntmps5
   go_wp2_with (first | (go_at_call 11; (first | (with_reducible refine (KZ.out _).mono ?_) | (with_reducible refine (KZ2.out _).mono ?_)); rintro e wn ⟨rfl, hx⟩; replace hS := Zw.after (W := w) hx; clear hx; replace hC := hS.reads; simp only [Zz, Zy, Gu] at hC))
   refine Gq (v := .bool true) ?_ rfl ⟨rfl, ?_⟩
   ·simp [results, Tryz.results5, go_sem]
   ·repeat' (with_reducible first | exact hS.ex | exact Ex.refl _ | assumption | refine Ex.alloc ?_ _ | refine Ex.drewN ?_ _ | refine Ex.drew ?_ | refine Ex.setCell ?_ (by simp <;> omega) _)
  ·rw [if_neg hl2] at kz2
   have ki := fun w (_ : Yf w) hm => Nr S.data.toList (by rw [Wb]; exact hl) v n T.data.toList (by rw [Wb]; omega) u j w hm
   have ks := fun w => Je S.data.toList (by rw [Wb]; exact hl) v n T.data.toList (by rw [Wb]; omega) u j w
   rw [← Qm, ← Qm] at ki ks
   unfold Ws at ki ks
   generalize Uk S.data.toList v n T.data.toList u j = ok at ki ks
   generalize hm1 : (1048576 : Int) - (S.size : Int) = m at kz1 kz2 hlI hl2
   generalize hm2 : m - (T.size : Int) = m2 at kz2 hl2
   clear hm1 hm2 hl hs ht
   obtain ⟨⟨a1, a2, a3⟩, ⟨b1, b2, b3⟩, ⟨c1, c2, c3⟩, ⟨d1, d2, d3⟩⟩ := v
   obtain ⟨⟨p1, p2, p3⟩, ⟨q1, q2, q3⟩, ⟨r1, r2, r3⟩, ⟨u1, u2, u3⟩⟩ := u
   simp only at kz1 kz2 kt1 kt2 ki ks ⊢
   have KZ1 := Gv kz1
   have KZ2 := Gv kz2
   have KT1 := Gv kt1
   have KT2 := Gv kt2
   have KI := Gv ki
   have KS := Gv ks
   clear kz1 kz2 kt1 kt2 ki ks
   have hS := Zw.refl w
   have hC := True.intro
   go_enter Tryz.func5, Tryz.ntmps5
   go_upto_region 8 with (first | (go_at_call 11; (first | (with_reducible refine (KZ1.out _).mono ?_) | (with_reducible refine (KZ2.out _).mono ?_)); rintro e wn ⟨rfl, hx⟩; replace hS := Zw.after (W := w) hx; clear hx; replace hC := hS.reads; simp only [Zz, Zy, Gu] at hC))
   (try simp only [Gu] at hS)
   clear hC hlI hl2
   refine Yz (St := fun _ _ => True) false (B := fun _ w2 => Zw w w2 [(w.heap.size + 1, 29, #[.string T, .int .i64 p1, .int .i64 p2, .int .i64 p3, .int .i64 q1, .int .i64 q2, .int .i64 q3, .int .i64 r1, .int .i64 r2, .int .i64 r3, .int .i64 u1, .int .i64 u2, .int .i64 u3, .int .u32 j]), (w.heap.size, 29, #[.string S, .int .i64 a1, .int .i64 a2, .int .i64 a3, .int .i64 b1, .int .i64 b2, .int .i64 b3, .int .i64 c1, .int .i64 c2, .int .i64 c3, .int .i64 d1, .int .i64 d2, .int .i64 d3, .int .u32 n])]) (by kernel_rfl) (by kernel_rfl) (hS.drewW) ?_
   (apply Zx; (· rfl); (· intro b wb hB Q1 hQ1; have hC := hB.reads; simp only [Zz, Zy] at hC; go_wp2_with fail; exact hQ1 _ trivial hB); (· exact ⟨_, rfl⟩))
   (apply Zx; (· rfl); (· intro b wb hB Q1 hQ1; go_wp2_with (go_at_call 13; (with_reducible refine (KT1.out _).mono ?_); rintro e wn ⟨rfl, hx⟩); exact hQ1 _ trivial (Zw.after (h := hB) hx)); (· exact ⟨_, rfl⟩))
   (apply Zx; (· rfl); (· intro b wb hB Q1 hQ1; have hC := hB.reads; simp only [Zz, Zy] at hC; go_wp2_with fail; exact hQ1 _ trivial hB); (· exact ⟨_, rfl⟩))
   (apply Zx; (· rfl); (· intro b wb hB Q1 hQ1; go_wp2_with (go_at_call 13; (with_reducible refine (KT2.out _).mono ?_); rintro e wn ⟨rfl, hx⟩); exact hQ1 _ trivial (Zw.after (h := hB) hx)); (· exact ⟨_, rfl⟩))
   (apply Zx; (· rfl); (· intro b wb hB Q1 hQ1; go_wp2_with (go_at_call 19; (with_reducible refine (KS.out _).mono ?_); rintro e wn ⟨rfl, hx⟩); exact hQ1 _ trivial (Zw.after (h := hB) hx)); (· exact ⟨_, rfl⟩))
   (apply Zx; (· rfl); (· intro b wb hB Q1 hQ1; go_wp2_with fail; exact hQ1 _ trivial hB); (· exact ⟨_, rfl⟩))
   refine Zv ?_
   intro w8 hS8
   go_upto_region 9 with fail
   replace hS := hS8
   clear hS8
   refine Yz (St := fun _ _ => True) false (B := fun _ w2 => Zw w w2 [(w.heap.size + 1, 29, #[.string T, .int .i64 p1, .int .i64 p2, .int .i64 p3, .int .i64 q1, .int .i64 q2, .int .i64 q3, .int .i64 r1, .int .i64 r2, .int .i64 r3, .int .i64 u1, .int .i64 u2, .int .i64 u3, .int .u32 j]), (w.heap.size, 29, #[.string S, .int .i64 a1, .int .i64 a2, .int .i64 a3, .int .i64 b1, .int .i64 b2, .int .i64 b3, .int .i64 c1, .int .i64 c2, .int .i64 c3, .int .i64 d1, .int .i64 d2, .int .i64 d3, .int .u32 n])]) (by kernel_rfl) (by kernel_rfl) (hS.drewW) ?_
   (apply Zx; (· rfl); (· intro b wb hB Q1 hQ1; have hC := hB.reads; simp only [Zz, Zy] at hC; go_wp2_with fail; exact hQ1 _ trivial hB); (· exact ⟨_, rfl⟩))
   (apply Zx; (· rfl); (· intro b wb hB Q1 hQ1; go_wp2_with (go_at_call 13; (with_reducible refine (KT1.out _).mono ?_); rintro e wn ⟨rfl, hx⟩); exact hQ1 _ trivial (Zw.after (h := hB) hx)); (· exact ⟨_, rfl⟩))
   (apply Zx; (· rfl); (· intro b wb hB Q1 hQ1; have hC := hB.reads; simp only [Zz, Zy] at hC; go_wp2_with fail; exact hQ1 _ trivial hB); (· exact ⟨_, rfl⟩))
   (apply Zx; (· rfl); (· intro b wb hB Q1 hQ1; go_wp2_with (go_at_call 13; (with_reducible refine (KT2.out _).mono ?_); rintro e wn ⟨rfl, hx⟩); exact hQ1 _ trivial (Zw.after (h := hB) hx)); (· exact ⟨_, rfl⟩))
   (apply Zx; (· rfl); (· intro b wb hB Q1 hQ1; go_wp2_with (go_at_call 20; (with_reducible refine (KI.out _ (HG.out.ex hB.ex) (HM.out.ex hB.ex)).mono ?_); rintro e wn ⟨rfl, hx⟩); exact hQ1 _ trivial (Zw.after (h := hB) hx)); (· exact ⟨_, rfl⟩))
   (apply Zx; (· rfl); (· intro b wb hB Q1 hQ1; go_wp2_with fail; exact hQ1 _ trivial hB); (· exact ⟨_, rfl⟩))
   refine Zv ?_
   intro w9 hS9
   replace hS := hS9
   clear hS9
   have hC := hS.reads
   simp only [Zz, Zy] at hC
   rcases ok with _ | _
   all_goals
    go_wp2_with fail
    refine Gq (v := .bool true) ?_ rfl ⟨rfl, ?_⟩
    ·simp [results, Tryz.results5, go_sem]
    ·repeat' (with_reducible first | exact hS.ex | exact Ex.refl _ | assumption | refine Ex.alloc ?_ _ | refine Ex.drewN ?_ _ | refine Ex.drew ?_ | refine Ex.setCell ?_ (by simp <;> omega) _)
 ·have hlI : (1048576 : Int) - (S.size : Int) < 0 := by omega
  rw [if_pos hlI] at kz1
  obtain ⟨⟨a1, a2, a3⟩, ⟨b1, b2, b3⟩, ⟨c1, c2, c3⟩, ⟨d1, d2, d3⟩⟩ := v
  obtain ⟨⟨p1, p2, p3⟩, ⟨q1, q2, q3⟩, ⟨r1, r2, r3⟩, ⟨u1, u2, u3⟩⟩ := u
  simp only at kz1 ⊢
  have KZ := Gv kz1
  clear kz1 kt1 kt2 hlI
  have hS := Zw.refl w
  have hC := True.intro
  go_enter Tryz.func5, Tryz.ntmps5
  go_wp2_with (go_at_call 11; (with_reducible refine (KZ.out _).mono ?_); rintro e wn ⟨rfl, hx⟩; replace hS := Zw.after (W := w) hx; clear hx; replace hC := hS.reads; simp only [Zz, Zy, Gu] at hC)
  refine Gq (v := .bool true) ?_ rfl ⟨rfl, ?_⟩
  ·simp [results, Tryz.results5, go_sem]
  ·repeat' (with_reducible first | exact hS.ex | exact Ex.refl _ | assumption | refine Ex.alloc ?_ _ | refine Ex.drewN ?_ _ | refine Ex.drew ?_ | refine Ex.setCell ?_ (by simp <;> omega) _)
end Go.Proofs.YtmmjkchjgeklnaaGreatDoor
