/-
  Proved: what functions compute, part 12. No condition.
-/
import Derived.Test.YtmmjkchjgeklnaaGreatDoorK09
import Derived.Test.YtmmjkchjgeklnaaGreatDoorK11
set_option linter.unusedSimpArgs false
set_option linter.unusedVariables false
set_option maxRecDepth 20000
set_option maxHeartbeats 8000000
namespace Go.Proofs.YtmmjkchjgeklnaaGreatDoor
section
open Go.RowKit

attribute [local go_sem] Zk Zj
section
variable {W w : World} {bs : Nat} {b : Bool} {L : List (Nat × TypeId × Array Value)} {a1 a2 a3 b1 b2 b3 x y z s : Int} {k : Bool}
theorem Ki {f : FuncId} {args : Array Value} {r : Fr × Bool} (hB : Zr W w bs (!b) L) (hc : Calls Tryz.prog f args w (Wy bs (!b) w r)) (hr : r = (⟨x, y, z⟩, k)) :
  Calls Tryz.prog f args w fun e w' => e = .returned (.agg #[.int .i64 x, .int .i64 y, .int .i64 z]) ∧ Zr W w' bs (!(b || !k)) L ∧ SmO bs w w' := by
 subst hr
 refine hc.mono ?_
 rintro e w' ⟨rfl, hs, hb⟩
 refine ⟨rfl, ?_, hs⟩
 rw [Bool.not_or, Bool.not_not]
 exact hB.call hs hb
theorem Tm (hB : Zr W w bs (!b) L) (hr : Zg ⟨a1, a2, a3⟩ ⟨b1, b2, b3⟩ = (⟨x, y, z⟩, k)) : Calls Tryz.prog 168 #[.pointer (some ⟨bs, 0, none⟩), .agg #[.int .i64 a1, .int .i64 a2, .int .i64 a3], .agg #[.int .i64 b1, .int .i64 b2, .int .i64 b3]] w fun e w' => e = .returned (.agg #[.int .i64 x, .int .i64 y, .int .i64 z]) ∧ Zr W w' bs (!(b || !k)) L ∧ SmO bs w w' := Ki hB (l6tPair_any bs (!b) ⟨a1, a2, a3⟩ ⟨b1, b2, b3⟩ w hB.sum) hr
theorem Kh (hs : s = 1 ∨ s = -1) (hB : Zr W w bs (!b) L) (hr : Yk s ⟨a1, a2, a3⟩ ⟨b1, b2, b3⟩ = (⟨x, y, z⟩, k)) : Calls Tryz.prog 147 #[.pointer (some ⟨bs, 0, none⟩), .agg #[.int .i64 a1, .int .i64 a2, .int .i64 a3], .int .i64 s, .agg #[.int .i64 b1, .int .i64 b2, .int .i64 b3]] w fun e w' => e = .returned (.agg #[.int .i64 x, .int .i64 y, .int .i64 z]) ∧ Zr W w' bs (!(b || !k)) L ∧ SmO bs w w' := Ki hB (l6tAdd_any bs (!b) ⟨a1, a2, a3⟩ s ⟨b1, b2, b3⟩ w hB.sum hs) hr
theorem partO2 (hbd : -2000000000 ≤ a1 ∧ a1 ≤ 2000000000 ∧ -2000000000 ≤ a2 ∧ a2 ≤ 2000000000 ∧ 0 ≤ a3 ∧ a3 ≤ 2000000000) (hB : Zr W w bs (!b) L) (hr : Vm ⟨a1, a2, a3⟩ 2 false = (⟨x, y, z⟩, k)) : Calls Tryz.prog 169 #[.pointer (some ⟨bs, 0, none⟩), .agg #[.int .i64 a1, .int .i64 a2, .int .i64 a3], .int .i64 2, .bool false] w fun e w' => e = .returned (.agg #[.int .i64 x, .int .i64 y, .int .i64 z]) ∧ Zr W w' bs (!(b || !k)) L ∧ SmO bs w w' := Ki hB (l6tPart_re2 bs (!b) ⟨a1, a2, a3⟩ w hB.sum hbd) hr
end
def Kg (s1 s2 s3 : Int) (a b c d : Fr) : Fr × Bool :=
 ((Vm (Yk s3 (Yk s2 (Yk s1 (Zg a a).1 (Zg b b).1).1 (Zg c c).1).1 (Zg d d).1).1 2 false).1,
  (Zg a a).2 && (Zg b b).2 && (Yk s1 (Zg a a).1 (Zg b b).1).2 && (Zg c c).2 && (Yk s2 (Yk s1 (Zg a a).1 (Zg b b).1).1 (Zg c c).1).2 && (Zg d d).2 && (Yk s3 (Yk s2 (Yk s1 (Zg a a).1 (Zg b b).1).1 (Zg c c).1).1 (Zg d d).1).2 && (Vm (Yk s3 (Yk s2 (Yk s1 (Zg a a).1 (Zg b b).1).1 (Zg c c).1).1 (Zg d d).1).1 2 false).2)
theorem flow_bd {re im den : Int} (h : 1 ≤ den) : -2000000000 ≤ (flow re im den).1.re ∧ (flow re im den).1.re ≤ 2000000000 ∧ -2000000000 ≤ (flow re im den).1.im ∧ (flow re im den).1.im ≤ 2000000000 ∧ 0 ≤ (flow re im den).1.den ∧ (flow re im den).1.den ≤ 2000000000 := by
 rcases hk : (flow re im den).2 with _ | _
 ·rw [Pu hk]; decide
 ·have := Nm h hk
  obtain ⟨⟨p1, p2⟩, ⟨p3, p4⟩, ⟨p5, p6⟩, -⟩ := Fr.valid_out this
  exact ⟨p1, p2, p3, p4, by omega, p6⟩
theorem Ra (s : Int) (a b : Fr) : -2000000000 ≤ (Yk s a b).1.re ∧ (Yk s a b).1.re ≤ 2000000000 ∧ -2000000000 ≤ (Yk s a b).1.im ∧ (Yk s a b).1.im ≤ 2000000000 ∧ 0 ≤ (Yk s a b).1.den ∧ (Yk s a b).1.den ≤ 2000000000 := by
 unfold Yk
 split
 ·rename_i h
  rw [Bool.and_eq_true] at h
  obtain ⟨-, -, ⟨ad, -⟩, -⟩ := Fr.valid_out h.1
  obtain ⟨-, -, ⟨bd, -⟩, -⟩ := Fr.valid_out h.2
  exact flow_bd (by exact Tt ‹_› ‹_›)
 ·decide
theorem l6tPowers_any (bs : Nat) (e : Bool) (a b c d : Fr) (s1 s2 s3 : Int) (h1 : s1 = 1 ∨ s1 = -1) (h2 : s2 = 1 ∨ s2 = -1) (h3 : s3 = 1 ∨ s3 = -1) (w : World) (hb : Box w bs 144 #[.bool (!e)]) :
  Calls Tryz.prog 145 #[.pointer (some ⟨bs, 0, none⟩), .agg #[.int .i64 a.re, .int .i64 a.im, .int .i64 a.den, .int .i64 b.re, .int .i64 b.im, .int .i64 b.den, .int .i64 c.re, .int .i64 c.im, .int .i64 c.den, .int .i64 d.re, .int .i64 d.im, .int .i64 d.den], .int .i64 s1, .int .i64 s2, .int .i64 s3] w (Wy bs (!e) w (Kg s1 s2 s3 a b c d)) := by
 have hbd := Ra s3 (Yk s2 (Yk s1 (Zg a a).1 (Zg b b).1).1 (Zg c c).1).1 (Zg d d).1
 unfold Kg
 rcases hx : Zg a a with ⟨⟨x1, x2, x3⟩, kx⟩
 rcases hp : Zg b b with ⟨⟨p1, p2, p3⟩, kp⟩
 rcases hq : Zg c c with ⟨⟨q1, q2, q3⟩, kq⟩
 rcases hr : Zg d d with ⟨⟨r1, r2, r3⟩, kr⟩
 rw [hx, hp, hq, hr] at hbd
 simp only at hbd ⊢
 rcases ht : Yk s1 ⟨x1, x2, x3⟩ ⟨p1, p2, p3⟩ with ⟨⟨t1, t2, t3⟩, kt⟩
 rw [ht] at hbd
 simp only at hbd ⊢
 rcases hu : Yk s2 ⟨t1, t2, t3⟩ ⟨q1, q2, q3⟩ with ⟨⟨u1, u2, u3⟩, ku⟩
 rw [hu] at hbd
 simp only at hbd ⊢
 rcases hv : Yk s3 ⟨u1, u2, u3⟩ ⟨r1, r2, r3⟩ with ⟨⟨v1, v2, v3⟩, kv⟩
 rw [hv] at hbd
 simp only at hbd ⊢
 rcases hy : Vm ⟨v1, v2, v3⟩ 2 false with ⟨⟨y1, y2, y3⟩, ky⟩
 simp only
 obtain ⟨a1, a2, a3⟩ := a
 obtain ⟨b1, b2, b3⟩ := b
 obtain ⟨c1, c2, c3⟩ := c
 obtain ⟨d1, d2, d3⟩ := d
 have HX := Gv hx
 have HP := Gv hp
 have HQ := Gv hq
 have HR := Gv hr
 have HT := Gv ht
 have HU := Gv hu
 have HV := Gv hv
 have HY := Gv hy
 have HBD := Gv hbd
 clear hx hp hq hr ht hu hv hy hbd
 unfold Wy
 simp only [Fr.v]
 have hS := Zr.init hb
 have hC := hS.reads
 simp only [Zz, Zy] at hC
 have hbl := hb.lt
 have m2 : w.heap.size ≠ bs := Nat.ne_of_gt hb.lt
 go_enter Tryz.func145, Tryz.ntmps145
 go_wp2_with (go_at_call 168; (with_reducible refine (Tm (W := w) (b := e) (Zr.cast (W := w) rfl rfl) HX.out).mono ?_); rintro e1 wn ⟨rfl, hS, -⟩; (try simp only [Gu] at hS); replace hC := hS.reads; simp only [Zz, Zy] at hC)
 have hl1 := hS.boxes.1.lt
 have hl2 := hS.boxes.2.1.lt
 have hg0 : w.heap.size ≤ wn.heap.size := hS.sm.size
 have hne0 : ∀ x ∈ ([(w.heap.size + 1, 32, #[.int .i64 0, .int .i64 0, .int .i64 0]), (w.heap.size, 122, #[.int .i64 a1, .int .i64 a2, .int .i64 a3, .int .i64 b1, .int .i64 b2, .int .i64 b3, .int .i64 c1, .int .i64 c2, .int .i64 c3, .int .i64 d1, .int .i64 d2, .int .i64 d3])] : List (Nat × TypeId × Array Value)), x.1 ≠ wn.heap.size := by
  intro x hx
  simp only [List.mem_cons, List.not_mem_nil, or_false] at hx
  rcases hx with rfl | rfl
  ·exact Nat.ne_of_lt hl1
  ·exact Nat.ne_of_lt hl2
 replace hS := Zr.alloc (h := hS) (cs := #[.int .i64 x1, .int .i64 x2, .int .i64 x3]) (t := 32)
 clear hC hl1 hl2
 refine Zd (St := fun _ _ => True) 11 _ (B := fun b w2 => Zr w w2 bs (!b) [(wn.heap.size, 32, #[.int .i64 x1, .int .i64 x2, .int .i64 x3]), (w.heap.size + 1, 32, #[.int .i64 0, .int .i64 0, .int .i64 0]), (w.heap.size, 122, #[.int .i64 a1, .int .i64 a2, .int .i64 a3, .int .i64 b1, .int .i64 b2, .int .i64 b3, .int .i64 c1, .int .i64 c2, .int .i64 c3, .int .i64 d1, .int .i64 d2, .int .i64 d3])]) (by kernel_rfl) (by kernel_rfl) (Zr.drewW hS) (by exact fun _ _ _ _ _ h => h) ?_
 iterate 10 (apply Zx; (· rfl); (· intro b wb hB Q1 hQ1; have hS := hB; have hC := hS.reads; simp only [Zz, Zy] at hC; go_wp2_with fail; exact hQ1 _ trivial hB); (· exact ⟨_, rfl⟩))
 (apply Zp; (· rfl); (· intro b wb hB Q1 hQ1; go_wp2_with (go_at_call 168; (with_reducible refine (Tm hB HP.out).mono ?_); rintro e wn ⟨rfl, hN, hM⟩); exact hQ1 _ trivial hN); (· exact ⟨_, rfl⟩))
 refine Zv ?_
 intro wz hz
 have hC := hz.reads
 simp only [Zz, Zy] at hC
 go_wp2_with (go_at_call 147; (with_reducible refine (Kh h1 hz HT.out).mono ?_); rintro e1 wm ⟨rfl, hN, -⟩; have hC := hN.reads; simp only [Zz, Zy] at hC)
 replace hS := Zr.set3 hN hg0 hne0 (.int .i64 t1) (.int .i64 t2) (.int .i64 t3)
 refine Zd (St := fun _ _ => True) 11 _ (B := fun b w2 => Zr w w2 bs (!b) [(wn.heap.size, 32, #[.int .i64 t1, .int .i64 t2, .int .i64 t3]), (w.heap.size + 1, 32, #[.int .i64 0, .int .i64 0, .int .i64 0]), (w.heap.size, 122, #[.int .i64 a1, .int .i64 a2, .int .i64 a3, .int .i64 b1, .int .i64 b2, .int .i64 b3, .int .i64 c1, .int .i64 c2, .int .i64 c3, .int .i64 d1, .int .i64 d2, .int .i64 d3])]) (by kernel_rfl) (by kernel_rfl) (Zr.drewW hS) (by exact fun _ _ _ _ _ h => h) ?_
 iterate 10 (apply Zx; (· rfl); (· intro b wb hB Q1 hQ1; have hS := hB; have hC := hS.reads; simp only [Zz, Zy] at hC; go_wp2_with fail; exact hQ1 _ trivial hB); (· exact ⟨_, rfl⟩))
 (apply Zp; (· rfl); (· intro b wb hB Q1 hQ1; go_wp2_with (go_at_call 168; (with_reducible refine (Tm hB HQ.out).mono ?_); rintro e wn ⟨rfl, hN, hM⟩); exact hQ1 _ trivial hN); (· exact ⟨_, rfl⟩))
 refine Zv ?_
 intro wz hz
 have hC := hz.reads
 simp only [Zz, Zy] at hC
 go_wp2_with (go_at_call 147; (with_reducible refine (Kh h2 hz HU.out).mono ?_); rintro e1 wm ⟨rfl, hN, -⟩; have hC := hN.reads; simp only [Zz, Zy] at hC)
 replace hS := Zr.set3 hN hg0 hne0 (.int .i64 u1) (.int .i64 u2) (.int .i64 u3)
 refine Zd (St := fun _ _ => True) 11 _ (B := fun b w2 => Zr w w2 bs (!b) [(wn.heap.size, 32, #[.int .i64 u1, .int .i64 u2, .int .i64 u3]), (w.heap.size + 1, 32, #[.int .i64 0, .int .i64 0, .int .i64 0]), (w.heap.size, 122, #[.int .i64 a1, .int .i64 a2, .int .i64 a3, .int .i64 b1, .int .i64 b2, .int .i64 b3, .int .i64 c1, .int .i64 c2, .int .i64 c3, .int .i64 d1, .int .i64 d2, .int .i64 d3])]) (by kernel_rfl) (by kernel_rfl) (Zr.drewW hS) (by exact fun _ _ _ _ _ h => h) ?_
 iterate 10 (apply Zx; (· rfl); (· intro b wb hB Q1 hQ1; have hS := hB; have hC := hS.reads; simp only [Zz, Zy] at hC; go_wp2_with fail; exact hQ1 _ trivial hB); (· exact ⟨_, rfl⟩))
 (apply Zp; (· rfl); (· intro b wb hB Q1 hQ1; go_wp2_with (go_at_call 168; (with_reducible refine (Tm hB HR.out).mono ?_); rintro e wn ⟨rfl, hN, hM⟩); exact hQ1 _ trivial hN); (· exact ⟨_, rfl⟩))
 refine Zv ?_
 intro wz hz
 have hC := hz.reads
 simp only [Zz, Zy] at hC
 go_wp2_with (go_at_call 147; (with_reducible refine (Kh h3 hz HV.out).mono ?_); rintro e1 wm ⟨rfl, hN, -⟩; have hC := hN.reads; simp only [Zz, Zy] at hC)
 replace hS := Zr.set3 hN hg0 hne0 (.int .i64 v1) (.int .i64 v2) (.int .i64 v3)
 have hC := hS.reads
 simp only [Zz, Zy] at hC
 go_wp2_with (go_at_call 169; (with_reducible refine (partO2 HBD.out hS HY.out).mono ?_); rintro e1 wk ⟨rfl, hS5, -⟩; have hC := hS5.reads; simp only [Zz, Zy] at hC)
 have hm2 := hS5.sm
 have hs2 := hS5.sum
 have ef : (!e && (kx && kp && kt && kq && ku && kr && kv && ky)) = !(((((((((e || !kx) || !kp) || !kt) || !kq) || !ku) || !kr) || !kv)) || !ky) := by simp [Bool.and_assoc]
 rw [ef]
 refine Gq ?_ rfl ⟨rfl, ?_, ?_⟩
 ·simp [results, Tryz.results145, go_sem, hC]
 ·repeat' (with_reducible first
   | exact hm2
   | refine SmO.setNew ?_ (by simp <;> omega) _)
 ·repeat' (with_reducible first
   | exact hs2
   | refine Box.far ?_ (by simp <;> omega) _)
end
section
open Go.RowKit

attribute [local go_sem] Zk Zj
section
variable {W w : World} {bs : Nat} {b : Bool} {L : List (Nat × TypeId × Array Value)} {a1 a2 a3 x y z : Int} {k : Bool}
theorem partO1 (hbd : -2000000000 ≤ a1 ∧ a1 ≤ 2000000000 ∧ -2000000000 ≤ a2 ∧ a2 ≤ 2000000000 ∧ 0 ≤ a3 ∧ a3 ≤ 2000000000) (hB : Zr W w bs (!b) L) (hr : Vm ⟨a1, a2, a3⟩ 1 false = (⟨x, y, z⟩, k)) : Calls Tryz.prog 169 #[.pointer (some ⟨bs, 0, none⟩), .agg #[.int .i64 a1, .int .i64 a2, .int .i64 a3], .int .i64 1, .bool false] w fun e w' => e = .returned (.agg #[.int .i64 x, .int .i64 y, .int .i64 z]) ∧ Zr W w' bs (!(b || !k)) L ∧ SmO bs w w' := Ki hB (l6tPart_re1 bs (!b) ⟨a1, a2, a3⟩ w hB.sum hbd) hr
theorem partOi (hbd : -2000000000 ≤ a1 ∧ a1 ≤ 2000000000 ∧ -2000000000 ≤ a2 ∧ a2 ≤ 2000000000 ∧ 0 ≤ a3 ∧ a3 ≤ 2000000000) (hB : Zr W w bs (!b) L) (hr : Vm ⟨a1, a2, a3⟩ 1 true = (⟨x, y, z⟩, k)) : Calls Tryz.prog 169 #[.pointer (some ⟨bs, 0, none⟩), .agg #[.int .i64 a1, .int .i64 a2, .int .i64 a3], .int .i64 1, .bool true] w fun e w' => e = .returned (.agg #[.int .i64 x, .int .i64 y, .int .i64 z]) ∧ Zr W w' bs (!(b || !k)) L ∧ SmO bs w w' := Ki hB (l6tPart_im1 bs (!b) ⟨a1, a2, a3⟩ w hB.sum hbd) hr
end
def Wi (s : Int) (im : Bool) (a b c d : Fr) : Fr × Bool :=
 ((Vm (Yk s (Zg a b).1 (Zg c d).1).1 1 im).1, (Zg a b).2 && (Zg c d).2 && (Yk s (Zg a b).1 (Zg c d).1).2 && (Vm (Yk s (Zg a b).1 (Zg c d).1).1 1 im).2)
theorem Ic (bs : Nat) (e : Bool) (a b c d : Fr) (s : Int) (h1 : s = 1 ∨ s = -1) (w : World) (hb : Box w bs 144 #[.bool (!e)]) :
  Calls Tryz.prog 146 #[.pointer (some ⟨bs, 0, none⟩), .agg #[.int .i64 a.re, .int .i64 a.im, .int .i64 a.den, .int .i64 b.re, .int .i64 b.im, .int .i64 b.den, .int .i64 c.re, .int .i64 c.im, .int .i64 c.den, .int .i64 d.re, .int .i64 d.im, .int .i64 d.den], .int .i64 0, .int .i64 1, .int .i64 s, .int .i64 2, .int .i64 3, .bool false] w (Wy bs (!e) w (Wi s false a b c d)) := by
 have hbd := Ra s (Zg a b).1 (Zg c d).1
 unfold Wi
 rcases hx : Zg a b with ⟨⟨x1, x2, x3⟩, kx⟩
 rcases hp : Zg c d with ⟨⟨p1, p2, p3⟩, kp⟩
 rw [hx, hp] at hbd
 simp only at hbd ⊢
 rcases ht : Yk s ⟨x1, x2, x3⟩ ⟨p1, p2, p3⟩ with ⟨⟨t1, t2, t3⟩, kt⟩
 rw [ht] at hbd
 simp only at hbd ⊢
 rcases hy : Vm ⟨t1, t2, t3⟩ 1 false with ⟨⟨y1, y2, y3⟩, ky⟩
 simp only
 obtain ⟨a1, a2, a3⟩ := a
 obtain ⟨b1, b2, b3⟩ := b
 obtain ⟨c1, c2, c3⟩ := c
 obtain ⟨d1, d2, d3⟩ := d
 have HX := Gv hx
 have HP := Gv hp
 have HT := Gv ht
 have HY := Gv hy
 have HBD := Gv hbd
 clear hx hp ht hy hbd
 unfold Wy
 simp only [Fr.v]
 have hS := Zr.init hb
 have hC := hS.reads
 simp only [Zz, Zy] at hC
 have hbl := hb.lt
 have m2 : w.heap.size ≠ bs := Nat.ne_of_gt hb.lt
 go_enter Tryz.func146, Tryz.ntmps146
 go_wp2_with fail
 replace hS : Zr w ((w.alloc (.cells #[.int .i64 a1, .int .i64 a2, .int .i64 a3, .int .i64 b1, .int .i64 b2, .int .i64 b3, .int .i64 c1, .int .i64 c2, .int .i64 c3, .int .i64 d1, .int .i64 d2, .int .i64 d3] 122)).alloc (.cells #[.int .i64 0, .int .i64 0, .int .i64 0] 32)) bs (!e) [(w.heap.size + 1, 32, #[.int .i64 0, .int .i64 0, .int .i64 0]), (w.heap.size, 122, #[.int .i64 a1, .int .i64 a2, .int .i64 a3, .int .i64 b1, .int .i64 b2, .int .i64 b3, .int .i64 c1, .int .i64 c2, .int .i64 c3, .int .i64 d1, .int .i64 d2, .int .i64 d3])] := Zr.cast (W := w) rfl (by simp only [Gu])
 have hS0 := hS
 have hbs0 := hS0.sum.lt
 refine Zn (St := SmO bs) (B := fun b w' => InO _ bs _ (!b) w') 10 1 0 _ 32 (fun _ => 17) (fun _ => 28) (fun _ => #[.int .i64 0, .int .i64 0, .int .i64 0]) (fun _ => #[.int .i64 x1, .int .i64 x2, .int .i64 x3]) _ (by kernel_rfl) (by kernel_rfl) (InO.drew (InO.start hS0)) (fun x y h1 h2 _ => by omega) (fun x y _ _ => by decide) (fun _ _ h g cs hg hb => h.box _ _ _ (Nat.ne_of_gt (Nat.lt_of_lt_of_le hbs0 hg)) hb) (fun _ _ cs h => h.alloc _) (fun _ _ h => h.size) ?_
 iterate 9 (apply Zx; (· rfl); (· intro b wb hB Q1 hQ1; have hS := hB.sees; have hC := hS.reads; simp only [Zz, Zy] at hC; go_wp2_with fail; exact hQ1 _ (SmO.refl _ _) hB); (· exact ⟨_, rfl⟩))
 (apply Zp; (· rfl); (· intro b wb hB Q1 hQ1; go_wp2_with (go_at_call 168; (with_reducible refine (Tm hB.sees HX.out).mono ?_); rintro e wn ⟨rfl, hN, hM⟩); exact hQ1 _ hM (hB.call hN)); (· exact ⟨_, rfl⟩))
 refine Zv ?_
 refine ⟨fun i hi => ?_, fun i hi => ?_, fun i hi => ?_, fun gg wz hz hbx hne => ?_⟩
 ·obtain rfl : i = 0 := by omega
  all_goals exact ⟨_, rfl, Zc⟩
 ·obtain rfl : i = 0 := by omega
  all_goals exact ⟨_, rfl, Zi Za rfl (by kernel_rfl) (fun _ _ _ hg h => h.setRow hg _)⟩
 ·obtain rfl : i = 0 := by omega
  ·exact (show (17 : Nat) < 47 by decide)
 obtain ⟨hg0, hb0⟩ := hbx 0 (by omega)
 replace hS := InO.join hS0 hz
 replace hS := Zr.put hS hb0 (by omega)
 simp only [frN, Act.put, Gt, Gs, Gr, Nat.reduceAdd, List.drop_succ_cons, List.drop_zero]
 generalize gg 0 = g0 at *
 clear hbx hz hS0 hne
 simp only at hS
 go_wp2_with fail
 have hS0 := hS
 have hbs0 := hS0.sum.lt
 refine Zn (St := SmO bs) (B := fun b w' => InO _ bs _ (!b) w') 10 1 0 _ 32 (fun _ => 18) (fun _ => 38) (fun _ => #[.int .i64 0, .int .i64 0, .int .i64 0]) (fun _ => #[.int .i64 p1, .int .i64 p2, .int .i64 p3]) _ (by kernel_rfl) (by kernel_rfl) (InO.drew (InO.start hS0)) (fun x y h1 h2 _ => by omega) (fun x y _ _ => by decide) (fun _ _ h g cs hg hb => h.box _ _ _ (Nat.ne_of_gt (Nat.lt_of_lt_of_le hbs0 hg)) hb) (fun _ _ cs h => h.alloc _) (fun _ _ h => h.size) ?_
 iterate 9 (apply Zx; (· rfl); (· intro b wb hB Q1 hQ1; have hS := hB.sees; have hC := hS.reads; simp only [Zz, Zy] at hC; go_wp2_with fail; exact hQ1 _ (SmO.refl _ _) hB); (· exact ⟨_, rfl⟩))
 (apply Zp; (· rfl); (· intro b wb hB Q1 hQ1; go_wp2_with (go_at_call 168; (with_reducible refine (Tm hB.sees HP.out).mono ?_); rintro e wn ⟨rfl, hN, hM⟩); exact hQ1 _ hM (hB.call hN)); (· exact ⟨_, rfl⟩))
 refine Zv ?_
 refine ⟨fun i hi => ?_, fun i hi => ?_, fun i hi => ?_, fun gg wz hz hbx hne => ?_⟩
 ·obtain rfl : i = 0 := by omega
  all_goals exact ⟨_, rfl, Zc⟩
 ·obtain rfl : i = 0 := by omega
  all_goals exact ⟨_, rfl, Zi Za rfl (by kernel_rfl) (fun _ _ _ hg h => h.setRow hg _)⟩
 ·obtain rfl : i = 0 := by omega
  ·exact (show (18 : Nat) < 47 by decide)
 obtain ⟨hq0, hp0⟩ := hbx 0 (by omega)
 replace hS := InO.join hS0 hz
 replace hS := Zr.put hS hp0 (by omega)
 simp only [frN, Act.put, Gt, Gs, Gr, Nat.reduceAdd, List.drop_succ_cons, List.drop_zero]
 generalize gg 0 = g1 at *
 clear hbx hz hS0 hne
 simp only at hS
 skip
 have hC := hS.reads
 simp only [Zz, Zy] at hC
 go_wp2_with (first | (go_at_call 147; (with_reducible refine (Kh h1 hS HT.out).mono ?_); rintro e1 wm ⟨rfl, hS, -⟩; have hC := hS.reads; simp only [Zz, Zy] at hC) | (go_at_call 169; (with_reducible refine (partO1 HBD.out hS HY.out).mono ?_); rintro e1 wk ⟨rfl, hS, -⟩; have hC := hS.reads; simp only [Zz, Zy] at hC))
 have hm2 := hS.sm
 have hs2 := hS.sum
 have ef : (!e && (kx && kp && kt && ky)) = !((((e || !kx) || !kp) || !kt) || !ky) := by simp [Bool.and_assoc]
 rw [ef]
 refine Gq ?_ rfl ⟨rfl, ?_, ?_⟩
 ·simp [results, Tryz.results146, go_sem, hC]
 ·repeat' (with_reducible first
   | exact hm2
   | refine SmO.setNew ?_ (by simp <;> omega) _)
 ·repeat' (with_reducible first
   | exact hs2
   | refine Box.far ?_ (by simp <;> omega) _)
theorem Ib (bs : Nat) (e : Bool) (a b c d : Fr) (s : Int) (h1 : s = 1 ∨ s = -1) (w : World) (hb : Box w bs 144 #[.bool (!e)]) :
  Calls Tryz.prog 146 #[.pointer (some ⟨bs, 0, none⟩), .agg #[.int .i64 a.re, .int .i64 a.im, .int .i64 a.den, .int .i64 b.re, .int .i64 b.im, .int .i64 b.den, .int .i64 c.re, .int .i64 c.im, .int .i64 c.den, .int .i64 d.re, .int .i64 d.im, .int .i64 d.den], .int .i64 1, .int .i64 0, .int .i64 s, .int .i64 3, .int .i64 2, .bool true] w (Wy bs (!e) w (Wi s true b a d c)) := by
 have hbd := Ra s (Zg b a).1 (Zg d c).1
 unfold Wi
 rcases hx : Zg b a with ⟨⟨x1, x2, x3⟩, kx⟩
 rcases hp : Zg d c with ⟨⟨p1, p2, p3⟩, kp⟩
 rw [hx, hp] at hbd
 simp only at hbd ⊢
 rcases ht : Yk s ⟨x1, x2, x3⟩ ⟨p1, p2, p3⟩ with ⟨⟨t1, t2, t3⟩, kt⟩
 rw [ht] at hbd
 simp only at hbd ⊢
 rcases hy : Vm ⟨t1, t2, t3⟩ 1 true with ⟨⟨y1, y2, y3⟩, ky⟩
 simp only
 obtain ⟨a1, a2, a3⟩ := a
 obtain ⟨b1, b2, b3⟩ := b
 obtain ⟨c1, c2, c3⟩ := c
 obtain ⟨d1, d2, d3⟩ := d
 have HX := Gv hx
 have HP := Gv hp
 have HT := Gv ht
 have HY := Gv hy
 have HBD := Gv hbd
 clear hx hp ht hy hbd
 unfold Wy
 simp only [Fr.v]
 have hS := Zr.init hb
 have hC := hS.reads
 simp only [Zz, Zy] at hC
 have hbl := hb.lt
 have m2 : w.heap.size ≠ bs := Nat.ne_of_gt hb.lt
 go_enter Tryz.func146, Tryz.ntmps146
 go_wp2_with fail
 replace hS : Zr w ((w.alloc (.cells #[.int .i64 a1, .int .i64 a2, .int .i64 a3, .int .i64 b1, .int .i64 b2, .int .i64 b3, .int .i64 c1, .int .i64 c2, .int .i64 c3, .int .i64 d1, .int .i64 d2, .int .i64 d3] 122)).alloc (.cells #[.int .i64 0, .int .i64 0, .int .i64 0] 32)) bs (!e) [(w.heap.size + 1, 32, #[.int .i64 0, .int .i64 0, .int .i64 0]), (w.heap.size, 122, #[.int .i64 a1, .int .i64 a2, .int .i64 a3, .int .i64 b1, .int .i64 b2, .int .i64 b3, .int .i64 c1, .int .i64 c2, .int .i64 c3, .int .i64 d1, .int .i64 d2, .int .i64 d3])] := Zr.cast (W := w) rfl (by simp only [Gu])
 have hS0 := hS
 have hbs0 := hS0.sum.lt
 refine Zn (St := SmO bs) (B := fun b w' => InO _ bs _ (!b) w') 10 1 0 _ 32 (fun _ => 17) (fun _ => 28) (fun _ => #[.int .i64 0, .int .i64 0, .int .i64 0]) (fun _ => #[.int .i64 x1, .int .i64 x2, .int .i64 x3]) _ (by kernel_rfl) (by kernel_rfl) (InO.drew (InO.start hS0)) (fun x y h1 h2 _ => by omega) (fun x y _ _ => by decide) (fun _ _ h g cs hg hb => h.box _ _ _ (Nat.ne_of_gt (Nat.lt_of_lt_of_le hbs0 hg)) hb) (fun _ _ cs h => h.alloc _) (fun _ _ h => h.size) ?_
 iterate 9 (apply Zx; (· rfl); (· intro b wb hB Q1 hQ1; have hS := hB.sees; have hC := hS.reads; simp only [Zz, Zy] at hC; go_wp2_with fail; exact hQ1 _ (SmO.refl _ _) hB); (· exact ⟨_, rfl⟩))
 (apply Zp; (· rfl); (· intro b wb hB Q1 hQ1; go_wp2_with (go_at_call 168; (with_reducible refine (Tm hB.sees HX.out).mono ?_); rintro e wn ⟨rfl, hN, hM⟩); exact hQ1 _ hM (hB.call hN)); (· exact ⟨_, rfl⟩))
 refine Zv ?_
 refine ⟨fun i hi => ?_, fun i hi => ?_, fun i hi => ?_, fun gg wz hz hbx hne => ?_⟩
 ·obtain rfl : i = 0 := by omega
  all_goals exact ⟨_, rfl, Zc⟩
 ·obtain rfl : i = 0 := by omega
  all_goals exact ⟨_, rfl, Zi Za rfl (by kernel_rfl) (fun _ _ _ hg h => h.setRow hg _)⟩
 ·obtain rfl : i = 0 := by omega
  ·exact (show (17 : Nat) < 47 by decide)
 obtain ⟨hg0, hb0⟩ := hbx 0 (by omega)
 replace hS := InO.join hS0 hz
 replace hS := Zr.put hS hb0 (by omega)
 simp only [frN, Act.put, Gt, Gs, Gr, Nat.reduceAdd, List.drop_succ_cons, List.drop_zero]
 generalize gg 0 = g0 at *
 clear hbx hz hS0 hne
 simp only at hS
 go_wp2_with fail
 have hS0 := hS
 have hbs0 := hS0.sum.lt
 refine Zn (St := SmO bs) (B := fun b w' => InO _ bs _ (!b) w') 10 1 0 _ 32 (fun _ => 18) (fun _ => 38) (fun _ => #[.int .i64 0, .int .i64 0, .int .i64 0]) (fun _ => #[.int .i64 p1, .int .i64 p2, .int .i64 p3]) _ (by kernel_rfl) (by kernel_rfl) (InO.drew (InO.start hS0)) (fun x y h1 h2 _ => by omega) (fun x y _ _ => by decide) (fun _ _ h g cs hg hb => h.box _ _ _ (Nat.ne_of_gt (Nat.lt_of_lt_of_le hbs0 hg)) hb) (fun _ _ cs h => h.alloc _) (fun _ _ h => h.size) ?_
 iterate 9 (apply Zx; (· rfl); (· intro b wb hB Q1 hQ1; have hS := hB.sees; have hC := hS.reads; simp only [Zz, Zy] at hC; go_wp2_with fail; exact hQ1 _ (SmO.refl _ _) hB); (· exact ⟨_, rfl⟩))
 (apply Zp; (· rfl); (· intro b wb hB Q1 hQ1; go_wp2_with (go_at_call 168; (with_reducible refine (Tm hB.sees HP.out).mono ?_); rintro e wn ⟨rfl, hN, hM⟩); exact hQ1 _ hM (hB.call hN)); (· exact ⟨_, rfl⟩))
 refine Zv ?_
 refine ⟨fun i hi => ?_, fun i hi => ?_, fun i hi => ?_, fun gg wz hz hbx hne => ?_⟩
 ·obtain rfl : i = 0 := by omega
  all_goals exact ⟨_, rfl, Zc⟩
 ·obtain rfl : i = 0 := by omega
  all_goals exact ⟨_, rfl, Zi Za rfl (by kernel_rfl) (fun _ _ _ hg h => h.setRow hg _)⟩
 ·obtain rfl : i = 0 := by omega
  ·exact (show (18 : Nat) < 47 by decide)
 obtain ⟨hq0, hp0⟩ := hbx 0 (by omega)
 replace hS := InO.join hS0 hz
 replace hS := Zr.put hS hp0 (by omega)
 simp only [frN, Act.put, Gt, Gs, Gr, Nat.reduceAdd, List.drop_succ_cons, List.drop_zero]
 generalize gg 0 = g1 at *
 clear hbx hz hS0 hne
 simp only at hS
 skip
 have hC := hS.reads
 simp only [Zz, Zy] at hC
 go_wp2_with (first | (go_at_call 147; (with_reducible refine (Kh h1 hS HT.out).mono ?_); rintro e1 wm ⟨rfl, hS, -⟩; have hC := hS.reads; simp only [Zz, Zy] at hC) | (go_at_call 169; (with_reducible refine (partOi HBD.out hS HY.out).mono ?_); rintro e1 wk ⟨rfl, hS, -⟩; have hC := hS.reads; simp only [Zz, Zy] at hC))
 have hm2 := hS.sm
 have hs2 := hS.sum
 have ef : (!e && (kx && kp && kt && ky)) = !((((e || !kx) || !kp) || !kt) || !ky) := by simp [Bool.and_assoc]
 rw [ef]
 refine Gq ?_ rfl ⟨rfl, ?_, ?_⟩
 ·simp [results, Tryz.results146, go_sem, hC]
 ·repeat' (with_reducible first
   | exact hm2
   | refine SmO.setNew ?_ (by simp <;> omega) _)
 ·repeat' (with_reducible first
   | exact hs2
   | refine Box.far ?_ (by simp <;> omega) _)
theorem Ia (bs : Nat) (e : Bool) (a b c d : Fr) (s : Int) (h1 : s = 1 ∨ s = -1) (w : World) (hb : Box w bs 144 #[.bool (!e)]) :
  Calls Tryz.prog 146 #[.pointer (some ⟨bs, 0, none⟩), .agg #[.int .i64 a.re, .int .i64 a.im, .int .i64 a.den, .int .i64 b.re, .int .i64 b.im, .int .i64 b.den, .int .i64 c.re, .int .i64 c.im, .int .i64 c.den, .int .i64 d.re, .int .i64 d.im, .int .i64 d.den], .int .i64 0, .int .i64 2, .int .i64 s, .int .i64 1, .int .i64 3, .bool false] w (Wy bs (!e) w (Wi s false a c b d)) := by
 have hbd := Ra s (Zg a c).1 (Zg b d).1
 unfold Wi
 rcases hx : Zg a c with ⟨⟨x1, x2, x3⟩, kx⟩
 rcases hp : Zg b d with ⟨⟨p1, p2, p3⟩, kp⟩
 rw [hx, hp] at hbd
 simp only at hbd ⊢
 rcases ht : Yk s ⟨x1, x2, x3⟩ ⟨p1, p2, p3⟩ with ⟨⟨t1, t2, t3⟩, kt⟩
 rw [ht] at hbd
 simp only at hbd ⊢
 rcases hy : Vm ⟨t1, t2, t3⟩ 1 false with ⟨⟨y1, y2, y3⟩, ky⟩
 simp only
 obtain ⟨a1, a2, a3⟩ := a
 obtain ⟨b1, b2, b3⟩ := b
 obtain ⟨c1, c2, c3⟩ := c
 obtain ⟨d1, d2, d3⟩ := d
 have HX := Gv hx
 have HP := Gv hp
 have HT := Gv ht
 have HY := Gv hy
 have HBD := Gv hbd
 clear hx hp ht hy hbd
 unfold Wy
 simp only [Fr.v]
 have hS := Zr.init hb
 have hC := hS.reads
 simp only [Zz, Zy] at hC
 have hbl := hb.lt
 have m2 : w.heap.size ≠ bs := Nat.ne_of_gt hb.lt
 go_enter Tryz.func146, Tryz.ntmps146
 go_wp2_with fail
 replace hS : Zr w ((w.alloc (.cells #[.int .i64 a1, .int .i64 a2, .int .i64 a3, .int .i64 b1, .int .i64 b2, .int .i64 b3, .int .i64 c1, .int .i64 c2, .int .i64 c3, .int .i64 d1, .int .i64 d2, .int .i64 d3] 122)).alloc (.cells #[.int .i64 0, .int .i64 0, .int .i64 0] 32)) bs (!e) [(w.heap.size + 1, 32, #[.int .i64 0, .int .i64 0, .int .i64 0]), (w.heap.size, 122, #[.int .i64 a1, .int .i64 a2, .int .i64 a3, .int .i64 b1, .int .i64 b2, .int .i64 b3, .int .i64 c1, .int .i64 c2, .int .i64 c3, .int .i64 d1, .int .i64 d2, .int .i64 d3])] := Zr.cast (W := w) rfl (by simp only [Gu])
 have hS0 := hS
 have hbs0 := hS0.sum.lt
 refine Zn (St := SmO bs) (B := fun b w' => InO _ bs _ (!b) w') 10 1 0 _ 32 (fun _ => 17) (fun _ => 28) (fun _ => #[.int .i64 0, .int .i64 0, .int .i64 0]) (fun _ => #[.int .i64 x1, .int .i64 x2, .int .i64 x3]) _ (by kernel_rfl) (by kernel_rfl) (InO.drew (InO.start hS0)) (fun x y h1 h2 _ => by omega) (fun x y _ _ => by decide) (fun _ _ h g cs hg hb => h.box _ _ _ (Nat.ne_of_gt (Nat.lt_of_lt_of_le hbs0 hg)) hb) (fun _ _ cs h => h.alloc _) (fun _ _ h => h.size) ?_
 iterate 9 (apply Zx; (· rfl); (· intro b wb hB Q1 hQ1; have hS := hB.sees; have hC := hS.reads; simp only [Zz, Zy] at hC; go_wp2_with fail; exact hQ1 _ (SmO.refl _ _) hB); (· exact ⟨_, rfl⟩))
 (apply Zp; (· rfl); (· intro b wb hB Q1 hQ1; go_wp2_with (go_at_call 168; (with_reducible refine (Tm hB.sees HX.out).mono ?_); rintro e wn ⟨rfl, hN, hM⟩); exact hQ1 _ hM (hB.call hN)); (· exact ⟨_, rfl⟩))
 refine Zv ?_
 refine ⟨fun i hi => ?_, fun i hi => ?_, fun i hi => ?_, fun gg wz hz hbx hne => ?_⟩
 ·obtain rfl : i = 0 := by omega
  all_goals exact ⟨_, rfl, Zc⟩
 ·obtain rfl : i = 0 := by omega
  all_goals exact ⟨_, rfl, Zi Za rfl (by kernel_rfl) (fun _ _ _ hg h => h.setRow hg _)⟩
 ·obtain rfl : i = 0 := by omega
  ·exact (show (17 : Nat) < 47 by decide)
 obtain ⟨hg0, hb0⟩ := hbx 0 (by omega)
 replace hS := InO.join hS0 hz
 replace hS := Zr.put hS hb0 (by omega)
 simp only [frN, Act.put, Gt, Gs, Gr, Nat.reduceAdd, List.drop_succ_cons, List.drop_zero]
 generalize gg 0 = g0 at *
 clear hbx hz hS0 hne
 simp only at hS
 go_wp2_with fail
 have hS0 := hS
 have hbs0 := hS0.sum.lt
 refine Zn (St := SmO bs) (B := fun b w' => InO _ bs _ (!b) w') 10 1 0 _ 32 (fun _ => 18) (fun _ => 38) (fun _ => #[.int .i64 0, .int .i64 0, .int .i64 0]) (fun _ => #[.int .i64 p1, .int .i64 p2, .int .i64 p3]) _ (by kernel_rfl) (by kernel_rfl) (InO.drew (InO.start hS0)) (fun x y h1 h2 _ => by omega) (fun x y _ _ => by decide) (fun _ _ h g cs hg hb => h.box _ _ _ (Nat.ne_of_gt (Nat.lt_of_lt_of_le hbs0 hg)) hb) (fun _ _ cs h => h.alloc _) (fun _ _ h => h.size) ?_
 iterate 9 (apply Zx; (· rfl); (· intro b wb hB Q1 hQ1; have hS := hB.sees; have hC := hS.reads; simp only [Zz, Zy] at hC; go_wp2_with fail; exact hQ1 _ (SmO.refl _ _) hB); (· exact ⟨_, rfl⟩))
 (apply Zp; (· rfl); (· intro b wb hB Q1 hQ1; go_wp2_with (go_at_call 168; (with_reducible refine (Tm hB.sees HP.out).mono ?_); rintro e wn ⟨rfl, hN, hM⟩); exact hQ1 _ hM (hB.call hN)); (· exact ⟨_, rfl⟩))
 refine Zv ?_
 refine ⟨fun i hi => ?_, fun i hi => ?_, fun i hi => ?_, fun gg wz hz hbx hne => ?_⟩
 ·obtain rfl : i = 0 := by omega
  all_goals exact ⟨_, rfl, Zc⟩
 ·obtain rfl : i = 0 := by omega
  all_goals exact ⟨_, rfl, Zi Za rfl (by kernel_rfl) (fun _ _ _ hg h => h.setRow hg _)⟩
 ·obtain rfl : i = 0 := by omega
  ·exact (show (18 : Nat) < 47 by decide)
 obtain ⟨hq0, hp0⟩ := hbx 0 (by omega)
 replace hS := InO.join hS0 hz
 replace hS := Zr.put hS hp0 (by omega)
 simp only [frN, Act.put, Gt, Gs, Gr, Nat.reduceAdd, List.drop_succ_cons, List.drop_zero]
 generalize gg 0 = g1 at *
 clear hbx hz hS0 hne
 simp only at hS
 skip
 have hC := hS.reads
 simp only [Zz, Zy] at hC
 go_wp2_with (first | (go_at_call 147; (with_reducible refine (Kh h1 hS HT.out).mono ?_); rintro e1 wm ⟨rfl, hS, -⟩; have hC := hS.reads; simp only [Zz, Zy] at hC) | (go_at_call 169; (with_reducible refine (partO1 HBD.out hS HY.out).mono ?_); rintro e1 wk ⟨rfl, hS, -⟩; have hC := hS.reads; simp only [Zz, Zy] at hC))
 have hm2 := hS.sm
 have hs2 := hS.sum
 have ef : (!e && (kx && kp && kt && ky)) = !((((e || !kx) || !kp) || !kt) || !ky) := by simp [Bool.and_assoc]
 rw [ef]
 refine Gq ?_ rfl ⟨rfl, ?_, ?_⟩
 ·simp [results, Tryz.results146, go_sem, hC]
 ·repeat' (with_reducible first
   | exact hm2
   | refine SmO.setNew ?_ (by simp <;> omega) _)
 ·repeat' (with_reducible first
   | exact hs2
   | refine Box.far ?_ (by simp <;> omega) _)
theorem Hz (bs : Nat) (e : Bool) (a b c d : Fr) (s : Int) (h1 : s = 1 ∨ s = -1) (w : World) (hb : Box w bs 144 #[.bool (!e)]) :
  Calls Tryz.prog 146 #[.pointer (some ⟨bs, 0, none⟩), .agg #[.int .i64 a.re, .int .i64 a.im, .int .i64 a.den, .int .i64 b.re, .int .i64 b.im, .int .i64 b.den, .int .i64 c.re, .int .i64 c.im, .int .i64 c.den, .int .i64 d.re, .int .i64 d.im, .int .i64 d.den], .int .i64 0, .int .i64 3, .int .i64 s, .int .i64 1, .int .i64 2, .bool false] w (Wy bs (!e) w (Wi s false a d b c)) := by
 have hbd := Ra s (Zg a d).1 (Zg b c).1
 unfold Wi
 rcases hx : Zg a d with ⟨⟨x1, x2, x3⟩, kx⟩
 rcases hp : Zg b c with ⟨⟨p1, p2, p3⟩, kp⟩
 rw [hx, hp] at hbd
 simp only at hbd ⊢
 rcases ht : Yk s ⟨x1, x2, x3⟩ ⟨p1, p2, p3⟩ with ⟨⟨t1, t2, t3⟩, kt⟩
 rw [ht] at hbd
 simp only at hbd ⊢
 rcases hy : Vm ⟨t1, t2, t3⟩ 1 false with ⟨⟨y1, y2, y3⟩, ky⟩
 simp only
 obtain ⟨a1, a2, a3⟩ := a
 obtain ⟨b1, b2, b3⟩ := b
 obtain ⟨c1, c2, c3⟩ := c
 obtain ⟨d1, d2, d3⟩ := d
 have HX := Gv hx
 have HP := Gv hp
 have HT := Gv ht
 have HY := Gv hy
 have HBD := Gv hbd
 clear hx hp ht hy hbd
 unfold Wy
 simp only [Fr.v]
 have hS := Zr.init hb
 have hC := hS.reads
 simp only [Zz, Zy] at hC
 have hbl := hb.lt
 have m2 : w.heap.size ≠ bs := Nat.ne_of_gt hb.lt
 go_enter Tryz.func146, Tryz.ntmps146
 go_wp2_with fail
 replace hS : Zr w ((w.alloc (.cells #[.int .i64 a1, .int .i64 a2, .int .i64 a3, .int .i64 b1, .int .i64 b2, .int .i64 b3, .int .i64 c1, .int .i64 c2, .int .i64 c3, .int .i64 d1, .int .i64 d2, .int .i64 d3] 122)).alloc (.cells #[.int .i64 0, .int .i64 0, .int .i64 0] 32)) bs (!e) [(w.heap.size + 1, 32, #[.int .i64 0, .int .i64 0, .int .i64 0]), (w.heap.size, 122, #[.int .i64 a1, .int .i64 a2, .int .i64 a3, .int .i64 b1, .int .i64 b2, .int .i64 b3, .int .i64 c1, .int .i64 c2, .int .i64 c3, .int .i64 d1, .int .i64 d2, .int .i64 d3])] := Zr.cast (W := w) rfl (by simp only [Gu])
 have hS0 := hS
 have hbs0 := hS0.sum.lt
 refine Zn (St := SmO bs) (B := fun b w' => InO _ bs _ (!b) w') 10 1 0 _ 32 (fun _ => 17) (fun _ => 28) (fun _ => #[.int .i64 0, .int .i64 0, .int .i64 0]) (fun _ => #[.int .i64 x1, .int .i64 x2, .int .i64 x3]) _ (by kernel_rfl) (by kernel_rfl) (InO.drew (InO.start hS0)) (fun x y h1 h2 _ => by omega) (fun x y _ _ => by decide) (fun _ _ h g cs hg hb => h.box _ _ _ (Nat.ne_of_gt (Nat.lt_of_lt_of_le hbs0 hg)) hb) (fun _ _ cs h => h.alloc _) (fun _ _ h => h.size) ?_
 iterate 9 (apply Zx; (· rfl); (· intro b wb hB Q1 hQ1; have hS := hB.sees; have hC := hS.reads; simp only [Zz, Zy] at hC; go_wp2_with fail; exact hQ1 _ (SmO.refl _ _) hB); (· exact ⟨_, rfl⟩))
 (apply Zp; (· rfl); (· intro b wb hB Q1 hQ1; go_wp2_with (go_at_call 168; (with_reducible refine (Tm hB.sees HX.out).mono ?_); rintro e wn ⟨rfl, hN, hM⟩); exact hQ1 _ hM (hB.call hN)); (· exact ⟨_, rfl⟩))
 refine Zv ?_
 refine ⟨fun i hi => ?_, fun i hi => ?_, fun i hi => ?_, fun gg wz hz hbx hne => ?_⟩
 ·obtain rfl : i = 0 := by omega
  all_goals exact ⟨_, rfl, Zc⟩
 ·obtain rfl : i = 0 := by omega
  all_goals exact ⟨_, rfl, Zi Za rfl (by kernel_rfl) (fun _ _ _ hg h => h.setRow hg _)⟩
 ·obtain rfl : i = 0 := by omega
  ·exact (show (17 : Nat) < 47 by decide)
 obtain ⟨hg0, hb0⟩ := hbx 0 (by omega)
 replace hS := InO.join hS0 hz
 replace hS := Zr.put hS hb0 (by omega)
 simp only [frN, Act.put, Gt, Gs, Gr, Nat.reduceAdd, List.drop_succ_cons, List.drop_zero]
 generalize gg 0 = g0 at *
 clear hbx hz hS0 hne
 simp only at hS
 go_wp2_with fail
 have hS0 := hS
 have hbs0 := hS0.sum.lt
 refine Zn (St := SmO bs) (B := fun b w' => InO _ bs _ (!b) w') 10 1 0 _ 32 (fun _ => 18) (fun _ => 38) (fun _ => #[.int .i64 0, .int .i64 0, .int .i64 0]) (fun _ => #[.int .i64 p1, .int .i64 p2, .int .i64 p3]) _ (by kernel_rfl) (by kernel_rfl) (InO.drew (InO.start hS0)) (fun x y h1 h2 _ => by omega) (fun x y _ _ => by decide) (fun _ _ h g cs hg hb => h.box _ _ _ (Nat.ne_of_gt (Nat.lt_of_lt_of_le hbs0 hg)) hb) (fun _ _ cs h => h.alloc _) (fun _ _ h => h.size) ?_
 iterate 9 (apply Zx; (· rfl); (· intro b wb hB Q1 hQ1; have hS := hB.sees; have hC := hS.reads; simp only [Zz, Zy] at hC; go_wp2_with fail; exact hQ1 _ (SmO.refl _ _) hB); (· exact ⟨_, rfl⟩))
 (apply Zp; (· rfl); (· intro b wb hB Q1 hQ1; go_wp2_with (go_at_call 168; (with_reducible refine (Tm hB.sees HP.out).mono ?_); rintro e wn ⟨rfl, hN, hM⟩); exact hQ1 _ hM (hB.call hN)); (· exact ⟨_, rfl⟩))
 refine Zv ?_
 refine ⟨fun i hi => ?_, fun i hi => ?_, fun i hi => ?_, fun gg wz hz hbx hne => ?_⟩
 ·obtain rfl : i = 0 := by omega
  all_goals exact ⟨_, rfl, Zc⟩
 ·obtain rfl : i = 0 := by omega
  all_goals exact ⟨_, rfl, Zi Za rfl (by kernel_rfl) (fun _ _ _ hg h => h.setRow hg _)⟩
 ·obtain rfl : i = 0 := by omega
  ·exact (show (18 : Nat) < 47 by decide)
 obtain ⟨hq0, hp0⟩ := hbx 0 (by omega)
 replace hS := InO.join hS0 hz
 replace hS := Zr.put hS hp0 (by omega)
 simp only [frN, Act.put, Gt, Gs, Gr, Nat.reduceAdd, List.drop_succ_cons, List.drop_zero]
 generalize gg 0 = g1 at *
 clear hbx hz hS0 hne
 simp only at hS
 skip
 have hC := hS.reads
 simp only [Zz, Zy] at hC
 go_wp2_with (first | (go_at_call 147; (with_reducible refine (Kh h1 hS HT.out).mono ?_); rintro e1 wm ⟨rfl, hS, -⟩; have hC := hS.reads; simp only [Zz, Zy] at hC) | (go_at_call 169; (with_reducible refine (partO1 HBD.out hS HY.out).mono ?_); rintro e1 wk ⟨rfl, hS, -⟩; have hC := hS.reads; simp only [Zz, Zy] at hC))
 have hm2 := hS.sm
 have hs2 := hS.sum
 have ef : (!e && (kx && kp && kt && ky)) = !((((e || !kx) || !kp) || !kt) || !ky) := by simp [Bool.and_assoc]
 rw [ef]
 refine Gq ?_ rfl ⟨rfl, ?_, ?_⟩
 ·simp [results, Tryz.results146, go_sem, hC]
 ·repeat' (with_reducible first
   | exact hm2
   | refine SmO.setNew ?_ (by simp <;> omega) _)
 ·repeat' (with_reducible first
   | exact hs2
   | refine Box.far ?_ (by simp <;> omega) _)
theorem Hy (bs : Nat) (e : Bool) (a b c d : Fr) (s : Int) (h1 : s = 1 ∨ s = -1) (w : World) (hb : Box w bs 144 #[.bool (!e)]) :
  Calls Tryz.prog 146 #[.pointer (some ⟨bs, 0, none⟩), .agg #[.int .i64 a.re, .int .i64 a.im, .int .i64 a.den, .int .i64 b.re, .int .i64 b.im, .int .i64 b.den, .int .i64 c.re, .int .i64 c.im, .int .i64 c.den, .int .i64 d.re, .int .i64 d.im, .int .i64 d.den], .int .i64 1, .int .i64 2, .int .i64 s, .int .i64 0, .int .i64 3, .bool true] w (Wy bs (!e) w (Wi s true b c a d)) := by
 have hbd := Ra s (Zg b c).1 (Zg a d).1
 unfold Wi
 rcases hx : Zg b c with ⟨⟨x1, x2, x3⟩, kx⟩
 rcases hp : Zg a d with ⟨⟨p1, p2, p3⟩, kp⟩
 rw [hx, hp] at hbd
 simp only at hbd ⊢
 rcases ht : Yk s ⟨x1, x2, x3⟩ ⟨p1, p2, p3⟩ with ⟨⟨t1, t2, t3⟩, kt⟩
 rw [ht] at hbd
 simp only at hbd ⊢
 rcases hy : Vm ⟨t1, t2, t3⟩ 1 true with ⟨⟨y1, y2, y3⟩, ky⟩
 simp only
 obtain ⟨a1, a2, a3⟩ := a
 obtain ⟨b1, b2, b3⟩ := b
 obtain ⟨c1, c2, c3⟩ := c
 obtain ⟨d1, d2, d3⟩ := d
 have HX := Gv hx
 have HP := Gv hp
 have HT := Gv ht
 have HY := Gv hy
 have HBD := Gv hbd
 clear hx hp ht hy hbd
 unfold Wy
 simp only [Fr.v]
 have hS := Zr.init hb
 have hC := hS.reads
 simp only [Zz, Zy] at hC
 have hbl := hb.lt
 have m2 : w.heap.size ≠ bs := Nat.ne_of_gt hb.lt
 go_enter Tryz.func146, Tryz.ntmps146
 go_wp2_with fail
 replace hS : Zr w ((w.alloc (.cells #[.int .i64 a1, .int .i64 a2, .int .i64 a3, .int .i64 b1, .int .i64 b2, .int .i64 b3, .int .i64 c1, .int .i64 c2, .int .i64 c3, .int .i64 d1, .int .i64 d2, .int .i64 d3] 122)).alloc (.cells #[.int .i64 0, .int .i64 0, .int .i64 0] 32)) bs (!e) [(w.heap.size + 1, 32, #[.int .i64 0, .int .i64 0, .int .i64 0]), (w.heap.size, 122, #[.int .i64 a1, .int .i64 a2, .int .i64 a3, .int .i64 b1, .int .i64 b2, .int .i64 b3, .int .i64 c1, .int .i64 c2, .int .i64 c3, .int .i64 d1, .int .i64 d2, .int .i64 d3])] := Zr.cast (W := w) rfl (by simp only [Gu])
 have hS0 := hS
 have hbs0 := hS0.sum.lt
 refine Zn (St := SmO bs) (B := fun b w' => InO _ bs _ (!b) w') 10 1 0 _ 32 (fun _ => 17) (fun _ => 28) (fun _ => #[.int .i64 0, .int .i64 0, .int .i64 0]) (fun _ => #[.int .i64 x1, .int .i64 x2, .int .i64 x3]) _ (by kernel_rfl) (by kernel_rfl) (InO.drew (InO.start hS0)) (fun x y h1 h2 _ => by omega) (fun x y _ _ => by decide) (fun _ _ h g cs hg hb => h.box _ _ _ (Nat.ne_of_gt (Nat.lt_of_lt_of_le hbs0 hg)) hb) (fun _ _ cs h => h.alloc _) (fun _ _ h => h.size) ?_
 iterate 9 (apply Zx; (· rfl); (· intro b wb hB Q1 hQ1; have hS := hB.sees; have hC := hS.reads; simp only [Zz, Zy] at hC; go_wp2_with fail; exact hQ1 _ (SmO.refl _ _) hB); (· exact ⟨_, rfl⟩))
 (apply Zp; (· rfl); (· intro b wb hB Q1 hQ1; go_wp2_with (go_at_call 168; (with_reducible refine (Tm hB.sees HX.out).mono ?_); rintro e wn ⟨rfl, hN, hM⟩); exact hQ1 _ hM (hB.call hN)); (· exact ⟨_, rfl⟩))
 refine Zv ?_
 refine ⟨fun i hi => ?_, fun i hi => ?_, fun i hi => ?_, fun gg wz hz hbx hne => ?_⟩
 ·obtain rfl : i = 0 := by omega
  all_goals exact ⟨_, rfl, Zc⟩
 ·obtain rfl : i = 0 := by omega
  all_goals exact ⟨_, rfl, Zi Za rfl (by kernel_rfl) (fun _ _ _ hg h => h.setRow hg _)⟩
 ·obtain rfl : i = 0 := by omega
  ·exact (show (17 : Nat) < 47 by decide)
 obtain ⟨hg0, hb0⟩ := hbx 0 (by omega)
 replace hS := InO.join hS0 hz
 replace hS := Zr.put hS hb0 (by omega)
 simp only [frN, Act.put, Gt, Gs, Gr, Nat.reduceAdd, List.drop_succ_cons, List.drop_zero]
 generalize gg 0 = g0 at *
 clear hbx hz hS0 hne
 simp only at hS
 go_wp2_with fail
 have hS0 := hS
 have hbs0 := hS0.sum.lt
 refine Zn (St := SmO bs) (B := fun b w' => InO _ bs _ (!b) w') 10 1 0 _ 32 (fun _ => 18) (fun _ => 38) (fun _ => #[.int .i64 0, .int .i64 0, .int .i64 0]) (fun _ => #[.int .i64 p1, .int .i64 p2, .int .i64 p3]) _ (by kernel_rfl) (by kernel_rfl) (InO.drew (InO.start hS0)) (fun x y h1 h2 _ => by omega) (fun x y _ _ => by decide) (fun _ _ h g cs hg hb => h.box _ _ _ (Nat.ne_of_gt (Nat.lt_of_lt_of_le hbs0 hg)) hb) (fun _ _ cs h => h.alloc _) (fun _ _ h => h.size) ?_
 iterate 9 (apply Zx; (· rfl); (· intro b wb hB Q1 hQ1; have hS := hB.sees; have hC := hS.reads; simp only [Zz, Zy] at hC; go_wp2_with fail; exact hQ1 _ (SmO.refl _ _) hB); (· exact ⟨_, rfl⟩))
 (apply Zp; (· rfl); (· intro b wb hB Q1 hQ1; go_wp2_with (go_at_call 168; (with_reducible refine (Tm hB.sees HP.out).mono ?_); rintro e wn ⟨rfl, hN, hM⟩); exact hQ1 _ hM (hB.call hN)); (· exact ⟨_, rfl⟩))
 refine Zv ?_
 refine ⟨fun i hi => ?_, fun i hi => ?_, fun i hi => ?_, fun gg wz hz hbx hne => ?_⟩
 ·obtain rfl : i = 0 := by omega
  all_goals exact ⟨_, rfl, Zc⟩
 ·obtain rfl : i = 0 := by omega
  all_goals exact ⟨_, rfl, Zi Za rfl (by kernel_rfl) (fun _ _ _ hg h => h.setRow hg _)⟩
 ·obtain rfl : i = 0 := by omega
  ·exact (show (18 : Nat) < 47 by decide)
 obtain ⟨hq0, hp0⟩ := hbx 0 (by omega)
 replace hS := InO.join hS0 hz
 replace hS := Zr.put hS hp0 (by omega)
 simp only [frN, Act.put, Gt, Gs, Gr, Nat.reduceAdd, List.drop_succ_cons, List.drop_zero]
 generalize gg 0 = g1 at *
 clear hbx hz hS0 hne
 simp only at hS
 skip
 have hC := hS.reads
 simp only [Zz, Zy] at hC
 go_wp2_with (first | (go_at_call 147; (with_reducible refine (Kh h1 hS HT.out).mono ?_); rintro e1 wm ⟨rfl, hS, -⟩; have hC := hS.reads; simp only [Zz, Zy] at hC) | (go_at_call 169; (with_reducible refine (partOi HBD.out hS HY.out).mono ?_); rintro e1 wk ⟨rfl, hS, -⟩; have hC := hS.reads; simp only [Zz, Zy] at hC))
 have hm2 := hS.sm
 have hs2 := hS.sum
 have ef : (!e && (kx && kp && kt && ky)) = !((((e || !kx) || !kp) || !kt) || !ky) := by simp [Bool.and_assoc]
 rw [ef]
 refine Gq ?_ rfl ⟨rfl, ?_, ?_⟩
 ·simp [results, Tryz.results146, go_sem, hC]
 ·repeat' (with_reducible first
   | exact hm2
   | refine SmO.setNew ?_ (by simp <;> omega) _)
 ·repeat' (with_reducible first
   | exact hs2
   | refine Box.far ?_ (by simp <;> omega) _)
theorem Hw (bs : Nat) (e : Bool) (a b c d : Fr) (s : Int) (h1 : s = 1 ∨ s = -1) (w : World) (hb : Box w bs 144 #[.bool (!e)]) :
  Calls Tryz.prog 146 #[.pointer (some ⟨bs, 0, none⟩), .agg #[.int .i64 a.re, .int .i64 a.im, .int .i64 a.den, .int .i64 b.re, .int .i64 b.im, .int .i64 b.den, .int .i64 c.re, .int .i64 c.im, .int .i64 c.den, .int .i64 d.re, .int .i64 d.im, .int .i64 d.den], .int .i64 0, .int .i64 2, .int .i64 s, .int .i64 1, .int .i64 3, .bool true] w (Wy bs (!e) w (Wi s true a c b d)) := by
 have hbd := Ra s (Zg a c).1 (Zg b d).1
 unfold Wi
 rcases hx : Zg a c with ⟨⟨x1, x2, x3⟩, kx⟩
 rcases hp : Zg b d with ⟨⟨p1, p2, p3⟩, kp⟩
 rw [hx, hp] at hbd
 simp only at hbd ⊢
 rcases ht : Yk s ⟨x1, x2, x3⟩ ⟨p1, p2, p3⟩ with ⟨⟨t1, t2, t3⟩, kt⟩
 rw [ht] at hbd
 simp only at hbd ⊢
 rcases hy : Vm ⟨t1, t2, t3⟩ 1 true with ⟨⟨y1, y2, y3⟩, ky⟩
 simp only
 obtain ⟨a1, a2, a3⟩ := a
 obtain ⟨b1, b2, b3⟩ := b
 obtain ⟨c1, c2, c3⟩ := c
 obtain ⟨d1, d2, d3⟩ := d
 have HX := Gv hx
 have HP := Gv hp
 have HT := Gv ht
 have HY := Gv hy
 have HBD := Gv hbd
 clear hx hp ht hy hbd
 unfold Wy
 simp only [Fr.v]
 have hS := Zr.init hb
 have hC := hS.reads
 simp only [Zz, Zy] at hC
 have hbl := hb.lt
 have m2 : w.heap.size ≠ bs := Nat.ne_of_gt hb.lt
 go_enter Tryz.func146, Tryz.ntmps146
 go_wp2_with fail
 replace hS : Zr w ((w.alloc (.cells #[.int .i64 a1, .int .i64 a2, .int .i64 a3, .int .i64 b1, .int .i64 b2, .int .i64 b3, .int .i64 c1, .int .i64 c2, .int .i64 c3, .int .i64 d1, .int .i64 d2, .int .i64 d3] 122)).alloc (.cells #[.int .i64 0, .int .i64 0, .int .i64 0] 32)) bs (!e) [(w.heap.size + 1, 32, #[.int .i64 0, .int .i64 0, .int .i64 0]), (w.heap.size, 122, #[.int .i64 a1, .int .i64 a2, .int .i64 a3, .int .i64 b1, .int .i64 b2, .int .i64 b3, .int .i64 c1, .int .i64 c2, .int .i64 c3, .int .i64 d1, .int .i64 d2, .int .i64 d3])] := Zr.cast (W := w) rfl (by simp only [Gu])
 have hS0 := hS
 have hbs0 := hS0.sum.lt
 refine Zn (St := SmO bs) (B := fun b w' => InO _ bs _ (!b) w') 10 1 0 _ 32 (fun _ => 17) (fun _ => 28) (fun _ => #[.int .i64 0, .int .i64 0, .int .i64 0]) (fun _ => #[.int .i64 x1, .int .i64 x2, .int .i64 x3]) _ (by kernel_rfl) (by kernel_rfl) (InO.drew (InO.start hS0)) (fun x y h1 h2 _ => by omega) (fun x y _ _ => by decide) (fun _ _ h g cs hg hb => h.box _ _ _ (Nat.ne_of_gt (Nat.lt_of_lt_of_le hbs0 hg)) hb) (fun _ _ cs h => h.alloc _) (fun _ _ h => h.size) ?_
 iterate 9 (apply Zx; (· rfl); (· intro b wb hB Q1 hQ1; have hS := hB.sees; have hC := hS.reads; simp only [Zz, Zy] at hC; go_wp2_with fail; exact hQ1 _ (SmO.refl _ _) hB); (· exact ⟨_, rfl⟩))
 (apply Zp; (· rfl); (· intro b wb hB Q1 hQ1; go_wp2_with (go_at_call 168; (with_reducible refine (Tm hB.sees HX.out).mono ?_); rintro e wn ⟨rfl, hN, hM⟩); exact hQ1 _ hM (hB.call hN)); (· exact ⟨_, rfl⟩))
 refine Zv ?_
 refine ⟨fun i hi => ?_, fun i hi => ?_, fun i hi => ?_, fun gg wz hz hbx hne => ?_⟩
 ·obtain rfl : i = 0 := by omega
  all_goals exact ⟨_, rfl, Zc⟩
 ·obtain rfl : i = 0 := by omega
  all_goals exact ⟨_, rfl, Zi Za rfl (by kernel_rfl) (fun _ _ _ hg h => h.setRow hg _)⟩
 ·obtain rfl : i = 0 := by omega
  ·exact (show (17 : Nat) < 47 by decide)
 obtain ⟨hg0, hb0⟩ := hbx 0 (by omega)
 replace hS := InO.join hS0 hz
 replace hS := Zr.put hS hb0 (by omega)
 simp only [frN, Act.put, Gt, Gs, Gr, Nat.reduceAdd, List.drop_succ_cons, List.drop_zero]
 generalize gg 0 = g0 at *
 clear hbx hz hS0 hne
 simp only at hS
 go_wp2_with fail
 have hS0 := hS
 have hbs0 := hS0.sum.lt
 refine Zn (St := SmO bs) (B := fun b w' => InO _ bs _ (!b) w') 10 1 0 _ 32 (fun _ => 18) (fun _ => 38) (fun _ => #[.int .i64 0, .int .i64 0, .int .i64 0]) (fun _ => #[.int .i64 p1, .int .i64 p2, .int .i64 p3]) _ (by kernel_rfl) (by kernel_rfl) (InO.drew (InO.start hS0)) (fun x y h1 h2 _ => by omega) (fun x y _ _ => by decide) (fun _ _ h g cs hg hb => h.box _ _ _ (Nat.ne_of_gt (Nat.lt_of_lt_of_le hbs0 hg)) hb) (fun _ _ cs h => h.alloc _) (fun _ _ h => h.size) ?_
 iterate 9 (apply Zx; (· rfl); (· intro b wb hB Q1 hQ1; have hS := hB.sees; have hC := hS.reads; simp only [Zz, Zy] at hC; go_wp2_with fail; exact hQ1 _ (SmO.refl _ _) hB); (· exact ⟨_, rfl⟩))
 (apply Zp; (· rfl); (· intro b wb hB Q1 hQ1; go_wp2_with (go_at_call 168; (with_reducible refine (Tm hB.sees HP.out).mono ?_); rintro e wn ⟨rfl, hN, hM⟩); exact hQ1 _ hM (hB.call hN)); (· exact ⟨_, rfl⟩))
 refine Zv ?_
 refine ⟨fun i hi => ?_, fun i hi => ?_, fun i hi => ?_, fun gg wz hz hbx hne => ?_⟩
 ·obtain rfl : i = 0 := by omega
  all_goals exact ⟨_, rfl, Zc⟩
 ·obtain rfl : i = 0 := by omega
  all_goals exact ⟨_, rfl, Zi Za rfl (by kernel_rfl) (fun _ _ _ hg h => h.setRow hg _)⟩
 ·obtain rfl : i = 0 := by omega
  ·exact (show (18 : Nat) < 47 by decide)
 obtain ⟨hq0, hp0⟩ := hbx 0 (by omega)
 replace hS := InO.join hS0 hz
 replace hS := Zr.put hS hp0 (by omega)
 simp only [frN, Act.put, Gt, Gs, Gr, Nat.reduceAdd, List.drop_succ_cons, List.drop_zero]
 generalize gg 0 = g1 at *
 clear hbx hz hS0 hne
 simp only at hS
 skip
 have hC := hS.reads
 simp only [Zz, Zy] at hC
 go_wp2_with (first | (go_at_call 147; (with_reducible refine (Kh h1 hS HT.out).mono ?_); rintro e1 wm ⟨rfl, hS, -⟩; have hC := hS.reads; simp only [Zz, Zy] at hC) | (go_at_call 169; (with_reducible refine (partOi HBD.out hS HY.out).mono ?_); rintro e1 wk ⟨rfl, hS, -⟩; have hC := hS.reads; simp only [Zz, Zy] at hC))
 have hm2 := hS.sm
 have hs2 := hS.sum
 have ef : (!e && (kx && kp && kt && ky)) = !((((e || !kx) || !kp) || !kt) || !ky) := by simp [Bool.and_assoc]
 rw [ef]
 refine Gq ?_ rfl ⟨rfl, ?_, ?_⟩
 ·simp [results, Tryz.results146, go_sem, hC]
 ·repeat' (with_reducible first
   | exact hm2
   | refine SmO.setNew ?_ (by simp <;> omega) _)
 ·repeat' (with_reducible first
   | exact hs2
   | refine Box.far ?_ (by simp <;> omega) _)
theorem Hv (bs : Nat) (e : Bool) (a b c d : Fr) (s : Int) (h1 : s = 1 ∨ s = -1) (w : World) (hb : Box w bs 144 #[.bool (!e)]) :
  Calls Tryz.prog 146 #[.pointer (some ⟨bs, 0, none⟩), .agg #[.int .i64 a.re, .int .i64 a.im, .int .i64 a.den, .int .i64 b.re, .int .i64 b.im, .int .i64 b.den, .int .i64 c.re, .int .i64 c.im, .int .i64 c.den, .int .i64 d.re, .int .i64 d.im, .int .i64 d.den], .int .i64 0, .int .i64 3, .int .i64 s, .int .i64 1, .int .i64 2, .bool true] w (Wy bs (!e) w (Wi s true a d b c)) := by
 have hbd := Ra s (Zg a d).1 (Zg b c).1
 unfold Wi
 rcases hx : Zg a d with ⟨⟨x1, x2, x3⟩, kx⟩
 rcases hp : Zg b c with ⟨⟨p1, p2, p3⟩, kp⟩
 rw [hx, hp] at hbd
 simp only at hbd ⊢
 rcases ht : Yk s ⟨x1, x2, x3⟩ ⟨p1, p2, p3⟩ with ⟨⟨t1, t2, t3⟩, kt⟩
 rw [ht] at hbd
 simp only at hbd ⊢
 rcases hy : Vm ⟨t1, t2, t3⟩ 1 true with ⟨⟨y1, y2, y3⟩, ky⟩
 simp only
 obtain ⟨a1, a2, a3⟩ := a
 obtain ⟨b1, b2, b3⟩ := b
 obtain ⟨c1, c2, c3⟩ := c
 obtain ⟨d1, d2, d3⟩ := d
 have HX := Gv hx
 have HP := Gv hp
 have HT := Gv ht
 have HY := Gv hy
 have HBD := Gv hbd
 clear hx hp ht hy hbd
 unfold Wy
 simp only [Fr.v]
 have hS := Zr.init hb
 have hC := hS.reads
 simp only [Zz, Zy] at hC
 have hbl := hb.lt
 have m2 : w.heap.size ≠ bs := Nat.ne_of_gt hb.lt
 go_enter Tryz.func146, Tryz.ntmps146
 go_wp2_with fail
 replace hS : Zr w ((w.alloc (.cells #[.int .i64 a1, .int .i64 a2, .int .i64 a3, .int .i64 b1, .int .i64 b2, .int .i64 b3, .int .i64 c1, .int .i64 c2, .int .i64 c3, .int .i64 d1, .int .i64 d2, .int .i64 d3] 122)).alloc (.cells #[.int .i64 0, .int .i64 0, .int .i64 0] 32)) bs (!e) [(w.heap.size + 1, 32, #[.int .i64 0, .int .i64 0, .int .i64 0]), (w.heap.size, 122, #[.int .i64 a1, .int .i64 a2, .int .i64 a3, .int .i64 b1, .int .i64 b2, .int .i64 b3, .int .i64 c1, .int .i64 c2, .int .i64 c3, .int .i64 d1, .int .i64 d2, .int .i64 d3])] := Zr.cast (W := w) rfl (by simp only [Gu])
 have hS0 := hS
 have hbs0 := hS0.sum.lt
 refine Zn (St := SmO bs) (B := fun b w' => InO _ bs _ (!b) w') 10 1 0 _ 32 (fun _ => 17) (fun _ => 28) (fun _ => #[.int .i64 0, .int .i64 0, .int .i64 0]) (fun _ => #[.int .i64 x1, .int .i64 x2, .int .i64 x3]) _ (by kernel_rfl) (by kernel_rfl) (InO.drew (InO.start hS0)) (fun x y h1 h2 _ => by omega) (fun x y _ _ => by decide) (fun _ _ h g cs hg hb => h.box _ _ _ (Nat.ne_of_gt (Nat.lt_of_lt_of_le hbs0 hg)) hb) (fun _ _ cs h => h.alloc _) (fun _ _ h => h.size) ?_
 iterate 9 (apply Zx; (· rfl); (· intro b wb hB Q1 hQ1; have hS := hB.sees; have hC := hS.reads; simp only [Zz, Zy] at hC; go_wp2_with fail; exact hQ1 _ (SmO.refl _ _) hB); (· exact ⟨_, rfl⟩))
 (apply Zp; (· rfl); (· intro b wb hB Q1 hQ1; go_wp2_with (go_at_call 168; (with_reducible refine (Tm hB.sees HX.out).mono ?_); rintro e wn ⟨rfl, hN, hM⟩); exact hQ1 _ hM (hB.call hN)); (· exact ⟨_, rfl⟩))
 refine Zv ?_
 refine ⟨fun i hi => ?_, fun i hi => ?_, fun i hi => ?_, fun gg wz hz hbx hne => ?_⟩
 ·obtain rfl : i = 0 := by omega
  all_goals exact ⟨_, rfl, Zc⟩
 ·obtain rfl : i = 0 := by omega
  all_goals exact ⟨_, rfl, Zi Za rfl (by kernel_rfl) (fun _ _ _ hg h => h.setRow hg _)⟩
 ·obtain rfl : i = 0 := by omega
  ·exact (show (17 : Nat) < 47 by decide)
 obtain ⟨hg0, hb0⟩ := hbx 0 (by omega)
 replace hS := InO.join hS0 hz
 replace hS := Zr.put hS hb0 (by omega)
 simp only [frN, Act.put, Gt, Gs, Gr, Nat.reduceAdd, List.drop_succ_cons, List.drop_zero]
 generalize gg 0 = g0 at *
 clear hbx hz hS0 hne
 simp only at hS
 go_wp2_with fail
 have hS0 := hS
 have hbs0 := hS0.sum.lt
 refine Zn (St := SmO bs) (B := fun b w' => InO _ bs _ (!b) w') 10 1 0 _ 32 (fun _ => 18) (fun _ => 38) (fun _ => #[.int .i64 0, .int .i64 0, .int .i64 0]) (fun _ => #[.int .i64 p1, .int .i64 p2, .int .i64 p3]) _ (by kernel_rfl) (by kernel_rfl) (InO.drew (InO.start hS0)) (fun x y h1 h2 _ => by omega) (fun x y _ _ => by decide) (fun _ _ h g cs hg hb => h.box _ _ _ (Nat.ne_of_gt (Nat.lt_of_lt_of_le hbs0 hg)) hb) (fun _ _ cs h => h.alloc _) (fun _ _ h => h.size) ?_
 iterate 9 (apply Zx; (· rfl); (· intro b wb hB Q1 hQ1; have hS := hB.sees; have hC := hS.reads; simp only [Zz, Zy] at hC; go_wp2_with fail; exact hQ1 _ (SmO.refl _ _) hB); (· exact ⟨_, rfl⟩))
 (apply Zp; (· rfl); (· intro b wb hB Q1 hQ1; go_wp2_with (go_at_call 168; (with_reducible refine (Tm hB.sees HP.out).mono ?_); rintro e wn ⟨rfl, hN, hM⟩); exact hQ1 _ hM (hB.call hN)); (· exact ⟨_, rfl⟩))
 refine Zv ?_
 refine ⟨fun i hi => ?_, fun i hi => ?_, fun i hi => ?_, fun gg wz hz hbx hne => ?_⟩
 ·obtain rfl : i = 0 := by omega
  all_goals exact ⟨_, rfl, Zc⟩
 ·obtain rfl : i = 0 := by omega
  all_goals exact ⟨_, rfl, Zi Za rfl (by kernel_rfl) (fun _ _ _ hg h => h.setRow hg _)⟩
 ·obtain rfl : i = 0 := by omega
  ·exact (show (18 : Nat) < 47 by decide)
 obtain ⟨hq0, hp0⟩ := hbx 0 (by omega)
 replace hS := InO.join hS0 hz
 replace hS := Zr.put hS hp0 (by omega)
 simp only [frN, Act.put, Gt, Gs, Gr, Nat.reduceAdd, List.drop_succ_cons, List.drop_zero]
 generalize gg 0 = g1 at *
 clear hbx hz hS0 hne
 simp only at hS
 skip
 have hC := hS.reads
 simp only [Zz, Zy] at hC
 go_wp2_with (first | (go_at_call 147; (with_reducible refine (Kh h1 hS HT.out).mono ?_); rintro e1 wm ⟨rfl, hS, -⟩; have hC := hS.reads; simp only [Zz, Zy] at hC) | (go_at_call 169; (with_reducible refine (partOi HBD.out hS HY.out).mono ?_); rintro e1 wk ⟨rfl, hS, -⟩; have hC := hS.reads; simp only [Zz, Zy] at hC))
 have hm2 := hS.sm
 have hs2 := hS.sum
 have ef : (!e && (kx && kp && kt && ky)) = !((((e || !kx) || !kp) || !kt) || !ky) := by simp [Bool.and_assoc]
 rw [ef]
 refine Gq ?_ rfl ⟨rfl, ?_, ?_⟩
 ·simp [results, Tryz.results146, go_sem, hC]
 ·repeat' (with_reducible first
   | exact hm2
   | refine SmO.setNew ?_ (by simp <;> omega) _)
 ·repeat' (with_reducible first
   | exact hs2
   | refine Box.far ?_ (by simp <;> omega) _)
end
end Go.Proofs.YtmmjkchjgeklnaaGreatDoor
