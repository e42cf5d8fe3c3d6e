/-
  Proved: what functions compute, part 19. No condition.
-/
import Derived.Test.YtiommfmaleeibaaGreatDoorB18
set_option linter.unusedSimpArgs false
set_option linter.unusedVariables false
set_option maxRecDepth 20000
set_option maxHeartbeats 8000000
namespace Go.Proofs.YtiommfmaleeibaaGreatDoor
section
open Go.RowKit

attribute [local go_sem] Zi Zh
section
variable {W w : World} {bs : Nat} {b : Bool} {L : List (Nat × TypeId × Array Value)} {a1 a2 a3 x y z : Int} {k : Bool}
theorem partO1 (hbd : -2000000000 ≤ a1 ∧ a1 ≤ 2000000000 ∧ -2000000000 ≤ a2 ∧ a2 ≤ 2000000000 ∧ 0 ≤ a3 ∧ a3 ≤ 2000000000) (hB : Zr W w bs (!b) L) (hr : We ⟨a1, a2, a3⟩ 1 false = (⟨x, y, z⟩, k)) : Calls Tryz.prog 178 #[.pointer (some ⟨bs, 0, none⟩), .agg #[.int .i64 a1, .int .i64 a2, .int .i64 a3], .int .i64 1, .bool false] w fun e w' => e = .returned (.agg #[.int .i64 x, .int .i64 y, .int .i64 z]) ∧ Zr W w' bs (!(b || !k)) L ∧ SmO bs w w' := Od hB (l6tPart_re1 bs (!b) ⟨a1, a2, a3⟩ w hB.sum hbd) hr
theorem partOi (hbd : -2000000000 ≤ a1 ∧ a1 ≤ 2000000000 ∧ -2000000000 ≤ a2 ∧ a2 ≤ 2000000000 ∧ 0 ≤ a3 ∧ a3 ≤ 2000000000) (hB : Zr W w bs (!b) L) (hr : We ⟨a1, a2, a3⟩ 1 true = (⟨x, y, z⟩, k)) : Calls Tryz.prog 178 #[.pointer (some ⟨bs, 0, none⟩), .agg #[.int .i64 a1, .int .i64 a2, .int .i64 a3], .int .i64 1, .bool true] w fun e w' => e = .returned (.agg #[.int .i64 x, .int .i64 y, .int .i64 z]) ∧ Zr W w' bs (!(b || !k)) L ∧ SmO bs w w' := Od hB (l6tPart_im1 bs (!b) ⟨a1, a2, a3⟩ w hB.sum hbd) hr
end
def Wr (s : Int) (im : Bool) (a b c d : Fr) : Fr × Bool :=
 ((We (Yu s (Zk a b).1 (Zk c d).1).1 1 im).1, (Zk a b).2 && (Zk c d).2 && (Yu s (Zk a b).1 (Zk c d).1).2 && (We (Yu s (Zk a b).1 (Zk c d).1).1 1 im).2)
theorem Lz (bs : Nat) (e : Bool) (a b c d : Fr) (s : Int) (h1 : s = 1 ∨ s = -1) (w : World) (hb : Box w bs 155 #[.bool (!e)]) :
  Calls Tryz.prog 112 #[.pointer (some ⟨bs, 0, none⟩), .agg #[.int .i64 a.re, .int .i64 a.im, .int .i64 a.den, .int .i64 b.re, .int .i64 b.im, .int .i64 b.den, .int .i64 c.re, .int .i64 c.im, .int .i64 c.den, .int .i64 d.re, .int .i64 d.im, .int .i64 d.den], .int .i64 0, .int .i64 1, .int .i64 s, .int .i64 2, .int .i64 3, .bool false] w (Xk bs (!e) w (Wr s false a b c d)) := by
 have hbd := Tl s (Zk a b).1 (Zk c d).1
 unfold Wr
 rcases hx : Zk a b with ⟨⟨x1, x2, x3⟩, kx⟩
 rcases hp : Zk c d with ⟨⟨p1, p2, p3⟩, kp⟩
 rw [hx, hp] at hbd
 simp only at hbd ⊢
 rcases ht : Yu s ⟨x1, x2, x3⟩ ⟨p1, p2, p3⟩ with ⟨⟨t1, t2, t3⟩, kt⟩
 rw [ht] at hbd
 simp only at hbd ⊢
 rcases hy : We ⟨t1, t2, t3⟩ 1 false with ⟨⟨y1, y2, y3⟩, ky⟩
 simp only
 obtain ⟨a1, a2, a3⟩ := a
 obtain ⟨b1, b2, b3⟩ := b
 obtain ⟨c1, c2, c3⟩ := c
 obtain ⟨d1, d2, d3⟩ := d
 have HX := Kw hx
 have HP := Kw hp
 have HT := Kw ht
 have HY := Kw hy
 have HBD := Kw hbd
 clear hx hp ht hy hbd
 unfold Xk
 simp only [Fr.v]
 have hS := Zr.init hb
 have hC := hS.reads
 simp only [Zz, Zy] at hC
 have hbl := hb.lt
 have m2 : w.heap.size ≠ bs := Nat.ne_of_gt hb.lt
 go_enter Tryz.func112, Tryz.ntmps112
 go_wp2_with fail
 replace hS : Zr w ((w.alloc (.cells #[.int .i64 a1, .int .i64 a2, .int .i64 a3, .int .i64 b1, .int .i64 b2, .int .i64 b3, .int .i64 c1, .int .i64 c2, .int .i64 c3, .int .i64 d1, .int .i64 d2, .int .i64 d3] 79)).alloc (.cells #[.int .i64 0, .int .i64 0, .int .i64 0] 30)) bs (!e) [(w.heap.size + 1, 30, #[.int .i64 0, .int .i64 0, .int .i64 0]), (w.heap.size, 79, #[.int .i64 a1, .int .i64 a2, .int .i64 a3, .int .i64 b1, .int .i64 b2, .int .i64 b3, .int .i64 c1, .int .i64 c2, .int .i64 c3, .int .i64 d1, .int .i64 d2, .int .i64 d3])] := Zr.cast (W := w) rfl (by simp only [Kv])
 have hS0 := hS
 have hbs0 := hS0.sum.lt
 refine Zm (St := SmO bs) (B := fun b w' => InO _ bs _ (!b) w') 10 1 0 _ 30 (fun _ => 17) (fun _ => 28) (fun _ => #[.int .i64 0, .int .i64 0, .int .i64 0]) (fun _ => #[.int .i64 x1, .int .i64 x2, .int .i64 x3]) _ (by kernel_rfl) (by kernel_rfl) (InO.drew (InO.start hS0)) (fun x y h1 h2 _ => by omega) (fun x y _ _ => by decide) (fun _ _ h g cs hg hb => h.box _ _ _ (Nat.ne_of_gt (Nat.lt_of_lt_of_le hbs0 hg)) hb) (fun _ _ cs h => h.alloc _) (fun _ _ h => h.size) ?_
 iterate 9 (apply Zx; (· rfl); (· intro b wb hB Q1 hQ1; have hS := hB.sees; have hC := hS.reads; simp only [Zz, Zy] at hC; go_wp2_with fail; exact hQ1 _ (SmO.refl _ _) hB); (· exact ⟨_, rfl⟩))
 (apply Zp; (· rfl); (· intro b wb hB Q1 hQ1; go_wp2_with (go_at_call 176; (with_reducible refine (Ux hB.sees HX.out).mono ?_); rintro e wn ⟨rfl, hN, hM⟩); exact hQ1 _ hM (hB.call hN)); (· exact ⟨_, rfl⟩))
 refine Zq ?_
 refine ⟨fun i hi => ?_, fun i hi => ?_, fun i hi => ?_, fun gg wz hz hbx hne => ?_⟩
 ·obtain rfl : i = 0 := by omega
  all_goals exact ⟨_, rfl, Zb⟩
 ·obtain rfl : i = 0 := by omega
  all_goals exact ⟨_, rfl, Zf Yv rfl (by kernel_rfl) (fun _ _ _ hg h => h.setRow hg _)⟩
 ·obtain rfl : i = 0 := by omega
  ·exact (show (17 : Nat) < 47 by decide)
 obtain ⟨hg0, hb0⟩ := hbx 0 (by omega)
 replace hS := InO.join hS0 hz
 replace hS := Zr.put hS hb0 (by omega)
 simp only [frN, Act.put, Ku, Kt, Ks, Nat.reduceAdd, List.drop_succ_cons, List.drop_zero]
 generalize gg 0 = g0 at *
 clear hbx hz hS0 hne
 simp only at hS
 go_wp2_with fail
 have hS0 := hS
 have hbs0 := hS0.sum.lt
 refine Zm (St := SmO bs) (B := fun b w' => InO _ bs _ (!b) w') 10 1 0 _ 30 (fun _ => 18) (fun _ => 38) (fun _ => #[.int .i64 0, .int .i64 0, .int .i64 0]) (fun _ => #[.int .i64 p1, .int .i64 p2, .int .i64 p3]) _ (by kernel_rfl) (by kernel_rfl) (InO.drew (InO.start hS0)) (fun x y h1 h2 _ => by omega) (fun x y _ _ => by decide) (fun _ _ h g cs hg hb => h.box _ _ _ (Nat.ne_of_gt (Nat.lt_of_lt_of_le hbs0 hg)) hb) (fun _ _ cs h => h.alloc _) (fun _ _ h => h.size) ?_
 iterate 9 (apply Zx; (· rfl); (· intro b wb hB Q1 hQ1; have hS := hB.sees; have hC := hS.reads; simp only [Zz, Zy] at hC; go_wp2_with fail; exact hQ1 _ (SmO.refl _ _) hB); (· exact ⟨_, rfl⟩))
 (apply Zp; (· rfl); (· intro b wb hB Q1 hQ1; go_wp2_with (go_at_call 176; (with_reducible refine (Ux hB.sees HP.out).mono ?_); rintro e wn ⟨rfl, hN, hM⟩); exact hQ1 _ hM (hB.call hN)); (· exact ⟨_, rfl⟩))
 refine Zq ?_
 refine ⟨fun i hi => ?_, fun i hi => ?_, fun i hi => ?_, fun gg wz hz hbx hne => ?_⟩
 ·obtain rfl : i = 0 := by omega
  all_goals exact ⟨_, rfl, Zb⟩
 ·obtain rfl : i = 0 := by omega
  all_goals exact ⟨_, rfl, Zf Yv rfl (by kernel_rfl) (fun _ _ _ hg h => h.setRow hg _)⟩
 ·obtain rfl : i = 0 := by omega
  ·exact (show (18 : Nat) < 47 by decide)
 obtain ⟨hq0, hp0⟩ := hbx 0 (by omega)
 replace hS := InO.join hS0 hz
 replace hS := Zr.put hS hp0 (by omega)
 simp only [frN, Act.put, Ku, Kt, Ks, Nat.reduceAdd, List.drop_succ_cons, List.drop_zero]
 generalize gg 0 = g1 at *
 clear hbx hz hS0 hne
 simp only at hS
 skip
 have hC := hS.reads
 simp only [Zz, Zy] at hC
 go_wp2_with (first | (go_at_call 177; (with_reducible refine (Oc h1 hS HT.out).mono ?_); rintro e1 wm ⟨rfl, hS, -⟩; have hC := hS.reads; simp only [Zz, Zy] at hC) | (go_at_call 178; (with_reducible refine (partO1 HBD.out hS HY.out).mono ?_); rintro e1 wk ⟨rfl, hS, -⟩; have hC := hS.reads; simp only [Zz, Zy] at hC))
 have hm2 := hS.sm
 have hs2 := hS.sum
 have ef : (!e && (kx && kp && kt && ky)) = !((((e || !kx) || !kp) || !kt) || !ky) := by simp [Bool.and_assoc]
 rw [ef]
 refine Kr ?_ rfl ⟨rfl, ?_, ?_⟩
 ·simp [results, Tryz.results112, go_sem, hC]
 ·repeat' (with_reducible first
   | exact hm2
   | refine SmO.setNew ?_ (by simp <;> omega) _)
 ·repeat' (with_reducible first
   | exact hs2
   | refine Box.far ?_ (by simp <;> omega) _)
theorem Ly (bs : Nat) (e : Bool) (a b c d : Fr) (s : Int) (h1 : s = 1 ∨ s = -1) (w : World) (hb : Box w bs 155 #[.bool (!e)]) :
  Calls Tryz.prog 112 #[.pointer (some ⟨bs, 0, none⟩), .agg #[.int .i64 a.re, .int .i64 a.im, .int .i64 a.den, .int .i64 b.re, .int .i64 b.im, .int .i64 b.den, .int .i64 c.re, .int .i64 c.im, .int .i64 c.den, .int .i64 d.re, .int .i64 d.im, .int .i64 d.den], .int .i64 1, .int .i64 0, .int .i64 s, .int .i64 3, .int .i64 2, .bool true] w (Xk bs (!e) w (Wr s true b a d c)) := by
 have hbd := Tl s (Zk b a).1 (Zk d c).1
 unfold Wr
 rcases hx : Zk b a with ⟨⟨x1, x2, x3⟩, kx⟩
 rcases hp : Zk d c with ⟨⟨p1, p2, p3⟩, kp⟩
 rw [hx, hp] at hbd
 simp only at hbd ⊢
 rcases ht : Yu s ⟨x1, x2, x3⟩ ⟨p1, p2, p3⟩ with ⟨⟨t1, t2, t3⟩, kt⟩
 rw [ht] at hbd
 simp only at hbd ⊢
 rcases hy : We ⟨t1, t2, t3⟩ 1 true with ⟨⟨y1, y2, y3⟩, ky⟩
 simp only
 obtain ⟨a1, a2, a3⟩ := a
 obtain ⟨b1, b2, b3⟩ := b
 obtain ⟨c1, c2, c3⟩ := c
 obtain ⟨d1, d2, d3⟩ := d
 have HX := Kw hx
 have HP := Kw hp
 have HT := Kw ht
 have HY := Kw hy
 have HBD := Kw hbd
 clear hx hp ht hy hbd
 unfold Xk
 simp only [Fr.v]
 have hS := Zr.init hb
 have hC := hS.reads
 simp only [Zz, Zy] at hC
 have hbl := hb.lt
 have m2 : w.heap.size ≠ bs := Nat.ne_of_gt hb.lt
 go_enter Tryz.func112, Tryz.ntmps112
 go_wp2_with fail
 replace hS : Zr w ((w.alloc (.cells #[.int .i64 a1, .int .i64 a2, .int .i64 a3, .int .i64 b1, .int .i64 b2, .int .i64 b3, .int .i64 c1, .int .i64 c2, .int .i64 c3, .int .i64 d1, .int .i64 d2, .int .i64 d3] 79)).alloc (.cells #[.int .i64 0, .int .i64 0, .int .i64 0] 30)) bs (!e) [(w.heap.size + 1, 30, #[.int .i64 0, .int .i64 0, .int .i64 0]), (w.heap.size, 79, #[.int .i64 a1, .int .i64 a2, .int .i64 a3, .int .i64 b1, .int .i64 b2, .int .i64 b3, .int .i64 c1, .int .i64 c2, .int .i64 c3, .int .i64 d1, .int .i64 d2, .int .i64 d3])] := Zr.cast (W := w) rfl (by simp only [Kv])
 have hS0 := hS
 have hbs0 := hS0.sum.lt
 refine Zm (St := SmO bs) (B := fun b w' => InO _ bs _ (!b) w') 10 1 0 _ 30 (fun _ => 17) (fun _ => 28) (fun _ => #[.int .i64 0, .int .i64 0, .int .i64 0]) (fun _ => #[.int .i64 x1, .int .i64 x2, .int .i64 x3]) _ (by kernel_rfl) (by kernel_rfl) (InO.drew (InO.start hS0)) (fun x y h1 h2 _ => by omega) (fun x y _ _ => by decide) (fun _ _ h g cs hg hb => h.box _ _ _ (Nat.ne_of_gt (Nat.lt_of_lt_of_le hbs0 hg)) hb) (fun _ _ cs h => h.alloc _) (fun _ _ h => h.size) ?_
 iterate 9 (apply Zx; (· rfl); (· intro b wb hB Q1 hQ1; have hS := hB.sees; have hC := hS.reads; simp only [Zz, Zy] at hC; go_wp2_with fail; exact hQ1 _ (SmO.refl _ _) hB); (· exact ⟨_, rfl⟩))
 (apply Zp; (· rfl); (· intro b wb hB Q1 hQ1; go_wp2_with (go_at_call 176; (with_reducible refine (Ux hB.sees HX.out).mono ?_); rintro e wn ⟨rfl, hN, hM⟩); exact hQ1 _ hM (hB.call hN)); (· exact ⟨_, rfl⟩))
 refine Zq ?_
 refine ⟨fun i hi => ?_, fun i hi => ?_, fun i hi => ?_, fun gg wz hz hbx hne => ?_⟩
 ·obtain rfl : i = 0 := by omega
  all_goals exact ⟨_, rfl, Zb⟩
 ·obtain rfl : i = 0 := by omega
  all_goals exact ⟨_, rfl, Zf Yv rfl (by kernel_rfl) (fun _ _ _ hg h => h.setRow hg _)⟩
 ·obtain rfl : i = 0 := by omega
  ·exact (show (17 : Nat) < 47 by decide)
 obtain ⟨hg0, hb0⟩ := hbx 0 (by omega)
 replace hS := InO.join hS0 hz
 replace hS := Zr.put hS hb0 (by omega)
 simp only [frN, Act.put, Ku, Kt, Ks, Nat.reduceAdd, List.drop_succ_cons, List.drop_zero]
 generalize gg 0 = g0 at *
 clear hbx hz hS0 hne
 simp only at hS
 go_wp2_with fail
 have hS0 := hS
 have hbs0 := hS0.sum.lt
 refine Zm (St := SmO bs) (B := fun b w' => InO _ bs _ (!b) w') 10 1 0 _ 30 (fun _ => 18) (fun _ => 38) (fun _ => #[.int .i64 0, .int .i64 0, .int .i64 0]) (fun _ => #[.int .i64 p1, .int .i64 p2, .int .i64 p3]) _ (by kernel_rfl) (by kernel_rfl) (InO.drew (InO.start hS0)) (fun x y h1 h2 _ => by omega) (fun x y _ _ => by decide) (fun _ _ h g cs hg hb => h.box _ _ _ (Nat.ne_of_gt (Nat.lt_of_lt_of_le hbs0 hg)) hb) (fun _ _ cs h => h.alloc _) (fun _ _ h => h.size) ?_
 iterate 9 (apply Zx; (· rfl); (· intro b wb hB Q1 hQ1; have hS := hB.sees; have hC := hS.reads; simp only [Zz, Zy] at hC; go_wp2_with fail; exact hQ1 _ (SmO.refl _ _) hB); (· exact ⟨_, rfl⟩))
 (apply Zp; (· rfl); (· intro b wb hB Q1 hQ1; go_wp2_with (go_at_call 176; (with_reducible refine (Ux hB.sees HP.out).mono ?_); rintro e wn ⟨rfl, hN, hM⟩); exact hQ1 _ hM (hB.call hN)); (· exact ⟨_, rfl⟩))
 refine Zq ?_
 refine ⟨fun i hi => ?_, fun i hi => ?_, fun i hi => ?_, fun gg wz hz hbx hne => ?_⟩
 ·obtain rfl : i = 0 := by omega
  all_goals exact ⟨_, rfl, Zb⟩
 ·obtain rfl : i = 0 := by omega
  all_goals exact ⟨_, rfl, Zf Yv rfl (by kernel_rfl) (fun _ _ _ hg h => h.setRow hg _)⟩
 ·obtain rfl : i = 0 := by omega
  ·exact (show (18 : Nat) < 47 by decide)
 obtain ⟨hq0, hp0⟩ := hbx 0 (by omega)
 replace hS := InO.join hS0 hz
 replace hS := Zr.put hS hp0 (by omega)
 simp only [frN, Act.put, Ku, Kt, Ks, Nat.reduceAdd, List.drop_succ_cons, List.drop_zero]
 generalize gg 0 = g1 at *
 clear hbx hz hS0 hne
 simp only at hS
 skip
 have hC := hS.reads
 simp only [Zz, Zy] at hC
 go_wp2_with (first | (go_at_call 177; (with_reducible refine (Oc h1 hS HT.out).mono ?_); rintro e1 wm ⟨rfl, hS, -⟩; have hC := hS.reads; simp only [Zz, Zy] at hC) | (go_at_call 178; (with_reducible refine (partOi HBD.out hS HY.out).mono ?_); rintro e1 wk ⟨rfl, hS, -⟩; have hC := hS.reads; simp only [Zz, Zy] at hC))
 have hm2 := hS.sm
 have hs2 := hS.sum
 have ef : (!e && (kx && kp && kt && ky)) = !((((e || !kx) || !kp) || !kt) || !ky) := by simp [Bool.and_assoc]
 rw [ef]
 refine Kr ?_ rfl ⟨rfl, ?_, ?_⟩
 ·simp [results, Tryz.results112, go_sem, hC]
 ·repeat' (with_reducible first
   | exact hm2
   | refine SmO.setNew ?_ (by simp <;> omega) _)
 ·repeat' (with_reducible first
   | exact hs2
   | refine Box.far ?_ (by simp <;> omega) _)
theorem Lx (bs : Nat) (e : Bool) (a b c d : Fr) (s : Int) (h1 : s = 1 ∨ s = -1) (w : World) (hb : Box w bs 155 #[.bool (!e)]) :
  Calls Tryz.prog 112 #[.pointer (some ⟨bs, 0, none⟩), .agg #[.int .i64 a.re, .int .i64 a.im, .int .i64 a.den, .int .i64 b.re, .int .i64 b.im, .int .i64 b.den, .int .i64 c.re, .int .i64 c.im, .int .i64 c.den, .int .i64 d.re, .int .i64 d.im, .int .i64 d.den], .int .i64 0, .int .i64 2, .int .i64 s, .int .i64 1, .int .i64 3, .bool false] w (Xk bs (!e) w (Wr s false a c b d)) := by
 have hbd := Tl s (Zk a c).1 (Zk b d).1
 unfold Wr
 rcases hx : Zk a c with ⟨⟨x1, x2, x3⟩, kx⟩
 rcases hp : Zk b d with ⟨⟨p1, p2, p3⟩, kp⟩
 rw [hx, hp] at hbd
 simp only at hbd ⊢
 rcases ht : Yu s ⟨x1, x2, x3⟩ ⟨p1, p2, p3⟩ with ⟨⟨t1, t2, t3⟩, kt⟩
 rw [ht] at hbd
 simp only at hbd ⊢
 rcases hy : We ⟨t1, t2, t3⟩ 1 false with ⟨⟨y1, y2, y3⟩, ky⟩
 simp only
 obtain ⟨a1, a2, a3⟩ := a
 obtain ⟨b1, b2, b3⟩ := b
 obtain ⟨c1, c2, c3⟩ := c
 obtain ⟨d1, d2, d3⟩ := d
 have HX := Kw hx
 have HP := Kw hp
 have HT := Kw ht
 have HY := Kw hy
 have HBD := Kw hbd
 clear hx hp ht hy hbd
 unfold Xk
 simp only [Fr.v]
 have hS := Zr.init hb
 have hC := hS.reads
 simp only [Zz, Zy] at hC
 have hbl := hb.lt
 have m2 : w.heap.size ≠ bs := Nat.ne_of_gt hb.lt
 go_enter Tryz.func112, Tryz.ntmps112
 go_wp2_with fail
 replace hS : Zr w ((w.alloc (.cells #[.int .i64 a1, .int .i64 a2, .int .i64 a3, .int .i64 b1, .int .i64 b2, .int .i64 b3, .int .i64 c1, .int .i64 c2, .int .i64 c3, .int .i64 d1, .int .i64 d2, .int .i64 d3] 79)).alloc (.cells #[.int .i64 0, .int .i64 0, .int .i64 0] 30)) bs (!e) [(w.heap.size + 1, 30, #[.int .i64 0, .int .i64 0, .int .i64 0]), (w.heap.size, 79, #[.int .i64 a1, .int .i64 a2, .int .i64 a3, .int .i64 b1, .int .i64 b2, .int .i64 b3, .int .i64 c1, .int .i64 c2, .int .i64 c3, .int .i64 d1, .int .i64 d2, .int .i64 d3])] := Zr.cast (W := w) rfl (by simp only [Kv])
 have hS0 := hS
 have hbs0 := hS0.sum.lt
 refine Zm (St := SmO bs) (B := fun b w' => InO _ bs _ (!b) w') 10 1 0 _ 30 (fun _ => 17) (fun _ => 28) (fun _ => #[.int .i64 0, .int .i64 0, .int .i64 0]) (fun _ => #[.int .i64 x1, .int .i64 x2, .int .i64 x3]) _ (by kernel_rfl) (by kernel_rfl) (InO.drew (InO.start hS0)) (fun x y h1 h2 _ => by omega) (fun x y _ _ => by decide) (fun _ _ h g cs hg hb => h.box _ _ _ (Nat.ne_of_gt (Nat.lt_of_lt_of_le hbs0 hg)) hb) (fun _ _ cs h => h.alloc _) (fun _ _ h => h.size) ?_
 iterate 9 (apply Zx; (· rfl); (· intro b wb hB Q1 hQ1; have hS := hB.sees; have hC := hS.reads; simp only [Zz, Zy] at hC; go_wp2_with fail; exact hQ1 _ (SmO.refl _ _) hB); (· exact ⟨_, rfl⟩))
 (apply Zp; (· rfl); (· intro b wb hB Q1 hQ1; go_wp2_with (go_at_call 176; (with_reducible refine (Ux hB.sees HX.out).mono ?_); rintro e wn ⟨rfl, hN, hM⟩); exact hQ1 _ hM (hB.call hN)); (· exact ⟨_, rfl⟩))
 refine Zq ?_
 refine ⟨fun i hi => ?_, fun i hi => ?_, fun i hi => ?_, fun gg wz hz hbx hne => ?_⟩
 ·obtain rfl : i = 0 := by omega
  all_goals exact ⟨_, rfl, Zb⟩
 ·obtain rfl : i = 0 := by omega
  all_goals exact ⟨_, rfl, Zf Yv rfl (by kernel_rfl) (fun _ _ _ hg h => h.setRow hg _)⟩
 ·obtain rfl : i = 0 := by omega
  ·exact (show (17 : Nat) < 47 by decide)
 obtain ⟨hg0, hb0⟩ := hbx 0 (by omega)
 replace hS := InO.join hS0 hz
 replace hS := Zr.put hS hb0 (by omega)
 simp only [frN, Act.put, Ku, Kt, Ks, Nat.reduceAdd, List.drop_succ_cons, List.drop_zero]
 generalize gg 0 = g0 at *
 clear hbx hz hS0 hne
 simp only at hS
 go_wp2_with fail
 have hS0 := hS
 have hbs0 := hS0.sum.lt
 refine Zm (St := SmO bs) (B := fun b w' => InO _ bs _ (!b) w') 10 1 0 _ 30 (fun _ => 18) (fun _ => 38) (fun _ => #[.int .i64 0, .int .i64 0, .int .i64 0]) (fun _ => #[.int .i64 p1, .int .i64 p2, .int .i64 p3]) _ (by kernel_rfl) (by kernel_rfl) (InO.drew (InO.start hS0)) (fun x y h1 h2 _ => by omega) (fun x y _ _ => by decide) (fun _ _ h g cs hg hb => h.box _ _ _ (Nat.ne_of_gt (Nat.lt_of_lt_of_le hbs0 hg)) hb) (fun _ _ cs h => h.alloc _) (fun _ _ h => h.size) ?_
 iterate 9 (apply Zx; (· rfl); (· intro b wb hB Q1 hQ1; have hS := hB.sees; have hC := hS.reads; simp only [Zz, Zy] at hC; go_wp2_with fail; exact hQ1 _ (SmO.refl _ _) hB); (· exact ⟨_, rfl⟩))
 (apply Zp; (· rfl); (· intro b wb hB Q1 hQ1; go_wp2_with (go_at_call 176; (with_reducible refine (Ux hB.sees HP.out).mono ?_); rintro e wn ⟨rfl, hN, hM⟩); exact hQ1 _ hM (hB.call hN)); (· exact ⟨_, rfl⟩))
 refine Zq ?_
 refine ⟨fun i hi => ?_, fun i hi => ?_, fun i hi => ?_, fun gg wz hz hbx hne => ?_⟩
 ·obtain rfl : i = 0 := by omega
  all_goals exact ⟨_, rfl, Zb⟩
 ·obtain rfl : i = 0 := by omega
  all_goals exact ⟨_, rfl, Zf Yv rfl (by kernel_rfl) (fun _ _ _ hg h => h.setRow hg _)⟩
 ·obtain rfl : i = 0 := by omega
  ·exact (show (18 : Nat) < 47 by decide)
 obtain ⟨hq0, hp0⟩ := hbx 0 (by omega)
 replace hS := InO.join hS0 hz
 replace hS := Zr.put hS hp0 (by omega)
 simp only [frN, Act.put, Ku, Kt, Ks, Nat.reduceAdd, List.drop_succ_cons, List.drop_zero]
 generalize gg 0 = g1 at *
 clear hbx hz hS0 hne
 simp only at hS
 skip
 have hC := hS.reads
 simp only [Zz, Zy] at hC
 go_wp2_with (first | (go_at_call 177; (with_reducible refine (Oc h1 hS HT.out).mono ?_); rintro e1 wm ⟨rfl, hS, -⟩; have hC := hS.reads; simp only [Zz, Zy] at hC) | (go_at_call 178; (with_reducible refine (partO1 HBD.out hS HY.out).mono ?_); rintro e1 wk ⟨rfl, hS, -⟩; have hC := hS.reads; simp only [Zz, Zy] at hC))
 have hm2 := hS.sm
 have hs2 := hS.sum
 have ef : (!e && (kx && kp && kt && ky)) = !((((e || !kx) || !kp) || !kt) || !ky) := by simp [Bool.and_assoc]
 rw [ef]
 refine Kr ?_ rfl ⟨rfl, ?_, ?_⟩
 ·simp [results, Tryz.results112, go_sem, hC]
 ·repeat' (with_reducible first
   | exact hm2
   | refine SmO.setNew ?_ (by simp <;> omega) _)
 ·repeat' (with_reducible first
   | exact hs2
   | refine Box.far ?_ (by simp <;> omega) _)
theorem Lw (bs : Nat) (e : Bool) (a b c d : Fr) (s : Int) (h1 : s = 1 ∨ s = -1) (w : World) (hb : Box w bs 155 #[.bool (!e)]) :
  Calls Tryz.prog 112 #[.pointer (some ⟨bs, 0, none⟩), .agg #[.int .i64 a.re, .int .i64 a.im, .int .i64 a.den, .int .i64 b.re, .int .i64 b.im, .int .i64 b.den, .int .i64 c.re, .int .i64 c.im, .int .i64 c.den, .int .i64 d.re, .int .i64 d.im, .int .i64 d.den], .int .i64 0, .int .i64 3, .int .i64 s, .int .i64 1, .int .i64 2, .bool false] w (Xk bs (!e) w (Wr s false a d b c)) := by
 have hbd := Tl s (Zk a d).1 (Zk b c).1
 unfold Wr
 rcases hx : Zk a d with ⟨⟨x1, x2, x3⟩, kx⟩
 rcases hp : Zk b c with ⟨⟨p1, p2, p3⟩, kp⟩
 rw [hx, hp] at hbd
 simp only at hbd ⊢
 rcases ht : Yu s ⟨x1, x2, x3⟩ ⟨p1, p2, p3⟩ with ⟨⟨t1, t2, t3⟩, kt⟩
 rw [ht] at hbd
 simp only at hbd ⊢
 rcases hy : We ⟨t1, t2, t3⟩ 1 false with ⟨⟨y1, y2, y3⟩, ky⟩
 simp only
 obtain ⟨a1, a2, a3⟩ := a
 obtain ⟨b1, b2, b3⟩ := b
 obtain ⟨c1, c2, c3⟩ := c
 obtain ⟨d1, d2, d3⟩ := d
 have HX := Kw hx
 have HP := Kw hp
 have HT := Kw ht
 have HY := Kw hy
 have HBD := Kw hbd
 clear hx hp ht hy hbd
 unfold Xk
 simp only [Fr.v]
 have hS := Zr.init hb
 have hC := hS.reads
 simp only [Zz, Zy] at hC
 have hbl := hb.lt
 have m2 : w.heap.size ≠ bs := Nat.ne_of_gt hb.lt
 go_enter Tryz.func112, Tryz.ntmps112
 go_wp2_with fail
 replace hS : Zr w ((w.alloc (.cells #[.int .i64 a1, .int .i64 a2, .int .i64 a3, .int .i64 b1, .int .i64 b2, .int .i64 b3, .int .i64 c1, .int .i64 c2, .int .i64 c3, .int .i64 d1, .int .i64 d2, .int .i64 d3] 79)).alloc (.cells #[.int .i64 0, .int .i64 0, .int .i64 0] 30)) bs (!e) [(w.heap.size + 1, 30, #[.int .i64 0, .int .i64 0, .int .i64 0]), (w.heap.size, 79, #[.int .i64 a1, .int .i64 a2, .int .i64 a3, .int .i64 b1, .int .i64 b2, .int .i64 b3, .int .i64 c1, .int .i64 c2, .int .i64 c3, .int .i64 d1, .int .i64 d2, .int .i64 d3])] := Zr.cast (W := w) rfl (by simp only [Kv])
 have hS0 := hS
 have hbs0 := hS0.sum.lt
 refine Zm (St := SmO bs) (B := fun b w' => InO _ bs _ (!b) w') 10 1 0 _ 30 (fun _ => 17) (fun _ => 28) (fun _ => #[.int .i64 0, .int .i64 0, .int .i64 0]) (fun _ => #[.int .i64 x1, .int .i64 x2, .int .i64 x3]) _ (by kernel_rfl) (by kernel_rfl) (InO.drew (InO.start hS0)) (fun x y h1 h2 _ => by omega) (fun x y _ _ => by decide) (fun _ _ h g cs hg hb => h.box _ _ _ (Nat.ne_of_gt (Nat.lt_of_lt_of_le hbs0 hg)) hb) (fun _ _ cs h => h.alloc _) (fun _ _ h => h.size) ?_
 iterate 9 (apply Zx; (· rfl); (· intro b wb hB Q1 hQ1; have hS := hB.sees; have hC := hS.reads; simp only [Zz, Zy] at hC; go_wp2_with fail; exact hQ1 _ (SmO.refl _ _) hB); (· exact ⟨_, rfl⟩))
 (apply Zp; (· rfl); (· intro b wb hB Q1 hQ1; go_wp2_with (go_at_call 176; (with_reducible refine (Ux hB.sees HX.out).mono ?_); rintro e wn ⟨rfl, hN, hM⟩); exact hQ1 _ hM (hB.call hN)); (· exact ⟨_, rfl⟩))
 refine Zq ?_
 refine ⟨fun i hi => ?_, fun i hi => ?_, fun i hi => ?_, fun gg wz hz hbx hne => ?_⟩
 ·obtain rfl : i = 0 := by omega
  all_goals exact ⟨_, rfl, Zb⟩
 ·obtain rfl : i = 0 := by omega
  all_goals exact ⟨_, rfl, Zf Yv rfl (by kernel_rfl) (fun _ _ _ hg h => h.setRow hg _)⟩
 ·obtain rfl : i = 0 := by omega
  ·exact (show (17 : Nat) < 47 by decide)
 obtain ⟨hg0, hb0⟩ := hbx 0 (by omega)
 replace hS := InO.join hS0 hz
 replace hS := Zr.put hS hb0 (by omega)
 simp only [frN, Act.put, Ku, Kt, Ks, Nat.reduceAdd, List.drop_succ_cons, List.drop_zero]
 generalize gg 0 = g0 at *
 clear hbx hz hS0 hne
 simp only at hS
 go_wp2_with fail
 have hS0 := hS
 have hbs0 := hS0.sum.lt
 refine Zm (St := SmO bs) (B := fun b w' => InO _ bs _ (!b) w') 10 1 0 _ 30 (fun _ => 18) (fun _ => 38) (fun _ => #[.int .i64 0, .int .i64 0, .int .i64 0]) (fun _ => #[.int .i64 p1, .int .i64 p2, .int .i64 p3]) _ (by kernel_rfl) (by kernel_rfl) (InO.drew (InO.start hS0)) (fun x y h1 h2 _ => by omega) (fun x y _ _ => by decide) (fun _ _ h g cs hg hb => h.box _ _ _ (Nat.ne_of_gt (Nat.lt_of_lt_of_le hbs0 hg)) hb) (fun _ _ cs h => h.alloc _) (fun _ _ h => h.size) ?_
 iterate 9 (apply Zx; (· rfl); (· intro b wb hB Q1 hQ1; have hS := hB.sees; have hC := hS.reads; simp only [Zz, Zy] at hC; go_wp2_with fail; exact hQ1 _ (SmO.refl _ _) hB); (· exact ⟨_, rfl⟩))
 (apply Zp; (· rfl); (· intro b wb hB Q1 hQ1; go_wp2_with (go_at_call 176; (with_reducible refine (Ux hB.sees HP.out).mono ?_); rintro e wn ⟨rfl, hN, hM⟩); exact hQ1 _ hM (hB.call hN)); (· exact ⟨_, rfl⟩))
 refine Zq ?_
 refine ⟨fun i hi => ?_, fun i hi => ?_, fun i hi => ?_, fun gg wz hz hbx hne => ?_⟩
 ·obtain rfl : i = 0 := by omega
  all_goals exact ⟨_, rfl, Zb⟩
 ·obtain rfl : i = 0 := by omega
  all_goals exact ⟨_, rfl, Zf Yv rfl (by kernel_rfl) (fun _ _ _ hg h => h.setRow hg _)⟩
 ·obtain rfl : i = 0 := by omega
  ·exact (show (18 : Nat) < 47 by decide)
 obtain ⟨hq0, hp0⟩ := hbx 0 (by omega)
 replace hS := InO.join hS0 hz
 replace hS := Zr.put hS hp0 (by omega)
 simp only [frN, Act.put, Ku, Kt, Ks, Nat.reduceAdd, List.drop_succ_cons, List.drop_zero]
 generalize gg 0 = g1 at *
 clear hbx hz hS0 hne
 simp only at hS
 skip
 have hC := hS.reads
 simp only [Zz, Zy] at hC
 go_wp2_with (first | (go_at_call 177; (with_reducible refine (Oc h1 hS HT.out).mono ?_); rintro e1 wm ⟨rfl, hS, -⟩; have hC := hS.reads; simp only [Zz, Zy] at hC) | (go_at_call 178; (with_reducible refine (partO1 HBD.out hS HY.out).mono ?_); rintro e1 wk ⟨rfl, hS, -⟩; have hC := hS.reads; simp only [Zz, Zy] at hC))
 have hm2 := hS.sm
 have hs2 := hS.sum
 have ef : (!e && (kx && kp && kt && ky)) = !((((e || !kx) || !kp) || !kt) || !ky) := by simp [Bool.and_assoc]
 rw [ef]
 refine Kr ?_ rfl ⟨rfl, ?_, ?_⟩
 ·simp [results, Tryz.results112, go_sem, hC]
 ·repeat' (with_reducible first
   | exact hm2
   | refine SmO.setNew ?_ (by simp <;> omega) _)
 ·repeat' (with_reducible first
   | exact hs2
   | refine Box.far ?_ (by simp <;> omega) _)
theorem Lv (bs : Nat) (e : Bool) (a b c d : Fr) (s : Int) (h1 : s = 1 ∨ s = -1) (w : World) (hb : Box w bs 155 #[.bool (!e)]) :
  Calls Tryz.prog 112 #[.pointer (some ⟨bs, 0, none⟩), .agg #[.int .i64 a.re, .int .i64 a.im, .int .i64 a.den, .int .i64 b.re, .int .i64 b.im, .int .i64 b.den, .int .i64 c.re, .int .i64 c.im, .int .i64 c.den, .int .i64 d.re, .int .i64 d.im, .int .i64 d.den], .int .i64 1, .int .i64 2, .int .i64 s, .int .i64 0, .int .i64 3, .bool true] w (Xk bs (!e) w (Wr s true b c a d)) := by
 have hbd := Tl s (Zk b c).1 (Zk a d).1
 unfold Wr
 rcases hx : Zk b c with ⟨⟨x1, x2, x3⟩, kx⟩
 rcases hp : Zk a d with ⟨⟨p1, p2, p3⟩, kp⟩
 rw [hx, hp] at hbd
 simp only at hbd ⊢
 rcases ht : Yu s ⟨x1, x2, x3⟩ ⟨p1, p2, p3⟩ with ⟨⟨t1, t2, t3⟩, kt⟩
 rw [ht] at hbd
 simp only at hbd ⊢
 rcases hy : We ⟨t1, t2, t3⟩ 1 true with ⟨⟨y1, y2, y3⟩, ky⟩
 simp only
 obtain ⟨a1, a2, a3⟩ := a
 obtain ⟨b1, b2, b3⟩ := b
 obtain ⟨c1, c2, c3⟩ := c
 obtain ⟨d1, d2, d3⟩ := d
 have HX := Kw hx
 have HP := Kw hp
 have HT := Kw ht
 have HY := Kw hy
 have HBD := Kw hbd
 clear hx hp ht hy hbd
 unfold Xk
 simp only [Fr.v]
 have hS := Zr.init hb
 have hC := hS.reads
 simp only [Zz, Zy] at hC
 have hbl := hb.lt
 have m2 : w.heap.size ≠ bs := Nat.ne_of_gt hb.lt
 go_enter Tryz.func112, Tryz.ntmps112
 go_wp2_with fail
 replace hS : Zr w ((w.alloc (.cells #[.int .i64 a1, .int .i64 a2, .int .i64 a3, .int .i64 b1, .int .i64 b2, .int .i64 b3, .int .i64 c1, .int .i64 c2, .int .i64 c3, .int .i64 d1, .int .i64 d2, .int .i64 d3] 79)).alloc (.cells #[.int .i64 0, .int .i64 0, .int .i64 0] 30)) bs (!e) [(w.heap.size + 1, 30, #[.int .i64 0, .int .i64 0, .int .i64 0]), (w.heap.size, 79, #[.int .i64 a1, .int .i64 a2, .int .i64 a3, .int .i64 b1, .int .i64 b2, .int .i64 b3, .int .i64 c1, .int .i64 c2, .int .i64 c3, .int .i64 d1, .int .i64 d2, .int .i64 d3])] := Zr.cast (W := w) rfl (by simp only [Kv])
 have hS0 := hS
 have hbs0 := hS0.sum.lt
 refine Zm (St := SmO bs) (B := fun b w' => InO _ bs _ (!b) w') 10 1 0 _ 30 (fun _ => 17) (fun _ => 28) (fun _ => #[.int .i64 0, .int .i64 0, .int .i64 0]) (fun _ => #[.int .i64 x1, .int .i64 x2, .int .i64 x3]) _ (by kernel_rfl) (by kernel_rfl) (InO.drew (InO.start hS0)) (fun x y h1 h2 _ => by omega) (fun x y _ _ => by decide) (fun _ _ h g cs hg hb => h.box _ _ _ (Nat.ne_of_gt (Nat.lt_of_lt_of_le hbs0 hg)) hb) (fun _ _ cs h => h.alloc _) (fun _ _ h => h.size) ?_
 iterate 9 (apply Zx; (· rfl); (· intro b wb hB Q1 hQ1; have hS := hB.sees; have hC := hS.reads; simp only [Zz, Zy] at hC; go_wp2_with fail; exact hQ1 _ (SmO.refl _ _) hB); (· exact ⟨_, rfl⟩))
 (apply Zp; (· rfl); (· intro b wb hB Q1 hQ1; go_wp2_with (go_at_call 176; (with_reducible refine (Ux hB.sees HX.out).mono ?_); rintro e wn ⟨rfl, hN, hM⟩); exact hQ1 _ hM (hB.call hN)); (· exact ⟨_, rfl⟩))
 refine Zq ?_
 refine ⟨fun i hi => ?_, fun i hi => ?_, fun i hi => ?_, fun gg wz hz hbx hne => ?_⟩
 ·obtain rfl : i = 0 := by omega
  all_goals exact ⟨_, rfl, Zb⟩
 ·obtain rfl : i = 0 := by omega
  all_goals exact ⟨_, rfl, Zf Yv rfl (by kernel_rfl) (fun _ _ _ hg h => h.setRow hg _)⟩
 ·obtain rfl : i = 0 := by omega
  ·exact (show (17 : Nat) < 47 by decide)
 obtain ⟨hg0, hb0⟩ := hbx 0 (by omega)
 replace hS := InO.join hS0 hz
 replace hS := Zr.put hS hb0 (by omega)
 simp only [frN, Act.put, Ku, Kt, Ks, Nat.reduceAdd, List.drop_succ_cons, List.drop_zero]
 generalize gg 0 = g0 at *
 clear hbx hz hS0 hne
 simp only at hS
 go_wp2_with fail
 have hS0 := hS
 have hbs0 := hS0.sum.lt
 refine Zm (St := SmO bs) (B := fun b w' => InO _ bs _ (!b) w') 10 1 0 _ 30 (fun _ => 18) (fun _ => 38) (fun _ => #[.int .i64 0, .int .i64 0, .int .i64 0]) (fun _ => #[.int .i64 p1, .int .i64 p2, .int .i64 p3]) _ (by kernel_rfl) (by kernel_rfl) (InO.drew (InO.start hS0)) (fun x y h1 h2 _ => by omega) (fun x y _ _ => by decide) (fun _ _ h g cs hg hb => h.box _ _ _ (Nat.ne_of_gt (Nat.lt_of_lt_of_le hbs0 hg)) hb) (fun _ _ cs h => h.alloc _) (fun _ _ h => h.size) ?_
 iterate 9 (apply Zx; (· rfl); (· intro b wb hB Q1 hQ1; have hS := hB.sees; have hC := hS.reads; simp only [Zz, Zy] at hC; go_wp2_with fail; exact hQ1 _ (SmO.refl _ _) hB); (· exact ⟨_, rfl⟩))
 (apply Zp; (· rfl); (· intro b wb hB Q1 hQ1; go_wp2_with (go_at_call 176; (with_reducible refine (Ux hB.sees HP.out).mono ?_); rintro e wn ⟨rfl, hN, hM⟩); exact hQ1 _ hM (hB.call hN)); (· exact ⟨_, rfl⟩))
 refine Zq ?_
 refine ⟨fun i hi => ?_, fun i hi => ?_, fun i hi => ?_, fun gg wz hz hbx hne => ?_⟩
 ·obtain rfl : i = 0 := by omega
  all_goals exact ⟨_, rfl, Zb⟩
 ·obtain rfl : i = 0 := by omega
  all_goals exact ⟨_, rfl, Zf Yv rfl (by kernel_rfl) (fun _ _ _ hg h => h.setRow hg _)⟩
 ·obtain rfl : i = 0 := by omega
  ·exact (show (18 : Nat) < 47 by decide)
 obtain ⟨hq0, hp0⟩ := hbx 0 (by omega)
 replace hS := InO.join hS0 hz
 replace hS := Zr.put hS hp0 (by omega)
 simp only [frN, Act.put, Ku, Kt, Ks, Nat.reduceAdd, List.drop_succ_cons, List.drop_zero]
 generalize gg 0 = g1 at *
 clear hbx hz hS0 hne
 simp only at hS
 skip
 have hC := hS.reads
 simp only [Zz, Zy] at hC
 go_wp2_with (first | (go_at_call 177; (with_reducible refine (Oc h1 hS HT.out).mono ?_); rintro e1 wm ⟨rfl, hS, -⟩; have hC := hS.reads; simp only [Zz, Zy] at hC) | (go_at_call 178; (with_reducible refine (partOi HBD.out hS HY.out).mono ?_); rintro e1 wk ⟨rfl, hS, -⟩; have hC := hS.reads; simp only [Zz, Zy] at hC))
 have hm2 := hS.sm
 have hs2 := hS.sum
 have ef : (!e && (kx && kp && kt && ky)) = !((((e || !kx) || !kp) || !kt) || !ky) := by simp [Bool.and_assoc]
 rw [ef]
 refine Kr ?_ rfl ⟨rfl, ?_, ?_⟩
 ·simp [results, Tryz.results112, go_sem, hC]
 ·repeat' (with_reducible first
   | exact hm2
   | refine SmO.setNew ?_ (by simp <;> omega) _)
 ·repeat' (with_reducible first
   | exact hs2
   | refine Box.far ?_ (by simp <;> omega) _)
theorem Lu (bs : Nat) (e : Bool) (a b c d : Fr) (s : Int) (h1 : s = 1 ∨ s = -1) (w : World) (hb : Box w bs 155 #[.bool (!e)]) :
  Calls Tryz.prog 112 #[.pointer (some ⟨bs, 0, none⟩), .agg #[.int .i64 a.re, .int .i64 a.im, .int .i64 a.den, .int .i64 b.re, .int .i64 b.im, .int .i64 b.den, .int .i64 c.re, .int .i64 c.im, .int .i64 c.den, .int .i64 d.re, .int .i64 d.im, .int .i64 d.den], .int .i64 0, .int .i64 2, .int .i64 s, .int .i64 1, .int .i64 3, .bool true] w (Xk bs (!e) w (Wr s true a c b d)) := by
 have hbd := Tl s (Zk a c).1 (Zk b d).1
 unfold Wr
 rcases hx : Zk a c with ⟨⟨x1, x2, x3⟩, kx⟩
 rcases hp : Zk b d with ⟨⟨p1, p2, p3⟩, kp⟩
 rw [hx, hp] at hbd
 simp only at hbd ⊢
 rcases ht : Yu s ⟨x1, x2, x3⟩ ⟨p1, p2, p3⟩ with ⟨⟨t1, t2, t3⟩, kt⟩
 rw [ht] at hbd
 simp only at hbd ⊢
 rcases hy : We ⟨t1, t2, t3⟩ 1 true with ⟨⟨y1, y2, y3⟩, ky⟩
 simp only
 obtain ⟨a1, a2, a3⟩ := a
 obtain ⟨b1, b2, b3⟩ := b
 obtain ⟨c1, c2, c3⟩ := c
 obtain ⟨d1, d2, d3⟩ := d
 have HX := Kw hx
 have HP := Kw hp
 have HT := Kw ht
 have HY := Kw hy
 have HBD := Kw hbd
 clear hx hp ht hy hbd
 unfold Xk
 simp only [Fr.v]
 have hS := Zr.init hb
 have hC := hS.reads
 simp only [Zz, Zy] at hC
 have hbl := hb.lt
 have m2 : w.heap.size ≠ bs := Nat.ne_of_gt hb.lt
 go_enter Tryz.func112, Tryz.ntmps112
 go_wp2_with fail
 replace hS : Zr w ((w.alloc (.cells #[.int .i64 a1, .int .i64 a2, .int .i64 a3, .int .i64 b1, .int .i64 b2, .int .i64 b3, .int .i64 c1, .int .i64 c2, .int .i64 c3, .int .i64 d1, .int .i64 d2, .int .i64 d3] 79)).alloc (.cells #[.int .i64 0, .int .i64 0, .int .i64 0] 30)) bs (!e) [(w.heap.size + 1, 30, #[.int .i64 0, .int .i64 0, .int .i64 0]), (w.heap.size, 79, #[.int .i64 a1, .int .i64 a2, .int .i64 a3, .int .i64 b1, .int .i64 b2, .int .i64 b3, .int .i64 c1, .int .i64 c2, .int .i64 c3, .int .i64 d1, .int .i64 d2, .int .i64 d3])] := Zr.cast (W := w) rfl (by simp only [Kv])
 have hS0 := hS
 have hbs0 := hS0.sum.lt
 refine Zm (St := SmO bs) (B := fun b w' => InO _ bs _ (!b) w') 10 1 0 _ 30 (fun _ => 17) (fun _ => 28) (fun _ => #[.int .i64 0, .int .i64 0, .int .i64 0]) (fun _ => #[.int .i64 x1, .int .i64 x2, .int .i64 x3]) _ (by kernel_rfl) (by kernel_rfl) (InO.drew (InO.start hS0)) (fun x y h1 h2 _ => by omega) (fun x y _ _ => by decide) (fun _ _ h g cs hg hb => h.box _ _ _ (Nat.ne_of_gt (Nat.lt_of_lt_of_le hbs0 hg)) hb) (fun _ _ cs h => h.alloc _) (fun _ _ h => h.size) ?_
 iterate 9 (apply Zx; (· rfl); (· intro b wb hB Q1 hQ1; have hS := hB.sees; have hC := hS.reads; simp only [Zz, Zy] at hC; go_wp2_with fail; exact hQ1 _ (SmO.refl _ _) hB); (· exact ⟨_, rfl⟩))
 (apply Zp; (· rfl); (· intro b wb hB Q1 hQ1; go_wp2_with (go_at_call 176; (with_reducible refine (Ux hB.sees HX.out).mono ?_); rintro e wn ⟨rfl, hN, hM⟩); exact hQ1 _ hM (hB.call hN)); (· exact ⟨_, rfl⟩))
 refine Zq ?_
 refine ⟨fun i hi => ?_, fun i hi => ?_, fun i hi => ?_, fun gg wz hz hbx hne => ?_⟩
 ·obtain rfl : i = 0 := by omega
  all_goals exact ⟨_, rfl, Zb⟩
 ·obtain rfl : i = 0 := by omega
  all_goals exact ⟨_, rfl, Zf Yv rfl (by kernel_rfl) (fun _ _ _ hg h => h.setRow hg _)⟩
 ·obtain rfl : i = 0 := by omega
  ·exact (show (17 : Nat) < 47 by decide)
 obtain ⟨hg0, hb0⟩ := hbx 0 (by omega)
 replace hS := InO.join hS0 hz
 replace hS := Zr.put hS hb0 (by omega)
 simp only [frN, Act.put, Ku, Kt, Ks, Nat.reduceAdd, List.drop_succ_cons, List.drop_zero]
 generalize gg 0 = g0 at *
 clear hbx hz hS0 hne
 simp only at hS
 go_wp2_with fail
 have hS0 := hS
 have hbs0 := hS0.sum.lt
 refine Zm (St := SmO bs) (B := fun b w' => InO _ bs _ (!b) w') 10 1 0 _ 30 (fun _ => 18) (fun _ => 38) (fun _ => #[.int .i64 0, .int .i64 0, .int .i64 0]) (fun _ => #[.int .i64 p1, .int .i64 p2, .int .i64 p3]) _ (by kernel_rfl) (by kernel_rfl) (InO.drew (InO.start hS0)) (fun x y h1 h2 _ => by omega) (fun x y _ _ => by decide) (fun _ _ h g cs hg hb => h.box _ _ _ (Nat.ne_of_gt (Nat.lt_of_lt_of_le hbs0 hg)) hb) (fun _ _ cs h => h.alloc _) (fun _ _ h => h.size) ?_
 iterate 9 (apply Zx; (· rfl); (· intro b wb hB Q1 hQ1; have hS := hB.sees; have hC := hS.reads; simp only [Zz, Zy] at hC; go_wp2_with fail; exact hQ1 _ (SmO.refl _ _) hB); (· exact ⟨_, rfl⟩))
 (apply Zp; (· rfl); (· intro b wb hB Q1 hQ1; go_wp2_with (go_at_call 176; (with_reducible refine (Ux hB.sees HP.out).mono ?_); rintro e wn ⟨rfl, hN, hM⟩); exact hQ1 _ hM (hB.call hN)); (· exact ⟨_, rfl⟩))
 refine Zq ?_
 refine ⟨fun i hi => ?_, fun i hi => ?_, fun i hi => ?_, fun gg wz hz hbx hne => ?_⟩
 ·obtain rfl : i = 0 := by omega
  all_goals exact ⟨_, rfl, Zb⟩
 ·obtain rfl : i = 0 := by omega
  all_goals exact ⟨_, rfl, Zf Yv rfl (by kernel_rfl) (fun _ _ _ hg h => h.setRow hg _)⟩
 ·obtain rfl : i = 0 := by omega
  ·exact (show (18 : Nat) < 47 by decide)
 obtain ⟨hq0, hp0⟩ := hbx 0 (by omega)
 replace hS := InO.join hS0 hz
 replace hS := Zr.put hS hp0 (by omega)
 simp only [frN, Act.put, Ku, Kt, Ks, Nat.reduceAdd, List.drop_succ_cons, List.drop_zero]
 generalize gg 0 = g1 at *
 clear hbx hz hS0 hne
 simp only at hS
 skip
 have hC := hS.reads
 simp only [Zz, Zy] at hC
 go_wp2_with (first | (go_at_call 177; (with_reducible refine (Oc h1 hS HT.out).mono ?_); rintro e1 wm ⟨rfl, hS, -⟩; have hC := hS.reads; simp only [Zz, Zy] at hC) | (go_at_call 178; (with_reducible refine (partOi HBD.out hS HY.out).mono ?_); rintro e1 wk ⟨rfl, hS, -⟩; have hC := hS.reads; simp only [Zz, Zy] at hC))
 have hm2 := hS.sm
 have hs2 := hS.sum
 have ef : (!e && (kx && kp && kt && ky)) = !((((e || !kx) || !kp) || !kt) || !ky) := by simp [Bool.and_assoc]
 rw [ef]
 refine Kr ?_ rfl ⟨rfl, ?_, ?_⟩
 ·simp [results, Tryz.results112, go_sem, hC]
 ·repeat' (with_reducible first
   | exact hm2
   | refine SmO.setNew ?_ (by simp <;> omega) _)
 ·repeat' (with_reducible first
   | exact hs2
   | refine Box.far ?_ (by simp <;> omega) _)
theorem Lt (bs : Nat) (e : Bool) (a b c d : Fr) (s : Int) (h1 : s = 1 ∨ s = -1) (w : World) (hb : Box w bs 155 #[.bool (!e)]) :
  Calls Tryz.prog 112 #[.pointer (some ⟨bs, 0, none⟩), .agg #[.int .i64 a.re, .int .i64 a.im, .int .i64 a.den, .int .i64 b.re, .int .i64 b.im, .int .i64 b.den, .int .i64 c.re, .int .i64 c.im, .int .i64 c.den, .int .i64 d.re, .int .i64 d.im, .int .i64 d.den], .int .i64 0, .int .i64 3, .int .i64 s, .int .i64 1, .int .i64 2, .bool true] w (Xk bs (!e) w (Wr s true a d b c)) := by
 have hbd := Tl s (Zk a d).1 (Zk b c).1
 unfold Wr
 rcases hx : Zk a d with ⟨⟨x1, x2, x3⟩, kx⟩
 rcases hp : Zk b c with ⟨⟨p1, p2, p3⟩, kp⟩
 rw [hx, hp] at hbd
 simp only at hbd ⊢
 rcases ht : Yu s ⟨x1, x2, x3⟩ ⟨p1, p2, p3⟩ with ⟨⟨t1, t2, t3⟩, kt⟩
 rw [ht] at hbd
 simp only at hbd ⊢
 rcases hy : We ⟨t1, t2, t3⟩ 1 true with ⟨⟨y1, y2, y3⟩, ky⟩
 simp only
 obtain ⟨a1, a2, a3⟩ := a
 obtain ⟨b1, b2, b3⟩ := b
 obtain ⟨c1, c2, c3⟩ := c
 obtain ⟨d1, d2, d3⟩ := d
 have HX := Kw hx
 have HP := Kw hp
 have HT := Kw ht
 have HY := Kw hy
 have HBD := Kw hbd
 clear hx hp ht hy hbd
 unfold Xk
 simp only [Fr.v]
 have hS := Zr.init hb
 have hC := hS.reads
 simp only [Zz, Zy] at hC
 have hbl := hb.lt
 have m2 : w.heap.size ≠ bs := Nat.ne_of_gt hb.lt
 go_enter Tryz.func112, Tryz.ntmps112
 go_wp2_with fail
 replace hS : Zr w ((w.alloc (.cells #[.int .i64 a1, .int .i64 a2, .int .i64 a3, .int .i64 b1, .int .i64 b2, .int .i64 b3, .int .i64 c1, .int .i64 c2, .int .i64 c3, .int .i64 d1, .int .i64 d2, .int .i64 d3] 79)).alloc (.cells #[.int .i64 0, .int .i64 0, .int .i64 0] 30)) bs (!e) [(w.heap.size + 1, 30, #[.int .i64 0, .int .i64 0, .int .i64 0]), (w.heap.size, 79, #[.int .i64 a1, .int .i64 a2, .int .i64 a3, .int .i64 b1, .int .i64 b2, .int .i64 b3, .int .i64 c1, .int .i64 c2, .int .i64 c3, .int .i64 d1, .int .i64 d2, .int .i64 d3])] := Zr.cast (W := w) rfl (by simp only [Kv])
 have hS0 := hS
 have hbs0 := hS0.sum.lt
 refine Zm (St := SmO bs) (B := fun b w' => InO _ bs _ (!b) w') 10 1 0 _ 30 (fun _ => 17) (fun _ => 28) (fun _ => #[.int .i64 0, .int .i64 0, .int .i64 0]) (fun _ => #[.int .i64 x1, .int .i64 x2, .int .i64 x3]) _ (by kernel_rfl) (by kernel_rfl) (InO.drew (InO.start hS0)) (fun x y h1 h2 _ => by omega) (fun x y _ _ => by decide) (fun _ _ h g cs hg hb => h.box _ _ _ (Nat.ne_of_gt (Nat.lt_of_lt_of_le hbs0 hg)) hb) (fun _ _ cs h => h.alloc _) (fun _ _ h => h.size) ?_
 iterate 9 (apply Zx; (· rfl); (· intro b wb hB Q1 hQ1; have hS := hB.sees; have hC := hS.reads; simp only [Zz, Zy] at hC; go_wp2_with fail; exact hQ1 _ (SmO.refl _ _) hB); (· exact ⟨_, rfl⟩))
 (apply Zp; (· rfl); (· intro b wb hB Q1 hQ1; go_wp2_with (go_at_call 176; (with_reducible refine (Ux hB.sees HX.out).mono ?_); rintro e wn ⟨rfl, hN, hM⟩); exact hQ1 _ hM (hB.call hN)); (· exact ⟨_, rfl⟩))
 refine Zq ?_
 refine ⟨fun i hi => ?_, fun i hi => ?_, fun i hi => ?_, fun gg wz hz hbx hne => ?_⟩
 ·obtain rfl : i = 0 := by omega
  all_goals exact ⟨_, rfl, Zb⟩
 ·obtain rfl : i = 0 := by omega
  all_goals exact ⟨_, rfl, Zf Yv rfl (by kernel_rfl) (fun _ _ _ hg h => h.setRow hg _)⟩
 ·obtain rfl : i = 0 := by omega
  ·exact (show (17 : Nat) < 47 by decide)
 obtain ⟨hg0, hb0⟩ := hbx 0 (by omega)
 replace hS := InO.join hS0 hz
 replace hS := Zr.put hS hb0 (by omega)
 simp only [frN, Act.put, Ku, Kt, Ks, Nat.reduceAdd, List.drop_succ_cons, List.drop_zero]
 generalize gg 0 = g0 at *
 clear hbx hz hS0 hne
 simp only at hS
 go_wp2_with fail
 have hS0 := hS
 have hbs0 := hS0.sum.lt
 refine Zm (St := SmO bs) (B := fun b w' => InO _ bs _ (!b) w') 10 1 0 _ 30 (fun _ => 18) (fun _ => 38) (fun _ => #[.int .i64 0, .int .i64 0, .int .i64 0]) (fun _ => #[.int .i64 p1, .int .i64 p2, .int .i64 p3]) _ (by kernel_rfl) (by kernel_rfl) (InO.drew (InO.start hS0)) (fun x y h1 h2 _ => by omega) (fun x y _ _ => by decide) (fun _ _ h g cs hg hb => h.box _ _ _ (Nat.ne_of_gt (Nat.lt_of_lt_of_le hbs0 hg)) hb) (fun _ _ cs h => h.alloc _) (fun _ _ h => h.size) ?_
 iterate 9 (apply Zx; (· rfl); (· intro b wb hB Q1 hQ1; have hS := hB.sees; have hC := hS.reads; simp only [Zz, Zy] at hC; go_wp2_with fail; exact hQ1 _ (SmO.refl _ _) hB); (· exact ⟨_, rfl⟩))
 (apply Zp; (· rfl); (· intro b wb hB Q1 hQ1; go_wp2_with (go_at_call 176; (with_reducible refine (Ux hB.sees HP.out).mono ?_); rintro e wn ⟨rfl, hN, hM⟩); exact hQ1 _ hM (hB.call hN)); (· exact ⟨_, rfl⟩))
 refine Zq ?_
 refine ⟨fun i hi => ?_, fun i hi => ?_, fun i hi => ?_, fun gg wz hz hbx hne => ?_⟩
 ·obtain rfl : i = 0 := by omega
  all_goals exact ⟨_, rfl, Zb⟩
 ·obtain rfl : i = 0 := by omega
  all_goals exact ⟨_, rfl, Zf Yv rfl (by kernel_rfl) (fun _ _ _ hg h => h.setRow hg _)⟩
 ·obtain rfl : i = 0 := by omega
  ·exact (show (18 : Nat) < 47 by decide)
 obtain ⟨hq0, hp0⟩ := hbx 0 (by omega)
 replace hS := InO.join hS0 hz
 replace hS := Zr.put hS hp0 (by omega)
 simp only [frN, Act.put, Ku, Kt, Ks, Nat.reduceAdd, List.drop_succ_cons, List.drop_zero]
 generalize gg 0 = g1 at *
 clear hbx hz hS0 hne
 simp only at hS
 skip
 have hC := hS.reads
 simp only [Zz, Zy] at hC
 go_wp2_with (first | (go_at_call 177; (with_reducible refine (Oc h1 hS HT.out).mono ?_); rintro e1 wm ⟨rfl, hS, -⟩; have hC := hS.reads; simp only [Zz, Zy] at hC) | (go_at_call 178; (with_reducible refine (partOi HBD.out hS HY.out).mono ?_); rintro e1 wk ⟨rfl, hS, -⟩; have hC := hS.reads; simp only [Zz, Zy] at hC))
 have hm2 := hS.sm
 have hs2 := hS.sum
 have ef : (!e && (kx && kp && kt && ky)) = !((((e || !kx) || !kp) || !kt) || !ky) := by simp [Bool.and_assoc]
 rw [ef]
 refine Kr ?_ rfl ⟨rfl, ?_, ?_⟩
 ·simp [results, Tryz.results112, go_sem, hC]
 ·repeat' (with_reducible first
   | exact hm2
   | refine SmO.setNew ?_ (by simp <;> omega) _)
 ·repeat' (with_reducible first
   | exact hs2
   | refine Box.far ?_ (by simp <;> omega) _)
end
end Go.Proofs.YtiommfmaleeibaaGreatDoor
