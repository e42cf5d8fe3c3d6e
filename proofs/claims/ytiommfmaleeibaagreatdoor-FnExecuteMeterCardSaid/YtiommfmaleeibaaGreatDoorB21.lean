/-
  Proved: what functions compute, part 21. No condition.
-/
import Derived.Test.YtiommfmaleeibaaGreatDoorB20
import Derived.Test.YtiommfmaleeibaaGreatDoorB18
import Derived.Deep.Cut
set_option linter.unusedSimpArgs false
set_option linter.unusedVariables false
set_option maxRecDepth 20000
set_option maxHeartbeats 8000000
namespace Go.Proofs.YtiommfmaleeibaaGreatDoor
section
open Go.RowKit

attribute [local go_sem] Zi Zh
def Tr (a b c d pa pb pc pd : Fr) : List (Fr × Bool) := [Uo (Za (Za (Za pa pb).1 pc).1 pd).1,
 Uo (Xy (Za (Xy pa pb).1 pc).1 pd).1,
 Wz (Za (Zk a b).1 (Zk c d).1).1,
 Wy (Za (Zk b a).1 (Zk d c).1).1,
 Uo (Xy (Xy (Za pa pb).1 pc).1 pd).1,
 Uo (Za (Xy (Xy pa pb).1 pc).1 pd).1,
 Wz (Xy (Zk a b).1 (Zk c d).1).1,
 Wy (Xy (Zk b a).1 (Zk d c).1).1,
 Wz (Za (Zk a c).1 (Zk b d).1).1,
 Wz (Xy (Zk a c).1 (Zk b d).1).1,
 Wz (Za (Zk a d).1 (Zk b c).1).1,
 Wy (Xy (Zk b c).1 (Zk a d).1).1,
 Wy (Za (Zk a c).1 (Zk b d).1).1,
 Wy (Xy (Zk a c).1 (Zk b d).1).1,
 Wy (Za (Zk a d).1 (Zk b c).1).1,
 Wz (Xy (Zk a d).1 (Zk b c).1).1]
def Xg (m : M4) : List Fr × Bool :=
 if m.valid && (Tr m.a m.b m.c m.d (Zj m.a).1 (Zj m.b).1 (Zj m.c).1 (Zj m.d).1).all (·.2) then ((Tr m.a m.b m.c m.d (Zj m.a).1 (Zj m.b).1 (Zj m.c).1 (Zj m.d).1).map (·.1), true) else (Wn 16, false)
theorem wp_has {P : Program} {c : Code} {Q : Exit → Act → World → Prop} {w : World} (a : Act) (lo : Nat) (hd : a.defers = []) (h : ∀ a' r, (∀ t, r t = a.eval (.tmp t)) → Has a.tmps.size lo r a' [] → c.wp P Q a' w) : c.wp P Q a w := h a _ (fun _ => rfl) (Has.of a lo hd)
theorem Zo {W w : World} {bs : Nat} {b : Bool} {L : List (Nat × TypeId × Array Value)} {P : Program} {ρ : Operand → Value} {o : Oper} {f : FuncId} {args : Array Value} {r0 : Fr × Bool} {r : Fr} {k : Bool}
  (hB : InS W bs L b w) (hr : (execOp ρ o).run P w = .ok (.enter f args) w) (hx : r0 = (r, k)) (hc : Calls P f args w (Xe bs b w r0)) : Xl P (fun u w' => u = r.v ∧ Sm bs w w' ∧ InS W bs L (b || !k) w') ((execOp ρ o).run P w) := by
 subst hx
 refine Si hr hc ?_
 rintro e w' ⟨rfl, hs, hb⟩
 exact ⟨_, rfl, rfl, hs, hB.call (hB.sees.call hs hb)⟩
theorem Zv {W w : World} {bs : Nat} {b : Bool} {L : List (Nat × TypeId × Array Value)} {P : Program} {ρ : Operand → Value} {o : Oper} {v : Value}
  (hB : InS W bs L b w) (hr : (execOp ρ o).run P w = .ok (.value v) w) : Xl P (fun u w' => u = v ∧ Sm bs w w' ∧ InS W bs L b w') ((execOp ρ o).run P w) := Wc hr ⟨rfl, Sm.refl _ _, hB⟩
theorem run_ext0 {P : Program} {w : World} {ρ : Operand → Value} {dst : Option Tmp} {ty : TypeId} {pos : String} {after : Array Edge} {guard : Option (Nat × Bool)} {x : Operand} {u v : Value} (hx : ρ x = .tuple #[u, v]) :
  (execOp ρ { dst := dst, op := .extract x 0, type := ty, pos := pos, after := after, guard := guard }).run P w = .ok (.value u) w := by simp [execOp, go_sem, hx]
theorem run_ext1 {P : Program} {w : World} {ρ : Operand → Value} {dst : Option Tmp} {ty : TypeId} {pos : String} {after : Array Edge} {guard : Option (Nat × Bool)} {x : Operand} {u v : Value} (hx : ρ x = .tuple #[u, v]) :
  (execOp ρ { dst := dst, op := .extract x 1, type := ty, pos := pos, after := after, guard := guard }).run P w = .ok (.value v) w := by simp [execOp, go_sem, hx]
theorem Wm {r : Fr × Bool} {v : Fr} {k : Bool} (h : r = (v, k)) (hn : r.2 = false → r.1 = Fr.none) (hv : v.valid = true) : k = true := by
 subst h
 cases k with
 | true => rfl
 | false => rw [show v = Fr.none from hn rfl, Wg] at hv; cases hv
theorem add_l {x y v : Fr} {k : Bool} (h : Za x y = (v, k)) (hk : k = true) : x.valid = true := by
 cases hx : x.valid with
 | true => rfl
 | false => rw [fadd2_no1 hx] at h; cases h; cases hk
theorem add_r {x y v : Fr} {k : Bool} (h : Za x y = (v, k)) (hk : k = true) : y.valid = true := by
 cases hx : y.valid with
 | true => rfl
 | false => rw [fadd2_no2 hx] at h; cases h; cases hk
theorem Sf {x y v : Fr} {k : Bool} (h : Xy x y = (v, k)) (hk : k = true) : x.valid = true := by
 cases hx : x.valid with
 | true => rfl
 | false => simp [Xy, hx] at h; rw [h.2] at hk; cases hk
theorem Oa {x y v : Fr} {k : Bool} (h : Xy x y = (v, k)) (hk : k = true) : y.valid = true := by
 cases hx : y.valid with
 | true => rfl
 | false => simp [Xy, hx] at h; rw [h.2] at hk; cases hk
theorem half_l {x v : Fr} {k : Bool} (h : Uo x = (v, k)) (hk : k = true) : x.valid = true := by
 cases hx : x.valid with
 | true => rfl
 | false => unfold Uo at h; rw [Og hx] at h; cases h; cases hk
theorem real_l {x v : Fr} {k : Bool} (h : Wz x = (v, k)) (hk : k = true) : x.valid = true := by
 cases hx : x.valid with
 | true => rfl
 | false => simp [Wz, hx] at h; rw [h.2] at hk; cases hk
theorem Nz {x v : Fr} {k : Bool} (h : Wy x = (v, k)) (hk : k = true) : x.valid = true := by
 cases hx : x.valid with
 | true => rfl
 | false => simp [Wy, hx] at h; rw [h.2] at hk; cases hk
theorem Vr {x y : Fr} (h : (Zk x y).2 = false) : (Zk x y).1 = Fr.none := Nh h
theorem Ys {W w : World} {bs : Nat} {b : Bool} {L : List (Nat × TypeId × Array Value)} {P : Program} {ρ : Operand → Value} {v : Value} {dst : Option Tmp} {ty : TypeId} {pos : String} {after : Array Edge} {guard : Option (Nat × Bool)} {x : Operand}
  (hB : InS W bs L b w) (hx : ρ x = v) : Xl P (fun u w' => u = v ∧ Sm bs w w' ∧ InS W bs L b w') ((execOp ρ { dst := dst, op := .move x, type := ty, pos := pos, after := after, guard := guard }).run P w) := leaves_move hx ⟨rfl, Sm.refl _ _, hB⟩
section
variable {N lo t m bs : Nat} {r : Nat → Value} {a : Act} {v : Value} {x y z : Nat × Value} {L L0 : List (Nat × Value)} {P : Program} {ops : Array Oper} {B : Bool → World → Prop} {St : World → World → Prop} {Q : List Oper → Act → Bool → Prop} {o : Oper} {n : Nat} {rest : List Oper} {e d b : Bool} {W w : World} {M : List (Nat × TypeId × Array Value)} {p0 p1 p2 p3 p4 p5 p6 p7 p8 : Nat × TypeId × Array Value}
theorem Has.lw (h : Has N lo r a L) (hr : r t = v) (ht : Nat.blt t lo = true) : a.eval (.tmp t) = v := (h.low t (Nat.blt_eq.mp ht)).trans hr
def okS (N lo t : Nat) (o : Oper) (L : List (Nat × Value)) : Bool := o.guard.isNone && Nat.blt t N && Nat.ble lo t && L.all fun x => x.1 != t
theorem okS_parts (h : okS N lo t o L = true) : o.guard = none ∧ t < N ∧ lo ≤ t ∧ (L.all fun x => x.1 != t) = true := by
 unfold okS at h
 simp only [Bool.and_eq_true, Option.isNone_iff_eq_none] at h
 exact ⟨h.1.1.1, Nat.blt_eq.mp h.1.1.2, Nat.ble_eq.mp h.1.2, h.2⟩
theorem Has.g0 (h : Has N lo r a (x :: L)) : a.eval (.tmp x.1) = x.2 := h.get _ (.head _)
theorem Has.g1 (h : Has N lo r a (x :: y :: L)) : a.eval (.tmp y.1) = y.2 := h.get _ (.tail _ (.head _))
theorem Has.g2 (h : Has N lo r a (x :: y :: z :: L)) : a.eval (.tmp z.1) = z.2 := h.get _ (.tail _ (.tail _ (.head _)))
theorem Xr (m : Nat) (ha : Has N lo r a L0) (hL : L0.drop m = L) (hd : o.dst = some t) (hk : okS N lo t o L = true) (hr : ∀ b w, B b w → Xl P (fun u w' => u = v ∧ St w w' ∧ B (b || d) w') ((execOp a.eval o).run P w))
  (h : ∀ a', Has N lo r a' ((t, v) :: L) → Xb P ops B St Q n rest a' (e || d)) : Xb P ops B St Q (n + 1) (o :: rest) a e :=
 have k := okS_parts hk
 lexHas m ha hL hd k.1 k.2.1 k.2.2.1 k.2.2.2 hr h
theorem Yy (ha : Has N lo r a L) (hd : o.dst = some t) (hk : okS N lo t o L = true) (hr : ∀ b w, B b w → Xl P (fun u w' => u = v ∧ St w w' ∧ B b w') ((execOp a.eval o).run P w))
  (h : ∀ a', Has N lo r a' ((t, v) :: L) → Xb P ops B St Q n rest a' e) : Xb P ops B St Q (n + 1) (o :: rest) a e :=
 have k := okS_parts hk
 Rg 0 ha rfl hd k.1 k.2.1 k.2.2.1 k.2.2.2 hr h
theorem InS.b0 (h : InS W bs (p0 :: M) b w) : Box w p0.1 p0.2.1 p0.2.2 := h.sees.boxes.1
theorem InS.b1 (h : InS W bs (p0 :: p1 :: M) b w) : Box w p1.1 p1.2.1 p1.2.2 := h.sees.boxes.2.1
theorem InS.b2 (h : InS W bs (p0 :: p1 :: p2 :: M) b w) : Box w p2.1 p2.2.1 p2.2.2 := h.sees.boxes.2.2.1
theorem InS.b3 (h : InS W bs (p0 :: p1 :: p2 :: p3 :: M) b w) : Box w p3.1 p3.2.1 p3.2.2 := h.sees.boxes.2.2.2.1
theorem InS.b4 (h : InS W bs (p0 :: p1 :: p2 :: p3 :: p4 :: M) b w) : Box w p4.1 p4.2.1 p4.2.2 := h.sees.boxes.2.2.2.2.1
theorem InS.b5 (h : InS W bs (p0 :: p1 :: p2 :: p3 :: p4 :: p5 :: M) b w) : Box w p5.1 p5.2.1 p5.2.2 := h.sees.boxes.2.2.2.2.2.1
theorem InS.b6 (h : InS W bs (p0 :: p1 :: p2 :: p3 :: p4 :: p5 :: p6 :: M) b w) : Box w p6.1 p6.2.1 p6.2.2 := h.sees.boxes.2.2.2.2.2.2.1
theorem InS.b7 (h : InS W bs (p0 :: p1 :: p2 :: p3 :: p4 :: p5 :: p6 :: p7 :: M) b w) : Box w p7.1 p7.2.1 p7.2.2 := h.sees.boxes.2.2.2.2.2.2.2.1
theorem InS.b8 (h : InS W bs (p0 :: p1 :: p2 :: p3 :: p4 :: p5 :: p6 :: p7 :: p8 :: M) b w) : Box w p8.1 p8.2.1 p8.2.2 := h.sees.boxes.2.2.2.2.2.2.2.2.1
end
theorem Lp (m : M4) (w : World) [hG : Yc w] : Calls Tryz.prog 39 #[m.v] w (fun e w' => e = .returned (Sg (Xg m)) ∧ Ex w w') := by
 obtain ⟨RV, hRV⟩ : ∃ v, v = Sg (Xg m) := ⟨_, rfl⟩
 rw [← hRV]
 have kv := fun w => Of m w
 generalize hmv : m.valid = mv at kv
 obtain ⟨⟨a1, a2, a3⟩, ⟨b1, b2, b3⟩, ⟨c1, c2, c3⟩, ⟨d1, d2, d3⟩⟩ := m
 unfold Xg at hRV
 rw [hmv] at hRV
 simp only [M4.v] at kv ⊢
 have KV := Kw kv
 clear kv hmv
 simp only at hRV
 rcases ha : Zj ⟨a1, a2, a3⟩ with ⟨⟨pa1, pa2, pa3⟩, ka⟩
 rcases hb : Zj ⟨b1, b2, b3⟩ with ⟨⟨pb1, pb2, pb3⟩, kb⟩
 rcases hc : Zj ⟨c1, c2, c3⟩ with ⟨⟨pc1, pc2, pc3⟩, kc⟩
 rcases hd : Zj ⟨d1, d2, d3⟩ with ⟨⟨pd1, pd2, pd3⟩, kd⟩
 have HA := Kw ha
 have HB := Kw hb
 have HC := Kw hc
 have HD := Kw hd
 rw [ha, hb, hc, hd] at hRV
 simp only at hRV
 have HR := Kw hRV
 clear ha hb hc hd hRV
 have hR := Zw.refl w
 go_enter Tryz.func39, Tryz.ntmps39
 go_upto_region 1 with fail
 rw [Vv]
 have hS : Zw w ((w.alloc (.cells #[.int .i64 a1, .int .i64 a2, .int .i64 a3, .int .i64 b1, .int .i64 b2, .int .i64 b3, .int .i64 c1, .int .i64 c2, .int .i64 c3, .int .i64 d1, .int .i64 d2, .int .i64 d3] 79)).alloc (.cells Z48 85)) _ := inferInstance
 clear hR
 have hle : w.heap.size ≤ ((w.alloc (.cells #[.int .i64 a1, .int .i64 a2, .int .i64 a3, .int .i64 b1, .int .i64 b2, .int .i64 b3, .int .i64 c1, .int .i64 c2, .int .i64 c3, .int .i64 d1, .int .i64 d2, .int .i64 d3] 79)).alloc (.cells Z48 85)).heap.size := hS.ex.size
 simp only [Kv] at hS
 generalize (w.alloc (.cells #[.int .i64 a1, .int .i64 a2, .int .i64 a3, .int .i64 b1, .int .i64 b2, .int .i64 b3, .int .i64 c1, .int .i64 c2, .int .i64 c3, .int .i64 d1, .int .i64 d2, .int .i64 d3] 79)).alloc (.cells Z48 85) = W0 at *
 have hC := hS.reads
 simp only [Zz, Zy] at hC
 go_wp2_with (first | (go_at_call 96; (with_reducible refine (KV.out _).mono ?_); rintro e wn ⟨rfl, hx⟩; replace hS := Zt.after (W := w) hx; clear hx; (try simp only [Kv] at hS); replace hC := hS.reads; simp only [Zz, Zy] at hC) | (go_at_call 46; (with_reducible refine (Up w).mono ?_); rintro e wn ⟨rfl, hS⟩; (try simp only [Kv] at hS); have hC := hS.reads; simp only [Zz, Zy] at hC))
 replace hS := Zt.alloc (h := hS) (cs := #[.pointer (some ⟨W0.heap.size, 0, none⟩)]) (t := 90)
 have hS0 := hS
 have hbs0 := hS0.sum.lt
 refine Zm (St := Sm _) (B := fun b w' => InS _ _ _ b w') 12 4 0 _ 30 (fun i => match i with | 0 => 5 | 1 => 6 | 2 => 7 | _ => 8) (fun i => match i with | 0 => 23 | 1 => 26 | 2 => 29 | _ => 32) (fun i => match i with | 0 => #[.int .i64 0, .int .i64 0, .int .i64 0] | 1 => #[.int .i64 0, .int .i64 0, .int .i64 0] | 2 => #[.int .i64 0, .int .i64 0, .int .i64 0] | _ => #[.int .i64 0, .int .i64 0, .int .i64 0]) (fun i => match i with | 0 => #[.int .i64 a1, .int .i64 a2, .int .i64 a3] | 1 => #[.int .i64 b1, .int .i64 b2, .int .i64 b3] | 2 => #[.int .i64 c1, .int .i64 c2, .int .i64 c3] | _ => #[.int .i64 d1, .int .i64 d2, .int .i64 d3]) _ (by kernel_rfl) (by kernel_rfl) (InS.drew (InS.start hS0)) (by intro x y h1 h2 h3; revert h3; match x, y, h1, h2 with | 0, 0, _, _ => decide | 0, 1, _, _ => decide | 0, 2, _, _ => decide | 0, 3, _, _ => decide | 1, 0, _, _ => decide | 1, 1, _, _ => decide | 1, 2, _, _ => decide | 1, 3, _, _ => decide | 2, 0, _, _ => decide | 2, 1, _, _ => decide | 2, 2, _, _ => decide | 2, 3, _, _ => decide | 3, 0, _, _ => decide | 3, 1, _, _ => decide | 3, 2, _, _ => decide | 3, 3, _, _ => decide) (by intro x y h1 h2; match x, y, h1, h2 with | 0, 0, _, _ => decide | 0, 1, _, _ => decide | 0, 2, _, _ => decide | 0, 3, _, _ => decide | 1, 0, _, _ => decide | 1, 1, _, _ => decide | 1, 2, _, _ => decide | 1, 3, _, _ => decide | 2, 0, _, _ => decide | 2, 1, _, _ => decide | 2, 2, _, _ => decide | 2, 3, _, _ => decide | 3, 0, _, _ => decide | 3, 1, _, _ => decide | 3, 2, _, _ => decide | 3, 3, _, _ => decide) (fun _ _ h g cs hg hb => h.box _ _ _ (Nat.ne_of_gt (Nat.lt_of_lt_of_le hbs0 hg)) hb) (fun _ _ cs h => h.alloc _) (fun _ _ h => h.size) ?_
 iterate 12 (apply Zx; (· rfl); (· intro b wb hB Q1 hQ1; have hS := hB.sees; have hC := hS.reads; simp only [Zz, Zy] at hC; go_wp2_with fail; exact hQ1 _ (Sm.refl _ _) hB); (· exact ⟨_, rfl⟩))
 refine Zq ?_
 refine ⟨fun i hi => ?_, fun i hi => ?_, fun i hi => ?_, fun gg wz hz hbx hne => ?_⟩
 ·obtain rfl | rfl | rfl | rfl : i = 0 ∨ i = 1 ∨ i = 2 ∨ i = 3 := by omega
  all_goals exact ⟨_, rfl, Zb⟩
 ·obtain rfl | rfl | rfl | rfl : i = 0 ∨ i = 1 ∨ i = 2 ∨ i = 3 := by omega
  all_goals exact ⟨_, rfl, Zf Yv rfl (by kernel_rfl) (fun _ _ _ hg h => h.setRow hg _)⟩
 ·obtain rfl | rfl | rfl | rfl : i = 0 ∨ i = 1 ∨ i = 2 ∨ i = 3 := by omega
  ·exact (show (5 : Nat) < 246 by decide)
  ·exact (show (6 : Nat) < 246 by decide)
  ·exact (show (7 : Nat) < 246 by decide)
  ·exact (show (8 : Nat) < 246 by decide)
 obtain ⟨hg0, hb0⟩ := hbx 0 (by omega)
 obtain ⟨hg1, hb1⟩ := hbx 1 (by omega)
 obtain ⟨hg2, hb2⟩ := hbx 2 (by omega)
 obtain ⟨hg3, hb3⟩ := hbx 3 (by omega)
 replace hS := InS.join hS0 hz
 replace hS := Zt.put hS hb0 (by omega)
 replace hS := Zt.put hS hb1 (by omega)
 replace hS := Zt.put hS hb2 (by omega)
 replace hS := Zt.put hS hb3 (by omega)
 simp only [frN, Act.put, Ku, Kt, Ks, Nat.reduceAdd, List.drop_succ_cons, List.drop_zero]
 generalize gg 0 = g0 at *
 generalize gg 1 = g1 at *
 generalize gg 2 = g2 at *
 generalize gg 3 = g3 at *
 clear hbx hz hS0 hne
 simp only at hS
 go_wp2_with fail
 have hS0 := hS
 have hbs0 := hS0.sum.lt
 refine Zm (St := Sm _) (B := fun b w' => InS _ _ _ b w') 12 4 0 _ 30 (fun i => match i with | 0 => 9 | 1 => 10 | 2 => 11 | _ => 12) (fun i => match i with | 0 => 35 | 1 => 38 | 2 => 41 | _ => 44) (fun i => match i with | 0 => #[.int .i64 0, .int .i64 0, .int .i64 0] | 1 => #[.int .i64 0, .int .i64 0, .int .i64 0] | 2 => #[.int .i64 0, .int .i64 0, .int .i64 0] | _ => #[.int .i64 0, .int .i64 0, .int .i64 0]) (fun i => match i with | 0 => #[.int .i64 pa1, .int .i64 pa2, .int .i64 pa3] | 1 => #[.int .i64 pb1, .int .i64 pb2, .int .i64 pb3] | 2 => #[.int .i64 pc1, .int .i64 pc2, .int .i64 pc3] | _ => #[.int .i64 pd1, .int .i64 pd2, .int .i64 pd3]) _ (by kernel_rfl) (by kernel_rfl) (InS.drew (InS.start hS0)) (by intro x y h1 h2 h3; revert h3; match x, y, h1, h2 with | 0, 0, _, _ => decide | 0, 1, _, _ => decide | 0, 2, _, _ => decide | 0, 3, _, _ => decide | 1, 0, _, _ => decide | 1, 1, _, _ => decide | 1, 2, _, _ => decide | 1, 3, _, _ => decide | 2, 0, _, _ => decide | 2, 1, _, _ => decide | 2, 2, _, _ => decide | 2, 3, _, _ => decide | 3, 0, _, _ => decide | 3, 1, _, _ => decide | 3, 2, _, _ => decide | 3, 3, _, _ => decide) (by intro x y h1 h2; match x, y, h1, h2 with | 0, 0, _, _ => decide | 0, 1, _, _ => decide | 0, 2, _, _ => decide | 0, 3, _, _ => decide | 1, 0, _, _ => decide | 1, 1, _, _ => decide | 1, 2, _, _ => decide | 1, 3, _, _ => decide | 2, 0, _, _ => decide | 2, 1, _, _ => decide | 2, 2, _, _ => decide | 2, 3, _, _ => decide | 3, 0, _, _ => decide | 3, 1, _, _ => decide | 3, 2, _, _ => decide | 3, 3, _, _ => decide) (fun _ _ h g cs hg hb => h.box _ _ _ (Nat.ne_of_gt (Nat.lt_of_lt_of_le hbs0 hg)) hb) (fun _ _ cs h => h.alloc _) (fun _ _ h => h.size) ?_
 iterate 2 (apply Zx; (· rfl); (· intro b wb hB Q1 hQ1; have hS := hB.sees; have hC := hS.reads; simp only [Zz, Zy] at hC; go_wp2_with fail; exact hQ1 _ (Sm.refl _ _) hB); (· exact ⟨_, rfl⟩))
 (apply Zp; (· rfl); (· intro b wb hB Q1 hQ1; go_wp2_with (go_at_call 48; (with_reducible refine (Uc hB.sees HA.out).mono ?_); rintro e wn ⟨rfl, hN, hM⟩); exact hQ1 _ hM (hB.call hN)); (· exact ⟨_, rfl⟩))
 iterate 2 (apply Zx; (· rfl); (· intro b wb hB Q1 hQ1; have hS := hB.sees; have hC := hS.reads; simp only [Zz, Zy] at hC; go_wp2_with fail; exact hQ1 _ (Sm.refl _ _) hB); (· exact ⟨_, rfl⟩))
 (apply Zp; (· rfl); (· intro b wb hB Q1 hQ1; go_wp2_with (go_at_call 48; (with_reducible refine (Uc hB.sees HB.out).mono ?_); rintro e wn ⟨rfl, hN, hM⟩); exact hQ1 _ hM (hB.call hN)); (· exact ⟨_, rfl⟩))
 iterate 2 (apply Zx; (· rfl); (· intro b wb hB Q1 hQ1; have hS := hB.sees; have hC := hS.reads; simp only [Zz, Zy] at hC; go_wp2_with fail; exact hQ1 _ (Sm.refl _ _) hB); (· exact ⟨_, rfl⟩))
 (apply Zp; (· rfl); (· intro b wb hB Q1 hQ1; go_wp2_with (go_at_call 48; (with_reducible refine (Uc hB.sees HC.out).mono ?_); rintro e wn ⟨rfl, hN, hM⟩); exact hQ1 _ hM (hB.call hN)); (· exact ⟨_, rfl⟩))
 iterate 2 (apply Zx; (· rfl); (· intro b wb hB Q1 hQ1; have hS := hB.sees; have hC := hS.reads; simp only [Zz, Zy] at hC; go_wp2_with fail; exact hQ1 _ (Sm.refl _ _) hB); (· exact ⟨_, rfl⟩))
 (apply Zp; (· rfl); (· intro b wb hB Q1 hQ1; go_wp2_with (go_at_call 48; (with_reducible refine (Uc hB.sees HD.out).mono ?_); rintro e wn ⟨rfl, hN, hM⟩); exact hQ1 _ hM (hB.call hN)); (· exact ⟨_, rfl⟩))
 refine Zq ?_
 refine ⟨fun i hi => ?_, fun i hi => ?_, fun i hi => ?_, fun gg wz hz hbx hne => ?_⟩
 ·obtain rfl | rfl | rfl | rfl : i = 0 ∨ i = 1 ∨ i = 2 ∨ i = 3 := by omega
  all_goals exact ⟨_, rfl, Zb⟩
 ·obtain rfl | rfl | rfl | rfl : i = 0 ∨ i = 1 ∨ i = 2 ∨ i = 3 := by omega
  all_goals exact ⟨_, rfl, Zf Yv rfl (by kernel_rfl) (fun _ _ _ hg h => h.setRow hg _)⟩
 ·obtain rfl | rfl | rfl | rfl : i = 0 ∨ i = 1 ∨ i = 2 ∨ i = 3 := by omega
  ·exact (show (9 : Nat) < 246 by decide)
  ·exact (show (10 : Nat) < 246 by decide)
  ·exact (show (11 : Nat) < 246 by decide)
  ·exact (show (12 : Nat) < 246 by decide)
 obtain ⟨hq0, hp0⟩ := hbx 0 (by omega)
 obtain ⟨hq1, hp1⟩ := hbx 1 (by omega)
 obtain ⟨hq2, hp2⟩ := hbx 2 (by omega)
 obtain ⟨hq3, hp3⟩ := hbx 3 (by omega)
 replace hS := InS.join hS0 hz
 replace hS := Zt.put hS hp0 (by omega)
 replace hS := Zt.put hS hp1 (by omega)
 replace hS := Zt.put hS hp2 (by omega)
 replace hS := Zt.put hS hp3 (by omega)
 simp only [frN, Act.put, Ku, Kt, Ks, Nat.reduceAdd, List.drop_succ_cons, List.drop_zero]
 generalize gg 0 = g4 at *
 generalize gg 1 = g5 at *
 generalize gg 2 = g6 at *
 generalize gg 3 = g7 at *
 clear hbx hz hS0 hne
 simp only at hS
 go_wp2_with fail
 have hS2 := hS
 have hGl : ∀ w2, Sm W0.heap.size wz w2 → Yc w2 := fun w2 h => hG.ex ((hS2.sm.trans h).ex w (Ex.refl _) hle)
 have hne : wn.heap.size ≠ W0.heap.size := hS2.far _ (.tail _ (.tail _ (.tail _ (.tail _ (.tail _ (.tail _ (.tail _ (.tail _ (.head _)))))))))
 obtain ⟨⟨v53, k53⟩, h53⟩ : ∃ r, Za (⟨pa1, pa2, pa3⟩ : Fr) (⟨pb1, pb2, pb3⟩ : Fr) = r := ⟨_, rfl⟩
 obtain ⟨⟨v55, k55⟩, h55⟩ : ∃ r, Za v53 (⟨pc1, pc2, pc3⟩ : Fr) = r := ⟨_, rfl⟩
 obtain ⟨⟨v57, k57⟩, h57⟩ : ∃ r, Za v55 (⟨pd1, pd2, pd3⟩ : Fr) = r := ⟨_, rfl⟩
 obtain ⟨⟨v58, k58⟩, h58⟩ : ∃ r, Uo v57 = r := ⟨_, rfl⟩
 obtain ⟨⟨v65, k65⟩, h65⟩ : ∃ r, Xy (⟨pa1, pa2, pa3⟩ : Fr) (⟨pb1, pb2, pb3⟩ : Fr) = r := ⟨_, rfl⟩
 obtain ⟨⟨v67, k67⟩, h67⟩ : ∃ r, Za v65 (⟨pc1, pc2, pc3⟩ : Fr) = r := ⟨_, rfl⟩
 obtain ⟨⟨v69, k69⟩, h69⟩ : ∃ r, Xy v67 (⟨pd1, pd2, pd3⟩ : Fr) = r := ⟨_, rfl⟩
 obtain ⟨⟨v70, k70⟩, h70⟩ : ∃ r, Uo v69 = r := ⟨_, rfl⟩
 obtain ⟨⟨v76, k76⟩, h76⟩ : ∃ r, Zk (⟨a1, a2, a3⟩ : Fr) (⟨b1, b2, b3⟩ : Fr) = r := ⟨_, rfl⟩
 obtain ⟨⟨v80, k80⟩, h80⟩ : ∃ r, Zk (⟨c1, c2, c3⟩ : Fr) (⟨d1, d2, d3⟩ : Fr) = r := ⟨_, rfl⟩
 obtain ⟨⟨v81, k81⟩, h81⟩ : ∃ r, Za v76 v80 = r := ⟨_, rfl⟩
 obtain ⟨⟨v82, k82⟩, h82⟩ : ∃ r, Wz v81 = r := ⟨_, rfl⟩
 obtain ⟨⟨v88, k88⟩, h88⟩ : ∃ r, Zk (⟨b1, b2, b3⟩ : Fr) (⟨a1, a2, a3⟩ : Fr) = r := ⟨_, rfl⟩
 obtain ⟨⟨v92, k92⟩, h92⟩ : ∃ r, Zk (⟨d1, d2, d3⟩ : Fr) (⟨c1, c2, c3⟩ : Fr) = r := ⟨_, rfl⟩
 obtain ⟨⟨v93, k93⟩, h93⟩ : ∃ r, Za v88 v92 = r := ⟨_, rfl⟩
 obtain ⟨⟨v94, k94⟩, h94⟩ : ∃ r, Wy v93 = r := ⟨_, rfl⟩
 obtain ⟨⟨v103, k103⟩, h103⟩ : ∃ r, Xy v53 (⟨pc1, pc2, pc3⟩ : Fr) = r := ⟨_, rfl⟩
 obtain ⟨⟨v105, k105⟩, h105⟩ : ∃ r, Xy v103 (⟨pd1, pd2, pd3⟩ : Fr) = r := ⟨_, rfl⟩
 obtain ⟨⟨v106, k106⟩, h106⟩ : ∃ r, Uo v105 = r := ⟨_, rfl⟩
 obtain ⟨⟨v115, k115⟩, h115⟩ : ∃ r, Xy v65 (⟨pc1, pc2, pc3⟩ : Fr) = r := ⟨_, rfl⟩
 obtain ⟨⟨v117, k117⟩, h117⟩ : ∃ r, Za v115 (⟨pd1, pd2, pd3⟩ : Fr) = r := ⟨_, rfl⟩
 obtain ⟨⟨v118, k118⟩, h118⟩ : ∃ r, Uo v117 = r := ⟨_, rfl⟩
 obtain ⟨⟨v129, k129⟩, h129⟩ : ∃ r, Xy v76 v80 = r := ⟨_, rfl⟩
 obtain ⟨⟨v130, k130⟩, h130⟩ : ∃ r, Wz v129 = r := ⟨_, rfl⟩
 obtain ⟨⟨v141, k141⟩, h141⟩ : ∃ r, Xy v88 v92 = r := ⟨_, rfl⟩
 obtain ⟨⟨v142, k142⟩, h142⟩ : ∃ r, Wy v141 = r := ⟨_, rfl⟩
 obtain ⟨⟨v148, k148⟩, h148⟩ : ∃ r, Zk (⟨a1, a2, a3⟩ : Fr) (⟨c1, c2, c3⟩ : Fr) = r := ⟨_, rfl⟩
 obtain ⟨⟨v152, k152⟩, h152⟩ : ∃ r, Zk (⟨b1, b2, b3⟩ : Fr) (⟨d1, d2, d3⟩ : Fr) = r := ⟨_, rfl⟩
 obtain ⟨⟨v153, k153⟩, h153⟩ : ∃ r, Za v148 v152 = r := ⟨_, rfl⟩
 obtain ⟨⟨v154, k154⟩, h154⟩ : ∃ r, Wz v153 = r := ⟨_, rfl⟩
 obtain ⟨⟨v165, k165⟩, h165⟩ : ∃ r, Xy v148 v152 = r := ⟨_, rfl⟩
 obtain ⟨⟨v166, k166⟩, h166⟩ : ∃ r, Wz v165 = r := ⟨_, rfl⟩
 obtain ⟨⟨v172, k172⟩, h172⟩ : ∃ r, Zk (⟨a1, a2, a3⟩ : Fr) (⟨d1, d2, d3⟩ : Fr) = r := ⟨_, rfl⟩
 obtain ⟨⟨v176, k176⟩, h176⟩ : ∃ r, Zk (⟨b1, b2, b3⟩ : Fr) (⟨c1, c2, c3⟩ : Fr) = r := ⟨_, rfl⟩
 obtain ⟨⟨v177, k177⟩, h177⟩ : ∃ r, Za v172 v176 = r := ⟨_, rfl⟩
 obtain ⟨⟨v178, k178⟩, h178⟩ : ∃ r, Wz v177 = r := ⟨_, rfl⟩
 obtain ⟨⟨v189, k189⟩, h189⟩ : ∃ r, Xy v176 v172 = r := ⟨_, rfl⟩
 obtain ⟨⟨v190, k190⟩, h190⟩ : ∃ r, Wy v189 = r := ⟨_, rfl⟩
 obtain ⟨⟨v202, k202⟩, h202⟩ : ∃ r, Wy v153 = r := ⟨_, rfl⟩
 obtain ⟨⟨v214, k214⟩, h214⟩ : ∃ r, Wy v165 = r := ⟨_, rfl⟩
 obtain ⟨⟨v226, k226⟩, h226⟩ : ∃ r, Wy v177 = r := ⟨_, rfl⟩
 obtain ⟨⟨v237, k237⟩, h237⟩ : ∃ r, Xy v172 v176 = r := ⟨_, rfl⟩
 obtain ⟨⟨v238, k238⟩, h238⟩ : ∃ r, Wz v237 = r := ⟨_, rfl⟩
 refine wp_has _ 47 rfl ?_
 intro a0 r hr0 hA0
 have hA : Has 246 47 r a0 [] := hA0
 have r1 : r 1 = .pointer (some ⟨w.heap.size, 0, none⟩) := hr0 1
 have r2 : r 2 = .pointer (some ⟨(w.heap.size + 1), 0, none⟩) := hr0 2
 have r4 : r 4 = .pointer (some ⟨wn.heap.size, 0, none⟩) := hr0 4
 have r5 : r 5 = .pointer (some ⟨g0, 0, none⟩) := hr0 5
 have r6 : r 6 = .pointer (some ⟨g1, 0, none⟩) := hr0 6
 have r7 : r 7 = .pointer (some ⟨g2, 0, none⟩) := hr0 7
 have r8 : r 8 = .pointer (some ⟨g3, 0, none⟩) := hr0 8
 have r9 : r 9 = .pointer (some ⟨g4, 0, none⟩) := hr0 9
 have r10 : r 10 = .pointer (some ⟨g5, 0, none⟩) := hr0 10
 have r11 : r 11 = .pointer (some ⟨g6, 0, none⟩) := hr0 11
 have r12 : r 12 = .pointer (some ⟨g7, 0, none⟩) := hr0 12
 have r13 : r 13 = .func (.func 97) #[] #[.pointer (some ⟨wn.heap.size, 0, none⟩)] := hr0 13
 have r14 : r 14 = .func (.func 98) #[] #[.pointer (some ⟨wn.heap.size, 0, none⟩)] := hr0 14
 clear hr0 hA0
 have hS0 := hS2
 have hbs1 := hS0.sum.lt
 refine Zm (St := Sm W0.heap.size) (B := fun b w2 => InS _ W0.heap.size _ b w2) 194 1 0 _ 85 (fun _ => 15) (fun _ => 240) (fun _ => Z48) (fun _ => Zs [v58, v70, v82, v94, v106, v118, v130, v142, v154, v166, v178, v190, v202, v214, v226, v238]) _ (by kernel_rfl) (newB_of_long (lo := 47) (outs := [15]) (by kernel_rfl)) (InS.drew (InS.start hS0)) (fun x y h1 h2 _ => by omega) (fun x y _ _ => by decide) (fun _ _ h g cs hg hb => h.box _ _ _ (Nat.ne_of_gt (Nat.lt_of_lt_of_le hbs1 hg)) hb) (fun _ _ cs h => h.alloc _) (fun _ _ h => h.size) ?_
 refine Yy hA rfl rfl (fun b w2 hB => Ys hB (hA.lw r14 rfl)) ?_
 intro a47 hA47
 clear hA a0
 refine Yy hA47 rfl rfl (fun b w2 hB => Zv hB (Zc (hA47.lw r4 rfl) hB.b8)) ?_
 intro a48 hA48
 clear hA47 a47
 refine Yy hA48 rfl rfl (fun b w2 hB => Zv hB (Zc (hA48.lw r4 rfl) hB.b8)) ?_
 intro a49 hA49
 clear hA48 a48
 refine Yy hA49 rfl rfl (fun b w2 hB => Zv hB (Zc (hA49.lw r4 rfl) hB.b8)) ?_
 intro a50 hA50
 clear hA49 a49
 refine Yy hA50 rfl rfl (fun b w2 hB => Zv hB (Zn (f := (⟨pa1, pa2, pa3⟩ : Fr)) (hA50.lw r9 rfl) hB.b3)) ?_
 intro a51 hA51
 clear hA50 a50
 refine Yy hA51 rfl rfl (fun b w2 hB => Zv hB (Zn (f := (⟨pb1, pb2, pb3⟩ : Fr)) (hA51.lw r10 rfl) hB.b2)) ?_
 intro a52 hA52
 clear hA51 a51
 refine Xr 3 hA52 rfl rfl rfl (fun b w2 hB => Zo hB (Yj Tryz.func53 (by kernel_rfl) rfl hA52.g2 hA52.g1 hA52.g0 rfl) h53 (Vy _ _ (⟨pa1, pa2, pa3⟩ : Fr) (⟨pb1, pb2, pb3⟩ : Fr) w2 hB.sees.sum)) ?_
 intro a53 hA53
 clear hA52 a52
 refine Yy hA53 rfl rfl (fun b w2 hB => Zv hB (Zn (f := (⟨pc1, pc2, pc3⟩ : Fr)) (hA53.lw r11 rfl) hB.b1)) ?_
 intro a54 hA54
 clear hA53 a53
 refine Xr 3 hA54 rfl rfl rfl (fun b w2 hB => Zo hB (Yj Tryz.func53 (by kernel_rfl) rfl hA54.g2 hA54.g1 hA54.g0 rfl) h55 (Vy _ _ v53 (⟨pc1, pc2, pc3⟩ : Fr) w2 hB.sees.sum)) ?_
 intro a55 hA55
 clear hA54 a54
 refine Yy hA55 rfl rfl (fun b w2 hB => Zv hB (Zn (f := (⟨pd1, pd2, pd3⟩ : Fr)) (hA55.lw r12 rfl) hB.b0)) ?_
 intro a56 hA56
 clear hA55 a55
 refine Xr 3 hA56 rfl rfl rfl (fun b w2 hB => Zo hB (Yj Tryz.func53 (by kernel_rfl) rfl hA56.g2 hA56.g1 hA56.g0 rfl) h57 (Vy _ _ v55 (⟨pd1, pd2, pd3⟩ : Fr) w2 hB.sees.sum)) ?_
 intro a57 hA57
 clear hA56 a56
 refine Xr 2 hA57 rfl rfl rfl (fun b w2 hB => Zo hB (Qp Tryz.func98 (by kernel_rfl) rfl hA57.g1 hA57.g0) h58 (Pj _ _ _ v57 w2 hB.sees.sum hB.b8 hne (fun w3 h3 => hGl w3 (hB.sees.sm.trans h3)))) ?_
 intro a58 hA58
 clear hA57 a57
 refine Yy hA58 rfl rfl (fun b w2 hB => Ys hB (hA58.lw r14 rfl)) ?_
 intro a59 hA59
 clear hA58 a58
 refine Yy hA59 rfl rfl (fun b w2 hB => Zv hB (Zc (hA59.lw r4 rfl) hB.b8)) ?_
 intro a60 hA60
 clear hA59 a59
 refine Yy hA60 rfl rfl (fun b w2 hB => Zv hB (Zc (hA60.lw r4 rfl) hB.b8)) ?_
 intro a61 hA61
 clear hA60 a60
 refine Yy hA61 rfl rfl (fun b w2 hB => Zv hB (Zc (hA61.lw r4 rfl) hB.b8)) ?_
 intro a62 hA62
 clear hA61 a61
 refine Yy hA62 rfl rfl (fun b w2 hB => Zv hB (Zn (f := (⟨pa1, pa2, pa3⟩ : Fr)) (hA62.lw r9 rfl) hB.b3)) ?_
 intro a63 hA63
 clear hA62 a62
 refine Yy hA63 rfl rfl (fun b w2 hB => Zv hB (Zn (f := (⟨pb1, pb2, pb3⟩ : Fr)) (hA63.lw r10 rfl) hB.b2)) ?_
 intro a64 hA64
 clear hA63 a63
 refine Xr 3 hA64 rfl rfl rfl (fun b w2 hB => Zo hB (Yj Tryz.func54 (by kernel_rfl) rfl hA64.g2 hA64.g1 hA64.g0 rfl) h65 (Wf _ _ (⟨pa1, pa2, pa3⟩ : Fr) (⟨pb1, pb2, pb3⟩ : Fr) w2 hB.sees.sum)) ?_
 intro a65 hA65
 clear hA64 a64
 refine Yy hA65 rfl rfl (fun b w2 hB => Zv hB (Zn (f := (⟨pc1, pc2, pc3⟩ : Fr)) (hA65.lw r11 rfl) hB.b1)) ?_
 intro a66 hA66
 clear hA65 a65
 refine Xr 3 hA66 rfl rfl rfl (fun b w2 hB => Zo hB (Yj Tryz.func53 (by kernel_rfl) rfl hA66.g2 hA66.g1 hA66.g0 rfl) h67 (Vy _ _ v65 (⟨pc1, pc2, pc3⟩ : Fr) w2 hB.sees.sum)) ?_
 intro a67 hA67
 clear hA66 a66
 refine Yy hA67 rfl rfl (fun b w2 hB => Zv hB (Zn (f := (⟨pd1, pd2, pd3⟩ : Fr)) (hA67.lw r12 rfl) hB.b0)) ?_
 intro a68 hA68
 clear hA67 a67
 refine Xr 3 hA68 rfl rfl rfl (fun b w2 hB => Zo hB (Yj Tryz.func54 (by kernel_rfl) rfl hA68.g2 hA68.g1 hA68.g0 rfl) h69 (Wf _ _ v67 (⟨pd1, pd2, pd3⟩ : Fr) w2 hB.sees.sum)) ?_
 intro a69 hA69
 clear hA68 a68
 refine Xr 2 hA69 rfl rfl rfl (fun b w2 hB => Zo hB (Qp Tryz.func98 (by kernel_rfl) rfl hA69.g1 hA69.g0) h70 (Pj _ _ _ v69 w2 hB.sees.sum hB.b8 hne (fun w3 h3 => hGl w3 (hB.sees.sm.trans h3)))) ?_
 intro a70 hA70
 clear hA69 a69
 refine Yy hA70 rfl rfl (fun b w2 hB => Zv hB (Zc (hA70.lw r4 rfl) hB.b8)) ?_
 intro a71 hA71
 clear hA70 a70
 refine Yy hA71 rfl rfl (fun b w2 hB => Zv hB (Zc (hA71.lw r4 rfl) hB.b8)) ?_
 intro a72 hA72
 clear hA71 a71
 refine Yy hA72 rfl rfl (fun b w2 hB => Ys hB (hA72.lw r13 rfl)) ?_
 intro a73 hA73
 clear hA72 a72
 refine Yy hA73 rfl rfl (fun b w2 hB => Zv hB (Zn (f := (⟨a1, a2, a3⟩ : Fr)) (hA73.lw r5 rfl) hB.b7)) ?_
 intro a74 hA74
 clear hA73 a73
 refine Yy hA74 rfl rfl (fun b w2 hB => Zv hB (Zn (f := (⟨b1, b2, b3⟩ : Fr)) (hA74.lw r6 rfl) hB.b6)) ?_
 intro a75 hA75
 clear hA74 a74
 refine Xr 3 hA75 rfl rfl rfl (fun b w2 hB => Zo hB (Yi Tryz.func97 (by kernel_rfl) rfl hA75.g2 hA75.g1 hA75.g0) h76 (Xz _ _ _ (⟨a1, a2, a3⟩ : Fr) (⟨b1, b2, b3⟩ : Fr) w2 hB.sees.sum hB.b8 hne)) ?_
 intro a76 hA76
 clear hA75 a75
 refine Yy hA76 rfl rfl (fun b w2 hB => Ys hB (hA76.lw r13 rfl)) ?_
 intro a77 hA77
 clear hA76 a76
 refine Yy hA77 rfl rfl (fun b w2 hB => Zv hB (Zn (f := (⟨c1, c2, c3⟩ : Fr)) (hA77.lw r7 rfl) hB.b5)) ?_
 intro a78 hA78
 clear hA77 a77
 refine Yy hA78 rfl rfl (fun b w2 hB => Zv hB (Zn (f := (⟨d1, d2, d3⟩ : Fr)) (hA78.lw r8 rfl) hB.b4)) ?_
 intro a79 hA79
 clear hA78 a78
 refine Xr 3 hA79 rfl rfl rfl (fun b w2 hB => Zo hB (Yi Tryz.func97 (by kernel_rfl) rfl hA79.g2 hA79.g1 hA79.g0) h80 (Xz _ _ _ (⟨c1, c2, c3⟩ : Fr) (⟨d1, d2, d3⟩ : Fr) w2 hB.sees.sum hB.b8 hne)) ?_
 intro a80 hA80
 clear hA79 a79
 refine Xr 3 hA80 rfl rfl rfl (fun b w2 hB => Zo hB (Yj Tryz.func53 (by kernel_rfl) rfl hA80.g2 hA80.g1 hA80.g0 rfl) h81 (Vy _ _ v76 v80 w2 hB.sees.sum)) ?_
 intro a81 hA81
 clear hA80 a80
 refine Xr 2 hA81 rfl rfl rfl (fun b w2 hB => Zo hB (Wx Tryz.func55 (by kernel_rfl) rfl hA81.g1 hA81.g0 rfl) h82 (Tt _ _ v81 w2 hB.sees.sum)) ?_
 intro a82 hA82
 clear hA81 a81
 refine Yy hA82 rfl rfl (fun b w2 hB => Zv hB (Zc (hA82.lw r4 rfl) hB.b8)) ?_
 intro a83 hA83
 clear hA82 a82
 refine Yy hA83 rfl rfl (fun b w2 hB => Zv hB (Zc (hA83.lw r4 rfl) hB.b8)) ?_
 intro a84 hA84
 clear hA83 a83
 refine Yy hA84 rfl rfl (fun b w2 hB => Ys hB (hA84.lw r13 rfl)) ?_
 intro a85 hA85
 clear hA84 a84
 refine Yy hA85 rfl rfl (fun b w2 hB => Zv hB (Zn (f := (⟨b1, b2, b3⟩ : Fr)) (hA85.lw r6 rfl) hB.b6)) ?_
 intro a86 hA86
 clear hA85 a85
 refine Yy hA86 rfl rfl (fun b w2 hB => Zv hB (Zn (f := (⟨a1, a2, a3⟩ : Fr)) (hA86.lw r5 rfl) hB.b7)) ?_
 intro a87 hA87
 clear hA86 a86
 refine Xr 3 hA87 rfl rfl rfl (fun b w2 hB => Zo hB (Yi Tryz.func97 (by kernel_rfl) rfl hA87.g2 hA87.g1 hA87.g0) h88 (Xz _ _ _ (⟨b1, b2, b3⟩ : Fr) (⟨a1, a2, a3⟩ : Fr) w2 hB.sees.sum hB.b8 hne)) ?_
 intro a88 hA88
 clear hA87 a87
 refine Yy hA88 rfl rfl (fun b w2 hB => Ys hB (hA88.lw r13 rfl)) ?_
 intro a89 hA89
 clear hA88 a88
 refine Yy hA89 rfl rfl (fun b w2 hB => Zv hB (Zn (f := (⟨d1, d2, d3⟩ : Fr)) (hA89.lw r8 rfl) hB.b4)) ?_
 intro a90 hA90
 clear hA89 a89
 refine Yy hA90 rfl rfl (fun b w2 hB => Zv hB (Zn (f := (⟨c1, c2, c3⟩ : Fr)) (hA90.lw r7 rfl) hB.b5)) ?_
 intro a91 hA91
 clear hA90 a90
 refine Xr 3 hA91 rfl rfl rfl (fun b w2 hB => Zo hB (Yi Tryz.func97 (by kernel_rfl) rfl hA91.g2 hA91.g1 hA91.g0) h92 (Xz _ _ _ (⟨d1, d2, d3⟩ : Fr) (⟨c1, c2, c3⟩ : Fr) w2 hB.sees.sum hB.b8 hne)) ?_
 intro a92 hA92
 clear hA91 a91
 refine Xr 3 hA92 rfl rfl rfl (fun b w2 hB => Zo hB (Yj Tryz.func53 (by kernel_rfl) rfl hA92.g2 hA92.g1 hA92.g0 rfl) h93 (Vy _ _ v88 v92 w2 hB.sees.sum)) ?_
 intro a93 hA93
 clear hA92 a92
 refine Xr 2 hA93 rfl rfl rfl (fun b w2 hB => Zo hB (Wx Tryz.func56 (by kernel_rfl) rfl hA93.g1 hA93.g0 rfl) h94 (Ts _ _ v93 w2 hB.sees.sum)) ?_
 intro a94 hA94
 clear hA93 a93
 refine Yy hA94 rfl rfl (fun b w2 hB => Ys hB (hA94.lw r14 rfl)) ?_
 intro a95 hA95
 clear hA94 a94
 refine Yy hA95 rfl rfl (fun b w2 hB => Zv hB (Zc (hA95.lw r4 rfl) hB.b8)) ?_
 intro a96 hA96
 clear hA95 a95
 refine Yy hA96 rfl rfl (fun b w2 hB => Zv hB (Zc (hA96.lw r4 rfl) hB.b8)) ?_
 intro a97 hA97
 clear hA96 a96
 refine Yy hA97 rfl rfl (fun b w2 hB => Zv hB (Zc (hA97.lw r4 rfl) hB.b8)) ?_
 intro a98 hA98
 clear hA97 a97
 refine Yy hA98 rfl rfl (fun b w2 hB => Zv hB (Zn (f := (⟨pa1, pa2, pa3⟩ : Fr)) (hA98.lw r9 rfl) hB.b3)) ?_
 intro a99 hA99
 clear hA98 a98
 refine Yy hA99 rfl rfl (fun b w2 hB => Zv hB (Zn (f := (⟨pb1, pb2, pb3⟩ : Fr)) (hA99.lw r10 rfl) hB.b2)) ?_
 intro a100 hA100
 clear hA99 a99
 refine Xr 3 hA100 rfl rfl rfl (fun b w2 hB => Zo hB (Yj Tryz.func53 (by kernel_rfl) rfl hA100.g2 hA100.g1 hA100.g0 rfl) h53 (Vy _ _ (⟨pa1, pa2, pa3⟩ : Fr) (⟨pb1, pb2, pb3⟩ : Fr) w2 hB.sees.sum)) ?_
 intro a101 hA101
 clear hA100 a100
 refine Yy hA101 rfl rfl (fun b w2 hB => Zv hB (Zn (f := (⟨pc1, pc2, pc3⟩ : Fr)) (hA101.lw r11 rfl) hB.b1)) ?_
 intro a102 hA102
 clear hA101 a101
 refine Xr 3 hA102 rfl rfl rfl (fun b w2 hB => Zo hB (Yj Tryz.func54 (by kernel_rfl) rfl hA102.g2 hA102.g1 hA102.g0 rfl) h103 (Wf _ _ v53 (⟨pc1, pc2, pc3⟩ : Fr) w2 hB.sees.sum)) ?_
 intro a103 hA103
 clear hA102 a102
 refine Yy hA103 rfl rfl (fun b w2 hB => Zv hB (Zn (f := (⟨pd1, pd2, pd3⟩ : Fr)) (hA103.lw r12 rfl) hB.b0)) ?_
 intro a104 hA104
 clear hA103 a103
 refine Xr 3 hA104 rfl rfl rfl (fun b w2 hB => Zo hB (Yj Tryz.func54 (by kernel_rfl) rfl hA104.g2 hA104.g1 hA104.g0 rfl) h105 (Wf _ _ v103 (⟨pd1, pd2, pd3⟩ : Fr) w2 hB.sees.sum)) ?_
 intro a105 hA105
 clear hA104 a104
 refine Xr 2 hA105 rfl rfl rfl (fun b w2 hB => Zo hB (Qp Tryz.func98 (by kernel_rfl) rfl hA105.g1 hA105.g0) h106 (Pj _ _ _ v105 w2 hB.sees.sum hB.b8 hne (fun w3 h3 => hGl w3 (hB.sees.sm.trans h3)))) ?_
 intro a106 hA106
 clear hA105 a105
 refine Yy hA106 rfl rfl (fun b w2 hB => Ys hB (hA106.lw r14 rfl)) ?_
 intro a107 hA107
 clear hA106 a106
 refine Yy hA107 rfl rfl (fun b w2 hB => Zv hB (Zc (hA107.lw r4 rfl) hB.b8)) ?_
 intro a108 hA108
 clear hA107 a107
 refine Yy hA108 rfl rfl (fun b w2 hB => Zv hB (Zc (hA108.lw r4 rfl) hB.b8)) ?_
 intro a109 hA109
 clear hA108 a108
 refine Yy hA109 rfl rfl (fun b w2 hB => Zv hB (Zc (hA109.lw r4 rfl) hB.b8)) ?_
 intro a110 hA110
 clear hA109 a109
 refine Yy hA110 rfl rfl (fun b w2 hB => Zv hB (Zn (f := (⟨pa1, pa2, pa3⟩ : Fr)) (hA110.lw r9 rfl) hB.b3)) ?_
 intro a111 hA111
 clear hA110 a110
 refine Yy hA111 rfl rfl (fun b w2 hB => Zv hB (Zn (f := (⟨pb1, pb2, pb3⟩ : Fr)) (hA111.lw r10 rfl) hB.b2)) ?_
 intro a112 hA112
 clear hA111 a111
 refine Xr 3 hA112 rfl rfl rfl (fun b w2 hB => Zo hB (Yj Tryz.func54 (by kernel_rfl) rfl hA112.g2 hA112.g1 hA112.g0 rfl) h65 (Wf _ _ (⟨pa1, pa2, pa3⟩ : Fr) (⟨pb1, pb2, pb3⟩ : Fr) w2 hB.sees.sum)) ?_
 intro a113 hA113
 clear hA112 a112
 refine Yy hA113 rfl rfl (fun b w2 hB => Zv hB (Zn (f := (⟨pc1, pc2, pc3⟩ : Fr)) (hA113.lw r11 rfl) hB.b1)) ?_
 intro a114 hA114
 clear hA113 a113
 refine Xr 3 hA114 rfl rfl rfl (fun b w2 hB => Zo hB (Yj Tryz.func54 (by kernel_rfl) rfl hA114.g2 hA114.g1 hA114.g0 rfl) h115 (Wf _ _ v65 (⟨pc1, pc2, pc3⟩ : Fr) w2 hB.sees.sum)) ?_
 intro a115 hA115
 clear hA114 a114
 refine Yy hA115 rfl rfl (fun b w2 hB => Zv hB (Zn (f := (⟨pd1, pd2, pd3⟩ : Fr)) (hA115.lw r12 rfl) hB.b0)) ?_
 intro a116 hA116
 clear hA115 a115
 refine Xr 3 hA116 rfl rfl rfl (fun b w2 hB => Zo hB (Yj Tryz.func53 (by kernel_rfl) rfl hA116.g2 hA116.g1 hA116.g0 rfl) h117 (Vy _ _ v115 (⟨pd1, pd2, pd3⟩ : Fr) w2 hB.sees.sum)) ?_
 intro a117 hA117
 clear hA116 a116
 refine Xr 2 hA117 rfl rfl rfl (fun b w2 hB => Zo hB (Qp Tryz.func98 (by kernel_rfl) rfl hA117.g1 hA117.g0) h118 (Pj _ _ _ v117 w2 hB.sees.sum hB.b8 hne (fun w3 h3 => hGl w3 (hB.sees.sm.trans h3)))) ?_
 intro a118 hA118
 clear hA117 a117
 refine Yy hA118 rfl rfl (fun b w2 hB => Zv hB (Zc (hA118.lw r4 rfl) hB.b8)) ?_
 intro a119 hA119
 clear hA118 a118
 refine Yy hA119 rfl rfl (fun b w2 hB => Zv hB (Zc (hA119.lw r4 rfl) hB.b8)) ?_
 intro a120 hA120
 clear hA119 a119
 refine Yy hA120 rfl rfl (fun b w2 hB => Ys hB (hA120.lw r13 rfl)) ?_
 intro a121 hA121
 clear hA120 a120
 refine Yy hA121 rfl rfl (fun b w2 hB => Zv hB (Zn (f := (⟨a1, a2, a3⟩ : Fr)) (hA121.lw r5 rfl) hB.b7)) ?_
 intro a122 hA122
 clear hA121 a121
 refine Yy hA122 rfl rfl (fun b w2 hB => Zv hB (Zn (f := (⟨b1, b2, b3⟩ : Fr)) (hA122.lw r6 rfl) hB.b6)) ?_
 intro a123 hA123
 clear hA122 a122
 refine Xr 3 hA123 rfl rfl rfl (fun b w2 hB => Zo hB (Yi Tryz.func97 (by kernel_rfl) rfl hA123.g2 hA123.g1 hA123.g0) h76 (Xz _ _ _ (⟨a1, a2, a3⟩ : Fr) (⟨b1, b2, b3⟩ : Fr) w2 hB.sees.sum hB.b8 hne)) ?_
 intro a124 hA124
 clear hA123 a123
 refine Yy hA124 rfl rfl (fun b w2 hB => Ys hB (hA124.lw r13 rfl)) ?_
 intro a125 hA125
 clear hA124 a124
 refine Yy hA125 rfl rfl (fun b w2 hB => Zv hB (Zn (f := (⟨c1, c2, c3⟩ : Fr)) (hA125.lw r7 rfl) hB.b5)) ?_
 intro a126 hA126
 clear hA125 a125
 refine Yy hA126 rfl rfl (fun b w2 hB => Zv hB (Zn (f := (⟨d1, d2, d3⟩ : Fr)) (hA126.lw r8 rfl) hB.b4)) ?_
 intro a127 hA127
 clear hA126 a126
 refine Xr 3 hA127 rfl rfl rfl (fun b w2 hB => Zo hB (Yi Tryz.func97 (by kernel_rfl) rfl hA127.g2 hA127.g1 hA127.g0) h80 (Xz _ _ _ (⟨c1, c2, c3⟩ : Fr) (⟨d1, d2, d3⟩ : Fr) w2 hB.sees.sum hB.b8 hne)) ?_
 intro a128 hA128
 clear hA127 a127
 refine Xr 3 hA128 rfl rfl rfl (fun b w2 hB => Zo hB (Yj Tryz.func54 (by kernel_rfl) rfl hA128.g2 hA128.g1 hA128.g0 rfl) h129 (Wf _ _ v76 v80 w2 hB.sees.sum)) ?_
 intro a129 hA129
 clear hA128 a128
 refine Xr 2 hA129 rfl rfl rfl (fun b w2 hB => Zo hB (Wx Tryz.func55 (by kernel_rfl) rfl hA129.g1 hA129.g0 rfl) h130 (Tt _ _ v129 w2 hB.sees.sum)) ?_
 intro a130 hA130
 clear hA129 a129
 refine Yy hA130 rfl rfl (fun b w2 hB => Zv hB (Zc (hA130.lw r4 rfl) hB.b8)) ?_
 intro a131 hA131
 clear hA130 a130
 refine Yy hA131 rfl rfl (fun b w2 hB => Zv hB (Zc (hA131.lw r4 rfl) hB.b8)) ?_
 intro a132 hA132
 clear hA131 a131
 refine Yy hA132 rfl rfl (fun b w2 hB => Ys hB (hA132.lw r13 rfl)) ?_
 intro a133 hA133
 clear hA132 a132
 refine Yy hA133 rfl rfl (fun b w2 hB => Zv hB (Zn (f := (⟨b1, b2, b3⟩ : Fr)) (hA133.lw r6 rfl) hB.b6)) ?_
 intro a134 hA134
 clear hA133 a133
 refine Yy hA134 rfl rfl (fun b w2 hB => Zv hB (Zn (f := (⟨a1, a2, a3⟩ : Fr)) (hA134.lw r5 rfl) hB.b7)) ?_
 intro a135 hA135
 clear hA134 a134
 refine Xr 3 hA135 rfl rfl rfl (fun b w2 hB => Zo hB (Yi Tryz.func97 (by kernel_rfl) rfl hA135.g2 hA135.g1 hA135.g0) h88 (Xz _ _ _ (⟨b1, b2, b3⟩ : Fr) (⟨a1, a2, a3⟩ : Fr) w2 hB.sees.sum hB.b8 hne)) ?_
 intro a136 hA136
 clear hA135 a135
 refine Yy hA136 rfl rfl (fun b w2 hB => Ys hB (hA136.lw r13 rfl)) ?_
 intro a137 hA137
 clear hA136 a136
 refine Yy hA137 rfl rfl (fun b w2 hB => Zv hB (Zn (f := (⟨d1, d2, d3⟩ : Fr)) (hA137.lw r8 rfl) hB.b4)) ?_
 intro a138 hA138
 clear hA137 a137
 refine Yy hA138 rfl rfl (fun b w2 hB => Zv hB (Zn (f := (⟨c1, c2, c3⟩ : Fr)) (hA138.lw r7 rfl) hB.b5)) ?_
 intro a139 hA139
 clear hA138 a138
 refine Xr 3 hA139 rfl rfl rfl (fun b w2 hB => Zo hB (Yi Tryz.func97 (by kernel_rfl) rfl hA139.g2 hA139.g1 hA139.g0) h92 (Xz _ _ _ (⟨d1, d2, d3⟩ : Fr) (⟨c1, c2, c3⟩ : Fr) w2 hB.sees.sum hB.b8 hne)) ?_
 intro a140 hA140
 clear hA139 a139
 refine Xr 3 hA140 rfl rfl rfl (fun b w2 hB => Zo hB (Yj Tryz.func54 (by kernel_rfl) rfl hA140.g2 hA140.g1 hA140.g0 rfl) h141 (Wf _ _ v88 v92 w2 hB.sees.sum)) ?_
 intro a141 hA141
 clear hA140 a140
 refine Xr 2 hA141 rfl rfl rfl (fun b w2 hB => Zo hB (Wx Tryz.func56 (by kernel_rfl) rfl hA141.g1 hA141.g0 rfl) h142 (Ts _ _ v141 w2 hB.sees.sum)) ?_
 intro a142 hA142
 clear hA141 a141
 refine Yy hA142 rfl rfl (fun b w2 hB => Zv hB (Zc (hA142.lw r4 rfl) hB.b8)) ?_
 intro a143 hA143
 clear hA142 a142
 refine Yy hA143 rfl rfl (fun b w2 hB => Zv hB (Zc (hA143.lw r4 rfl) hB.b8)) ?_
 intro a144 hA144
 clear hA143 a143
 refine Yy hA144 rfl rfl (fun b w2 hB => Ys hB (hA144.lw r13 rfl)) ?_
 intro a145 hA145
 clear hA144 a144
 refine Yy hA145 rfl rfl (fun b w2 hB => Zv hB (Zn (f := (⟨a1, a2, a3⟩ : Fr)) (hA145.lw r5 rfl) hB.b7)) ?_
 intro a146 hA146
 clear hA145 a145
 refine Yy hA146 rfl rfl (fun b w2 hB => Zv hB (Zn (f := (⟨c1, c2, c3⟩ : Fr)) (hA146.lw r7 rfl) hB.b5)) ?_
 intro a147 hA147
 clear hA146 a146
 refine Xr 3 hA147 rfl rfl rfl (fun b w2 hB => Zo hB (Yi Tryz.func97 (by kernel_rfl) rfl hA147.g2 hA147.g1 hA147.g0) h148 (Xz _ _ _ (⟨a1, a2, a3⟩ : Fr) (⟨c1, c2, c3⟩ : Fr) w2 hB.sees.sum hB.b8 hne)) ?_
 intro a148 hA148
 clear hA147 a147
 refine Yy hA148 rfl rfl (fun b w2 hB => Ys hB (hA148.lw r13 rfl)) ?_
 intro a149 hA149
 clear hA148 a148
 refine Yy hA149 rfl rfl (fun b w2 hB => Zv hB (Zn (f := (⟨b1, b2, b3⟩ : Fr)) (hA149.lw r6 rfl) hB.b6)) ?_
 intro a150 hA150
 clear hA149 a149
 refine Yy hA150 rfl rfl (fun b w2 hB => Zv hB (Zn (f := (⟨d1, d2, d3⟩ : Fr)) (hA150.lw r8 rfl) hB.b4)) ?_
 intro a151 hA151
 clear hA150 a150
 refine Xr 3 hA151 rfl rfl rfl (fun b w2 hB => Zo hB (Yi Tryz.func97 (by kernel_rfl) rfl hA151.g2 hA151.g1 hA151.g0) h152 (Xz _ _ _ (⟨b1, b2, b3⟩ : Fr) (⟨d1, d2, d3⟩ : Fr) w2 hB.sees.sum hB.b8 hne)) ?_
 intro a152 hA152
 clear hA151 a151
 refine Xr 3 hA152 rfl rfl rfl (fun b w2 hB => Zo hB (Yj Tryz.func53 (by kernel_rfl) rfl hA152.g2 hA152.g1 hA152.g0 rfl) h153 (Vy _ _ v148 v152 w2 hB.sees.sum)) ?_
 intro a153 hA153
 clear hA152 a152
 refine Xr 2 hA153 rfl rfl rfl (fun b w2 hB => Zo hB (Wx Tryz.func55 (by kernel_rfl) rfl hA153.g1 hA153.g0 rfl) h154 (Tt _ _ v153 w2 hB.sees.sum)) ?_
 intro a154 hA154
 clear hA153 a153
 refine Yy hA154 rfl rfl (fun b w2 hB => Zv hB (Zc (hA154.lw r4 rfl) hB.b8)) ?_
 intro a155 hA155
 clear hA154 a154
 refine Yy hA155 rfl rfl (fun b w2 hB => Zv hB (Zc (hA155.lw r4 rfl) hB.b8)) ?_
 intro a156 hA156
 clear hA155 a155
 refine Yy hA156 rfl rfl (fun b w2 hB => Ys hB (hA156.lw r13 rfl)) ?_
 intro a157 hA157
 clear hA156 a156
 refine Yy hA157 rfl rfl (fun b w2 hB => Zv hB (Zn (f := (⟨a1, a2, a3⟩ : Fr)) (hA157.lw r5 rfl) hB.b7)) ?_
 intro a158 hA158
 clear hA157 a157
 refine Yy hA158 rfl rfl (fun b w2 hB => Zv hB (Zn (f := (⟨c1, c2, c3⟩ : Fr)) (hA158.lw r7 rfl) hB.b5)) ?_
 intro a159 hA159
 clear hA158 a158
 refine Xr 3 hA159 rfl rfl rfl (fun b w2 hB => Zo hB (Yi Tryz.func97 (by kernel_rfl) rfl hA159.g2 hA159.g1 hA159.g0) h148 (Xz _ _ _ (⟨a1, a2, a3⟩ : Fr) (⟨c1, c2, c3⟩ : Fr) w2 hB.sees.sum hB.b8 hne)) ?_
 intro a160 hA160
 clear hA159 a159
 refine Yy hA160 rfl rfl (fun b w2 hB => Ys hB (hA160.lw r13 rfl)) ?_
 intro a161 hA161
 clear hA160 a160
 refine Yy hA161 rfl rfl (fun b w2 hB => Zv hB (Zn (f := (⟨b1, b2, b3⟩ : Fr)) (hA161.lw r6 rfl) hB.b6)) ?_
 intro a162 hA162
 clear hA161 a161
 refine Yy hA162 rfl rfl (fun b w2 hB => Zv hB (Zn (f := (⟨d1, d2, d3⟩ : Fr)) (hA162.lw r8 rfl) hB.b4)) ?_
 intro a163 hA163
 clear hA162 a162
 refine Xr 3 hA163 rfl rfl rfl (fun b w2 hB => Zo hB (Yi Tryz.func97 (by kernel_rfl) rfl hA163.g2 hA163.g1 hA163.g0) h152 (Xz _ _ _ (⟨b1, b2, b3⟩ : Fr) (⟨d1, d2, d3⟩ : Fr) w2 hB.sees.sum hB.b8 hne)) ?_
 intro a164 hA164
 clear hA163 a163
 refine Xr 3 hA164 rfl rfl rfl (fun b w2 hB => Zo hB (Yj Tryz.func54 (by kernel_rfl) rfl hA164.g2 hA164.g1 hA164.g0 rfl) h165 (Wf _ _ v148 v152 w2 hB.sees.sum)) ?_
 intro a165 hA165
 clear hA164 a164
 refine Xr 2 hA165 rfl rfl rfl (fun b w2 hB => Zo hB (Wx Tryz.func55 (by kernel_rfl) rfl hA165.g1 hA165.g0 rfl) h166 (Tt _ _ v165 w2 hB.sees.sum)) ?_
 intro a166 hA166
 clear hA165 a165
 refine Yy hA166 rfl rfl (fun b w2 hB => Zv hB (Zc (hA166.lw r4 rfl) hB.b8)) ?_
 intro a167 hA167
 clear hA166 a166
 refine Yy hA167 rfl rfl (fun b w2 hB => Zv hB (Zc (hA167.lw r4 rfl) hB.b8)) ?_
 intro a168 hA168
 clear hA167 a167
 refine Yy hA168 rfl rfl (fun b w2 hB => Ys hB (hA168.lw r13 rfl)) ?_
 intro a169 hA169
 clear hA168 a168
 refine Yy hA169 rfl rfl (fun b w2 hB => Zv hB (Zn (f := (⟨a1, a2, a3⟩ : Fr)) (hA169.lw r5 rfl) hB.b7)) ?_
 intro a170 hA170
 clear hA169 a169
 refine Yy hA170 rfl rfl (fun b w2 hB => Zv hB (Zn (f := (⟨d1, d2, d3⟩ : Fr)) (hA170.lw r8 rfl) hB.b4)) ?_
 intro a171 hA171
 clear hA170 a170
 refine Xr 3 hA171 rfl rfl rfl (fun b w2 hB => Zo hB (Yi Tryz.func97 (by kernel_rfl) rfl hA171.g2 hA171.g1 hA171.g0) h172 (Xz _ _ _ (⟨a1, a2, a3⟩ : Fr) (⟨d1, d2, d3⟩ : Fr) w2 hB.sees.sum hB.b8 hne)) ?_
 intro a172 hA172
 clear hA171 a171
 refine Yy hA172 rfl rfl (fun b w2 hB => Ys hB (hA172.lw r13 rfl)) ?_
 intro a173 hA173
 clear hA172 a172
 refine Yy hA173 rfl rfl (fun b w2 hB => Zv hB (Zn (f := (⟨b1, b2, b3⟩ : Fr)) (hA173.lw r6 rfl) hB.b6)) ?_
 intro a174 hA174
 clear hA173 a173
 refine Yy hA174 rfl rfl (fun b w2 hB => Zv hB (Zn (f := (⟨c1, c2, c3⟩ : Fr)) (hA174.lw r7 rfl) hB.b5)) ?_
 intro a175 hA175
 clear hA174 a174
 refine Xr 3 hA175 rfl rfl rfl (fun b w2 hB => Zo hB (Yi Tryz.func97 (by kernel_rfl) rfl hA175.g2 hA175.g1 hA175.g0) h176 (Xz _ _ _ (⟨b1, b2, b3⟩ : Fr) (⟨c1, c2, c3⟩ : Fr) w2 hB.sees.sum hB.b8 hne)) ?_
 intro a176 hA176
 clear hA175 a175
 refine Xr 3 hA176 rfl rfl rfl (fun b w2 hB => Zo hB (Yj Tryz.func53 (by kernel_rfl) rfl hA176.g2 hA176.g1 hA176.g0 rfl) h177 (Vy _ _ v172 v176 w2 hB.sees.sum)) ?_
 intro a177 hA177
 clear hA176 a176
 refine Xr 2 hA177 rfl rfl rfl (fun b w2 hB => Zo hB (Wx Tryz.func55 (by kernel_rfl) rfl hA177.g1 hA177.g0 rfl) h178 (Tt _ _ v177 w2 hB.sees.sum)) ?_
 intro a178 hA178
 clear hA177 a177
 refine Yy hA178 rfl rfl (fun b w2 hB => Zv hB (Zc (hA178.lw r4 rfl) hB.b8)) ?_
 intro a179 hA179
 clear hA178 a178
 refine Yy hA179 rfl rfl (fun b w2 hB => Zv hB (Zc (hA179.lw r4 rfl) hB.b8)) ?_
 intro a180 hA180
 clear hA179 a179
 refine Yy hA180 rfl rfl (fun b w2 hB => Ys hB (hA180.lw r13 rfl)) ?_
 intro a181 hA181
 clear hA180 a180
 refine Yy hA181 rfl rfl (fun b w2 hB => Zv hB (Zn (f := (⟨b1, b2, b3⟩ : Fr)) (hA181.lw r6 rfl) hB.b6)) ?_
 intro a182 hA182
 clear hA181 a181
 refine Yy hA182 rfl rfl (fun b w2 hB => Zv hB (Zn (f := (⟨c1, c2, c3⟩ : Fr)) (hA182.lw r7 rfl) hB.b5)) ?_
 intro a183 hA183
 clear hA182 a182
 refine Xr 3 hA183 rfl rfl rfl (fun b w2 hB => Zo hB (Yi Tryz.func97 (by kernel_rfl) rfl hA183.g2 hA183.g1 hA183.g0) h176 (Xz _ _ _ (⟨b1, b2, b3⟩ : Fr) (⟨c1, c2, c3⟩ : Fr) w2 hB.sees.sum hB.b8 hne)) ?_
 intro a184 hA184
 clear hA183 a183
 refine Yy hA184 rfl rfl (fun b w2 hB => Ys hB (hA184.lw r13 rfl)) ?_
 intro a185 hA185
 clear hA184 a184
 refine Yy hA185 rfl rfl (fun b w2 hB => Zv hB (Zn (f := (⟨a1, a2, a3⟩ : Fr)) (hA185.lw r5 rfl) hB.b7)) ?_
 intro a186 hA186
 clear hA185 a185
 refine Yy hA186 rfl rfl (fun b w2 hB => Zv hB (Zn (f := (⟨d1, d2, d3⟩ : Fr)) (hA186.lw r8 rfl) hB.b4)) ?_
 intro a187 hA187
 clear hA186 a186
 refine Xr 3 hA187 rfl rfl rfl (fun b w2 hB => Zo hB (Yi Tryz.func97 (by kernel_rfl) rfl hA187.g2 hA187.g1 hA187.g0) h172 (Xz _ _ _ (⟨a1, a2, a3⟩ : Fr) (⟨d1, d2, d3⟩ : Fr) w2 hB.sees.sum hB.b8 hne)) ?_
 intro a188 hA188
 clear hA187 a187
 refine Xr 3 hA188 rfl rfl rfl (fun b w2 hB => Zo hB (Yj Tryz.func54 (by kernel_rfl) rfl hA188.g2 hA188.g1 hA188.g0 rfl) h189 (Wf _ _ v176 v172 w2 hB.sees.sum)) ?_
 intro a189 hA189
 clear hA188 a188
 refine Xr 2 hA189 rfl rfl rfl (fun b w2 hB => Zo hB (Wx Tryz.func56 (by kernel_rfl) rfl hA189.g1 hA189.g0 rfl) h190 (Ts _ _ v189 w2 hB.sees.sum)) ?_
 intro a190 hA190
 clear hA189 a189
 refine Yy hA190 rfl rfl (fun b w2 hB => Zv hB (Zc (hA190.lw r4 rfl) hB.b8)) ?_
 intro a191 hA191
 clear hA190 a190
 refine Yy hA191 rfl rfl (fun b w2 hB => Zv hB (Zc (hA191.lw r4 rfl) hB.b8)) ?_
 intro a192 hA192
 clear hA191 a191
 refine Yy hA192 rfl rfl (fun b w2 hB => Ys hB (hA192.lw r13 rfl)) ?_
 intro a193 hA193
 clear hA192 a192
 refine Yy hA193 rfl rfl (fun b w2 hB => Zv hB (Zn (f := (⟨a1, a2, a3⟩ : Fr)) (hA193.lw r5 rfl) hB.b7)) ?_
 intro a194 hA194
 clear hA193 a193
 refine Yy hA194 rfl rfl (fun b w2 hB => Zv hB (Zn (f := (⟨c1, c2, c3⟩ : Fr)) (hA194.lw r7 rfl) hB.b5)) ?_
 intro a195 hA195
 clear hA194 a194
 refine Xr 3 hA195 rfl rfl rfl (fun b w2 hB => Zo hB (Yi Tryz.func97 (by kernel_rfl) rfl hA195.g2 hA195.g1 hA195.g0) h148 (Xz _ _ _ (⟨a1, a2, a3⟩ : Fr) (⟨c1, c2, c3⟩ : Fr) w2 hB.sees.sum hB.b8 hne)) ?_
 intro a196 hA196
 clear hA195 a195
 refine Yy hA196 rfl rfl (fun b w2 hB => Ys hB (hA196.lw r13 rfl)) ?_
 intro a197 hA197
 clear hA196 a196
 refine Yy hA197 rfl rfl (fun b w2 hB => Zv hB (Zn (f := (⟨b1, b2, b3⟩ : Fr)) (hA197.lw r6 rfl) hB.b6)) ?_
 intro a198 hA198
 clear hA197 a197
 refine Yy hA198 rfl rfl (fun b w2 hB => Zv hB (Zn (f := (⟨d1, d2, d3⟩ : Fr)) (hA198.lw r8 rfl) hB.b4)) ?_
 intro a199 hA199
 clear hA198 a198
 refine Xr 3 hA199 rfl rfl rfl (fun b w2 hB => Zo hB (Yi Tryz.func97 (by kernel_rfl) rfl hA199.g2 hA199.g1 hA199.g0) h152 (Xz _ _ _ (⟨b1, b2, b3⟩ : Fr) (⟨d1, d2, d3⟩ : Fr) w2 hB.sees.sum hB.b8 hne)) ?_
 intro a200 hA200
 clear hA199 a199
 refine Xr 3 hA200 rfl rfl rfl (fun b w2 hB => Zo hB (Yj Tryz.func53 (by kernel_rfl) rfl hA200.g2 hA200.g1 hA200.g0 rfl) h153 (Vy _ _ v148 v152 w2 hB.sees.sum)) ?_
 intro a201 hA201
 clear hA200 a200
 refine Xr 2 hA201 rfl rfl rfl (fun b w2 hB => Zo hB (Wx Tryz.func56 (by kernel_rfl) rfl hA201.g1 hA201.g0 rfl) h202 (Ts _ _ v153 w2 hB.sees.sum)) ?_
 intro a202 hA202
 clear hA201 a201
 refine Yy hA202 rfl rfl (fun b w2 hB => Zv hB (Zc (hA202.lw r4 rfl) hB.b8)) ?_
 intro a203 hA203
 clear hA202 a202
 refine Yy hA203 rfl rfl (fun b w2 hB => Zv hB (Zc (hA203.lw r4 rfl) hB.b8)) ?_
 intro a204 hA204
 clear hA203 a203
 refine Yy hA204 rfl rfl (fun b w2 hB => Ys hB (hA204.lw r13 rfl)) ?_
 intro a205 hA205
 clear hA204 a204
 refine Yy hA205 rfl rfl (fun b w2 hB => Zv hB (Zn (f := (⟨a1, a2, a3⟩ : Fr)) (hA205.lw r5 rfl) hB.b7)) ?_
 intro a206 hA206
 clear hA205 a205
 refine Yy hA206 rfl rfl (fun b w2 hB => Zv hB (Zn (f := (⟨c1, c2, c3⟩ : Fr)) (hA206.lw r7 rfl) hB.b5)) ?_
 intro a207 hA207
 clear hA206 a206
 refine Xr 3 hA207 rfl rfl rfl (fun b w2 hB => Zo hB (Yi Tryz.func97 (by kernel_rfl) rfl hA207.g2 hA207.g1 hA207.g0) h148 (Xz _ _ _ (⟨a1, a2, a3⟩ : Fr) (⟨c1, c2, c3⟩ : Fr) w2 hB.sees.sum hB.b8 hne)) ?_
 intro a208 hA208
 clear hA207 a207
 refine Yy hA208 rfl rfl (fun b w2 hB => Ys hB (hA208.lw r13 rfl)) ?_
 intro a209 hA209
 clear hA208 a208
 refine Yy hA209 rfl rfl (fun b w2 hB => Zv hB (Zn (f := (⟨b1, b2, b3⟩ : Fr)) (hA209.lw r6 rfl) hB.b6)) ?_
 intro a210 hA210
 clear hA209 a209
 refine Yy hA210 rfl rfl (fun b w2 hB => Zv hB (Zn (f := (⟨d1, d2, d3⟩ : Fr)) (hA210.lw r8 rfl) hB.b4)) ?_
 intro a211 hA211
 clear hA210 a210
 refine Xr 3 hA211 rfl rfl rfl (fun b w2 hB => Zo hB (Yi Tryz.func97 (by kernel_rfl) rfl hA211.g2 hA211.g1 hA211.g0) h152 (Xz _ _ _ (⟨b1, b2, b3⟩ : Fr) (⟨d1, d2, d3⟩ : Fr) w2 hB.sees.sum hB.b8 hne)) ?_
 intro a212 hA212
 clear hA211 a211
 refine Xr 3 hA212 rfl rfl rfl (fun b w2 hB => Zo hB (Yj Tryz.func54 (by kernel_rfl) rfl hA212.g2 hA212.g1 hA212.g0 rfl) h165 (Wf _ _ v148 v152 w2 hB.sees.sum)) ?_
 intro a213 hA213
 clear hA212 a212
 refine Xr 2 hA213 rfl rfl rfl (fun b w2 hB => Zo hB (Wx Tryz.func56 (by kernel_rfl) rfl hA213.g1 hA213.g0 rfl) h214 (Ts _ _ v165 w2 hB.sees.sum)) ?_
 intro a214 hA214
 clear hA213 a213
 refine Yy hA214 rfl rfl (fun b w2 hB => Zv hB (Zc (hA214.lw r4 rfl) hB.b8)) ?_
 intro a215 hA215
 clear hA214 a214
 refine Yy hA215 rfl rfl (fun b w2 hB => Zv hB (Zc (hA215.lw r4 rfl) hB.b8)) ?_
 intro a216 hA216
 clear hA215 a215
 refine Yy hA216 rfl rfl (fun b w2 hB => Ys hB (hA216.lw r13 rfl)) ?_
 intro a217 hA217
 clear hA216 a216
 refine Yy hA217 rfl rfl (fun b w2 hB => Zv hB (Zn (f := (⟨a1, a2, a3⟩ : Fr)) (hA217.lw r5 rfl) hB.b7)) ?_
 intro a218 hA218
 clear hA217 a217
 refine Yy hA218 rfl rfl (fun b w2 hB => Zv hB (Zn (f := (⟨d1, d2, d3⟩ : Fr)) (hA218.lw r8 rfl) hB.b4)) ?_
 intro a219 hA219
 clear hA218 a218
 refine Xr 3 hA219 rfl rfl rfl (fun b w2 hB => Zo hB (Yi Tryz.func97 (by kernel_rfl) rfl hA219.g2 hA219.g1 hA219.g0) h172 (Xz _ _ _ (⟨a1, a2, a3⟩ : Fr) (⟨d1, d2, d3⟩ : Fr) w2 hB.sees.sum hB.b8 hne)) ?_
 intro a220 hA220
 clear hA219 a219
 refine Yy hA220 rfl rfl (fun b w2 hB => Ys hB (hA220.lw r13 rfl)) ?_
 intro a221 hA221
 clear hA220 a220
 refine Yy hA221 rfl rfl (fun b w2 hB => Zv hB (Zn (f := (⟨b1, b2, b3⟩ : Fr)) (hA221.lw r6 rfl) hB.b6)) ?_
 intro a222 hA222
 clear hA221 a221
 refine Yy hA222 rfl rfl (fun b w2 hB => Zv hB (Zn (f := (⟨c1, c2, c3⟩ : Fr)) (hA222.lw r7 rfl) hB.b5)) ?_
 intro a223 hA223
 clear hA222 a222
 refine Xr 3 hA223 rfl rfl rfl (fun b w2 hB => Zo hB (Yi Tryz.func97 (by kernel_rfl) rfl hA223.g2 hA223.g1 hA223.g0) h176 (Xz _ _ _ (⟨b1, b2, b3⟩ : Fr) (⟨c1, c2, c3⟩ : Fr) w2 hB.sees.sum hB.b8 hne)) ?_
 intro a224 hA224
 clear hA223 a223
 refine Xr 3 hA224 rfl rfl rfl (fun b w2 hB => Zo hB (Yj Tryz.func53 (by kernel_rfl) rfl hA224.g2 hA224.g1 hA224.g0 rfl) h177 (Vy _ _ v172 v176 w2 hB.sees.sum)) ?_
 intro a225 hA225
 clear hA224 a224
 refine Xr 2 hA225 rfl rfl rfl (fun b w2 hB => Zo hB (Wx Tryz.func56 (by kernel_rfl) rfl hA225.g1 hA225.g0 rfl) h226 (Ts _ _ v177 w2 hB.sees.sum)) ?_
 intro a226 hA226
 clear hA225 a225
 refine Yy hA226 rfl rfl (fun b w2 hB => Zv hB (Zc (hA226.lw r4 rfl) hB.b8)) ?_
 intro a227 hA227
 clear hA226 a226
 refine Yy hA227 rfl rfl (fun b w2 hB => Zv hB (Zc (hA227.lw r4 rfl) hB.b8)) ?_
 intro a228 hA228
 clear hA227 a227
 refine Yy hA228 rfl rfl (fun b w2 hB => Ys hB (hA228.lw r13 rfl)) ?_
 intro a229 hA229
 clear hA228 a228
 refine Yy hA229 rfl rfl (fun b w2 hB => Zv hB (Zn (f := (⟨a1, a2, a3⟩ : Fr)) (hA229.lw r5 rfl) hB.b7)) ?_
 intro a230 hA230
 clear hA229 a229
 refine Yy hA230 rfl rfl (fun b w2 hB => Zv hB (Zn (f := (⟨d1, d2, d3⟩ : Fr)) (hA230.lw r8 rfl) hB.b4)) ?_
 intro a231 hA231
 clear hA230 a230
 refine Xr 3 hA231 rfl rfl rfl (fun b w2 hB => Zo hB (Yi Tryz.func97 (by kernel_rfl) rfl hA231.g2 hA231.g1 hA231.g0) h172 (Xz _ _ _ (⟨a1, a2, a3⟩ : Fr) (⟨d1, d2, d3⟩ : Fr) w2 hB.sees.sum hB.b8 hne)) ?_
 intro a232 hA232
 clear hA231 a231
 refine Yy hA232 rfl rfl (fun b w2 hB => Ys hB (hA232.lw r13 rfl)) ?_
 intro a233 hA233
 clear hA232 a232
 refine Yy hA233 rfl rfl (fun b w2 hB => Zv hB (Zn (f := (⟨b1, b2, b3⟩ : Fr)) (hA233.lw r6 rfl) hB.b6)) ?_
 intro a234 hA234
 clear hA233 a233
 refine Yy hA234 rfl rfl (fun b w2 hB => Zv hB (Zn (f := (⟨c1, c2, c3⟩ : Fr)) (hA234.lw r7 rfl) hB.b5)) ?_
 intro a235 hA235
 clear hA234 a234
 refine Xr 3 hA235 rfl rfl rfl (fun b w2 hB => Zo hB (Yi Tryz.func97 (by kernel_rfl) rfl hA235.g2 hA235.g1 hA235.g0) h176 (Xz _ _ _ (⟨b1, b2, b3⟩ : Fr) (⟨c1, c2, c3⟩ : Fr) w2 hB.sees.sum hB.b8 hne)) ?_
 intro a236 hA236
 clear hA235 a235
 refine Xr 3 hA236 rfl rfl rfl (fun b w2 hB => Zo hB (Yj Tryz.func54 (by kernel_rfl) rfl hA236.g2 hA236.g1 hA236.g0 rfl) h237 (Wf _ _ v172 v176 w2 hB.sees.sum)) ?_
 intro a237 hA237
 clear hA236 a236
 refine Xr 2 hA237 rfl rfl rfl (fun b w2 hB => Zo hB (Wx Tryz.func55 (by kernel_rfl) rfl hA237.g1 hA237.g0 rfl) h238 (Tt _ _ v237 w2 hB.sees.sum)) ?_
 intro a238 hA238
 clear hA237 a237
 refine Rg (t := 239) (v := .agg (Zs [v58, v70, v82, v94, v106, v118, v130, v142, v154, v166, v178, v190, v202, v214, v226, v238])) (L := []) 16 hA238 rfl rfl rfl (by decide) (by decide) rfl (fun b w2 hB => Zv hB (run_build16 (hA238.get (58, _) (.tail _ (.tail _ (.tail _ (.tail _ (.tail _ (.tail _ (.tail _ (.tail _ (.tail _ (.tail _ (.tail _ (.tail _ (.tail _ (.tail _ (.tail _ (.head _))))))))))))))))) (hA238.get (70, _) (.tail _ (.tail _ (.tail _ (.tail _ (.tail _ (.tail _ (.tail _ (.tail _ (.tail _ (.tail _ (.tail _ (.tail _ (.tail _ (.tail _ (.head _)))))))))))))))) (hA238.get (82, _) (.tail _ (.tail _ (.tail _ (.tail _ (.tail _ (.tail _ (.tail _ (.tail _ (.tail _ (.tail _ (.tail _ (.tail _ (.tail _ (.head _))))))))))))))) (hA238.get (94, _) (.tail _ (.tail _ (.tail _ (.tail _ (.tail _ (.tail _ (.tail _ (.tail _ (.tail _ (.tail _ (.tail _ (.tail _ (.head _)))))))))))))) (hA238.get (106, _) (.tail _ (.tail _ (.tail _ (.tail _ (.tail _ (.tail _ (.tail _ (.tail _ (.tail _ (.tail _ (.tail _ (.head _))))))))))))) (hA238.get (118, _) (.tail _ (.tail _ (.tail _ (.tail _ (.tail _ (.tail _ (.tail _ (.tail _ (.tail _ (.tail _ (.head _)))))))))))) (hA238.get (130, _) (.tail _ (.tail _ (.tail _ (.tail _ (.tail _ (.tail _ (.tail _ (.tail _ (.tail _ (.head _))))))))))) (hA238.get (142, _) (.tail _ (.tail _ (.tail _ (.tail _ (.tail _ (.tail _ (.tail _ (.tail _ (.head _)))))))))) (hA238.get (154, _) (.tail _ (.tail _ (.tail _ (.tail _ (.tail _ (.tail _ (.tail _ (.head _))))))))) (hA238.get (166, _) (.tail _ (.tail _ (.tail _ (.tail _ (.tail _ (.tail _ (.head _)))))))) (hA238.get (178, _) (.tail _ (.tail _ (.tail _ (.tail _ (.tail _ (.head _))))))) (hA238.get (190, _) (.tail _ (.tail _ (.tail _ (.tail _ (.head _)))))) (hA238.get (202, _) (.tail _ (.tail _ (.tail _ (.head _))))) hA238.g2 hA238.g1 hA238.g0)) ?_
 intro a239 hA239
 clear hA238 a238
 refine Rg (t := 240) (v := .agg (Zs [v58, v70, v82, v94, v106, v118, v130, v142, v154, v166, v178, v190, v202, v214, v226, v238])) (L := []) 1 hA239 rfl rfl rfl (by decide) (by decide) rfl (fun b w2 hB => Zv hB (run_buildT hA239.g0)) ?_
 intro a240 hA240
 clear hA239 a239
 refine Zq ?_
 have hv := hA240.get (240, _) (.head _)
 simp only at hv
 refine ⟨fun i hi => ?_, fun i hi => ?_, fun i hi => ?_, fun gg wy hz hbx hne2 => ?_⟩
 ·obtain rfl : i = 0 := by omega
  exact ⟨_, rfl, makes_Table⟩
 ·obtain rfl : i = 0 := by omega
  refine ⟨_, rfl, ?_⟩
  simp only
  rw [hv]
  exact Zf (Yz rfl) rfl (Yw _) (fun _ _ _ hg h => h.setRow hg _)
 ·show 15 < _
  rw [hA240.size]
  decide
 obtain ⟨hgg, hbt⟩ := hbx 0 (by omega)
 simp only at hbt hgg
 refine (show wpList _ _ _ ([] : List Oper) (Act.put a240 (some 15) (.pointer (some ⟨gg 0, 0, none⟩))) wy from ?_)
 clear hbx hne2
 go_upto_region 7 with fail
 have hS3 := InS.join hS2 hz
 obtain ⟨e0, he0, hS4⟩ : ∃ e0, e0 = _ ∧ Zt w wy W0.heap.size e0 _ := ⟨_, rfl, hS3⟩
 have hT : Tr (⟨a1, a2, a3⟩ : Fr) (⟨b1, b2, b3⟩ : Fr) (⟨c1, c2, c3⟩ : Fr) (⟨d1, d2, d3⟩ : Fr) (⟨pa1, pa2, pa3⟩ : Fr) (⟨pb1, pb2, pb3⟩ : Fr) (⟨pc1, pc2, pc3⟩ : Fr) (⟨pd1, pd2, pd3⟩ : Fr) = [(v58, k58), (v70, k70), (v82, k82), (v94, k94), (v106, k106), (v118, k118), (v130, k130), (v142, k142), (v154, k154), (v166, k166), (v178, k178), (v190, k190), (v202, k202), (v214, k214), (v226, k226), (v238, k238)] := by simp only [Tr, h53, h55, h57, h58, h65, h67, h69, h70, h76, h80, h81, h82, h88, h92, h93, h94, h103, h105, h106, h115, h117, h118, h129, h130, h141, h142, h148, h152, h153, h154, h165, h166, h172, h176, h177, h178, h189, h190, h202, h214, h226, h237, h238]
 have hF : Has 246 0 r (Act.put a240 (some 15) (.pointer (some ⟨(gg 0), 0, none⟩))) [(15, .pointer (some ⟨(gg 0), 0, none⟩)), (4, .pointer (some ⟨wn.heap.size, 0, none⟩)), (2, .pointer (some ⟨(w.heap.size + 1), 0, none⟩))] := by
  refine ⟨by rw [Act.size_put]; exact hA240.size, fun t ht => absurd ht (Nat.not_lt_zero t), fun x hx => ?_, by rw [Act.defers_put']; exact hA240.def0⟩
  simp only [List.mem_cons, List.not_mem_nil, or_false] at hx
  rcases hx with rfl | rfl | rfl
  ·exact Act.eval_put_same _ _ _ (by rw [hA240.size]; decide)
  ·exact (Act.eval_put_ne _ _ _ _ (show (15 : Nat) ≠ 4 by decide)).trans ((hA240.low 4 (by decide)).trans r4)
  ·exact (Act.eval_put_ne _ _ _ _ (show (15 : Nat) ≠ 2 by decide)).trans ((hA240.low 2 (by decide)).trans r2)
 generalize Act.put a240 (some 15) (.pointer (some ⟨(gg 0), 0, none⟩)) = aF at hF ⊢
 have bRes := hS4.boxes.2.2.2.2.2.2.2.2.2.1
 have bPs := hS4.boxes.2.2.2.2.2.2.2.2.1
 rcases e0 with _ | _
 ·have hcond : (mv && List.all [(v58, k58), (v70, k70), (v82, k82), (v94, k94), (v106, k106), (v118, k118), (v130, k130), (v142, k142), (v154, k154), (v166, k166), (v178, k178), (v190, k190), (v202, k202), (v214, k214), (v226, k226), (v238, k238)] (·.2)) = true := by
   have he1 := he0.symm
   simp only [Bool.or_eq_false_iff, Bool.not_eq_eq_eq_not, Bool.not_false] at he1
   obtain ⟨⟨⟨⟨⟨⟨⟨⟨⟨⟨⟨⟨⟨⟨⟨⟨⟨⟨⟨⟨⟨⟨⟨⟨⟨⟨⟨⟨⟨⟨⟨⟨⟨⟨⟨⟨⟨⟨⟨⟨⟨⟨⟨⟨⟨⟨⟨⟨⟨⟨⟨⟨⟨⟨⟨⟨⟨⟨⟨⟨⟨⟨⟨⟨⟨⟨⟨⟨q_mv, q_a⟩, q_b⟩, q_c⟩, q_d⟩, q53⟩, q55⟩, q57⟩, q58⟩, q65⟩, q67⟩, q69⟩, q70⟩, q76⟩, q80⟩, q81⟩, q82⟩, q88⟩, q92⟩, q93⟩, q94⟩, -⟩, q103⟩, q105⟩, q106⟩, -⟩, q115⟩, q117⟩, q118⟩, -⟩, -⟩, q129⟩, q130⟩, -⟩, -⟩, q141⟩, q142⟩, q148⟩, q152⟩, q153⟩, q154⟩, -⟩, -⟩, q165⟩, q166⟩, q172⟩, q176⟩, q177⟩, q178⟩, -⟩, -⟩, q189⟩, q190⟩, -⟩, -⟩, -⟩, q202⟩, -⟩, -⟩, -⟩, q214⟩, -⟩, -⟩, -⟩, q226⟩, -⟩, -⟩, q237⟩, q238⟩ := he1
   simp only [List.all_cons, List.all_nil, q_mv, q106, q118, q130, q142, q154, q166, q178, q190, q202, q214, q226, q238, q58, q70, q82, q94, Bool.and_self, Bool.and_true]
  have HC := Kw hcond
  have HT := Kw hT
  clear hcond hT he0
  refine wp_region_lit ?_
  refine Vi (t := 241) (v := .pointer (some ⟨W0.heap.size, 0, none⟩)) (G := fun w2 => w2 = wy) (L := [(15, .pointer (some ⟨(gg 0), 0, none⟩)), (4, .pointer (some ⟨wn.heap.size, 0, none⟩)), (2, .pointer (some ⟨(w.heap.size + 1), 0, none⟩))]) 0 hF rfl rfl rfl (by decide) (by decide) rfl (Wc (Zc (hF.get (4, _) (.tail _ (.head _))) bPs) ⟨rfl, rfl⟩) ?_
  rintro a241 w2 hA1 rfl
  refine Vi (t := 242) (v := .agg (Zs [v58, v70, v82, v94, v106, v118, v130, v142, v154, v166, v178, v190, v202, v214, v226, v238])) (G := fun w3 => w3 = w2) (L := [(241, .pointer (some ⟨W0.heap.size, 0, none⟩)), (15, .pointer (some ⟨(gg 0), 0, none⟩)), (4, .pointer (some ⟨wn.heap.size, 0, none⟩)), (2, .pointer (some ⟨(w.heap.size + 1), 0, none⟩))]) 0 hA1 rfl rfl rfl (by decide) (by decide) rfl (Wc (Pi (hA1.get (15, _) (.tail _ (.head _))) hbt Tryz.underlying85 rfl (Yz rfl)) ⟨rfl, rfl⟩) ?_
  rintro a242 w3 hA2 rfl
  refine Vi (t := 243) (v := .tuple #[.agg (Zs [v58, v70, v82, v94, v106, v118, v130, v142, v154, v166, v178, v190, v202, v214, v226, v238]), .bool true]) (G := fun w4 => Ex w3 w4) (L := [(4, .pointer (some ⟨wn.heap.size, 0, none⟩)), (2, .pointer (some ⟨(w.heap.size + 1), 0, none⟩))]) 3 hA2 rfl rfl rfl (by decide) (by decide) rfl (Si (Wx Tryz.func100 (by kernel_rfl) rfl (hA2.get (241, _) (.tail _ (.head _))) (hA2.get (242, _) (.head _)) rfl) (Re _ _ rfl (Yw _) w3 hS4.sum) (fun e w4 hh => ⟨_, hh.1, rfl, hh.2⟩)) ?_
  rintro a243 w4 hA3 hx4
  refine Vi (t := 244) (v := .agg (Zs [v58, v70, v82, v94, v106, v118, v130, v142, v154, v166, v178, v190, v202, v214, v226, v238])) (G := fun w5 => w5 = w4) (L := [(243, .tuple #[.agg (Zs [v58, v70, v82, v94, v106, v118, v130, v142, v154, v166, v178, v190, v202, v214, v226, v238]), .bool true]), (4, .pointer (some ⟨wn.heap.size, 0, none⟩)), (2, .pointer (some ⟨(w.heap.size + 1), 0, none⟩))]) 0 hA3 rfl rfl rfl (by decide) (by decide) rfl (Wc (run_ext0 (hA3.get (243, _) (.head _))) ⟨rfl, rfl⟩) ?_
  rintro a244 w5 hA4 rfl
  refine Vi (t := 245) (v := .bool true) (G := fun w6 => w6 = w5) (L := [(244, .agg (Zs [v58, v70, v82, v94, v106, v118, v130, v142, v154, v166, v178, v190, v202, v214, v226, v238])), (243, .tuple #[.agg (Zs [v58, v70, v82, v94, v106, v118, v130, v142, v154, v166, v178, v190, v202, v214, v226, v238]), .bool true]), (4, .pointer (some ⟨wn.heap.size, 0, none⟩)), (2, .pointer (some ⟨(w.heap.size + 1), 0, none⟩))]) 0 hA4 rfl rfl rfl (by decide) (by decide) rfl (Wc (run_ext1 (hA4.get (243, _) (.tail _ (.head _)))) ⟨rfl, rfl⟩) ?_
  rintro a245 w6 hA5 rfl
  refine Sj (G := fun w7 => w7 = w6.setRow (w.heap.size + 1) (Zs [v58, v70, v82, v94, v106, v118, v130, v142, v154, v166, v178, v190, v202, v214, v226, v238])) rfl rfl (Rf (Qk (hA5.get (2, _) (.tail _ (.tail _ (.tail _ (.tail _ (.head _)))))) (hA5.get (244, _) (.tail _ (.head _))) (bRes.ex hx4) (Yz rfl) (Yp.trans rfl) (Yw _)) rfl) ?_
  rintro w7 rfl
  refine Vi (t := 3) (v := .bool true) (G := fun w8 => w8 = w6.setRow (w.heap.size + 1) (Zs [v58, v70, v82, v94, v106, v118, v130, v142, v154, v166, v178, v190, v202, v214, v226, v238])) (L := [(245, .bool true), (244, .agg (Zs [v58, v70, v82, v94, v106, v118, v130, v142, v154, v166, v178, v190, v202, v214, v226, v238])), (243, .tuple #[.agg (Zs [v58, v70, v82, v94, v106, v118, v130, v142, v154, v166, v178, v190, v202, v214, v226, v238]), .bool true]), (4, .pointer (some ⟨wn.heap.size, 0, none⟩)), (2, .pointer (some ⟨(w.heap.size + 1), 0, none⟩))]) 0 hA5 rfl rfl rfl (by decide) (by decide) rfl (Ql (hA5.get (245, _) (.head _)) ⟨rfl, rfl⟩) ?_
  rintro a8 w8 hA6 rfl
  refine wpList_nil ?_
  go_wp2_with fail
  have e2 : a8.tmps.getD 2 undef = .pointer (some ⟨(w.heap.size + 1), 0, none⟩) := hA6.get (2, _) (.tail _ (.tail _ (.tail _ (.tail _ (.tail _ (.head _))))))
  have e3 : a8.tmps.getD 3 undef = .bool true := hA6.get (3, _) (.head _)
  have hres := Zl (P := Tryz.prog) Tryz.results39 a8.tmps _ _ _ _ (0, 0) _ e2 ((bRes.ex hx4).setRow ((Zs [v58, v70, v82, v94, v106, v118, v130, v142, v154, v166, v178, v190, v202, v214, v226, v238]))) Tryz.underlying85 rfl (Yz rfl)
  rw [e3] at hres
  refine Kr hres hA6.def0 ⟨?_, ((hS4.rel hle).trans hx4).setRow (Nat.le_succ _) _⟩
  rw [HR.out, HT.out, if_pos HC.out]
  rfl
 ·have hcond : ¬ (mv && List.all [(v58, k58), (v70, k70), (v82, k82), (v94, k94), (v106, k106), (v118, k118), (v130, k130), (v142, k142), (v154, k154), (v166, k166), (v178, k178), (v190, k190), (v202, k202), (v214, k214), (v226, k226), (v238, k238)] (·.2)) = true := by
   intro hall
   simp only [List.all_cons, List.all_nil, Bool.and_eq_true, Bool.and_true] at hall
   obtain ⟨q_mv, q58, q70, q82, q94, q106, q118, q130, q142, q154, q166, q178, q190, q202, q214, q226, q238⟩ := hall
   have q237 := Wm h237 Wo (real_l h238 q238)
   have q172 := Wm h172 Vr (Sf h237 q237)
   have q176 := Wm h176 Vr (Oa h237 q237)
   have q177 := Wm h177 Wj (Nz h226 q226)
   have q165 := Wm h165 Wo (Nz h214 q214)
   have q153 := Wm h153 Wj (Nz h202 q202)
   have q189 := Wm h189 Wo (Nz h190 q190)
   have q148 := Wm h148 Vr (Sf h165 q165)
   have q152 := Wm h152 Vr (Oa h165 q165)
   have q141 := Wm h141 Wo (Nz h142 q142)
   have q88 := Wm h88 Vr (Sf h141 q141)
   have q92 := Wm h92 Vr (Oa h141 q141)
   have q129 := Wm h129 Wo (real_l h130 q130)
   have q76 := Wm h76 Vr (Sf h129 q129)
   have q80 := Wm h80 Vr (Oa h129 q129)
   have q117 := Wm h117 Wj (half_l h118 q118)
   have q115 := Wm h115 Wo (add_l h117 q117)
   have q_d := Wm HD.out Uq (add_r h117 q117)
   have q65 := Wm h65 Wo (Sf h115 q115)
   have q_c := Wm HC.out Uq (Oa h115 q115)
   have q105 := Wm h105 Wo (half_l h106 q106)
   have q103 := Wm h103 Wo (Sf h105 q105)
   have q53 := Wm h53 Wj (Sf h103 q103)
   have q93 := Wm h93 Wj (Nz h94 q94)
   have q81 := Wm h81 Wj (real_l h82 q82)
   have q69 := Wm h69 Wo (half_l h70 q70)
   have q67 := Wm h67 Wj (Sf h69 q69)
   have q_a := Wm HA.out Uq (Sf h65 q65)
   have q_b := Wm HB.out Uq (Oa h65 q65)
   have q57 := Wm h57 Wj (half_l h58 q58)
   have q55 := Wm h55 Wj (add_l h57 q57)
   simp only [q_mv, q_a, q_b, q_c, q_d, q53, q55, q57, q58, q65, q67, q69, q70, q76, q80, q81, q82, q88, q92, q93, q94, q103, q105, q106, q115, q117, q118, q129, q130, q141, q142, q148, q152, q153, q154, q165, q166, q172, q176, q177, q178, q189, q190, q202, q214, q226, q237, q238, Bool.not_true, Bool.or_false, Bool.or_self] at he0
   cases he0
  have HC := Kw hcond
  have HT := Kw hT
  clear hcond hT he0
  refine wp_region_lit ?_
  refine Vi (t := 241) (v := .pointer (some ⟨W0.heap.size, 0, none⟩)) (G := fun w2 => w2 = wy) (L := [(15, .pointer (some ⟨(gg 0), 0, none⟩)), (4, .pointer (some ⟨wn.heap.size, 0, none⟩)), (2, .pointer (some ⟨(w.heap.size + 1), 0, none⟩))]) 0 hF rfl rfl rfl (by decide) (by decide) rfl (Wc (Zc (hF.get (4, _) (.tail _ (.head _))) bPs) ⟨rfl, rfl⟩) ?_
  rintro a241 w2 hA1 rfl
  refine Vi (t := 242) (v := .agg (Zs [v58, v70, v82, v94, v106, v118, v130, v142, v154, v166, v178, v190, v202, v214, v226, v238])) (G := fun w3 => w3 = w2) (L := [(241, .pointer (some ⟨W0.heap.size, 0, none⟩)), (15, .pointer (some ⟨(gg 0), 0, none⟩)), (4, .pointer (some ⟨wn.heap.size, 0, none⟩)), (2, .pointer (some ⟨(w.heap.size + 1), 0, none⟩))]) 0 hA1 rfl rfl rfl (by decide) (by decide) rfl (Wc (Pi (hA1.get (15, _) (.tail _ (.head _))) hbt Tryz.underlying85 rfl (Yz rfl)) ⟨rfl, rfl⟩) ?_
  rintro a242 w3 hA2 rfl
  refine Vi (t := 243) (v := .tuple #[.agg Z48, .bool false]) (G := fun w4 => Ex w3 w4) (L := [(4, .pointer (some ⟨wn.heap.size, 0, none⟩)), (2, .pointer (some ⟨(w.heap.size + 1), 0, none⟩))]) 3 hA2 rfl rfl rfl (by decide) (by decide) rfl (Si (Wx Tryz.func100 (by kernel_rfl) rfl (hA2.get (241, _) (.tail _ (.head _))) (hA2.get (242, _) (.head _)) rfl) (Qj _ _ rfl (Yw _) w3 hS4.sum) (fun e w4 hh => ⟨_, hh.1, rfl, hh.2⟩)) ?_
  rintro a243 w4 hA3 hx4
  refine Vi (t := 244) (v := .agg Z48) (G := fun w5 => w5 = w4) (L := [(243, .tuple #[.agg Z48, .bool false]), (4, .pointer (some ⟨wn.heap.size, 0, none⟩)), (2, .pointer (some ⟨(w.heap.size + 1), 0, none⟩))]) 0 hA3 rfl rfl rfl (by decide) (by decide) rfl (Wc (run_ext0 (hA3.get (243, _) (.head _))) ⟨rfl, rfl⟩) ?_
  rintro a244 w5 hA4 rfl
  refine Vi (t := 245) (v := .bool false) (G := fun w6 => w6 = w5) (L := [(244, .agg Z48), (243, .tuple #[.agg Z48, .bool false]), (4, .pointer (some ⟨wn.heap.size, 0, none⟩)), (2, .pointer (some ⟨(w.heap.size + 1), 0, none⟩))]) 0 hA4 rfl rfl rfl (by decide) (by decide) rfl (Wc (run_ext1 (hA4.get (243, _) (.tail _ (.head _)))) ⟨rfl, rfl⟩) ?_
  rintro a245 w6 hA5 rfl
  refine Sj (G := fun w7 => w7 = w6.setRow (w.heap.size + 1) Z48) rfl rfl (Rf (Qk (hA5.get (2, _) (.tail _ (.tail _ (.tail _ (.tail _ (.head _)))))) (hA5.get (244, _) (.tail _ (.head _))) (bRes.ex hx4) (Yz Yp) (Yp.trans rfl) Wl) rfl) ?_
  rintro w7 rfl
  refine Vi (t := 3) (v := .bool false) (G := fun w8 => w8 = w6.setRow (w.heap.size + 1) Z48) (L := [(245, .bool false), (244, .agg Z48), (243, .tuple #[.agg Z48, .bool false]), (4, .pointer (some ⟨wn.heap.size, 0, none⟩)), (2, .pointer (some ⟨(w.heap.size + 1), 0, none⟩))]) 0 hA5 rfl rfl rfl (by decide) (by decide) rfl (Ql (hA5.get (245, _) (.head _)) ⟨rfl, rfl⟩) ?_
  rintro a8 w8 hA6 rfl
  refine wpList_nil ?_
  go_wp2_with fail
  have e2 : a8.tmps.getD 2 undef = .pointer (some ⟨(w.heap.size + 1), 0, none⟩) := hA6.get (2, _) (.tail _ (.tail _ (.tail _ (.tail _ (.tail _ (.head _))))))
  have e3 : a8.tmps.getD 3 undef = .bool false := hA6.get (3, _) (.head _)
  have hres := Zl (P := Tryz.prog) Tryz.results39 a8.tmps _ _ _ _ (0, 0) _ e2 ((bRes.ex hx4).setRow (Z48)) Tryz.underlying85 rfl (Yz Yp)
  rw [e3] at hres
  refine Kr hres hA6.def0 ⟨?_, ((hS4.rel hle).trans hx4).setRow (Nat.le_succ _) _⟩
  rw [HR.out, HT.out, if_neg HC.out]
  rfl
end
end Go.Proofs.YtiommfmaleeibaaGreatDoor
