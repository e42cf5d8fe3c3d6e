/-
  Proved: what functions compute, part 17. No condition.
-/
import Derived.Test.YtiommfmaleeibaaGreatDoorB05
import Derived.Test.YtiommfmaleeibaaGreatDoorB11
import Derived.Deep.RegionHeld3
import Derived.Deep.DrawnRows
import Derived.Test.YtiommfmaleeibaaGreatDoorB16
set_option linter.unusedSimpArgs false
set_option linter.unusedVariables false
set_option maxRecDepth 20000
set_option maxHeartbeats 8000000
namespace Go.Proofs.YtiommfmaleeibaaGreatDoor
section
open Go.RowKit

attribute [local go_sem ↓] Go.wp_at_zero Go.wp_at_succ
theorem cell00_any (bs : Nat) (bad : Bool) (a b c d e f g h : Fr) (ps pa pb : Nat) (w : World) (hb : Box w bs 92 #[.bool bad]) (hs : Box w ps 90 #[.pointer (some ⟨bs, 0, none⟩)]) (ha : Box w pa 79 #[.int .i64 a.re, .int .i64 a.im, .int .i64 a.den, .int .i64 b.re, .int .i64 b.im, .int .i64 b.den, .int .i64 c.re, .int .i64 c.im, .int .i64 c.den, .int .i64 d.re, .int .i64 d.im, .int .i64 d.den]) (hc : Box w pb 79 #[.int .i64 e.re, .int .i64 e.im, .int .i64 e.den, .int .i64 f.re, .int .i64 f.im, .int .i64 f.den, .int .i64 g.re, .int .i64 g.im, .int .i64 g.den, .int .i64 h.re, .int .i64 h.im, .int .i64 h.den]) (n1 : ps ≠ bs) (n2 : pa ≠ bs) (n3 : pb ≠ bs) : Calls Tryz.prog 169 #[.int .i64 0, .int .i64 0, .pointer (some ⟨ps, 0, none⟩), .pointer (some ⟨pa, 0, none⟩), .pointer (some ⟨pb, 0, none⟩)] w (Xe bs bad w (Xx a e b g)) := by
 obtain ⟨a1, a2, a3⟩ := a
 obtain ⟨b1, b2, b3⟩ := b
 obtain ⟨c1, c2, c3⟩ := c
 obtain ⟨d1, d2, d3⟩ := d
 obtain ⟨e1, e2, e3⟩ := e
 obtain ⟨f1, f2, f3⟩ := f
 obtain ⟨g1, g2, g3⟩ := g
 obtain ⟨h1, h2, h3⟩ := h
 have hfo := Qq ⟨a1, a2, a3⟩ ⟨e1, e2, e3⟩ ⟨b1, b2, b3⟩ ⟨g1, g2, g3⟩ bad
 have hS := ((((Zt.init hb).put hs n1).put ha n2).put hc n3)
 have hC := hS.reads
 simp only [Zz, Zy, Kv] at hC
 have m1 : w.heap.size ≠ ps := Nat.ne_of_gt hs.lt
 have m2 : w.heap.size ≠ pa := Nat.ne_of_gt ha.lt
 have m3 : w.heap.size ≠ pb := Nat.ne_of_gt hc.lt
 have m4 : w.heap.size ≠ bs := Nat.ne_of_gt hb.lt
 have q0 : IntKind.i64.wrap 0 = 0 := by decide
 have q1 : IntKind.i64.wrap 1 = 1 := by decide
 have q2 : IntKind.i64.wrap 2 = 2 := by decide
 have q3 : IntKind.i64.wrap 3 = 3 := by decide
 clear hb hs ha hc
 go_enter Tryz.func169, Tryz.ntmps169
 go_wp2
 go_region_held3 (fun w' => w'.cell? ⟨ps, 0, none⟩ = some (.pointer (some ⟨bs, 0, none⟩)) ∧ w'.cell? ⟨pa, 0, none⟩ = some (.int .i64 a1) ∧ w'.cell? ⟨pa, 1, none⟩ = some (.int .i64 a2) ∧ w'.cell? ⟨pa, 2, none⟩ = some (.int .i64 a3) ∧ w'.cell? ⟨pa, 3, none⟩ = some (.int .i64 b1) ∧ w'.cell? ⟨pa, 4, none⟩ = some (.int .i64 b2) ∧ w'.cell? ⟨pa, 5, none⟩ = some (.int .i64 b3) ∧ w'.cell? ⟨pb, 0, none⟩ = some (.int .i64 e1) ∧ w'.cell? ⟨pb, 1, none⟩ = some (.int .i64 e2) ∧ w'.cell? ⟨pb, 2, none⟩ = some (.int .i64 e3) ∧ w'.cell? ⟨pb, 6, none⟩ = some (.int .i64 g1) ∧ w'.cell? ⟨pb, 7, none⟩ = some (.int .i64 g2) ∧ w'.cell? ⟨pb, 8, none⟩ = some (.int .i64 g3)) (go_keep) (first
   | (go_at_call 53; ((with_reducible refine (Ms w (a1 := x1) (a2 := y1) (a3 := z1) (b1 := x2) (b2 := y2) (b3 := z2)).mono ?_); rintro e wn ⟨x3, y3, z3, k3, H3, rfl, hS⟩; replace hC := hS.reads; simp only [Zz, Zy, Kv] at hC))
   | (go_at_call 49; ((with_reducible refine (Vd w (a1 := b1) (a2 := b2) (a3 := b3) (b1 := g1) (b2 := g2) (b3 := g3)).mono ?_); rintro e wn ⟨x2, y2, z2, k2, H2, rfl, hS⟩; replace hC := hS.reads; simp only [Zz, Zy, Kv] at hC))
   | (go_at_call 49; ((with_reducible refine (Vd w (a1 := a1) (a2 := a2) (a3 := a3) (b1 := e1) (b2 := e2) (b3 := e3)).mono ?_); rintro e wn ⟨x1, y1, z1, k1, H1, rfl, hS⟩; replace hC := hS.reads; simp only [Zz, Zy, Kv] at hC)))
 go_wp2
 have hf : Xx ⟨a1, a2, a3⟩ ⟨e1, e2, e3⟩ ⟨b1, b2, b3⟩ ⟨g1, g2, g3⟩ = (⟨x3, y3, z3⟩, k3) := by
  unfold Xx
  rw [← H1.out, ← H2.out]
  exact H3.out.symm
 have hg : (bad || !k1 || !k2 || !k3) = (bad || !k3) := by
  rw [hf, ← H1.out, ← H2.out] at hfo
  exact hfo
 have hb := hS.sum
 rw [hg] at hb
 rw [hf]
 clear hf hg hfo H1 H2 H3
 refine Kr (v := .agg #[.int .i64 x3, .int .i64 y3, .int .i64 z3]) ?_ rfl ⟨rfl, ?_, ?_⟩
 ·simp [results, Tryz.results169, go_sem, hC]
 ·repeat' (first
  | exact hS.sm
  | refine Sm.setNew ?_ (by simp) _)
 ·repeat' (first
  | exact hb
  | refine Box.far ?_ (by simp; omega) _)
theorem cell01_any (bs : Nat) (bad : Bool) (a b c d e f g h : Fr) (ps pa pb : Nat) (w : World) (hb : Box w bs 92 #[.bool bad]) (hs : Box w ps 90 #[.pointer (some ⟨bs, 0, none⟩)]) (ha : Box w pa 79 #[.int .i64 a.re, .int .i64 a.im, .int .i64 a.den, .int .i64 b.re, .int .i64 b.im, .int .i64 b.den, .int .i64 c.re, .int .i64 c.im, .int .i64 c.den, .int .i64 d.re, .int .i64 d.im, .int .i64 d.den]) (hc : Box w pb 79 #[.int .i64 e.re, .int .i64 e.im, .int .i64 e.den, .int .i64 f.re, .int .i64 f.im, .int .i64 f.den, .int .i64 g.re, .int .i64 g.im, .int .i64 g.den, .int .i64 h.re, .int .i64 h.im, .int .i64 h.den]) (n1 : ps ≠ bs) (n2 : pa ≠ bs) (n3 : pb ≠ bs) : Calls Tryz.prog 169 #[.int .i64 0, .int .i64 1, .pointer (some ⟨ps, 0, none⟩), .pointer (some ⟨pa, 0, none⟩), .pointer (some ⟨pb, 0, none⟩)] w (Xe bs bad w (Xx a f b h)) := by
 obtain ⟨a1, a2, a3⟩ := a
 obtain ⟨b1, b2, b3⟩ := b
 obtain ⟨c1, c2, c3⟩ := c
 obtain ⟨d1, d2, d3⟩ := d
 obtain ⟨e1, e2, e3⟩ := e
 obtain ⟨f1, f2, f3⟩ := f
 obtain ⟨g1, g2, g3⟩ := g
 obtain ⟨h1, h2, h3⟩ := h
 have hfo := Qq ⟨a1, a2, a3⟩ ⟨f1, f2, f3⟩ ⟨b1, b2, b3⟩ ⟨h1, h2, h3⟩ bad
 have hS := ((((Zt.init hb).put hs n1).put ha n2).put hc n3)
 have hC := hS.reads
 simp only [Zz, Zy, Kv] at hC
 have m1 : w.heap.size ≠ ps := Nat.ne_of_gt hs.lt
 have m2 : w.heap.size ≠ pa := Nat.ne_of_gt ha.lt
 have m3 : w.heap.size ≠ pb := Nat.ne_of_gt hc.lt
 have m4 : w.heap.size ≠ bs := Nat.ne_of_gt hb.lt
 have q0 : IntKind.i64.wrap 0 = 0 := by decide
 have q1 : IntKind.i64.wrap 1 = 1 := by decide
 have q2 : IntKind.i64.wrap 2 = 2 := by decide
 have q3 : IntKind.i64.wrap 3 = 3 := by decide
 clear hb hs ha hc
 go_enter Tryz.func169, Tryz.ntmps169
 go_wp2
 go_region_held3 (fun w' => w'.cell? ⟨ps, 0, none⟩ = some (.pointer (some ⟨bs, 0, none⟩)) ∧ w'.cell? ⟨pa, 0, none⟩ = some (.int .i64 a1) ∧ w'.cell? ⟨pa, 1, none⟩ = some (.int .i64 a2) ∧ w'.cell? ⟨pa, 2, none⟩ = some (.int .i64 a3) ∧ w'.cell? ⟨pa, 3, none⟩ = some (.int .i64 b1) ∧ w'.cell? ⟨pa, 4, none⟩ = some (.int .i64 b2) ∧ w'.cell? ⟨pa, 5, none⟩ = some (.int .i64 b3) ∧ w'.cell? ⟨pb, 3, none⟩ = some (.int .i64 f1) ∧ w'.cell? ⟨pb, 4, none⟩ = some (.int .i64 f2) ∧ w'.cell? ⟨pb, 5, none⟩ = some (.int .i64 f3) ∧ w'.cell? ⟨pb, 9, none⟩ = some (.int .i64 h1) ∧ w'.cell? ⟨pb, 10, none⟩ = some (.int .i64 h2) ∧ w'.cell? ⟨pb, 11, none⟩ = some (.int .i64 h3)) (go_keep) (first
   | (go_at_call 53; ((with_reducible refine (Ms w (a1 := x1) (a2 := y1) (a3 := z1) (b1 := x2) (b2 := y2) (b3 := z2)).mono ?_); rintro e wn ⟨x3, y3, z3, k3, H3, rfl, hS⟩; replace hC := hS.reads; simp only [Zz, Zy, Kv] at hC))
   | (go_at_call 49; ((with_reducible refine (Vd w (a1 := b1) (a2 := b2) (a3 := b3) (b1 := h1) (b2 := h2) (b3 := h3)).mono ?_); rintro e wn ⟨x2, y2, z2, k2, H2, rfl, hS⟩; replace hC := hS.reads; simp only [Zz, Zy, Kv] at hC))
   | (go_at_call 49; ((with_reducible refine (Vd w (a1 := a1) (a2 := a2) (a3 := a3) (b1 := f1) (b2 := f2) (b3 := f3)).mono ?_); rintro e wn ⟨x1, y1, z1, k1, H1, rfl, hS⟩; replace hC := hS.reads; simp only [Zz, Zy, Kv] at hC)))
 go_wp2
 have hf : Xx ⟨a1, a2, a3⟩ ⟨f1, f2, f3⟩ ⟨b1, b2, b3⟩ ⟨h1, h2, h3⟩ = (⟨x3, y3, z3⟩, k3) := by
  unfold Xx
  rw [← H1.out, ← H2.out]
  exact H3.out.symm
 have hg : (bad || !k1 || !k2 || !k3) = (bad || !k3) := by
  rw [hf, ← H1.out, ← H2.out] at hfo
  exact hfo
 have hb := hS.sum
 rw [hg] at hb
 rw [hf]
 clear hf hg hfo H1 H2 H3
 refine Kr (v := .agg #[.int .i64 x3, .int .i64 y3, .int .i64 z3]) ?_ rfl ⟨rfl, ?_, ?_⟩
 ·simp [results, Tryz.results169, go_sem, hC]
 ·repeat' (first
  | exact hS.sm
  | refine Sm.setNew ?_ (by simp) _)
 ·repeat' (first
  | exact hb
  | refine Box.far ?_ (by simp; omega) _)
theorem cell10_any (bs : Nat) (bad : Bool) (a b c d e f g h : Fr) (ps pa pb : Nat) (w : World) (hb : Box w bs 92 #[.bool bad]) (hs : Box w ps 90 #[.pointer (some ⟨bs, 0, none⟩)]) (ha : Box w pa 79 #[.int .i64 a.re, .int .i64 a.im, .int .i64 a.den, .int .i64 b.re, .int .i64 b.im, .int .i64 b.den, .int .i64 c.re, .int .i64 c.im, .int .i64 c.den, .int .i64 d.re, .int .i64 d.im, .int .i64 d.den]) (hc : Box w pb 79 #[.int .i64 e.re, .int .i64 e.im, .int .i64 e.den, .int .i64 f.re, .int .i64 f.im, .int .i64 f.den, .int .i64 g.re, .int .i64 g.im, .int .i64 g.den, .int .i64 h.re, .int .i64 h.im, .int .i64 h.den]) (n1 : ps ≠ bs) (n2 : pa ≠ bs) (n3 : pb ≠ bs) : Calls Tryz.prog 169 #[.int .i64 1, .int .i64 0, .pointer (some ⟨ps, 0, none⟩), .pointer (some ⟨pa, 0, none⟩), .pointer (some ⟨pb, 0, none⟩)] w (Xe bs bad w (Xx c e d g)) := by
 obtain ⟨a1, a2, a3⟩ := a
 obtain ⟨b1, b2, b3⟩ := b
 obtain ⟨c1, c2, c3⟩ := c
 obtain ⟨d1, d2, d3⟩ := d
 obtain ⟨e1, e2, e3⟩ := e
 obtain ⟨f1, f2, f3⟩ := f
 obtain ⟨g1, g2, g3⟩ := g
 obtain ⟨h1, h2, h3⟩ := h
 have hfo := Qq ⟨c1, c2, c3⟩ ⟨e1, e2, e3⟩ ⟨d1, d2, d3⟩ ⟨g1, g2, g3⟩ bad
 have hS := ((((Zt.init hb).put hs n1).put ha n2).put hc n3)
 have hC := hS.reads
 simp only [Zz, Zy, Kv] at hC
 have m1 : w.heap.size ≠ ps := Nat.ne_of_gt hs.lt
 have m2 : w.heap.size ≠ pa := Nat.ne_of_gt ha.lt
 have m3 : w.heap.size ≠ pb := Nat.ne_of_gt hc.lt
 have m4 : w.heap.size ≠ bs := Nat.ne_of_gt hb.lt
 have q0 : IntKind.i64.wrap 0 = 0 := by decide
 have q1 : IntKind.i64.wrap 1 = 1 := by decide
 have q2 : IntKind.i64.wrap 2 = 2 := by decide
 have q3 : IntKind.i64.wrap 3 = 3 := by decide
 clear hb hs ha hc
 go_enter Tryz.func169, Tryz.ntmps169
 go_wp2
 go_region_held3 (fun w' => w'.cell? ⟨ps, 0, none⟩ = some (.pointer (some ⟨bs, 0, none⟩)) ∧ w'.cell? ⟨pa, 6, none⟩ = some (.int .i64 c1) ∧ w'.cell? ⟨pa, 7, none⟩ = some (.int .i64 c2) ∧ w'.cell? ⟨pa, 8, none⟩ = some (.int .i64 c3) ∧ w'.cell? ⟨pa, 9, none⟩ = some (.int .i64 d1) ∧ w'.cell? ⟨pa, 10, none⟩ = some (.int .i64 d2) ∧ w'.cell? ⟨pa, 11, none⟩ = some (.int .i64 d3) ∧ w'.cell? ⟨pb, 0, none⟩ = some (.int .i64 e1) ∧ w'.cell? ⟨pb, 1, none⟩ = some (.int .i64 e2) ∧ w'.cell? ⟨pb, 2, none⟩ = some (.int .i64 e3) ∧ w'.cell? ⟨pb, 6, none⟩ = some (.int .i64 g1) ∧ w'.cell? ⟨pb, 7, none⟩ = some (.int .i64 g2) ∧ w'.cell? ⟨pb, 8, none⟩ = some (.int .i64 g3)) (go_keep) (first
   | (go_at_call 53; ((with_reducible refine (Ms w (a1 := x1) (a2 := y1) (a3 := z1) (b1 := x2) (b2 := y2) (b3 := z2)).mono ?_); rintro e wn ⟨x3, y3, z3, k3, H3, rfl, hS⟩; replace hC := hS.reads; simp only [Zz, Zy, Kv] at hC))
   | (go_at_call 49; ((with_reducible refine (Vd w (a1 := d1) (a2 := d2) (a3 := d3) (b1 := g1) (b2 := g2) (b3 := g3)).mono ?_); rintro e wn ⟨x2, y2, z2, k2, H2, rfl, hS⟩; replace hC := hS.reads; simp only [Zz, Zy, Kv] at hC))
   | (go_at_call 49; ((with_reducible refine (Vd w (a1 := c1) (a2 := c2) (a3 := c3) (b1 := e1) (b2 := e2) (b3 := e3)).mono ?_); rintro e wn ⟨x1, y1, z1, k1, H1, rfl, hS⟩; replace hC := hS.reads; simp only [Zz, Zy, Kv] at hC)))
 go_wp2
 have hf : Xx ⟨c1, c2, c3⟩ ⟨e1, e2, e3⟩ ⟨d1, d2, d3⟩ ⟨g1, g2, g3⟩ = (⟨x3, y3, z3⟩, k3) := by
  unfold Xx
  rw [← H1.out, ← H2.out]
  exact H3.out.symm
 have hg : (bad || !k1 || !k2 || !k3) = (bad || !k3) := by
  rw [hf, ← H1.out, ← H2.out] at hfo
  exact hfo
 have hb := hS.sum
 rw [hg] at hb
 rw [hf]
 clear hf hg hfo H1 H2 H3
 refine Kr (v := .agg #[.int .i64 x3, .int .i64 y3, .int .i64 z3]) ?_ rfl ⟨rfl, ?_, ?_⟩
 ·simp [results, Tryz.results169, go_sem, hC]
 ·repeat' (first
  | exact hS.sm
  | refine Sm.setNew ?_ (by simp) _)
 ·repeat' (first
  | exact hb
  | refine Box.far ?_ (by simp; omega) _)
theorem cell11_any (bs : Nat) (bad : Bool) (a b c d e f g h : Fr) (ps pa pb : Nat) (w : World) (hb : Box w bs 92 #[.bool bad]) (hs : Box w ps 90 #[.pointer (some ⟨bs, 0, none⟩)]) (ha : Box w pa 79 #[.int .i64 a.re, .int .i64 a.im, .int .i64 a.den, .int .i64 b.re, .int .i64 b.im, .int .i64 b.den, .int .i64 c.re, .int .i64 c.im, .int .i64 c.den, .int .i64 d.re, .int .i64 d.im, .int .i64 d.den]) (hc : Box w pb 79 #[.int .i64 e.re, .int .i64 e.im, .int .i64 e.den, .int .i64 f.re, .int .i64 f.im, .int .i64 f.den, .int .i64 g.re, .int .i64 g.im, .int .i64 g.den, .int .i64 h.re, .int .i64 h.im, .int .i64 h.den]) (n1 : ps ≠ bs) (n2 : pa ≠ bs) (n3 : pb ≠ bs) : Calls Tryz.prog 169 #[.int .i64 1, .int .i64 1, .pointer (some ⟨ps, 0, none⟩), .pointer (some ⟨pa, 0, none⟩), .pointer (some ⟨pb, 0, none⟩)] w (Xe bs bad w (Xx c f d h)) := by
 obtain ⟨a1, a2, a3⟩ := a
 obtain ⟨b1, b2, b3⟩ := b
 obtain ⟨c1, c2, c3⟩ := c
 obtain ⟨d1, d2, d3⟩ := d
 obtain ⟨e1, e2, e3⟩ := e
 obtain ⟨f1, f2, f3⟩ := f
 obtain ⟨g1, g2, g3⟩ := g
 obtain ⟨h1, h2, h3⟩ := h
 have hfo := Qq ⟨c1, c2, c3⟩ ⟨f1, f2, f3⟩ ⟨d1, d2, d3⟩ ⟨h1, h2, h3⟩ bad
 have hS := ((((Zt.init hb).put hs n1).put ha n2).put hc n3)
 have hC := hS.reads
 simp only [Zz, Zy, Kv] at hC
 have m1 : w.heap.size ≠ ps := Nat.ne_of_gt hs.lt
 have m2 : w.heap.size ≠ pa := Nat.ne_of_gt ha.lt
 have m3 : w.heap.size ≠ pb := Nat.ne_of_gt hc.lt
 have m4 : w.heap.size ≠ bs := Nat.ne_of_gt hb.lt
 have q0 : IntKind.i64.wrap 0 = 0 := by decide
 have q1 : IntKind.i64.wrap 1 = 1 := by decide
 have q2 : IntKind.i64.wrap 2 = 2 := by decide
 have q3 : IntKind.i64.wrap 3 = 3 := by decide
 clear hb hs ha hc
 go_enter Tryz.func169, Tryz.ntmps169
 go_wp2
 go_region_held3 (fun w' => w'.cell? ⟨ps, 0, none⟩ = some (.pointer (some ⟨bs, 0, none⟩)) ∧ w'.cell? ⟨pa, 6, none⟩ = some (.int .i64 c1) ∧ w'.cell? ⟨pa, 7, none⟩ = some (.int .i64 c2) ∧ w'.cell? ⟨pa, 8, none⟩ = some (.int .i64 c3) ∧ w'.cell? ⟨pa, 9, none⟩ = some (.int .i64 d1) ∧ w'.cell? ⟨pa, 10, none⟩ = some (.int .i64 d2) ∧ w'.cell? ⟨pa, 11, none⟩ = some (.int .i64 d3) ∧ w'.cell? ⟨pb, 3, none⟩ = some (.int .i64 f1) ∧ w'.cell? ⟨pb, 4, none⟩ = some (.int .i64 f2) ∧ w'.cell? ⟨pb, 5, none⟩ = some (.int .i64 f3) ∧ w'.cell? ⟨pb, 9, none⟩ = some (.int .i64 h1) ∧ w'.cell? ⟨pb, 10, none⟩ = some (.int .i64 h2) ∧ w'.cell? ⟨pb, 11, none⟩ = some (.int .i64 h3)) (go_keep) (first
   | (go_at_call 53; ((with_reducible refine (Ms w (a1 := x1) (a2 := y1) (a3 := z1) (b1 := x2) (b2 := y2) (b3 := z2)).mono ?_); rintro e wn ⟨x3, y3, z3, k3, H3, rfl, hS⟩; replace hC := hS.reads; simp only [Zz, Zy, Kv] at hC))
   | (go_at_call 49; ((with_reducible refine (Vd w (a1 := d1) (a2 := d2) (a3 := d3) (b1 := h1) (b2 := h2) (b3 := h3)).mono ?_); rintro e wn ⟨x2, y2, z2, k2, H2, rfl, hS⟩; replace hC := hS.reads; simp only [Zz, Zy, Kv] at hC))
   | (go_at_call 49; ((with_reducible refine (Vd w (a1 := c1) (a2 := c2) (a3 := c3) (b1 := f1) (b2 := f2) (b3 := f3)).mono ?_); rintro e wn ⟨x1, y1, z1, k1, H1, rfl, hS⟩; replace hC := hS.reads; simp only [Zz, Zy, Kv] at hC)))
 go_wp2
 have hf : Xx ⟨c1, c2, c3⟩ ⟨f1, f2, f3⟩ ⟨d1, d2, d3⟩ ⟨h1, h2, h3⟩ = (⟨x3, y3, z3⟩, k3) := by
  unfold Xx
  rw [← H1.out, ← H2.out]
  exact H3.out.symm
 have hg : (bad || !k1 || !k2 || !k3) = (bad || !k3) := by
  rw [hf, ← H1.out, ← H2.out] at hfo
  exact hfo
 have hb := hS.sum
 rw [hg] at hb
 rw [hf]
 clear hf hg hfo H1 H2 H3
 refine Kr (v := .agg #[.int .i64 x3, .int .i64 y3, .int .i64 z3]) ?_ rfl ⟨rfl, ?_, ?_⟩
 ·simp [results, Tryz.results169, go_sem, hC]
 ·repeat' (first
  | exact hS.sm
  | refine Sm.setNew ?_ (by simp) _)
 ·repeat' (first
  | exact hb
  | refine Box.far ?_ (by simp; omega) _)
end
section
open Go.RowKit

theorem So {W w : World} {bs ps pa pb : Nat} {bad : Bool} {r : Nat × TypeId × Array Value} {L : List (Nat × TypeId × Array Value)} {a1 a2 a3 b1 b2 b3 c1 c2 c3 d1 d2 d3 e1 e2 e3 f1 f2 f3 g1 g2 g3 h1 h2 h3 x y z : Int} {k : Bool} (hB : Zt W w bs bad ((ps, 90, #[.pointer (some ⟨bs, 0, none⟩)]) :: r :: (pb, 79, #[.int .i64 e1, .int .i64 e2, .int .i64 e3, .int .i64 f1, .int .i64 f2, .int .i64 f3, .int .i64 g1, .int .i64 g2, .int .i64 g3, .int .i64 h1, .int .i64 h2, .int .i64 h3]) :: (pa, 79, #[.int .i64 a1, .int .i64 a2, .int .i64 a3, .int .i64 b1, .int .i64 b2, .int .i64 b3, .int .i64 c1, .int .i64 c2, .int .i64 c3, .int .i64 d1, .int .i64 d2, .int .i64 d3]) :: L)) (hr : Xx ⟨a1, a2, a3⟩ ⟨e1, e2, e3⟩ ⟨b1, b2, b3⟩ ⟨g1, g2, g3⟩ = (⟨x, y, z⟩, k)) :
    Calls Tryz.prog 169 #[.int .i64 0, .int .i64 0, .pointer (some ⟨ps, 0, none⟩), .pointer (some ⟨pa, 0, none⟩), .pointer (some ⟨pb, 0, none⟩)] w fun e w' => e = .returned (.agg #[.int .i64 x, .int .i64 y, .int .i64 z]) ∧ Zt W w' bs (bad || !k) ((ps, 90, #[.pointer (some ⟨bs, 0, none⟩)]) :: r :: (pb, 79, #[.int .i64 e1, .int .i64 e2, .int .i64 e3, .int .i64 f1, .int .i64 f2, .int .i64 f3, .int .i64 g1, .int .i64 g2, .int .i64 g3, .int .i64 h1, .int .i64 h2, .int .i64 h3]) :: (pa, 79, #[.int .i64 a1, .int .i64 a2, .int .i64 a3, .int .i64 b1, .int .i64 b2, .int .i64 b3, .int .i64 c1, .int .i64 c2, .int .i64 c3, .int .i64 d1, .int .i64 d2, .int .i64 d3]) :: L) ∧ Sm bs w w' :=
  Tu hB (cell00_any bs bad ⟨a1, a2, a3⟩ ⟨b1, b2, b3⟩ ⟨c1, c2, c3⟩ ⟨d1, d2, d3⟩ ⟨e1, e2, e3⟩ ⟨f1, f2, f3⟩ ⟨g1, g2, g3⟩ ⟨h1, h2, h3⟩ ps pa pb w hB.sum hB.boxes.1 hB.boxes.2.2.2.1 hB.boxes.2.2.1 (hB.far _ (.head _)) (hB.far _ (.tail _ (.tail _ (.tail _ (.head _))))) (hB.far _ (.tail _ (.tail _ (.head _))))) hr
theorem Sn {W w : World} {bs ps pa pb : Nat} {bad : Bool} {r : Nat × TypeId × Array Value} {L : List (Nat × TypeId × Array Value)} {a1 a2 a3 b1 b2 b3 c1 c2 c3 d1 d2 d3 e1 e2 e3 f1 f2 f3 g1 g2 g3 h1 h2 h3 x y z : Int} {k : Bool} (hB : Zt W w bs bad ((ps, 90, #[.pointer (some ⟨bs, 0, none⟩)]) :: r :: (pb, 79, #[.int .i64 e1, .int .i64 e2, .int .i64 e3, .int .i64 f1, .int .i64 f2, .int .i64 f3, .int .i64 g1, .int .i64 g2, .int .i64 g3, .int .i64 h1, .int .i64 h2, .int .i64 h3]) :: (pa, 79, #[.int .i64 a1, .int .i64 a2, .int .i64 a3, .int .i64 b1, .int .i64 b2, .int .i64 b3, .int .i64 c1, .int .i64 c2, .int .i64 c3, .int .i64 d1, .int .i64 d2, .int .i64 d3]) :: L)) (hr : Xx ⟨a1, a2, a3⟩ ⟨f1, f2, f3⟩ ⟨b1, b2, b3⟩ ⟨h1, h2, h3⟩ = (⟨x, y, z⟩, k)) :
    Calls Tryz.prog 169 #[.int .i64 0, .int .i64 1, .pointer (some ⟨ps, 0, none⟩), .pointer (some ⟨pa, 0, none⟩), .pointer (some ⟨pb, 0, none⟩)] w fun e w' => e = .returned (.agg #[.int .i64 x, .int .i64 y, .int .i64 z]) ∧ Zt W w' bs (bad || !k) ((ps, 90, #[.pointer (some ⟨bs, 0, none⟩)]) :: r :: (pb, 79, #[.int .i64 e1, .int .i64 e2, .int .i64 e3, .int .i64 f1, .int .i64 f2, .int .i64 f3, .int .i64 g1, .int .i64 g2, .int .i64 g3, .int .i64 h1, .int .i64 h2, .int .i64 h3]) :: (pa, 79, #[.int .i64 a1, .int .i64 a2, .int .i64 a3, .int .i64 b1, .int .i64 b2, .int .i64 b3, .int .i64 c1, .int .i64 c2, .int .i64 c3, .int .i64 d1, .int .i64 d2, .int .i64 d3]) :: L) ∧ Sm bs w w' :=
  Tu hB (cell01_any bs bad ⟨a1, a2, a3⟩ ⟨b1, b2, b3⟩ ⟨c1, c2, c3⟩ ⟨d1, d2, d3⟩ ⟨e1, e2, e3⟩ ⟨f1, f2, f3⟩ ⟨g1, g2, g3⟩ ⟨h1, h2, h3⟩ ps pa pb w hB.sum hB.boxes.1 hB.boxes.2.2.2.1 hB.boxes.2.2.1 (hB.far _ (.head _)) (hB.far _ (.tail _ (.tail _ (.tail _ (.head _))))) (hB.far _ (.tail _ (.tail _ (.head _))))) hr
theorem Sl {W w : World} {bs ps pa pb : Nat} {bad : Bool} {r : Nat × TypeId × Array Value} {L : List (Nat × TypeId × Array Value)} {a1 a2 a3 b1 b2 b3 c1 c2 c3 d1 d2 d3 e1 e2 e3 f1 f2 f3 g1 g2 g3 h1 h2 h3 x y z : Int} {k : Bool} (hB : Zt W w bs bad ((ps, 90, #[.pointer (some ⟨bs, 0, none⟩)]) :: r :: (pb, 79, #[.int .i64 e1, .int .i64 e2, .int .i64 e3, .int .i64 f1, .int .i64 f2, .int .i64 f3, .int .i64 g1, .int .i64 g2, .int .i64 g3, .int .i64 h1, .int .i64 h2, .int .i64 h3]) :: (pa, 79, #[.int .i64 a1, .int .i64 a2, .int .i64 a3, .int .i64 b1, .int .i64 b2, .int .i64 b3, .int .i64 c1, .int .i64 c2, .int .i64 c3, .int .i64 d1, .int .i64 d2, .int .i64 d3]) :: L)) (hr : Xx ⟨c1, c2, c3⟩ ⟨e1, e2, e3⟩ ⟨d1, d2, d3⟩ ⟨g1, g2, g3⟩ = (⟨x, y, z⟩, k)) :
    Calls Tryz.prog 169 #[.int .i64 1, .int .i64 0, .pointer (some ⟨ps, 0, none⟩), .pointer (some ⟨pa, 0, none⟩), .pointer (some ⟨pb, 0, none⟩)] w fun e w' => e = .returned (.agg #[.int .i64 x, .int .i64 y, .int .i64 z]) ∧ Zt W w' bs (bad || !k) ((ps, 90, #[.pointer (some ⟨bs, 0, none⟩)]) :: r :: (pb, 79, #[.int .i64 e1, .int .i64 e2, .int .i64 e3, .int .i64 f1, .int .i64 f2, .int .i64 f3, .int .i64 g1, .int .i64 g2, .int .i64 g3, .int .i64 h1, .int .i64 h2, .int .i64 h3]) :: (pa, 79, #[.int .i64 a1, .int .i64 a2, .int .i64 a3, .int .i64 b1, .int .i64 b2, .int .i64 b3, .int .i64 c1, .int .i64 c2, .int .i64 c3, .int .i64 d1, .int .i64 d2, .int .i64 d3]) :: L) ∧ Sm bs w w' :=
  Tu hB (cell10_any bs bad ⟨a1, a2, a3⟩ ⟨b1, b2, b3⟩ ⟨c1, c2, c3⟩ ⟨d1, d2, d3⟩ ⟨e1, e2, e3⟩ ⟨f1, f2, f3⟩ ⟨g1, g2, g3⟩ ⟨h1, h2, h3⟩ ps pa pb w hB.sum hB.boxes.1 hB.boxes.2.2.2.1 hB.boxes.2.2.1 (hB.far _ (.head _)) (hB.far _ (.tail _ (.tail _ (.tail _ (.head _))))) (hB.far _ (.tail _ (.tail _ (.head _))))) hr
theorem Sk {W w : World} {bs ps pa pb : Nat} {bad : Bool} {r : Nat × TypeId × Array Value} {L : List (Nat × TypeId × Array Value)} {a1 a2 a3 b1 b2 b3 c1 c2 c3 d1 d2 d3 e1 e2 e3 f1 f2 f3 g1 g2 g3 h1 h2 h3 x y z : Int} {k : Bool} (hB : Zt W w bs bad ((ps, 90, #[.pointer (some ⟨bs, 0, none⟩)]) :: r :: (pb, 79, #[.int .i64 e1, .int .i64 e2, .int .i64 e3, .int .i64 f1, .int .i64 f2, .int .i64 f3, .int .i64 g1, .int .i64 g2, .int .i64 g3, .int .i64 h1, .int .i64 h2, .int .i64 h3]) :: (pa, 79, #[.int .i64 a1, .int .i64 a2, .int .i64 a3, .int .i64 b1, .int .i64 b2, .int .i64 b3, .int .i64 c1, .int .i64 c2, .int .i64 c3, .int .i64 d1, .int .i64 d2, .int .i64 d3]) :: L)) (hr : Xx ⟨c1, c2, c3⟩ ⟨f1, f2, f3⟩ ⟨d1, d2, d3⟩ ⟨h1, h2, h3⟩ = (⟨x, y, z⟩, k)) :
    Calls Tryz.prog 169 #[.int .i64 1, .int .i64 1, .pointer (some ⟨ps, 0, none⟩), .pointer (some ⟨pa, 0, none⟩), .pointer (some ⟨pb, 0, none⟩)] w fun e w' => e = .returned (.agg #[.int .i64 x, .int .i64 y, .int .i64 z]) ∧ Zt W w' bs (bad || !k) ((ps, 90, #[.pointer (some ⟨bs, 0, none⟩)]) :: r :: (pb, 79, #[.int .i64 e1, .int .i64 e2, .int .i64 e3, .int .i64 f1, .int .i64 f2, .int .i64 f3, .int .i64 g1, .int .i64 g2, .int .i64 g3, .int .i64 h1, .int .i64 h2, .int .i64 h3]) :: (pa, 79, #[.int .i64 a1, .int .i64 a2, .int .i64 a3, .int .i64 b1, .int .i64 b2, .int .i64 b3, .int .i64 c1, .int .i64 c2, .int .i64 c3, .int .i64 d1, .int .i64 d2, .int .i64 d3]) :: L) ∧ Sm bs w w' :=
  Tu hB (cell11_any bs bad ⟨a1, a2, a3⟩ ⟨b1, b2, b3⟩ ⟨c1, c2, c3⟩ ⟨d1, d2, d3⟩ ⟨e1, e2, e3⟩ ⟨f1, f2, f3⟩ ⟨g1, g2, g3⟩ ⟨h1, h2, h3⟩ ps pa pb w hB.sum hB.boxes.1 hB.boxes.2.2.2.1 hB.boxes.2.2.1 (hB.far _ (.head _)) (hB.far _ (.tail _ (.tail _ (.tail _ (.head _))))) (hB.far _ (.tail _ (.tail _ (.head _))))) hr
theorem or4_true {a b c d : Bool} (h : (a && b && c && d) = false) : ((((false || !true) || !a) || !b) || !c || !d) = true := by
  cases a <;> cases b <;> cases c <;> cases d <;> first | rfl | cases h
theorem or4_no (a b c d : Bool) : ((((false || !false) || !a) || !b) || !c || !d) = true := by simp
theorem Vb (x y : M4) (w : World) : Calls Tryz.prog 92 #[x.v, y.v] w (fun e w' => e = .returned (m4v (Yx x y)) ∧ Ex w w') := by
  have kx := fun w => Of x w
  have ky := fun w => Of y w
  unfold Yx Po
  generalize x.valid = vx at *
  generalize y.valid = vy at *
  obtain ⟨⟨a1, a2, a3⟩, ⟨b1, b2, b3⟩, ⟨c1, c2, c3⟩, ⟨d1, d2, d3⟩⟩ := x
  obtain ⟨⟨e1, e2, e3⟩, ⟨f1, f2, f3⟩, ⟨g1, g2, g3⟩, ⟨h1, h2, h3⟩⟩ := y
  simp only [M4.v] at kx ky ⊢
  rcases hss : (Xx ⟨a1, a2, a3⟩ ⟨e1, e2, e3⟩ ⟨b1, b2, b3⟩ ⟨g1, g2, g3⟩) with ⟨⟨s1, s2, s3⟩, sk⟩
  rcases htt : (Xx ⟨a1, a2, a3⟩ ⟨f1, f2, f3⟩ ⟨b1, b2, b3⟩ ⟨h1, h2, h3⟩) with ⟨⟨t1, t2, t3⟩, tk⟩
  rcases huu : (Xx ⟨c1, c2, c3⟩ ⟨e1, e2, e3⟩ ⟨d1, d2, d3⟩ ⟨g1, g2, g3⟩) with ⟨⟨u1, u2, u3⟩, uk⟩
  rcases hvv : (Xx ⟨c1, c2, c3⟩ ⟨f1, f2, f3⟩ ⟨d1, d2, d3⟩ ⟨h1, h2, h3⟩) with ⟨⟨v1, v2, v3⟩, vk⟩
  simp only
  rcases vx with _ | _
  · simp only [m4v, M4.v, M4.none, Fr.none, Bool.false_and, Bool.and_false, Bool.false_eq_true, if_false]
    have HS := Kw hss
    have HT := Kw htt
    have HU := Kw huu
    have HV := Kw hvv
    clear hss htt huu hvv
    have KX := Kw kx
    have KY := Kw ky
    clear kx ky
    have hS := Zw.refl w
    have hC := True.intro
    go_enter Tryz.func92, Tryz.ntmps92
    go_wp2_with (first | (go_at_call 96; (first | (with_reducible refine (KX.out _).mono ?_) | (with_reducible refine (KY.out _).mono ?_)); rintro e wn ⟨rfl, hx⟩; replace hS := Zt.after (W := w) hx; clear hx; (try simp only [Kv] at hS); replace hC := hS.reads; simp only [Zz, Zy] at hC) | (go_at_call 46; (with_reducible refine (Up w).mono ?_); rintro e wn ⟨rfl, hS⟩; have hC := hS.reads; simp only [Zz, Zy] at hC))
    refine Zd (St := fun _ _ => True) 11 _ (B := fun b w' => Zt w w' _ b _) (by kernel_rfl) (by kernel_rfl) ((Zt.alloc (h := hS)).drewW) (by exact fun _ _ _ _ _ h => h) ?_
    repeat (first
      | (apply Zx
         · rfl
         · intro b wb hB Q1 hQ1
           have hS := hB
           have hC := hS.reads
           simp only [Zz, Zy] at hC
           go_wp2_with fail
           exact hQ1 _ trivial hB
         · exact ⟨_, rfl⟩)
      | (apply Zp
         · rfl
         · intro b wb hB Q1 hQ1
           have hS := hB
           have hC := hS.reads
           simp only [Zz, Zy] at hC
           go_wp2_with (first | (go_at_call 169; (with_reducible refine (So hB HS.out).mono ?_); rintro e wn ⟨rfl, hN, hM⟩) | (go_at_call 169; (with_reducible refine (Sn hB HT.out).mono ?_); rintro e wn ⟨rfl, hN, hM⟩) | (go_at_call 169; (with_reducible refine (Sl hB HU.out).mono ?_); rintro e wn ⟨rfl, hN, hM⟩) | (go_at_call 169; (with_reducible refine (Sk hB HV.out).mono ?_); rintro e wn ⟨rfl, hN, hM⟩))
           exact hQ1 _ trivial hN
         · exact ⟨_, rfl⟩))
    refine Zq ?_
    intro wz hz
    rw [or4_no] at hz
    go_wp2_with (go_at_call 95; (with_reducible refine (Vc _ _ _ _ _ _ _ _ _ _ _ _ _ _ hz.sum).mono ?_); rintro e wn ⟨rfl, hx⟩; have hS := Zt.ex hz hx; have hC := hS.reads; simp only [Zz, Zy] at hC; have hE := hS.rel (by omega))
    refine Kr ?_ rfl ⟨rfl, ?_⟩
    · simp [results, Tryz.results92, go_sem, hC]
    · repeat' (with_reducible first | exact hE | exact Ex.refl _ | assumption | apply Ex.alloc | apply Ex.drewN | apply Ex.drew | refine Ex.setCell ?_ (by simp <;> omega) _)
  · rcases vy with _ | _
    · simp only [m4v, M4.v, M4.none, Fr.none, Bool.false_and, Bool.and_false, Bool.false_eq_true, if_false]
      have HS := Kw hss
      have HT := Kw htt
      have HU := Kw huu
      have HV := Kw hvv
      clear hss htt huu hvv
      have KX := Kw kx
      have KY := Kw ky
      clear kx ky
      have hS := Zw.refl w
      have hC := True.intro
      go_enter Tryz.func92, Tryz.ntmps92
      go_wp2_with (first | (go_at_call 96; (first | (with_reducible refine (KX.out _).mono ?_) | (with_reducible refine (KY.out _).mono ?_)); rintro e wn ⟨rfl, hx⟩; replace hS := Zt.after (W := w) hx; clear hx; (try simp only [Kv] at hS); replace hC := hS.reads; simp only [Zz, Zy] at hC) | (go_at_call 46; (with_reducible refine (Up w).mono ?_); rintro e wn ⟨rfl, hS⟩; have hC := hS.reads; simp only [Zz, Zy] at hC))
      refine Zd (St := fun _ _ => True) 11 _ (B := fun b w' => Zt w w' _ b _) (by kernel_rfl) (by kernel_rfl) ((Zt.alloc (h := hS)).drewW) (by exact fun _ _ _ _ _ h => h) ?_
      repeat (first
        | (apply Zx
           · rfl
           · intro b wb hB Q1 hQ1
             have hS := hB
             have hC := hS.reads
             simp only [Zz, Zy] at hC
             go_wp2_with fail
             exact hQ1 _ trivial hB
           · exact ⟨_, rfl⟩)
        | (apply Zp
           · rfl
           · intro b wb hB Q1 hQ1
             have hS := hB
             have hC := hS.reads
             simp only [Zz, Zy] at hC
             go_wp2_with (first | (go_at_call 169; (with_reducible refine (So hB HS.out).mono ?_); rintro e wn ⟨rfl, hN, hM⟩) | (go_at_call 169; (with_reducible refine (Sn hB HT.out).mono ?_); rintro e wn ⟨rfl, hN, hM⟩) | (go_at_call 169; (with_reducible refine (Sl hB HU.out).mono ?_); rintro e wn ⟨rfl, hN, hM⟩) | (go_at_call 169; (with_reducible refine (Sk hB HV.out).mono ?_); rintro e wn ⟨rfl, hN, hM⟩))
             exact hQ1 _ trivial hN
           · exact ⟨_, rfl⟩))
      refine Zq ?_
      intro wz hz
      rw [or4_no] at hz
      go_wp2_with (go_at_call 95; (with_reducible refine (Vc _ _ _ _ _ _ _ _ _ _ _ _ _ _ hz.sum).mono ?_); rintro e wn ⟨rfl, hx⟩; have hS := Zt.ex hz hx; have hC := hS.reads; simp only [Zz, Zy] at hC; have hE := hS.rel (by omega))
      refine Kr ?_ rfl ⟨rfl, ?_⟩
      · simp [results, Tryz.results92, go_sem, hC]
      · repeat' (with_reducible first | exact hE | exact Ex.refl _ | assumption | apply Ex.alloc | apply Ex.drewN | apply Ex.drew | refine Ex.setCell ?_ (by simp <;> omega) _)
    · rcases hK : (sk && tk && uk && vk) with _ | _
      · have HK := Kw (or4_true hK)
        have e : (true && true && sk && tk && uk && vk) = false := by rw [Bool.and_self, Bool.true_and]; exact hK
        rw [e]
        simp only [m4v, M4.v, M4.none, Fr.none, Bool.false_eq_true, if_false]
        clear e hK
        have HS := Kw hss
        have HT := Kw htt
        have HU := Kw huu
        have HV := Kw hvv
        clear hss htt huu hvv
        have KX := Kw kx
        have KY := Kw ky
        clear kx ky
        have hS := Zw.refl w
        have hC := True.intro
        go_enter Tryz.func92, Tryz.ntmps92
        go_wp2_with (first | (go_at_call 96; (first | (with_reducible refine (KX.out _).mono ?_) | (with_reducible refine (KY.out _).mono ?_)); rintro e wn ⟨rfl, hx⟩; replace hS := Zt.after (W := w) hx; clear hx; (try simp only [Kv] at hS); replace hC := hS.reads; simp only [Zz, Zy] at hC) | (go_at_call 46; (with_reducible refine (Up w).mono ?_); rintro e wn ⟨rfl, hS⟩; have hC := hS.reads; simp only [Zz, Zy] at hC))
        refine Zd (St := fun _ _ => True) 11 _ (B := fun b w' => Zt w w' _ b _) (by kernel_rfl) (by kernel_rfl) ((Zt.alloc (h := hS)).drewW) (by exact fun _ _ _ _ _ h => h) ?_
        repeat (first
          | (apply Zx
             · rfl
             · intro b wb hB Q1 hQ1
               have hS := hB
               have hC := hS.reads
               simp only [Zz, Zy] at hC
               go_wp2_with fail
               exact hQ1 _ trivial hB
             · exact ⟨_, rfl⟩)
          | (apply Zp
             · rfl
             · intro b wb hB Q1 hQ1
               have hS := hB
               have hC := hS.reads
               simp only [Zz, Zy] at hC
               go_wp2_with (first | (go_at_call 169; (with_reducible refine (So hB HS.out).mono ?_); rintro e wn ⟨rfl, hN, hM⟩) | (go_at_call 169; (with_reducible refine (Sn hB HT.out).mono ?_); rintro e wn ⟨rfl, hN, hM⟩) | (go_at_call 169; (with_reducible refine (Sl hB HU.out).mono ?_); rintro e wn ⟨rfl, hN, hM⟩) | (go_at_call 169; (with_reducible refine (Sk hB HV.out).mono ?_); rintro e wn ⟨rfl, hN, hM⟩))
               exact hQ1 _ trivial hN
             · exact ⟨_, rfl⟩))
        refine Zq ?_
        intro wz hz
        rw [HK.out] at hz
        go_wp2_with (go_at_call 95; (with_reducible refine (Vc _ _ _ _ _ _ _ _ _ _ _ _ _ _ hz.sum).mono ?_); rintro e wn ⟨rfl, hx⟩; have hS := Zt.ex hz hx; have hC := hS.reads; simp only [Zz, Zy] at hC; have hE := hS.rel (by omega))
        refine Kr ?_ rfl ⟨rfl, ?_⟩
        · simp [results, Tryz.results92, go_sem, hC]
        · repeat' (with_reducible first | exact hE | exact Ex.refl _ | assumption | apply Ex.alloc | apply Ex.drewN | apply Ex.drew | refine Ex.setCell ?_ (by simp <;> omega) _)
      · simp only [Bool.and_eq_true] at hK
        obtain ⟨⟨⟨rfl, rfl⟩, rfl⟩, rfl⟩ := hK
        simp only [m4v, M4.v, Bool.and_self, if_true]
        have HS := Kw hss
        have HT := Kw htt
        have HU := Kw huu
        have HV := Kw hvv
        clear hss htt huu hvv
        have KX := Kw kx
        have KY := Kw ky
        clear kx ky
        have hS := Zw.refl w
        have hC := True.intro
        go_enter Tryz.func92, Tryz.ntmps92
        go_wp2_with (first | (go_at_call 96; (first | (with_reducible refine (KX.out _).mono ?_) | (with_reducible refine (KY.out _).mono ?_)); rintro e wn ⟨rfl, hx⟩; replace hS := Zt.after (W := w) hx; clear hx; (try simp only [Kv] at hS); replace hC := hS.reads; simp only [Zz, Zy] at hC) | (go_at_call 46; (with_reducible refine (Up w).mono ?_); rintro e wn ⟨rfl, hS⟩; have hC := hS.reads; simp only [Zz, Zy] at hC))
        refine Zd (St := fun _ _ => True) 11 _ (B := fun b w' => Zt w w' _ b _) (by kernel_rfl) (by kernel_rfl) ((Zt.alloc (h := hS)).drewW) (by exact fun _ _ _ _ _ h => h) ?_
        repeat (first
          | (apply Zx
             · rfl
             · intro b wb hB Q1 hQ1
               have hS := hB
               have hC := hS.reads
               simp only [Zz, Zy] at hC
               go_wp2_with fail
               exact hQ1 _ trivial hB
             · exact ⟨_, rfl⟩)
          | (apply Zp
             · rfl
             · intro b wb hB Q1 hQ1
               have hS := hB
               have hC := hS.reads
               simp only [Zz, Zy] at hC
               go_wp2_with (first | (go_at_call 169; (with_reducible refine (So hB HS.out).mono ?_); rintro e wn ⟨rfl, hN, hM⟩) | (go_at_call 169; (with_reducible refine (Sn hB HT.out).mono ?_); rintro e wn ⟨rfl, hN, hM⟩) | (go_at_call 169; (with_reducible refine (Sl hB HU.out).mono ?_); rintro e wn ⟨rfl, hN, hM⟩) | (go_at_call 169; (with_reducible refine (Sk hB HV.out).mono ?_); rintro e wn ⟨rfl, hN, hM⟩))
               exact hQ1 _ trivial hN
             · exact ⟨_, rfl⟩))
        refine Zq ?_
        intro wz hz
        replace hz : Zt w wz _ false _ := hz
        go_wp2_with (go_at_call 95; (with_reducible refine (Sp _ _ _ _ _ _ _ _ _ _ _ _ _ _ hz.sum).mono ?_); rintro e wn ⟨rfl, hx⟩; have hS := Zt.ex hz hx; have hC := hS.reads; simp only [Zz, Zy] at hC; have hE := hS.rel (by omega))
        refine Kr ?_ rfl ⟨rfl, ?_⟩
        · simp [results, Tryz.results92, go_sem, hC]
        · repeat' (with_reducible first | exact hE | exact Ex.refl _ | assumption | apply Ex.alloc | apply Ex.drewN | apply Ex.drew | refine Ex.setCell ?_ (by simp <;> omega) _)
theorem or4_yes {a b c d : Bool} (h : (a && b && c && d) = false) : ((((false || !a) || !b) || !c) || !d) = true := by
  cases a <;> cases b <;> cases c <;> cases d <;> first | rfl | cases h
theorem Tm (x : M4) (w : World) : Calls Tryz.prog 93 #[x.v] w (fun e w' => e = .returned (m4v (Vl x)) ∧ Ex w w') := by
  unfold Vl Po
  obtain ⟨⟨a1, a2, a3⟩, ⟨b1, b2, b3⟩, ⟨c1, c2, c3⟩, ⟨d1, d2, d3⟩⟩ := x
  simp only [M4.v]
  rcases hss : Ze ⟨a1, a2, a3⟩ with ⟨⟨s1, s2, s3⟩, sk⟩
  rcases htt : Ze ⟨c1, c2, c3⟩ with ⟨⟨t1, t2, t3⟩, tk⟩
  rcases huu : Ze ⟨b1, b2, b3⟩ with ⟨⟨u1, u2, u3⟩, uk⟩
  rcases hvv : Ze ⟨d1, d2, d3⟩ with ⟨⟨v1, v2, v3⟩, vk⟩
  simp only
  rcases hK : (sk && tk && uk && vk) with _ | _
  · have HK := Kw (or4_yes hK)
    have e : (true && sk && tk && uk && vk) = false := by rw [Bool.true_and]; exact hK
    rw [e]
    simp only [m4v, M4.v, M4.none, Fr.none, Bool.false_eq_true, if_false]
    clear e hK
    have HS := Kw hss
    have HT := Kw htt
    have HU := Kw huu
    have HV := Kw hvv
    clear hss htt huu hvv
    have hS := Zw.refl w
    have hC := True.intro
    go_enter Tryz.func93, Tryz.ntmps93
    go_wp2_with fail
    refine Zd (St := fun _ _ => True) 23 false (B := fun b w' => Zt w w' (w.heap.size + 1 + 1) b [(w.heap.size + 1, 79, #[.int .i64 0, .int .i64 0, .int .i64 0, .int .i64 0, .int .i64 0, .int .i64 0, .int .i64 0, .int .i64 0, .int .i64 0, .int .i64 0, .int .i64 0, .int .i64 0]), (w.heap.size, 79, #[.int .i64 a1, .int .i64 a2, .int .i64 a3, .int .i64 b1, .int .i64 b2, .int .i64 b3, .int .i64 c1, .int .i64 c2, .int .i64 c3, .int .i64 d1, .int .i64 d2, .int .i64 d3])]) (by kernel_rfl) (by kernel_rfl) (Zt.drewW (Zt.cast (by simp only [Kv]) (by simp only [Kv]))) (by exact fun _ _ _ _ _ h => h) ?_
    repeat (first
      | (apply Zx
         · rfl
         · intro b wb hB Q1 hQ1
           have hS := hB
           have hC := hS.reads
           simp only [Zz, Zy] at hC
           go_wp2_with fail
           exact hQ1 _ trivial hB
         · exact ⟨_, rfl⟩)
      | (apply Zp
         · rfl
         · intro b wb hB Q1 hQ1
           have hS := hB
           have hC := hS.reads
           simp only [Zz, Zy] at hC
           go_wp2_with (first | (go_at_call 50; (with_reducible refine (Wh hB HS.out).mono ?_); rintro e wn ⟨rfl, hN, hM⟩) | (go_at_call 50; (with_reducible refine (Wh hB HT.out).mono ?_); rintro e wn ⟨rfl, hN, hM⟩) | (go_at_call 50; (with_reducible refine (Wh hB HU.out).mono ?_); rintro e wn ⟨rfl, hN, hM⟩) | (go_at_call 50; (with_reducible refine (Wh hB HV.out).mono ?_); rintro e wn ⟨rfl, hN, hM⟩))
           exact hQ1 _ trivial hN
         · exact ⟨_, rfl⟩))
    refine Zq ?_
    intro wz hz
    rw [HK.out] at hz
    go_wp2_with (go_at_call 95; (with_reducible refine (Vc _ _ _ _ _ _ _ _ _ _ _ _ _ _ hz.sum).mono ?_); rintro e wn ⟨rfl, hx⟩; have hS := Zt.ex hz hx; have hC := hS.reads; simp only [Zz, Zy] at hC; have hE := hS.rel (by omega))
    refine Kr ?_ rfl ⟨rfl, ?_⟩
    · simp [results, Tryz.results93, go_sem, hC]
    · repeat' (with_reducible first | exact hE | exact Ex.refl _ | assumption | apply Ex.alloc | apply Ex.drewN | apply Ex.drew | refine Ex.setCell ?_ (by simp <;> omega) _)
  · simp only [Bool.and_eq_true] at hK
    obtain ⟨⟨⟨rfl, rfl⟩, rfl⟩, rfl⟩ := hK
    simp only [m4v, M4.v, Bool.and_self, if_true]
    have HS := Kw hss
    have HT := Kw htt
    have HU := Kw huu
    have HV := Kw hvv
    clear hss htt huu hvv
    have hS := Zw.refl w
    have hC := True.intro
    go_enter Tryz.func93, Tryz.ntmps93
    go_wp2_with fail
    refine Zd (St := fun _ _ => True) 23 false (B := fun b w' => Zt w w' (w.heap.size + 1 + 1) b [(w.heap.size + 1, 79, #[.int .i64 0, .int .i64 0, .int .i64 0, .int .i64 0, .int .i64 0, .int .i64 0, .int .i64 0, .int .i64 0, .int .i64 0, .int .i64 0, .int .i64 0, .int .i64 0]), (w.heap.size, 79, #[.int .i64 a1, .int .i64 a2, .int .i64 a3, .int .i64 b1, .int .i64 b2, .int .i64 b3, .int .i64 c1, .int .i64 c2, .int .i64 c3, .int .i64 d1, .int .i64 d2, .int .i64 d3])]) (by kernel_rfl) (by kernel_rfl) (Zt.drewW (Zt.cast (by simp only [Kv]) (by simp only [Kv]))) (by exact fun _ _ _ _ _ h => h) ?_
    repeat (first
      | (apply Zx
         · rfl
         · intro b wb hB Q1 hQ1
           have hS := hB
           have hC := hS.reads
           simp only [Zz, Zy] at hC
           go_wp2_with fail
           exact hQ1 _ trivial hB
         · exact ⟨_, rfl⟩)
      | (apply Zp
         · rfl
         · intro b wb hB Q1 hQ1
           have hS := hB
           have hC := hS.reads
           simp only [Zz, Zy] at hC
           go_wp2_with (first | (go_at_call 50; (with_reducible refine (Wh hB HS.out).mono ?_); rintro e wn ⟨rfl, hN, hM⟩) | (go_at_call 50; (with_reducible refine (Wh hB HT.out).mono ?_); rintro e wn ⟨rfl, hN, hM⟩) | (go_at_call 50; (with_reducible refine (Wh hB HU.out).mono ?_); rintro e wn ⟨rfl, hN, hM⟩) | (go_at_call 50; (with_reducible refine (Wh hB HV.out).mono ?_); rintro e wn ⟨rfl, hN, hM⟩))
           exact hQ1 _ trivial hN
         · exact ⟨_, rfl⟩))
    refine Zq ?_
    intro wz hz
    replace hz : Zt w wz _ false _ := hz
    go_wp2_with (go_at_call 95; (with_reducible refine (Sp _ _ _ _ _ _ _ _ _ _ _ _ _ _ hz.sum).mono ?_); rintro e wn ⟨rfl, hx⟩; have hS := Zt.ex hz hx; have hC := hS.reads; simp only [Zz, Zy] at hC; have hE := hS.rel (by omega))
    refine Kr ?_ rfl ⟨rfl, ?_⟩
    · simp [results, Tryz.results93, go_sem, hC]
    · repeat' (with_reducible first | exact hE | exact Ex.refl _ | assumption | apply Ex.alloc | apply Ex.drewN | apply Ex.drew | refine Ex.setCell ?_ (by simp <;> omega) _)
end
end Go.Proofs.YtiommfmaleeibaaGreatDoor
