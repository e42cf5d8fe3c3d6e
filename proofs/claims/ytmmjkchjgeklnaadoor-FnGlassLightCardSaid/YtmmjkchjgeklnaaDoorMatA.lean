/-
  Walks: the cells of a product, the program's.
-/
import Derived.Test.YtmmjkchjgeklnaaDoorMatP
import Derived.Test.YtmmjkchjgeklnaaDoorSeeS
import Derived.Deep.RegionHeld3
import Derived.Deep.DrawnRows
namespace Go.Proofs.YtmmjkchjgeklnaaDoor
open Go.RowKit

attribute [local go_sem ↓] Go.wp_at_zero Go.wp_at_succ
set_option maxRecDepth 4000 in
set_option maxHeartbeats 1000000 in
theorem cell00_any (bs : Nat) (bad : Bool) (a b c d e f g h : Fr) (ps pa pb : Nat) (w : World) (hb : Box w bs 75 #[.bool bad]) (hs : Box w ps 73 #[.pointer (some ⟨bs, 0, none⟩)]) (ha : Box w pa 54 #[.int .i64 a.re, .int .i64 a.im, .int .i64 a.den, .int .i64 b.re, .int .i64 b.im, .int .i64 b.den, .int .i64 c.re, .int .i64 c.im, .int .i64 c.den, .int .i64 d.re, .int .i64 d.im, .int .i64 d.den]) (hc : Box w pb 54 #[.int .i64 e.re, .int .i64 e.im, .int .i64 e.den, .int .i64 f.re, .int .i64 f.im, .int .i64 f.den, .int .i64 g.re, .int .i64 g.im, .int .i64 g.den, .int .i64 h.re, .int .i64 h.im, .int .i64 h.den]) (n1 : ps ≠ bs) (n2 : pa ≠ bs) (n3 : pb ≠ bs) : Calls Tryd.prog 75 #[.int .i64 0, .int .i64 0, .pointer (some ⟨ps, 0, none⟩), .pointer (some ⟨pa, 0, none⟩), .pointer (some ⟨pb, 0, none⟩)] w (SumGot bs bad w (finner a e b g)) := by
  obtain ⟨a1, a2, a3⟩ := a
  obtain ⟨b1, b2, b3⟩ := b
  obtain ⟨c1, c2, c3⟩ := c
  obtain ⟨d1, d2, d3⟩ := d
  obtain ⟨e1, e2, e3⟩ := e
  obtain ⟨f1, f2, f3⟩ := f
  obtain ⟨g1, g2, g3⟩ := g
  obtain ⟨h1, h2, h3⟩ := h
  have hfo := finner_or ⟨a1, a2, a3⟩ ⟨e1, e2, e3⟩ ⟨b1, b2, b3⟩ ⟨g1, g2, g3⟩ bad
  have hS := ((((SeesS.init hb).put hs n1).put ha n2).put hc n3)
  have hC := hS.reads
  simp only [reads_cons, reads_nil, World.size_alloc] at hC
  have m1 : w.heap.size ≠ ps := Nat.ne_of_gt hs.lt
  have m2 : w.heap.size ≠ pa := Nat.ne_of_gt ha.lt
  have m3 : w.heap.size ≠ pb := Nat.ne_of_gt hc.lt
  have m4 : w.heap.size ≠ bs := Nat.ne_of_gt hb.lt
  have q0 : IntKind.i64.wrap 0 = 0 := by decide
  have q1 : IntKind.i64.wrap 1 = 1 := by decide
  have q2 : IntKind.i64.wrap 2 = 2 := by decide
  have q3 : IntKind.i64.wrap 3 = 3 := by decide
  clear hb hs ha hc
  go_enter Tryd.func75, Tryd.ntmps75
  go_wp2
  go_region_held3 (fun w' => w'.cell? ⟨ps, 0, none⟩ = some (.pointer (some ⟨bs, 0, none⟩)) ∧ w'.cell? ⟨pa, 0, none⟩ = some (.int .i64 a1) ∧ w'.cell? ⟨pa, 1, none⟩ = some (.int .i64 a2) ∧ w'.cell? ⟨pa, 2, none⟩ = some (.int .i64 a3) ∧ w'.cell? ⟨pa, 3, none⟩ = some (.int .i64 b1) ∧ w'.cell? ⟨pa, 4, none⟩ = some (.int .i64 b2) ∧ w'.cell? ⟨pa, 5, none⟩ = some (.int .i64 b3) ∧ w'.cell? ⟨pb, 0, none⟩ = some (.int .i64 e1) ∧ w'.cell? ⟨pb, 1, none⟩ = some (.int .i64 e2) ∧ w'.cell? ⟨pb, 2, none⟩ = some (.int .i64 e3) ∧ w'.cell? ⟨pb, 6, none⟩ = some (.int .i64 g1) ∧ w'.cell? ⟨pb, 7, none⟩ = some (.int .i64 g2) ∧ w'.cell? ⟨pb, 8, none⟩ = some (.int .i64 g3)) (go_keep) (first
      | (go_at_call 54; ((with_reducible refine (add_see w (a1 := x1) (a2 := y1) (a3 := z1) (b1 := x2) (b2 := y2) (b3 := z2)).mono ?_); rintro e wn ⟨x3, y3, z3, k3, H3, rfl, hS⟩; replace hC := hS.reads; simp only [reads_cons, reads_nil, World.size_alloc] at hC))
      | (go_at_call 46; ((with_reducible refine (times_see w (a1 := b1) (a2 := b2) (a3 := b3) (b1 := g1) (b2 := g2) (b3 := g3)).mono ?_); rintro e wn ⟨x2, y2, z2, k2, H2, rfl, hS⟩; replace hC := hS.reads; simp only [reads_cons, reads_nil, World.size_alloc] at hC))
      | (go_at_call 46; ((with_reducible refine (times_see w (a1 := a1) (a2 := a2) (a3 := a3) (b1 := e1) (b2 := e2) (b3 := e3)).mono ?_); rintro e wn ⟨x1, y1, z1, k1, H1, rfl, hS⟩; replace hC := hS.reads; simp only [reads_cons, reads_nil, World.size_alloc] at hC)))
  go_wp2
  have hf : finner ⟨a1, a2, a3⟩ ⟨e1, e2, e3⟩ ⟨b1, b2, b3⟩ ⟨g1, g2, g3⟩ = (⟨x3, y3, z3⟩, k3) := by
    unfold finner
    rw [← H1.out, ← H2.out]
    exact H3.out.symm
  have hg : (bad || !k1 || !k2 || !k3) = (bad || !k3) := by
    rw [hf, ← H1.out, ← H2.out] at hfo
    exact hfo
  have hb := hS.sum
  rw [hg] at hb
  rw [hf]
  clear hf hg hfo H1 H2 H3
  refine bodyPost_ret (v := .agg #[.int .i64 x3, .int .i64 y3, .int .i64 z3]) ?_ rfl ⟨rfl, ?_, ?_⟩
  · simp [results, Tryd.results75, go_sem, hC]
  · repeat' (first
    | exact hS.sm
    | refine Sm.setNew ?_ (by simp) _)
  · repeat' (first
    | exact hb
    | refine Box.far ?_ (by simp; omega) _)
set_option maxRecDepth 4000 in
set_option maxHeartbeats 1000000 in
theorem cell01_any (bs : Nat) (bad : Bool) (a b c d e f g h : Fr) (ps pa pb : Nat) (w : World) (hb : Box w bs 75 #[.bool bad]) (hs : Box w ps 73 #[.pointer (some ⟨bs, 0, none⟩)]) (ha : Box w pa 54 #[.int .i64 a.re, .int .i64 a.im, .int .i64 a.den, .int .i64 b.re, .int .i64 b.im, .int .i64 b.den, .int .i64 c.re, .int .i64 c.im, .int .i64 c.den, .int .i64 d.re, .int .i64 d.im, .int .i64 d.den]) (hc : Box w pb 54 #[.int .i64 e.re, .int .i64 e.im, .int .i64 e.den, .int .i64 f.re, .int .i64 f.im, .int .i64 f.den, .int .i64 g.re, .int .i64 g.im, .int .i64 g.den, .int .i64 h.re, .int .i64 h.im, .int .i64 h.den]) (n1 : ps ≠ bs) (n2 : pa ≠ bs) (n3 : pb ≠ bs) : Calls Tryd.prog 75 #[.int .i64 0, .int .i64 1, .pointer (some ⟨ps, 0, none⟩), .pointer (some ⟨pa, 0, none⟩), .pointer (some ⟨pb, 0, none⟩)] w (SumGot bs bad w (finner a f b h)) := by
  obtain ⟨a1, a2, a3⟩ := a
  obtain ⟨b1, b2, b3⟩ := b
  obtain ⟨c1, c2, c3⟩ := c
  obtain ⟨d1, d2, d3⟩ := d
  obtain ⟨e1, e2, e3⟩ := e
  obtain ⟨f1, f2, f3⟩ := f
  obtain ⟨g1, g2, g3⟩ := g
  obtain ⟨h1, h2, h3⟩ := h
  have hfo := finner_or ⟨a1, a2, a3⟩ ⟨f1, f2, f3⟩ ⟨b1, b2, b3⟩ ⟨h1, h2, h3⟩ bad
  have hS := ((((SeesS.init hb).put hs n1).put ha n2).put hc n3)
  have hC := hS.reads
  simp only [reads_cons, reads_nil, World.size_alloc] at hC
  have m1 : w.heap.size ≠ ps := Nat.ne_of_gt hs.lt
  have m2 : w.heap.size ≠ pa := Nat.ne_of_gt ha.lt
  have m3 : w.heap.size ≠ pb := Nat.ne_of_gt hc.lt
  have m4 : w.heap.size ≠ bs := Nat.ne_of_gt hb.lt
  have q0 : IntKind.i64.wrap 0 = 0 := by decide
  have q1 : IntKind.i64.wrap 1 = 1 := by decide
  have q2 : IntKind.i64.wrap 2 = 2 := by decide
  have q3 : IntKind.i64.wrap 3 = 3 := by decide
  clear hb hs ha hc
  go_enter Tryd.func75, Tryd.ntmps75
  go_wp2
  go_region_held3 (fun w' => w'.cell? ⟨ps, 0, none⟩ = some (.pointer (some ⟨bs, 0, none⟩)) ∧ w'.cell? ⟨pa, 0, none⟩ = some (.int .i64 a1) ∧ w'.cell? ⟨pa, 1, none⟩ = some (.int .i64 a2) ∧ w'.cell? ⟨pa, 2, none⟩ = some (.int .i64 a3) ∧ w'.cell? ⟨pa, 3, none⟩ = some (.int .i64 b1) ∧ w'.cell? ⟨pa, 4, none⟩ = some (.int .i64 b2) ∧ w'.cell? ⟨pa, 5, none⟩ = some (.int .i64 b3) ∧ w'.cell? ⟨pb, 3, none⟩ = some (.int .i64 f1) ∧ w'.cell? ⟨pb, 4, none⟩ = some (.int .i64 f2) ∧ w'.cell? ⟨pb, 5, none⟩ = some (.int .i64 f3) ∧ w'.cell? ⟨pb, 9, none⟩ = some (.int .i64 h1) ∧ w'.cell? ⟨pb, 10, none⟩ = some (.int .i64 h2) ∧ w'.cell? ⟨pb, 11, none⟩ = some (.int .i64 h3)) (go_keep) (first
      | (go_at_call 54; ((with_reducible refine (add_see w (a1 := x1) (a2 := y1) (a3 := z1) (b1 := x2) (b2 := y2) (b3 := z2)).mono ?_); rintro e wn ⟨x3, y3, z3, k3, H3, rfl, hS⟩; replace hC := hS.reads; simp only [reads_cons, reads_nil, World.size_alloc] at hC))
      | (go_at_call 46; ((with_reducible refine (times_see w (a1 := b1) (a2 := b2) (a3 := b3) (b1 := h1) (b2 := h2) (b3 := h3)).mono ?_); rintro e wn ⟨x2, y2, z2, k2, H2, rfl, hS⟩; replace hC := hS.reads; simp only [reads_cons, reads_nil, World.size_alloc] at hC))
      | (go_at_call 46; ((with_reducible refine (times_see w (a1 := a1) (a2 := a2) (a3 := a3) (b1 := f1) (b2 := f2) (b3 := f3)).mono ?_); rintro e wn ⟨x1, y1, z1, k1, H1, rfl, hS⟩; replace hC := hS.reads; simp only [reads_cons, reads_nil, World.size_alloc] at hC)))
  go_wp2
  have hf : finner ⟨a1, a2, a3⟩ ⟨f1, f2, f3⟩ ⟨b1, b2, b3⟩ ⟨h1, h2, h3⟩ = (⟨x3, y3, z3⟩, k3) := by
    unfold finner
    rw [← H1.out, ← H2.out]
    exact H3.out.symm
  have hg : (bad || !k1 || !k2 || !k3) = (bad || !k3) := by
    rw [hf, ← H1.out, ← H2.out] at hfo
    exact hfo
  have hb := hS.sum
  rw [hg] at hb
  rw [hf]
  clear hf hg hfo H1 H2 H3
  refine bodyPost_ret (v := .agg #[.int .i64 x3, .int .i64 y3, .int .i64 z3]) ?_ rfl ⟨rfl, ?_, ?_⟩
  · simp [results, Tryd.results75, go_sem, hC]
  · repeat' (first
    | exact hS.sm
    | refine Sm.setNew ?_ (by simp) _)
  · repeat' (first
    | exact hb
    | refine Box.far ?_ (by simp; omega) _)
set_option maxRecDepth 4000 in
set_option maxHeartbeats 1000000 in
theorem cell10_any (bs : Nat) (bad : Bool) (a b c d e f g h : Fr) (ps pa pb : Nat) (w : World) (hb : Box w bs 75 #[.bool bad]) (hs : Box w ps 73 #[.pointer (some ⟨bs, 0, none⟩)]) (ha : Box w pa 54 #[.int .i64 a.re, .int .i64 a.im, .int .i64 a.den, .int .i64 b.re, .int .i64 b.im, .int .i64 b.den, .int .i64 c.re, .int .i64 c.im, .int .i64 c.den, .int .i64 d.re, .int .i64 d.im, .int .i64 d.den]) (hc : Box w pb 54 #[.int .i64 e.re, .int .i64 e.im, .int .i64 e.den, .int .i64 f.re, .int .i64 f.im, .int .i64 f.den, .int .i64 g.re, .int .i64 g.im, .int .i64 g.den, .int .i64 h.re, .int .i64 h.im, .int .i64 h.den]) (n1 : ps ≠ bs) (n2 : pa ≠ bs) (n3 : pb ≠ bs) : Calls Tryd.prog 75 #[.int .i64 1, .int .i64 0, .pointer (some ⟨ps, 0, none⟩), .pointer (some ⟨pa, 0, none⟩), .pointer (some ⟨pb, 0, none⟩)] w (SumGot bs bad w (finner c e d g)) := by
  obtain ⟨a1, a2, a3⟩ := a
  obtain ⟨b1, b2, b3⟩ := b
  obtain ⟨c1, c2, c3⟩ := c
  obtain ⟨d1, d2, d3⟩ := d
  obtain ⟨e1, e2, e3⟩ := e
  obtain ⟨f1, f2, f3⟩ := f
  obtain ⟨g1, g2, g3⟩ := g
  obtain ⟨h1, h2, h3⟩ := h
  have hfo := finner_or ⟨c1, c2, c3⟩ ⟨e1, e2, e3⟩ ⟨d1, d2, d3⟩ ⟨g1, g2, g3⟩ bad
  have hS := ((((SeesS.init hb).put hs n1).put ha n2).put hc n3)
  have hC := hS.reads
  simp only [reads_cons, reads_nil, World.size_alloc] at hC
  have m1 : w.heap.size ≠ ps := Nat.ne_of_gt hs.lt
  have m2 : w.heap.size ≠ pa := Nat.ne_of_gt ha.lt
  have m3 : w.heap.size ≠ pb := Nat.ne_of_gt hc.lt
  have m4 : w.heap.size ≠ bs := Nat.ne_of_gt hb.lt
  have q0 : IntKind.i64.wrap 0 = 0 := by decide
  have q1 : IntKind.i64.wrap 1 = 1 := by decide
  have q2 : IntKind.i64.wrap 2 = 2 := by decide
  have q3 : IntKind.i64.wrap 3 = 3 := by decide
  clear hb hs ha hc
  go_enter Tryd.func75, Tryd.ntmps75
  go_wp2
  go_region_held3 (fun w' => w'.cell? ⟨ps, 0, none⟩ = some (.pointer (some ⟨bs, 0, none⟩)) ∧ w'.cell? ⟨pa, 6, none⟩ = some (.int .i64 c1) ∧ w'.cell? ⟨pa, 7, none⟩ = some (.int .i64 c2) ∧ w'.cell? ⟨pa, 8, none⟩ = some (.int .i64 c3) ∧ w'.cell? ⟨pa, 9, none⟩ = some (.int .i64 d1) ∧ w'.cell? ⟨pa, 10, none⟩ = some (.int .i64 d2) ∧ w'.cell? ⟨pa, 11, none⟩ = some (.int .i64 d3) ∧ w'.cell? ⟨pb, 0, none⟩ = some (.int .i64 e1) ∧ w'.cell? ⟨pb, 1, none⟩ = some (.int .i64 e2) ∧ w'.cell? ⟨pb, 2, none⟩ = some (.int .i64 e3) ∧ w'.cell? ⟨pb, 6, none⟩ = some (.int .i64 g1) ∧ w'.cell? ⟨pb, 7, none⟩ = some (.int .i64 g2) ∧ w'.cell? ⟨pb, 8, none⟩ = some (.int .i64 g3)) (go_keep) (first
      | (go_at_call 54; ((with_reducible refine (add_see w (a1 := x1) (a2 := y1) (a3 := z1) (b1 := x2) (b2 := y2) (b3 := z2)).mono ?_); rintro e wn ⟨x3, y3, z3, k3, H3, rfl, hS⟩; replace hC := hS.reads; simp only [reads_cons, reads_nil, World.size_alloc] at hC))
      | (go_at_call 46; ((with_reducible refine (times_see w (a1 := d1) (a2 := d2) (a3 := d3) (b1 := g1) (b2 := g2) (b3 := g3)).mono ?_); rintro e wn ⟨x2, y2, z2, k2, H2, rfl, hS⟩; replace hC := hS.reads; simp only [reads_cons, reads_nil, World.size_alloc] at hC))
      | (go_at_call 46; ((with_reducible refine (times_see w (a1 := c1) (a2 := c2) (a3 := c3) (b1 := e1) (b2 := e2) (b3 := e3)).mono ?_); rintro e wn ⟨x1, y1, z1, k1, H1, rfl, hS⟩; replace hC := hS.reads; simp only [reads_cons, reads_nil, World.size_alloc] at hC)))
  go_wp2
  have hf : finner ⟨c1, c2, c3⟩ ⟨e1, e2, e3⟩ ⟨d1, d2, d3⟩ ⟨g1, g2, g3⟩ = (⟨x3, y3, z3⟩, k3) := by
    unfold finner
    rw [← H1.out, ← H2.out]
    exact H3.out.symm
  have hg : (bad || !k1 || !k2 || !k3) = (bad || !k3) := by
    rw [hf, ← H1.out, ← H2.out] at hfo
    exact hfo
  have hb := hS.sum
  rw [hg] at hb
  rw [hf]
  clear hf hg hfo H1 H2 H3
  refine bodyPost_ret (v := .agg #[.int .i64 x3, .int .i64 y3, .int .i64 z3]) ?_ rfl ⟨rfl, ?_, ?_⟩
  · simp [results, Tryd.results75, go_sem, hC]
  · repeat' (first
    | exact hS.sm
    | refine Sm.setNew ?_ (by simp) _)
  · repeat' (first
    | exact hb
    | refine Box.far ?_ (by simp; omega) _)
set_option maxRecDepth 4000 in
set_option maxHeartbeats 1000000 in
theorem cell11_any (bs : Nat) (bad : Bool) (a b c d e f g h : Fr) (ps pa pb : Nat) (w : World) (hb : Box w bs 75 #[.bool bad]) (hs : Box w ps 73 #[.pointer (some ⟨bs, 0, none⟩)]) (ha : Box w pa 54 #[.int .i64 a.re, .int .i64 a.im, .int .i64 a.den, .int .i64 b.re, .int .i64 b.im, .int .i64 b.den, .int .i64 c.re, .int .i64 c.im, .int .i64 c.den, .int .i64 d.re, .int .i64 d.im, .int .i64 d.den]) (hc : Box w pb 54 #[.int .i64 e.re, .int .i64 e.im, .int .i64 e.den, .int .i64 f.re, .int .i64 f.im, .int .i64 f.den, .int .i64 g.re, .int .i64 g.im, .int .i64 g.den, .int .i64 h.re, .int .i64 h.im, .int .i64 h.den]) (n1 : ps ≠ bs) (n2 : pa ≠ bs) (n3 : pb ≠ bs) : Calls Tryd.prog 75 #[.int .i64 1, .int .i64 1, .pointer (some ⟨ps, 0, none⟩), .pointer (some ⟨pa, 0, none⟩), .pointer (some ⟨pb, 0, none⟩)] w (SumGot bs bad w (finner c f d h)) := by
  obtain ⟨a1, a2, a3⟩ := a
  obtain ⟨b1, b2, b3⟩ := b
  obtain ⟨c1, c2, c3⟩ := c
  obtain ⟨d1, d2, d3⟩ := d
  obtain ⟨e1, e2, e3⟩ := e
  obtain ⟨f1, f2, f3⟩ := f
  obtain ⟨g1, g2, g3⟩ := g
  obtain ⟨h1, h2, h3⟩ := h
  have hfo := finner_or ⟨c1, c2, c3⟩ ⟨f1, f2, f3⟩ ⟨d1, d2, d3⟩ ⟨h1, h2, h3⟩ bad
  have hS := ((((SeesS.init hb).put hs n1).put ha n2).put hc n3)
  have hC := hS.reads
  simp only [reads_cons, reads_nil, World.size_alloc] at hC
  have m1 : w.heap.size ≠ ps := Nat.ne_of_gt hs.lt
  have m2 : w.heap.size ≠ pa := Nat.ne_of_gt ha.lt
  have m3 : w.heap.size ≠ pb := Nat.ne_of_gt hc.lt
  have m4 : w.heap.size ≠ bs := Nat.ne_of_gt hb.lt
  have q0 : IntKind.i64.wrap 0 = 0 := by decide
  have q1 : IntKind.i64.wrap 1 = 1 := by decide
  have q2 : IntKind.i64.wrap 2 = 2 := by decide
  have q3 : IntKind.i64.wrap 3 = 3 := by decide
  clear hb hs ha hc
  go_enter Tryd.func75, Tryd.ntmps75
  go_wp2
  go_region_held3 (fun w' => w'.cell? ⟨ps, 0, none⟩ = some (.pointer (some ⟨bs, 0, none⟩)) ∧ w'.cell? ⟨pa, 6, none⟩ = some (.int .i64 c1) ∧ w'.cell? ⟨pa, 7, none⟩ = some (.int .i64 c2) ∧ w'.cell? ⟨pa, 8, none⟩ = some (.int .i64 c3) ∧ w'.cell? ⟨pa, 9, none⟩ = some (.int .i64 d1) ∧ w'.cell? ⟨pa, 10, none⟩ = some (.int .i64 d2) ∧ w'.cell? ⟨pa, 11, none⟩ = some (.int .i64 d3) ∧ w'.cell? ⟨pb, 3, none⟩ = some (.int .i64 f1) ∧ w'.cell? ⟨pb, 4, none⟩ = some (.int .i64 f2) ∧ w'.cell? ⟨pb, 5, none⟩ = some (.int .i64 f3) ∧ w'.cell? ⟨pb, 9, none⟩ = some (.int .i64 h1) ∧ w'.cell? ⟨pb, 10, none⟩ = some (.int .i64 h2) ∧ w'.cell? ⟨pb, 11, none⟩ = some (.int .i64 h3)) (go_keep) (first
      | (go_at_call 54; ((with_reducible refine (add_see w (a1 := x1) (a2 := y1) (a3 := z1) (b1 := x2) (b2 := y2) (b3 := z2)).mono ?_); rintro e wn ⟨x3, y3, z3, k3, H3, rfl, hS⟩; replace hC := hS.reads; simp only [reads_cons, reads_nil, World.size_alloc] at hC))
      | (go_at_call 46; ((with_reducible refine (times_see w (a1 := d1) (a2 := d2) (a3 := d3) (b1 := h1) (b2 := h2) (b3 := h3)).mono ?_); rintro e wn ⟨x2, y2, z2, k2, H2, rfl, hS⟩; replace hC := hS.reads; simp only [reads_cons, reads_nil, World.size_alloc] at hC))
      | (go_at_call 46; ((with_reducible refine (times_see w (a1 := c1) (a2 := c2) (a3 := c3) (b1 := f1) (b2 := f2) (b3 := f3)).mono ?_); rintro e wn ⟨x1, y1, z1, k1, H1, rfl, hS⟩; replace hC := hS.reads; simp only [reads_cons, reads_nil, World.size_alloc] at hC)))
  go_wp2
  have hf : finner ⟨c1, c2, c3⟩ ⟨f1, f2, f3⟩ ⟨d1, d2, d3⟩ ⟨h1, h2, h3⟩ = (⟨x3, y3, z3⟩, k3) := by
    unfold finner
    rw [← H1.out, ← H2.out]
    exact H3.out.symm
  have hg : (bad || !k1 || !k2 || !k3) = (bad || !k3) := by
    rw [hf, ← H1.out, ← H2.out] at hfo
    exact hfo
  have hb := hS.sum
  rw [hg] at hb
  rw [hf]
  clear hf hg hfo H1 H2 H3
  refine bodyPost_ret (v := .agg #[.int .i64 x3, .int .i64 y3, .int .i64 z3]) ?_ rfl ⟨rfl, ?_, ?_⟩
  · simp [results, Tryd.results75, go_sem, hC]
  · repeat' (first
    | exact hS.sm
    | refine Sm.setNew ?_ (by simp) _)
  · repeat' (first
    | exact hb
    | refine Box.far ?_ (by simp; omega) _)
end Go.Proofs.YtmmjkchjgeklnaaDoor
