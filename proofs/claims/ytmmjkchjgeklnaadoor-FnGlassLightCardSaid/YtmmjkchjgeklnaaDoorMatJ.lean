/-
  Walks: matrices on vectors: the program's.
-/
import Derived.Test.YtmmjkchjgeklnaaDoorMatI
namespace Go.Proofs.YtmmjkchjgeklnaaDoor
open Go.RowKit

attribute [local go_sem] nat_eq_lt nat_eq_gt
set_option maxRecDepth 4000 in
set_option maxHeartbeats 1000000 in
theorem row0_det {W w : World} {bs ps pa pv : Nat} {bad : Bool} {r : Nat × TypeId × Array Value} {L : List (Nat × TypeId × Array Value)} {a1 a2 a3 b1 b2 b3 c1 c2 c3 d1 d2 d3 x1 x2 x3 y1 y2 y3 z1 z2 z3 : Int} {k : Bool} (hB : SeesS W w bs bad ((ps, 73, #[.pointer (some ⟨bs, 0, none⟩)]) :: r :: (pv, 59, #[.int .i64 x1, .int .i64 x2, .int .i64 x3, .int .i64 y1, .int .i64 y2, .int .i64 y3]) :: (pa, 54, #[.int .i64 a1, .int .i64 a2, .int .i64 a3, .int .i64 b1, .int .i64 b2, .int .i64 b3, .int .i64 c1, .int .i64 c2, .int .i64 c3, .int .i64 d1, .int .i64 d2, .int .i64 d3]) :: L)) (hr : finner ⟨a1, a2, a3⟩ ⟨x1, x2, x3⟩ ⟨b1, b2, b3⟩ ⟨y1, y2, y3⟩ = (⟨z1, z2, z3⟩, k)) : Calls Tryd.prog 53 #[.int .i64 0, .pointer (some ⟨ps, 0, none⟩), .pointer (some ⟨pa, 0, none⟩), .pointer (some ⟨pv, 0, none⟩)] w (fun e w' => e = .returned (.agg #[.int .i64 z1, .int .i64 z2, .int .i64 z3]) ∧ SeesS W w' bs (bad || !k) ((ps, 73, #[.pointer (some ⟨bs, 0, none⟩)]) :: r :: (pv, 59, #[.int .i64 x1, .int .i64 x2, .int .i64 x3, .int .i64 y1, .int .i64 y2, .int .i64 y3]) :: (pa, 54, #[.int .i64 a1, .int .i64 a2, .int .i64 a3, .int .i64 b1, .int .i64 b2, .int .i64 b3, .int .i64 c1, .int .i64 c2, .int .i64 c3, .int .i64 d1, .int .i64 d2, .int .i64 d3]) :: L) ∧ Sm bs w w') := by
  have hfo := finner_or ⟨a1, a2, a3⟩ ⟨x1, x2, x3⟩ ⟨b1, b2, b3⟩ ⟨y1, y2, y3⟩ bad
  rcases hss : ftimes ⟨a1, a2, a3⟩ ⟨x1, x2, x3⟩ with ⟨⟨s1, s2, s3⟩, sk⟩
  rcases htt : ftimes ⟨b1, b2, b3⟩ ⟨y1, y2, y3⟩ with ⟨⟨t1, t2, t3⟩, tk⟩
  rcases huu : fadd2 ⟨s1, s2, s3⟩ ⟨t1, t2, t3⟩ with ⟨⟨u1, u2, u3⟩, uk⟩
  have hf : finner ⟨a1, a2, a3⟩ ⟨x1, x2, x3⟩ ⟨b1, b2, b3⟩ ⟨y1, y2, y3⟩ = (⟨u1, u2, u3⟩, uk) := by
    unfold finner
    rw [hss, htt]
    exact huu
  rw [hf, hss, htt] at hfo
  simp only at hfo
  rw [hf] at hr
  simp only [Prod.mk.injEq, Fr.mk.injEq] at hr
  obtain ⟨⟨rfl, rfl, rfl⟩, rfl⟩ := hr
  have HSS := Lib.hid hss
  have HTT := Lib.hid htt
  have HUU := Lib.hid huu
  have HFO := Lib.hid hfo
  clear hss htt huu hfo
  clear hf
  have hS : SeesS w w bs bad [(ps, 73, #[.pointer (some ⟨bs, 0, none⟩)]), (pv, 59, #[.int .i64 x1, .int .i64 x2, .int .i64 x3, .int .i64 y1, .int .i64 y2, .int .i64 y3]), (pa, 54, #[.int .i64 a1, .int .i64 a2, .int .i64 a3, .int .i64 b1, .int .i64 b2, .int .i64 b3, .int .i64 c1, .int .i64 c2, .int .i64 c3, .int .i64 d1, .int .i64 d2, .int .i64 d3])] := (((SeesS.init hB.sum).put hB.boxes.2.2.2.1 (hB.far _ (.tail _ (.tail _ (.tail _ (.head _)))))).put hB.boxes.2.2.1 (hB.far _ (.tail _ (.tail _ (.head _))))).put hB.boxes.1 (hB.far _ (.head _))
  have hB0 := hB
  clear hB
  have hC := hS.reads
  simp only [reads_cons, reads_nil] at hC
  have m1 : w.heap.size ≠ ps := Nat.ne_of_gt hS.boxes.1.lt
  have m2 : w.heap.size ≠ pv := Nat.ne_of_gt hS.boxes.2.1.lt
  have m3 : w.heap.size ≠ pa := Nat.ne_of_gt hS.boxes.2.2.1.lt
  have m4 : w.heap.size ≠ bs := Nat.ne_of_gt hS.sum.lt
  have q0 : IntKind.i64.wrap 0 = 0 := by decide
  have q1 : IntKind.i64.wrap 1 = 1 := by decide
  have q2 : IntKind.i64.wrap 2 = 2 := by decide
  have q3 : IntKind.i64.wrap 3 = 3 := by decide
  go_enter Tryd.func53, Tryd.ntmps53
  go_wp2_with fail
  refine wp_region_got (St := fun _ _ => True) 21 _ (B := fun b w' => SeesS w w' _ b _) (by kernel_rfl) (by kernel_rfl) (SeesS.drewW (SeesS.alloc (h := hS))) (by exact fun _ _ _ _ _ h => h) ?_
  apply lexDet_pure
  · rfl
  · intro b wb hB Q1 hQ1
    have hS := hB
    have hC := hS.reads
    simp only [reads_cons, reads_nil] at hC
    go_wp2_with fail
    exact hQ1 _ trivial hB
  · exact ⟨_, rfl⟩
  apply lexDet_pure
  · rfl
  · intro b wb hB Q1 hQ1
    have hS := hB
    have hC := hS.reads
    simp only [reads_cons, reads_nil] at hC
    go_wp2_with fail
    exact hQ1 _ trivial hB
  · exact ⟨_, rfl⟩
  apply lexDet_pure
  · rfl
  · intro b wb hB Q1 hQ1
    go_wp2_with fail
    exact hQ1 _ trivial hB
  · exact ⟨_, rfl⟩
  apply lexDet_pure
  · rfl
  · intro b wb hB Q1 hQ1
    go_wp2_with fail
    exact hQ1 _ trivial hB
  · exact ⟨_, rfl⟩
  apply lexDet_pure
  · rfl
  · intro b wb hB Q1 hQ1
    go_wp2_with fail
    exact hQ1 _ trivial hB
  · exact ⟨_, rfl⟩
  apply lexDet_pure
  · rfl
  · intro b wb hB Q1 hQ1
    go_wp2_with fail
    exact hQ1 _ trivial hB
  · exact ⟨_, rfl⟩
  apply lexDet_pure
  · rfl
  · intro b wb hB Q1 hQ1
    have hS := hB
    have hC := hS.reads
    simp only [reads_cons, reads_nil] at hC
    go_wp2_with fail
    exact hQ1 _ trivial hB
  · exact ⟨_, rfl⟩
  apply lexDet_pure
  · rfl
  · intro b wb hB Q1 hQ1
    go_wp2_with fail
    exact hQ1 _ trivial hB
  · exact ⟨_, rfl⟩
  apply lexDet_pure
  · rfl
  · intro b wb hB Q1 hQ1
    have hS := hB
    have hC := hS.reads
    simp only [reads_cons, reads_nil] at hC
    go_wp2_with fail
    exact hQ1 _ trivial hB
  · exact ⟨_, rfl⟩
  apply lexDet_step
  · rfl
  · intro b wb hB Q1 hQ1
    go_wp2_with (go_at_call 46; (with_reducible refine (times_det hB HSS.out).mono ?_); rintro e wn ⟨rfl, hN, hM⟩)
    exact hQ1 _ trivial hN
  · exact ⟨_, rfl⟩
  apply lexDet_pure
  · rfl
  · intro b wb hB Q1 hQ1
    have hS := hB
    have hC := hS.reads
    simp only [reads_cons, reads_nil] at hC
    go_wp2_with fail
    exact hQ1 _ trivial hB
  · exact ⟨_, rfl⟩
  apply lexDet_pure
  · rfl
  · intro b wb hB Q1 hQ1
    go_wp2_with fail
    exact hQ1 _ trivial hB
  · exact ⟨_, rfl⟩
  apply lexDet_pure
  · rfl
  · intro b wb hB Q1 hQ1
    go_wp2_with fail
    exact hQ1 _ trivial hB
  · exact ⟨_, rfl⟩
  apply lexDet_pure
  · rfl
  · intro b wb hB Q1 hQ1
    go_wp2_with fail
    exact hQ1 _ trivial hB
  · exact ⟨_, rfl⟩
  apply lexDet_pure
  · rfl
  · intro b wb hB Q1 hQ1
    go_wp2_with fail
    exact hQ1 _ trivial hB
  · exact ⟨_, rfl⟩
  apply lexDet_pure
  · rfl
  · intro b wb hB Q1 hQ1
    go_wp2_with fail
    exact hQ1 _ trivial hB
  · exact ⟨_, rfl⟩
  apply lexDet_pure
  · rfl
  · intro b wb hB Q1 hQ1
    have hS := hB
    have hC := hS.reads
    simp only [reads_cons, reads_nil] at hC
    go_wp2_with fail
    exact hQ1 _ trivial hB
  · exact ⟨_, rfl⟩
  apply lexDet_pure
  · rfl
  · intro b wb hB Q1 hQ1
    go_wp2_with fail
    exact hQ1 _ trivial hB
  · exact ⟨_, rfl⟩
  apply lexDet_pure
  · rfl
  · intro b wb hB Q1 hQ1
    have hS := hB
    have hC := hS.reads
    simp only [reads_cons, reads_nil] at hC
    go_wp2_with fail
    exact hQ1 _ trivial hB
  · exact ⟨_, rfl⟩
  apply lexDet_step
  · rfl
  · intro b wb hB Q1 hQ1
    go_wp2_with (go_at_call 46; (with_reducible refine (times_det hB HTT.out).mono ?_); rintro e wn ⟨rfl, hN, hM⟩)
    exact hQ1 _ trivial hN
  · exact ⟨_, rfl⟩
  apply lexDet_step
  · rfl
  · intro b wb hB Q1 hQ1
    go_wp2_with (go_at_call 54; (with_reducible refine (add_det hB HUU.out).mono ?_); rintro e wn ⟨rfl, hN, hM⟩)
    exact hQ1 _ trivial hN
  · exact ⟨_, rfl⟩
  refine lexDet_zero ?_
  intro wz hz
  rw [HFO.out] at hz
  replace hC := hz.reads
  simp only [reads_cons, reads_nil] at hC
  go_wp2_with fail
  refine bodyPost_ret ?_ rfl ⟨rfl, ?_, ?_⟩
  · simp [results, Tryd.results53, go_sem, hC]
  · refine hB0.call ?_ ?_
    · repeat' (first
        | exact hz.sm
        | refine Sm.setNew ?_ (by simp) _)
    · repeat' (first
        | exact hz.sum
        | refine Box.far ?_ (by simp; omega) _)
  · repeat' (first
      | exact hz.sm
      | refine Sm.setNew ?_ (by simp) _)
set_option maxRecDepth 4000 in
set_option maxHeartbeats 1000000 in
theorem row1_det {W w : World} {bs ps pa pv : Nat} {bad : Bool} {r : Nat × TypeId × Array Value} {L : List (Nat × TypeId × Array Value)} {a1 a2 a3 b1 b2 b3 c1 c2 c3 d1 d2 d3 x1 x2 x3 y1 y2 y3 z1 z2 z3 : Int} {k : Bool} (hB : SeesS W w bs bad ((ps, 73, #[.pointer (some ⟨bs, 0, none⟩)]) :: r :: (pv, 59, #[.int .i64 x1, .int .i64 x2, .int .i64 x3, .int .i64 y1, .int .i64 y2, .int .i64 y3]) :: (pa, 54, #[.int .i64 a1, .int .i64 a2, .int .i64 a3, .int .i64 b1, .int .i64 b2, .int .i64 b3, .int .i64 c1, .int .i64 c2, .int .i64 c3, .int .i64 d1, .int .i64 d2, .int .i64 d3]) :: L)) (hr : finner ⟨c1, c2, c3⟩ ⟨x1, x2, x3⟩ ⟨d1, d2, d3⟩ ⟨y1, y2, y3⟩ = (⟨z1, z2, z3⟩, k)) : Calls Tryd.prog 53 #[.int .i64 1, .pointer (some ⟨ps, 0, none⟩), .pointer (some ⟨pa, 0, none⟩), .pointer (some ⟨pv, 0, none⟩)] w (fun e w' => e = .returned (.agg #[.int .i64 z1, .int .i64 z2, .int .i64 z3]) ∧ SeesS W w' bs (bad || !k) ((ps, 73, #[.pointer (some ⟨bs, 0, none⟩)]) :: r :: (pv, 59, #[.int .i64 x1, .int .i64 x2, .int .i64 x3, .int .i64 y1, .int .i64 y2, .int .i64 y3]) :: (pa, 54, #[.int .i64 a1, .int .i64 a2, .int .i64 a3, .int .i64 b1, .int .i64 b2, .int .i64 b3, .int .i64 c1, .int .i64 c2, .int .i64 c3, .int .i64 d1, .int .i64 d2, .int .i64 d3]) :: L) ∧ Sm bs w w') := by
  have hfo := finner_or ⟨c1, c2, c3⟩ ⟨x1, x2, x3⟩ ⟨d1, d2, d3⟩ ⟨y1, y2, y3⟩ bad
  rcases hss : ftimes ⟨c1, c2, c3⟩ ⟨x1, x2, x3⟩ with ⟨⟨s1, s2, s3⟩, sk⟩
  rcases htt : ftimes ⟨d1, d2, d3⟩ ⟨y1, y2, y3⟩ with ⟨⟨t1, t2, t3⟩, tk⟩
  rcases huu : fadd2 ⟨s1, s2, s3⟩ ⟨t1, t2, t3⟩ with ⟨⟨u1, u2, u3⟩, uk⟩
  have hf : finner ⟨c1, c2, c3⟩ ⟨x1, x2, x3⟩ ⟨d1, d2, d3⟩ ⟨y1, y2, y3⟩ = (⟨u1, u2, u3⟩, uk) := by
    unfold finner
    rw [hss, htt]
    exact huu
  rw [hf, hss, htt] at hfo
  simp only at hfo
  rw [hf] at hr
  simp only [Prod.mk.injEq, Fr.mk.injEq] at hr
  obtain ⟨⟨rfl, rfl, rfl⟩, rfl⟩ := hr
  have HSS := Lib.hid hss
  have HTT := Lib.hid htt
  have HUU := Lib.hid huu
  have HFO := Lib.hid hfo
  clear hss htt huu hfo
  clear hf
  have hS : SeesS w w bs bad [(ps, 73, #[.pointer (some ⟨bs, 0, none⟩)]), (pv, 59, #[.int .i64 x1, .int .i64 x2, .int .i64 x3, .int .i64 y1, .int .i64 y2, .int .i64 y3]), (pa, 54, #[.int .i64 a1, .int .i64 a2, .int .i64 a3, .int .i64 b1, .int .i64 b2, .int .i64 b3, .int .i64 c1, .int .i64 c2, .int .i64 c3, .int .i64 d1, .int .i64 d2, .int .i64 d3])] := (((SeesS.init hB.sum).put hB.boxes.2.2.2.1 (hB.far _ (.tail _ (.tail _ (.tail _ (.head _)))))).put hB.boxes.2.2.1 (hB.far _ (.tail _ (.tail _ (.head _))))).put hB.boxes.1 (hB.far _ (.head _))
  have hB0 := hB
  clear hB
  have hC := hS.reads
  simp only [reads_cons, reads_nil] at hC
  have m1 : w.heap.size ≠ ps := Nat.ne_of_gt hS.boxes.1.lt
  have m2 : w.heap.size ≠ pv := Nat.ne_of_gt hS.boxes.2.1.lt
  have m3 : w.heap.size ≠ pa := Nat.ne_of_gt hS.boxes.2.2.1.lt
  have m4 : w.heap.size ≠ bs := Nat.ne_of_gt hS.sum.lt
  have q0 : IntKind.i64.wrap 0 = 0 := by decide
  have q1 : IntKind.i64.wrap 1 = 1 := by decide
  have q2 : IntKind.i64.wrap 2 = 2 := by decide
  have q3 : IntKind.i64.wrap 3 = 3 := by decide
  go_enter Tryd.func53, Tryd.ntmps53
  go_wp2_with fail
  refine wp_region_got (St := fun _ _ => True) 21 _ (B := fun b w' => SeesS w w' _ b _) (by kernel_rfl) (by kernel_rfl) (SeesS.drewW (SeesS.alloc (h := hS))) (by exact fun _ _ _ _ _ h => h) ?_
  apply lexDet_pure
  · rfl
  · intro b wb hB Q1 hQ1
    have hS := hB
    have hC := hS.reads
    simp only [reads_cons, reads_nil] at hC
    go_wp2_with fail
    exact hQ1 _ trivial hB
  · exact ⟨_, rfl⟩
  apply lexDet_pure
  · rfl
  · intro b wb hB Q1 hQ1
    have hS := hB
    have hC := hS.reads
    simp only [reads_cons, reads_nil] at hC
    go_wp2_with fail
    exact hQ1 _ trivial hB
  · exact ⟨_, rfl⟩
  apply lexDet_pure
  · rfl
  · intro b wb hB Q1 hQ1
    go_wp2_with fail
    exact hQ1 _ trivial hB
  · exact ⟨_, rfl⟩
  apply lexDet_pure
  · rfl
  · intro b wb hB Q1 hQ1
    go_wp2_with fail
    exact hQ1 _ trivial hB
  · exact ⟨_, rfl⟩
  apply lexDet_pure
  · rfl
  · intro b wb hB Q1 hQ1
    go_wp2_with fail
    exact hQ1 _ trivial hB
  · exact ⟨_, rfl⟩
  apply lexDet_pure
  · rfl
  · intro b wb hB Q1 hQ1
    go_wp2_with fail
    exact hQ1 _ trivial hB
  · exact ⟨_, rfl⟩
  apply lexDet_pure
  · rfl
  · intro b wb hB Q1 hQ1
    have hS := hB
    have hC := hS.reads
    simp only [reads_cons, reads_nil] at hC
    go_wp2_with fail
    exact hQ1 _ trivial hB
  · exact ⟨_, rfl⟩
  apply lexDet_pure
  · rfl
  · intro b wb hB Q1 hQ1
    go_wp2_with fail
    exact hQ1 _ trivial hB
  · exact ⟨_, rfl⟩
  apply lexDet_pure
  · rfl
  · intro b wb hB Q1 hQ1
    have hS := hB
    have hC := hS.reads
    simp only [reads_cons, reads_nil] at hC
    go_wp2_with fail
    exact hQ1 _ trivial hB
  · exact ⟨_, rfl⟩
  apply lexDet_step
  · rfl
  · intro b wb hB Q1 hQ1
    go_wp2_with (go_at_call 46; (with_reducible refine (times_det hB HSS.out).mono ?_); rintro e wn ⟨rfl, hN, hM⟩)
    exact hQ1 _ trivial hN
  · exact ⟨_, rfl⟩
  apply lexDet_pure
  · rfl
  · intro b wb hB Q1 hQ1
    have hS := hB
    have hC := hS.reads
    simp only [reads_cons, reads_nil] at hC
    go_wp2_with fail
    exact hQ1 _ trivial hB
  · exact ⟨_, rfl⟩
  apply lexDet_pure
  · rfl
  · intro b wb hB Q1 hQ1
    go_wp2_with fail
    exact hQ1 _ trivial hB
  · exact ⟨_, rfl⟩
  apply lexDet_pure
  · rfl
  · intro b wb hB Q1 hQ1
    go_wp2_with fail
    exact hQ1 _ trivial hB
  · exact ⟨_, rfl⟩
  apply lexDet_pure
  · rfl
  · intro b wb hB Q1 hQ1
    go_wp2_with fail
    exact hQ1 _ trivial hB
  · exact ⟨_, rfl⟩
  apply lexDet_pure
  · rfl
  · intro b wb hB Q1 hQ1
    go_wp2_with fail
    exact hQ1 _ trivial hB
  · exact ⟨_, rfl⟩
  apply lexDet_pure
  · rfl
  · intro b wb hB Q1 hQ1
    go_wp2_with fail
    exact hQ1 _ trivial hB
  · exact ⟨_, rfl⟩
  apply lexDet_pure
  · rfl
  · intro b wb hB Q1 hQ1
    have hS := hB
    have hC := hS.reads
    simp only [reads_cons, reads_nil] at hC
    go_wp2_with fail
    exact hQ1 _ trivial hB
  · exact ⟨_, rfl⟩
  apply lexDet_pure
  · rfl
  · intro b wb hB Q1 hQ1
    go_wp2_with fail
    exact hQ1 _ trivial hB
  · exact ⟨_, rfl⟩
  apply lexDet_pure
  · rfl
  · intro b wb hB Q1 hQ1
    have hS := hB
    have hC := hS.reads
    simp only [reads_cons, reads_nil] at hC
    go_wp2_with fail
    exact hQ1 _ trivial hB
  · exact ⟨_, rfl⟩
  apply lexDet_step
  · rfl
  · intro b wb hB Q1 hQ1
    go_wp2_with (go_at_call 46; (with_reducible refine (times_det hB HTT.out).mono ?_); rintro e wn ⟨rfl, hN, hM⟩)
    exact hQ1 _ trivial hN
  · exact ⟨_, rfl⟩
  apply lexDet_step
  · rfl
  · intro b wb hB Q1 hQ1
    go_wp2_with (go_at_call 54; (with_reducible refine (add_det hB HUU.out).mono ?_); rintro e wn ⟨rfl, hN, hM⟩)
    exact hQ1 _ trivial hN
  · exact ⟨_, rfl⟩
  refine lexDet_zero ?_
  intro wz hz
  rw [HFO.out] at hz
  replace hC := hz.reads
  simp only [reads_cons, reads_nil] at hC
  go_wp2_with fail
  refine bodyPost_ret ?_ rfl ⟨rfl, ?_, ?_⟩
  · simp [results, Tryd.results53, go_sem, hC]
  · refine hB0.call ?_ ?_
    · repeat' (first
        | exact hz.sm
        | refine Sm.setNew ?_ (by simp) _)
    · repeat' (first
        | exact hz.sum
        | refine Box.far ?_ (by simp; omega) _)
  · repeat' (first
      | exact hz.sm
      | refine Sm.setNew ?_ (by simp) _)
theorem or2_true {a b : Bool} (h : (a && b) = false) : (((false || !true) || !a) || !b) = true := by
  cases a <;> cases b <;> first | rfl | cases h
theorem or2_no (a b : Bool) : (((false || !false) || !a) || !b) = true := by simp
set_option maxRecDepth 8000 in
set_option maxHeartbeats 2000000 in
theorem iMatApply (m : M4) (x y : Fr) (w : World) : Calls Tryd.prog 27 #[m.v, jvv x y] w (fun e w' => e = .returned (v2v (mapply m x y)) ∧ Ex w w') := by
  have kx := fun w => iMatValid m w
  have ky := fun w => iJonesValid x y w
  unfold mapply two
  generalize m.valid = vx at *
  generalize (x.valid && y.valid) = vy at *
  obtain ⟨⟨a1, a2, a3⟩, ⟨b1, b2, b3⟩, ⟨c1, c2, c3⟩, ⟨d1, d2, d3⟩⟩ := m
  obtain ⟨x1, x2, x3⟩ := x
  obtain ⟨y1, y2, y3⟩ := y
  simp only [M4.v, jvv] at kx ky ⊢
  rcases hss : finner ⟨a1, a2, a3⟩ ⟨x1, x2, x3⟩ ⟨b1, b2, b3⟩ ⟨y1, y2, y3⟩ with ⟨⟨s1, s2, s3⟩, sk⟩
  rcases htt : finner ⟨c1, c2, c3⟩ ⟨x1, x2, x3⟩ ⟨d1, d2, d3⟩ ⟨y1, y2, y3⟩ with ⟨⟨t1, t2, t3⟩, tk⟩
  simp only
  rcases vx with _ | _
  · simp only [v2v, jvv, Fr.none, Bool.false_and, Bool.and_false, Bool.false_eq_true, if_false]
    have HSS := Lib.hid hss
    have HTT := Lib.hid htt
    have KX := Lib.hid kx
    have KY := Lib.hid ky
    clear hss htt kx ky
    have hS := Sees.refl w
    have hC := True.intro
    go_enter Tryd.func27, Tryd.ntmps27
    go_wp2_with (first | (go_at_call 51; (with_reducible refine (KX.out _).mono ?_); rintro e wn ⟨rfl, hx⟩; replace hS := SeesS.after (W := w) hx; clear hx; (try simp only [World.size_alloc] at hS); replace hC := hS.reads; simp only [reads_cons, reads_nil] at hC) | (go_at_call 52; (with_reducible refine (KY.out _).mono ?_); rintro e wn ⟨rfl, hx⟩; replace hS := SeesS.after (W := w) hx; clear hx; (try simp only [World.size_alloc] at hS); replace hC := hS.reads; simp only [reads_cons, reads_nil] at hC) | (go_at_call 44; (with_reducible refine (need_see w).mono ?_); rintro e wn ⟨rfl, hS⟩; have hC := hS.reads; simp only [reads_cons, reads_nil] at hC))
    refine wp_region_got (St := fun _ _ => True) 6 _ (B := fun b w' => SeesS w w' _ b _) (by kernel_rfl) (by kernel_rfl) ((SeesS.alloc (h := hS)).drewW) (by exact fun _ _ _ _ _ h => h) ?_
    apply lexDet_pure
    · rfl
    · intro b wb hB Q1 hQ1
      have hS := hB
      have hC := hS.reads
      simp only [reads_cons, reads_nil] at hC
      go_wp2_with fail
      exact hQ1 _ trivial hB
    · exact ⟨_, rfl⟩
    apply lexDet_pure
    · rfl
    · intro b wb hB Q1 hQ1
      go_wp2_with fail
      exact hQ1 _ trivial hB
    · exact ⟨_, rfl⟩
    apply lexDet_step
    · rfl
    · intro b wb hB Q1 hQ1
      go_wp2_with (go_at_call 53; (with_reducible refine (row0_det hB HSS.out).mono ?_); rintro e wn ⟨rfl, hN, hM⟩)
      exact hQ1 _ trivial hN
    · exact ⟨_, rfl⟩
    apply lexDet_pure
    · rfl
    · intro b wb hB Q1 hQ1
      go_wp2_with fail
      exact hQ1 _ trivial hB
    · exact ⟨_, rfl⟩
    apply lexDet_step
    · rfl
    · intro b wb hB Q1 hQ1
      go_wp2_with (go_at_call 53; (with_reducible refine (row1_det hB HTT.out).mono ?_); rintro e wn ⟨rfl, hN, hM⟩)
      exact hQ1 _ trivial hN
    · exact ⟨_, rfl⟩
    apply lexDet_pure
    · rfl
    · intro b wb hB Q1 hQ1
      go_wp2_with fail
      exact hQ1 _ trivial hB
    · exact ⟨_, rfl⟩
    refine lexDet_zero ?_
    intro wz hz
    rw [or2_no] at hz
    go_wp2_with (go_at_call 55; (with_reducible refine (gotJones_true _ _ _ _ _ _ _ _ hz.sum).mono ?_); rintro e wn ⟨rfl, hx⟩; have hS := SeesS.ex hz hx; have hC := hS.reads; simp only [reads_cons, reads_nil] at hC; have hE := hS.rel (by omega))
    refine bodyPost_ret ?_ rfl ⟨rfl, ?_⟩
    · simp [results, Tryd.results27, go_sem, hC]
    · repeat' (with_reducible first | exact hE | exact Ex.refl _ | assumption | refine Ex.alloc ?_ _ | refine Ex.drewN ?_ _ | refine Ex.drew ?_ | refine Ex.setCell ?_ (by simp <;> omega) _)
  · rcases vy with _ | _
    · simp only [v2v, jvv, Fr.none, Bool.false_and, Bool.and_false, Bool.false_eq_true, if_false]
      have HSS := Lib.hid hss
      have HTT := Lib.hid htt
      have KX := Lib.hid kx
      have KY := Lib.hid ky
      clear hss htt kx ky
      have hS := Sees.refl w
      have hC := True.intro
      go_enter Tryd.func27, Tryd.ntmps27
      go_wp2_with (first | (go_at_call 51; (with_reducible refine (KX.out _).mono ?_); rintro e wn ⟨rfl, hx⟩; replace hS := SeesS.after (W := w) hx; clear hx; (try simp only [World.size_alloc] at hS); replace hC := hS.reads; simp only [reads_cons, reads_nil] at hC) | (go_at_call 52; (with_reducible refine (KY.out _).mono ?_); rintro e wn ⟨rfl, hx⟩; replace hS := SeesS.after (W := w) hx; clear hx; (try simp only [World.size_alloc] at hS); replace hC := hS.reads; simp only [reads_cons, reads_nil] at hC) | (go_at_call 44; (with_reducible refine (need_see w).mono ?_); rintro e wn ⟨rfl, hS⟩; have hC := hS.reads; simp only [reads_cons, reads_nil] at hC))
      refine wp_region_got (St := fun _ _ => True) 6 _ (B := fun b w' => SeesS w w' _ b _) (by kernel_rfl) (by kernel_rfl) ((SeesS.alloc (h := hS)).drewW) (by exact fun _ _ _ _ _ h => h) ?_
      apply lexDet_pure
      · rfl
      · intro b wb hB Q1 hQ1
        have hS := hB
        have hC := hS.reads
        simp only [reads_cons, reads_nil] at hC
        go_wp2_with fail
        exact hQ1 _ trivial hB
      · exact ⟨_, rfl⟩
      apply lexDet_pure
      · rfl
      · intro b wb hB Q1 hQ1
        go_wp2_with fail
        exact hQ1 _ trivial hB
      · exact ⟨_, rfl⟩
      apply lexDet_step
      · rfl
      · intro b wb hB Q1 hQ1
        go_wp2_with (go_at_call 53; (with_reducible refine (row0_det hB HSS.out).mono ?_); rintro e wn ⟨rfl, hN, hM⟩)
        exact hQ1 _ trivial hN
      · exact ⟨_, rfl⟩
      apply lexDet_pure
      · rfl
      · intro b wb hB Q1 hQ1
        go_wp2_with fail
        exact hQ1 _ trivial hB
      · exact ⟨_, rfl⟩
      apply lexDet_step
      · rfl
      · intro b wb hB Q1 hQ1
        go_wp2_with (go_at_call 53; (with_reducible refine (row1_det hB HTT.out).mono ?_); rintro e wn ⟨rfl, hN, hM⟩)
        exact hQ1 _ trivial hN
      · exact ⟨_, rfl⟩
      apply lexDet_pure
      · rfl
      · intro b wb hB Q1 hQ1
        go_wp2_with fail
        exact hQ1 _ trivial hB
      · exact ⟨_, rfl⟩
      refine lexDet_zero ?_
      intro wz hz
      rw [or2_no] at hz
      go_wp2_with (go_at_call 55; (with_reducible refine (gotJones_true _ _ _ _ _ _ _ _ hz.sum).mono ?_); rintro e wn ⟨rfl, hx⟩; have hS := SeesS.ex hz hx; have hC := hS.reads; simp only [reads_cons, reads_nil] at hC; have hE := hS.rel (by omega))
      refine bodyPost_ret ?_ rfl ⟨rfl, ?_⟩
      · simp [results, Tryd.results27, go_sem, hC]
      · repeat' (with_reducible first | exact hE | exact Ex.refl _ | assumption | refine Ex.alloc ?_ _ | refine Ex.drewN ?_ _ | refine Ex.drew ?_ | refine Ex.setCell ?_ (by simp <;> omega) _)
    · rcases hK : (sk && tk) with _ | _
      · have HK := Lib.hid (or2_true hK)
        have e : (true && true && sk && tk) = false := by rw [Bool.and_self, Bool.true_and]; exact hK
        rw [e]
        simp only [v2v, jvv, Fr.none, Bool.false_eq_true, if_false]
        clear e hK
        have HSS := Lib.hid hss
        have HTT := Lib.hid htt
        have KX := Lib.hid kx
        have KY := Lib.hid ky
        clear hss htt kx ky
        have hS := Sees.refl w
        have hC := True.intro
        go_enter Tryd.func27, Tryd.ntmps27
        go_wp2_with (first | (go_at_call 51; (with_reducible refine (KX.out _).mono ?_); rintro e wn ⟨rfl, hx⟩; replace hS := SeesS.after (W := w) hx; clear hx; (try simp only [World.size_alloc] at hS); replace hC := hS.reads; simp only [reads_cons, reads_nil] at hC) | (go_at_call 52; (with_reducible refine (KY.out _).mono ?_); rintro e wn ⟨rfl, hx⟩; replace hS := SeesS.after (W := w) hx; clear hx; (try simp only [World.size_alloc] at hS); replace hC := hS.reads; simp only [reads_cons, reads_nil] at hC) | (go_at_call 44; (with_reducible refine (need_see w).mono ?_); rintro e wn ⟨rfl, hS⟩; have hC := hS.reads; simp only [reads_cons, reads_nil] at hC))
        refine wp_region_got (St := fun _ _ => True) 6 _ (B := fun b w' => SeesS w w' _ b _) (by kernel_rfl) (by kernel_rfl) ((SeesS.alloc (h := hS)).drewW) (by exact fun _ _ _ _ _ h => h) ?_
        apply lexDet_pure
        · rfl
        · intro b wb hB Q1 hQ1
          have hS := hB
          have hC := hS.reads
          simp only [reads_cons, reads_nil] at hC
          go_wp2_with fail
          exact hQ1 _ trivial hB
        · exact ⟨_, rfl⟩
        apply lexDet_pure
        · rfl
        · intro b wb hB Q1 hQ1
          go_wp2_with fail
          exact hQ1 _ trivial hB
        · exact ⟨_, rfl⟩
        apply lexDet_step
        · rfl
        · intro b wb hB Q1 hQ1
          go_wp2_with (go_at_call 53; (with_reducible refine (row0_det hB HSS.out).mono ?_); rintro e wn ⟨rfl, hN, hM⟩)
          exact hQ1 _ trivial hN
        · exact ⟨_, rfl⟩
        apply lexDet_pure
        · rfl
        · intro b wb hB Q1 hQ1
          go_wp2_with fail
          exact hQ1 _ trivial hB
        · exact ⟨_, rfl⟩
        apply lexDet_step
        · rfl
        · intro b wb hB Q1 hQ1
          go_wp2_with (go_at_call 53; (with_reducible refine (row1_det hB HTT.out).mono ?_); rintro e wn ⟨rfl, hN, hM⟩)
          exact hQ1 _ trivial hN
        · exact ⟨_, rfl⟩
        apply lexDet_pure
        · rfl
        · intro b wb hB Q1 hQ1
          go_wp2_with fail
          exact hQ1 _ trivial hB
        · exact ⟨_, rfl⟩
        refine lexDet_zero ?_
        intro wz hz
        rw [HK.out] at hz
        go_wp2_with (go_at_call 55; (with_reducible refine (gotJones_true _ _ _ _ _ _ _ _ hz.sum).mono ?_); rintro e wn ⟨rfl, hx⟩; have hS := SeesS.ex hz hx; have hC := hS.reads; simp only [reads_cons, reads_nil] at hC; have hE := hS.rel (by omega))
        refine bodyPost_ret ?_ rfl ⟨rfl, ?_⟩
        · simp [results, Tryd.results27, go_sem, hC]
        · repeat' (with_reducible first | exact hE | exact Ex.refl _ | assumption | refine Ex.alloc ?_ _ | refine Ex.drewN ?_ _ | refine Ex.drew ?_ | refine Ex.setCell ?_ (by simp <;> omega) _)
      · simp only [Bool.and_eq_true] at hK
        obtain ⟨rfl, rfl⟩ := hK
        simp only [v2v, jvv, Bool.and_self, if_true]
        have HSS := Lib.hid hss
        have HTT := Lib.hid htt
        have KX := Lib.hid kx
        have KY := Lib.hid ky
        clear hss htt kx ky
        have hS := Sees.refl w
        have hC := True.intro
        go_enter Tryd.func27, Tryd.ntmps27
        go_wp2_with (first | (go_at_call 51; (with_reducible refine (KX.out _).mono ?_); rintro e wn ⟨rfl, hx⟩; replace hS := SeesS.after (W := w) hx; clear hx; (try simp only [World.size_alloc] at hS); replace hC := hS.reads; simp only [reads_cons, reads_nil] at hC) | (go_at_call 52; (with_reducible refine (KY.out _).mono ?_); rintro e wn ⟨rfl, hx⟩; replace hS := SeesS.after (W := w) hx; clear hx; (try simp only [World.size_alloc] at hS); replace hC := hS.reads; simp only [reads_cons, reads_nil] at hC) | (go_at_call 44; (with_reducible refine (need_see w).mono ?_); rintro e wn ⟨rfl, hS⟩; have hC := hS.reads; simp only [reads_cons, reads_nil] at hC))
        refine wp_region_got (St := fun _ _ => True) 6 _ (B := fun b w' => SeesS w w' _ b _) (by kernel_rfl) (by kernel_rfl) ((SeesS.alloc (h := hS)).drewW) (by exact fun _ _ _ _ _ h => h) ?_
        apply lexDet_pure
        · rfl
        · intro b wb hB Q1 hQ1
          have hS := hB
          have hC := hS.reads
          simp only [reads_cons, reads_nil] at hC
          go_wp2_with fail
          exact hQ1 _ trivial hB
        · exact ⟨_, rfl⟩
        apply lexDet_pure
        · rfl
        · intro b wb hB Q1 hQ1
          go_wp2_with fail
          exact hQ1 _ trivial hB
        · exact ⟨_, rfl⟩
        apply lexDet_step
        · rfl
        · intro b wb hB Q1 hQ1
          go_wp2_with (go_at_call 53; (with_reducible refine (row0_det hB HSS.out).mono ?_); rintro e wn ⟨rfl, hN, hM⟩)
          exact hQ1 _ trivial hN
        · exact ⟨_, rfl⟩
        apply lexDet_pure
        · rfl
        · intro b wb hB Q1 hQ1
          go_wp2_with fail
          exact hQ1 _ trivial hB
        · exact ⟨_, rfl⟩
        apply lexDet_step
        · rfl
        · intro b wb hB Q1 hQ1
          go_wp2_with (go_at_call 53; (with_reducible refine (row1_det hB HTT.out).mono ?_); rintro e wn ⟨rfl, hN, hM⟩)
          exact hQ1 _ trivial hN
        · exact ⟨_, rfl⟩
        apply lexDet_pure
        · rfl
        · intro b wb hB Q1 hQ1
          go_wp2_with fail
          exact hQ1 _ trivial hB
        · exact ⟨_, rfl⟩
        refine lexDet_zero ?_
        intro wz hz
        replace hz : SeesS w wz _ false _ := hz
        go_wp2_with (go_at_call 55; (with_reducible refine (gotJones_false _ _ _ _ _ _ _ _ hz.sum).mono ?_); rintro e wn ⟨rfl, hx⟩; have hS := SeesS.ex hz hx; have hC := hS.reads; simp only [reads_cons, reads_nil] at hC; have hE := hS.rel (by omega))
        refine bodyPost_ret ?_ rfl ⟨rfl, ?_⟩
        · simp [results, Tryd.results27, go_sem, hC]
        · repeat' (with_reducible first | exact hE | exact Ex.refl _ | assumption | refine Ex.alloc ?_ _ | refine Ex.drewN ?_ _ | refine Ex.drew ?_ | refine Ex.setCell ?_ (by simp <;> omega) _)
end Go.Proofs.YtmmjkchjgeklnaaDoor
