/-
  Walks: products and adjoints of matrices, filters: the program's.
-/
import Derived.Test.YtmmjkchjgeklnaaDoorMatG
import Derived.Test.YtmmjkchjgeklnaaDoorMatA
namespace Go.Proofs.YtmmjkchjgeklnaaDoor
open Go.RowKit

theorem cell00_det {W w : World} {bs ps pa pb : Nat} {bad : Bool} {r : Nat × TypeId × Array Value} {L : List (Nat × TypeId × Array Value)} {a1 a2 a3 b1 b2 b3 c1 c2 c3 d1 d2 d3 e1 e2 e3 f1 f2 f3 g1 g2 g3 h1 h2 h3 x y z : Int} {k : Bool} (hB : SeesS W w bs bad ((ps, 73, #[.pointer (some ⟨bs, 0, none⟩)]) :: r :: (pb, 54, #[.int .i64 e1, .int .i64 e2, .int .i64 e3, .int .i64 f1, .int .i64 f2, .int .i64 f3, .int .i64 g1, .int .i64 g2, .int .i64 g3, .int .i64 h1, .int .i64 h2, .int .i64 h3]) :: (pa, 54, #[.int .i64 a1, .int .i64 a2, .int .i64 a3, .int .i64 b1, .int .i64 b2, .int .i64 b3, .int .i64 c1, .int .i64 c2, .int .i64 c3, .int .i64 d1, .int .i64 d2, .int .i64 d3]) :: L)) (hr : finner ⟨a1, a2, a3⟩ ⟨e1, e2, e3⟩ ⟨b1, b2, b3⟩ ⟨g1, g2, g3⟩ = (⟨x, y, z⟩, k)) :
    Calls Tryd.prog 75 #[.int .i64 0, .int .i64 0, .pointer (some ⟨ps, 0, none⟩), .pointer (some ⟨pa, 0, none⟩), .pointer (some ⟨pb, 0, none⟩)] w fun e w' => e = .returned (.agg #[.int .i64 x, .int .i64 y, .int .i64 z]) ∧ SeesS W w' bs (bad || !k) ((ps, 73, #[.pointer (some ⟨bs, 0, none⟩)]) :: r :: (pb, 54, #[.int .i64 e1, .int .i64 e2, .int .i64 e3, .int .i64 f1, .int .i64 f2, .int .i64 f3, .int .i64 g1, .int .i64 g2, .int .i64 g3, .int .i64 h1, .int .i64 h2, .int .i64 h3]) :: (pa, 54, #[.int .i64 a1, .int .i64 a2, .int .i64 a3, .int .i64 b1, .int .i64 b2, .int .i64 b3, .int .i64 c1, .int .i64 c2, .int .i64 c3, .int .i64 d1, .int .i64 d2, .int .i64 d3]) :: L) ∧ Sm bs w w' :=
  det_of hB (cell00_any bs bad ⟨a1, a2, a3⟩ ⟨b1, b2, b3⟩ ⟨c1, c2, c3⟩ ⟨d1, d2, d3⟩ ⟨e1, e2, e3⟩ ⟨f1, f2, f3⟩ ⟨g1, g2, g3⟩ ⟨h1, h2, h3⟩ ps pa pb w hB.sum hB.boxes.1 hB.boxes.2.2.2.1 hB.boxes.2.2.1 (hB.far _ (.head _)) (hB.far _ (.tail _ (.tail _ (.tail _ (.head _))))) (hB.far _ (.tail _ (.tail _ (.head _))))) hr
theorem cell01_det {W w : World} {bs ps pa pb : Nat} {bad : Bool} {r : Nat × TypeId × Array Value} {L : List (Nat × TypeId × Array Value)} {a1 a2 a3 b1 b2 b3 c1 c2 c3 d1 d2 d3 e1 e2 e3 f1 f2 f3 g1 g2 g3 h1 h2 h3 x y z : Int} {k : Bool} (hB : SeesS W w bs bad ((ps, 73, #[.pointer (some ⟨bs, 0, none⟩)]) :: r :: (pb, 54, #[.int .i64 e1, .int .i64 e2, .int .i64 e3, .int .i64 f1, .int .i64 f2, .int .i64 f3, .int .i64 g1, .int .i64 g2, .int .i64 g3, .int .i64 h1, .int .i64 h2, .int .i64 h3]) :: (pa, 54, #[.int .i64 a1, .int .i64 a2, .int .i64 a3, .int .i64 b1, .int .i64 b2, .int .i64 b3, .int .i64 c1, .int .i64 c2, .int .i64 c3, .int .i64 d1, .int .i64 d2, .int .i64 d3]) :: L)) (hr : finner ⟨a1, a2, a3⟩ ⟨f1, f2, f3⟩ ⟨b1, b2, b3⟩ ⟨h1, h2, h3⟩ = (⟨x, y, z⟩, k)) :
    Calls Tryd.prog 75 #[.int .i64 0, .int .i64 1, .pointer (some ⟨ps, 0, none⟩), .pointer (some ⟨pa, 0, none⟩), .pointer (some ⟨pb, 0, none⟩)] w fun e w' => e = .returned (.agg #[.int .i64 x, .int .i64 y, .int .i64 z]) ∧ SeesS W w' bs (bad || !k) ((ps, 73, #[.pointer (some ⟨bs, 0, none⟩)]) :: r :: (pb, 54, #[.int .i64 e1, .int .i64 e2, .int .i64 e3, .int .i64 f1, .int .i64 f2, .int .i64 f3, .int .i64 g1, .int .i64 g2, .int .i64 g3, .int .i64 h1, .int .i64 h2, .int .i64 h3]) :: (pa, 54, #[.int .i64 a1, .int .i64 a2, .int .i64 a3, .int .i64 b1, .int .i64 b2, .int .i64 b3, .int .i64 c1, .int .i64 c2, .int .i64 c3, .int .i64 d1, .int .i64 d2, .int .i64 d3]) :: L) ∧ Sm bs w w' :=
  det_of hB (cell01_any bs bad ⟨a1, a2, a3⟩ ⟨b1, b2, b3⟩ ⟨c1, c2, c3⟩ ⟨d1, d2, d3⟩ ⟨e1, e2, e3⟩ ⟨f1, f2, f3⟩ ⟨g1, g2, g3⟩ ⟨h1, h2, h3⟩ ps pa pb w hB.sum hB.boxes.1 hB.boxes.2.2.2.1 hB.boxes.2.2.1 (hB.far _ (.head _)) (hB.far _ (.tail _ (.tail _ (.tail _ (.head _))))) (hB.far _ (.tail _ (.tail _ (.head _))))) hr
theorem cell10_det {W w : World} {bs ps pa pb : Nat} {bad : Bool} {r : Nat × TypeId × Array Value} {L : List (Nat × TypeId × Array Value)} {a1 a2 a3 b1 b2 b3 c1 c2 c3 d1 d2 d3 e1 e2 e3 f1 f2 f3 g1 g2 g3 h1 h2 h3 x y z : Int} {k : Bool} (hB : SeesS W w bs bad ((ps, 73, #[.pointer (some ⟨bs, 0, none⟩)]) :: r :: (pb, 54, #[.int .i64 e1, .int .i64 e2, .int .i64 e3, .int .i64 f1, .int .i64 f2, .int .i64 f3, .int .i64 g1, .int .i64 g2, .int .i64 g3, .int .i64 h1, .int .i64 h2, .int .i64 h3]) :: (pa, 54, #[.int .i64 a1, .int .i64 a2, .int .i64 a3, .int .i64 b1, .int .i64 b2, .int .i64 b3, .int .i64 c1, .int .i64 c2, .int .i64 c3, .int .i64 d1, .int .i64 d2, .int .i64 d3]) :: L)) (hr : finner ⟨c1, c2, c3⟩ ⟨e1, e2, e3⟩ ⟨d1, d2, d3⟩ ⟨g1, g2, g3⟩ = (⟨x, y, z⟩, k)) :
    Calls Tryd.prog 75 #[.int .i64 1, .int .i64 0, .pointer (some ⟨ps, 0, none⟩), .pointer (some ⟨pa, 0, none⟩), .pointer (some ⟨pb, 0, none⟩)] w fun e w' => e = .returned (.agg #[.int .i64 x, .int .i64 y, .int .i64 z]) ∧ SeesS W w' bs (bad || !k) ((ps, 73, #[.pointer (some ⟨bs, 0, none⟩)]) :: r :: (pb, 54, #[.int .i64 e1, .int .i64 e2, .int .i64 e3, .int .i64 f1, .int .i64 f2, .int .i64 f3, .int .i64 g1, .int .i64 g2, .int .i64 g3, .int .i64 h1, .int .i64 h2, .int .i64 h3]) :: (pa, 54, #[.int .i64 a1, .int .i64 a2, .int .i64 a3, .int .i64 b1, .int .i64 b2, .int .i64 b3, .int .i64 c1, .int .i64 c2, .int .i64 c3, .int .i64 d1, .int .i64 d2, .int .i64 d3]) :: L) ∧ Sm bs w w' :=
  det_of hB (cell10_any bs bad ⟨a1, a2, a3⟩ ⟨b1, b2, b3⟩ ⟨c1, c2, c3⟩ ⟨d1, d2, d3⟩ ⟨e1, e2, e3⟩ ⟨f1, f2, f3⟩ ⟨g1, g2, g3⟩ ⟨h1, h2, h3⟩ ps pa pb w hB.sum hB.boxes.1 hB.boxes.2.2.2.1 hB.boxes.2.2.1 (hB.far _ (.head _)) (hB.far _ (.tail _ (.tail _ (.tail _ (.head _))))) (hB.far _ (.tail _ (.tail _ (.head _))))) hr
theorem cell11_det {W w : World} {bs ps pa pb : Nat} {bad : Bool} {r : Nat × TypeId × Array Value} {L : List (Nat × TypeId × Array Value)} {a1 a2 a3 b1 b2 b3 c1 c2 c3 d1 d2 d3 e1 e2 e3 f1 f2 f3 g1 g2 g3 h1 h2 h3 x y z : Int} {k : Bool} (hB : SeesS W w bs bad ((ps, 73, #[.pointer (some ⟨bs, 0, none⟩)]) :: r :: (pb, 54, #[.int .i64 e1, .int .i64 e2, .int .i64 e3, .int .i64 f1, .int .i64 f2, .int .i64 f3, .int .i64 g1, .int .i64 g2, .int .i64 g3, .int .i64 h1, .int .i64 h2, .int .i64 h3]) :: (pa, 54, #[.int .i64 a1, .int .i64 a2, .int .i64 a3, .int .i64 b1, .int .i64 b2, .int .i64 b3, .int .i64 c1, .int .i64 c2, .int .i64 c3, .int .i64 d1, .int .i64 d2, .int .i64 d3]) :: L)) (hr : finner ⟨c1, c2, c3⟩ ⟨f1, f2, f3⟩ ⟨d1, d2, d3⟩ ⟨h1, h2, h3⟩ = (⟨x, y, z⟩, k)) :
    Calls Tryd.prog 75 #[.int .i64 1, .int .i64 1, .pointer (some ⟨ps, 0, none⟩), .pointer (some ⟨pa, 0, none⟩), .pointer (some ⟨pb, 0, none⟩)] w fun e w' => e = .returned (.agg #[.int .i64 x, .int .i64 y, .int .i64 z]) ∧ SeesS W w' bs (bad || !k) ((ps, 73, #[.pointer (some ⟨bs, 0, none⟩)]) :: r :: (pb, 54, #[.int .i64 e1, .int .i64 e2, .int .i64 e3, .int .i64 f1, .int .i64 f2, .int .i64 f3, .int .i64 g1, .int .i64 g2, .int .i64 g3, .int .i64 h1, .int .i64 h2, .int .i64 h3]) :: (pa, 54, #[.int .i64 a1, .int .i64 a2, .int .i64 a3, .int .i64 b1, .int .i64 b2, .int .i64 b3, .int .i64 c1, .int .i64 c2, .int .i64 c3, .int .i64 d1, .int .i64 d2, .int .i64 d3]) :: L) ∧ Sm bs w w' :=
  det_of hB (cell11_any bs bad ⟨a1, a2, a3⟩ ⟨b1, b2, b3⟩ ⟨c1, c2, c3⟩ ⟨d1, d2, d3⟩ ⟨e1, e2, e3⟩ ⟨f1, f2, f3⟩ ⟨g1, g2, g3⟩ ⟨h1, h2, h3⟩ ps pa pb w hB.sum hB.boxes.1 hB.boxes.2.2.2.1 hB.boxes.2.2.1 (hB.far _ (.head _)) (hB.far _ (.tail _ (.tail _ (.tail _ (.head _))))) (hB.far _ (.tail _ (.tail _ (.head _))))) hr
theorem or4_true {a b c d : Bool} (h : (a && b && c && d) = false) : ((((false || !true) || !a) || !b) || !c || !d) = true := by
  cases a <;> cases b <;> cases c <;> cases d <;> first | rfl | cases h
theorem or4_no (a b c d : Bool) : ((((false || !false) || !a) || !b) || !c || !d) = true := by simp
set_option maxRecDepth 8000 in
set_option maxHeartbeats 2000000 in
theorem iMatTimes (x y : M4) (w : World) : Calls Tryd.prog 49 #[x.v, y.v] w (fun e w' => e = .returned (m4v (mtimes x y)) ∧ Ex w w') := by
  have kx := fun w => iMatValid x w
  have ky := fun w => iMatValid y w
  unfold mtimes four
  generalize x.valid = vx at *
  generalize y.valid = vy at *
  obtain ⟨⟨a1, a2, a3⟩, ⟨b1, b2, b3⟩, ⟨c1, c2, c3⟩, ⟨d1, d2, d3⟩⟩ := x
  obtain ⟨⟨e1, e2, e3⟩, ⟨f1, f2, f3⟩, ⟨g1, g2, g3⟩, ⟨h1, h2, h3⟩⟩ := y
  simp only [M4.v] at kx ky ⊢
  rcases hss : (finner ⟨a1, a2, a3⟩ ⟨e1, e2, e3⟩ ⟨b1, b2, b3⟩ ⟨g1, g2, g3⟩) with ⟨⟨s1, s2, s3⟩, sk⟩
  rcases htt : (finner ⟨a1, a2, a3⟩ ⟨f1, f2, f3⟩ ⟨b1, b2, b3⟩ ⟨h1, h2, h3⟩) with ⟨⟨t1, t2, t3⟩, tk⟩
  rcases huu : (finner ⟨c1, c2, c3⟩ ⟨e1, e2, e3⟩ ⟨d1, d2, d3⟩ ⟨g1, g2, g3⟩) with ⟨⟨u1, u2, u3⟩, uk⟩
  rcases hvv : (finner ⟨c1, c2, c3⟩ ⟨f1, f2, f3⟩ ⟨d1, d2, d3⟩ ⟨h1, h2, h3⟩) with ⟨⟨v1, v2, v3⟩, vk⟩
  simp only
  rcases vx with _ | _
  · simp only [m4v, M4.v, M4.none, Fr.none, Bool.false_and, Bool.and_false, Bool.false_eq_true, if_false]
    have HS := Lib.hid hss
    have HT := Lib.hid htt
    have HU := Lib.hid huu
    have HV := Lib.hid hvv
    clear hss htt huu hvv
    have KX := Lib.hid kx
    have KY := Lib.hid ky
    clear kx ky
    have hS := Sees.refl w
    have hC := True.intro
    go_enter Tryd.func49, Tryd.ntmps49
    go_wp2_with (first | (go_at_call 51; (first | (with_reducible refine (KX.out _).mono ?_) | (with_reducible refine (KY.out _).mono ?_)); rintro e wn ⟨rfl, hx⟩; replace hS := SeesS.after (W := w) hx; clear hx; (try simp only [World.size_alloc] at hS); replace hC := hS.reads; simp only [reads_cons, reads_nil] at hC) | (go_at_call 44; (with_reducible refine (need_see w).mono ?_); rintro e wn ⟨rfl, hS⟩; have hC := hS.reads; simp only [reads_cons, reads_nil] at hC))
    refine wp_region_got (St := fun _ _ => True) 11 _ (B := fun b w' => SeesS w w' _ b _) (by kernel_rfl) (by kernel_rfl) ((SeesS.alloc (h := hS)).drewW) (by exact fun _ _ _ _ _ h => h) ?_
    repeat (first
      | (apply lexDet_pure
         · rfl
         · intro b wb hB Q1 hQ1
           have hS := hB
           have hC := hS.reads
           simp only [reads_cons, reads_nil] at hC
           go_wp2_with fail
           exact hQ1 _ trivial hB
         · exact ⟨_, rfl⟩)
      | (apply lexDet_step
         · rfl
         · intro b wb hB Q1 hQ1
           have hS := hB
           have hC := hS.reads
           simp only [reads_cons, reads_nil] at hC
           go_wp2_with (first | (go_at_call 75; (with_reducible refine (cell00_det hB HS.out).mono ?_); rintro e wn ⟨rfl, hN, hM⟩) | (go_at_call 75; (with_reducible refine (cell01_det hB HT.out).mono ?_); rintro e wn ⟨rfl, hN, hM⟩) | (go_at_call 75; (with_reducible refine (cell10_det hB HU.out).mono ?_); rintro e wn ⟨rfl, hN, hM⟩) | (go_at_call 75; (with_reducible refine (cell11_det hB HV.out).mono ?_); rintro e wn ⟨rfl, hN, hM⟩))
           exact hQ1 _ trivial hN
         · exact ⟨_, rfl⟩))
    refine lexDet_zero ?_
    intro wz hz
    rw [or4_no] at hz
    go_wp2_with (go_at_call 45; (with_reducible refine (gotMat_true _ _ _ _ _ _ _ _ _ _ _ _ _ _ hz.sum).mono ?_); rintro e wn ⟨rfl, hx⟩; have hS := SeesS.ex hz hx; have hC := hS.reads; simp only [reads_cons, reads_nil] at hC; have hE := hS.rel (by omega))
    refine bodyPost_ret ?_ rfl ⟨rfl, ?_⟩
    · simp [results, Tryd.results49, go_sem, hC]
    · repeat' (with_reducible first | exact hE | exact Ex.refl _ | assumption | refine Ex.alloc ?_ _ | refine Ex.drewN ?_ _ | refine Ex.drew ?_ | refine Ex.setCell ?_ (by simp <;> omega) _)
  · rcases vy with _ | _
    · simp only [m4v, M4.v, M4.none, Fr.none, Bool.false_and, Bool.and_false, Bool.false_eq_true, if_false]
      have HS := Lib.hid hss
      have HT := Lib.hid htt
      have HU := Lib.hid huu
      have HV := Lib.hid hvv
      clear hss htt huu hvv
      have KX := Lib.hid kx
      have KY := Lib.hid ky
      clear kx ky
      have hS := Sees.refl w
      have hC := True.intro
      go_enter Tryd.func49, Tryd.ntmps49
      go_wp2_with (first | (go_at_call 51; (first | (with_reducible refine (KX.out _).mono ?_) | (with_reducible refine (KY.out _).mono ?_)); rintro e wn ⟨rfl, hx⟩; replace hS := SeesS.after (W := w) hx; clear hx; (try simp only [World.size_alloc] at hS); replace hC := hS.reads; simp only [reads_cons, reads_nil] at hC) | (go_at_call 44; (with_reducible refine (need_see w).mono ?_); rintro e wn ⟨rfl, hS⟩; have hC := hS.reads; simp only [reads_cons, reads_nil] at hC))
      refine wp_region_got (St := fun _ _ => True) 11 _ (B := fun b w' => SeesS w w' _ b _) (by kernel_rfl) (by kernel_rfl) ((SeesS.alloc (h := hS)).drewW) (by exact fun _ _ _ _ _ h => h) ?_
      repeat (first
        | (apply lexDet_pure
           · rfl
           · intro b wb hB Q1 hQ1
             have hS := hB
             have hC := hS.reads
             simp only [reads_cons, reads_nil] at hC
             go_wp2_with fail
             exact hQ1 _ trivial hB
           · exact ⟨_, rfl⟩)
        | (apply lexDet_step
           · rfl
           · intro b wb hB Q1 hQ1
             have hS := hB
             have hC := hS.reads
             simp only [reads_cons, reads_nil] at hC
             go_wp2_with (first | (go_at_call 75; (with_reducible refine (cell00_det hB HS.out).mono ?_); rintro e wn ⟨rfl, hN, hM⟩) | (go_at_call 75; (with_reducible refine (cell01_det hB HT.out).mono ?_); rintro e wn ⟨rfl, hN, hM⟩) | (go_at_call 75; (with_reducible refine (cell10_det hB HU.out).mono ?_); rintro e wn ⟨rfl, hN, hM⟩) | (go_at_call 75; (with_reducible refine (cell11_det hB HV.out).mono ?_); rintro e wn ⟨rfl, hN, hM⟩))
             exact hQ1 _ trivial hN
           · exact ⟨_, rfl⟩))
      refine lexDet_zero ?_
      intro wz hz
      rw [or4_no] at hz
      go_wp2_with (go_at_call 45; (with_reducible refine (gotMat_true _ _ _ _ _ _ _ _ _ _ _ _ _ _ hz.sum).mono ?_); rintro e wn ⟨rfl, hx⟩; have hS := SeesS.ex hz hx; have hC := hS.reads; simp only [reads_cons, reads_nil] at hC; have hE := hS.rel (by omega))
      refine bodyPost_ret ?_ rfl ⟨rfl, ?_⟩
      · simp [results, Tryd.results49, go_sem, hC]
      · repeat' (with_reducible first | exact hE | exact Ex.refl _ | assumption | refine Ex.alloc ?_ _ | refine Ex.drewN ?_ _ | refine Ex.drew ?_ | refine Ex.setCell ?_ (by simp <;> omega) _)
    · rcases hK : (sk && tk && uk && vk) with _ | _
      · have HK := Lib.hid (or4_true hK)
        have e : (true && true && sk && tk && uk && vk) = false := by rw [Bool.and_self, Bool.true_and]; exact hK
        rw [e]
        simp only [m4v, M4.v, M4.none, Fr.none, Bool.false_eq_true, if_false]
        clear e hK
        have HS := Lib.hid hss
        have HT := Lib.hid htt
        have HU := Lib.hid huu
        have HV := Lib.hid hvv
        clear hss htt huu hvv
        have KX := Lib.hid kx
        have KY := Lib.hid ky
        clear kx ky
        have hS := Sees.refl w
        have hC := True.intro
        go_enter Tryd.func49, Tryd.ntmps49
        go_wp2_with (first | (go_at_call 51; (first | (with_reducible refine (KX.out _).mono ?_) | (with_reducible refine (KY.out _).mono ?_)); rintro e wn ⟨rfl, hx⟩; replace hS := SeesS.after (W := w) hx; clear hx; (try simp only [World.size_alloc] at hS); replace hC := hS.reads; simp only [reads_cons, reads_nil] at hC) | (go_at_call 44; (with_reducible refine (need_see w).mono ?_); rintro e wn ⟨rfl, hS⟩; have hC := hS.reads; simp only [reads_cons, reads_nil] at hC))
        refine wp_region_got (St := fun _ _ => True) 11 _ (B := fun b w' => SeesS w w' _ b _) (by kernel_rfl) (by kernel_rfl) ((SeesS.alloc (h := hS)).drewW) (by exact fun _ _ _ _ _ h => h) ?_
        repeat (first
          | (apply lexDet_pure
             · rfl
             · intro b wb hB Q1 hQ1
               have hS := hB
               have hC := hS.reads
               simp only [reads_cons, reads_nil] at hC
               go_wp2_with fail
               exact hQ1 _ trivial hB
             · exact ⟨_, rfl⟩)
          | (apply lexDet_step
             · rfl
             · intro b wb hB Q1 hQ1
               have hS := hB
               have hC := hS.reads
               simp only [reads_cons, reads_nil] at hC
               go_wp2_with (first | (go_at_call 75; (with_reducible refine (cell00_det hB HS.out).mono ?_); rintro e wn ⟨rfl, hN, hM⟩) | (go_at_call 75; (with_reducible refine (cell01_det hB HT.out).mono ?_); rintro e wn ⟨rfl, hN, hM⟩) | (go_at_call 75; (with_reducible refine (cell10_det hB HU.out).mono ?_); rintro e wn ⟨rfl, hN, hM⟩) | (go_at_call 75; (with_reducible refine (cell11_det hB HV.out).mono ?_); rintro e wn ⟨rfl, hN, hM⟩))
               exact hQ1 _ trivial hN
             · exact ⟨_, rfl⟩))
        refine lexDet_zero ?_
        intro wz hz
        rw [HK.out] at hz
        go_wp2_with (go_at_call 45; (with_reducible refine (gotMat_true _ _ _ _ _ _ _ _ _ _ _ _ _ _ hz.sum).mono ?_); rintro e wn ⟨rfl, hx⟩; have hS := SeesS.ex hz hx; have hC := hS.reads; simp only [reads_cons, reads_nil] at hC; have hE := hS.rel (by omega))
        refine bodyPost_ret ?_ rfl ⟨rfl, ?_⟩
        · simp [results, Tryd.results49, go_sem, hC]
        · repeat' (with_reducible first | exact hE | exact Ex.refl _ | assumption | refine Ex.alloc ?_ _ | refine Ex.drewN ?_ _ | refine Ex.drew ?_ | refine Ex.setCell ?_ (by simp <;> omega) _)
      · simp only [Bool.and_eq_true] at hK
        obtain ⟨⟨⟨rfl, rfl⟩, rfl⟩, rfl⟩ := hK
        simp only [m4v, M4.v, Bool.and_self, if_true]
        have HS := Lib.hid hss
        have HT := Lib.hid htt
        have HU := Lib.hid huu
        have HV := Lib.hid hvv
        clear hss htt huu hvv
        have KX := Lib.hid kx
        have KY := Lib.hid ky
        clear kx ky
        have hS := Sees.refl w
        have hC := True.intro
        go_enter Tryd.func49, Tryd.ntmps49
        go_wp2_with (first | (go_at_call 51; (first | (with_reducible refine (KX.out _).mono ?_) | (with_reducible refine (KY.out _).mono ?_)); rintro e wn ⟨rfl, hx⟩; replace hS := SeesS.after (W := w) hx; clear hx; (try simp only [World.size_alloc] at hS); replace hC := hS.reads; simp only [reads_cons, reads_nil] at hC) | (go_at_call 44; (with_reducible refine (need_see w).mono ?_); rintro e wn ⟨rfl, hS⟩; have hC := hS.reads; simp only [reads_cons, reads_nil] at hC))
        refine wp_region_got (St := fun _ _ => True) 11 _ (B := fun b w' => SeesS w w' _ b _) (by kernel_rfl) (by kernel_rfl) ((SeesS.alloc (h := hS)).drewW) (by exact fun _ _ _ _ _ h => h) ?_
        repeat (first
          | (apply lexDet_pure
             · rfl
             · intro b wb hB Q1 hQ1
               have hS := hB
               have hC := hS.reads
               simp only [reads_cons, reads_nil] at hC
               go_wp2_with fail
               exact hQ1 _ trivial hB
             · exact ⟨_, rfl⟩)
          | (apply lexDet_step
             · rfl
             · intro b wb hB Q1 hQ1
               have hS := hB
               have hC := hS.reads
               simp only [reads_cons, reads_nil] at hC
               go_wp2_with (first | (go_at_call 75; (with_reducible refine (cell00_det hB HS.out).mono ?_); rintro e wn ⟨rfl, hN, hM⟩) | (go_at_call 75; (with_reducible refine (cell01_det hB HT.out).mono ?_); rintro e wn ⟨rfl, hN, hM⟩) | (go_at_call 75; (with_reducible refine (cell10_det hB HU.out).mono ?_); rintro e wn ⟨rfl, hN, hM⟩) | (go_at_call 75; (with_reducible refine (cell11_det hB HV.out).mono ?_); rintro e wn ⟨rfl, hN, hM⟩))
               exact hQ1 _ trivial hN
             · exact ⟨_, rfl⟩))
        refine lexDet_zero ?_
        intro wz hz
        replace hz : SeesS w wz _ false _ := hz
        go_wp2_with (go_at_call 45; (with_reducible refine (gotMat_false _ _ _ _ _ _ _ _ _ _ _ _ _ _ hz.sum).mono ?_); rintro e wn ⟨rfl, hx⟩; have hS := SeesS.ex hz hx; have hC := hS.reads; simp only [reads_cons, reads_nil] at hC; have hE := hS.rel (by omega))
        refine bodyPost_ret ?_ rfl ⟨rfl, ?_⟩
        · simp [results, Tryd.results49, go_sem, hC]
        · repeat' (with_reducible first | exact hE | exact Ex.refl _ | assumption | refine Ex.alloc ?_ _ | refine Ex.drewN ?_ _ | refine Ex.drew ?_ | refine Ex.setCell ?_ (by simp <;> omega) _)
theorem or4_yes {a b c d : Bool} (h : (a && b && c && d) = false) : ((((false || !a) || !b) || !c) || !d) = true := by
  cases a <;> cases b <;> cases c <;> cases d <;> first | rfl | cases h
set_option maxRecDepth 8000 in
set_option maxHeartbeats 2000000 in
theorem iMatAdjoint (x : M4) (w : World) : Calls Tryd.prog 50 #[x.v] w (fun e w' => e = .returned (m4v (madj x)) ∧ Ex w w') := by
  unfold madj four
  obtain ⟨⟨a1, a2, a3⟩, ⟨b1, b2, b3⟩, ⟨c1, c2, c3⟩, ⟨d1, d2, d3⟩⟩ := x
  simp only [M4.v]
  rcases hss : fmirror ⟨a1, a2, a3⟩ with ⟨⟨s1, s2, s3⟩, sk⟩
  rcases htt : fmirror ⟨c1, c2, c3⟩ with ⟨⟨t1, t2, t3⟩, tk⟩
  rcases huu : fmirror ⟨b1, b2, b3⟩ with ⟨⟨u1, u2, u3⟩, uk⟩
  rcases hvv : fmirror ⟨d1, d2, d3⟩ with ⟨⟨v1, v2, v3⟩, vk⟩
  simp only
  rcases hK : (sk && tk && uk && vk) with _ | _
  · have HK := Lib.hid (or4_yes hK)
    have e : (true && sk && tk && uk && vk) = false := by rw [Bool.true_and]; exact hK
    rw [e]
    simp only [m4v, M4.v, M4.none, Fr.none, Bool.false_eq_true, if_false]
    clear e hK
    have HS := Lib.hid hss
    have HT := Lib.hid htt
    have HU := Lib.hid huu
    have HV := Lib.hid hvv
    clear hss htt huu hvv
    have hS := Sees.refl w
    have hC := True.intro
    go_enter Tryd.func50, Tryd.ntmps50
    go_wp2_with fail
    refine wp_region_got (St := fun _ _ => True) 23 false (B := fun b w' => SeesS w w' (w.heap.size + 1 + 1) b [(w.heap.size + 1, 54, #[.int .i64 0, .int .i64 0, .int .i64 0, .int .i64 0, .int .i64 0, .int .i64 0, .int .i64 0, .int .i64 0, .int .i64 0, .int .i64 0, .int .i64 0, .int .i64 0]), (w.heap.size, 54, #[.int .i64 a1, .int .i64 a2, .int .i64 a3, .int .i64 b1, .int .i64 b2, .int .i64 b3, .int .i64 c1, .int .i64 c2, .int .i64 c3, .int .i64 d1, .int .i64 d2, .int .i64 d3])]) (by kernel_rfl) (by kernel_rfl) (SeesS.drewW (SeesS.cast (by simp only [World.size_alloc]) (by simp only [World.size_alloc]))) (by exact fun _ _ _ _ _ h => h) ?_
    repeat (first
      | (apply lexDet_pure
         · rfl
         · intro b wb hB Q1 hQ1
           have hS := hB
           have hC := hS.reads
           simp only [reads_cons, reads_nil] at hC
           go_wp2_with fail
           exact hQ1 _ trivial hB
         · exact ⟨_, rfl⟩)
      | (apply lexDet_step
         · rfl
         · intro b wb hB Q1 hQ1
           have hS := hB
           have hC := hS.reads
           simp only [reads_cons, reads_nil] at hC
           go_wp2_with (first | (go_at_call 76; (with_reducible refine (mirror_det hB HS.out).mono ?_); rintro e wn ⟨rfl, hN, hM⟩) | (go_at_call 76; (with_reducible refine (mirror_det hB HT.out).mono ?_); rintro e wn ⟨rfl, hN, hM⟩) | (go_at_call 76; (with_reducible refine (mirror_det hB HU.out).mono ?_); rintro e wn ⟨rfl, hN, hM⟩) | (go_at_call 76; (with_reducible refine (mirror_det hB HV.out).mono ?_); rintro e wn ⟨rfl, hN, hM⟩))
           exact hQ1 _ trivial hN
         · exact ⟨_, rfl⟩))
    refine lexDet_zero ?_
    intro wz hz
    rw [HK.out] at hz
    go_wp2_with (go_at_call 45; (with_reducible refine (gotMat_true _ _ _ _ _ _ _ _ _ _ _ _ _ _ hz.sum).mono ?_); rintro e wn ⟨rfl, hx⟩; have hS := SeesS.ex hz hx; have hC := hS.reads; simp only [reads_cons, reads_nil] at hC; have hE := hS.rel (by omega))
    refine bodyPost_ret ?_ rfl ⟨rfl, ?_⟩
    · simp [results, Tryd.results50, go_sem, hC]
    · repeat' (with_reducible first | exact hE | exact Ex.refl _ | assumption | refine Ex.alloc ?_ _ | refine Ex.drewN ?_ _ | refine Ex.drew ?_ | refine Ex.setCell ?_ (by simp <;> omega) _)
  · simp only [Bool.and_eq_true] at hK
    obtain ⟨⟨⟨rfl, rfl⟩, rfl⟩, rfl⟩ := hK
    simp only [m4v, M4.v, Bool.and_self, if_true]
    have HS := Lib.hid hss
    have HT := Lib.hid htt
    have HU := Lib.hid huu
    have HV := Lib.hid hvv
    clear hss htt huu hvv
    have hS := Sees.refl w
    have hC := True.intro
    go_enter Tryd.func50, Tryd.ntmps50
    go_wp2_with fail
    refine wp_region_got (St := fun _ _ => True) 23 false (B := fun b w' => SeesS w w' (w.heap.size + 1 + 1) b [(w.heap.size + 1, 54, #[.int .i64 0, .int .i64 0, .int .i64 0, .int .i64 0, .int .i64 0, .int .i64 0, .int .i64 0, .int .i64 0, .int .i64 0, .int .i64 0, .int .i64 0, .int .i64 0]), (w.heap.size, 54, #[.int .i64 a1, .int .i64 a2, .int .i64 a3, .int .i64 b1, .int .i64 b2, .int .i64 b3, .int .i64 c1, .int .i64 c2, .int .i64 c3, .int .i64 d1, .int .i64 d2, .int .i64 d3])]) (by kernel_rfl) (by kernel_rfl) (SeesS.drewW (SeesS.cast (by simp only [World.size_alloc]) (by simp only [World.size_alloc]))) (by exact fun _ _ _ _ _ h => h) ?_
    repeat (first
      | (apply lexDet_pure
         · rfl
         · intro b wb hB Q1 hQ1
           have hS := hB
           have hC := hS.reads
           simp only [reads_cons, reads_nil] at hC
           go_wp2_with fail
           exact hQ1 _ trivial hB
         · exact ⟨_, rfl⟩)
      | (apply lexDet_step
         · rfl
         · intro b wb hB Q1 hQ1
           have hS := hB
           have hC := hS.reads
           simp only [reads_cons, reads_nil] at hC
           go_wp2_with (first | (go_at_call 76; (with_reducible refine (mirror_det hB HS.out).mono ?_); rintro e wn ⟨rfl, hN, hM⟩) | (go_at_call 76; (with_reducible refine (mirror_det hB HT.out).mono ?_); rintro e wn ⟨rfl, hN, hM⟩) | (go_at_call 76; (with_reducible refine (mirror_det hB HU.out).mono ?_); rintro e wn ⟨rfl, hN, hM⟩) | (go_at_call 76; (with_reducible refine (mirror_det hB HV.out).mono ?_); rintro e wn ⟨rfl, hN, hM⟩))
           exact hQ1 _ trivial hN
         · exact ⟨_, rfl⟩))
    refine lexDet_zero ?_
    intro wz hz
    replace hz : SeesS w wz _ false _ := hz
    go_wp2_with (go_at_call 45; (with_reducible refine (gotMat_false _ _ _ _ _ _ _ _ _ _ _ _ _ _ hz.sum).mono ?_); rintro e wn ⟨rfl, hx⟩; have hS := SeesS.ex hz hx; have hC := hS.reads; simp only [reads_cons, reads_nil] at hC; have hE := hS.rel (by omega))
    refine bodyPost_ret ?_ rfl ⟨rfl, ?_⟩
    · simp [results, Tryd.results50, go_sem, hC]
    · repeat' (with_reducible first | exact hE | exact Ex.refl _ | assumption | refine Ex.alloc ?_ _ | refine Ex.drewN ?_ _ | refine Ex.drew ?_ | refine Ex.setCell ?_ (by simp <;> omega) _)
end Go.Proofs.YtmmjkchjgeklnaaDoor
