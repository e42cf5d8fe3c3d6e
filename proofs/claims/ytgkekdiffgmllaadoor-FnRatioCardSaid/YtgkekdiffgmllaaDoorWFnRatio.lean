/-
  The walk of the law FnRatio.
-/
import Derived.Test.YtgkekdiffgmllaaDoorRto
import Derived.Test.YtgkekdiffgmllaaDoorDrawV
import Derived.Test.YtgkekdiffgmllaaDoorRead
import Derived.Test.YtgkekdiffgmllaaDoorFrcY
namespace Go.Proofs.YtgkekdiffgmllaaDoor
open Go.RowKit
open Ieee

theorem drawRatioOf (A : Option Addr) (xs : List Int) (cap : Nat) (w : World) (hB : Byts w A xs) (hl : xs.length ≤ 9223372036854775807) (hcap : xs.length ≤ cap) (hcap2 : cap ≤ 9223372036854775807) :
    Calls Tryd.prog 4 #[.slice A xs.length cap] w (DrawnV w) := by
  have ko := fun w hB => l6Open_any A xs cap w hB hl hcap hcap2
  have KO := Lib.hid ko
  clear ko
  go_enter Tryd.func4, Tryd.ntmps4
  go_wp2_with fail
  refine (KO.out _ (hB.alloc _)).mono ?_
  rintro e w1 ⟨bs, cap', rfl, hBs, hbl, hbR, hx, -⟩
  have hsz : (w.alloc (.cells #[.int .i64 0, .int .i64 0, .int .i64 0, .int .i64 0, .int .i64 0, .int .i64 0] 26)).heap.size = w.heap.size + 1 := by
    show (w.heap.push _).size = _
    exact Array.size_push ..
  rw [hsz] at hbR ⊢
  have bR := (Box.new w #[.int .i64 0, .int .i64 0, .int .i64 0, .int .i64 0, .int .i64 0, .int .i64 0] 26).ex hx
  have hE := ((Ex.refl w).alloc (.cells #[.int .i64 0, .int .i64 0, .int .i64 0, .int .i64 0, .int .i64 0, .int .i64 0] 26)).trans hx
  go_wp2_with fail
  refine (l91Jones_any hBs hbl (w.heap.size + 1) cap' 0 w1 hx (by rw [hsz]; omega) hbR (by omega)).mono ?_
  rintro e w2 ⟨x, y, a', rfl, -, hd, -⟩
  replace bR := hd.box _ _ _ (by omega) bR
  replace hE := hd.ex w hE (by omega)
  have cR := bR.cell
  have zR := bR.lt
  have fR := bR.frozen
  obtain ⟨x1, x2, x3⟩ := x
  obtain ⟨y1, y2, y3⟩ := y
  clear hd hBs hbR hx KO hB
  go_wp2
  clear cR zR fR
  have bR2 := put6 bR (.int .i64 x1) (.int .i64 x2) (.int .i64 x3) (.int .i64 y1) (.int .i64 y2) (.int .i64 y3)
  replace hE : Ex w ((((((w2.setCell ⟨w.heap.size, 0, none⟩ (.int .i64 x1)).setCell ⟨w.heap.size, 1, none⟩ (.int .i64 x2)).setCell ⟨w.heap.size, 2, none⟩ (.int .i64 x3)).setCell ⟨w.heap.size, 3, none⟩ (.int .i64 y1)).setCell ⟨w.heap.size, 4, none⟩ (.int .i64 y2)).setCell ⟨w.heap.size, 5, none⟩ (.int .i64 y3)) :=
    (((((hE.setCell (p := ⟨w.heap.size, 0, none⟩) (Nat.le_refl _) _).setCell (p := ⟨w.heap.size, 1, none⟩) (Nat.le_refl _) _).setCell (p := ⟨w.heap.size, 2, none⟩) (Nat.le_refl _) _).setCell (p := ⟨w.heap.size, 3, none⟩) (Nat.le_refl _) _).setCell (p := ⟨w.heap.size, 4, none⟩) (Nat.le_refl _) _).setCell (p := ⟨w.heap.size, 5, none⟩) (Nat.le_refl _) _
  generalize (((((w2.setCell ⟨w.heap.size, 0, none⟩ (.int .i64 x1)).setCell ⟨w.heap.size, 1, none⟩ (.int .i64 x2)).setCell ⟨w.heap.size, 2, none⟩ (.int .i64 x3)).setCell ⟨w.heap.size, 3, none⟩ (.int .i64 y1)).setCell ⟨w.heap.size, 4, none⟩ (.int .i64 y2)).setCell ⟨w.heap.size, 5, none⟩ (.int .i64 y3) = Y at hE bR2 ⊢
  have cR := bR2.cell
  refine bodyPost_ret (v := .agg #[.int .i64 x1, .int .i64 x2, .int .i64 x3, .int .i64 y1, .int .i64 y2, .int .i64 y3]) ?_ rfl ⟨⟨x1, x2, x3⟩, ⟨y1, y2, y3⟩, rfl, hE⟩
  simp [results, Tryd.results4, go_sem, cR]

theorem times_one {x p : Fr} (hx : x.valid = true) (h : ftimes ⟨1, 0, 1⟩ x = (p, true)) : p = x := by
  unfold ftimes at h
  rw [show (⟨1, 0, 1⟩ : Fr).valid = true by decide, hx] at h
  simp only [Bool.and_self, if_true] at h
  obtain ⟨-, -, ⟨xd, -⟩, -⟩ := Fr.valid_out hx
  rw [show (1 * x.re - 0 * x.im) = x.re by omega, show (1 * x.im + 0 * x.re) = x.im by omega, show 1 * x.den = x.den by omega] at h
  have v := flow_val (re := x.re) (im := x.im) xd (by rw [h])
  have k := flow_ok (re := x.re) (im := x.im) xd (by rw [h])
  rw [h] at v k
  exact fr_unique k hx v.1 v.2.1
theorem times_valid {a b p : Fr} (h : ftimes a b = (p, true)) : p.valid = true := by
  unfold ftimes at h
  rcases hv : (a.valid && b.valid) with _ | _
  · rw [hv] at h; simp at h
  rw [hv, if_pos rfl] at h
  rw [Bool.and_eq_true] at hv
  obtain ⟨-, -, ⟨ad, -⟩, -⟩ := Fr.valid_out hv.1
  obtain ⟨-, -, ⟨bd, -⟩, -⟩ := Fr.valid_out hv.2
  have hd : 1 ≤ a.den * b.den := by exact pos_mul ‹_› ‹_›
  have k := flow_ok (re := a.re * b.re - a.im * b.im) (im := a.re * b.im + a.im * b.re) hd (by rw [h])
  rwa [h] at k
theorem over_out {x y o : Fr} (h : fover x y = (o, true)) : o.valid = true ∧ x.valid = true ∧ y.valid = true ∧ fnul y = false := by
  rcases h1 : x.valid with _ | _
  · rw [fover_no1 h1] at h; cases h
  rcases h2 : y.valid with _ | _
  · rw [fover_no2 h2] at h; cases h
  rcases h3 : fnul y with _ | _
  rotate_left
  · rw [fover_no3 h3] at h; cases h
  rcases h4 : (fturn y).2 with _ | _
  · rw [fover_no4 h4] at h; cases h
  rw [fover_ok h1 h2 h3 h4] at h
  exact ⟨times_valid h, rfl, rfl, rfl⟩

set_option maxRecDepth 8000 in
set_option maxHeartbeats 4000000 in
theorem law_FnRatio (v : Value) (w : World) (h : IsBytes w v) (hG : Glob w) : Calls Tryd.prog 3 #[v] w (fun e w' => e = .returned (.bool true) ∧ Ex w w') := by
  obtain ⟨A, cap, xs, rfl, hl, hcap, hcap2, hS, hbs⟩ := h
  have hB : Byts w A xs := ⟨hS, hbs⟩
  clear hS hbs
  by_cases hbig : (1048576 : Int) < xs.length
  · go_enter Tryd.func3, Tryd.ntmps3
    go_wp2
    go_ret
    exact ⟨rfl, Ex.refl _⟩
  · have hS := Sees.refl w
    have hC := True.intro
    go_enter Tryd.func3, Tryd.ntmps3
    go_wp2_with fail
    refine (drawRatioOf A xs cap w hB hl hcap hcap2).mono ?_
    rintro e wd ⟨x, y, rfl, hx⟩
    clear hB hbig
    replace hS := Sees.after (W := w) hx
    replace hG := Glob.after hx
    clear hx
    have hg := hG.reads
    have k1 := fun w (hG : Glob w) => iRatioOf x y w
    have k2 := fun w => sRatioOf x y w
    rcases hov : fover x y with ⟨o, _ | _⟩
    · have e := fover_none (a := x) (b := y) (by rw [hov])
      rw [hov] at e k1 k2
      simp only at e
      subst e
      clear hov
      obtain ⟨x1, x2, x3⟩ := x
      obtain ⟨y1, y2, y3⟩ := y
      simp only [jvv, frv, Fr.v, Fr.none] at k1 k2
      have K1 := Lib.hid k1
      have K2 := Lib.hid k2
      clear k1 k2
      dsimp only at *
      go_wp2_with (first | (go_at_call 5; (with_reducible refine (K1.out _ (by infer_instance)).mono ?_); rintro e wn ⟨rfl, hx⟩; replace hS := Sees.after (W := w) hx; replace hG := Glob.after hx; clear hx; (try simp only [World.size_alloc] at hS); replace hC := hS.reads; simp only [reads_cons, reads_nil] at hC; replace hg := hG.reads) | (go_at_call 6; (with_reducible refine (K2.out _).mono ?_); rintro e wn ⟨rfl, hx⟩; replace hS := Sees.after (W := w) hx; replace hG := Glob.after hx; clear hx; (try simp only [World.size_alloc] at hS); replace hC := hS.reads; simp only [reads_cons, reads_nil] at hC; replace hg := hG.reads))
      refine bodyPost_ret ?_ rfl ⟨rfl, ?_⟩
      · simp [results, Tryd.results3, go_sem, hC]
      · repeat' (with_reducible first | exact hS.ex | exact Ex.refl _ | assumption | refine Ex.alloc ?_ _ | refine Ex.drewN ?_ _ | refine Ex.drew ?_ | refine Ex.setCell ?_ (by simp <;> omega) _)
    · rw [hov] at k1 k2
      obtain ⟨ho, hx, hy, hn⟩ := over_out hov
      have k3 := fun w hG => iRatioVector o w (hG := hG) ho
      have k4 := fun w => FrGot.opn (iFracTimes o y w)
      have k5 := fun w => FrGot.opn (iFracTimes ⟨1, 0, 1⟩ x w)
      rcases hq : ftimes o y with ⟨p, q⟩
      rcases hr : ftimes ⟨1, 0, 1⟩ x with ⟨p2, r⟩
      rw [hq] at k4
      rw [hr] at k5
      rcases q with _ | _
      · clear hov ho hx hy hn hq hr
        obtain ⟨p1, p4, p3⟩ := p
        obtain ⟨q1, q2, q3⟩ := p2
        obtain ⟨x1, x2, x3⟩ := x
        obtain ⟨y1, y2, y3⟩ := y
        obtain ⟨o1, o2, o3⟩ := o
        simp only [jvv, v2v, frv, Fr.v, Fr.none] at k1 k2 k3 k4 k5
        have K1 := Lib.hid k1
        have K2 := Lib.hid k2
        have K3 := Lib.hid k3
        have K4 := Lib.hid k4
        have K5 := Lib.hid k5
        clear k1 k2 k3 k4 k5
        dsimp only at *
        go_wp2_with (first | (go_at_call 5; (with_reducible refine (K1.out _ (by infer_instance)).mono ?_); rintro e wn ⟨rfl, hx⟩; replace hS := Sees.after (W := w) hx; replace hG := Glob.after hx; clear hx; (try simp only [World.size_alloc] at hS); replace hC := hS.reads; simp only [reads_cons, reads_nil] at hC; replace hg := hG.reads) | (go_at_call 6; (with_reducible refine (K2.out _).mono ?_); rintro e wn ⟨rfl, hx⟩; replace hS := Sees.after (W := w) hx; replace hG := Glob.after hx; clear hx; (try simp only [World.size_alloc] at hS); replace hC := hS.reads; simp only [reads_cons, reads_nil] at hC; replace hg := hG.reads) | (go_at_call 7; (with_reducible refine (K3.out _ (by infer_instance)).mono ?_); rintro e wn ⟨rfl, hx⟩; replace hS := Sees.after (W := w) hx; replace hG := Glob.after hx; clear hx; (try simp only [World.size_alloc] at hS); replace hC := hS.reads; simp only [reads_cons, reads_nil] at hC; replace hg := hG.reads) | (go_at_call 8; (first | (with_reducible refine (K4.out _).mono ?_) | (with_reducible refine (K5.out _).mono ?_)); rintro e wn ⟨rfl, hx⟩; replace hS := Sees.after (W := w) hx; replace hG := Glob.after hx; clear hx; (try simp only [World.size_alloc] at hS); replace hC := hS.reads; simp only [reads_cons, reads_nil] at hC; replace hg := hG.reads))
        refine bodyPost_ret ?_ rfl ⟨rfl, ?_⟩
        · simp [results, Tryd.results3, go_sem, hC]
        · repeat' (with_reducible first | exact hS.ex | exact Ex.refl _ | assumption | refine Ex.alloc ?_ _ | refine Ex.drewN ?_ _ | refine Ex.drew ?_ | refine Ex.setCell ?_ (by simp <;> omega) _)
      · rcases r with _ | _
        · clear hov ho hx hy hn hq hr
          obtain ⟨p1, p4, p3⟩ := p
          obtain ⟨q1, q2, q3⟩ := p2
          obtain ⟨x1, x2, x3⟩ := x
          obtain ⟨y1, y2, y3⟩ := y
          obtain ⟨o1, o2, o3⟩ := o
          simp only [jvv, v2v, frv, Fr.v, Fr.none] at k1 k2 k3 k4 k5
          have K1 := Lib.hid k1
          have K2 := Lib.hid k2
          have K3 := Lib.hid k3
          have K4 := Lib.hid k4
          have K5 := Lib.hid k5
          clear k1 k2 k3 k4 k5
          dsimp only at *
          go_wp2_with (first | (go_at_call 5; (with_reducible refine (K1.out _ (by infer_instance)).mono ?_); rintro e wn ⟨rfl, hx⟩; replace hS := Sees.after (W := w) hx; replace hG := Glob.after hx; clear hx; (try simp only [World.size_alloc] at hS); replace hC := hS.reads; simp only [reads_cons, reads_nil] at hC; replace hg := hG.reads) | (go_at_call 6; (with_reducible refine (K2.out _).mono ?_); rintro e wn ⟨rfl, hx⟩; replace hS := Sees.after (W := w) hx; replace hG := Glob.after hx; clear hx; (try simp only [World.size_alloc] at hS); replace hC := hS.reads; simp only [reads_cons, reads_nil] at hC; replace hg := hG.reads) | (go_at_call 7; (with_reducible refine (K3.out _ (by infer_instance)).mono ?_); rintro e wn ⟨rfl, hx⟩; replace hS := Sees.after (W := w) hx; replace hG := Glob.after hx; clear hx; (try simp only [World.size_alloc] at hS); replace hC := hS.reads; simp only [reads_cons, reads_nil] at hC; replace hg := hG.reads) | (go_at_call 8; (first | (with_reducible refine (K4.out _).mono ?_) | (with_reducible refine (K5.out _).mono ?_)); rintro e wn ⟨rfl, hx⟩; replace hS := Sees.after (W := w) hx; replace hG := Glob.after hx; clear hx; (try simp only [World.size_alloc] at hS); replace hC := hS.reads; simp only [reads_cons, reads_nil] at hC; replace hg := hG.reads))
          refine bodyPost_ret ?_ rfl ⟨rfl, ?_⟩
          · simp [results, Tryd.results3, go_sem, hC]
          · repeat' (with_reducible first | exact hS.ex | exact Ex.refl _ | assumption | refine Ex.alloc ?_ _ | refine Ex.drewN ?_ _ | refine Ex.drew ?_ | refine Ex.setCell ?_ (by simp <;> omega) _)
        · have e1 := fover_times hov hq
          have e2 := times_one hx hr
          rw [e1] at hq k4
          rw [e2] at hr k5
          clear e1 e2
          have k6 := fun w hG => alike_yes o x y w (hG := hG) ho hx hy hn hq hr
          clear hov ho hx hy hn hq hr
          obtain ⟨x1, x2, x3⟩ := x
          obtain ⟨y1, y2, y3⟩ := y
          obtain ⟨o1, o2, o3⟩ := o
          simp only [jvv, v2v, frv, Fr.v, Fr.none] at k1 k2 k3 k4 k5 k6
          have K1 := Lib.hid k1
          have K2 := Lib.hid k2
          have K3 := Lib.hid k3
          have K4 := Lib.hid k4
          have K5 := Lib.hid k5
          have K6 := Lib.hid k6
          clear k1 k2 k3 k4 k5 k6
          dsimp only at *
          go_wp2_with (first | (go_at_call 5; (with_reducible refine (K1.out _ (by infer_instance)).mono ?_); rintro e wn ⟨rfl, hx⟩; replace hS := Sees.after (W := w) hx; replace hG := Glob.after hx; clear hx; (try simp only [World.size_alloc] at hS); replace hC := hS.reads; simp only [reads_cons, reads_nil] at hC; replace hg := hG.reads) | (go_at_call 6; (with_reducible refine (K2.out _).mono ?_); rintro e wn ⟨rfl, hx⟩; replace hS := Sees.after (W := w) hx; replace hG := Glob.after hx; clear hx; (try simp only [World.size_alloc] at hS); replace hC := hS.reads; simp only [reads_cons, reads_nil] at hC; replace hg := hG.reads) | (go_at_call 7; (with_reducible refine (K3.out _ (by infer_instance)).mono ?_); rintro e wn ⟨rfl, hx⟩; replace hS := Sees.after (W := w) hx; replace hG := Glob.after hx; clear hx; (try simp only [World.size_alloc] at hS); replace hC := hS.reads; simp only [reads_cons, reads_nil] at hC; replace hg := hG.reads) | (go_at_call 8; (first | (with_reducible refine (K4.out _).mono ?_) | (with_reducible refine (K5.out _).mono ?_)); rintro e wn ⟨rfl, hx⟩; replace hS := Sees.after (W := w) hx; replace hG := Glob.after hx; clear hx; (try simp only [World.size_alloc] at hS); replace hC := hS.reads; simp only [reads_cons, reads_nil] at hC; replace hg := hG.reads) | (go_at_call 9; (with_reducible refine (K6.out _ (by infer_instance)).mono ?_); rintro e wn ⟨rfl, hx⟩; replace hS := Sees.after (W := w) hx; replace hG := Glob.after hx; clear hx; (try simp only [World.size_alloc] at hS); replace hC := hS.reads; simp only [reads_cons, reads_nil] at hC; replace hg := hG.reads))
          refine bodyPost_ret ?_ rfl ⟨rfl, ?_⟩
          · simp [results, Tryd.results3, go_sem, hC]
          · repeat' (with_reducible first | exact hS.ex | exact Ex.refl _ | assumption | refine Ex.alloc ?_ _ | refine Ex.drewN ?_ _ | refine Ex.drew ?_ | refine Ex.setCell ?_ (by simp <;> omega) _)
end Go.Proofs.YtgkekdiffgmllaaDoor
