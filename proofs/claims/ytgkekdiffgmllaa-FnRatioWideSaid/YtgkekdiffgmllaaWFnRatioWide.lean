/-
  The walk of the law FnRatioWide.
-/
import Derived.Test.YtgkekdiffgmllaaRatW
import Derived.Test.YtgkekdiffgmllaaDrawV
import Derived.Test.YtgkekdiffgmllaaRead
namespace Go.Proofs.Ytgkekdiffgmllaa
open Go.RowKit
open Ieee

theorem drawRatioWide (A : Option Addr) (xs : List Int) (cap : Nat) (w : World) (hB : Byts w A xs) (hl : xs.length ≤ 9223372036854775807) (hcap : xs.length ≤ cap) (hcap2 : cap ≤ 9223372036854775807) :
    Calls Try.prog 14 #[.slice A xs.length cap] w (DrawnV w) := by
  have ko := fun w hB => l6Open_any A xs cap w hB hl hcap hcap2
  have KO := Lib.hid ko
  clear ko
  go_enter Try.func14, Try.ntmps14
  go_wp2_with fail
  refine (KO.out _ (hB.alloc _)).mono ?_
  rintro e w1 ⟨bs, cap', rfl, hBs, hbl, hbR, hx, -⟩
  have hsz : (w.alloc (.cells #[.int .i64 0, .int .i64 0, .int .i64 0, .int .i64 0, .int .i64 0, .int .i64 0] 26)).heap.size = w.heap.size + 1 := by
    show (w.heap.push _).size = _
    exact Array.size_push ..
  rw [hsz] at hbR ⊢
  have bR := (Box.new w #[.int .i64 0, .int .i64 0, .int .i64 0, .int .i64 0, .int .i64 0, .int .i64 0] 26).ex hx
  have hE := ((Ex.refl w).alloc (.cells #[.int .i64 0, .int .i64 0, .int .i64 0, .int .i64 0, .int .i64 0, .int .i64 0] 26)).trans hx
  go_wp2_with fail
  refine (l91Jones_any hBs hbl (w.heap.size + 1) cap' 0 w1 hx (by rw [hsz]; omega) hbR (by omega)).mono ?_
  rintro e w2 ⟨x, y, a', rfl, -, hd, -⟩
  replace bR := hd.box _ _ _ (by omega) bR
  replace hE := hd.ex w hE (by omega)
  have cR := bR.cell
  have zR := bR.lt
  have fR := bR.frozen
  obtain ⟨x1, x2, x3⟩ := x
  obtain ⟨y1, y2, y3⟩ := y
  clear hd hBs hbR hx KO hB
  go_wp2
  clear cR zR fR
  have bR2 := put6 bR (.int .i64 x1) (.int .i64 x2) (.int .i64 x3) (.int .i64 y1) (.int .i64 y2) (.int .i64 y3)
  replace hE : Ex w ((((((w2.setCell ⟨w.heap.size, 0, none⟩ (.int .i64 x1)).setCell ⟨w.heap.size, 1, none⟩ (.int .i64 x2)).setCell ⟨w.heap.size, 2, none⟩ (.int .i64 x3)).setCell ⟨w.heap.size, 3, none⟩ (.int .i64 y1)).setCell ⟨w.heap.size, 4, none⟩ (.int .i64 y2)).setCell ⟨w.heap.size, 5, none⟩ (.int .i64 y3)) :=
    (((((hE.setCell (p := ⟨w.heap.size, 0, none⟩) (Nat.le_refl _) _).setCell (p := ⟨w.heap.size, 1, none⟩) (Nat.le_refl _) _).setCell (p := ⟨w.heap.size, 2, none⟩) (Nat.le_refl _) _).setCell (p := ⟨w.heap.size, 3, none⟩) (Nat.le_refl _) _).setCell (p := ⟨w.heap.size, 4, none⟩) (Nat.le_refl _) _).setCell (p := ⟨w.heap.size, 5, none⟩) (Nat.le_refl _) _
  generalize (((((w2.setCell ⟨w.heap.size, 0, none⟩ (.int .i64 x1)).setCell ⟨w.heap.size, 1, none⟩ (.int .i64 x2)).setCell ⟨w.heap.size, 2, none⟩ (.int .i64 x3)).setCell ⟨w.heap.size, 3, none⟩ (.int .i64 y1)).setCell ⟨w.heap.size, 4, none⟩ (.int .i64 y2)).setCell ⟨w.heap.size, 5, none⟩ (.int .i64 y3) = Y at hE bR2 ⊢
  have cR := bR2.cell
  refine bodyPost_ret (v := .agg #[.int .i64 x1, .int .i64 x2, .int .i64 x3, .int .i64 y1, .int .i64 y2, .int .i64 y3]) ?_ rfl ⟨⟨x1, x2, x3⟩, ⟨y1, y2, y3⟩, rfl, hE⟩
  simp [results, Try.results14, go_sem, cR]
/-- Two complex numbers, part by part. -/
def ceq (a b c d : Nat) : Bool := (double.order a c == some .eq) && (double.order b d == some .eq)
theorem run_ceq (a b c d : Nat) : ∀ t w, (binOp .eql t (.complex .f64 a b) (.complex .f64 c d)).run Try.prog w = .ok (.bool (ceq a b c d)) w := by
  intro t w
  obtain ⟨r1, e1⟩ := run_ccmp_eql (P := Try.prog) w a c
  simp [binOp, Op.complexOp, Op.Complex.cmp, Op.floatCmp, asBool, ceq]
  rfl
theorem run_cne (a b c d : Nat) : ∀ t w, (binOp .neq t (.complex .f64 a b) (.complex .f64 c d)).run Try.prog w = .ok (.bool (!ceq a b c d)) w := by
  intro t w
  simp [binOp, Op.complexOp, Op.Complex.cmp, Op.floatCmp, asBool, ceq]
  rfl
/-- Where the second vector is one, the quotient is the first. -/
theorem over_one {a b c d p q : Nat} (ha : Fin64 a) (hb : Fin64 b) (hc : Fin64 c) (hd : Fin64 d) (h : ceq c d 4607182418800017408 0 = true) (hp : Rel p (qopt a b c d).1) (hq : Rel q (qopt a b c d).2) : ceq p q a b = true := by
  unfold ceq at h ⊢
  simp only [Bool.and_eq_true, beq_iff_eq] at h ⊢
  have e1 := eq_one hc h.1
  have e2 := eq_zer hd h.2
  subst e1
  obtain ⟨e, f, hqo, l1, l2⟩ := qopt_one ha hb e2
  rw [hqo] at hp hq
  have hp' : p = e := hp
  have hq' : q = f := hq
  rw [hp', hq']
  exact ⟨order_like ha l1, order_like hb l2⟩

set_option maxRecDepth 4000 in
set_option maxHeartbeats 2000000 in
theorem law_FnRatioWide (v : Value) (w : World) (h : IsBytes w v) : Calls Try.prog 3 #[v] w fun e w' => e = .returned (.bool true) ∧ Ex w w' := by
  obtain ⟨A, cap, xs, rfl, hl, hcap, hcap2, hS, hbs⟩ := h
  have hB : Byts w A xs := ⟨hS, hbs⟩
  clear hS hbs
  by_cases hbig : (1048576 : Int) < xs.length
  · go_enter Try.func3, Try.ntmps3
    go_wp2
    go_ret
    exact ⟨rfl, Ex.refl _⟩
  go_enter Try.func3, Try.ntmps3
  go_wp2_with fail
  refine (drawRatioWide A xs cap w hB hl hcap hcap2).mono ?_
  rintro e w1 ⟨x, y, rfl, hE⟩
  clear hB hbig
  have ki := fun w => iRatioWide x y w
  have ks := fun w => sRatioWide x y w
  unfold RatG at ki ks
  have kj := fun w => iJonesWide x y w
  rcases hv : (x.valid && y.valid) with _ | _
  · simp only [hv] at ki ks
    clear kj hv
    obtain ⟨x1, x2, x3⟩ := x
    obtain ⟨y1, y2, y3⟩ := y
    unfold jv at ki ks
    have KI := Lib.hid ki
    have KS := Lib.hid ks
    clear ki ks
    dsimp only at KI KS ⊢
    go_wp2_with fail
    refine (KI.out _).mono ?_
    rintro e w2 ⟨p, q, rfl, hx, h0, -⟩
    obtain ⟨rfl, rfl⟩ := h0 trivial
    have bV := (Box.new _ _ _).ex hx
    have cV := bV.cell
    replace hE := (hE.alloc _).trans hx
    clear hx
    go_wp2_with fail
    refine (KS.out _).mono ?_
    rintro e w3 ⟨p, q, rfl, hx, h0, -⟩
    obtain ⟨rfl, rfl⟩ := h0 trivial
    replace hE := hE.trans hx
    clear hx
    have ka := fun w => wideAlike_rel (a := 0) (b := 0) (c := 0) (d := 0) (o := some 0) (o' := some 0) rfl rfl rfl rfl w
    have KA := Lib.hid ka
    clear ka
    go_wp2_with fail
    refine (KA.out _).mono ?_
    rintro e w4 ⟨rfl, rfl⟩
    go_wp2_with fail
    refine (KA.out _).mono ?_
    rintro e w5 ⟨rfl, rfl⟩
    go_wp2
    go_ret
    exact ⟨rfl, hE⟩
  · simp only [hv] at ki ks
    have hr : jwide x y = ((wpart x.re x.den, wpart x.im x.den, wpart y.re y.den, wpart y.im y.den), true) := by simp [jwide, hv]
    rw [hr] at kj
    rw [Bool.and_eq_true] at hv
    obtain ⟨f1, f2⟩ := fin_parts hv.1
    obtain ⟨f3, f4⟩ := fin_parts hv.2
    clear hr hv
    generalize wpart x.re x.den = p1 at *
    generalize wpart x.im x.den = p2 at *
    generalize wpart y.re y.den = q1 at *
    generalize wpart y.im y.den = q2 at *
    have kw := fun w => iWideOver f1 f2 f3 f4 w
    have kone := fun p q => over_one (p := p) (q := q) f1 f2 f3 f4
    have o1 := run_cne q1 q2 4607182418800017408 0
    have o2 := fun p q => run_ceq p q p1 p2
    generalize qopt p1 p2 q1 q2 = o at ki ks kw kone
    generalize hc : ceq q1 q2 4607182418800017408 0 = isOne at kone o1
    clear f1 f2 f3 f4 hc
    obtain ⟨x1, x2, x3⟩ := x
    obtain ⟨y1, y2, y3⟩ := y
    unfold jv at ki ks kj
    have KI := Lib.hid ki
    have KS := Lib.hid ks
    have KJ := Lib.hid kj
    have KW := Lib.hid kw
    have KO := Lib.hid kone
    clear ki ks kj kw kone
    dsimp only at KI KS KJ ⊢
    go_wp2_with fail
    refine (KI.out _).mono ?_
    rintro e w2 ⟨p, q, rfl, hx, -, h1⟩
    obtain ⟨r1, r2⟩ := h1 trivial
    have bV := (Box.new _ _ _).ex hx
    replace hE := (hE.alloc _).trans hx
    have cV := bV.cell
    clear hx h1
    go_wp2_with fail
    refine (KS.out _).mono ?_
    rintro e w3 ⟨p', q', rfl, hx, -, h1⟩
    obtain ⟨r3, r4⟩ := h1 trivial
    replace bV := bV.ex hx
    replace cV := bV.cell
    replace hE := hE.trans hx
    clear hx h1
    have ka := fun w => wideAlike_rel r1 r3 r2 r4 w
    have KA := Lib.hid ka
    clear ka r3 r4
    go_wp2_with fail
    refine (KA.out _).mono ?_
    rintro e w4 ⟨rfl, rfl⟩
    go_wp2_with fail
    refine (KJ.out _).mono ?_
    rintro e w5 ⟨rfl, hx⟩
    replace hE := hE.trans hx
    clear hx cV bV
    go_wp2_with fail
    refine (KW.out _).mono ?_
    rintro e w6 ⟨p'', q'', rfl, hx, r5, r6⟩
    replace hE := hE.trans hx
    clear hx
    have ka := fun w => wideAlike_rel r5 r1 r6 r2 w
    have KB := Lib.hid ka
    clear ka r5 r6 KA
    go_wp2_with fail
    refine (KB.out _).mono ?_
    rintro e w7 ⟨rfl, rfl⟩
    have kq := fun h => KO.out p q h r1 r2
    have o3 := o2 p q
    clear o2 KO r1 r2
    rcases isOne with _ | _
    · go_wp2_with (simp only [o1, o3])
      go_ret
      exact ⟨rfl, hE⟩
    · rw [kq rfl] at o3
      go_wp2_with (simp only [o1, o3])
      go_ret
      exact ⟨rfl, hE⟩
end Go.Proofs.Ytgkekdiffgmllaa
