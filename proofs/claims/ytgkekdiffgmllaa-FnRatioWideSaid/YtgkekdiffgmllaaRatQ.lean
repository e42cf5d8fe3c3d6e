/-
  Complex quotients of finite floats: what they give, up to the bits of a NaN. No program in sight.
-/
import Derived.Test.YtgkekdiffgmllaaLib
import Derived.Test.YtgkekdiffgmllaaRatP
import Derived.Laws.ComplexQuo
namespace Go.Proofs.Ytgkekdiffgmllaa
open Go.RowKit Ieee

/-- The word is that one; 'none': it is a NaN. -/
def Rel (x : Nat) : Option Nat → Prop
  | some v => x = v
  | none => Op.Complex.isNaN x = true
def ob (op : BinOp) (x y : Option Nat) : Option Nat := x.bind fun a => y.bind fun b => floatBits op .f64 a b
def onan : Option Nat → Bool
  | some v => Op.Complex.isNaN v
  | none => true
theorem Rel.nan {x : Nat} {o : Option Nat} (h : Rel x o) : Op.Complex.isNaN x = onan o := by
  cases o with
  | none => exact h
  | some v => rw [show x = v from h]; rfl
theorem nan_read {x : Nat} (h : Op.Complex.isNaN x = true) : ∃ s t, double.read x = .nan s t := by
  unfold Op.Complex.isNaN FloatKind.decode at h
  have e : FloatKind.f64.format = double := rfl
  rw [e] at h
  cases hr : double.read x with
  | number s m i => rw [hr] at h; cases h
  | infinity s => rw [hr] at h; cases h
  | nan s t => exact ⟨s, t, rfl⟩
theorem fb_nan_left (op : BinOp) {x : Nat} (y : Nat) (h : Op.Complex.isNaN x = true) : floatBits op .f64 x y = none := by
  obtain ⟨s, t, hr⟩ := nan_read h
  have e : FloatKind.f64.format = double := rfl
  cases op <;> simp [floatBits, e, Format.add, Format.sub, Format.mul, Format.div, hr, Datum.sum, Datum.product, Datum.quotient]
theorem fb_nan_right (op : BinOp) (x : Nat) {y : Nat} (h : Op.Complex.isNaN y = true) : floatBits op .f64 x y = none := by
  obtain ⟨s, t, hr⟩ := nan_read h
  have e : FloatKind.f64.format = double := rfl
  cases op <;> simp [floatBits, e, Format.add, Format.sub, Format.mul, Format.div, hr]
  all_goals cases double.read x <;> simp [Datum.sum, Datum.product, Datum.quotient, Datum.opposite]
theorem cut_nan (x y t : Nat) : Op.Complex.isNaN ((Question.nanBits .f64 x y).cut t) = true := by
  have hB : double.binade = 4503599627370496 := by decide
  have hI : double.infRung = 9218868437227405312 := by decide
  have hS : double.signWeight = 9223372036854775808 := by decide
  unfold Op.Complex.isNaN FloatKind.decode
  have e : FloatKind.f64.format = double := rfl
  rw [e]
  unfold Format.read
  simp only [Question.cut, hB, hI, hS]
  have h1 : t / 2 % (2 ^ 52 - 1) < 2 ^ 52 - 1 := Nat.mod_lt _ (by decide)
  have h2 : (t % 2 * 2 ^ 63 + 9218868437227405312 + 1 + t / 2 % (2 ^ 52 - 1)) % 9223372036854775808 = 9218868437227405312 + 1 + t / 2 % (2 ^ 52 - 1) := by
    have : t % 2 = 0 ∨ t % 2 = 1 := by omega
    rcases this with h | h <;> rw [h] <;> omega
  rw [h2, if_neg (by omega), if_neg (by omega), if_neg (by omega)]
  rfl
section
variable {P : Program}
theorem arith_rel (op : BinOp) (hop : op = .add ∨ op = .sub ∨ op = .mul ∨ op = .quo) {x y : Nat} {ox oy : Option Nat} (hx : Rel x ox) (hy : Rel y oy) (w : World) :
    ∃ r w', (Op.Complex.arith op .f64 x y).run P w = .ok r w' ∧ Ex w w' ∧ Rel r (ob op ox oy) := by
  cases hf : floatBits op .f64 x y with
  | some r =>
    refine ⟨r, w, run_carith w hf, Ex.refl _, ?_⟩
    cases ox with
    | none => rw [fb_nan_left op y hx] at hf; cases hf
    | some a =>
      cases oy with
      | none => rw [fb_nan_right op x hy] at hf; cases hf
      | some b =>
        have e1 : x = a := hx
        have e2 : y = b := hy
        subst e1 e2
        show Rel r (floatBits op .f64 x y)
        rw [hf]
        rfl
  | none =>
    have ho : ob op ox oy = none := by
      cases ox with
      | none => rfl
      | some a =>
        cases oy with
        | none => rfl
        | some b =>
          have e1 : x = a := hx
          have e2 : y = b := hy
          subst e1 e2
          exact hf
    rw [ho]
    refine ⟨(Question.nanBits .f64 x y).cut (w.tape w.drawn (.nanBits .f64 x y)), w.drew, ?_, (Ex.refl _).drew, cut_nan _ _ _⟩
    rcases hop with rfl | rfl | rfl | rfl
    all_goals
      simp only [floatBits] at hf
      simp [Op.Complex.arith, Op.floatArith, hf, Question.forced]
theorem fin_plain {x : Nat} (h : Fin64 x) : Op.Complex.isNaN x = false ∧ Op.Complex.isInf x = false := by
  obtain ⟨-, s, m, i, hr⟩ := h
  have e : FloatKind.f64.format = double := rfl
  unfold Op.Complex.isNaN Op.Complex.isInf FloatKind.decode
  rw [e, hr]
  exact ⟨rfl, rfl⟩
def q1 (a b c d : Nat) : Option Nat × Option Nat :=
  if absGe c d then
    (ob .quo (ob .add (some a) (ob .mul (some b) (ob .quo (some d) (some c)))) (ob .add (some c) (ob .mul (ob .quo (some d) (some c)) (some d))),
     ob .quo (ob .sub (some b) (ob .mul (some a) (ob .quo (some d) (some c)))) (ob .add (some c) (ob .mul (ob .quo (some d) (some c)) (some d))))
  else
    (ob .quo (ob .add (ob .mul (some a) (ob .quo (some c) (some d))) (some b)) (ob .add (some d) (ob .mul (ob .quo (some c) (some d)) (some c))),
     ob .quo (ob .sub (ob .mul (some b) (ob .quo (some c) (some d))) (some a)) (ob .add (some d) (ob .mul (ob .quo (some c) (some d)) (some c))))
def zer2 (c d : Nat) : Bool := (double.order c 0 == some .eq) && (double.order d 0 == some .eq)
/-- What a quotient of finite parts gives. -/
def qopt (a b c d : Nat) : Option Nat × Option Nat :=
  if !(onan (q1 a b c d).1 && onan (q1 a b c d).2) then q1 a b c d
  else if zer2 c d then (ob .mul (some (Op.Complex.copysign Op.Complex.inf c)) (some a), ob .mul (some (Op.Complex.copysign Op.Complex.inf c)) (some b))
  else q1 a b c d
theorem run_cmp_eql0 (x : Nat) (w : World) : (Op.Complex.cmp .eql .f64 x 0).run P w = .ok (double.order x 0 == some .eq) w := by
  simp [Op.Complex.cmp, Op.floatCmp, asBool]
  rfl
def tailQ (a b c d e f : Nat) : Sem (Nat × Nat) := do
  let zero := (← Op.Complex.cmp .eql .f64 c 0) && (← Op.Complex.cmp .eql .f64 d 0)
  if !(Op.Complex.isNaN e && Op.Complex.isNaN f) then pure (e, f)
  else if zero && (!Op.Complex.isNaN a || !Op.Complex.isNaN b) then
    pure (← Op.Complex.mul (Op.Complex.copysign Op.Complex.inf c) a, ← Op.Complex.mul (Op.Complex.copysign Op.Complex.inf c) b)
  else if (Op.Complex.isInf a || Op.Complex.isInf b) && Op.Complex.isFinite c && Op.Complex.isFinite d then
    Op.Complex.corrected Op.Complex.inf (Op.Complex.inf2one a) (Op.Complex.inf2one b) c d
  else if (Op.Complex.isInf c || Op.Complex.isInf d) && Op.Complex.isFinite a && Op.Complex.isFinite b then
    Op.Complex.corrected 0 a b (Op.Complex.inf2one c) (Op.Complex.inf2one d)
  else pure (e, f)
theorem mul2_rel (k a b : Nat) (w : World) :
    ∃ x y w2, Sem.run P (do
      let x ← Op.Complex.mul k a
      let y ← Op.Complex.mul k b
      pure (x, y)) w = .ok (x, y) w2 ∧ Ex w w2 ∧ Rel x (ob .mul (some k) (some a)) ∧ Rel y (ob .mul (some k) (some b)) := by
  obtain ⟨x, w1, g1, x1, r1⟩ := arith_rel (P := P) .mul (.inr (.inr (.inl rfl))) (show Rel k (some k) from rfl) (show Rel a (some a) from rfl) w
  obtain ⟨y, w2, g2, x2, r2⟩ := arith_rel (P := P) .mul (.inr (.inr (.inl rfl))) (show Rel k (some k) from rfl) (show Rel b (some b) from rfl) w1
  refine ⟨x, y, w2, ?_, x1.trans x2, r1, r2⟩
  rw [Sem.run_bind, show Op.Complex.mul k a = Op.Complex.arith .mul .f64 k a from rfl, g1, Result.andThen_ok]
  rw [Sem.run_bind, show Op.Complex.mul k b = Op.Complex.arith .mul .f64 k b from rfl, g2, Result.andThen_ok]
  rfl
theorem rel_some (x : Nat) : Rel x (some x) := rfl
theorem tail_rel {a b c d e f : Nat} (ha : Fin64 a) (hb : Fin64 b) (hc : Fin64 c) (hd : Fin64 d) {oe of : Option Nat} (he : Rel e oe) (hf : Rel f of) (hq : q1 a b c d = (oe, of)) (w : World) :
    ∃ e' f' w', (tailQ a b c d e f).run P w = .ok (e', f') w' ∧ Ex w w' ∧ Rel e' (qopt a b c d).1 ∧ Rel f' (qopt a b c d).2 := by
  obtain ⟨na, ia⟩ := fin_plain ha
  obtain ⟨nb, ib⟩ := fin_plain hb
  obtain ⟨nc, ic⟩ := fin_plain hc
  obtain ⟨nd, id⟩ := fin_plain hd
  unfold qopt tailQ zer2
  rw [hq]
  generalize Op.Complex.copysign Op.Complex.inf c = k
  simp only [Sem.run_bind, run_cmp_eql0, Result.andThen_ok, he.nan, hf.nan, na, nb, ia, ib, ic, id]
  generalize (double.order c 0 == some .eq && double.order d 0 == some .eq) = z
  rcases h1 : (!(onan oe && onan of)) with _ | _
  · rcases z with _ | _
    · simp only [h1, Bool.false_eq_true, if_false, Bool.false_and, Bool.or_self, Sem.run_pure]
      exact ⟨e, f, w, rfl, Ex.refl _, he, hf⟩
    · simp only [h1, Bool.false_eq_true, if_false, Bool.not_false, Bool.or_self, Bool.and_self, if_true]
      obtain ⟨x, y, w2, g, x2, r1, r2⟩ := mul2_rel (P := P) k a b w
      exact ⟨x, y, w2, g, x2, r1, r2⟩
  · simp only [h1, if_true, Sem.run_pure]
    exact ⟨e, f, w, rfl, Ex.refl _, he, hf⟩
theorem quotient_rel {a b c d : Nat} (ha : Fin64 a) (hb : Fin64 b) (hc : Fin64 c) (hd : Fin64 d) (w : World) :
    ∃ e f w', (Op.Complex.quotient a b c d).run P w = .ok (e, f) w' ∧ Ex w w' ∧ Rel e (qopt a b c d).1 ∧ Rel f (qopt a b c d).2 := by
  rcases hge : absGe c d with _ | _
  · skip
    obtain ⟨ratio, w1, h1, x1, r1⟩ := arith_rel (P := P) .quo (.inr (.inr (.inr rfl))) (rel_some c) (rel_some d) w
    obtain ⟨rc, w2, h2, x2, r2⟩ := arith_rel (P := P) .mul (.inr (.inr (.inl rfl))) r1 (rel_some c) w1
    obtain ⟨denom, w3, h3, x3, r3⟩ := arith_rel (P := P) .add (.inl rfl) (rel_some d) r2 w2
    obtain ⟨ar, w4, h4, x4, r4⟩ := arith_rel (P := P) .mul (.inr (.inr (.inl rfl))) (rel_some a) r1 w3
    obtain ⟨n1, w5, h5, x5, r5⟩ := arith_rel (P := P) .add (.inl rfl) r4 (rel_some b) w4
    obtain ⟨e, w6, h6, x6, r6⟩ := arith_rel (P := P) .quo (.inr (.inr (.inr rfl))) r5 r3 w5
    obtain ⟨br, w7, h7, x7, r7⟩ := arith_rel (P := P) .mul (.inr (.inr (.inl rfl))) (rel_some b) r1 w6
    obtain ⟨n2, w8, h8, x8, r8⟩ := arith_rel (P := P) .sub (.inr (.inl rfl)) r7 (rel_some a) w7
    obtain ⟨f, w9, h9, x9, r9⟩ := arith_rel (P := P) .quo (.inr (.inr (.inr rfl))) r8 r3 w8
    obtain ⟨e', f', w', t1, t2, t3, t4⟩ := tail_rel (P := P) ha hb hc hd r6 r9 (by unfold q1; rw [hge]; rfl) w9
    refine ⟨e', f', w', ?_, ((((((((x1.trans x2).trans x3).trans x4).trans x5).trans x6).trans x7).trans x8).trans x9).trans t2, t3, t4⟩
    rw [← t1]
    unfold Op.Complex.quotient tailQ
    simp only [Sem.run_bind, run_ccmp_geq, hge, Result.andThen_ok, Bool.false_eq_true, if_false, Op.Complex.mul, Op.Complex.sub, Op.Complex.add, Op.Complex.quo, h1, h2, h3, h4, h5, h6, h7, h8, h9, Sem.run_pure]
  · skip
    obtain ⟨ratio, w1, h1, x1, r1⟩ := arith_rel (P := P) .quo (.inr (.inr (.inr rfl))) (rel_some d) (rel_some c) w
    obtain ⟨rd, w2, h2, x2, r2⟩ := arith_rel (P := P) .mul (.inr (.inr (.inl rfl))) r1 (rel_some d) w1
    obtain ⟨denom, w3, h3, x3, r3⟩ := arith_rel (P := P) .add (.inl rfl) (rel_some c) r2 w2
    obtain ⟨br, w4, h4, x4, r4⟩ := arith_rel (P := P) .mul (.inr (.inr (.inl rfl))) (rel_some b) r1 w3
    obtain ⟨n1, w5, h5, x5, r5⟩ := arith_rel (P := P) .add (.inl rfl) (rel_some a) r4 w4
    obtain ⟨e, w6, h6, x6, r6⟩ := arith_rel (P := P) .quo (.inr (.inr (.inr rfl))) r5 r3 w5
    obtain ⟨ar, w7, h7, x7, r7⟩ := arith_rel (P := P) .mul (.inr (.inr (.inl rfl))) (rel_some a) r1 w6
    obtain ⟨n2, w8, h8, x8, r8⟩ := arith_rel (P := P) .sub (.inr (.inl rfl)) (rel_some b) r7 w7
    obtain ⟨f, w9, h9, x9, r9⟩ := arith_rel (P := P) .quo (.inr (.inr (.inr rfl))) r8 r3 w8
    obtain ⟨e', f', w', t1, t2, t3, t4⟩ := tail_rel (P := P) ha hb hc hd r6 r9 (by unfold q1; rw [hge]; rfl) w9
    refine ⟨e', f', w', ?_, ((((((((x1.trans x2).trans x3).trans x4).trans x5).trans x6).trans x7).trans x8).trans x9).trans t2, t3, t4⟩
    rw [← t1]
    unfold Op.Complex.quotient tailQ
    simp only [Sem.run_bind, run_ccmp_geq, hge, Result.andThen_ok, if_true, Op.Complex.mul, Op.Complex.sub, Op.Complex.add, Op.Complex.quo, h1, h2, h3, h4, h5, h6, h7, h8, h9, Sem.run_pure]
end
end Go.Proofs.Ytgkekdiffgmllaa
