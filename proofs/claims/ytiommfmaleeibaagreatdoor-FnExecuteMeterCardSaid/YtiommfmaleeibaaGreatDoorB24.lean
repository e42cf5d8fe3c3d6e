/-
  Proved: what functions compute, part 24. No condition.
-/
import Derived.Test.YtiommfmaleeibaaGreatDoorB22
import Derived.Test.YtiommfmaleeibaaGreatDoorB23
import Derived.Test.YtiommfmaleeibaaGreatDoorB20
import Derived.LoopN
import Derived.Test.YtiommfmaleeibaaGreatDoorB12
import Derived.Test.YtiommfmaleeibaaGreatDoorB11
import Derived.Deep.DeepCutAuto
import Derived.Test.YtiommfmaleeibaaGreatDoorB18
import Derived.Test.YtiommfmaleeibaaGreatDoorB10
import Derived.Test.YtiommfmaleeibaaGreatDoorB01
set_option linter.unusedSimpArgs false
set_option linter.unusedVariables false
set_option maxRecDepth 20000
set_option maxHeartbeats 8000000
namespace Go.Proofs.YtiommfmaleeibaaGreatDoor
section
theorem flow_one {x : Fr} (h : x.valid = true) : flow x.re x.im x.den = (x, true) := by
 obtain ⟨⟨r1, r2⟩, ⟨i1, i2⟩, ⟨d1, d2⟩, hg⟩ := Fr.valid_out h
 unfold flow
 rw [hg]
 simp only [Int.tdiv_one]
 have e1 : Xu x.re (-2000000000) 2000000000 = true := by simp [Xu]; omega
 have e2 : Xu x.im (-2000000000) 2000000000 = true := by simp [Xu]; omega
 rw [e1, e2, decide_eq_true d2]
 rfl
theorem fsum_nul {x : Fr} (h : x.valid = true) : Yu 1 Fr.nul x = (x, true) := by
 have hn : Fr.nul.valid = true := by decide
 unfold Yu
 rw [hn, h]
 simp only [Bool.and_self, if_true]
 rw [← flow_one h]
 unfold Fr.nul
 congr 1 <;> simp
def rowR (a b c d x y z u : Fr) : Fr × Bool :=
 ((Za (Za (Za (Zu a x).1 (Zu b y).1).1 (Zu c z).1).1 (Zu d u).1).1,
  (Zu a x).2 && (Zu b y).2 && (Za (Zu a x).1 (Zu b y).1).2 && (Zu c z).2 && (Za (Za (Zu a x).1 (Zu b y).1).1 (Zu c z).1).2 && (Zu d u).2 &&
   (Za (Za (Za (Zu a x).1 (Zu b y).1).1 (Zu c z).1).1 (Zu d u).1).2)
def rowS (a b c d x y z u : Fr) : Fr × Bool :=
 ((Yu 1 (Yu 1 (Yu 1 (Yu 1 Fr.nul (Zu a x).1).1 (Zu b y).1).1 (Zu c z).1).1 (Zu d u).1).1,
  (Zu a x).2 && (Yu 1 Fr.nul (Zu a x).1).2 && (Zu b y).2 && (Yu 1 (Yu 1 Fr.nul (Zu a x).1).1 (Zu b y).1).2 &&
  (Zu c z).2 && (Yu 1 (Yu 1 (Yu 1 Fr.nul (Zu a x).1).1 (Zu b y).1).1 (Zu c z).1).2 && (Zu d u).2 &&
  (Yu 1 (Yu 1 (Yu 1 (Yu 1 Fr.nul (Zu a x).1).1 (Zu b y).1).1 (Zu c z).1).1 (Zu d u).1).2)
theorem ftimes_valid {a b : Fr} (h : (Zu a b).2 = true) : (Zu a b).1.valid = true := by
 unfold Zu at h ⊢
 split at h
 ·rename_i hv
  rw [if_pos hv]
  simp only [Bool.and_eq_true] at hv
  obtain ⟨-, -, ⟨ad, -⟩, -⟩ := Fr.valid_out hv.1
  obtain ⟨-, -, ⟨bd, -⟩, -⟩ := Fr.valid_out hv.2
  exact Sw (Uh ad bd) h
 ·cases h
theorem rowS_alk (a b c d x y z u : Fr) : Alk (rowS a b c d x y z u) (rowR a b c d x y z u) := by
 unfold rowS rowR
 simp only [← Mh]
 rcases h1 : (Zu a x).2 with _ | _
 ·exact ⟨by simp, fun h => by simp at h⟩
 ·rw [fsum_nul (ftimes_valid h1)]
  exact ⟨by simp, fun _ => rfl⟩

def Rq (v : M4) : Bool := svalid v.a v.b v.c v.d
def Vn (t : List Fr) : Bool := t.all rok
def tg (t : List Fr) (i : Nat) : Fr := t.getD i Fr.none
def Vp (t : List Fr) (r : Nat) (v : M4) : Fr × Bool := rowR (tg t (4 * r)) (tg t (4 * r + 1)) (tg t (4 * r + 2)) (tg t (4 * r + 3)) v.a v.b v.c v.d
def Sc (t : List Fr) (v : M4) : M4 × Bool := Po (Vp t 0 v) (Vp t 1 v) (Vp t 2 v) (Vp t 3 v) (Vn t && Rq v)
def diag (c : Fr) : List Fr := [Fr.one, Fr.nul, Fr.nul, Fr.nul, Fr.nul, c, Fr.nul, Fr.nul, Fr.nul, Fr.nul, c, Fr.nul, Fr.nul, Fr.nul, Fr.nul, c]
def Rd (c : Fr) : List Fr × Bool := if rok c then (diag c, true) else (Wn 16, false)
theorem Ua (m : M4) : (Xg m).1.length = 16 := by
 unfold Xg
 split <;> simp [Tr, Wn]
theorem tfade_len (c : Fr) : (Rd c).1.length = 16 := by
 unfold Rd
 split <;> simp [diag, Wn]
def row3 (v : M4) : Fr × Bool :=
 ((Za (Za (Zu v.b v.b).1 (Zu v.c v.c).1).1 (Zu v.d v.d).1).1,
  (Zu v.b v.b).2 && (Zu v.c v.c).2 && (Za (Zu v.b v.b).1 (Zu v.c v.c).1).2 && (Zu v.d v.d).2 && (Za (Za (Zu v.b v.b).1 (Zu v.c v.c).1).1 (Zu v.d v.d).1).2)
def squares (v : M4) : Fr × Bool := if Rq v && (row3 v).2 then ((row3 v).1, true) else (Fr.none, false)
def excess (v : M4) : Int × Bool := if (squares v).2 && (Zu v.a v.a).2 then fcmp (Zu v.a v.a).1 (squares v).1 else (0, false)
def slight (v : M4) : Bool := (excess v).2 && decide (0 ≤ (excess v).1) && decide (0 ≤ v.a.re)
def crossL (xs ys : List Fr) (i k : Nat) : Bool := (Zu (tg xs i) (tg ys k)).2 && (Zu (tg xs k) (tg ys i)).2 && decide ((Zu (tg xs i) (tg ys k)).1 = (Zu (tg xs k) (tg ys i)).1)
def allCross (xs ys : List Fr) : Bool := (List.range 4).all fun i => (List.range 4).all fun k => decide (i = k) || crossL xs ys i k
def M4.l (v : M4) : List Fr := [v.a, v.b, v.c, v.d]
def salike (x y : M4) : Bool := Rq x && Rq y && decide (fsign x.a.re = fsign y.a.re) && allCross x.l y.l
end
section
open Go.RowKit

theorem Nf : ∀ (l : List Fr) (i : Nat), i < l.length → (l.flatMap Ug)[3 * i]? = some (.int .i64 (tg l i).re) ∧ (l.flatMap Ug)[3 * i + 1]? = some (.int .i64 (tg l i).im) ∧ (l.flatMap Ug)[3 * i + 2]? = some (.int .i64 (tg l i).den)
 | [], i, h => by simp at h
 | x :: l, 0, h => by simp [Ug, tg]
 | x :: l, i + 1, h => by
  have ih := Nf l i (by simpa using h)
  rw [show 3 * (i + 1) = 3 * i + 3 by omega, show 3 * i + 3 + 1 = 3 * i + 1 + 3 by omega, show 3 * i + 3 + 2 = 3 * i + 2 + 3 by omega]
  simpa [Ug, tg] using ih
theorem Ul (l : List Fr) (i : Nat) (h : i < l.length) : (Zs l)[3 * i]? = some (.int .i64 (tg l i).re) ∧ (Zs l)[3 * i + 1]? = some (.int .i64 (tg l i).im) ∧ (Zs l)[3 * i + 2]? = some (.int .i64 (tg l i).den) := by
 have := Nf l i h
 simpa [Zs] using this
theorem Ym (l : List Fr) : (Zs l).size = 3 * l.length := by
 induction l with
 | nil => rfl
 | cons x l ih => simp only [tabArr_cons, Array.size_append, ih, List.length_cons]; simp; omega
theorem tab_cut (l : List Fr) (i : Nat) (h : i < l.length) : (Zs l).extract (3 * i) (3 * i + 3) = #[.int .i64 (tg l i).re, .int .i64 (tg l i).im, .int .i64 (tg l i).den] := by
 obtain ⟨h0, h1, h2⟩ := Ul l i h
 have hs := Ym l
 apply Array.ext
 ·simp; omega
 ·intro j hj1 hj2
  have hj : j < 3 := by simpa using hj2
  rw [Array.getElem_extract]
  have e : ∀ m (hm : m < (Zs l).size) v, (Zs l)[m]? = some v → (Zs l)[m] = v := fun m hm v hv => by
   rw [Array.getElem?_eq_getElem hm] at hv
   exact Option.some.inj hv
  obtain rfl | rfl | rfl : j = 0 ∨ j = 1 ∨ j = 2 := by omega
  ·exact e _ (by omega) _ h0
  ·exact e _ (by omega) _ h1
  ·exact e _ (by omega) _ h2
theorem tab_all {l : List Fr} (h : Vn l = true) {i : Nat} (hi : i < l.length) : rok (tg l i) = true := by
 unfold Vn at h
 rw [List.all_eq_true] at h
 unfold tg
 rw [List.getD_eq_getElem?_getD, List.getElem?_eq_getElem hi]
 exact h _ (List.getElem_mem hi)
theorem tab_no {l : List Fr} {i : Nat} (hi : i < l.length) (h : rok (tg l i) = false) : Vn l = false := by
 cases hk : Vn l with
 | false => rfl
 | true => rw [tab_all hk hi] at h; cases h
theorem tab_yes {l : List Fr} (h : ∀ i, i < l.length → rok (tg l i) = true) : Vn l = true := by
 unfold Vn
 rw [List.all_eq_true]
 intro x hx
 obtain ⟨i, hi, rfl⟩ := List.mem_iff_getElem.1 hx
 have := h i hi
 unfold tg at this
 rw [List.getD_eq_getElem?_getD, List.getElem?_eq_getElem hi] at this
 exact this
theorem indexT (l : List Fr) (hl : l.length = 16) (k : Nat) (hk : k < 16) (w : World) : (Instr.index 83 (.agg (Zs l)) (.int .i64 k)).run Tryz.prog w = .ok (.agg #[.int .i64 (tg l k).re, .int .i64 (tg l k).im, .int .i64 (tg l k).den]) w := by
 have hs := Ym l
 have hw := Kq (k : Int) (by omega)
 have hc := tab_cut l k (by omega)
 have h1 : (k : Int) < 16 := by omega
 have h2 : ¬ (k : Int) < 0 := by omega
 simp [Instr.index, run_underlying Tryz.underlying83, asIntOf, go_sem, hs, hl, h1, h2]
 rw [if_pos hk, Nat.mul_comm k 3, hc]
theorem cellA {cs : Array Value} (h : cs.size = 48) : (Tryz.prog.info? 83).map (·.size) = some cs.size := by rw [h]; kernel_rfl
theorem Rb (t : List Fr) (ht : t.length = 16) (w : World) : Calls Tryz.prog 101 #[.agg (Zs t)] w fun e w' => e = .returned (.bool (Vn t)) ∧ Ex w w' := by
 have hs : (Zs t).size = 48 := by rw [Ym, ht]
 have HIX := Kw (fun k hk w => indexT t ht k hk w)
 have KO := Kw (fun x w => Tq x w)
 have HA := Kw (fun (h : Vn t = true) i (hi : i < 16) => tab_all h (i := i) (by omega))
 have HN := Kw (fun i (hi : i < 16) (h : rok (tg t i) = false) => tab_no (by omega) h)
 have HY := Kw (fun (h : ∀ i, i < 16 → rok (tg t i) = true) => tab_yes (l := t) (fun i hi => h i (by omega)))
 generalize hct : Zs t = cs at *
 have b0 := Box.new w cs 85
 have hE0 := (Ex.refl w).alloc (.cells cs 85)
 have c0 := b0.cell
 clear hct
 go_enter Tryz.func101, Tryz.ntmps101
 go_wp2_with (refine wpList_load_row rfl _ _ rfl _ rfl _ _ (0, 0) _ b0 Tryz.underlying83 rfl (cellA hs) ?_)
 clear c0 b0
 go_loopw [7, 4] (fun i f wr => ∃ k : Nat, i = .int .i64 k ∧ k ≤ 16 ∧ Hid (∀ j, j < k → rok (tg t j) = true) ∧ Hid (Ex w wr)) (fun i _ _ => 17 - (intOf i).toNat)
 case atStart => exact ⟨0, rfl, by omega, Kw (fun j hj => absurd hj (by omega)), Kw hE0⟩
 case round =>
  obtain ⟨k, rfl, hk, HR, HE⟩ := hrel
  clear hE0
  by_cases hlt : k < 16
  ·have hI : (k : Int) < 16 := by omega
   have hix := fun w => HIX.out k hlt w
   have hw5 : IntKind.i64.wrap ((k : Int) + 1) = (k : Int) + 1 := Kq _ (by omega)
   have ko := fun w => KO.out (tg t k) w
   have HNk := Kw (HN.out k hlt)
   have HRk : Hid (rok (tg t k) = true → ∀ j, j < k + 1 → rok (tg t j) = true) := Kw fun h j hj => by
    by_cases hjk : j = k
    ·rw [hjk]; exact h
    ·exact HR.out j (by omega)
   generalize rok (tg t k) = v at ko HNk HRk
   generalize tg t k = x at hix ko
   obtain ⟨x1, x2, x3⟩ := x
   simp only [Fr.v] at ko hix
   have K := Kw ko
   clear ko
   rcases v with _ | _
   ·have HF := Kw (HNk.out rfl)
    clear HNk HRk
    go_wp2_with (go_at_call 122; (with_reducible refine (K.out _).mono ?_); rintro e w2 ⟨rfl, hx⟩)
    go_ret
    exact ⟨by rw [HF.out]; rfl, (HE.out.alloc _).trans hx⟩
   ·have HF := Kw (HRk.out rfl)
    clear HNk HRk
    go_wp2_with (go_at_call 122; (with_reducible refine (K.out _).mono ?_); rintro e w2 ⟨rfl, hx⟩)
    go_roundw
    case rel => exact ⟨k + 1, by go_num, by omega, HF, Kw ((HE.out.alloc _).trans hx)⟩
    case measure => simp [intOf] <;> omega
  ·obtain rfl : k = 16 := by omega
   have HT := Kw (HY.out HR.out)
   clear hlt
   go_wp2
   go_ret
   exact ⟨by rw [HT.out]; rfl, HE.out⟩
theorem Nd (t : List Fr) (ht : t.length = 16) (w : World) : Calls Tryz.prog 113 #[.agg (Zs t)] w fun e w' => e = .returned (.bool (Vn t)) ∧ Ex w w' := by
 have HAT := Kw (fun k (hk : k < 16) => Ul t k (by omega))
 have KO := Kw (fun (x : Fr) w => Wq x.re x.im x.den w)
 have HN := Kw (fun i (hi : i < 16) (h : rok (tg t i) = false) => tab_no (by omega) h)
 have HY := Kw (fun (h : ∀ i, i < 16 → rok (tg t i) = true) => tab_yes (l := t) (fun i hi => h i (by omega)))
 have hs : (Zs t).size = 48 := by rw [Ym, ht]
 generalize Zs t = cs at *
 have b0 := Box.new w cs 85
 have hE0 := (Ex.refl w).alloc (.cells cs 85)
 go_enter Tryz.func113, Tryz.ntmps113
 go_wp2
 go_loopw [3] (fun i wr => ∃ k : Nat, i = .int .i64 k ∧ k ≤ 16 ∧ Hid (∀ j, j < k → rok (tg t j) = true) ∧ Box wr w.heap.size 85 cs ∧ Hid (Ex w wr)) (fun i _ => 17 - (intOf i).toNat)
 case atStart => exact ⟨0, rfl, by omega, Kw (fun j hj => absurd hj (by omega)), b0, Kw hE0⟩
 case round =>
  clear b0 hE0
  obtain ⟨k, rfl, hk, HR, bT, HE⟩ := hrel
  by_cases hlt : k < 16
  ·have hI : (k : Int) < 16 := by omega
   obtain ⟨a0, a1, a2⟩ := HAT.out k hlt
   have d0 : wr.cell? ⟨w.heap.size, k * 3, none⟩ = some (.int .i64 (tg t k).re) := by rw [Nat.mul_comm]; exact (bT.cell _).trans a0
   have d1 : wr.cell? ⟨w.heap.size, k * 3 + 1, none⟩ = some (.int .i64 (tg t k).im) := by rw [Nat.mul_comm]; exact (bT.cell _).trans a1
   have d2 : wr.cell? ⟨w.heap.size, k * 3 + 2, none⟩ = some (.int .i64 (tg t k).den) := by rw [Nat.mul_comm]; exact (bT.cell _).trans a2
   have hw5 : IntKind.i64.wrap ((k : Int) + 1) = (k : Int) + 1 := Kq _ (by omega)
   have ko := fun w => KO.out (tg t k) w
   have HNk := Kw (HN.out k hlt)
   have HRk : Hid (rok (tg t k) = true → ∀ j, j < k + 1 → rok (tg t j) = true) := Kw fun h j hj => by
    by_cases hjk : j = k
    ·rw [hjk]; exact h
    ·exact HR.out j (by omega)
   have hrk : rok (tg t k) = (Zg (tg t k).re (tg t k).im (tg t k).den && decide ((tg t k).im = 0)) := rfl
   have zT := bT.lt
   clear a0 a1 a2
   generalize rok (tg t k) = rv at HNk HRk hrk
   generalize tg t k = x at d0 d1 d2 ko hrk
   obtain ⟨x1, x2, x3⟩ := x
   simp only at d0 d1 d2 ko hrk
   generalize Zg x1 x2 x3 = v at ko hrk
   have K := Kw ko
   clear ko
   rcases v with _ | _
   ·have HF := Kw (HNk.out (by rw [hrk]; rfl))
    clear HNk HRk hrk
    go_wp2_with (go_at_call 174; (with_reducible refine (K.out _).mono ?_); rintro e w2 ⟨rfl, hx⟩)
    go_ret
    exact ⟨by rw [HF.out]; rfl, HE.out.trans hx⟩
   ·by_cases h0 : x2 = 0
    ·have HF := Kw (HRk.out (by rw [hrk, decide_eq_true h0]; rfl))
     have h0b : (x2 == 0) = true := by simpa using h0
     clear HNk HRk hrk
     subst h0
     go_wp2_with (go_at_call 174; (with_reducible refine (K.out _).mono ?_); rintro e w2 ⟨rfl, hx⟩; have d1 := hx.get d1)
     go_roundw
     case rel => exact ⟨k + 1, by go_num, by omega, HF, bT.ex hx, Kw (HE.out.trans hx)⟩
     case measure => simp [intOf] <;> omega
    ·have HF := Kw (HNk.out (by rw [hrk, decide_eq_false h0]; rfl))
     have h0b : (x2 == 0) = false := by simpa using h0
     clear HNk HRk hrk
     go_wp2_with (go_at_call 174; (with_reducible refine (K.out _).mono ?_); rintro e w2 ⟨rfl, hx⟩; have d1 := hx.get d1)
     go_ret
     exact ⟨by rw [HF.out]; rfl, HE.out.trans hx⟩
  ·obtain rfl : k = 16 := by omega
   have HT := Kw (HY.out HR.out)
   clear hlt
   go_wp2
   go_ret
   exact ⟨by rw [HT.out]; rfl, HE.out⟩
end
section
open Go.RowKit

attribute [local go_sem] Zi Zh
theorem M4.l_arr (v : M4) : v.v = .agg (Zs v.l) := rfl
theorem Pg {cs : Array Value} (h : cs.size = 12) : (Tryz.prog.info? 35).map (·.size) = some cs.size := by rw [h]; kernel_rfl
def Z12 : Array Value := #[.int .i64 0, .int .i64 0, .int .i64 0, .int .i64 0, .int .i64 0, .int .i64 0, .int .i64 0, .int .i64 0, .int .i64 0, .int .i64 0, .int .i64 0, .int .i64 0]
theorem Z12_eq : Z12 = Zs (Wn 4) := rfl
def Uy (t : List Fr) (r : Nat) (v : M4) : Nat → Fr × Bool
 | 0 => Zu (tg t (4 * r)) v.a
 | k + 1 => ((Za (Uy t r v k).1 (Zu (tg t (4 * r + (k + 1))) (tg v.l (k + 1))).1).1,
   (Uy t r v k).2 && (Zu (tg t (4 * r + (k + 1))) (tg v.l (k + 1))).2 && (Za (Uy t r v k).1 (Zu (tg t (4 * r + (k + 1))) (tg v.l (k + 1))).1).2)
theorem Ll (t : List Fr) (r : Nat) (v : M4) : Uy t r v 3 = Vp t r v := by
 simp [Uy, Vp, rowR, tg, M4.l]
def Lk (t : List Fr) (v : M4) (r : Nat) : List Fr := (List.range 4).map fun j => if j < r then (Vp t j v).1 else Fr.none
def Pf (t : List Fr) (v : M4) : Nat → Bool
 | 0 => true
 | r + 1 => Pf t v r && (Vp t r v).2
theorem rowsL_set (t : List Fr) (v : M4) (r : Nat) (hr : r < 4) : (Lk t v r).set r (Vp t r v).1 = Lk t v (r + 1) := by
 obtain rfl | rfl | rfl | rfl : r = 0 ∨ r = 1 ∨ r = 2 ∨ r = 3 := by omega
 all_goals rfl
theorem rowsL_len (t : List Fr) (v : M4) (r : Nat) : (Lk t v r).length = 4 := rfl
theorem rowsL_zero (t : List Fr) (v : M4) : Lk t v 0 = Wn 4 := rfl
theorem tapply_rows (t : List Fr) (v : M4) : Sc t v = if Vn t && Rq v && Pf t v 4 then (⟨(Vp t 0 v).1, (Vp t 1 v).1, (Vp t 2 v).1, (Vp t 3 v).1⟩, true) else (M4.none, false) := by
 unfold Sc Po
 simp only [Pf, Bool.true_and, Bool.and_assoc]
theorem rowsL_all (t : List Fr) (v : M4) : Lk t v 4 = [(Vp t 0 v).1, (Vp t 1 v).1, (Vp t 2 v).1, (Vp t 3 v).1] := rfl
theorem iTableApply (t : List Fr) (ht : t.length = 16) (v : M4) (w : World) : Calls Tryz.prog 202 #[.agg (Zs t), v.v] w (fun e w' => e = .returned (m4v (Sc t v)) ∧ Ex w w') := by
 have kt := fun w => Rb t ht w
 have ksv : ∀ w, Calls Tryz.prog 57 #[.agg #[.int .i64 v.a.re, .int .i64 v.a.im, .int .i64 v.a.den, .int .i64 v.b.re, .int .i64 v.b.im, .int .i64 v.b.den, .int .i64 v.c.re, .int .i64 v.c.im, .int .i64 v.c.den, .int .i64 v.d.re, .int .i64 v.d.im, .int .i64 v.d.den]] w fun e w' => e = .returned (.bool (Rq v)) ∧ Ex w w' := fun w => Sd v.a v.b v.c v.d w
 unfold M4.v
 have hst : (Zs t).size = 48 := by rw [Ym, ht]
 have HTA := Kw (fun k (hk : k < 16) => Ul t k (by omega))
 have HVA := Kw (fun k (hk : k < 4) => Ul v.l k (by simp [M4.l]; omega))
 have HTP := Kw (tapply_rows t v)
 have RA := Kw (Ll t)
 generalize hct : Zs t = tc at *
 generalize Vn t = tv at *
 generalize Rq v = sv at *
 have KT := Kw kt
 have KS := Kw ksv
 clear kt ksv hct
 have hR := Zw.refl w
 go_enter Tryz.func202, Tryz.ntmps202
 go_upto_region 1 with fail
 have hV : Zw w (((w.alloc (.cells tc 85)).alloc (.cells #[.int .i64 v.a.re, .int .i64 v.a.im, .int .i64 v.a.den, .int .i64 v.b.re, .int .i64 v.b.im, .int .i64 v.b.den, .int .i64 v.c.re, .int .i64 v.c.im, .int .i64 v.c.den, .int .i64 v.d.re, .int .i64 v.d.im, .int .i64 v.d.den] 35)).alloc (.cells Z12 35)) _ := inferInstance
 clear hR
 rw [show #[.int .i64 0, .int .i64 0, .int .i64 0, .int .i64 0, .int .i64 0, .int .i64 0, .int .i64 0, .int .i64 0, .int .i64 0, .int .i64 0, .int .i64 0, .int .i64 0] = Z12 from rfl]
 have hle : w.heap.size ≤ (((w.alloc (.cells tc 85)).alloc (.cells #[.int .i64 v.a.re, .int .i64 v.a.im, .int .i64 v.a.den, .int .i64 v.b.re, .int .i64 v.b.im, .int .i64 v.b.den, .int .i64 v.c.re, .int .i64 v.c.im, .int .i64 v.c.den, .int .i64 v.d.re, .int .i64 v.d.im, .int .i64 v.d.den] 35)).alloc (.cells Z12 35)).heap.size := hV.ex.size
 simp only [Kv] at hV
 generalize ((w.alloc (.cells tc 85)).alloc (.cells #[.int .i64 v.a.re, .int .i64 v.a.im, .int .i64 v.a.den, .int .i64 v.b.re, .int .i64 v.b.im, .int .i64 v.b.den, .int .i64 v.c.re, .int .i64 v.c.im, .int .i64 v.c.den, .int .i64 v.d.re, .int .i64 v.d.im, .int .i64 v.d.den] 35)).alloc (.cells Z12 35) = W0 at *
 have hW : Zt w (W0.alloc (.cells #[.bool false] 92)) W0.heap.size false _ := Zt.start (h := hV)
 go_cut [6] (fun s wx => s = .pointer (some ⟨W0.heap.size, 0, none⟩) ∧ Zt w wx W0.heap.size (!(tv && sv)) [(w.heap.size + 1 + 1, 35, Z12), (w.heap.size + 1, 35, #[.int .i64 v.a.re, .int .i64 v.a.im, .int .i64 v.a.den, .int .i64 v.b.re, .int .i64 v.b.im, .int .i64 v.b.den, .int .i64 v.c.re, .int .i64 v.c.im, .int .i64 v.c.den, .int .i64 v.d.re, .int .i64 v.d.im, .int .i64 v.d.den]), (w.heap.size, 85, tc)])
 case first =>
  have hb1 := hW.boxes.2.2.1
  rcases tv with _ | _
  ·go_wp2_with (first | (refine wpList_load_row rfl _ _ rfl _ rfl _ _ (0, 0) _ hb1 Tryz.underlying85 rfl (Yz hst) ?_) | (go_at_call 101; (with_reducible refine (KT.out _).mono ?_); rintro e w1 ⟨rfl, hx⟩; replace hW := Zt.ex hW hx; clear hx; have hC2 := hW.boxes.2.1.cell) | (go_at_call 57; (with_reducible refine (KS.out _).mono ?_); rintro e w2 ⟨rfl, hx⟩; replace hW := Zt.ex hW hx; clear hx) | (go_at_call 46; (with_reducible refine (Uz _ _ _ _ hW.sum).mono ?_); rintro e w3 ⟨rfl, hs, hb⟩; have hN := Zt.call hW hs hb))
   go_meet
   exact ⟨rfl, hN⟩
  ·rcases sv with _ | _
   ·go_wp2_with (first | (refine wpList_load_row rfl _ _ rfl _ rfl _ _ (0, 0) _ hb1 Tryz.underlying85 rfl (Yz hst) ?_) | (go_at_call 101; (with_reducible refine (KT.out _).mono ?_); rintro e w1 ⟨rfl, hx⟩; replace hW := Zt.ex hW hx; clear hx; have hC2 := hW.boxes.2.1.cell) | (go_at_call 57; (with_reducible refine (KS.out _).mono ?_); rintro e w2 ⟨rfl, hx⟩; replace hW := Zt.ex hW hx; clear hx) | (go_at_call 46; (with_reducible refine (Uz _ _ _ _ hW.sum).mono ?_); rintro e w3 ⟨rfl, hs, hb⟩; have hN := Zt.call hW hs hb))
    go_meet
    exact ⟨rfl, hN⟩
   ·go_wp2_with (first | (refine wpList_load_row rfl _ _ rfl _ rfl _ _ (0, 0) _ hb1 Tryz.underlying85 rfl (Yz hst) ?_) | (go_at_call 101; (with_reducible refine (KT.out _).mono ?_); rintro e w1 ⟨rfl, hx⟩; replace hW := Zt.ex hW hx; clear hx; have hC2 := hW.boxes.2.1.cell) | (go_at_call 57; (with_reducible refine (KS.out _).mono ?_); rintro e w2 ⟨rfl, hx⟩; replace hW := Zt.ex hW hx; clear hx) | (go_at_call 46; (with_reducible refine (Uz _ _ _ _ hW.sum).mono ?_); rintro e w3 ⟨rfl, hs, hb⟩; have hN := Zt.call hW hs hb))
    go_meet
    exact ⟨rfl, hN⟩
 case rest =>
  obtain ⟨rfl, hS⟩ := hcut
  have hvc : #[.int .i64 v.a.re, .int .i64 v.a.im, .int .i64 v.a.den, .int .i64 v.b.re, .int .i64 v.b.im, .int .i64 v.b.den, .int .i64 v.c.re, .int .i64 v.c.im, .int .i64 v.c.den, .int .i64 v.d.re, .int .i64 v.d.im, .int .i64 v.d.den] = Zs v.l := rfl
  rw [hvc] at hS
  clear hvc
  generalize Zs v.l = vc at *
  clear hW hV KT KS
  go_upto_region 3 with fail
  rw [show #[.int .i64 0, .int .i64 0, .int .i64 0, .int .i64 0, .int .i64 0, .int .i64 0, .int .i64 0, .int .i64 0, .int .i64 0, .int .i64 0, .int .i64 0, .int .i64 0] = Z12 from rfl]
  have hS1 : Zt w (wc.alloc (.cells Z12 35)) W0.heap.size (!(tv && sv)) ((wc.heap.size, 35, Z12) :: [(w.heap.size + 1 + 1, 35, Z12), (w.heap.size + 1, 35, vc), (w.heap.size, 85, tc)]) := Zt.alloc (h := hS)
  have hob : w.heap.size ≤ wc.heap.size := hS.sm.size
  have z1 := hS.boxes.1.lt
  have z2 := hS.boxes.2.1.lt
  have z3 := hS.boxes.2.2.1.lt
  have z4 := hS.sum.lt
  have hne : ∀ x ∈ ([(w.heap.size + 1 + 1, 35, Z12), (w.heap.size + 1, 35, vc), (w.heap.size, 85, tc)] : List (Nat × TypeId × Array Value)), x.1 ≠ wc.heap.size := by
   intro x hx
   simp only [List.mem_cons, List.not_mem_nil, or_false] at hx
   rcases hx with rfl | rfl | rfl
   ·exact Nat.ne_of_lt z1
   ·exact Nat.ne_of_lt z2
   ·exact Nat.ne_of_lt z3
  generalize wc.alloc (.cells Z12 35) = W1 at *
  clear hS z1 z2 z3
  go_wp2_with fail
  go_loopw [21, 8, 9, 10] (fun i rr ac kk wr => ∃ r : Nat, i = .int .i64 r ∧ r ≤ 4 ∧ Hid (Zt w wr W0.heap.size (!(tv && sv && Pf t v r)) ((wc.heap.size, 35, Zs (Lk t v r)) :: [(w.heap.size + 1 + 1, 35, Z12), (w.heap.size + 1, 35, vc), (w.heap.size, 85, tc)]))) (fun i _ _ _ _ => 5 - (intOf i).toNat)
  case atStart => exact ⟨0, rfl, by omega, Kw (by simpa [Pf, rowsL_zero, ← Z12_eq] using hS1)⟩
  case round =>
   clear hS1
   obtain ⟨r, rfl, hr, HS⟩ := hrel
   by_cases hlt : r < 4
   ·have hI : (r : Int) < 4 := by omega
    obtain ⟨m0, hm0⟩ : ∃ m0 : Nat, m0 = 4 * r := ⟨_, rfl⟩
    have hw0 : IntKind.i64.wrap (4 * (r : Int)) = (m0 : Int) := by rw [hm0]; have := Kq (4 * (r : Int)) (by omega); rw [this]; omega
    have hwr : IntKind.i64.wrap ((r : Int) + 1) = (r : Int) + 1 := Kq _ (by omega)
    have hm1 : (m0 : Int) < 16 := by omega
    obtain ⟨f0, f1, f2⟩ := HTA.out m0 (by omega)
    obtain ⟨g0, g1, g2⟩ := HVA.out 0 (by omega)
    have HR0 : Hid (Uy t r v 0 = Zu (tg t m0) (tg v.l 0)) := Kw (by rw [hm0]; rfl)
    have HRS : Hid (∀ k m, m = 4 * r + (k + 1) → Uy t r v (k + 1) = ((Za (Uy t r v k).1 (Zu (tg t m) (tg v.l (k + 1))).1).1, (Uy t r v k).2 && (Zu (tg t m) (tg v.l (k + 1))).2 && (Za (Uy t r v k).1 (Zu (tg t m) (tg v.l (k + 1))).1).2)) := Kw (fun k m e => by subst e; rfl)
    have HR3 := Kw (RA.out r v)
    rw [Nat.mul_comm 3 m0] at f0 f1 f2
    simp only [Nat.mul_zero, Nat.zero_add] at g0 g1 g2
    generalize tg t m0 = x at f0 f1 f2 HR0
    generalize tg v.l 0 = y at g0 g1 g2 HR0
    obtain ⟨x1, x2, x3⟩ := x
    obtain ⟨y1, y2, y3⟩ := y
    simp only at f0 f1 f2 g0 g1 g2
    rcases h0 : Zu ⟨x1, x2, x3⟩ ⟨y1, y2, y3⟩ with ⟨⟨a1, a2, a3⟩, ka⟩
    have HA0 : Hid (Uy t r v 0 = (⟨a1, a2, a3⟩, ka)) := Kw (HR0.out.trans h0)
    have H0 := Kw h0
    clear h0 HR0
    obtain ⟨fl, HFL⟩ : ∃ fl, Hid (fl = !(tv && sv && Pf t v r)) := ⟨_, Kw rfl⟩
    have hS := HS.out
    rw [← HFL.out] at hS
    clear HS
    have HM0 := Kw hm0
    have HLT := Kw (Yr.old hS.boxes)
    have hws := hS.sm.size
    clear hm0
    go_upto_region 6 with fail
    have hS0 := hS
    have hbs0 := hS0.sum.lt
    refine Zm (St := Sm W0.heap.size) (B := fun b w' => InS _ W0.heap.size _ b w') 10 1 0 _ 30 (fun _ => 9) (fun _ => 33) (fun _ => #[.int .i64 0, .int .i64 0, .int .i64 0]) (fun _ => #[.int .i64 a1, .int .i64 a2, .int .i64 a3]) _ (by kernel_rfl) (by kernel_rfl) (InS.drew (InS.start hS0)) (fun x y h1 h2 _ => by omega) (fun x y _ _ => by decide) (fun _ _ h g cs hg hb => h.box _ _ _ (Nat.ne_of_gt (Nat.lt_of_lt_of_le hbs0 hg)) hb) (fun _ _ cs h => h.alloc _) (fun _ _ h => h.size) ?_
    iterate 9 (apply Zx; (· rfl); (· intro b wb hB Q1 hQ1; have hS := hB.sees; have hC := hS.reads; simp only [Zz, Zy] at hC; go_wp2_with fail; exact hQ1 _ (Sm.refl _ _) hB); (· exact ⟨_, rfl⟩))
    (apply Zp; (· rfl); (· intro b wb hB Q1 hQ1; go_wp2_with (go_at_call 49; (with_reducible refine (Ye hB.sees H0.out).mono ?_); rintro e wn ⟨rfl, hN, hM⟩); exact hQ1 _ hM (hB.call hN)); (· exact ⟨_, rfl⟩))
    refine Zq ?_
    refine ⟨fun i hi => ?_, fun i hi => ?_, fun i hi => ?_, fun gg wz hz hbx hne => ?_⟩
    ·obtain rfl : i = 0 := by omega
     all_goals exact ⟨_, rfl, Zb⟩
    ·obtain rfl : i = 0 := by omega
     all_goals exact ⟨_, rfl, Zf Yv rfl (by kernel_rfl) (fun _ _ _ hg h => h.setRow hg _)⟩
    ·obtain rfl : i = 0 := by omega
     ·exact (show (9 : Nat) < 64 by decide)
    obtain ⟨hq0, hp0⟩ := hbx 0 (by omega)
    replace hS := InS.join hS0 hz
    replace hS := Zt.put hS hp0 (by omega)
    simp only [frN, Act.put, Ku, Kt, Ks, Nat.reduceAdd, List.drop_succ_cons, List.drop_zero]
    generalize gg 0 = ga at *
    clear hbx hz hS0 hne
    simp only at hS
    have HNE := Kw (fun x hx => Nat.ne_of_lt (Nat.lt_of_lt_of_le (HLT.out x hx) hq0))
    have hgw : w.heap.size ≤ ga := Nat.le_trans hws hq0
    clear hws HLT hq0 hp0
    clear f0 f1 f2 g0 g1 g2 hw0 hm1
    skip
    go_wp2_with fail
    go_loopw [10] (fun kk wy => ∃ k : Nat, kk = .int .i64 k ∧ 1 ≤ k ∧ k ≤ 4 ∧ ∃ a1 a2 a3 ka, Hid (Uy t r v (k - 1) = (⟨a1, a2, a3⟩, ka)) ∧ Hid (Zt w wy W0.heap.size (fl || !ka) ((ga, 30, #[.int .i64 a1, .int .i64 a2, .int .i64 a3]) :: (wc.heap.size, 35, Zs (Lk t v r)) :: [(w.heap.size + 1 + 1, 35, Z12), (w.heap.size + 1, 35, vc), (w.heap.size, 85, tc)]))) (fun kk _ => 5 - (intOf kk).toNat)
    case atStart => exact ⟨1, rfl, by omega, by omega, a1, a2, a3, ka, HA0, Kw hS⟩
    case round =>
     clear hS HA0 H0
     obtain ⟨k, rfl, hk1, hk4, b1, b2, b3, kb, HB, HS⟩ := hrel
     by_cases hk : k < 4
     ·have hkI : (k : Int) < 4 := by omega
      obtain ⟨m, hm⟩ : ∃ m : Nat, m = 4 * r + k := ⟨_, rfl⟩
      have hw0 : IntKind.i64.wrap (4 * (r : Int)) = 4 * (r : Int) := Kq _ (by omega)
      have hw1 : IntKind.i64.wrap (4 * (r : Int) + (k : Int)) = (m : Int) := by rw [hm]; have := Kq (4 * (r : Int) + (k : Int)) (by omega); rw [this]; omega
      have hwk : IntKind.i64.wrap ((k : Int) + 1) = (k : Int) + 1 := Kq _ (by omega)
      have hm1 : (m : Int) < 16 := by omega
      obtain ⟨f0, f1, f2⟩ := HTA.out m (by omega)
      obtain ⟨g3, g4, g5⟩ := HVA.out k (by omega)
      have HK := Kw (HRS.out (k - 1) m (by omega))
      have hkk : k - 1 + 1 = k := by omega
      rw [hkk] at HK
      rw [HB.out] at HK
      rw [Nat.mul_comm 3 m] at f0 f1 f2
      rw [Nat.mul_comm 3 k] at g3 g4 g5
      generalize tg t m = x at f0 f1 f2 HK
      generalize tg v.l k = y at g3 g4 g5 HK
      obtain ⟨x1, x2, x3⟩ := x
      obtain ⟨y1, y2, y3⟩ := y
      simp only at f0 f1 f2 g3 g4 g5 HK
      rcases h1 : Zu ⟨x1, x2, x3⟩ ⟨y1, y2, y3⟩ with ⟨⟨p1, p2, p3⟩, kp⟩
      rw [h1] at HK
      simp only at HK
      rcases h2 : Za ⟨b1, b2, b3⟩ ⟨p1, p2, p3⟩ with ⟨⟨s1, s2, s3⟩, ks⟩
      rw [h2] at HK
      simp only at HK
      have H1 := Kw h1
      have H2 := Kw h2
      clear h1 h2 hm hkk
      have hS := HS.out
      clear HS
      go_upto_region 10 with fail
      refine Zd (St := fun _ _ => True) 15 _ (B := fun b w2 => Zt w w2 W0.heap.size b _) (by kernel_rfl) (by kernel_rfl) (hS.drewW) (by exact fun _ _ _ _ _ h => h) ?_
      iterate 14 (apply Zx; (· rfl); (· intro b wb hB Q1 hQ1; have hS := hB; have hC := hS.reads; simp only [Zz, Zy] at hC; go_wp2_with fail; exact hQ1 _ trivial hB); (· exact ⟨_, rfl⟩))
      (apply Zp; (· rfl); (· intro b wb hB Q1 hQ1; go_wp2_with (go_at_call 49; (with_reducible refine (Ye hB H1.out).mono ?_); rintro e wn ⟨rfl, hN, hM⟩); exact hQ1 _ trivial hN); (· exact ⟨_, rfl⟩))
      refine Zq ?_
      intro wz2 hz2
      clear hS
      have hC := hz2.reads
      simp only [Zz, Zy] at hC
      go_wp2_with (go_at_call 53; (with_reducible refine (Mr hz2 H2.out).mono ?_); rintro e wm ⟨rfl, hN, -⟩; have hC := hN.reads; simp only [Zz, Zy] at hC)
      have hS5 := Zt.set3 hN hgw HNE.out (.int .i64 s1) (.int .i64 s2) (.int .i64 s3)
      have ef : (fl || !kb || !kp || !ks) = (fl || !(kb && kp && ks)) := by simp [Bool.or_assoc]
      rw [ef] at hS5
      have HS5 := Kw hS5
      clear hS5 hN hC ef
      go_roundw
      case rel => exact ⟨k + 1, by go_num, by omega, by omega, s1, s2, s3, (kb && kp && ks), HK, HS5⟩
      case measure => simp [intOf] <;> omega
     ·obtain rfl : k = 4 := by omega
      have hS := HS.out
      have hT := Zt.tail hS
      have hC := hS.reads
      simp only [Zz, Zy] at hC
      have HTR : Hid (Vp t r v = (⟨b1, b2, b3⟩, kb)) := Kw (HR3.out.symm.trans HB.out)
      have hkI : ¬ ((4 : Nat) : Int) < 4 := by omega
      clear HS HB hk hk1 hk4 HRS
      go_wp2_with (refine Qh hT hob hne r (by rw [rowsL_len]; exact hlt) (by rw [Nat.mul_comm 3 r]; rfl) rfl ?_; intro V hV2)
      have e1 := rowsL_set t v r hlt
      rw [HTR.out] at e1
      simp only at e1
      rw [e1] at hV2
      have e2 : (fl || !kb) = !(tv && sv && Pf t v (r + 1)) := by
       rw [HFL.out]
       simp only [Pf, HTR.out, Bool.not_and, Bool.or_assoc]
      rw [e2] at hV2
      have HV2 := Kw hV2
      clear hV2 e1 e2 hT hC hS
      go_roundw
      case rel => exact ⟨r + 1, by go_num, by omega, HV2⟩
      case measure => simp [intOf] <;> omega
   ·obtain rfl : r = 4 := by omega
    have hS := HS.out
    have HTP2 := HTP
    rw [rowsL_all] at hS
    rcases e0 : (Vp t 0 v).1 with ⟨r0a, r0b, r0c⟩
    rcases e1 : (Vp t 1 v).1 with ⟨r1a, r1b, r1c⟩
    rcases e2 : (Vp t 2 v).1 with ⟨r2a, r2b, r2c⟩
    rcases e3 : (Vp t 3 v).1 with ⟨r3a, r3b, r3c⟩
    have ht := HTP.out
    rw [e0, e1, e2, e3] at hS ht
    clear e0 e1 e2 e3 HS HTP HTP2
    unfold Z12 at hS
    rw [show Zs [⟨r0a, r0b, r0c⟩, ⟨r1a, r1b, r1c⟩, ⟨r2a, r2b, r2c⟩, ⟨r3a, r3b, r3c⟩] = #[.int .i64 r0a, .int .i64 r0b, .int .i64 r0c, .int .i64 r1a, .int .i64 r1b, .int .i64 r1c, .int .i64 r2a, .int .i64 r2b, .int .i64 r2c, .int .i64 r3a, .int .i64 r3b, .int .i64 r3c] from rfl] at hS
    have hI : ¬ ((4 : Nat) : Int) < 4 := by omega
    have hC := hS.reads
    simp only [Zz, Zy] at hC
    rcases hK : (tv && sv && Pf t v 4) with _ | _
    ·rw [hK] at hS ht hC
     simp only [Bool.false_eq_true, if_false] at ht
     go_wp2_with (go_at_call 52; (with_reducible refine (Rk _ _ _ _ _ _ _ _ _ _ _ _ _ _ hS.sum).mono ?_); rintro e wn ⟨rfl, hx⟩; have hS9 := Zt.ex hS hx; have hC := hS9.reads; simp only [Zz, Zy] at hC; have hE := hS9.rel hle)
     refine Kr (v := .tuple #[.agg #[.int .i64 0, .int .i64 0, .int .i64 0, .int .i64 0, .int .i64 0, .int .i64 0, .int .i64 0, .int .i64 0, .int .i64 0, .int .i64 0, .int .i64 0, .int .i64 0], .bool false]) ?_ rfl ⟨by rw [ht]; rfl, ?_⟩
     ·simp [results, Tryz.results202, go_sem, hC]
     ·repeat' (with_reducible first | exact hE | exact Ex.refl _ | assumption | apply Ex.alloc | apply Ex.drewN | apply Ex.drew | refine Ex.setCell ?_ (by simp <;> omega) _)
    ·rw [hK] at hS ht hC
     simp only [if_true] at ht
     go_wp2_with (go_at_call 52; (with_reducible refine (Rt _ _ _ _ _ _ _ _ _ _ _ _ _ _ hS.sum).mono ?_); rintro e wn ⟨rfl, hx⟩; have hS9 := Zt.ex hS hx; have hC := hS9.reads; simp only [Zz, Zy] at hC; have hE := hS9.rel hle)
     refine Kr (v := .tuple #[.agg #[.int .i64 r0a, .int .i64 r0b, .int .i64 r0c, .int .i64 r1a, .int .i64 r1b, .int .i64 r1c, .int .i64 r2a, .int .i64 r2b, .int .i64 r2c, .int .i64 r3a, .int .i64 r3b, .int .i64 r3c], .bool true]) ?_ rfl ⟨by rw [ht]; rfl, ?_⟩
     ·simp [results, Tryz.results202, go_sem, hC]
     ·repeat' (with_reducible first | exact hE | exact Ex.refl _ | assumption | apply Ex.alloc | apply Ex.drewN | apply Ex.drew | refine Ex.setCell ?_ (by simp <;> omega) _)
end
section
def Vu (b : List Fr) (c : Nat) : M4 := ⟨tg b c, tg b (4 + c), tg b (8 + c), tg b (12 + c)⟩
def Pe (a b : List Fr) (i : Nat) : Fr × Bool := Vp a (i / 4) (Vu b (i % 4))
def Xv (a b : List Fr) (n : Nat) : List Fr := (List.range 16).map fun i => if i < n then (Pe a b i).1 else Fr.none
def Xo (a b : List Fr) : Nat → Bool
 | 0 => true
 | n + 1 => Xo a b n && (Pe a b n).2
def Wd (a b : List Fr) : List Fr × Bool := if Vn a && Vn b && Xo a b 16 then (Xv a b 16, true) else (Wn 16, false)
theorem Vg (a b : List Fr) (n : Nat) : (Xv a b n).length = 16 := by simp [Xv]
theorem Nc (a b : List Fr) : Xv a b 0 = Wn 16 := by simp [Xv, Wn, List.range_succ]
theorem Lj (a b : List Fr) (n : Nat) (hn : n < 16) : (Xv a b n).set n (Pe a b n).1 = Xv a b (n + 1) := by
 apply List.ext_getElem
 ·simp [Xv]
 ·intro i h1 h2
  have hi : i < 16 := by simpa [Xv] using h2
  rw [List.getElem_set]
  split
  ·rename_i e
   subst e
   simp [Xv]
  ·rename_i e
   simp only [Xv, List.getElem_map, List.getElem_range]
   by_cases h : i < n
   ·rw [if_pos h, if_pos (by omega)]
   ·rw [if_neg h, if_neg (by omega)]
theorem tcellsK_mono {a b : List Fr} {j k : Nat} (h : Xo a b j = false) (hjk : j ≤ k) : Xo a b k = false := by
 induction k with
 | zero =>
  obtain rfl : j = 0 := by omega
  exact h
 | succ k ih =>
  rcases Nat.lt_or_ge j (k + 1) with h2 | h2
  ·simp [Xo, ih (by omega)]
  ·obtain rfl : j = k + 1 := by omega
   exact h
theorem Py (a b : List Fr) : (Wd a b).1.length = 16 := by
 unfold Wd
 split
 ·exact Vg a b 16
 ·simp [Wn]
theorem tcol_at (b : List Fr) (c k : Nat) (hk : k < 4) : tg (Vu b c).l k = tg b (4 * k + c) := by
 obtain rfl | rfl | rfl | rfl : k = 0 ∨ k = 1 ∨ k = 2 ∨ k = 3 := by omega
 ·simp [Vu, M4.l, tg]
 ·simp [Vu, M4.l, tg]
 ·simp [Vu, M4.l, tg]
 ·simp [Vu, M4.l, tg]
theorem tcell_rc (a b : List Fr) (r c : Nat) (hc : c < 4) : Pe a b (4 * r + c) = Vp a r (Vu b c) := by
 unfold Pe
 rw [show (4 * r + c) / 4 = r by omega, show (4 * r + c) % 4 = c by omega]
def Vm (p q : Int) : List Fr × Bool :=
 if (Yn p q 1).2 && (Yb 1 0).2 && (Xg (Yb 1 0).1).2 && (Xg (Yn p q 1).1).2 && (Wd (Xg (Yb 1 0).1).1 (Xg (Yn p q 1).1).1).2 then
  ((Wd (Xg (Yb 1 0).1).1 (Xg (Yn p q 1).1).1).1.take 4, true) else (Wn 4, false)
theorem mtrow_len (p q : Int) : (Vm p q).1.length = 4 := by
 unfold Vm
 split
 ·rw [List.length_take, Py]
  rfl
 ·rfl
def sof (x y : Fr) : M4 × Bool :=
 Po (Za (Zj x).1 (Zj y).1) (Xy (Zj x).1 (Zj y).1) (Zu ⟨2, 0, 1⟩ (Wz (Zu x (Ze y).1).1).1) (Zu ⟨2, 0, 1⟩ (Wy (Zu x (Ze y).1).1).1)
  (x.valid && y.valid && (Zj x).2 && (Zj y).2 && (Ze y).2 && (Zu x (Ze y).1).2 && (Wz (Zu x (Ze y).1).1).2 && (Wy (Zu x (Ze y).1).1).2)
def Tp (p q : Int) (v : M4) : Fr × Bool := if Rq v && (Vm p q).2 && (Vp (Vm p q).1 0 v).2 then ((Vp (Vm p q).1 0 v).1, true) else (Fr.none, false)
end
section
open Go.RowKit

attribute [local go_sem] Zi Zh
theorem l6tOf_any (t : List Fr) (ht : t.length = 16) (r : Nat) (hr : r < 4) (w : World) : Calls Tryz.prog 45 #[.agg (Zs t), .int .i64 r] w fun e w' => e = .returned (.agg (Zs [tg t (4 * r), tg t (4 * r + 1), tg t (4 * r + 2), tg t (4 * r + 3)])) ∧ Ex w w' := by
 have HTA := Kw (fun k (hk : k < 16) => Ul t k (by omega))
 generalize hct : Zs t = tc at *
 clear hct
 obtain ⟨m0, hm0⟩ : ∃ m : Nat, m = 4 * r + 0 := ⟨_, rfl⟩
 obtain ⟨m1, hm1⟩ : ∃ m : Nat, m = 4 * r + 1 := ⟨_, rfl⟩
 obtain ⟨m2, hm2⟩ : ∃ m : Nat, m = 4 * r + 2 := ⟨_, rfl⟩
 obtain ⟨m3, hm3⟩ : ∃ m : Nat, m = 4 * r + 3 := ⟨_, rfl⟩
 have hw0 : IntKind.i64.wrap (4 * (r : Int)) = (m0 : Int) := by rw [hm0]; have := Kq (4 * (r : Int)) (by omega); rw [this]; omega
 have hw1 : IntKind.i64.wrap ((m0 : Int) + 1) = (m1 : Int) := by rw [hm0, hm1]; have := Kq (((4 * r + 0 : Nat) : Int) + 1) (by omega); rw [this]; omega
 have hw2 : IntKind.i64.wrap ((m0 : Int) + 2) = (m2 : Int) := by rw [hm0, hm2]; have := Kq (((4 * r + 0 : Nat) : Int) + 2) (by omega); rw [this]; omega
 have hw3 : IntKind.i64.wrap ((m0 : Int) + 3) = (m3 : Int) := by rw [hm0, hm3]; have := Kq (((4 * r + 0 : Nat) : Int) + 3) (by omega); rw [this]; omega
 have hl0 : (m0 : Int) < 16 := by omega
 have hl1 : (m1 : Int) < 16 := by omega
 have hl2 : (m2 : Int) < 16 := by omega
 have hl3 : (m3 : Int) < 16 := by omega
 obtain ⟨xf, xg, xh⟩ := HTA.out m0 (by omega)
 rw [Nat.mul_comm 3 m0] at xf xg xh
 obtain ⟨yf, yg, yh⟩ := HTA.out m1 (by omega)
 rw [Nat.mul_comm 3 m1] at yf yg yh
 obtain ⟨zf, zg, zh⟩ := HTA.out m2 (by omega)
 rw [Nat.mul_comm 3 m2] at zf zg zh
 obtain ⟨uf, ug, uh⟩ := HTA.out m3 (by omega)
 rw [Nat.mul_comm 3 m3] at uf ug uh
 rw [show 4 * r + 3 = m3 by omega, show 4 * r + 2 = m2 by omega, show 4 * r + 1 = m1 by omega, show 4 * r = m0 by omega]
 clear hm0 hm1 hm2 hm3
 generalize tg t m0 = x at *
 obtain ⟨x1, x2, x3⟩ := x
 simp only at xf xg xh
 generalize tg t m1 = y at *
 obtain ⟨y1, y2, y3⟩ := y
 simp only at yf yg yh
 generalize tg t m2 = z at *
 obtain ⟨z1, z2, z3⟩ := z
 simp only at zf zg zh
 generalize tg t m3 = u at *
 obtain ⟨u1, u2, u3⟩ := u
 simp only at uf ug uh
 rw [show Zs [⟨x1, x2, x3⟩, ⟨y1, y2, y3⟩, ⟨z1, z2, z3⟩, ⟨u1, u2, u3⟩] = #[.int .i64 x1, .int .i64 x2, .int .i64 x3, .int .i64 y1, .int .i64 y2, .int .i64 y3, .int .i64 z1, .int .i64 z2, .int .i64 z3, .int .i64 u1, .int .i64 u2, .int .i64 u3] from rfl]
 have hS : Zw w ((w.alloc (.cells tc 85)).alloc (.cells #[.int .i64 0, .int .i64 0, .int .i64 0, .int .i64 0, .int .i64 0, .int .i64 0, .int .i64 0, .int .i64 0, .int .i64 0, .int .i64 0, .int .i64 0, .int .i64 0] 31)) _ := Zw.alloc (h := Zw.alloc (h := Zw.refl w) (cs := tc) (t := 85)) (cs := #[.int .i64 0, .int .i64 0, .int .i64 0, .int .i64 0, .int .i64 0, .int .i64 0, .int .i64 0, .int .i64 0, .int .i64 0, .int .i64 0, .int .i64 0, .int .i64 0]) (t := 31)
 simp only [Kv] at hS
 go_enter Tryz.func45, Tryz.ntmps45
 go_upto_region 1 with fail
 refine Zd (St := fun _ _ => True) 24 false (B := fun _ w2 => Zw w w2 [(w.heap.size + 1, 31, #[.int .i64 0, .int .i64 0, .int .i64 0, .int .i64 0, .int .i64 0, .int .i64 0, .int .i64 0, .int .i64 0, .int .i64 0, .int .i64 0, .int .i64 0, .int .i64 0]), (w.heap.size, 85, tc)]) (by kernel_rfl) (by kernel_rfl) (hS.drewW) (by exact fun _ _ _ _ _ h => h) ?_
 iterate 24 (apply Zx; (· rfl); (· intro b wb hB Q1 hQ1; have hS := hB; have hC := hS.reads; simp only [Zz, Zy] at hC; go_wp2_with fail; exact hQ1 _ trivial hB); (· exact ⟨_, rfl⟩))
 refine Zq ?_
 intro wz hz
 have hC := hz.reads
 simp only [Zz, Zy] at hC
 have hE := hz.ex
 go_wp2_with fail
 refine Kr ?_ rfl ⟨rfl, ?_⟩
 ·simp [results, Tryz.results45, go_sem, hC]
 ·repeat' (with_reducible first | exact hE | exact Ex.refl _ | assumption | apply Ex.alloc | apply Ex.drewN | apply Ex.drew | refine Ex.setCell ?_ (by simp <;> omega) _)
end
section
open Go.RowKit

theorem eqFr (x1 x2 x3 y1 y2 y3 : Int) (d : Nat) (w : World) : (Op.equalIn (d + 1 + 1) 30 (.agg #[.int .i64 x1, .int .i64 x2, .int .i64 x3]) (.agg #[.int .i64 y1, .int .i64 y2, .int .i64 y3])).run Tryz.prog w = .ok (decide ((⟨x1, x2, x3⟩ : Fr) = ⟨y1, y2, y3⟩)) w := by
 have hu : Tryz.prog.underlying 30 = some (.struct (Tryz.prog.fieldsOf 30)) := by kernel_rfl
 have hp : Tryz.prog.stoodInHeld 30 = false := by kernel_rfl
 rw [run_equalIn_struct w _ _ _ _ hu hp]
 by_cases h1 : x1 = y1
 ·by_cases h2 : x2 = y2
  ·by_cases h3 : x3 = y3
   ·subst h1 h2 h3
    simp [Program.fieldsOf, Tryz.underlying30, Op.eqFields, go_sem]
   ·simp [Program.fieldsOf, Tryz.underlying30, Op.eqFields, go_sem, h1, h2, h3]
  ·simp [Program.fieldsOf, Tryz.underlying30, Op.eqFields, go_sem, h1, h2]
 ·simp [Program.fieldsOf, Tryz.underlying30, Op.eqFields, go_sem, h1]
end
section
open Go.RowKit
end
section
open Go.RowKit

theorem eqR4 (v u : M4) (d : Nat) (w : World) : (Op.equalIn (d + 1 + 1 + 1) 31 v.v u.v).run Tryz.prog w = .ok (decide (v = u)) w := by
 obtain ⟨i, hi⟩ := info_of_underlying Tryz.underlying30
 have hc : Tryz.prog.cellsOf 30 = 3 := by kernel_rfl
 have hr : List.range 4 = [0, 1, 2, 3] := rfl
 obtain ⟨⟨a1, a2, a3⟩, ⟨b1, b2, b3⟩, ⟨c1, c2, c3⟩, ⟨d1, d2, d3⟩⟩ := v
 obtain ⟨⟨p1, p2, p3⟩, ⟨q1, q2, q3⟩, ⟨r1, r2, r3⟩, ⟨s1, s2, s3⟩⟩ := u
 simp only [M4.v]
 have hA : (Op.equalIn (d + 1 + 1 + 1) 31 (.agg (#[.int .i64 a1, .int .i64 a2, .int .i64 a3, .int .i64 b1, .int .i64 b2, .int .i64 b3, .int .i64 c1, .int .i64 c2, .int .i64 c3, .int .i64 d1, .int .i64 d2, .int .i64 d3])) (.agg (#[.int .i64 p1, .int .i64 p2, .int .i64 p3, .int .i64 q1, .int .i64 q2, .int .i64 q3, .int .i64 r1, .int .i64 r2, .int .i64 r3, .int .i64 s1, .int .i64 s2, .int .i64 s3]))).run Tryz.prog w = .ok (decide ((⟨a1, a2, a3⟩ : Fr) = ⟨p1, p2, p3⟩) && decide ((⟨b1, b2, b3⟩ : Fr) = ⟨q1, q2, q3⟩) && decide ((⟨c1, c2, c3⟩ : Fr) = ⟨r1, r2, r3⟩) && decide ((⟨d1, d2, d3⟩ : Fr) = ⟨s1, s2, s3⟩)) w := by
  rw [run_equalIn_array w (d + 1 + 1) (#[.int .i64 a1, .int .i64 a2, .int .i64 a3, .int .i64 b1, .int .i64 b2, .int .i64 b3, .int .i64 c1, .int .i64 c2, .int .i64 c3, .int .i64 d1, .int .i64 d2, .int .i64 d3]) (#[.int .i64 p1, .int .i64 p2, .int .i64 p3, .int .i64 q1, .int .i64 q2, .int .i64 q3, .int .i64 r1, .int .i64 r2, .int .i64 r3, .int .i64 s1, .int .i64 s2, .int .i64 s3]) Tryz.underlying31 hi, hc, hr]
  have e0 := fun w => eqFr a1 a2 a3 p1 p2 p3 d w
  have e1 := fun w => eqFr b1 b2 b3 q1 q2 q3 d w
  have e2 := fun w => eqFr c1 c2 c3 r1 r2 r3 d w
  have e3 := fun w => eqFr d1 d2 d3 s1 s2 s3 d w
  generalize decide ((⟨a1, a2, a3⟩ : Fr) = ⟨p1, p2, p3⟩) = x0 at e0 ⊢
  generalize decide ((⟨b1, b2, b3⟩ : Fr) = ⟨q1, q2, q3⟩) = x1 at e1 ⊢
  generalize decide ((⟨c1, c2, c3⟩ : Fr) = ⟨r1, r2, r3⟩) = x2 at e2 ⊢
  generalize decide ((⟨d1, d2, d3⟩ : Fr) = ⟨s1, s2, s3⟩) = x3 at e3 ⊢
  have part_a : ∀ w, (Go.part 30 (#[.int .i64 a1, .int .i64 a2, .int .i64 a3, .int .i64 b1, .int .i64 b2, .int .i64 b3, .int .i64 c1, .int .i64 c2, .int .i64 c3, .int .i64 d1, .int .i64 d2, .int .i64 d3]) 0).run Tryz.prog w = .ok (.agg #[.int .i64 a1, .int .i64 a2, .int .i64 a3]) w := fun w => by simp [Go.part, go_sem]
  have part_b : ∀ w, (Go.part 30 (#[.int .i64 a1, .int .i64 a2, .int .i64 a3, .int .i64 b1, .int .i64 b2, .int .i64 b3, .int .i64 c1, .int .i64 c2, .int .i64 c3, .int .i64 d1, .int .i64 d2, .int .i64 d3]) 3).run Tryz.prog w = .ok (.agg #[.int .i64 b1, .int .i64 b2, .int .i64 b3]) w := fun w => by simp [Go.part, go_sem]
  have part_c : ∀ w, (Go.part 30 (#[.int .i64 a1, .int .i64 a2, .int .i64 a3, .int .i64 b1, .int .i64 b2, .int .i64 b3, .int .i64 c1, .int .i64 c2, .int .i64 c3, .int .i64 d1, .int .i64 d2, .int .i64 d3]) 6).run Tryz.prog w = .ok (.agg #[.int .i64 c1, .int .i64 c2, .int .i64 c3]) w := fun w => by simp [Go.part, go_sem]
  have part_d : ∀ w, (Go.part 30 (#[.int .i64 a1, .int .i64 a2, .int .i64 a3, .int .i64 b1, .int .i64 b2, .int .i64 b3, .int .i64 c1, .int .i64 c2, .int .i64 c3, .int .i64 d1, .int .i64 d2, .int .i64 d3]) 9).run Tryz.prog w = .ok (.agg #[.int .i64 d1, .int .i64 d2, .int .i64 d3]) w := fun w => by simp [Go.part, go_sem]
  have part_p : ∀ w, (Go.part 30 (#[.int .i64 p1, .int .i64 p2, .int .i64 p3, .int .i64 q1, .int .i64 q2, .int .i64 q3, .int .i64 r1, .int .i64 r2, .int .i64 r3, .int .i64 s1, .int .i64 s2, .int .i64 s3]) 0).run Tryz.prog w = .ok (.agg #[.int .i64 p1, .int .i64 p2, .int .i64 p3]) w := fun w => by simp [Go.part, go_sem]
  have part_q : ∀ w, (Go.part 30 (#[.int .i64 p1, .int .i64 p2, .int .i64 p3, .int .i64 q1, .int .i64 q2, .int .i64 q3, .int .i64 r1, .int .i64 r2, .int .i64 r3, .int .i64 s1, .int .i64 s2, .int .i64 s3]) 3).run Tryz.prog w = .ok (.agg #[.int .i64 q1, .int .i64 q2, .int .i64 q3]) w := fun w => by simp [Go.part, go_sem]
  have part_r : ∀ w, (Go.part 30 (#[.int .i64 p1, .int .i64 p2, .int .i64 p3, .int .i64 q1, .int .i64 q2, .int .i64 q3, .int .i64 r1, .int .i64 r2, .int .i64 r3, .int .i64 s1, .int .i64 s2, .int .i64 s3]) 6).run Tryz.prog w = .ok (.agg #[.int .i64 r1, .int .i64 r2, .int .i64 r3]) w := fun w => by simp [Go.part, go_sem]
  have part_s : ∀ w, (Go.part 30 (#[.int .i64 p1, .int .i64 p2, .int .i64 p3, .int .i64 q1, .int .i64 q2, .int .i64 q3, .int .i64 r1, .int .i64 r2, .int .i64 r3, .int .i64 s1, .int .i64 s2, .int .i64 s3]) 9).run Tryz.prog w = .ok (.agg #[.int .i64 s1, .int .i64 s2, .int .i64 s3]) w := fun w => by simp [Go.part, go_sem]
  cases x0 <;> cases x1 <;> cases x2 <;> cases x3 <;> simp [Op.eqItems, e0, e1, e2, e3, part_a, part_b, part_c, part_d, part_p, part_q, part_r, part_s]
 have hd : decide ((⟨⟨a1, a2, a3⟩, ⟨b1, b2, b3⟩, ⟨c1, c2, c3⟩, ⟨d1, d2, d3⟩⟩ : M4) = ⟨⟨p1, p2, p3⟩, ⟨q1, q2, q3⟩, ⟨r1, r2, r3⟩, ⟨s1, s2, s3⟩⟩) = (decide ((⟨a1, a2, a3⟩ : Fr) = ⟨p1, p2, p3⟩) && decide ((⟨b1, b2, b3⟩ : Fr) = ⟨q1, q2, q3⟩) && decide ((⟨c1, c2, c3⟩ : Fr) = ⟨r1, r2, r3⟩) && decide ((⟨d1, d2, d3⟩ : Fr) = ⟨s1, s2, s3⟩)) := by
  rw [Bool.eq_iff_iff]
  simp [and_assoc]
 rw [hd]
 exact hA
theorem eqlA4 (v u : M4) (w : World) : (binOp .eql 31 v.v u.v).run Tryz.prog w = .ok (.bool (decide (v = u))) w := by
 have h := eqR4 v u 9997 w
 unfold M4.v at h ⊢
 rw [run_eql_struct, h]
 rfl
theorem neqA4 (v u : M4) (w : World) : (binOp .neq 31 v.v u.v).run Tryz.prog w = .ok (.bool (!decide (v = u))) w := by
 have h := eqR4 v u 9997 w
 unfold M4.v at h ⊢
 rw [run_neq_struct, h]
 rfl
end
end Go.Proofs.YtiommfmaleeibaaGreatDoor
