/-
  Proved: what functions compute, part 19. No condition.
-/
import Derived.Test.YtmmjkchjgeklnaaGreatDoorK15
import Derived.Test.YtmmjkchjgeklnaaGreatDoorK18
import Derived.Test.YtmmjkchjgeklnaaGreatDoorK13
import Derived.LoopN
import Derived.Test.YtmmjkchjgeklnaaGreatDoorK07
import Derived.Deep.DeepCutAuto
import Derived.Test.YtmmjkchjgeklnaaGreatDoorK12
import Derived.Test.YtmmjkchjgeklnaaGreatDoorK06
set_option linter.unusedSimpArgs false
set_option linter.unusedVariables false
set_option maxRecDepth 20000
set_option maxHeartbeats 8000000
namespace Go.Proofs.YtmmjkchjgeklnaaGreatDoor
section
theorem flow_one {x : Fr} (h : x.valid = true) : flow x.re x.im x.den = (x, true) := by
 obtain ⟨⟨r1, r2⟩, ⟨i1, i2⟩, ⟨d1, d2⟩, hg⟩ := Fr.valid_out h
 unfold flow
 rw [hg]
 simp only [Int.tdiv_one]
 have e1 : Xs x.re (-2000000000) 2000000000 = true := by simp [Xs]; omega
 have e2 : Xs x.im (-2000000000) 2000000000 = true := by simp [Xs]; omega
 rw [e1, e2, decide_eq_true d2]
 rfl
theorem fsum_nul {x : Fr} (h : x.valid = true) : Yk 1 Fr.nul x = (x, true) := by
 have hn : Fr.nul.valid = true := by decide
 unfold Yk
 rw [hn, h]
 simp only [Bool.and_self, if_true]
 rw [← flow_one h]
 unfold Fr.nul
 congr 1 <;> simp
def rowR (a b c d x y z u : Fr) : Fr × Bool :=
 ((Yt (Yt (Yt (Zs a x).1 (Zs b y).1).1 (Zs c z).1).1 (Zs d u).1).1,
  (Zs a x).2 && (Zs b y).2 && (Yt (Zs a x).1 (Zs b y).1).2 && (Zs c z).2 && (Yt (Yt (Zs a x).1 (Zs b y).1).1 (Zs c z).1).2 && (Zs d u).2 &&
   (Yt (Yt (Yt (Zs a x).1 (Zs b y).1).1 (Zs c z).1).1 (Zs d u).1).2)
def rowS (a b c d x y z u : Fr) : Fr × Bool :=
 ((Yk 1 (Yk 1 (Yk 1 (Yk 1 Fr.nul (Zs a x).1).1 (Zs b y).1).1 (Zs c z).1).1 (Zs d u).1).1,
  (Zs a x).2 && (Yk 1 Fr.nul (Zs a x).1).2 && (Zs b y).2 && (Yk 1 (Yk 1 Fr.nul (Zs a x).1).1 (Zs b y).1).2 &&
  (Zs c z).2 && (Yk 1 (Yk 1 (Yk 1 Fr.nul (Zs a x).1).1 (Zs b y).1).1 (Zs c z).1).2 && (Zs d u).2 &&
  (Yk 1 (Yk 1 (Yk 1 (Yk 1 Fr.nul (Zs a x).1).1 (Zs b y).1).1 (Zs c z).1).1 (Zs d u).1).2)
theorem Lt {a b : Fr} (h : (Zs a b).2 = true) : (Zs a b).1.valid = true := by
 unfold Zs at h ⊢
 split at h
 ·rename_i hv
  rw [if_pos hv]
  simp only [Bool.and_eq_true] at hv
  obtain ⟨-, -, ⟨ad, -⟩, -⟩ := Fr.valid_out hv.1
  obtain ⟨-, -, ⟨bd, -⟩, -⟩ := Fr.valid_out hv.2
  exact Nm (Tt ad bd) h
 ·cases h
theorem rowS_alk (a b c d x y z u : Fr) : Alk (rowS a b c d x y z u) (rowR a b c d x y z u) := by
 unfold rowS rowR
 simp only [← Mb]
 rcases h1 : (Zs a x).2 with _ | _
 ·exact ⟨by simp, fun h => by simp at h⟩
 ·rw [fsum_nul (Lt h1)]
  exact ⟨by simp, fun _ => rfl⟩

def Uz (v : M4) : Bool := Pf v.a v.b v.c v.d
def Qd (t : List Fr) : Bool := t.all rok
def tg (t : List Fr) (i : Nat) : Fr := t.getD i Fr.none
def Tn (t : List Fr) (r : Nat) (v : M4) : Fr × Bool := rowR (tg t (4 * r)) (tg t (4 * r + 1)) (tg t (4 * r + 2)) (tg t (4 * r + 3)) v.a v.b v.c v.d
def Ro (t : List Fr) (v : M4) : M4 × Bool := Pt (Tn t 0 v) (Tn t 1 v) (Tn t 2 v) (Tn t 3 v) (Qd t && Uz v)
def diag (c : Fr) : List Fr := [Fr.one, Fr.nul, Fr.nul, Fr.nul, Fr.nul, c, Fr.nul, Fr.nul, Fr.nul, Fr.nul, c, Fr.nul, Fr.nul, Fr.nul, Fr.nul, c]
def Sy (c : Fr) : List Fr × Bool := if rok c then (diag c, true) else (Tl 16, false)
theorem Jz (m : M4) : (Tk m).1.length = 16 := by
 unfold Tk
 split <;> simp [Rr, Tl]
theorem Jy (c : Fr) : (Sy c).1.length = 16 := by
 unfold Sy
 split <;> simp [diag, Tl]
def row3 (v : M4) : Fr × Bool :=
 ((Yt (Yt (Zs v.b v.b).1 (Zs v.c v.c).1).1 (Zs v.d v.d).1).1,
  (Zs v.b v.b).2 && (Zs v.c v.c).2 && (Yt (Zs v.b v.b).1 (Zs v.c v.c).1).2 && (Zs v.d v.d).2 && (Yt (Yt (Zs v.b v.b).1 (Zs v.c v.c).1).1 (Zs v.d v.d).1).2)
def Vq (v : M4) : Fr × Bool := if Uz v && (row3 v).2 then ((row3 v).1, true) else (Fr.none, false)
def Uh (v : M4) : Int × Bool := if (Vq v).2 && (Zs v.a v.a).2 then Rw (Zs v.a v.a).1 (Vq v).1 else (0, false)
def Rn (v : M4) : Bool := (Uh v).2 && decide (0 ≤ (Uh v).1) && decide (0 ≤ v.a.re)
theorem fadd2_nul {x : Fr} (h : x.valid = true) : Yt Fr.nul x = (x, true) := by rw [← Mb]; exact fsum_nul h
def Ux (xs ys : List Fr) (i k : Nat) : Bool := (Zs (tg xs i) (tg ys k)).2 && (Zs (tg xs k) (tg ys i)).2 && decide ((Zs (tg xs i) (tg ys k)).1 = (Zs (tg xs k) (tg ys i)).1)
def Vy (xs ys : List Fr) : Bool := (List.range 4).all fun i => (List.range 4).all fun k => decide (i = k) || Ux xs ys i k
def M4.l (v : M4) : List Fr := [v.a, v.b, v.c, v.d]
def Tr (x y : M4) : Bool := Uz x && Uz y && decide (Uw x.a.re = Uw y.a.re) && Vy x.l y.l
theorem Jn (a b : Fr) : Zs a b = Zs b a := by
 unfold Zs
 rw [Bool.and_comm b.valid a.valid, Int.mul_comm b.re a.re, Int.mul_comm b.im a.im, Int.mul_comm b.re a.im, Int.mul_comm b.im a.re, Int.mul_comm b.den a.den, Int.add_comm (a.im * b.re)]
theorem crossL_swap (xs ys : List Fr) (i k : Nat) : Ux xs ys i k = Ux xs ys k i := by
 unfold Ux
 rw [Bool.and_comm (Zs (tg xs i) (tg ys k)).2]
 congr 1
 exact decide_eq_decide.2 ⟨Eq.symm, Eq.symm⟩
theorem crossL_comm (xs ys : List Fr) (i k : Nat) : Ux xs ys i k = Ux ys xs i k := by
 unfold Ux
 rw [Jn (tg ys i), Jn (tg ys k), Bool.and_comm (Zs (tg xs k) (tg ys i)).2]
 congr 1
 exact decide_eq_decide.2 ⟨Eq.symm, Eq.symm⟩
theorem salike_comm (x y : M4) : Tr x y = Tr y x := by
 unfold Tr
 rw [Bool.and_comm (Uz x), show Vy x.l y.l = Vy y.l x.l by unfold Vy; simp only [crossL_comm x.l y.l]]
 congr 2
 exact decide_eq_decide.2 ⟨Eq.symm, Eq.symm⟩
theorem Ls (xs ys : List Fr) : Vy xs ys = true ↔ ∀ i k, i < 4 → k < 4 → i ≠ k → Ux xs ys i k = true := by
 unfold Vy
 simp only [List.all_eq_true, List.mem_range, Bool.or_eq_true, decide_eq_true_eq]
 exact ⟨fun h i k hi hk hne => (h i hi k hk).resolve_left hne, fun h i hi k hk => by
  by_cases he : i = k
  ·exact .inl he
  ·exact .inr (h i k hi hk he)⟩
end
section
open Go.RowKit

theorem Ji : ∀ (l : List Fr) (i : Nat), i < l.length → (l.flatMap Rt)[3 * i]? = some (.int .i64 (tg l i).re) ∧ (l.flatMap Rt)[3 * i + 1]? = some (.int .i64 (tg l i).im) ∧ (l.flatMap Rt)[3 * i + 2]? = some (.int .i64 (tg l i).den)
 | [], i, h => by simp at h
 | x :: l, 0, h => by simp [Rt, tg]
 | x :: l, i + 1, h => by
  have ih := Ji l i (by simpa using h)
  rw [show 3 * (i + 1) = 3 * i + 3 by omega, show 3 * i + 3 + 1 = 3 * i + 1 + 3 by omega, show 3 * i + 3 + 2 = 3 * i + 2 + 3 by omega]
  simpa [Rt, tg] using ih
theorem Rk (l : List Fr) (i : Nat) (h : i < l.length) : (Zo l)[3 * i]? = some (.int .i64 (tg l i).re) ∧ (Zo l)[3 * i + 1]? = some (.int .i64 (tg l i).im) ∧ (Zo l)[3 * i + 2]? = some (.int .i64 (tg l i).den) := by
 have := Ji l i h
 simpa [Zo] using this
theorem Xy (l : List Fr) : (Zo l).size = 3 * l.length := by
 induction l with
 | nil => rfl
 | cons x l ih => simp only [tabArr_cons, Array.size_append, ih, List.length_cons]; simp; omega
theorem tab_cut (l : List Fr) (i : Nat) (h : i < l.length) : (Zo l).extract (3 * i) (3 * i + 3) = #[.int .i64 (tg l i).re, .int .i64 (tg l i).im, .int .i64 (tg l i).den] := by
 obtain ⟨h0, h1, h2⟩ := Rk l i h
 have hs := Xy l
 apply Array.ext
 ·simp; omega
 ·intro j hj1 hj2
  have hj : j < 3 := by simpa using hj2
  rw [Array.getElem_extract]
  have e : ∀ m (hm : m < (Zo l).size) v, (Zo l)[m]? = some v → (Zo l)[m] = v := fun m hm v hv => by
   rw [Array.getElem?_eq_getElem hm] at hv
   exact Option.some.inj hv
  obtain rfl | rfl | rfl : j = 0 ∨ j = 1 ∨ j = 2 := by omega
  ·exact e _ (by omega) _ h0
  ·exact e _ (by omega) _ h1
  ·exact e _ (by omega) _ h2
theorem tab_all {l : List Fr} (h : Qd l = true) {i : Nat} (hi : i < l.length) : rok (tg l i) = true := by
 unfold Qd at h
 rw [List.all_eq_true] at h
 unfold tg
 rw [List.getD_eq_getElem?_getD, List.getElem?_eq_getElem hi]
 exact h _ (List.getElem_mem hi)
theorem tab_no {l : List Fr} {i : Nat} (hi : i < l.length) (h : rok (tg l i) = false) : Qd l = false := by
 cases hk : Qd l with
 | false => rfl
 | true => rw [tab_all hk hi] at h; cases h
theorem tab_yes {l : List Fr} (h : ∀ i, i < l.length → rok (tg l i) = true) : Qd l = true := by
 unfold Qd
 rw [List.all_eq_true]
 intro x hx
 obtain ⟨i, hi, rfl⟩ := List.mem_iff_getElem.1 hx
 have := h i hi
 unfold tg at this
 rw [List.getD_eq_getElem?_getD, List.getElem?_eq_getElem hi] at this
 exact this
theorem indexT (l : List Fr) (hl : l.length = 16) (k : Nat) (hk : k < 16) (w : World) : (Instr.index 85 (.agg (Zo l)) (.int .i64 k)).run Tryz.prog w = .ok (.agg #[.int .i64 (tg l k).re, .int .i64 (tg l k).im, .int .i64 (tg l k).den]) w := by
 have hs := Xy l
 have hw := Gp (k : Int) (by omega)
 have hc := tab_cut l k (by omega)
 have h1 : (k : Int) < 16 := by omega
 have h2 : ¬ (k : Int) < 0 := by omega
 simp [Instr.index, run_underlying Tryz.underlying85, asIntOf, go_sem, hs, hl, h1, h2]
 rw [if_pos hk, Nat.mul_comm k 3, hc]
theorem cellA {cs : Array Value} (h : cs.size = 48) : (Tryz.prog.info? 85).map (·.size) = some cs.size := by rw [h]; kernel_rfl
theorem iTableValid (t : List Fr) (ht : t.length = 16) (w : World) : Calls Tryz.prog 73 #[.agg (Zo t)] w fun e w' => e = .returned (.bool (Qd t)) ∧ Ex w w' := by
 have hs : (Zo t).size = 48 := by rw [Xy, ht]
 have HIX := Gv (fun k hk w => indexT t ht k hk w)
 have KO := Gv (fun x w => Rq x w)
 have HA := Gv (fun (h : Qd t = true) i (hi : i < 16) => tab_all h (i := i) (by omega))
 have HN := Gv (fun i (hi : i < 16) (h : rok (tg t i) = false) => tab_no (by omega) h)
 have HY := Gv (fun (h : ∀ i, i < 16 → rok (tg t i) = true) => tab_yes (l := t) (fun i hi => h i (by omega)))
 generalize hct : Zo t = cs at *
 have b0 := Box.new w cs 87
 have hE0 := (Ex.refl w).alloc (.cells cs 87)
 have c0 := b0.cell
 clear hct
 go_enter Tryz.func73, Tryz.ntmps73
 go_wp2_with (refine wpList_load_row rfl _ _ rfl _ rfl _ _ (0, 0) _ b0 Tryz.underlying85 rfl (cellA hs) ?_)
 clear c0 b0
 go_loopw [7, 4] (fun i f wr => ∃ k : Nat, i = .int .i64 k ∧ k ≤ 16 ∧ Hid (∀ j, j < k → rok (tg t j) = true) ∧ Hid (Ex w wr)) (fun i _ _ => 17 - (intOf i).toNat)
 case atStart => exact ⟨0, rfl, by omega, Gv (fun j hj => absurd hj (by omega)), Gv hE0⟩
 case round =>
  obtain ⟨k, rfl, hk, HR, HE⟩ := hrel
  clear hE0
  by_cases hlt : k < 16
  ·have hI : (k : Int) < 16 := by omega
   have hix := fun w => HIX.out k hlt w
   have hw5 : IntKind.i64.wrap ((k : Int) + 1) = (k : Int) + 1 := Gp _ (by omega)
   have ko := fun w => KO.out (tg t k) w
   have HNk := Gv (HN.out k hlt)
   have HRk : Hid (rok (tg t k) = true → ∀ j, j < k + 1 → rok (tg t j) = true) := Gv fun h j hj => by
    by_cases hjk : j = k
    ·rw [hjk]; exact h
    ·exact HR.out j (by omega)
   generalize rok (tg t k) = v at ko HNk HRk
   generalize tg t k = x at hix ko
   obtain ⟨x1, x2, x3⟩ := x
   simp only [Fr.v] at ko hix
   have K := Gv ko
   clear ko
   rcases v with _ | _
   ·have HF := Gv (HNk.out rfl)
    clear HNk HRk
    go_wp2_with (go_at_call 67; (with_reducible refine (K.out _).mono ?_); rintro e w2 ⟨rfl, hx⟩)
    go_ret
    exact ⟨by rw [HF.out]; rfl, (HE.out.alloc _).trans hx⟩
   ·have HF := Gv (HRk.out rfl)
    clear HNk HRk
    go_wp2_with (go_at_call 67; (with_reducible refine (K.out _).mono ?_); rintro e w2 ⟨rfl, hx⟩)
    go_roundw
    case rel => exact ⟨k + 1, by go_num, by omega, HF, Gv ((HE.out.alloc _).trans hx)⟩
    case measure => simp [intOf] <;> omega
  ·obtain rfl : k = 16 := by omega
   have HT := Gv (HY.out HR.out)
   clear hlt
   go_wp2
   go_ret
   exact ⟨by rw [HT.out]; rfl, HE.out⟩
theorem sTableValid (t : List Fr) (ht : t.length = 16) (w : World) : Calls Tryz.prog 92 #[.agg (Zo t)] w fun e w' => e = .returned (.bool (Qd t)) ∧ Ex w w' := by
 have HAT := Gv (fun k (hk : k < 16) => Rk t k (by omega))
 have KO := Gv (fun (x : Fr) w => Xw x.re x.im x.den w)
 have HN := Gv (fun i (hi : i < 16) (h : rok (tg t i) = false) => tab_no (by omega) h)
 have HY := Gv (fun (h : ∀ i, i < 16 → rok (tg t i) = true) => tab_yes (l := t) (fun i hi => h i (by omega)))
 have hs : (Zo t).size = 48 := by rw [Xy, ht]
 generalize Zo t = cs at *
 have b0 := Box.new w cs 87
 have hE0 := (Ex.refl w).alloc (.cells cs 87)
 go_enter Tryz.func92, Tryz.ntmps92
 go_wp2
 go_loopw [3] (fun i wr => ∃ k : Nat, i = .int .i64 k ∧ k ≤ 16 ∧ Hid (∀ j, j < k → rok (tg t j) = true) ∧ Box wr w.heap.size 87 cs ∧ Hid (Ex w wr)) (fun i _ => 17 - (intOf i).toNat)
 case atStart => exact ⟨0, rfl, by omega, Gv (fun j hj => absurd hj (by omega)), b0, Gv hE0⟩
 case round =>
  clear b0 hE0
  obtain ⟨k, rfl, hk, HR, bT, HE⟩ := hrel
  by_cases hlt : k < 16
  ·have hI : (k : Int) < 16 := by omega
   obtain ⟨a0, a1, a2⟩ := HAT.out k hlt
   have d0 : wr.cell? ⟨w.heap.size, k * 3, none⟩ = some (.int .i64 (tg t k).re) := by rw [Nat.mul_comm]; exact (bT.cell _).trans a0
   have d1 : wr.cell? ⟨w.heap.size, k * 3 + 1, none⟩ = some (.int .i64 (tg t k).im) := by rw [Nat.mul_comm]; exact (bT.cell _).trans a1
   have d2 : wr.cell? ⟨w.heap.size, k * 3 + 2, none⟩ = some (.int .i64 (tg t k).den) := by rw [Nat.mul_comm]; exact (bT.cell _).trans a2
   have hw5 : IntKind.i64.wrap ((k : Int) + 1) = (k : Int) + 1 := Gp _ (by omega)
   have ko := fun w => KO.out (tg t k) w
   have HNk := Gv (HN.out k hlt)
   have HRk : Hid (rok (tg t k) = true → ∀ j, j < k + 1 → rok (tg t j) = true) := Gv fun h j hj => by
    by_cases hjk : j = k
    ·rw [hjk]; exact h
    ·exact HR.out j (by omega)
   have hrk : rok (tg t k) = (Zh (tg t k).re (tg t k).im (tg t k).den && decide ((tg t k).im = 0)) := rfl
   have zT := bT.lt
   clear a0 a1 a2
   generalize rok (tg t k) = rv at HNk HRk hrk
   generalize tg t k = x at d0 d1 d2 ko hrk
   obtain ⟨x1, x2, x3⟩ := x
   simp only at d0 d1 d2 ko hrk
   generalize Zh x1 x2 x3 = v at ko hrk
   have K := Gv ko
   clear ko
   rcases v with _ | _
   ·have HF := Gv (HNk.out (by rw [hrk]; rfl))
    clear HNk HRk hrk
    go_wp2_with (go_at_call 87; (with_reducible refine (K.out _).mono ?_); rintro e w2 ⟨rfl, hx⟩)
    go_ret
    exact ⟨by rw [HF.out]; rfl, HE.out.trans hx⟩
   ·by_cases h0 : x2 = 0
    ·have HF := Gv (HRk.out (by rw [hrk, decide_eq_true h0]; rfl))
     have h0b : (x2 == 0) = true := by simpa using h0
     clear HNk HRk hrk
     subst h0
     go_wp2_with (go_at_call 87; (with_reducible refine (K.out _).mono ?_); rintro e w2 ⟨rfl, hx⟩; have d1 := hx.get d1)
     go_roundw
     case rel => exact ⟨k + 1, by go_num, by omega, HF, bT.ex hx, Gv (HE.out.trans hx)⟩
     case measure => simp [intOf] <;> omega
    ·have HF := Gv (HNk.out (by rw [hrk, decide_eq_false h0]; rfl))
     have h0b : (x2 == 0) = false := by simpa using h0
     clear HNk HRk hrk
     go_wp2_with (go_at_call 87; (with_reducible refine (K.out _).mono ?_); rintro e w2 ⟨rfl, hx⟩; have d1 := hx.get d1)
     go_ret
     exact ⟨by rw [HF.out]; rfl, HE.out.trans hx⟩
  ·obtain rfl : k = 16 := by omega
   have HT := Gv (HY.out HR.out)
   clear hlt
   go_wp2
   go_ret
   exact ⟨by rw [HT.out]; rfl, HE.out⟩
end
section
open Go.RowKit

attribute [local go_sem] Zk Zj
theorem M4.l_arr (v : M4) : v.v = .agg (Zo v.l) := rfl
theorem Ss {cs : Array Value} (h : cs.size = 12) : (Tryz.prog.info? 35).map (·.size) = some cs.size := by rw [h]; kernel_rfl
def Z12 : Array Value := #[.int .i64 0, .int .i64 0, .int .i64 0, .int .i64 0, .int .i64 0, .int .i64 0, .int .i64 0, .int .i64 0, .int .i64 0, .int .i64 0, .int .i64 0, .int .i64 0]
theorem Z12_eq : Z12 = Zo (Tl 4) := rfl
def Iy (t : List Fr) (r : Nat) (v : M4) : Nat → Fr × Bool
 | 0 => Zs (tg t (4 * r)) v.a
 | k + 1 => ((Yt (Iy t r v k).1 (Zs (tg t (4 * r + (k + 1))) (tg v.l (k + 1))).1).1,
   (Iy t r v k).2 && (Zs (tg t (4 * r + (k + 1))) (tg v.l (k + 1))).2 && (Yt (Iy t r v k).1 (Zs (tg t (4 * r + (k + 1))) (tg v.l (k + 1))).1).2)
theorem racc_row (t : List Fr) (r : Nat) (v : M4) : Iy t r v 3 = Tn t r v := by
 simp [Iy, Tn, rowR, tg, M4.l]
def Oo (t : List Fr) (v : M4) (r : Nat) : List Fr := (List.range 4).map fun j => if j < r then (Tn t j v).1 else Fr.none
def Tv (t : List Fr) (v : M4) : Nat → Bool
 | 0 => true
 | r + 1 => Tv t v r && (Tn t r v).2
theorem rowsL_set (t : List Fr) (v : M4) (r : Nat) (hr : r < 4) : (Oo t v r).set r (Tn t r v).1 = Oo t v (r + 1) := by
 obtain rfl | rfl | rfl | rfl : r = 0 ∨ r = 1 ∨ r = 2 ∨ r = 3 := by omega
 all_goals rfl
theorem rowsL_len (t : List Fr) (v : M4) (r : Nat) : (Oo t v r).length = 4 := rfl
theorem rowsL_zero (t : List Fr) (v : M4) : Oo t v 0 = Tl 4 := rfl
theorem Jh (t : List Fr) (v : M4) : Ro t v = if Qd t && Uz v && Tv t v 4 then (⟨(Tn t 0 v).1, (Tn t 1 v).1, (Tn t 2 v).1, (Tn t 3 v).1⟩, true) else (M4.none, false) := by
 unfold Ro Pt
 simp only [Tv, Bool.true_and, Bool.and_assoc]
theorem rowsL_all (t : List Fr) (v : M4) : Oo t v 4 = [(Tn t 0 v).1, (Tn t 1 v).1, (Tn t 2 v).1, (Tn t 3 v).1] := rfl
theorem iTableApply (t : List Fr) (ht : t.length = 16) (v : M4) (w : World) : Calls Tryz.prog 47 #[.agg (Zo t), v.v] w (fun e w' => e = .returned (m4v (Ro t v)) ∧ Ex w w') := by
 have kt := fun w => iTableValid t ht w
 have ksv : ∀ w, Calls Tryz.prog 45 #[.agg #[.int .i64 v.a.re, .int .i64 v.a.im, .int .i64 v.a.den, .int .i64 v.b.re, .int .i64 v.b.im, .int .i64 v.b.den, .int .i64 v.c.re, .int .i64 v.c.im, .int .i64 v.c.den, .int .i64 v.d.re, .int .i64 v.d.im, .int .i64 v.d.den]] w fun e w' => e = .returned (.bool (Uz v)) ∧ Ex w w' := fun w => Ts v.a v.b v.c v.d w
 unfold M4.v
 have hst : (Zo t).size = 48 := by rw [Xy, ht]
 have HTA := Gv (fun k (hk : k < 16) => Rk t k (by omega))
 have HVA := Gv (fun k (hk : k < 4) => Rk v.l k (by simp [M4.l]; omega))
 have HTP := Gv (Jh t v)
 have RA := Gv (racc_row t)
 generalize hct : Zo t = tc at *
 generalize Qd t = tv at *
 generalize Uz v = sv at *
 have KT := Gv kt
 have KS := Gv ksv
 clear kt ksv hct
 have hR := Zw.refl w
 go_enter Tryz.func47, Tryz.ntmps47
 go_upto_region 1 with fail
 have hV : Zw w (((w.alloc (.cells tc 87)).alloc (.cells #[.int .i64 v.a.re, .int .i64 v.a.im, .int .i64 v.a.den, .int .i64 v.b.re, .int .i64 v.b.im, .int .i64 v.b.den, .int .i64 v.c.re, .int .i64 v.c.im, .int .i64 v.c.den, .int .i64 v.d.re, .int .i64 v.d.im, .int .i64 v.d.den] 35)).alloc (.cells Z12 35)) _ := inferInstance
 clear hR
 rw [show #[.int .i64 0, .int .i64 0, .int .i64 0, .int .i64 0, .int .i64 0, .int .i64 0, .int .i64 0, .int .i64 0, .int .i64 0, .int .i64 0, .int .i64 0, .int .i64 0] = Z12 from rfl]
 have hle : w.heap.size ≤ (((w.alloc (.cells tc 87)).alloc (.cells #[.int .i64 v.a.re, .int .i64 v.a.im, .int .i64 v.a.den, .int .i64 v.b.re, .int .i64 v.b.im, .int .i64 v.b.den, .int .i64 v.c.re, .int .i64 v.c.im, .int .i64 v.c.den, .int .i64 v.d.re, .int .i64 v.d.im, .int .i64 v.d.den] 35)).alloc (.cells Z12 35)).heap.size := hV.ex.size
 simp only [Gu] at hV
 generalize ((w.alloc (.cells tc 87)).alloc (.cells #[.int .i64 v.a.re, .int .i64 v.a.im, .int .i64 v.a.den, .int .i64 v.b.re, .int .i64 v.b.im, .int .i64 v.b.den, .int .i64 v.c.re, .int .i64 v.c.im, .int .i64 v.c.den, .int .i64 v.d.re, .int .i64 v.d.im, .int .i64 v.d.den] 35)).alloc (.cells Z12 35) = W0 at *
 have hW : Zq w (W0.alloc (.cells #[.bool false] 128)) W0.heap.size false _ := Zq.start (h := hV)
 go_cut [6] (fun s wx => s = .pointer (some ⟨W0.heap.size, 0, none⟩) ∧ Zq w wx W0.heap.size (!(tv && sv)) [(w.heap.size + 1 + 1, 35, Z12), (w.heap.size + 1, 35, #[.int .i64 v.a.re, .int .i64 v.a.im, .int .i64 v.a.den, .int .i64 v.b.re, .int .i64 v.b.im, .int .i64 v.b.den, .int .i64 v.c.re, .int .i64 v.c.im, .int .i64 v.c.den, .int .i64 v.d.re, .int .i64 v.d.im, .int .i64 v.d.den]), (w.heap.size, 87, tc)])
 case first =>
  have hb1 := hW.boxes.2.2.1
  rcases tv with _ | _
  ·go_wp2_with (first | (refine wpList_load_row rfl _ _ rfl _ rfl _ _ (0, 0) _ hb1 Tryz.underlying87 rfl (Ye hst) ?_) | (go_at_call 73; (with_reducible refine (KT.out _).mono ?_); rintro e w1 ⟨rfl, hx⟩; replace hW := Zq.ex hW hx; clear hx; have hC2 := hW.boxes.2.1.cell) | (go_at_call 45; (with_reducible refine (KS.out _).mono ?_); rintro e w2 ⟨rfl, hx⟩; replace hW := Zq.ex hW hx; clear hx) | (go_at_call 72; (with_reducible refine (Oj _ _ _ _ hW.sum).mono ?_); rintro e w3 ⟨rfl, hs, hb⟩; have hN := Zq.call hW hs hb))
   go_meet
   exact ⟨rfl, hN⟩
  ·rcases sv with _ | _
   ·go_wp2_with (first | (refine wpList_load_row rfl _ _ rfl _ rfl _ _ (0, 0) _ hb1 Tryz.underlying87 rfl (Ye hst) ?_) | (go_at_call 73; (with_reducible refine (KT.out _).mono ?_); rintro e w1 ⟨rfl, hx⟩; replace hW := Zq.ex hW hx; clear hx; have hC2 := hW.boxes.2.1.cell) | (go_at_call 45; (with_reducible refine (KS.out _).mono ?_); rintro e w2 ⟨rfl, hx⟩; replace hW := Zq.ex hW hx; clear hx) | (go_at_call 72; (with_reducible refine (Oj _ _ _ _ hW.sum).mono ?_); rintro e w3 ⟨rfl, hs, hb⟩; have hN := Zq.call hW hs hb))
    go_meet
    exact ⟨rfl, hN⟩
   ·go_wp2_with (first | (refine wpList_load_row rfl _ _ rfl _ rfl _ _ (0, 0) _ hb1 Tryz.underlying87 rfl (Ye hst) ?_) | (go_at_call 73; (with_reducible refine (KT.out _).mono ?_); rintro e w1 ⟨rfl, hx⟩; replace hW := Zq.ex hW hx; clear hx; have hC2 := hW.boxes.2.1.cell) | (go_at_call 45; (with_reducible refine (KS.out _).mono ?_); rintro e w2 ⟨rfl, hx⟩; replace hW := Zq.ex hW hx; clear hx) | (go_at_call 72; (with_reducible refine (Oj _ _ _ _ hW.sum).mono ?_); rintro e w3 ⟨rfl, hs, hb⟩; have hN := Zq.call hW hs hb))
    go_meet
    exact ⟨rfl, hN⟩
 case rest =>
  obtain ⟨rfl, hS⟩ := hcut
  have hvc : #[.int .i64 v.a.re, .int .i64 v.a.im, .int .i64 v.a.den, .int .i64 v.b.re, .int .i64 v.b.im, .int .i64 v.b.den, .int .i64 v.c.re, .int .i64 v.c.im, .int .i64 v.c.den, .int .i64 v.d.re, .int .i64 v.d.im, .int .i64 v.d.den] = Zo v.l := rfl
  rw [hvc] at hS
  clear hvc
  generalize Zo v.l = vc at *
  clear hW hV KT KS
  go_upto_region 3 with fail
  rw [show #[.int .i64 0, .int .i64 0, .int .i64 0, .int .i64 0, .int .i64 0, .int .i64 0, .int .i64 0, .int .i64 0, .int .i64 0, .int .i64 0, .int .i64 0, .int .i64 0] = Z12 from rfl]
  have hS1 : Zq w (wc.alloc (.cells Z12 35)) W0.heap.size (!(tv && sv)) ((wc.heap.size, 35, Z12) :: [(w.heap.size + 1 + 1, 35, Z12), (w.heap.size + 1, 35, vc), (w.heap.size, 87, tc)]) := Zq.alloc (h := hS)
  have hob : w.heap.size ≤ wc.heap.size := hS.sm.size
  have z1 := hS.boxes.1.lt
  have z2 := hS.boxes.2.1.lt
  have z3 := hS.boxes.2.2.1.lt
  have z4 := hS.sum.lt
  have hne : ∀ x ∈ ([(w.heap.size + 1 + 1, 35, Z12), (w.heap.size + 1, 35, vc), (w.heap.size, 87, tc)] : List (Nat × TypeId × Array Value)), x.1 ≠ wc.heap.size := by
   intro x hx
   simp only [List.mem_cons, List.not_mem_nil, or_false] at hx
   rcases hx with rfl | rfl | rfl
   ·exact Nat.ne_of_lt z1
   ·exact Nat.ne_of_lt z2
   ·exact Nat.ne_of_lt z3
  generalize wc.alloc (.cells Z12 35) = W1 at *
  clear hS z1 z2 z3
  go_wp2_with fail
  go_loopw [21, 8, 9, 10] (fun i rr ac kk wr => ∃ r : Nat, i = .int .i64 r ∧ r ≤ 4 ∧ Hid (Zq w wr W0.heap.size (!(tv && sv && Tv t v r)) ((wc.heap.size, 35, Zo (Oo t v r)) :: [(w.heap.size + 1 + 1, 35, Z12), (w.heap.size + 1, 35, vc), (w.heap.size, 87, tc)]))) (fun i _ _ _ _ => 5 - (intOf i).toNat)
  case atStart => exact ⟨0, rfl, by omega, Gv (by simpa [Tv, rowsL_zero, ← Z12_eq] using hS1)⟩
  case round =>
   clear hS1
   obtain ⟨r, rfl, hr, HS⟩ := hrel
   by_cases hlt : r < 4
   ·have hI : (r : Int) < 4 := by omega
    obtain ⟨m0, hm0⟩ : ∃ m0 : Nat, m0 = 4 * r := ⟨_, rfl⟩
    have hw0 : IntKind.i64.wrap (4 * (r : Int)) = (m0 : Int) := by rw [hm0]; have := Gp (4 * (r : Int)) (by omega); rw [this]; omega
    have hwr : IntKind.i64.wrap ((r : Int) + 1) = (r : Int) + 1 := Gp _ (by omega)
    have hm1 : (m0 : Int) < 16 := by omega
    obtain ⟨f0, f1, f2⟩ := HTA.out m0 (by omega)
    obtain ⟨g0, g1, g2⟩ := HVA.out 0 (by omega)
    have HR0 : Hid (Iy t r v 0 = Zs (tg t m0) (tg v.l 0)) := Gv (by rw [hm0]; rfl)
    have HRS : Hid (∀ k m, m = 4 * r + (k + 1) → Iy t r v (k + 1) = ((Yt (Iy t r v k).1 (Zs (tg t m) (tg v.l (k + 1))).1).1, (Iy t r v k).2 && (Zs (tg t m) (tg v.l (k + 1))).2 && (Yt (Iy t r v k).1 (Zs (tg t m) (tg v.l (k + 1))).1).2)) := Gv (fun k m e => by subst e; rfl)
    have HR3 := Gv (RA.out r v)
    rw [Nat.mul_comm 3 m0] at f0 f1 f2
    simp only [Nat.mul_zero, Nat.zero_add] at g0 g1 g2
    generalize tg t m0 = x at f0 f1 f2 HR0
    generalize tg v.l 0 = y at g0 g1 g2 HR0
    obtain ⟨x1, x2, x3⟩ := x
    obtain ⟨y1, y2, y3⟩ := y
    simp only at f0 f1 f2 g0 g1 g2
    rcases h0 : Zs ⟨x1, x2, x3⟩ ⟨y1, y2, y3⟩ with ⟨⟨a1, a2, a3⟩, ka⟩
    have HA0 : Hid (Iy t r v 0 = (⟨a1, a2, a3⟩, ka)) := Gv (HR0.out.trans h0)
    have H0 := Gv h0
    clear h0 HR0
    obtain ⟨fl, HFL⟩ : ∃ fl, Hid (fl = !(tv && sv && Tv t v r)) := ⟨_, Gv rfl⟩
    have hS := HS.out
    rw [← HFL.out] at hS
    clear HS
    have HM0 := Gv hm0
    have HLT := Gv (Ym.old hS.boxes)
    have hws := hS.sm.size
    clear hm0
    go_upto_region 6 with fail
    have hS0 := hS
    have hbs0 := hS0.sum.lt
    refine Zn (St := Sm W0.heap.size) (B := fun b w' => InS _ W0.heap.size _ b w') 10 1 0 _ 32 (fun _ => 9) (fun _ => 33) (fun _ => #[.int .i64 0, .int .i64 0, .int .i64 0]) (fun _ => #[.int .i64 a1, .int .i64 a2, .int .i64 a3]) _ (by kernel_rfl) (by kernel_rfl) (InS.drew (InS.start hS0)) (fun x y h1 h2 _ => by omega) (fun x y _ _ => by decide) (fun _ _ h g cs hg hb => h.box _ _ _ (Nat.ne_of_gt (Nat.lt_of_lt_of_le hbs0 hg)) hb) (fun _ _ cs h => h.alloc _) (fun _ _ h => h.size) ?_
    iterate 9 (apply Zx; (· rfl); (· intro b wb hB Q1 hQ1; have hS := hB.sees; have hC := hS.reads; simp only [Zz, Zy] at hC; go_wp2_with fail; exact hQ1 _ (Sm.refl _ _) hB); (· exact ⟨_, rfl⟩))
    (apply Zp; (· rfl); (· intro b wb hB Q1 hQ1; go_wp2_with (go_at_call 74; (with_reducible refine (Xm hB.sees H0.out).mono ?_); rintro e wn ⟨rfl, hN, hM⟩); exact hQ1 _ hM (hB.call hN)); (· exact ⟨_, rfl⟩))
    refine Zv ?_
    refine ⟨fun i hi => ?_, fun i hi => ?_, fun i hi => ?_, fun gg wz hz hbx hne => ?_⟩
    ·obtain rfl : i = 0 := by omega
     all_goals exact ⟨_, rfl, Zc⟩
    ·obtain rfl : i = 0 := by omega
     all_goals exact ⟨_, rfl, Zi Za rfl (by kernel_rfl) (fun _ _ _ hg h => h.setRow hg _)⟩
    ·obtain rfl : i = 0 := by omega
     ·exact (show (9 : Nat) < 64 by decide)
    obtain ⟨hq0, hp0⟩ := hbx 0 (by omega)
    replace hS := InS.join hS0 hz
    replace hS := Zq.put hS hp0 (by omega)
    simp only [frN, Act.put, Gt, Gs, Gr, Nat.reduceAdd, List.drop_succ_cons, List.drop_zero]
    generalize gg 0 = ga at *
    clear hbx hz hS0 hne
    simp only at hS
    have HNE := Gv (fun x hx => Nat.ne_of_lt (Nat.lt_of_lt_of_le (HLT.out x hx) hq0))
    have hgw : w.heap.size ≤ ga := Nat.le_trans hws hq0
    clear hws HLT hq0 hp0
    clear f0 f1 f2 g0 g1 g2 hw0 hm1
    skip
    go_wp2_with fail
    go_loopw [10] (fun kk wy => ∃ k : Nat, kk = .int .i64 k ∧ 1 ≤ k ∧ k ≤ 4 ∧ ∃ a1 a2 a3 ka, Hid (Iy t r v (k - 1) = (⟨a1, a2, a3⟩, ka)) ∧ Hid (Zq w wy W0.heap.size (fl || !ka) ((ga, 32, #[.int .i64 a1, .int .i64 a2, .int .i64 a3]) :: (wc.heap.size, 35, Zo (Oo t v r)) :: [(w.heap.size + 1 + 1, 35, Z12), (w.heap.size + 1, 35, vc), (w.heap.size, 87, tc)]))) (fun kk _ => 5 - (intOf kk).toNat)
    case atStart => exact ⟨1, rfl, by omega, by omega, a1, a2, a3, ka, HA0, Gv hS⟩
    case round =>
     clear hS HA0 H0
     obtain ⟨k, rfl, hk1, hk4, b1, b2, b3, kb, HB, HS⟩ := hrel
     by_cases hk : k < 4
     ·have hkI : (k : Int) < 4 := by omega
      obtain ⟨m, hm⟩ : ∃ m : Nat, m = 4 * r + k := ⟨_, rfl⟩
      have hw0 : IntKind.i64.wrap (4 * (r : Int)) = 4 * (r : Int) := Gp _ (by omega)
      have hw1 : IntKind.i64.wrap (4 * (r : Int) + (k : Int)) = (m : Int) := by rw [hm]; have := Gp (4 * (r : Int) + (k : Int)) (by omega); rw [this]; omega
      have hwk : IntKind.i64.wrap ((k : Int) + 1) = (k : Int) + 1 := Gp _ (by omega)
      have hm1 : (m : Int) < 16 := by omega
      obtain ⟨f0, f1, f2⟩ := HTA.out m (by omega)
      obtain ⟨g3, g4, g5⟩ := HVA.out k (by omega)
      have HK := Gv (HRS.out (k - 1) m (by omega))
      have hkk : k - 1 + 1 = k := by omega
      rw [hkk] at HK
      rw [HB.out] at HK
      rw [Nat.mul_comm 3 m] at f0 f1 f2
      rw [Nat.mul_comm 3 k] at g3 g4 g5
      generalize tg t m = x at f0 f1 f2 HK
      generalize tg v.l k = y at g3 g4 g5 HK
      obtain ⟨x1, x2, x3⟩ := x
      obtain ⟨y1, y2, y3⟩ := y
      simp only at f0 f1 f2 g3 g4 g5 HK
      rcases h1 : Zs ⟨x1, x2, x3⟩ ⟨y1, y2, y3⟩ with ⟨⟨p1, p2, p3⟩, kp⟩
      rw [h1] at HK
      simp only at HK
      rcases h2 : Yt ⟨b1, b2, b3⟩ ⟨p1, p2, p3⟩ with ⟨⟨s1, s2, s3⟩, ks⟩
      rw [h2] at HK
      simp only at HK
      have H1 := Gv h1
      have H2 := Gv h2
      clear h1 h2 hm hkk
      have hS := HS.out
      clear HS
      go_upto_region 10 with fail
      refine Zd (St := fun _ _ => True) 15 _ (B := fun b w2 => Zq w w2 W0.heap.size b _) (by kernel_rfl) (by kernel_rfl) (hS.drewW) (by exact fun _ _ _ _ _ h => h) ?_
      iterate 14 (apply Zx; (· rfl); (· intro b wb hB Q1 hQ1; have hS := hB; have hC := hS.reads; simp only [Zz, Zy] at hC; go_wp2_with fail; exact hQ1 _ trivial hB); (· exact ⟨_, rfl⟩))
      (apply Zp; (· rfl); (· intro b wb hB Q1 hQ1; go_wp2_with (go_at_call 74; (with_reducible refine (Xm hB H1.out).mono ?_); rintro e wn ⟨rfl, hN, hM⟩); exact hQ1 _ trivial hN); (· exact ⟨_, rfl⟩))
      refine Zv ?_
      intro wz2 hz2
      clear hS
      have hC := hz2.reads
      simp only [Zz, Zy] at hC
      go_wp2_with (go_at_call 75; (with_reducible refine (add_det hz2 H2.out).mono ?_); rintro e wm ⟨rfl, hN, -⟩; have hC := hN.reads; simp only [Zz, Zy] at hC)
      have hS5 := Zq.set3 hN hgw HNE.out (.int .i64 s1) (.int .i64 s2) (.int .i64 s3)
      have ef : (fl || !kb || !kp || !ks) = (fl || !(kb && kp && ks)) := by simp [Bool.or_assoc]
      rw [ef] at hS5
      have HS5 := Gv hS5
      clear hS5 hN hC ef
      go_roundw
      case rel => exact ⟨k + 1, by go_num, by omega, by omega, s1, s2, s3, (kb && kp && ks), HK, HS5⟩
      case measure => simp [intOf] <;> omega
     ·obtain rfl : k = 4 := by omega
      have hS := HS.out
      have hT := Zq.tail hS
      have hC := hS.reads
      simp only [Zz, Zy] at hC
      have HTR : Hid (Tn t r v = (⟨b1, b2, b3⟩, kb)) := Gv (HR3.out.symm.trans HB.out)
      have hkI : ¬ ((4 : Nat) : Int) < 4 := by omega
      clear HS HB hk hk1 hk4 HRS
      go_wp2_with (refine wpList_storeS hT hob hne r (by rw [rowsL_len]; exact hlt) (by rw [Nat.mul_comm 3 r]; rfl) rfl ?_; intro V hV2)
      have e1 := rowsL_set t v r hlt
      rw [HTR.out] at e1
      simp only at e1
      rw [e1] at hV2
      have e2 : (fl || !kb) = !(tv && sv && Tv t v (r + 1)) := by
       rw [HFL.out]
       simp only [Tv, HTR.out, Bool.not_and, Bool.or_assoc]
      rw [e2] at hV2
      have HV2 := Gv hV2
      clear hV2 e1 e2 hT hC hS
      go_roundw
      case rel => exact ⟨r + 1, by go_num, by omega, HV2⟩
      case measure => simp [intOf] <;> omega
   ·obtain rfl : r = 4 := by omega
    have hS := HS.out
    have HTP2 := HTP
    rw [rowsL_all] at hS
    rcases e0 : (Tn t 0 v).1 with ⟨r0a, r0b, r0c⟩
    rcases e1 : (Tn t 1 v).1 with ⟨r1a, r1b, r1c⟩
    rcases e2 : (Tn t 2 v).1 with ⟨r2a, r2b, r2c⟩
    rcases e3 : (Tn t 3 v).1 with ⟨r3a, r3b, r3c⟩
    have ht := HTP.out
    rw [e0, e1, e2, e3] at hS ht
    clear e0 e1 e2 e3 HS HTP HTP2
    unfold Z12 at hS
    rw [show Zo [⟨r0a, r0b, r0c⟩, ⟨r1a, r1b, r1c⟩, ⟨r2a, r2b, r2c⟩, ⟨r3a, r3b, r3c⟩] = #[.int .i64 r0a, .int .i64 r0b, .int .i64 r0c, .int .i64 r1a, .int .i64 r1b, .int .i64 r1c, .int .i64 r2a, .int .i64 r2b, .int .i64 r2c, .int .i64 r3a, .int .i64 r3b, .int .i64 r3c] from rfl] at hS
    have hI : ¬ ((4 : Nat) : Int) < 4 := by omega
    have hC := hS.reads
    simp only [Zz, Zy] at hC
    rcases hK : (tv && sv && Tv t v 4) with _ | _
    ·rw [hK] at hS ht hC
     simp only [Bool.false_eq_true, if_false] at ht
     go_wp2_with (go_at_call 76; (with_reducible refine (Ii _ _ _ _ _ _ _ _ _ _ _ _ _ _ hS.sum).mono ?_); rintro e wn ⟨rfl, hx⟩; have hS9 := Zq.ex hS hx; have hC := hS9.reads; simp only [Zz, Zy] at hC; have hE := hS9.rel hle)
     refine Gq (v := .tuple #[.agg #[.int .i64 0, .int .i64 0, .int .i64 0, .int .i64 0, .int .i64 0, .int .i64 0, .int .i64 0, .int .i64 0, .int .i64 0, .int .i64 0, .int .i64 0, .int .i64 0], .bool false]) ?_ rfl ⟨by rw [ht]; rfl, ?_⟩
     ·simp [results, Tryz.results47, go_sem, hC]
     ·repeat' (with_reducible first | exact hE | exact Ex.refl _ | assumption | apply Ex.alloc | apply Ex.drewN | apply Ex.drew | refine Ex.setCell ?_ (by simp <;> omega) _)
    ·rw [hK] at hS ht hC
     simp only [if_true] at ht
     go_wp2_with (go_at_call 76; (with_reducible refine (Jb _ _ _ _ _ _ _ _ _ _ _ _ _ _ hS.sum).mono ?_); rintro e wn ⟨rfl, hx⟩; have hS9 := Zq.ex hS hx; have hC := hS9.reads; simp only [Zz, Zy] at hC; have hE := hS9.rel hle)
     refine Gq (v := .tuple #[.agg #[.int .i64 r0a, .int .i64 r0b, .int .i64 r0c, .int .i64 r1a, .int .i64 r1b, .int .i64 r1c, .int .i64 r2a, .int .i64 r2b, .int .i64 r2c, .int .i64 r3a, .int .i64 r3b, .int .i64 r3c], .bool true]) ?_ rfl ⟨by rw [ht]; rfl, ?_⟩
     ·simp [results, Tryz.results47, go_sem, hC]
     ·repeat' (with_reducible first | exact hE | exact Ex.refl _ | assumption | apply Ex.alloc | apply Ex.drewN | apply Ex.drew | refine Ex.setCell ?_ (by simp <;> omega) _)
end
section
open Go.RowKit

attribute [local go_sem] Zk Zj
theorem l6tOf_any (t : List Fr) (ht : t.length = 16) (r : Nat) (hr : r < 4) (w : World) : Calls Tryz.prog 94 #[.agg (Zo t), .int .i64 r] w fun e w' => e = .returned (.agg (Zo [tg t (4 * r), tg t (4 * r + 1), tg t (4 * r + 2), tg t (4 * r + 3)])) ∧ Ex w w' := by
 have HTA := Gv (fun k (hk : k < 16) => Rk t k (by omega))
 generalize hct : Zo t = tc at *
 clear hct
 obtain ⟨m0, hm0⟩ : ∃ m : Nat, m = 4 * r + 0 := ⟨_, rfl⟩
 obtain ⟨m1, hm1⟩ : ∃ m : Nat, m = 4 * r + 1 := ⟨_, rfl⟩
 obtain ⟨m2, hm2⟩ : ∃ m : Nat, m = 4 * r + 2 := ⟨_, rfl⟩
 obtain ⟨m3, hm3⟩ : ∃ m : Nat, m = 4 * r + 3 := ⟨_, rfl⟩
 have hw0 : IntKind.i64.wrap (4 * (r : Int)) = (m0 : Int) := by rw [hm0]; have := Gp (4 * (r : Int)) (by omega); rw [this]; omega
 have hw1 : IntKind.i64.wrap ((m0 : Int) + 1) = (m1 : Int) := by rw [hm0, hm1]; have := Gp (((4 * r + 0 : Nat) : Int) + 1) (by omega); rw [this]; omega
 have hw2 : IntKind.i64.wrap ((m0 : Int) + 2) = (m2 : Int) := by rw [hm0, hm2]; have := Gp (((4 * r + 0 : Nat) : Int) + 2) (by omega); rw [this]; omega
 have hw3 : IntKind.i64.wrap ((m0 : Int) + 3) = (m3 : Int) := by rw [hm0, hm3]; have := Gp (((4 * r + 0 : Nat) : Int) + 3) (by omega); rw [this]; omega
 have hl0 : (m0 : Int) < 16 := by omega
 have hl1 : (m1 : Int) < 16 := by omega
 have hl2 : (m2 : Int) < 16 := by omega
 have hl3 : (m3 : Int) < 16 := by omega
 obtain ⟨xf, xg, xh⟩ := HTA.out m0 (by omega)
 rw [Nat.mul_comm 3 m0] at xf xg xh
 obtain ⟨yf, yg, yh⟩ := HTA.out m1 (by omega)
 rw [Nat.mul_comm 3 m1] at yf yg yh
 obtain ⟨zf, zg, zh⟩ := HTA.out m2 (by omega)
 rw [Nat.mul_comm 3 m2] at zf zg zh
 obtain ⟨uf, ug, uh⟩ := HTA.out m3 (by omega)
 rw [Nat.mul_comm 3 m3] at uf ug uh
 rw [show 4 * r + 3 = m3 by omega, show 4 * r + 2 = m2 by omega, show 4 * r + 1 = m1 by omega, show 4 * r = m0 by omega]
 clear hm0 hm1 hm2 hm3
 generalize tg t m0 = x at *
 obtain ⟨x1, x2, x3⟩ := x
 simp only at xf xg xh
 generalize tg t m1 = y at *
 obtain ⟨y1, y2, y3⟩ := y
 simp only at yf yg yh
 generalize tg t m2 = z at *
 obtain ⟨z1, z2, z3⟩ := z
 simp only at zf zg zh
 generalize tg t m3 = u at *
 obtain ⟨u1, u2, u3⟩ := u
 simp only at uf ug uh
 rw [show Zo [⟨x1, x2, x3⟩, ⟨y1, y2, y3⟩, ⟨z1, z2, z3⟩, ⟨u1, u2, u3⟩] = #[.int .i64 x1, .int .i64 x2, .int .i64 x3, .int .i64 y1, .int .i64 y2, .int .i64 y3, .int .i64 z1, .int .i64 z2, .int .i64 z3, .int .i64 u1, .int .i64 u2, .int .i64 u3] from rfl]
 have hS : Zw w ((w.alloc (.cells tc 87)).alloc (.cells #[.int .i64 0, .int .i64 0, .int .i64 0, .int .i64 0, .int .i64 0, .int .i64 0, .int .i64 0, .int .i64 0, .int .i64 0, .int .i64 0, .int .i64 0, .int .i64 0] 33)) _ := Zw.alloc (h := Zw.alloc (h := Zw.refl w) (cs := tc) (t := 87)) (cs := #[.int .i64 0, .int .i64 0, .int .i64 0, .int .i64 0, .int .i64 0, .int .i64 0, .int .i64 0, .int .i64 0, .int .i64 0, .int .i64 0, .int .i64 0, .int .i64 0]) (t := 33)
 simp only [Gu] at hS
 go_enter Tryz.func94, Tryz.ntmps94
 go_upto_region 1 with fail
 refine Zd (St := fun _ _ => True) 24 false (B := fun _ w2 => Zw w w2 [(w.heap.size + 1, 33, #[.int .i64 0, .int .i64 0, .int .i64 0, .int .i64 0, .int .i64 0, .int .i64 0, .int .i64 0, .int .i64 0, .int .i64 0, .int .i64 0, .int .i64 0, .int .i64 0]), (w.heap.size, 87, tc)]) (by kernel_rfl) (by kernel_rfl) (hS.drewW) (by exact fun _ _ _ _ _ h => h) ?_
 iterate 24 (apply Zx; (· rfl); (· intro b wb hB Q1 hQ1; have hS := hB; have hC := hS.reads; simp only [Zz, Zy] at hC; go_wp2_with fail; exact hQ1 _ trivial hB); (· exact ⟨_, rfl⟩))
 refine Zv ?_
 intro wz hz
 have hC := hz.reads
 simp only [Zz, Zy] at hC
 have hE := hz.ex
 go_wp2_with fail
 refine Gq ?_ rfl ⟨rfl, ?_⟩
 ·simp [results, Tryz.results94, go_sem, hC]
 ·repeat' (with_reducible first | exact hE | exact Ex.refl _ | assumption | apply Ex.alloc | apply Ex.drewN | apply Ex.drew | refine Ex.setCell ?_ (by simp <;> omega) _)
end
section
open Go.RowKit

attribute [local go_sem] Zk Zj
def Ju (p q : List Fr) : Nat → Fr × Bool
 | 0 => (Fr.nul, true)
 | k + 1 => ((Yk 1 (Ju p q k).1 (Zs (tg p k) (tg q k)).1).1, (Ju p q k).2 && (Zs (tg p k) (tg q k)).2 && (Yk 1 (Ju p q k).1 (Zs (tg p k) (tg q k)).1).2)
theorem sacc_row (a b c d x y z u : Fr) : Ju [a, b, c, d] [x, y, z, u] 4 = rowS a b c d x y z u := by
 simp [Ju, rowS, tg]
theorem Zr.flag {W w : World} {bs : Nat} {b : Bool} {L : List (Nat × TypeId × Array Value)} (h : Zr W w bs b L) (v : Bool) : Zr W (w.setCell ⟨bs, 0, none⟩ (.bool v)) bs v L := by
 refine ⟨h.sm.trans (SmO.set h.sum 0 (.bool v)), ?_, ?_, h.far⟩
 ·have h2 := h.sum.set_ 0 (.bool v)
  simpa using h2
 ·exact Ym.smO (SmO.set h.sum 0 (.bool v)) h.far h.boxes
theorem timesP {w : World} {a1 a2 a3 b1 b2 b3 x y z : Int} {k : Bool} (h : Zs ⟨a1, a2, a3⟩ ⟨b1, b2, b3⟩ = (⟨x, y, z⟩, k)) : Calls Tryz.prog 60 #[.agg #[.int .i64 a1, .int .i64 a2, .int .i64 a3], .agg #[.int .i64 b1, .int .i64 b2, .int .i64 b3]] w fun e w' => e = .returned (.tuple #[.agg #[.int .i64 x, .int .i64 y, .int .i64 z], .bool k]) ∧ Ex w w' := by
 have := Xd ⟨a1, a2, a3⟩ ⟨b1, b2, b3⟩ w
 rw [h] at this
 exact this
theorem l6tRow_any (bs : Nat) (e : Bool) (p q : List Fr) (hp : p.length = 4) (hq : q.length = 4) (w : World) (hb : Box w bs 144 #[.bool (!e)]) : Calls Tryz.prog 93 #[.pointer (some ⟨bs, 0, none⟩), .agg (Zo p), .agg (Zo q)] w (Wy bs (!e) w (Ju p q 4)) := by
 have HP := Gv (fun k (hk : k < 4) => Rk p k (by omega))
 have HQ := Gv (fun k (hk : k < 4) => Rk q k (by omega))
 generalize hpc : Zo p = pc at *
 generalize hqc : Zo q = qc at *
 clear hpc hqc
 obtain ⟨RV, HRV⟩ : ∃ v, Hid (v = Ju p q 4) := ⟨_, Gv rfl⟩
 rw [← HRV.out]
 have hbl := hb.lt
 have hS0 := Zr.init hb
 have hS1 : Zr w ((((w.alloc (.cells pc 33)).alloc (.cells qc 33)).alloc (.cells #[.int .i64 0, .int .i64 0, .int .i64 0] 32)).alloc (.cells #[.int .i64 0, .int .i64 0, .int .i64 1] 32)) bs (!e) _ := Zr.alloc (h := Zr.alloc (h := Zr.alloc (h := Zr.alloc (h := hS0) (cs := pc) (t := 33)) (cs := qc) (t := 33)) (cs := #[.int .i64 0, .int .i64 0, .int .i64 0]) (t := 32)) (cs := #[.int .i64 0, .int .i64 0, .int .i64 1]) (t := 32)
 simp only [Gu] at hS1
 go_enter Tryz.func93, Tryz.ntmps93
 go_upto_region 2 with fail
 generalize (((w.alloc (.cells pc 33)).alloc (.cells qc 33)).alloc (.cells #[.int .i64 0, .int .i64 0, .int .i64 0] 32)).alloc (.cells #[.int .i64 0, .int .i64 0, .int .i64 1] 32) = W1 at *
 clear hS0 hb
 go_wp2_with fail
 go_loopw [8, 9, 10] (fun kk xx oo wr => ∃ k : Nat, kk = .int .i64 k ∧ k ≤ 4 ∧ ∃ s1 s2 s3 f, Hid (Ju p q k = (⟨s1, s2, s3⟩, f)) ∧ Hid (Zr w wr bs (!(e || !f)) ((w.heap.size + 1 + 1 + 1, 32, #[.int .i64 s1, .int .i64 s2, .int .i64 s3]) :: [(w.heap.size + 1 + 1, 32, #[.int .i64 0, .int .i64 0, .int .i64 0]), (w.heap.size + 1, 33, qc), (w.heap.size, 33, pc)]))) (fun kk _ _ _ => 5 - (intOf kk).toNat)
 case atStart => exact ⟨0, rfl, by omega, 0, 0, 1, true, Gv rfl, Gv (by simpa using hS1)⟩
 case round =>
  clear hS1
  obtain ⟨k, rfl, hk4, s1, s2, s3, f, HA, HS⟩ := hrel
  by_cases hk : k < 4
  ·have hkI : (k : Int) < 4 := by omega
   have hwk : IntKind.i64.wrap ((k : Int) + 1) = (k : Int) + 1 := Gp _ (by omega)
   obtain ⟨f0, f1, f2⟩ := HP.out k hk
   obtain ⟨g3, g4, g5⟩ := HQ.out k hk
   rw [Nat.mul_comm 3 k] at f0 f1 f2 g3 g4 g5
   have HK : Hid (Ju p q (k + 1) = ((Yk 1 (Ju p q k).1 (Zs (tg p k) (tg q k)).1).1, (Ju p q k).2 && (Zs (tg p k) (tg q k)).2 && (Yk 1 (Ju p q k).1 (Zs (tg p k) (tg q k)).1).2)) := Gv rfl
   rw [HA.out] at HK
   generalize tg p k = x at f0 f1 f2 HK
   generalize tg q k = y at g3 g4 g5 HK
   obtain ⟨x1, x2, x3⟩ := x
   obtain ⟨y1, y2, y3⟩ := y
   simp only at f0 f1 f2 g3 g4 g5 HK
   rcases h1 : Zs ⟨x1, x2, x3⟩ ⟨y1, y2, y3⟩ with ⟨⟨p1, p2, p3⟩, kp⟩
   rw [h1] at HK
   simp only at HK
   rcases h2 : Yk 1 ⟨s1, s2, s3⟩ ⟨p1, p2, p3⟩ with ⟨⟨t1, t2, t3⟩, kt⟩
   rw [h2] at HK
   simp only at HK
   have H1 := Gv h1
   have H2 := Gv h2
   clear h1 h2
   have hS := HS.out
   clear HS
   have HLT := Gv (Ym.old hS.boxes)
   have hws := hS.sm.size
   have hfar := hS.far _ (.head _)
   obtain ⟨fl, HFL⟩ : ∃ fl, Hid (fl = !(e || !f)) := ⟨_, Gv rfl⟩
   rw [← HFL.out] at hS
   go_upto_region 5 with fail
   have hS0 := hS
   have hbs0 := hS0.sum.lt
   refine Zn (St := SmO bs) (B := fun b w' => InO _ bs _ b w') 10 1 1 _ 32 (fun _ => 9) (fun _ => 24) (fun _ => #[.int .i64 0, .int .i64 0, .int .i64 0]) (fun _ => #[.int .i64 p1, .int .i64 p2, .int .i64 p3]) _ (by kernel_rfl) (by kernel_rfl) (InO.drew (InO.start hS0)) (fun x y h1 h2 _ => by omega) (fun x y _ _ => by decide) (fun _ _ h g cs hg hb => h.box _ _ _ (Nat.ne_of_gt (Nat.lt_of_lt_of_le hbs0 hg)) hb) (fun _ _ cs h => h.alloc _) (fun _ _ h => h.size) ?_
   iterate 6 (apply Zx; (· rfl); (· intro b wb hB Q1 hQ1; have hS := hB.sees; have hC := hS.reads; simp only [Zz, Zy] at hC; go_wp2_with fail; exact hQ1 _ (SmO.refl _ _) hB); (· exact ⟨_, rfl⟩))
   (apply Zx; (· rfl); (· intro b wb hB Q1 hQ1; go_wp2_with (go_at_call 60; (with_reducible refine (timesP H1.out).mono ?_); rintro e1 wn ⟨rfl, hx⟩); exact hQ1 _ (SmO.of_ex hx) (hB.call (hB.sees.ex hx))); (· exact ⟨_, rfl⟩))
   iterate 3 (apply Zx; (· rfl); (· intro b wb hB Q1 hQ1; go_wp2_with fail; exact hQ1 _ (SmO.refl _ _) hB); (· exact ⟨_, rfl⟩))
   refine Zv ?_
   refine ⟨fun i hi => ?_, fun i hi => ?_, fun i hi => ?_, fun gg wz hz hbx hne => ?_⟩
   ·obtain rfl : i = 0 := by omega
    all_goals exact ⟨_, rfl, Zc⟩
   ·obtain rfl : i = 0 := by omega
    all_goals exact ⟨_, rfl, Zi Za rfl (by kernel_rfl) (fun _ _ _ hg h => h.setRow hg _)⟩
   ·obtain rfl : i = 0 := by omega
    ·exact (show (9 : Nat) < 41 by decide)
   obtain ⟨hq0, hp0⟩ := hbx 0 (by omega)
   replace hS := InO.join hS0 hz
   replace hS := Zr.put hS hp0 (by omega)
   simp only [frN, Act.put, Gt, Gs, Gr, Nat.reduceAdd, List.drop_succ_cons, List.drop_zero]
   generalize gg 0 = ga at *
   clear hbx hz hS0 hne
   simp only at hS
   have HNE := Gv (fun x hx => Nat.ne_of_lt (Nat.lt_of_lt_of_le (HLT.out x hx) hq0))
   clear hws HLT hq0 hp0 f0 f1 f2 g3 g4 g5
   have hbw : bs < w.heap.size := hbl
   rcases fl with _ | _
   ·have hC := hS.reads
    simp only [Zz, Zy] at hC
    go_upto_region 7 with fail
    have hS7 : Zr w (wz.setCell ⟨bs, 0, none⟩ (.bool false)) bs (!true) _ := hS.flag false
    generalize wz.setCell ⟨bs, 0, none⟩ (.bool false) = W7 at *
    clear hS hC
    have hC := hS7.reads
    simp only [Zz, Zy] at hC
    go_wp2_with (go_at_call 147; (with_reducible refine (Kh (.inl rfl) hS7 H2.out).mono ?_); rintro e1 wm ⟨rfl, hN, -⟩; have hC := hN.reads; simp only [Zz, Zy] at hC)
    have hS8 := Zr.set3 hN.tail (by omega) (fun x hx => by
      simp only [List.mem_cons, List.not_mem_nil, or_false] at hx
      rcases hx with rfl | rfl | rfl <;> simp only <;> omega) (.int .i64 t1) (.int .i64 t2) (.int .i64 t3)
    have ef : (!(true || !kt)) = !(e || !(f && kp && kt)) := by
     have h := HFL.out
     revert h
     cases e <;> cases f <;> cases kt <;> simp <;> cases kp <;> simp
    rw [ef] at hS8
    have HS8 := Gv hS8
    clear hS8 hN hS7 hC ef
    go_roundw
    case rel => exact ⟨k + 1, by go_num, by omega, t1, t2, t3, (f && kp && kt), HK, HS8⟩
    case measure => simp [intOf] <;> omega
   ·rcases kp with _ | _
    ·have hC := hS.reads
     simp only [Zz, Zy] at hC
     go_upto_region 7 with fail
     have hS7 : Zr w (wz.setCell ⟨bs, 0, none⟩ (.bool false)) bs (!true) _ := hS.flag false
     generalize wz.setCell ⟨bs, 0, none⟩ (.bool false) = W7 at *
     clear hS hC
     have hC := hS7.reads
     simp only [Zz, Zy] at hC
     go_wp2_with (go_at_call 147; (with_reducible refine (Kh (.inl rfl) hS7 H2.out).mono ?_); rintro e1 wm ⟨rfl, hN, -⟩; have hC := hN.reads; simp only [Zz, Zy] at hC)
     have hS8 := Zr.set3 hN.tail (by omega) (fun x hx => by
       simp only [List.mem_cons, List.not_mem_nil, or_false] at hx
       rcases hx with rfl | rfl | rfl <;> simp only <;> omega) (.int .i64 t1) (.int .i64 t2) (.int .i64 t3)
     have ef : (!(true || !kt)) = !(e || !(f && false && kt)) := by
      have h := HFL.out
      revert h
      cases e <;> cases f <;> cases kt <;> simp
     rw [ef] at hS8
     have HS8 := Gv hS8
     clear hS8 hN hS7 hC ef
     go_roundw
     case rel => exact ⟨k + 1, by go_num, by omega, t1, t2, t3, (f && false && kt), HK, HS8⟩
     case measure => simp [intOf] <;> omega
    ·have hC := hS.reads
     simp only [Zz, Zy] at hC
     go_upto_region 7 with fail
     have hS7 : Zr w (wz.setCell ⟨bs, 0, none⟩ (.bool true)) bs (!false) _ := hS.flag true
     generalize wz.setCell ⟨bs, 0, none⟩ (.bool true) = W7 at *
     clear hS hC
     have hC := hS7.reads
     simp only [Zz, Zy] at hC
     go_wp2_with (go_at_call 147; (with_reducible refine (Kh (.inl rfl) hS7 H2.out).mono ?_); rintro e1 wm ⟨rfl, hN, -⟩; have hC := hN.reads; simp only [Zz, Zy] at hC)
     have hS8 := Zr.set3 hN.tail (by omega) (fun x hx => by
       simp only [List.mem_cons, List.not_mem_nil, or_false] at hx
       rcases hx with rfl | rfl | rfl <;> simp only <;> omega) (.int .i64 t1) (.int .i64 t2) (.int .i64 t3)
     have ef : (!(false || !kt)) = !(e || !(f && true && kt)) := by
      have h := HFL.out
      revert h
      cases e <;> cases f <;> cases kt <;> simp
     rw [ef] at hS8
     have HS8 := Gv hS8
     clear hS8 hN hS7 hC ef
     go_roundw
     case rel => exact ⟨k + 1, by go_num, by omega, t1, t2, t3, (f && true && kt), HK, HS8⟩
     case measure => simp [intOf] <;> omega
  ·obtain rfl : k = 4 := by omega
   have hrv := HRV.out.trans HA.out
   subst hrv
   have hS := HS.out
   have ef2 : (!(e || !f)) = (!e && f) := by cases e <;> cases f <;> rfl
   rw [ef2] at hS
   have hkI : ¬ ((4 : Nat) : Int) < 4 := by omega
   clear HS HA HRV hk
   have hC := hS.reads
   simp only [Zz, Zy] at hC
   have hm2 := hS.sm
   have hs2 := hS.sum
   go_wp2_with fail
   unfold Wy
   simp only [Fr.v]
   refine Gq ?_ rfl ⟨rfl, ?_, ?_⟩
   ·simp [results, Tryz.results93, go_sem, hC]
   ·repeat' (with_reducible first
   | exact hm2
   | refine SmO.setNew ?_ (by simp <;> omega) _)
   ·repeat' (with_reducible first
   | exact hs2
   | refine Box.far ?_ (by simp <;> omega) _)
end
section
open Go.RowKit

attribute [local go_sem] Zk Zj
def frb (r : Fr × Bool) : Value := .tuple #[r.1.v, .bool r.2]
theorem Hb (v : M4) (w : World) : Calls Tryz.prog 80 #[v.v] w (fun e w' => e = .returned (frb (Vq v)) ∧ Ex w w') := by
 have ksv : ∀ w, Calls Tryz.prog 45 #[v.v] w fun e w' => e = .returned (.bool (Uz v)) ∧ Ex w w' := fun w => Ts v.a v.b v.c v.d w
 have hq : Vq v = if Uz v && (row3 v).2 then ((row3 v).1, true) else (Fr.none, false) := rfl
 unfold row3 at hq
 obtain ⟨⟨a1, a2, a3⟩, ⟨b1, b2, b3⟩, ⟨c1, c2, c3⟩, ⟨d1, d2, d3⟩⟩ := v
 simp only [M4.v] at ksv ⊢
 simp only at hq
 generalize Uz _ = sv at ksv hq
 generalize Vq _ = sq at hq ⊢
 rcases em1 : Zs ⟨b1, b2, b3⟩ ⟨b1, b2, b3⟩ with ⟨⟨p1, p2, p3⟩, km1⟩
 rcases em2 : Zs ⟨c1, c2, c3⟩ ⟨c1, c2, c3⟩ with ⟨⟨q1, q2, q3⟩, km2⟩
 rcases em3 : Zs ⟨d1, d2, d3⟩ ⟨d1, d2, d3⟩ with ⟨⟨r1, r2, r3⟩, km3⟩
 simp only [em1, em2, em3] at hq
 rcases es2 : Yt ⟨p1, p2, p3⟩ ⟨q1, q2, q3⟩ with ⟨⟨s1, s2, s3⟩, ks2⟩
 simp only [es2] at hq
 rcases es3 : Yt ⟨s1, s2, s3⟩ ⟨r1, r2, r3⟩ with ⟨⟨t1, t2, t3⟩, ks3⟩
 simp only [es3] at hq
 have EM1 := Gv em1
 have EM2 := Gv em2
 have EM3 := Gv em3
 have ES2 := Gv es2
 have ES3 := Gv es3
 have HQ := Gv hq
 have KS := Gv ksv
 clear em1 em2 em3 es2 es3 hq ksv
 have hR := Zw.refl w
 go_enter Tryz.func80, Tryz.ntmps80
 go_upto_region 1 with fail
 have hV : Zw w ((w.alloc (.cells #[.int .i64 a1, .int .i64 a2, .int .i64 a3, .int .i64 b1, .int .i64 b2, .int .i64 b3, .int .i64 c1, .int .i64 c2, .int .i64 c3, .int .i64 d1, .int .i64 d2, .int .i64 d3] 35)).alloc (.cells #[.int .i64 0, .int .i64 0, .int .i64 0] 32)) _ := inferInstance
 clear hR
 have hle : w.heap.size ≤ ((w.alloc (.cells #[.int .i64 a1, .int .i64 a2, .int .i64 a3, .int .i64 b1, .int .i64 b2, .int .i64 b3, .int .i64 c1, .int .i64 c2, .int .i64 c3, .int .i64 d1, .int .i64 d2, .int .i64 d3] 35)).alloc (.cells #[.int .i64 0, .int .i64 0, .int .i64 0] 32)).heap.size := hV.ex.size
 simp only [Gu] at hV
 generalize (w.alloc (.cells #[.int .i64 a1, .int .i64 a2, .int .i64 a3, .int .i64 b1, .int .i64 b2, .int .i64 b3, .int .i64 c1, .int .i64 c2, .int .i64 c3, .int .i64 d1, .int .i64 d2, .int .i64 d3] 35)).alloc (.cells #[.int .i64 0, .int .i64 0, .int .i64 0] 32) = W0 at *
 have hW : Zq w (W0.alloc (.cells #[.bool false] 128)) W0.heap.size false _ := Zq.start (h := hV)
 have hC := hW.reads
 simp only [Zz, Zy] at hC
 go_upto_region 2 with (first | (go_at_call 45; (with_reducible refine (KS.out _).mono ?_); rintro e w1 ⟨rfl, hx⟩; have hW1 := Zq.ex hW hx; clear hx) | (go_at_call 72; (with_reducible refine (Oj _ _ _ _ hW1.sum).mono ?_); rintro e w2 ⟨rfl, hs, hb⟩; have hW2 := Zq.call hW1 hs hb; clear hs hb))
 clear hC
 have hC := hW2.reads
 simp only [Zz, Zy] at hC
 go_upto_region 3 with (go_at_call 74; (with_reducible refine (Xm hW2 EM1.out).mono ?_); rintro e w3 ⟨rfl, hW3, -⟩)
 have hS := Zq.alloc (h := hW3) (cs := #[.int .i64 p1, .int .i64 p2, .int .i64 p3]) (t := 32)
 have HLT := Gv (Ym.old hW3.boxes)
 have hg : w.heap.size ≤ w3.heap.size := hW3.sm.size
 have HNE := Gv (fun x hx => Nat.ne_of_lt (HLT.out x hx))
 generalize w3.heap.size = g at *
 generalize w3.alloc _ = W3 at *
 clear hW3 hC HLT hW2 hW1 hW hV
 refine Zd (St := fun _ _ => True) 10 _ (B := fun b w2 => Zq w w2 W0.heap.size b [(g, 32, #[.int .i64 p1, .int .i64 p2, .int .i64 p3]), (w.heap.size + 1, 32, #[.int .i64 0, .int .i64 0, .int .i64 0]), (w.heap.size, 35, #[.int .i64 a1, .int .i64 a2, .int .i64 a3, .int .i64 b1, .int .i64 b2, .int .i64 b3, .int .i64 c1, .int .i64 c2, .int .i64 c3, .int .i64 d1, .int .i64 d2, .int .i64 d3])]) (by kernel_rfl) (by kernel_rfl) (hS.drewW) (by exact fun _ _ _ _ _ h => h) ?_
 iterate 9 (apply Zx; (· rfl); (· intro b wb hB Q1 hQ1; have hS := hB; have hC := hS.reads; simp only [Zz, Zy] at hC; go_wp2_with fail; exact hQ1 _ trivial hB); (· exact ⟨_, rfl⟩))
 (apply Zp; (· rfl); (· intro b wb hB Q1 hQ1; go_wp2_with (go_at_call 74; (with_reducible refine (Xm hB EM2.out).mono ?_); rintro e wn ⟨rfl, hN, hM⟩); exact hQ1 _ trivial hN); (· exact ⟨_, rfl⟩))
 refine Zv ?_
 intro wz hz
 clear hS
 have hC := hz.reads
 simp only [Zz, Zy] at hC
 go_upto_region 4 with (go_at_call 75; (with_reducible refine (add_det hz ES2.out).mono ?_); rintro e wm ⟨rfl, hN, -⟩; have hC := hN.reads; simp only [Zz, Zy] at hC)
 have hS := Zq.set3 hN hg HNE.out (.int .i64 s1) (.int .i64 s2) (.int .i64 s3)
 generalize (((wm.setCell ⟨g, 0, none⟩ (.int .i64 s1)).setCell ⟨g, 1, none⟩ (.int .i64 s2)).setCell ⟨g, 2, none⟩ (.int .i64 s3)) = W4 at *
 clear hN hC hz
 refine Zd (St := fun _ _ => True) 10 _ (B := fun b w2 => Zq w w2 W0.heap.size b [(g, 32, #[.int .i64 s1, .int .i64 s2, .int .i64 s3]), (w.heap.size + 1, 32, #[.int .i64 0, .int .i64 0, .int .i64 0]), (w.heap.size, 35, #[.int .i64 a1, .int .i64 a2, .int .i64 a3, .int .i64 b1, .int .i64 b2, .int .i64 b3, .int .i64 c1, .int .i64 c2, .int .i64 c3, .int .i64 d1, .int .i64 d2, .int .i64 d3])]) (by kernel_rfl) (by kernel_rfl) (hS.drewW) (by exact fun _ _ _ _ _ h => h) ?_
 iterate 9 (apply Zx; (· rfl); (· intro b wb hB Q1 hQ1; have hS := hB; have hC := hS.reads; simp only [Zz, Zy] at hC; go_wp2_with fail; exact hQ1 _ trivial hB); (· exact ⟨_, rfl⟩))
 (apply Zp; (· rfl); (· intro b wb hB Q1 hQ1; go_wp2_with (go_at_call 74; (with_reducible refine (Xm hB EM3.out).mono ?_); rintro e wn ⟨rfl, hN, hM⟩); exact hQ1 _ trivial hN); (· exact ⟨_, rfl⟩))
 refine Zv ?_
 intro wz hz
 clear hS
 have hC := hz.reads
 simp only [Zz, Zy] at hC
 go_upto_region 5 with (go_at_call 75; (with_reducible refine (add_det hz ES3.out).mono ?_); rintro e wm ⟨rfl, hN, -⟩; have hC := hN.reads; simp only [Zz, Zy] at hC)
 have hS := Zq.set3 hN hg HNE.out (.int .i64 t1) (.int .i64 t2) (.int .i64 t3)
 generalize (((wm.setCell ⟨g, 0, none⟩ (.int .i64 t1)).setCell ⟨g, 1, none⟩ (.int .i64 t2)).setCell ⟨g, 2, none⟩ (.int .i64 t3)) = W5 at *
 clear hN hC hz
 obtain ⟨K, hK⟩ : ∃ K, K = (sv && (km1 && km2 && ks2 && km3 && ks3)) := ⟨_, rfl⟩
 have hF : (((((false || !sv) || !km1) || !km2) || !ks2) || !km3 || !ks3) = !K := by rw [hK]; simp [Bool.or_assoc]
 rw [hF] at hS
 have hq := HQ.out
 rw [← hK] at hq
 clear hK hF HQ
 rcases K with _ | _
 ·simp only [Bool.false_eq_true, if_false] at hq
  have HQ := Gv hq
  clear hq
  simp only [Bool.not_false] at hS
  have hC := hS.reads
  simp only [Zz, Zy] at hC
  go_wp2_with (go_at_call 130; (with_reducible refine (gotFrac_true _ _ _ _ _ hS.sum).mono ?_); rintro e wn ⟨rfl, hx⟩; have hS9 := Zq.ex hS hx; have hC := hS9.reads; simp only [Zz, Zy] at hC; have hE := hS9.rel hle)
  refine Gq (v := .tuple #[.agg #[.int .i64 0, .int .i64 0, .int .i64 0], .bool false]) ?_ rfl ⟨by rw [HQ.out]; rfl, ?_⟩
  ·simp [results, Tryz.results80, go_sem, hC]
  ·repeat' (with_reducible first | exact hE | exact Ex.refl _ | assumption | apply Ex.alloc | apply Ex.drewN | apply Ex.drew | refine Ex.setCell ?_ (by simp <;> omega) _)
 ·simp only [if_true] at hq
  have HQ := Gv hq
  clear hq
  simp only [Bool.not_true] at hS
  have hC := hS.reads
  simp only [Zz, Zy] at hC
  go_wp2_with (go_at_call 130; (with_reducible refine (gotFrac_false _ _ _ _ _ hS.sum).mono ?_); rintro e wn ⟨rfl, hx⟩; have hS9 := Zq.ex hS hx; have hC := hS9.reads; simp only [Zz, Zy] at hC; have hE := hS9.rel hle)
  refine Gq (v := .tuple #[.agg #[.int .i64 t1, .int .i64 t2, .int .i64 t3], .bool true]) ?_ rfl ⟨by rw [HQ.out]; rfl, ?_⟩
  ·simp [results, Tryz.results80, go_sem, hC]
  ·repeat' (with_reducible first | exact hE | exact Ex.refl _ | assumption | apply Ex.alloc | apply Ex.drewN | apply Ex.drew | refine Ex.setCell ?_ (by simp <;> omega) _)
end
end Go.Proofs.YtmmjkchjgeklnaaGreatDoor
