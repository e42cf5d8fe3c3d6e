/-
  Proved: what functions compute, part 22. No condition.
-/
import Derived.Test.YtmmjkchjgeklnaaGreatDoorK19
import Derived.Test.YtmmjkchjgeklnaaGreatDoorK18
import Derived.Test.YtmmjkchjgeklnaaGreatDoorK21
import Derived.Laws.Externs
import Derived.Test.YtmmjkchjgeklnaaGreatDoorK15
import Derived.Deep.RegionHeld3
import Derived.LoopN
set_option linter.unusedSimpArgs false
set_option linter.unusedVariables false
set_option maxRecDepth 20000
set_option maxHeartbeats 8000000
namespace Go.Proofs.YtmmjkchjgeklnaaGreatDoor
section
def pshare (ns : List Int) : Fr := (flow (ns.getD 0 0) 0 (ns.getD 1 0)).1
def pmat (k : UInt8) (ns : List Int) : M4 × Bool :=
 if k = 114 then Yo (ns.getD 0 0) (ns.getD 1 0)
 else if k = 119 then Yg (ns.getD 0 0) (ns.getD 1 0) (ns.getD 2 0)
 else if k = 102 then Wr (ns.getD 0 0) (ns.getD 1 0)
 else if k = 97 then (⟨pshare ns, Fr.nul, Fr.nul, pshare ns⟩, true)
 else (M4.none, false)
def Qb (k : UInt8) (ns : List Int) : List Fr × Bool :=
 if k = 100 then Sy (pshare ns) else if (pmat k ns).2 then Tk (pmat k ns).1 else (Tl 16, false)
def brun : List (UInt8 × List Int) → M4 → M4 × Bool
 | [], v => (v, true)
 | p :: ps, v => if (Qb p.1 p.2).2 && (Ro (Qb p.1 p.2).1 v).2 then brun ps (Ro (Qb p.1 p.2).1 v).1 else (M4.none, false)
def Yj (l : List UInt8) (v : M4) : M4 × Bool :=
 match Xi l with
 | some ps => if Uz v then brun ps v else (M4.none, false)
 | none => (M4.none, false)
theorem ptab_len (k : UInt8) (ns : List Int) : (Qb k ns).1.length = 16 := by
 unfold Qb
 split
 ·exact Jy _
 ·split
  ·exact Jz _
  ·simp [Tl]
end
section
def Sx (ps : List (UInt8 × List Int)) (i : Nat) (v : M4) (ok : Bool) : M4 × Bool := if ok then brun (ps.drop i) v else (M4.none, false)
theorem brest_step {ps : List (UInt8 × List Int)} {i : Nat} (hi : i < ps.length) (v : M4) (ok : Bool) :
  Sx ps i v ok = Sx ps (i + 1) (Ro (Qb ps[i].1 ps[i].2).1 v).1 (ok && (Qb ps[i].1 ps[i].2).2 && (Ro (Qb ps[i].1 ps[i].2).1 v).2) := by
 unfold Sx
 rw [List.drop_eq_getElem_cons hi]
 cases ok with
 | false => simp
 | true =>
  simp only [Bool.true_and, if_true, brun]
theorem brest_end (ps : List (UInt8 × List Int)) (v : M4) (ok : Bool) : Sx ps ps.length v ok = if ok then (v, true) else (M4.none, false) := by
 unfold Sx
 rw [List.drop_length]
 rfl
theorem Ll {l : List UInt8} {ps : List (UInt8 × List Int)} (h : Xi l = some ps) (v : M4) : Yj l v = Sx ps 0 v (Uz v) := by
 unfold Yj Sx
 rw [h, List.drop_zero]
theorem Lk {l : List UInt8} (h : Xi l = none) (v : M4) : Yj l v = (M4.none, false) := by
 unfold Yj
 rw [h]
theorem Hl : ∀ {ws : List (List UInt8)} {ps : List (UInt8 × List Int)}, Xn Zb ws = some ps → ∀ p ∈ ps, Xq p.1 p.2 = true
 | [], ps, h, p, hp => by
  have : ps = [] := by
   have := Vx h
   exact List.length_eq_zero_iff.1 this
  subst this
  cases hp
 | w :: t, ps, h, p, hp => by
  obtain ⟨b, r, h1, h2, rfl⟩ := Pe h
  rcases List.mem_cons.1 hp with rfl | hp
  ·obtain ⟨_, -, -, hv⟩ := Jm (k := p.1) (ns := p.2) h1
   exact hv
  ·exact Hl h2 p hp
theorem Mt {l : List UInt8} {ps : List (UInt8 × List Int)} (h : Xi l = some ps) : ∀ p ∈ ps, Xq p.1 p.2 = true := by
 by_cases hne : l = []
 ·subst hne
  rw [Jl] at h
  injection h with h
  subst h
  intro p hp
  cases hp
 ·exact Hl (Qz h hne).1
end
section
def Ti (h : Int) (b : Nat) : Int := bits .xor .u32 h (b : Int) * 16777619 % 4294967296
def hash (v : M4) : Int := Ti (Ti (Ti (Ti 2166136261 (Xf v.a).1) (Xf v.b).1) (Xf v.c).1) (Xf v.d).1
def Vw (l : List UInt8) (v : M4) : Int × Bool := if (Yj l v).2 && Rn v then (hash (Yj l v).1, true) else (0, false)
def Ws (S : ByteArray) (v : M4) (h : Int) : Value := .agg #[.string S, .int .i64 v.a.re, .int .i64 v.a.im, .int .i64 v.a.den, .int .i64 v.b.re, .int .i64 v.b.im, .int .i64 v.b.den, .int .i64 v.c.re, .int .i64 v.c.im, .int .i64 v.c.den, .int .i64 v.d.re, .int .i64 v.d.im, .int .i64 v.d.den, .int .u32 h]
def Hk (l : List UInt8) (v : M4) (r : Int × Bool) : Value := .tuple #[if r.2 then Ws (Bs l) v r.1 else Ws ⟨#[]⟩ M4.none 0, .bool r.2]
end
section
open Go.RowKit

attribute [local go_sem] Zk Zj
theorem cellA4 {cs : Array Value} (h : cs.size = 12) : (Tryz.prog.info? 33).map (·.size) = some cs.size := by rw [h]; kernel_rfl
theorem sTableApply (t : List Fr) (ht : t.length = 16) (v : M4) (w : World) : Calls Tryz.prog 58 #[.agg (Zo t), v.v] w (fun e w' => e = .returned (m4v (Ro t v)) ∧ Ex w w') := by
  have kt := fun w => sTableValid t ht w
  have ksv : ∀ w, Calls Tryz.prog 56 #[.agg #[.int .i64 v.a.re, .int .i64 v.a.im, .int .i64 v.a.den, .int .i64 v.b.re, .int .i64 v.b.im, .int .i64 v.b.den, .int .i64 v.c.re, .int .i64 v.c.im, .int .i64 v.c.den, .int .i64 v.d.re, .int .i64 v.d.im, .int .i64 v.d.den]] w fun e w' => e = .returned (.bool (Uz v)) ∧ Ex w w' := fun w => Ve v.a v.b v.c v.d w
  unfold M4.v
  have hst : (Zo t).size = 48 := by rw [Xy, ht]
  have HTP := Gv (Jh t v)
  have KO := Gv (fun r hr w => l6tOf_any t ht r hr w)
  have HALK := Gv (fun r => rowS_alk (tg t (4 * r)) (tg t (4 * r + 1)) (tg t (4 * r + 2)) (tg t (4 * r + 3)) v.a v.b v.c v.d)
  have KR := Gv (fun (bs : Nat) (e : Bool) (r : Nat) (w : World) (hb : Box w bs 144 #[.bool (!e)]) => l6tRow_any bs e [tg t (4 * r), tg t (4 * r + 1), tg t (4 * r + 2), tg t (4 * r + 3)] v.l rfl rfl w hb)
  have HVL : Hid (Zo v.l = #[.int .i64 v.a.re, .int .i64 v.a.im, .int .i64 v.a.den, .int .i64 v.b.re, .int .i64 v.b.im, .int .i64 v.b.den, .int .i64 v.c.re, .int .i64 v.c.im, .int .i64 v.c.den, .int .i64 v.d.re, .int .i64 v.d.im, .int .i64 v.d.den]) := Gv rfl
  generalize hct : Zo t = tc at *
  generalize htv : Qd t = tv at *
  generalize hsv : Uz v = sv at *
  have KT := Gv kt
  have KS := Gv ksv
  clear kt ksv hct htv hsv
  have hR := Zw.refl w
  go_enter Tryz.func58, Tryz.ntmps58
  go_upto_region 1 with fail
  have hV : Zw w (((w.alloc (.cells tc 87)).alloc (.cells #[.int .i64 v.a.re, .int .i64 v.a.im, .int .i64 v.a.den, .int .i64 v.b.re, .int .i64 v.b.im, .int .i64 v.b.den, .int .i64 v.c.re, .int .i64 v.c.im, .int .i64 v.c.den, .int .i64 v.d.re, .int .i64 v.d.im, .int .i64 v.d.den] 35)).alloc (.cells #[.int .i64 0, .int .i64 0, .int .i64 0, .int .i64 0, .int .i64 0, .int .i64 0, .int .i64 0, .int .i64 0, .int .i64 0, .int .i64 0, .int .i64 0, .int .i64 0] 35)) _ := inferInstance
  clear hR
  have hle : w.heap.size ≤ (((w.alloc (.cells tc 87)).alloc (.cells #[.int .i64 v.a.re, .int .i64 v.a.im, .int .i64 v.a.den, .int .i64 v.b.re, .int .i64 v.b.im, .int .i64 v.b.den, .int .i64 v.c.re, .int .i64 v.c.im, .int .i64 v.c.den, .int .i64 v.d.re, .int .i64 v.d.im, .int .i64 v.d.den] 35)).alloc (.cells #[.int .i64 0, .int .i64 0, .int .i64 0, .int .i64 0, .int .i64 0, .int .i64 0, .int .i64 0, .int .i64 0, .int .i64 0, .int .i64 0, .int .i64 0, .int .i64 0] 35)).heap.size := hV.ex.size
  simp only [Gu] at hV
  generalize ((w.alloc (.cells tc 87)).alloc (.cells #[.int .i64 v.a.re, .int .i64 v.a.im, .int .i64 v.a.den, .int .i64 v.b.re, .int .i64 v.b.im, .int .i64 v.b.den, .int .i64 v.c.re, .int .i64 v.c.im, .int .i64 v.c.den, .int .i64 v.d.re, .int .i64 v.d.im, .int .i64 v.d.den] 35)).alloc (.cells #[.int .i64 0, .int .i64 0, .int .i64 0, .int .i64 0, .int .i64 0, .int .i64 0, .int .i64 0, .int .i64 0, .int .i64 0, .int .i64 0, .int .i64 0, .int .i64 0] 35) = W0 at *
  have hb1 := hV.boxes.2.2.1
  rcases tv with _ | _
  · have ht := HTP.out
    simp only [Bool.false_and, Bool.false_eq_true, if_false] at ht
    clear HTP
    go_wp2_with (first | (refine wpList_load_row rfl _ _ rfl _ rfl _ _ (0, 0) _ hb1 Tryz.underlying87 rfl (Ye hst) ?_) | (go_at_call 92; (with_reducible refine (KT.out _).mono ?_); rintro e w1 ⟨rfl, hx⟩; replace hV := Zw.after (W := w) hx; clear hx; have hC2 := hV.boxes.2.1.cell) | (go_at_call 56; (with_reducible refine (KS.out _).mono ?_); rintro e w1 ⟨rfl, hx⟩; replace hV := Zw.after (W := w) hx; clear hx))
    refine wp_loop_rounds 1 ?_
    rw [rounds_succ]
    have hC := hV.reads
    simp only [Zz, Zy] at hC
    have hE := hV.ex
    go_wp2_with fail
    refine Gq (v := .tuple #[.agg #[.int .i64 0, .int .i64 0, .int .i64 0, .int .i64 0, .int .i64 0, .int .i64 0, .int .i64 0, .int .i64 0, .int .i64 0, .int .i64 0, .int .i64 0, .int .i64 0], .bool false]) ?_ rfl ⟨by rw [ht]; rfl, ?_⟩
    · simp [results, Tryz.results58, go_sem, hC]
    · repeat' (with_reducible first | exact hE | exact Ex.refl _ | assumption | apply Ex.alloc | apply Ex.drewN | apply Ex.drew | refine Ex.setCell ?_ (by simp <;> omega) _)
  · rcases sv with _ | _
    · have ht := HTP.out
      simp only [Bool.true_and, Bool.false_and, Bool.false_eq_true, if_false] at ht
      clear HTP
      go_wp2_with (first | (refine wpList_load_row rfl _ _ rfl _ rfl _ _ (0, 0) _ hb1 Tryz.underlying87 rfl (Ye hst) ?_) | (go_at_call 92; (with_reducible refine (KT.out _).mono ?_); rintro e w1 ⟨rfl, hx⟩; replace hV := Zw.after (W := w) hx; clear hx; have hC2 := hV.boxes.2.1.cell) | (go_at_call 56; (with_reducible refine (KS.out _).mono ?_); rintro e w1 ⟨rfl, hx⟩; replace hV := Zw.after (W := w) hx; clear hx))
      refine wp_loop_rounds 1 ?_
      rw [rounds_succ]
      have hC := hV.reads
      simp only [Zz, Zy] at hC
      have hE := hV.ex
      go_wp2_with fail
      refine Gq (v := .tuple #[.agg #[.int .i64 0, .int .i64 0, .int .i64 0, .int .i64 0, .int .i64 0, .int .i64 0, .int .i64 0, .int .i64 0, .int .i64 0, .int .i64 0, .int .i64 0, .int .i64 0], .bool false]) ?_ rfl ⟨by rw [ht]; rfl, ?_⟩
      · simp [results, Tryz.results58, go_sem, hC]
      · repeat' (with_reducible first | exact hE | exact Ex.refl _ | assumption | apply Ex.alloc | apply Ex.drewN | apply Ex.drew | refine Ex.setCell ?_ (by simp <;> omega) _)
    · simp only [Bool.true_and] at HTP
      go_upto_region 3 with (first | (refine wpList_load_row rfl _ _ rfl _ rfl _ _ (0, 0) _ hb1 Tryz.underlying87 rfl (Ye hst) ?_) | (go_at_call 92; (with_reducible refine (KT.out _).mono ?_); rintro e w1 ⟨rfl, hx⟩; replace hV := Zw.after (W := w) hx; clear hx; have hC2 := hV.boxes.2.1.cell) | (go_at_call 56; (with_reducible refine (KS.out _).mono ?_); rintro e w1 ⟨rfl, hx⟩; replace hV := Zw.after (W := w) hx; clear hx))
      have hle2 := hV.ex.size
      have hS0 : Zr w ((w1.alloc (.cells #[.bool true] 144)).alloc (.cells #[.int .i64 0, .int .i64 0, .int .i64 0, .int .i64 0, .int .i64 0, .int .i64 0, .int .i64 0, .int .i64 0, .int .i64 0, .int .i64 0, .int .i64 0, .int .i64 0] 35)) w1.heap.size true _ := Zr.alloc (h := Zr.start (h := hV)) (cs := #[.int .i64 0, .int .i64 0, .int .i64 0, .int .i64 0, .int .i64 0, .int .i64 0, .int .i64 0, .int .i64 0, .int .i64 0, .int .i64 0, .int .i64 0, .int .i64 0]) (t := 35)
      simp only [Gu] at hS0
      have z1 := hV.boxes.1.lt
      have z2 := hV.boxes.2.1.lt
      have z3 := hV.boxes.2.2.1.lt
      generalize (w1.alloc (.cells #[.bool true] 144)).alloc (.cells #[.int .i64 0, .int .i64 0, .int .i64 0, .int .i64 0, .int .i64 0, .int .i64 0, .int .i64 0, .int .i64 0, .int .i64 0, .int .i64 0, .int .i64 0, .int .i64 0] 35) = W5 at *
      rw [← HVL.out] at hS0
      have hsv2 : (Zo v.l).size = 12 := by rw [Xy]; rfl
      generalize hvc : Zo v.l = vc at *
      have hne : ∀ x ∈ ([(w.heap.size + 1 + 1, 35, #[.int .i64 0, .int .i64 0, .int .i64 0, .int .i64 0, .int .i64 0, .int .i64 0, .int .i64 0, .int .i64 0, .int .i64 0, .int .i64 0, .int .i64 0, .int .i64 0]), (w.heap.size + 1, 35, vc), (w.heap.size, 87, tc)] : List (Nat × TypeId × Array Value)), x.1 ≠ w1.heap.size + 1 := by
        intro x hx
        simp only [List.mem_cons, List.not_mem_nil, or_false] at hx
        rcases hx with rfl | rfl | rfl <;> simp only <;> omega
      have hob : w.heap.size ≤ w1.heap.size + 1 := by omega
      clear hV hb1 KT KS z1 z2 z3
      go_wp2_with fail
      go_loopw [8] (fun ii wr => ∃ (r : Nat) (l : List Fr), ii = .int .i64 r ∧ r ≤ 4 ∧ l.length = 4 ∧ Hid (Tv t v r = true → l = Oo t v r) ∧ Hid (Zr w wr w1.heap.size (Tv t v r) ((w1.heap.size + 1, 35, Zo l) :: [(w.heap.size + 1 + 1, 35, #[.int .i64 0, .int .i64 0, .int .i64 0, .int .i64 0, .int .i64 0, .int .i64 0, .int .i64 0, .int .i64 0, .int .i64 0, .int .i64 0, .int .i64 0, .int .i64 0]), (w.heap.size + 1, 35, vc), (w.heap.size, 87, tc)]))) (fun ii _ => 5 - (intOf ii).toNat)
      case atStart => exact ⟨0, Tl 4, rfl, by omega, rfl, Gv (fun _ => rfl), Gv hS0⟩
      case round =>
        clear hS0
        obtain ⟨r, l, rfl, hr, hl, HL, HS⟩ := hrel
        rcases hf : Tv t v r with _ | _
        · have hS := HS.out
          have ht := HTP.out
          have hk4 : Tv t v 4 = false := by
            have hmono : ∀ j k, Tv t v j = false → j ≤ k → Tv t v k = false := fun j k hj hjk => by
              induction k with
              | zero => have : j = 0 := by omega
                        subst this; exact hj
              | succ k ih => rcases Nat.lt_or_ge j (k + 1) with h | h
                             · simp [Tv, ih (by omega)]
                             · have : j = k + 1 := by omega
                               subst this; exact hj
            exact hmono r 4 hf hr
          simp only [hk4, Bool.and_false, Bool.false_eq_true, if_false] at ht
          rw [hf] at hS
          have hC := hS.reads
          simp only [Zz, Zy] at hC
          have hE := hS.rel hle2
          clear HS hk4 HL
          by_cases hlt : r < 4
          · have hI : (r : Int) < 4 := by omega
            go_wp2_with fail
            refine Gq (v := .tuple #[.agg #[.int .i64 0, .int .i64 0, .int .i64 0, .int .i64 0, .int .i64 0, .int .i64 0, .int .i64 0, .int .i64 0, .int .i64 0, .int .i64 0, .int .i64 0, .int .i64 0], .bool false]) ?_ rfl ⟨by first | rfl | (rw [ht]; rfl), ?_⟩
            · simp [results, Tryz.results58, go_sem, hC]
            · repeat' (with_reducible first | exact hE | exact Ex.refl _ | assumption | apply Ex.alloc | apply Ex.drewN | apply Ex.drew | refine Ex.setCell ?_ (by simp <;> omega) _)
          · have hI : ¬ (r : Int) < 4 := by omega
            go_wp2_with fail
            refine Gq (v := .tuple #[.agg #[.int .i64 0, .int .i64 0, .int .i64 0, .int .i64 0, .int .i64 0, .int .i64 0, .int .i64 0, .int .i64 0, .int .i64 0, .int .i64 0, .int .i64 0, .int .i64 0], .bool false]) ?_ rfl ⟨by first | rfl | (rw [ht]; rfl), ?_⟩
            · simp [results, Tryz.results58, go_sem, hC]
            · repeat' (with_reducible first | exact hE | exact Ex.refl _ | assumption | apply Ex.alloc | apply Ex.drewN | apply Ex.drew | refine Ex.setCell ?_ (by simp <;> omega) _)
        · by_cases hlt : r < 4
          · have hI : (r : Int) < 4 := by omega
            have hwr : IntKind.i64.wrap ((r : Int) + 1) = (r : Int) + 1 := Gp _ (by omega)
            obtain rfl := HL.out hf
            have ko := fun w => KO.out r hlt w
            have kr := fun e w hb => KR.out w1.heap.size e r w hb
            have halk := HALK.out r
            have HSA : Hid (Ju [tg t (4 * r), tg t (4 * r + 1), tg t (4 * r + 2), tg t (4 * r + 3)] v.l 4 = rowS (tg t (4 * r)) (tg t (4 * r + 1)) (tg t (4 * r + 2)) (tg t (4 * r + 3)) v.a v.b v.c v.d) := Gv (sacc_row _ _ _ _ _ _ _ _)
            simp only [HSA.out] at kr
            have HTR : Hid (Tn t r v = rowR (tg t (4 * r)) (tg t (4 * r + 1)) (tg t (4 * r + 2)) (tg t (4 * r + 3)) v.a v.b v.c v.d) := Gv rfl
            rw [← HTR.out] at halk
            generalize rowS (tg t (4 * r)) (tg t (4 * r + 1)) (tg t (4 * r + 2)) (tg t (4 * r + 3)) v.a v.b v.c v.d = sr at kr halk
            clear HSA HTR
            generalize Zo [tg t (4 * r), tg t (4 * r + 1), tg t (4 * r + 2), tg t (4 * r + 3)] = rc at ko kr
            obtain ⟨⟨q1, q2, q3⟩, kq⟩ := sr
            unfold Alk at halk
            simp only at halk
            have KO2 := Gv ko
            have KR2 := Gv kr
            have HAL := Gv halk
            clear ko kr halk HL
            have hS := HS.out
            rw [hf] at hS
            clear HS
            have hC := hS.reads
            simp only [Zz, Zy] at hC
            go_upto_region 6 with fail
            clear hC
            replace hS : Zr w wr w1.heap.size (!false || kq) _ := hS
            refine Zd (St := fun _ _ => True) 10 false (B := fun b w2 => Zr w w2 w1.heap.size (!b || kq) ((w1.heap.size + 1, 35, Zo (Oo t v r)) :: [(w.heap.size + 1 + 1, 35, #[.int .i64 0, .int .i64 0, .int .i64 0, .int .i64 0, .int .i64 0, .int .i64 0, .int .i64 0, .int .i64 0, .int .i64 0, .int .i64 0, .int .i64 0, .int .i64 0]), (w.heap.size + 1, 35, vc), (w.heap.size, 87, tc)])) (by kernel_rfl) (by kernel_rfl) (hS.drewW) (by exact fun _ _ _ _ _ h => h) ?_
            iterate 4 (apply Zx; (· rfl); (· intro b wb hB Q1 hQ1; go_wp2_with (refine wpList_load_row rfl _ _ rfl _ rfl _ _ (0, 0) _ hB.boxes.2.2.2.1 Tryz.underlying87 rfl (Ye hst) ?_); exact hQ1 _ trivial hB); (· exact ⟨_, rfl⟩))
            (apply Zx; (· rfl); (· intro b wb hB Q1 hQ1; go_wp2_with (go_at_call 94; (with_reducible refine (KO2.out _).mono ?_); rintro e1 wn ⟨rfl, hx⟩); exact hQ1 _ trivial (hB.ex hx)); (· exact ⟨_, rfl⟩))
            iterate 2 (apply Zx; (· rfl); (· intro b wb hB Q1 hQ1; go_wp2_with (refine wpList_load_row rfl _ _ rfl _ rfl _ _ (0, 0) _ hB.boxes.2.2.1 Tryz.underlying33 rfl (cellA4 hsv2) ?_); exact hQ1 _ trivial hB); (· exact ⟨_, rfl⟩))
            apply Zp (d := true)
            · rfl
            · intro b wb hB Q1 hQ1
              have hB2 : Zr w wb w1.heap.size (!(b && !kq)) ((w1.heap.size + 1, 35, Zo (Oo t v r)) :: [(w.heap.size + 1 + 1, 35, #[.int .i64 0, .int .i64 0, .int .i64 0, .int .i64 0, .int .i64 0, .int .i64 0, .int .i64 0, .int .i64 0, .int .i64 0, .int .i64 0, .int .i64 0, .int .i64 0]), (w.heap.size + 1, 35, vc), (w.heap.size, 87, tc)]) := by
                have e : (!b || kq) = !(b && !kq) := by cases b <;> cases kq <;> rfl
                rw [← e]
                exact hB
              go_wp2_with (go_at_call 93; (with_reducible refine (KR2.out (b && !kq) _ hB2.sum).mono ?_); rintro e1 wm ⟨rfl, hs1, hb1⟩)
              have hN := Zr.call hB2 hs1 hb1
              have e : (!(b && !kq) && kq) = (!(b || true) || kq) := by cases b <;> cases kq <;> rfl
              rw [e] at hN
              exact hQ1 _ trivial hN
            · exact ⟨_, rfl⟩
            iterate 2 (apply Zx; (· rfl); (· intro b wb hB Q1 hQ1; go_wp2_with fail; exact hQ1 _ trivial hB); (· exact ⟨_, rfl⟩))
            refine Zv ?_
            intro wz hz
            replace hz : Zr w wz w1.heap.size (true && kq) _ := hz
            go_wp2_with (refine Yh hz hob hne r (by rw [rowsL_len]; exact hlt) (by rw [Nat.mul_comm 3 r]; rfl) rfl ?_; intro V hV2)
            have e2 : (true && kq) = Tv t v (r + 1) := by simp [Tv, hf, HAL.out.1]
            rw [e2] at hV2
            have HL3 : Hid (Tv t v (r + 1) = true → (Oo t v r).set r ⟨q1, q2, q3⟩ = Oo t v (r + 1)) := Gv fun h => by
                have h2 : (Tn t r v).2 = true := by simpa [Tv, hf] using h
                rw [HAL.out.2 h2]
                exact rowsL_set t v r hlt
            have HV2 := Gv hV2
            clear hV2 e2 hS hz
            go_roundw
            case rel => exact ⟨r + 1, _, by go_num, by omega, by rw [List.length_set]; rfl, HL3, HV2⟩
            case measure => simp [intOf] <;> omega
          · obtain rfl : r = 4 := by omega
            have hI : ¬ ((4 : Nat) : Int) < 4 := by omega
            obtain rfl := HL.out hf
            have hS := HS.out
            rw [hf] at hS
            have ht := HTP.out
            simp only [hf, if_true] at ht
            rw [rowsL_all] at hS
            rcases e0 : (Tn t 0 v).1 with ⟨r0a, r0b, r0c⟩
            rcases e1 : (Tn t 1 v).1 with ⟨r1a, r1b, r1c⟩
            rcases e2 : (Tn t 2 v).1 with ⟨r2a, r2b, r2c⟩
            rcases e3 : (Tn t 3 v).1 with ⟨r3a, r3b, r3c⟩
            rw [e0, e1, e2, e3] at hS ht
            rw [show Zo [⟨r0a, r0b, r0c⟩, ⟨r1a, r1b, r1c⟩, ⟨r2a, r2b, r2c⟩, ⟨r3a, r3b, r3c⟩] = #[.int .i64 r0a, .int .i64 r0b, .int .i64 r0c, .int .i64 r1a, .int .i64 r1b, .int .i64 r1c, .int .i64 r2a, .int .i64 r2b, .int .i64 r2c, .int .i64 r3a, .int .i64 r3b, .int .i64 r3c] from rfl] at hS
            clear e0 e1 e2 e3 HS HL HTP
            have hC := hS.reads
            simp only [Zz, Zy] at hC
            have hE := hS.rel hle2
            go_wp2_with fail
            refine Gq (v := .tuple #[.agg #[.int .i64 r0a, .int .i64 r0b, .int .i64 r0c, .int .i64 r1a, .int .i64 r1b, .int .i64 r1c, .int .i64 r2a, .int .i64 r2b, .int .i64 r2c, .int .i64 r3a, .int .i64 r3b, .int .i64 r3c], .bool true]) ?_ rfl ⟨by first | rfl | (rw [ht]; rfl), ?_⟩
            · simp [results, Tryz.results58, go_sem, hC]
            · repeat' (with_reducible first | exact hE | exact Ex.refl _ | assumption | apply Ex.alloc | apply Ex.drewN | apply Ex.drew | refine Ex.setCell ?_ (by simp <;> omega) _)
end
section
open Go.RowKit

attribute [local go_sem] Zk Zj
theorem Zw.setRow {W w : World} {g : Nat} {t : TypeId} {y : Array Value} {L : List (Nat × TypeId × Array Value)} (h : Zw W w ((g, t, y) :: L)) (hg : W.heap.size ≤ g) (hne : ∀ x ∈ L, x.1 ≠ g) (x : Array Value) : Zw W (w.setRow g x) ((g, t, x) :: L) :=
 ⟨h.ex.setRow hg x, h.boxes.1.setRow x, Ow hne h.boxes.2⟩
theorem Lb {P : Program} {fn : Func} {p : Tmp} {ty : TypeId} (h : fn.results = #[.cell p ty]) (tmps : Array Value) (w : World) (g : Nat) (t : TypeId) (cs : Array Value) (fr : Nat × Nat) (d : TypeDesc)
  (hp : tmps.getD p undef = .pointer (some ⟨g, 0, none⟩)) (hg : w.heap[g]? = some (.cells cs t fr))
  (hu : P.underlying ty = some d) (hd : (match d with | .struct _ | .array _ _ => true | _ => false) = true) (hi : (P.info? ty).map (·.size) = some cs.size) :
  (results fn tmps).run P w = .ok (.agg cs) w := by
 have hp' : tmps[p]?.getD undef = .pointer (some ⟨g, 0, none⟩) := by simpa using hp
 simp [results, h, hp', asAddr, run_loadVar_row w g t ty cs fr d hg hu hd hi]
def dl (k : Nat) : List Fr := List.replicate k Fr.nul ++ List.replicate (16 - k) Fr.none
theorem dl_len {k : Nat} (h : k ≤ 16) : (dl k).length = 16 := by simp [dl]; omega
theorem dl_set {k : Nat} (h : k < 16) : (dl k).set k Fr.nul = dl (k + 1) := by
 unfold dl
 rw [List.set_append_right _ _ (by simp), List.length_replicate, Nat.sub_self, show 16 - k = (16 - (k + 1)) + 1 by omega, List.replicate_succ, Gs, List.replicate_succ', List.append_assoc]
 rfl
theorem iDiagonal (x1 x2 x3 : Int) (w : World) [hG : Yf w] : Calls Tryz.prog 107 #[.agg #[.int .i64 1, .int .i64 0, .int .i64 1], .agg #[.int .i64 x1, .int .i64 x2, .int .i64 x3]] w (fun e w' => e = .returned (.agg (Zo (diag ⟨x1, x2, x3⟩))) ∧ Ex w w') := by
 have HG := Gv hG
 have hR := Zw.refl w
 go_enter Tryz.func107, Tryz.ntmps107
 go_upto_region 1 with fail
 rw [Ui]
 have hV : Zw w (((w.alloc (.cells #[.int .i64 1, .int .i64 0, .int .i64 1] 32)).alloc (.cells #[.int .i64 x1, .int .i64 x2, .int .i64 x3] 32)).alloc (.cells Z48 87)) _ := inferInstance
 clear hR
 simp only [Gu] at hV
 have z1 := hV.boxes.1.lt
 have z2 := hV.boxes.2.1.lt
 have z3 := hV.boxes.2.2.1.lt
 have hob : w.heap.size ≤ (((w.alloc (.cells #[.int .i64 1, .int .i64 0, .int .i64 1] 32)).alloc (.cells #[.int .i64 x1, .int .i64 x2, .int .i64 x3] 32)).alloc (.cells Z48 87)).heap.size := hV.ex.size
 generalize ((w.alloc (.cells #[.int .i64 1, .int .i64 0, .int .i64 1] 32)).alloc (.cells #[.int .i64 x1, .int .i64 x2, .int .i64 x3] 32)).alloc (.cells Z48 87) = W0 at *
 have hne : ∀ x ∈ ([(w.heap.size + 1 + 1, 87, Z48), (w.heap.size + 1, 32, #[.int .i64 x1, .int .i64 x2, .int .i64 x3]), (w.heap.size, 32, #[.int .i64 1, .int .i64 0, .int .i64 1])] : List (Nat × TypeId × Array Value)), x.1 ≠ W0.heap.size := by
  intro x hx
  simp only [List.mem_cons, List.not_mem_nil, or_false] at hx
  rcases hx with rfl | rfl | rfl
  ·exact Nat.ne_of_lt z1
  ·exact Nat.ne_of_lt z2
  ·exact Nat.ne_of_lt z3
 have hS0 : Zw w (W0.alloc (.cells Z48 87)) _ := Zw.alloc (h := hV) (cs := Z48) (t := 87)
 go_upto_region 2 with (refine wpList_store_row rfl _ _ _ rfl _ _ rfl rfl _ _ (Box.new W0 Z48 87) (Ye Xt) rfl Ue ?_)
 rw [Ui]
 replace hS0 := Zw.setRow hS0 hob hne Z48
 generalize (W0.alloc (.cells Z48 87)).setRow W0.heap.size Z48 = W1 at *
 clear hV z1 z2 z3
 go_wp2_with fail
 go_loopw [8, 6] (fun i j wr => ∃ k : Nat, i = .int .i64 k ∧ k ≤ 16 ∧ Hid (Zw w wr ((W0.heap.size, 87, Zo (dl k)) :: [(w.heap.size + 1 + 1, 87, Z48), (w.heap.size + 1, 32, #[.int .i64 x1, .int .i64 x2, .int .i64 x3]), (w.heap.size, 32, #[.int .i64 1, .int .i64 0, .int .i64 1])]))) (fun i _ _ => 17 - (intOf i).toNat)
 case atStart => exact ⟨0, rfl, by omega, Gv hS0⟩
 case round =>
  clear hS0
  obtain ⟨k, rfl, hk, HS⟩ := hrel
  have hS := HS.out
  by_cases hlt : k < 16
  ·have hI : (k : Int) < 16 := by omega
   have hw5 : IntKind.i64.wrap ((k : Int) + 1) = (k : Int) + 1 := Gp _ (by omega)
   have hg := (HG.out.ex hS.ex).reads
   go_wp2_with (refine Ug hS hob hne k (by rw [dl_len hk]; exact hlt) (by rw [Nat.mul_comm 3 k]; rfl) rfl ?_; intro V hV2)
   rw [show ((dl k).set k ⟨0, 0, 1⟩) = dl (k + 1) from dl_set hlt] at hV2
   have HV2 := Gv hV2
   clear hV2 hS hg
   go_roundw
   case rel => exact ⟨k + 1, by go_num, by omega, HV2⟩
   case measure => simp [intOf] <;> omega
  ·obtain rfl : k = 16 := by omega
   have hI : ¬ ((16 : Nat) : Int) < 16 := by omega
   clear hlt HS
   have hC := hS.reads
   simp only [Zz, Zy] at hC
   go_upto_region 7 with fail
   have s0 := hS.boxes.2.2.2.1.cell 0
   have s1 := hS.boxes.2.2.2.1.cell 1
   have s2 := hS.boxes.2.2.2.1.cell 2
   have s3 := hS.boxes.2.2.1.cell 0
   have s4 := hS.boxes.2.2.1.cell 1
   have s5 := hS.boxes.2.2.1.cell 2
   have c00 := (hS.boxes.1.cell 0).trans (show _ = some (.int .i64 0) from rfl)
   have c01 := (hS.boxes.1.cell 1).trans (show _ = some (.int .i64 0) from rfl)
   have c02 := (hS.boxes.1.cell 2).trans (show _ = some (.int .i64 1) from rfl)
   have c10 := (hS.boxes.1.cell 15).trans (show _ = some (.int .i64 0) from rfl)
   have c11 := (hS.boxes.1.cell 16).trans (show _ = some (.int .i64 0) from rfl)
   have c12 := (hS.boxes.1.cell 17).trans (show _ = some (.int .i64 1) from rfl)
   have c20 := (hS.boxes.1.cell 30).trans (show _ = some (.int .i64 0) from rfl)
   have c21 := (hS.boxes.1.cell 31).trans (show _ = some (.int .i64 0) from rfl)
   have c22 := (hS.boxes.1.cell 32).trans (show _ = some (.int .i64 1) from rfl)
   have c30 := (hS.boxes.1.cell 45).trans (show _ = some (.int .i64 0) from rfl)
   have c31 := (hS.boxes.1.cell 46).trans (show _ = some (.int .i64 0) from rfl)
   have c32 := (hS.boxes.1.cell 47).trans (show _ = some (.int .i64 1) from rfl)
   have n1 : w.heap.size ≠ W0.heap.size := hne _ (.tail _ (.tail _ (.head _)))
   have n2 : w.heap.size + 1 ≠ W0.heap.size := hne _ (.tail _ (.head _))
   have n3 := n1.symm
   have n4 := n2.symm
   have cf := hS.boxes.1.frozen
   have cl := hS.boxes.1.lt
   clear hC
   go_region_held3 (fun w' => w'.cell? ⟨w.heap.size, 0, none⟩ = some (.int .i64 1) ∧ w'.cell? ⟨w.heap.size, 1, none⟩ = some (.int .i64 0) ∧ w'.cell? ⟨w.heap.size, 2, none⟩ = some (.int .i64 1) ∧ w'.cell? ⟨w.heap.size + 1, 0, none⟩ = some (.int .i64 x1) ∧ w'.cell? ⟨w.heap.size + 1, 1, none⟩ = some (.int .i64 x2) ∧ w'.cell? ⟨w.heap.size + 1, 2, none⟩ = some (.int .i64 x3)) (go_keep) (fail)
   have hF := Zw.setF (Zw.setF (Zw.setF (Zw.setF hS hob hne 0 1 0 1) hob hne 5 x1 x2 x3) hob hne 10 x1 x2 x3) hob hne 15 x1 x2 x3
   replace hF := Zw.drew (h := hF)
   rw [show (((((dl 16).set 0 ⟨1, 0, 1⟩).set 5 ⟨x1, x2, x3⟩).set 10 ⟨x1, x2, x3⟩).set 15 ⟨x1, x2, x3⟩) = diag ⟨x1, x2, x3⟩ from rfl] at hF
   have bO := hF.boxes.1
   have bR := hF.boxes.2.1
   have hE := hF.ex
   clear hF s0 s1 s2 s3 s4 s5 c00 c01 c02 c10 c11 c12 c20 c21 c22 c30 c31 c32 cf cl n1 n2 n3 n4 hS
   simp only [Nat.reduceMul, Nat.reduceAdd] at bO bR hE
   generalize World.drew _ = Y at bO bR hE ⊢
   go_wp2_with (first | (refine wpList_load_row rfl _ _ rfl _ rfl _ _ (0, 0) _ bO Tryz.underlying87 rfl (Ye (by rw [Xy]; rfl)) ?_) | (refine wpList_store_row rfl _ _ _ rfl _ _ rfl rfl _ _ bR (Ye (by rw [Xy]; rfl)) (by rw [Xy]; rfl) (Xv _) ?_))
   exact Gq (Lb Tryz.results107 _ _ _ _ _ (0, 0) _ rfl (bR.setRow _) Tryz.underlying87 rfl (Ye (by rw [Xy]; rfl))) rfl ⟨rfl, hE.setRow (by omega) _⟩
def dc (c : Fr) (k : Nat) : List Fr := (List.range 16).map fun i => if i < k then (if i % 5 = 0 then c else Fr.nul) else Fr.none
theorem dc_len (c : Fr) (k : Nat) : (dc c k).length = 16 := by simp [dc]
theorem dc_nul (c : Fr) {k : Nat} (h : k < 16) (h5 : ¬ k % 5 = 0) : (dc c k).set k Fr.nul = dc c (k + 1) := by
 have hk : k = 0 ∨ k = 1 ∨ k = 2 ∨ k = 3 ∨ k = 4 ∨ k = 5 ∨ k = 6 ∨ k = 7 ∨ k = 8 ∨ k = 9 ∨ k = 10 ∨ k = 11 ∨ k = 12 ∨ k = 13 ∨ k = 14 ∨ k = 15 := by omega
 rcases hk with rfl | rfl | rfl | rfl | rfl | rfl | rfl | rfl | rfl | rfl | rfl | rfl | rfl | rfl | rfl | rfl <;> first | rfl | exact absurd rfl h5
theorem dc_c (c : Fr) {k : Nat} (h : k < 16) (h5 : k % 5 = 0) : ((dc c k).set k Fr.nul).set k c = dc c (k + 1) := by
 have hk : k = 0 ∨ k = 1 ∨ k = 2 ∨ k = 3 ∨ k = 4 ∨ k = 5 ∨ k = 6 ∨ k = 7 ∨ k = 8 ∨ k = 9 ∨ k = 10 ∨ k = 11 ∨ k = 12 ∨ k = 13 ∨ k = 14 ∨ k = 15 := by omega
 rcases hk with rfl | rfl | rfl | rfl | rfl | rfl | rfl | rfl | rfl | rfl | rfl | rfl | rfl | rfl | rfl | rfl <;> first | rfl | (exact absurd h5 (by decide))
theorem Ix (x1 x2 x3 : Int) (w : World) : Calls Tryz.prog 138 #[.agg #[.int .i64 x1, .int .i64 x2, .int .i64 x3]] w (fun e w' => e = .returned (.agg (Zo (diag ⟨x1, x2, x3⟩))) ∧ Ex w w') := by
 have hR := Zw.refl w
 go_enter Tryz.func138, Tryz.ntmps138
 go_upto_region 1 with fail
 rw [Ui]
 have hV : Zw w ((w.alloc (.cells #[.int .i64 x1, .int .i64 x2, .int .i64 x3] 32)).alloc (.cells Z48 87)) _ := inferInstance
 clear hR
 simp only [Gu] at hV
 have z1 := hV.boxes.1.lt
 have z2 := hV.boxes.2.1.lt
 have hob : w.heap.size ≤ ((w.alloc (.cells #[.int .i64 x1, .int .i64 x2, .int .i64 x3] 32)).alloc (.cells Z48 87)).heap.size := hV.ex.size
 generalize (w.alloc (.cells #[.int .i64 x1, .int .i64 x2, .int .i64 x3] 32)).alloc (.cells Z48 87) = W0 at *
 have hne : ∀ x ∈ ([(w.heap.size + 1, 87, Z48), (w.heap.size, 32, #[.int .i64 x1, .int .i64 x2, .int .i64 x3])] : List (Nat × TypeId × Array Value)), x.1 ≠ W0.heap.size := by
  intro x hx
  simp only [List.mem_cons, List.not_mem_nil, or_false] at hx
  rcases hx with rfl | rfl
  ·exact Nat.ne_of_lt z1
  ·exact Nat.ne_of_lt z2
 have hS0 : Zw w (W0.alloc (.cells Z48 87)) _ := Zw.alloc (h := hV) (cs := Z48) (t := 87)
 go_upto_region 2 with (refine wpList_store_row rfl _ _ _ rfl _ _ rfl rfl _ _ (Box.new W0 Z48 87) (Ye Xt) rfl Ue ?_)
 rw [Ui]
 replace hS0 := Zw.setRow hS0 hob hne Z48
 generalize (W0.alloc (.cells Z48 87)).setRow W0.heap.size Z48 = W1 at *
 clear hV z1 z2
 go_wp2_with fail
 go_loopw [4] (fun i wr => ∃ k : Nat, i = .int .i64 k ∧ k ≤ 16 ∧ Hid (Zw w wr ((W0.heap.size, 87, Zo (dc ⟨x1, x2, x3⟩ k)) :: [(w.heap.size + 1, 87, Z48), (w.heap.size, 32, #[.int .i64 x1, .int .i64 x2, .int .i64 x3])]))) (fun i _ => 17 - (intOf i).toNat)
 case atStart => exact ⟨0, rfl, by omega, Gv hS0⟩
 case round =>
  clear hS0
  obtain ⟨k, rfl, hk, HS⟩ := hrel
  have hS := HS.out
  by_cases hlt : k < 16
  ·have hI : (k : Int) < 16 := by omega
   have hw5 : IntKind.i64.wrap ((k : Int) + 1) = (k : Int) + 1 := Gp _ (by omega)
   have e5 : (k : Int).tmod 5 = ((k % 5 : Nat) : Int) := rfl
   have hr5 : IntKind.i64.wrap ((k : Int).tmod 5) = (k : Int).tmod 5 := Gp _ (by rw [e5]; omega)
   by_cases h5 : k % 5 = 0
   ·have h5b : (k : Int).tmod 5 = 0 := by rw [e5]; omega
    clear e5
    go_wp2_with (first
     | (refine Ug hS2 hob hne k (by rw [List.length_set, dc_len]; exact hlt) (by rw [Nat.mul_comm 3 k]; rfl) rfl ?_; intro V hV2)
     | (refine Ug hS hob hne k (by rw [dc_len]; exact hlt) (by rw [Nat.mul_comm 3 k]; rfl) rfl ?_; intro V hS2; have hC := hS2.reads; simp only [Zz, Zy] at hC))
    rw [show (((dc ⟨x1, x2, x3⟩ k).set k ⟨0, 0, 1⟩).set k ⟨x1, x2, x3⟩) = dc ⟨x1, x2, x3⟩ (k + 1) from dc_c _ hlt h5] at hV2
    have HV2 := Gv hV2
    clear hV2 hS hS2 hC
    go_roundw
    case rel => exact ⟨k + 1, by go_num, by omega, HV2⟩
    case measure => simp [intOf] <;> omega
   ·have h5b : ¬ (k : Int).tmod 5 = 0 := by rw [e5]; omega
    clear e5
    have h5c : ((k : Int).tmod 5 == 0) = false := by simpa using h5b
    go_wp2_with (refine Ug hS hob hne k (by rw [dc_len]; exact hlt) (by rw [Nat.mul_comm 3 k]; rfl) rfl ?_; intro V hV2)
    rw [show ((dc ⟨x1, x2, x3⟩ k).set k ⟨0, 0, 1⟩) = dc ⟨x1, x2, x3⟩ (k + 1) from dc_nul _ hlt h5] at hV2
    have HV2 := Gv hV2
    clear hV2 hS
    go_roundw
    case rel => exact ⟨k + 1, by go_num, by omega, HV2⟩
    case measure => simp [intOf] <;> omega
  ·obtain rfl : k = 16 := by omega
   have hI : ¬ ((16 : Nat) : Int) < 16 := by omega
   clear hlt HS
   go_upto_region 9 with (refine Ug hS hob hne 0 (by rw [dc_len]; omega) rfl rfl ?_; intro V hV2)
   rw [show ((dc ⟨x1, x2, x3⟩ 16).set 0 ⟨1, 0, 1⟩) = diag ⟨x1, x2, x3⟩ from rfl] at hV2
   have bO := hV2.boxes.1
   have bR := hV2.boxes.2.1
   have hE := hV2.ex
   go_wp2_with (first | (refine wpList_load_row rfl _ _ rfl _ rfl _ _ (0, 0) _ bO Tryz.underlying87 rfl (Ye (by rw [Xy]; rfl)) ?_) | (refine wpList_store_row rfl _ _ _ rfl _ _ rfl rfl _ _ bR (Ye (by rw [Xy]; rfl)) (by rw [Xy]; rfl) (Xv _) ?_))
   exact Gq (Lb Tryz.results138 _ _ _ _ _ (0, 0) _ rfl (bR.setRow _) Tryz.underlying87 rfl (Ye (by rw [Xy]; rfl))) rfl ⟨rfl, hE.setRow (by omega) _⟩
end
section
open Go.RowKit

theorem fade_no {c : Fr} (h : Rg c = false) : Sy c = (Tl 16, false) := by
 unfold Sy
 rw [show rok c = false from h]
 rfl
theorem fade_yes {c : Fr} (h : Rg c = true) : Sy c = (diag c, true) := by
 unfold Sy
 rw [show rok c = true from h]
 rfl
theorem iTableFade (x1 x2 x3 : Int) (w : World) [hG : Yf w] : Calls Tryz.prog 68 #[.agg #[.int .i64 x1, .int .i64 x2, .int .i64 x3]] w (fun e w' => e = .returned (Rs (Sy ⟨x1, x2, x3⟩)) ∧ Ex w w') := by
 have HG := Gv hG
 have k1 := fun w => realOkC x1 x2 x3 w
 have hR := Zw.refl w
 go_enter Tryz.func68, Tryz.ntmps68
 go_upto_region 1 with fail
 rw [Ui]
 have hV : Zw w ((w.alloc (.cells #[.int .i64 x1, .int .i64 x2, .int .i64 x3] 32)).alloc (.cells Z48 87)) _ := inferInstance
 clear hR
 simp only [Gu] at hV
 generalize (w.alloc (.cells #[.int .i64 x1, .int .i64 x2, .int .i64 x3] 32)).alloc (.cells Z48 87) = W0 at *
 have hC := hV.reads
 simp only [Zz, Zy] at hC
 rcases h : Rg ⟨x1, x2, x3⟩ with _ | _
 ·simp only [h] at k1
  have e1 := fade_no h
  clear h
  go_wp2_with fail
  refine (k1 _).mono ?_
  rintro e w1 ⟨rfl, hx⟩
  have hS := Zw.after (h := hV) hx
  clear hC hV
  have hC := hS.reads
  simp only [Zz, Zy] at hC
  have hr := hS.boxes.1
  have hE := hS.ex
  go_wp2_with (refine wpList_store_row rfl _ _ _ rfl _ _ rfl rfl _ _ hr (Ye Xt) rfl Ue ?_)
  refine Gq (Yx Tryz.results68 _ _ _ _ _ (0, 0) _ rfl (hr.setRow _) Tryz.underlying87 rfl (Ye Xt)) rfl ⟨by rw [e1]; rfl, hE.setRow (Nat.le_succ _) _⟩
 ·simp only [h] at k1
  have e1 := fade_yes h
  clear h
  go_wp2_with fail
  refine (k1 _).mono ?_
  rintro e w1 ⟨rfl, hx⟩
  have hS := Zw.after (h := hV) hx
  clear hC hV
  have hC := hS.reads
  simp only [Zz, Zy] at hC
  have hG1 := HG.out.ex hS.ex
  have hg := hG1.reads
  go_wp2_with fail
  refine (iDiagonal x1 x2 x3 _).mono ?_
  rintro e w2 ⟨rfl, hx2⟩
  have hT := Zw.after (h := hS) hx2
  have hr := hT.boxes.1
  have hE := hT.ex
  go_wp2_with (refine wpList_store_row rfl _ _ _ rfl _ _ rfl rfl _ _ hr (Ye (by rw [Xy]; rfl)) (by rw [Xy]; rfl) (Xv _) ?_)
  exact Gq (Yx Tryz.results68 _ _ _ _ _ (0, 0) _ rfl (hr.setRow _) Tryz.underlying87 rfl (Ye (by rw [Xy]; rfl))) rfl ⟨by rw [e1]; rfl, hE.setRow (Nat.le_succ _) _⟩
theorem sTableFade (x1 x2 x3 : Int) (w : World) : Calls Tryz.prog 88 #[.agg #[.int .i64 x1, .int .i64 x2, .int .i64 x3]] w (fun e w' => e = .returned (Rs (Sy ⟨x1, x2, x3⟩)) ∧ Ex w w') := by
 have k1 := fun w => Xw x1 x2 x3 w
 have hR := Zw.refl w
 go_enter Tryz.func88, Tryz.ntmps88
 go_upto_region 1 with fail
 rw [Ui]
 have hV : Zw w ((w.alloc (.cells #[.int .i64 x1, .int .i64 x2, .int .i64 x3] 32)).alloc (.cells Z48 87)) _ := inferInstance
 clear hR
 simp only [Gu] at hV
 generalize (w.alloc (.cells #[.int .i64 x1, .int .i64 x2, .int .i64 x3] 32)).alloc (.cells Z48 87) = W0 at *
 have hC := hV.reads
 simp only [Zz, Zy] at hC
 rcases h : Zh x1 x2 x3 with _ | _
 ·simp only [h] at k1
  have e1 : Sy ⟨x1, x2, x3⟩ = _ := fade_no (by simp [Rg, Fr.valid, h])
  clear h
  go_wp2_with fail
  refine (k1 _).mono ?_
  rintro e w1 ⟨rfl, hx⟩
  have hS := Zw.after (h := hV) hx
  clear hC hV
  have hC := hS.reads
  simp only [Zz, Zy] at hC
  have hr := hS.boxes.1
  have hE := hS.ex
  go_wp2_with (refine wpList_store_row rfl _ _ _ rfl _ _ rfl rfl _ _ hr (Ye Xt) rfl Ue ?_)
  refine Gq (Yx Tryz.results88 _ _ _ _ _ (0, 0) _ rfl (hr.setRow _) Tryz.underlying87 rfl (Ye Xt)) rfl ⟨by rw [e1]; rfl, hE.setRow (Nat.le_succ _) _⟩
 ·simp only [h] at k1
  by_cases h0 : x2 = 0
  ·subst h0
   have e1 : Sy ⟨x1, 0, x3⟩ = _ := fade_yes (by simp [Rg, Fr.valid, h])
   clear h
   go_wp2_with fail
   refine (k1 _).mono ?_
   rintro e w1 ⟨rfl, hx⟩
   have hS := Zw.after (h := hV) hx
   clear hC hV
   have hC := hS.reads
   simp only [Zz, Zy] at hC
   go_wp2_with fail
   refine (Ix x1 0 x3 _).mono ?_
   rintro e w2 ⟨rfl, hx2⟩
   have hT := Zw.after (h := hS) hx2
   have hr := hT.boxes.1
   have hE := hT.ex
   go_wp2_with (refine wpList_store_row rfl _ _ _ rfl _ _ rfl rfl _ _ hr (Ye (by rw [Xy]; rfl)) (by rw [Xy]; rfl) (Xv _) ?_)
   exact Gq (Yx Tryz.results88 _ _ _ _ _ (0, 0) _ rfl (hr.setRow _) Tryz.underlying87 rfl (Ye (by rw [Xy]; rfl))) rfl ⟨by rw [e1]; rfl, hE.setRow (Nat.le_succ _) _⟩
  ·have e1 : Sy ⟨x1, x2, x3⟩ = _ := fade_no (by simp [Rg, Fr.valid, h, h0])
   clear h
   go_wp2_with fail
   refine (k1 _).mono ?_
   rintro e w1 ⟨rfl, hx⟩
   have hS := Zw.after (h := hV) hx
   clear hC hV
   have hC := hS.reads
   simp only [Zz, Zy] at hC
   have hr := hS.boxes.1
   have hE := hS.ex
   go_wp2_with (refine wpList_store_row rfl _ _ _ rfl _ _ rfl rfl _ _ hr (Ye Xt) rfl Ue ?_)
   refine Gq (Yx Tryz.results88 _ _ _ _ _ (0, 0) _ rfl (hr.setRow _) Tryz.underlying87 rfl (Ye Xt)) rfl ⟨by rw [e1]; rfl, hE.setRow (Nat.le_succ _) _⟩
end
section
open Go.RowKit

attribute [local go_sem] Zk Zj
theorem Zw.tl {W w : World} {x : Nat × TypeId × Array Value} {L : List (Nat × TypeId × Array Value)} (h : Zw W w (x :: L)) : Zw W w L := ⟨h.ex, h.boxes.2⟩
theorem Zw.set3 {W w : World} {g : Nat} {t : TypeId} {p q r : Value} {L : List (Nat × TypeId × Array Value)} (h : Zw W w ((g, t, #[p, q, r]) :: L)) (hg : W.heap.size ≤ g) (hne : ∀ x ∈ L, x.1 ≠ g) (x y z : Value) :
  Zw W (((w.setCell ⟨g, 0, none⟩ x).setCell ⟨g, 1, none⟩ y).setCell ⟨g, 2, none⟩ z) ((g, t, #[x, y, z]) :: L) := by
 refine ⟨((h.ex.setCell (p := ⟨g, 0, none⟩) hg x).setCell (p := ⟨g, 1, none⟩) hg y).setCell (p := ⟨g, 2, none⟩) hg z, ?_, ?_⟩
 ·have h2 := ((h.boxes.1.set_ 0 x).set_ 1 y).set_ 2 z
  simpa using h2
 ·have : ∀ {M : List (Nat × TypeId × Array Value)}, (∀ v ∈ M, v.1 ≠ g) → Ym w M → Ym (((w.setCell ⟨g, 0, none⟩ x).setCell ⟨g, 1, none⟩ y).setCell ⟨g, 2, none⟩ z) M := by
   intro M
   induction M with
   | nil => exact fun _ _ => trivial
   | cons v M ih => exact fun hv hB => ⟨((hB.1.far (p := ⟨g, 0, none⟩) (hv _ (.head _)) x).far (p := ⟨g, 1, none⟩) (hv _ (.head _)) y).far (p := ⟨g, 2, none⟩) (hv _ (.head _)) z, ih (fun u hu => hv u (.tail _ hu)) hB.2⟩
  exact this hne h.boxes.2
theorem Ha (v : M4) (w : World) : Calls Tryz.prog 128 #[v.v] w (fun e w' => e = .returned (frb (Vq v)) ∧ Ex w w') := by
 have ksv : ∀ w, Calls Tryz.prog 56 #[v.v] w fun e w' => e = .returned (.bool (Uz v)) ∧ Ex w w' := fun w => Ve v.a v.b v.c v.d w
 have hq : Vq v = if Uz v && (row3 v).2 then ((row3 v).1, true) else (Fr.none, false) := rfl
 unfold row3 at hq
 obtain ⟨⟨a1, a2, a3⟩, ⟨b1, b2, b3⟩, ⟨c1, c2, c3⟩, ⟨d1, d2, d3⟩⟩ := v
 simp only [M4.v] at ksv ⊢
 simp only at hq
 generalize Uz _ = sv at ksv hq
 generalize Vq _ = sq at hq ⊢
 have tb := fun w => Xd ⟨b1, b2, b3⟩ ⟨b1, b2, b3⟩ w
 have tc := fun w => Xd ⟨c1, c2, c3⟩ ⟨c1, c2, c3⟩ w
 have td := fun w => Xd ⟨d1, d2, d3⟩ ⟨d1, d2, d3⟩ w
 have vb := fun h => Lt (a := ⟨b1, b2, b3⟩) (b := ⟨b1, b2, b3⟩) h
 rcases em1 : Zs ⟨b1, b2, b3⟩ ⟨b1, b2, b3⟩ with ⟨⟨p1, p2, p3⟩, kp⟩
 rcases em2 : Zs ⟨c1, c2, c3⟩ ⟨c1, c2, c3⟩ with ⟨⟨q1, q2, q3⟩, kq⟩
 rcases em3 : Zs ⟨d1, d2, d3⟩ ⟨d1, d2, d3⟩ with ⟨⟨r1, r2, r3⟩, kr⟩
 simp only [em1, em2, em3] at hq
 rw [em1] at tb vb
 rw [em2] at tc
 rw [em3] at td
 have a1c := fun w => Qk ⟨0, 0, 1⟩ ⟨p1, p2, p3⟩ w
 have a2c := fun w => Qk ⟨p1, p2, p3⟩ ⟨q1, q2, q3⟩ w
 rcases es1 : Yt ⟨0, 0, 1⟩ ⟨p1, p2, p3⟩ with ⟨⟨u1, u2, u3⟩, ku⟩
 have hu : kp = true → (⟨⟨u1, u2, u3⟩, ku⟩ : Fr × Bool) = (⟨p1, p2, p3⟩, true) := fun h => by rw [← es1]; exact fadd2_nul (vb h)
 rcases es2 : Yt ⟨p1, p2, p3⟩ ⟨q1, q2, q3⟩ with ⟨⟨s1, s2, s3⟩, ks⟩
 simp only [es2] at hq
 have a3c := fun w => Qk ⟨s1, s2, s3⟩ ⟨r1, r2, r3⟩ w
 rcases es3 : Yt ⟨s1, s2, s3⟩ ⟨r1, r2, r3⟩ with ⟨⟨t1, t2, t3⟩, kt⟩
 simp only [es3] at hq
 rw [es1] at a1c
 rw [es2] at a2c
 rw [es3] at a3c
 have kTB : ∀ w, Calls Tryz.prog 60 #[.agg #[.int .i64 b1, .int .i64 b2, .int .i64 b3], .agg #[.int .i64 b1, .int .i64 b2, .int .i64 b3]] w _ := fun w => Yu.spell (tb w)
 have TB := Gv kTB
 have kTC : ∀ w, Calls Tryz.prog 60 #[.agg #[.int .i64 c1, .int .i64 c2, .int .i64 c3], .agg #[.int .i64 c1, .int .i64 c2, .int .i64 c3]] w _ := fun w => Yu.spell (tc w)
 have TC := Gv kTC
 have kTD : ∀ w, Calls Tryz.prog 60 #[.agg #[.int .i64 d1, .int .i64 d2, .int .i64 d3], .agg #[.int .i64 d1, .int .i64 d2, .int .i64 d3]] w _ := fun w => Yu.spell (td w)
 have TD := Gv kTD
 have kA1 : ∀ w, Calls Tryz.prog 100 #[.agg #[.int .i64 0, .int .i64 0, .int .i64 1], .agg #[.int .i64 p1, .int .i64 p2, .int .i64 p3]] w _ := fun w => Yu.spell (a1c w)
 have A1 := Gv kA1
 have kA2 : ∀ w, Calls Tryz.prog 100 #[.agg #[.int .i64 p1, .int .i64 p2, .int .i64 p3], .agg #[.int .i64 q1, .int .i64 q2, .int .i64 q3]] w _ := fun w => Yu.spell (a2c w)
 have A2 := Gv kA2
 have kA3 : ∀ w, Calls Tryz.prog 100 #[.agg #[.int .i64 s1, .int .i64 s2, .int .i64 s3], .agg #[.int .i64 r1, .int .i64 r2, .int .i64 r3]] w _ := fun w => Yu.spell (a3c w)
 have A3 := Gv kA3
 have HQ := Gv hq
 have KS := Gv ksv
 have HU := Gv hu
 clear tb tc td a1c a2c a3c kTB kTC kTD kA1 kA2 kA3 hq ksv em1 em2 em3 es1 es2 es3 hu vb
 have hR := Zw.refl w
 go_enter Tryz.func128, Tryz.ntmps128
 go_upto_region 2 with fail
 have hS : Zw w (((w.alloc (.cells #[.int .i64 a1, .int .i64 a2, .int .i64 a3, .int .i64 b1, .int .i64 b2, .int .i64 b3, .int .i64 c1, .int .i64 c2, .int .i64 c3, .int .i64 d1, .int .i64 d2, .int .i64 d3] 35)).alloc (.cells #[.int .i64 0, .int .i64 0, .int .i64 0] 32)).alloc (.cells #[.int .i64 0, .int .i64 0, .int .i64 1] 32)) _ := inferInstance
 clear hR
 simp only [Gu] at hS
 generalize ((w.alloc (.cells #[.int .i64 a1, .int .i64 a2, .int .i64 a3, .int .i64 b1, .int .i64 b2, .int .i64 b3, .int .i64 c1, .int .i64 c2, .int .i64 c3, .int .i64 d1, .int .i64 d2, .int .i64 d3] 35)).alloc (.cells #[.int .i64 0, .int .i64 0, .int .i64 0] 32)).alloc (.cells #[.int .i64 0, .int .i64 0, .int .i64 1] 32) = W0 at *
 have hC := hS.reads
 simp only [Zz, Zy] at hC
 go_wp2_with fail
 refine (KS.out _).mono ?_
 rintro e w1 ⟨rfl, hx⟩
 replace hS := Zw.after (h := hS) hx
 clear hx hC KS
 have HG : w.heap.size ≤ w.heap.size + 1 + 1 := by omega
 have HNE : Hid (∀ x ∈ ([(w.heap.size + 1, 32, #[.int .i64 0, .int .i64 0, .int .i64 0]), (w.heap.size, 35, #[.int .i64 a1, .int .i64 a2, .int .i64 a3, .int .i64 b1, .int .i64 b2, .int .i64 b3, .int .i64 c1, .int .i64 c2, .int .i64 c3, .int .i64 d1, .int .i64 d2, .int .i64 d3])] : List (Nat × TypeId × Array Value)), x.1 ≠ w.heap.size + 1 + 1) := Gv (by
  intro x hx
  simp only [List.mem_cons, List.not_mem_nil, or_false] at hx
  rcases hx with rfl | rfl
  ·simp only; omega
  ·simp only; omega)
 rcases sv with _ | _
 ·have hC := hS.reads
  simp only [Zz, Zy] at hC
  have hE := hS.ex
  go_wp2_with fail
  refine Gq (v := .tuple #[.agg #[.int .i64 0, .int .i64 0, .int .i64 0], .bool false]) ?_ rfl ⟨by rw [HQ.out]; simp [frb, Fr.none, Fr.v], ?_⟩
  ·simp [results, Tryz.results128, go_sem, hC]
  ·repeat' (with_reducible first | exact hE | exact Ex.refl _ | assumption | apply Ex.alloc | apply Ex.drewN | apply Ex.drew | refine Ex.setCell ?_ (by simp <;> omega) _)
 ·have hC := True.intro
  go_wp2_with fail
  refine wp_loop_rounds 5 ?_
  rw [rounds_succ]
  go_upto_region 7 with fail
  have hS0 := hS
  refine Zn (St := Ex) (B := fun _ w' => InE _ _ w') 12 1 1 _ 32 (fun _ => 6) (fun _ => 29) (fun _ => #[.int .i64 0, .int .i64 0, .int .i64 0]) (fun _ => #[.int .i64 p1, .int .i64 p2, .int .i64 p3]) false (by kernel_rfl) (by kernel_rfl) (InE.drew (InE.start hS0)) (fun x y h1 h2 _ => by omega) (fun x y _ _ => by decide) (fun _ _ h g cs _ hb => hb.ex h) (fun _ _ cs h => h.alloc _) (fun _ _ h => h.size) ?_
  iterate 8 (apply Zx; (· rfl); (· intro b wb hB Q1 hQ1; have hC := hB.sees.reads; simp only [Zz, Zy] at hC; go_wp2_with fail; exact hQ1 _ (Ex.refl _) hB); (· exact ⟨_, rfl⟩))
  (apply Zx; (· rfl); (· intro b wb hB Q1 hQ1; go_wp2_with (go_at_call 60; (with_reducible refine (TB.out _).mono ?_); rintro e wn ⟨rfl, hx⟩); exact hQ1 _ hx (hB.go hx)); (· exact ⟨_, rfl⟩))
  iterate 3 (apply Zx; (· rfl); (· intro b wb hB Q1 hQ1; go_wp2_with fail; exact hQ1 _ (Ex.refl _) hB); (· exact ⟨_, rfl⟩))
  refine Zv ?_
  refine ⟨fun i hi => ?_, fun i hi => ?_, fun i hi => ?_, fun gg wz hz hbx hne => ?_⟩
  ·obtain rfl : i = 0 := by omega
   all_goals exact ⟨_, rfl, Zc⟩
  ·obtain rfl : i = 0 := by omega
   all_goals exact ⟨_, rfl, Zi Za rfl (by kernel_rfl) (fun _ _ _ hg h => h.setRow hg _)⟩
  ·obtain rfl : i = 0 := by omega
   ·exact (show (6 : Nat) < 46 by decide)
  obtain ⟨hg0, hb0⟩ := hbx 0 (by omega)
  replace hS := InE.join hS0 hz
  replace hS := Zw.put hS hb0
  simp only [frN, Act.put, Gt, Gs, Gr, Nat.reduceAdd, List.drop_succ_cons, List.drop_zero]
  generalize gg 0 = g0 at *
  clear hbx hz hS0 hne
  have hC := hS.reads
  simp only [Zz, Zy] at hC
  go_wp2_with fail
  refine (A1.out _).mono ?_
  rintro e w2 ⟨rfl, hx⟩
  replace hS := Zw.after (h := hS) hx
  clear hx hC
  have hC := hS.reads
  simp only [Zz, Zy] at hC
  go_upto_region 9 with fail
  replace hS := Zw.alloc (h := hS) (cs := #[.int .i64 u1, .int .i64 u2, .int .i64 u3]) (t := 32)
  clear hC
  generalize w2.alloc _ = W2 at *
  generalize w2.heap.size = g8 at *
  rcases kp with _ | _
  ·have hC := hS.reads
   simp only [Zz, Zy] at hC
   have hE := hS.ex
   go_wp2_with fail
   refine Gq (v := .tuple #[.agg #[.int .i64 0, .int .i64 0, .int .i64 0], .bool false]) ?_ rfl ⟨by rw [HQ.out]; simp [frb, Fr.none, Fr.v], ?_⟩
   ·simp [results, Tryz.results128, go_sem, hC]
   ·repeat' (with_reducible first | exact hE | exact Ex.refl _ | assumption | apply Ex.alloc | apply Ex.drewN | apply Ex.drew | refine Ex.setCell ?_ (by simp <;> omega) _)
  ·have hu := HU.out rfl
   simp only [Prod.mk.injEq, Fr.mk.injEq] at hu
   obtain ⟨⟨rfl, rfl, rfl⟩, rfl⟩ := hu
   have hS0 := hS
   clear hS
   have hC := hS0.reads
   simp only [Zz, Zy] at hC
   go_wp2_with fail
   have hS := Zw.set3 (Zw.tl (Zw.tl hS0)) HG HNE.out (.int .i64 u1) (.int .i64 u2) (.int .i64 u3)
   clear hS0
   generalize ((W2.setCell ⟨w.heap.size + 1 + 1, 0, none⟩ (.int .i64 u1)).setCell ⟨w.heap.size + 1 + 1, 1, none⟩ (.int .i64 u2)).setCell ⟨w.heap.size + 1 + 1, 2, none⟩ (.int .i64 u3) = W9 at *
   clear hC
   rw [rounds_succ]
   go_upto_region 7 with fail
   have hS0 := hS
   refine Zn (St := Ex) (B := fun _ w' => InE _ _ w') 12 1 1 _ 32 (fun _ => 6) (fun _ => 29) (fun _ => #[.int .i64 0, .int .i64 0, .int .i64 0]) (fun _ => #[.int .i64 q1, .int .i64 q2, .int .i64 q3]) false (by kernel_rfl) (by kernel_rfl) (InE.drew (InE.start hS0)) (fun x y h1 h2 _ => by omega) (fun x y _ _ => by decide) (fun _ _ h g cs _ hb => hb.ex h) (fun _ _ cs h => h.alloc _) (fun _ _ h => h.size) ?_
   iterate 8 (apply Zx; (· rfl); (· intro b wb hB Q1 hQ1; have hC := hB.sees.reads; simp only [Zz, Zy] at hC; go_wp2_with fail; exact hQ1 _ (Ex.refl _) hB); (· exact ⟨_, rfl⟩))
   (apply Zx; (· rfl); (· intro b wb hB Q1 hQ1; go_wp2_with (go_at_call 60; (with_reducible refine (TC.out _).mono ?_); rintro e wn ⟨rfl, hx⟩); exact hQ1 _ hx (hB.go hx)); (· exact ⟨_, rfl⟩))
   iterate 3 (apply Zx; (· rfl); (· intro b wb hB Q1 hQ1; go_wp2_with fail; exact hQ1 _ (Ex.refl _) hB); (· exact ⟨_, rfl⟩))
   refine Zv ?_
   refine ⟨fun i hi => ?_, fun i hi => ?_, fun i hi => ?_, fun gg wz hz hbx hne => ?_⟩
   ·obtain rfl : i = 0 := by omega
    all_goals exact ⟨_, rfl, Zc⟩
   ·obtain rfl : i = 0 := by omega
    all_goals exact ⟨_, rfl, Zi Za rfl (by kernel_rfl) (fun _ _ _ hg h => h.setRow hg _)⟩
   ·obtain rfl : i = 0 := by omega
    ·exact (show (6 : Nat) < 46 by decide)
   obtain ⟨hg0, hb0⟩ := hbx 0 (by omega)
   replace hS := InE.join hS0 hz
   replace hS := Zw.put hS hb0
   simp only [frN, Act.put, Gt, Gs, Gr, Nat.reduceAdd, List.drop_succ_cons, List.drop_zero]
   generalize gg 0 = g0 at *
   clear hbx hz hS0 hne
   have hC := hS.reads
   simp only [Zz, Zy] at hC
   go_wp2_with fail
   refine (A2.out _).mono ?_
   rintro e w2 ⟨rfl, hx⟩
   replace hS := Zw.after (h := hS) hx
   clear hx hC
   have hC := hS.reads
   simp only [Zz, Zy] at hC
   go_upto_region 9 with fail
   replace hS := Zw.alloc (h := hS) (cs := #[.int .i64 s1, .int .i64 s2, .int .i64 s3]) (t := 32)
   clear hC
   generalize w2.alloc _ = W2 at *
   generalize w2.heap.size = g8 at *
   rcases kq with _ | _
   ·have hC := hS.reads
    simp only [Zz, Zy] at hC
    have hE := hS.ex
    go_wp2_with fail
    refine Gq (v := .tuple #[.agg #[.int .i64 0, .int .i64 0, .int .i64 0], .bool false]) ?_ rfl ⟨by rw [HQ.out]; simp [frb, Fr.none, Fr.v], ?_⟩
    ·simp [results, Tryz.results128, go_sem, hC]
    ·repeat' (with_reducible first | exact hE | exact Ex.refl _ | assumption | apply Ex.alloc | apply Ex.drewN | apply Ex.drew | refine Ex.setCell ?_ (by simp <;> omega) _)
   ·rcases ks with _ | _
    ·have hC := hS.reads
     simp only [Zz, Zy] at hC
     have hE := hS.ex
     go_wp2_with fail
     refine Gq (v := .tuple #[.agg #[.int .i64 0, .int .i64 0, .int .i64 0], .bool false]) ?_ rfl ⟨by rw [HQ.out]; simp [frb, Fr.none, Fr.v], ?_⟩
     ·simp [results, Tryz.results128, go_sem, hC]
     ·repeat' (with_reducible first | exact hE | exact Ex.refl _ | assumption | apply Ex.alloc | apply Ex.drewN | apply Ex.drew | refine Ex.setCell ?_ (by simp <;> omega) _)
    ·have hS0 := hS
     clear hS
     have hC := hS0.reads
     simp only [Zz, Zy] at hC
     go_wp2_with fail
     have hS := Zw.set3 (Zw.tl (Zw.tl hS0)) HG HNE.out (.int .i64 s1) (.int .i64 s2) (.int .i64 s3)
     clear hS0
     generalize ((W2.setCell ⟨w.heap.size + 1 + 1, 0, none⟩ (.int .i64 s1)).setCell ⟨w.heap.size + 1 + 1, 1, none⟩ (.int .i64 s2)).setCell ⟨w.heap.size + 1 + 1, 2, none⟩ (.int .i64 s3) = W9 at *
     clear hC
     rw [rounds_succ]
     go_upto_region 7 with fail
     have hS0 := hS
     refine Zn (St := Ex) (B := fun _ w' => InE _ _ w') 12 1 1 _ 32 (fun _ => 6) (fun _ => 29) (fun _ => #[.int .i64 0, .int .i64 0, .int .i64 0]) (fun _ => #[.int .i64 r1, .int .i64 r2, .int .i64 r3]) false (by kernel_rfl) (by kernel_rfl) (InE.drew (InE.start hS0)) (fun x y h1 h2 _ => by omega) (fun x y _ _ => by decide) (fun _ _ h g cs _ hb => hb.ex h) (fun _ _ cs h => h.alloc _) (fun _ _ h => h.size) ?_
     iterate 8 (apply Zx; (· rfl); (· intro b wb hB Q1 hQ1; have hC := hB.sees.reads; simp only [Zz, Zy] at hC; go_wp2_with fail; exact hQ1 _ (Ex.refl _) hB); (· exact ⟨_, rfl⟩))
     (apply Zx; (· rfl); (· intro b wb hB Q1 hQ1; go_wp2_with (go_at_call 60; (with_reducible refine (TD.out _).mono ?_); rintro e wn ⟨rfl, hx⟩); exact hQ1 _ hx (hB.go hx)); (· exact ⟨_, rfl⟩))
     iterate 3 (apply Zx; (· rfl); (· intro b wb hB Q1 hQ1; go_wp2_with fail; exact hQ1 _ (Ex.refl _) hB); (· exact ⟨_, rfl⟩))
     refine Zv ?_
     refine ⟨fun i hi => ?_, fun i hi => ?_, fun i hi => ?_, fun gg wz hz hbx hne => ?_⟩
     ·obtain rfl : i = 0 := by omega
      all_goals exact ⟨_, rfl, Zc⟩
     ·obtain rfl : i = 0 := by omega
      all_goals exact ⟨_, rfl, Zi Za rfl (by kernel_rfl) (fun _ _ _ hg h => h.setRow hg _)⟩
     ·obtain rfl : i = 0 := by omega
      ·exact (show (6 : Nat) < 46 by decide)
     obtain ⟨hg0, hb0⟩ := hbx 0 (by omega)
     replace hS := InE.join hS0 hz
     replace hS := Zw.put hS hb0
     simp only [frN, Act.put, Gt, Gs, Gr, Nat.reduceAdd, List.drop_succ_cons, List.drop_zero]
     generalize gg 0 = g0 at *
     clear hbx hz hS0 hne
     have hC := hS.reads
     simp only [Zz, Zy] at hC
     go_wp2_with fail
     refine (A3.out _).mono ?_
     rintro e w2 ⟨rfl, hx⟩
     replace hS := Zw.after (h := hS) hx
     clear hx hC
     have hC := hS.reads
     simp only [Zz, Zy] at hC
     go_upto_region 9 with fail
     replace hS := Zw.alloc (h := hS) (cs := #[.int .i64 t1, .int .i64 t2, .int .i64 t3]) (t := 32)
     clear hC
     generalize w2.alloc _ = W2 at *
     generalize w2.heap.size = g8 at *
     rcases kr with _ | _
     ·have hC := hS.reads
      simp only [Zz, Zy] at hC
      have hE := hS.ex
      go_wp2_with fail
      refine Gq (v := .tuple #[.agg #[.int .i64 0, .int .i64 0, .int .i64 0], .bool false]) ?_ rfl ⟨by rw [HQ.out]; simp [frb, Fr.none, Fr.v], ?_⟩
      ·simp [results, Tryz.results128, go_sem, hC]
      ·repeat' (with_reducible first | exact hE | exact Ex.refl _ | assumption | apply Ex.alloc | apply Ex.drewN | apply Ex.drew | refine Ex.setCell ?_ (by simp <;> omega) _)
     ·rcases kt with _ | _
      ·have hC := hS.reads
       simp only [Zz, Zy] at hC
       have hE := hS.ex
       go_wp2_with fail
       refine Gq (v := .tuple #[.agg #[.int .i64 0, .int .i64 0, .int .i64 0], .bool false]) ?_ rfl ⟨by rw [HQ.out]; simp [frb, Fr.none, Fr.v], ?_⟩
       ·simp [results, Tryz.results128, go_sem, hC]
       ·repeat' (with_reducible first | exact hE | exact Ex.refl _ | assumption | apply Ex.alloc | apply Ex.drewN | apply Ex.drew | refine Ex.setCell ?_ (by simp <;> omega) _)
      ·have hS0 := hS
       clear hS
       have hC := hS0.reads
       simp only [Zz, Zy] at hC
       go_wp2_with fail
       have hS := Zw.set3 (Zw.tl (Zw.tl hS0)) HG HNE.out (.int .i64 t1) (.int .i64 t2) (.int .i64 t3)
       clear hS0
       generalize ((W2.setCell ⟨w.heap.size + 1 + 1, 0, none⟩ (.int .i64 t1)).setCell ⟨w.heap.size + 1 + 1, 1, none⟩ (.int .i64 t2)).setCell ⟨w.heap.size + 1 + 1, 2, none⟩ (.int .i64 t3) = W9 at *
       clear hC
       rw [rounds_succ]
       have hC := hS.reads
       simp only [Zz, Zy] at hC
       have hE := hS.ex
       go_wp2_with fail
       refine Gq (v := .tuple #[.agg #[.int .i64 t1, .int .i64 t2, .int .i64 t3], .bool true]) ?_ rfl ⟨by rw [HQ.out]; simp [frb, Fr.v], ?_⟩
       ·simp [results, Tryz.results128, go_sem, hC]
       ·repeat' (with_reducible first | exact hE | exact Ex.refl _ | assumption | apply Ex.alloc | apply Ex.drewN | apply Ex.drew | refine Ex.setCell ?_ (by simp <;> omega) _)
end
end Go.Proofs.YtmmjkchjgeklnaaGreatDoor
