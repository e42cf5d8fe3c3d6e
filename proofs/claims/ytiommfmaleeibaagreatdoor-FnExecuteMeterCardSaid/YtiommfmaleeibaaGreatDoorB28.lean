/-
  Proved: what functions compute, part 28. No condition.
-/
import Derived.Test.YtiommfmaleeibaaGreatDoorB24
import Derived.Test.YtiommfmaleeibaaGreatDoorB23
import Derived.Test.YtiommfmaleeibaaGreatDoorB27
import Derived.Test.YtiommfmaleeibaaGreatDoorB25
import Derived.Test.YtiommfmaleeibaaGreatDoorB22
import Derived.Deep.MidRow
import Derived.Test.YtiommfmaleeibaaGreatDoorB12
import Derived.Test.YtiommfmaleeibaaGreatDoorB11
import Derived.Deep.DeepCutAuto
set_option linter.unusedSimpArgs false
set_option linter.unusedVariables false
set_option maxRecDepth 20000
set_option maxHeartbeats 8000000
namespace Go.Proofs.YtiommfmaleeibaaGreatDoor
section
def pshare (ns : List Int) : Fr := (flow (ns.getD 0 0) 0 (ns.getD 1 0)).1
def pmat (k : UInt8) (ns : List Int) : M4 × Bool :=
 if k = 114 then Yt (ns.getD 0 0) (ns.getD 1 0)
 else if k = 119 then Yn (ns.getD 0 0) (ns.getD 1 0) (ns.getD 2 0)
 else if k = 102 then Yb (ns.getD 0 0) (ns.getD 1 0)
 else if k = 97 then (⟨pshare ns, Fr.nul, Fr.nul, pshare ns⟩, true)
 else (M4.none, false)
def Ro (k : UInt8) (ns : List Int) : List Fr × Bool :=
 if k = 100 then Rd (pshare ns) else if (pmat k ns).2 then Xg (pmat k ns).1 else (Wn 16, false)
def brun : List (UInt8 × List Int) → M4 → M4 × Bool
 | [], v => (v, true)
 | p :: ps, v => if (Ro p.1 p.2).2 && (Sc (Ro p.1 p.2).1 v).2 then brun ps (Sc (Ro p.1 p.2).1 v).1 else (M4.none, false)
def Vo (l : List UInt8) (v : M4) : M4 × Bool :=
 match Yd l with
 | some ps => if Rq v then brun ps v else (M4.none, false)
 | none => (M4.none, false)
theorem ptab_len (k : UInt8) (ns : List Int) : (Ro k ns).1.length = 16 := by
 unfold Ro
 split
 ·exact tfade_len _
 ·split
  ·exact Ua _
  ·simp [Wn]
end
section
def Ta (ps : List (UInt8 × List Int)) (i : Nat) (v : M4) (ok : Bool) : M4 × Bool := if ok then brun (ps.drop i) v else (M4.none, false)
theorem brest_step {ps : List (UInt8 × List Int)} {i : Nat} (hi : i < ps.length) (v : M4) (ok : Bool) :
  Ta ps i v ok = Ta ps (i + 1) (Sc (Ro ps[i].1 ps[i].2).1 v).1 (ok && (Ro ps[i].1 ps[i].2).2 && (Sc (Ro ps[i].1 ps[i].2).1 v).2) := by
 unfold Ta
 rw [List.drop_eq_getElem_cons hi]
 cases ok with
 | false => simp
 | true =>
  simp only [Bool.true_and, if_true, brun]
theorem brest_end (ps : List (UInt8 × List Int)) (v : M4) (ok : Bool) : Ta ps ps.length v ok = if ok then (v, true) else (M4.none, false) := by
 unfold Ta
 rw [List.drop_length]
 rfl
theorem breadOf_some {l : List UInt8} {ps : List (UInt8 × List Int)} (h : Yd l = some ps) (v : M4) : Vo l v = Ta ps 0 v (Rq v) := by
 unfold Vo Ta
 rw [h, List.drop_zero]
theorem breadOf_none {l : List UInt8} (h : Yd l = none) (v : M4) : Vo l v = (M4.none, false) := by
 unfold Vo
 rw [h]
theorem Ld : ∀ {ws : List (List UInt8)} {ps : List (UInt8 × List Int)}, Xf Yq ws = some ps → ∀ p ∈ ps, Ws p.1 p.2 = true
 | [], ps, h, p, hp => by
  have : ps = [] := by
   have := Wk h
   exact List.length_eq_zero_iff.1 this
  subst this
  cases hp
 | w :: t, ps, h, p, hp => by
  obtain ⟨b, r, h1, h2, rfl⟩ := Rz h
  rcases List.mem_cons.1 hp with rfl | hp
  ·obtain ⟨_, -, -, hv⟩ := Nb (k := p.1) (ns := p.2) h1
   exact hv
  ·exact Ld h2 p hp
theorem Qd {l : List UInt8} {ps : List (UInt8 × List Int)} (h : Yd l = some ps) : ∀ p ∈ ps, Ws p.1 p.2 = true := by
 by_cases hne : l = []
 ·subst hne
  rw [Na] at h
  injection h with h
  subst h
  intro p hp
  cases hp
 ·exact Ld (Qw h hne).1
end
section
section
variable {σ : Type} (f : UInt8 × List Int → σ → σ × Bool) (z : σ)
def grun : List (UInt8 × List Int) → σ → σ × Bool
 | [], v => (v, true)
 | p :: ps, v => if (f p v).2 then grun ps (f p v).1 else (z, false)
def grest (ps : List (UInt8 × List Int)) (i : Nat) (v : σ) (ok : Bool) : σ × Bool := if ok then grun f z (ps.drop i) v else (z, false)
end
def stepM (p : UInt8 × List Int) (a : M4) : M4 × Bool := ((Yx (pmat p.1 p.2).1 a).1, (pmat p.1 p.2).2 && (Yx (pmat p.1 p.2).1 a).2)
def stepV (p : UInt8 × List Int) (v : Fr × Fr) : (Fr × Fr) × Bool := ((Rh (pmat p.1 p.2).1 v.1 v.2).1, (pmat p.1 p.2).2 && (Rh (pmat p.1 p.2).1 v.1 v.2).2)
def one4 : M4 := ⟨Fr.one, Fr.nul, Fr.nul, Fr.one⟩
def bmatOf (l : List UInt8) : M4 × Bool := match Yd l with
 | some ps => grun stepM M4.none ps one4
 | none => (M4.none, false)
def brunOf (l : List UInt8) (x y : Fr) : (Fr × Fr) × Bool := match Yd l with
 | some ps => if x.valid && y.valid then grun stepV (Fr.none, Fr.none) ps (x, y) else ((Fr.none, Fr.none), false)
 | none => ((Fr.none, Fr.none), false)
def mless (a : M4) : Bool := (Yx a (Vl a).1).2 && decide ((Yx a (Vl a).1).1 = one4)
end
section
open Go.RowKit

attribute [local go_sem] Zi Zh
theorem Yl {P : Program} {ops : Array Oper} {rest : List Oper} {op : Oper} {a : Act} {w : World} {Q : Exit → Act → World → Prop} (hw : Region.wanted op (yielded ops a.tmps) = true) (ty : TypeId) (x : Operand) (ho : op.op = .load ty x)
  (b : Nat) (t : TypeId) (cs : Array Value) (hx : a.eval x = .pointer (some ⟨b, 0, none⟩)) (hb : Box w b t cs) {d : TypeDesc} (hu : P.underlying ty = some d) (hd : d.isRow = true) (hi : (P.info? ty).map (·.size) = some cs.size)
  (h : wpList P ops Q rest (a.put op.dst (.agg cs)) w) : wpList P ops Q (op :: rest) a w := by
 unfold wpList
 rw [if_pos hw]
 refine .inl (wp_load_mid ty x ho b 0 hx cs.toList d (fun j v hv => ?_) hu hd (by rw [Array.length_toList]; exact hi) ?_)
 ·rw [Nat.zero_add, hb.cell j]
  simpa using hv
 ·simpa using h
theorem sTableTimes (a b : List Fr) (ha : a.length = 16) (hb : b.length = 16) (w : World) : Calls Tryz.prog 44 #[.agg (Zs a), .agg (Zs b)] w (fun e w' => e = .returned (Sg (Wd a b)) ∧ Ex w w') := by
 have ka := fun w => Nd a ha w
 have kb := fun w => Nd b hb w
 have hsa : (Zs a).size = 48 := by rw [Ym, ha]
 have hsb : (Zs b).size = 48 := by rw [Ym, hb]
 have HTP : Hid (Wd a b = if Vn a && Vn b && Xo a b 16 then (Xv a b 16, true) else (Wn 16, false)) := Kw rfl
 have KO := Kw (fun r hr w => l6tOf_any a ha r hr w)
 have HTB := Kw (fun k (hk : k < 16) => Ul b k (by omega))
 have HALK := Kw (fun r c => rowS_alk (tg a (4 * r)) (tg a (4 * r + 1)) (tg a (4 * r + 2)) (tg a (4 * r + 3)) (Vu b c).a (Vu b c).b (Vu b c).c (Vu b c).d)
 have KR := Kw (fun (bs : Nat) (e : Bool) (r c : Nat) (w : World) (hb : Box w bs 155 #[.bool (!e)]) => l6tRow_any bs e [tg a (4 * r), tg a (4 * r + 1), tg a (4 * r + 2), tg a (4 * r + 3)] (Vu b c).l rfl rfl w hb)
 generalize hca : Zs a = ac at *
 generalize hcb : Zs b = bc at *
 generalize hta : Vn a = ta at *
 generalize htb : Vn b = tb at *
 have KA := Kw ka
 have KB := Kw kb
 clear ka kb hca hcb hta htb
 have hR := Zw.refl w
 go_enter Tryz.func44, Tryz.ntmps44
 go_upto_region 1 with fail
 rw [Vv]
 have hV : Zw w (((w.alloc (.cells ac 85)).alloc (.cells bc 85)).alloc (.cells Z48 85)) _ := inferInstance
 clear hR
 have hle : w.heap.size ≤ (((w.alloc (.cells ac 85)).alloc (.cells bc 85)).alloc (.cells Z48 85)).heap.size := hV.ex.size
 simp only [Kv] at hV
 generalize ((w.alloc (.cells ac 85)).alloc (.cells bc 85)).alloc (.cells Z48 85) = W0 at *
 have hb1 := hV.boxes.2.2.1
 have hb2 := hV.boxes.2.1
 rcases ta with _ | _
 ·go_upto_region 2 with (first | (refine wpList_load_row rfl _ _ rfl _ rfl _ _ (0, 0) _ hb1 Tryz.underlying85 rfl (Yz hsa) ?_) | (refine Yl (by rfl) _ _ rfl _ _ _ rfl hb2 Tryz.underlying85 rfl (Yz hsb) ?_) | (go_at_call 113; (with_reducible refine (KA.out _).mono ?_); rintro e w1 ⟨rfl, hx⟩; replace hV := Zw.after (W := w) hx; clear hx; replace hb2 := hV.boxes.2.1) | (go_at_call 113; (with_reducible refine (KB.out _).mono ?_); rintro e w1 ⟨rfl, hx⟩; replace hV := Zw.after (W := w) hx; clear hx))
  have hle2 := hV.ex.size
  have bT : Box ((w1.alloc (.cells #[.bool false] 155)).alloc (.cells Z48 85)) (w1.heap.size + 1) 85 Z48 := by
   have := Box.new (w1.alloc (.cells #[.bool false] 155)) Z48 85
   rwa [Kv] at this
  have hb0 := hV.boxes.1
  have hE := hV.ex
  have HTZ : Hid (Wd a b = (Wn 16, false)) := Kw (by rw [HTP.out]; simp)
  go_upto_region 3 with (refine wpList_store_row rfl _ _ _ rfl _ _ rfl rfl _ _ bT (Yz Yp) rfl Wl ?_)
  rw [Vv]
  have hZ : w1.heap.size + 1 ≠ w1.heap.size := by omega
  have hW : w.heap.size + 1 + 1 ≠ w1.heap.size + 1 := by have := hb0.lt; omega
  have bS : Box (((w1.alloc (.cells #[.bool false] 155)).alloc (.cells Z48 85)).setRow (w1.heap.size + 1) Z48) w1.heap.size 155 #[.bool false] := ((Box.new w1 #[.bool false] 155).alloc _).setRow_far (Ne.symm hZ) _
  have bR : Box (((w1.alloc (.cells #[.bool false] 155)).alloc (.cells Z48 85)).setRow (w1.heap.size + 1) Z48) (w.heap.size + 1 + 1) 85 Z48 := ((hb0.alloc _).alloc _).setRow_far hW _
  have hE2 : Ex w (((w1.alloc (.cells #[.bool false] 155)).alloc (.cells Z48 85)).setRow (w1.heap.size + 1) Z48) := ((hE.alloc _).alloc _).setRow (Nat.le_succ_of_le hle2) _
  generalize ((w1.alloc (.cells #[.bool false] 155)).alloc (.cells Z48 85)).setRow (w1.heap.size + 1) Z48 = W5 at *
  have cS := bS.cell
  have zS := bS.lt
  clear bT hb0 hE
  go_wp2_with fail
  refine wp_loop_rounds 1 ?_
  rw [rounds_succ]
  go_wp2_with (refine wpList_store_row rfl _ _ _ rfl _ _ rfl rfl _ _ bR (Yz Yp) rfl Wl ?_)
  exact Kr (Zl Tryz.results44 _ _ _ _ _ (0, 0) _ rfl (bR.setRow _) Tryz.underlying85 rfl (Yz Yp)) rfl ⟨by rw [HTZ.out]; rfl, hE2.setRow (by omega) _⟩
 ·rcases tb with _ | _
  ·go_upto_region 2 with (first | (refine wpList_load_row rfl _ _ rfl _ rfl _ _ (0, 0) _ hb1 Tryz.underlying85 rfl (Yz hsa) ?_) | (refine Yl (by rfl) _ _ rfl _ _ _ rfl hb2 Tryz.underlying85 rfl (Yz hsb) ?_) | (go_at_call 113; (with_reducible refine (KA.out _).mono ?_); rintro e w1 ⟨rfl, hx⟩; replace hV := Zw.after (W := w) hx; clear hx; replace hb2 := hV.boxes.2.1) | (go_at_call 113; (with_reducible refine (KB.out _).mono ?_); rintro e w1 ⟨rfl, hx⟩; replace hV := Zw.after (W := w) hx; clear hx))
   have hle2 := hV.ex.size
   have bT : Box ((w1.alloc (.cells #[.bool false] 155)).alloc (.cells Z48 85)) (w1.heap.size + 1) 85 Z48 := by
    have := Box.new (w1.alloc (.cells #[.bool false] 155)) Z48 85
    rwa [Kv] at this
   have hb0 := hV.boxes.1
   have hE := hV.ex
   have HTZ : Hid (Wd a b = (Wn 16, false)) := Kw (by rw [HTP.out]; simp)
   go_upto_region 3 with (refine wpList_store_row rfl _ _ _ rfl _ _ rfl rfl _ _ bT (Yz Yp) rfl Wl ?_)
   rw [Vv]
   have hZ : w1.heap.size + 1 ≠ w1.heap.size := by omega
   have hW : w.heap.size + 1 + 1 ≠ w1.heap.size + 1 := by have := hb0.lt; omega
   have bS : Box (((w1.alloc (.cells #[.bool false] 155)).alloc (.cells Z48 85)).setRow (w1.heap.size + 1) Z48) w1.heap.size 155 #[.bool false] := ((Box.new w1 #[.bool false] 155).alloc _).setRow_far (Ne.symm hZ) _
   have bR : Box (((w1.alloc (.cells #[.bool false] 155)).alloc (.cells Z48 85)).setRow (w1.heap.size + 1) Z48) (w.heap.size + 1 + 1) 85 Z48 := ((hb0.alloc _).alloc _).setRow_far hW _
   have hE2 : Ex w (((w1.alloc (.cells #[.bool false] 155)).alloc (.cells Z48 85)).setRow (w1.heap.size + 1) Z48) := ((hE.alloc _).alloc _).setRow (Nat.le_succ_of_le hle2) _
   generalize ((w1.alloc (.cells #[.bool false] 155)).alloc (.cells Z48 85)).setRow (w1.heap.size + 1) Z48 = W5 at *
   have cS := bS.cell
   have zS := bS.lt
   clear bT hb0 hE
   go_wp2_with fail
   refine wp_loop_rounds 1 ?_
   rw [rounds_succ]
   go_wp2_with (refine wpList_store_row rfl _ _ _ rfl _ _ rfl rfl _ _ bR (Yz Yp) rfl Wl ?_)
   exact Kr (Zl Tryz.results44 _ _ _ _ _ (0, 0) _ rfl (bR.setRow _) Tryz.underlying85 rfl (Yz Yp)) rfl ⟨by rw [HTZ.out]; rfl, hE2.setRow (by omega) _⟩
  ·simp only [Bool.true_and] at HTP
   go_upto_region 2 with (first | (refine wpList_load_row rfl _ _ rfl _ rfl _ _ (0, 0) _ hb1 Tryz.underlying85 rfl (Yz hsa) ?_) | (refine Yl (by rfl) _ _ rfl _ _ _ rfl hb2 Tryz.underlying85 rfl (Yz hsb) ?_) | (go_at_call 113; (with_reducible refine (KA.out _).mono ?_); rintro e w1 ⟨rfl, hx⟩; replace hV := Zw.after (W := w) hx; clear hx; replace hb2 := hV.boxes.2.1) | (go_at_call 113; (with_reducible refine (KB.out _).mono ?_); rintro e w1 ⟨rfl, hx⟩; replace hV := Zw.after (W := w) hx; clear hx))
   have hle2 := hV.ex.size
   have bT : Box ((w1.alloc (.cells #[.bool true] 155)).alloc (.cells Z48 85)) (w1.heap.size + 1) 85 Z48 := by
    have := Box.new (w1.alloc (.cells #[.bool true] 155)) Z48 85
    rwa [Kv] at this
   have hS0 : Zr w ((w1.alloc (.cells #[.bool true] 155)).alloc (.cells Z48 85)) w1.heap.size true _ := Zr.alloc (h := Zr.start (h := hV))
   simp only [Kv] at hS0
   have z1 := hV.boxes.1.lt
   have z2 := hV.boxes.2.1.lt
   have z3 := hV.boxes.2.2.1.lt
   go_upto_region 3 with (refine wpList_store_row rfl _ _ _ rfl _ _ rfl rfl _ _ bT (Yz Yp) rfl Wl ?_)
   rw [Vv]
   have hne : ∀ x ∈ ([(w.heap.size + 1 + 1, 85, Z48), (w.heap.size + 1, 85, bc), (w.heap.size, 85, ac)] : List (Nat × TypeId × Array Value)), x.1 ≠ w1.heap.size + 1 := by
    intro x hx
    simp only [List.mem_cons, List.not_mem_nil, or_false] at hx
    rcases hx with rfl | rfl | rfl <;> simp only <;> omega
   have hob : w.heap.size ≤ w1.heap.size + 1 := by omega
   replace hS0 := Zr.setRow hS0 hob hne Z48
   generalize ((w1.alloc (.cells #[.bool true] 155)).alloc (.cells Z48 85)).setRow (w1.heap.size + 1) Z48 = W5 at *
   have hS1 : Zr w W5 w1.heap.size true ((w1.heap.size + 1, 85, Zs (Wn 16)) :: [(w.heap.size + 1 + 1, 85, Z48), (w.heap.size + 1, 85, bc), (w.heap.size, 85, ac)]) := by rw [← Z48_eq]; exact hS0
   clear hV hb1 hb2 bT KA KB z1 z2 z3 hS0
   have HS1 := Kw hS1
   clear hS1
   go_wp2_with fail
   go_loopw [8, 9] (fun ii _ wr => ∃ (n : Nat) (l : List Fr), ii = .int .i64 n ∧ n ≤ 16 ∧ l.length = 16 ∧ Hid (Xo a b n = true → l = Xv a b n) ∧ Hid (Zr w wr w1.heap.size (Xo a b n) ((w1.heap.size + 1, 85, Zs l) :: [(w.heap.size + 1 + 1, 85, Z48), (w.heap.size + 1, 85, bc), (w.heap.size, 85, ac)]))) (fun ii _ _ => 17 - (intOf ii).toNat)
   case atStart => exact ⟨0, Wn 16, rfl, by omega, rfl, Kw (fun _ => (Nc a b).symm), HS1⟩
   case round =>
    clear HS1
    obtain ⟨n, l, rfl, hn, hl, HL, HS⟩ := hrel
    rcases hf : Xo a b n with _ | _
    ·have hS := HS.out
     rw [hf] at hS
     have HTZ : Hid (Wd a b = (Wn 16, false)) := Kw (by rw [HTP.out, tcellsK_mono hf hn, if_neg (by simp)])
     have hC := hS.reads
     simp only [Zz, Zy] at hC
     have bR := hS.boxes.2.1
     have hE := hS.rel hle2
     clear HS HL
     by_cases hlt : n < 16
     ·have hI : (n : Int) < 16 := by omega
      go_wp2_with (refine wpList_store_row rfl _ _ _ rfl _ _ rfl rfl _ _ bR (Yz Yp) rfl Wl ?_)
      exact Kr (Zl Tryz.results44 _ _ _ _ _ (0, 0) _ rfl (bR.setRow _) Tryz.underlying85 rfl (Yz Yp)) rfl ⟨by rw [HTZ.out]; rfl, hE.setRow (by omega) _⟩
     ·have hI : ¬ (n : Int) < 16 := by omega
      go_wp2_with (refine wpList_store_row rfl _ _ _ rfl _ _ rfl rfl _ _ bR (Yz Yp) rfl Wl ?_)
      exact Kr (Zl Tryz.results44 _ _ _ _ _ (0, 0) _ rfl (bR.setRow _) Tryz.underlying85 rfl (Yz Yp)) rfl ⟨by rw [HTZ.out]; rfl, hE.setRow (by omega) _⟩
    ·by_cases hlt : n < 16
     ·have hI : (n : Int) < 16 := by omega
      have hwn : IntKind.i64.wrap ((n : Int) + 1) = (n : Int) + 1 := Kq _ (by omega)
      obtain rfl := HL.out hf
      obtain ⟨r, hr⟩ : ∃ r, r = n / 4 := ⟨_, rfl⟩
      obtain ⟨c, hc⟩ : ∃ c, c = n % 4 := ⟨_, rfl⟩
      have hr4 : r < 4 := by omega
      have hc4 : c < 4 := by omega
      have hquo : (n : Int).tdiv 4 = (r : Int) := by rw [hr]; exact (Int.ofNat_tdiv n 4).symm
      have hrem : (n : Int).tmod 4 = (c : Int) := by rw [hc]; exact (Int.ofNat_tmod n 4).symm
      have HTR : Hid (Pe a b n = rowR (tg a (4 * r)) (tg a (4 * r + 1)) (tg a (4 * r + 2)) (tg a (4 * r + 3)) (Vu b c).a (Vu b c).b (Vu b c).c (Vu b c).d) := Kw (by rw [hr, hc]; rfl)
      clear hr hc
      obtain ⟨m1, hm1⟩ : ∃ m : Nat, m = 4 + c := ⟨_, rfl⟩
      obtain ⟨m2, hm2⟩ : ∃ m : Nat, m = 8 + c := ⟨_, rfl⟩
      obtain ⟨m3, hm3⟩ : ∃ m : Nat, m = 12 + c := ⟨_, rfl⟩
      have hw0 : IntKind.i64.wrap (c : Int) = (c : Int) := Kq _ (by omega)
      have hwr : IntKind.i64.wrap (r : Int) = (r : Int) := Kq _ (by omega)
      have hw1 : IntKind.i64.wrap ((c : Int) + 4) = (m1 : Int) := by rw [hm1]; have := Kq ((c : Int) + 4) (by omega); rw [this]; omega
      have hl1 : (m1 : Int) < 16 := by omega
      have hw2 : IntKind.i64.wrap ((c : Int) + 8) = (m2 : Int) := by rw [hm2]; have := Kq ((c : Int) + 8) (by omega); rw [this]; omega
      have hl2 : (m2 : Int) < 16 := by omega
      have hw3 : IntKind.i64.wrap ((c : Int) + 12) = (m3 : Int) := by rw [hm3]; have := Kq ((c : Int) + 12) (by omega); rw [this]; omega
      have hl3 : (m3 : Int) < 16 := by omega
      have hl0 : (c : Int) < 16 := by omega
      have hcol : (Vu b c).l = [tg b c, tg b m1, tg b m2, tg b m3] := by rw [hm1, hm2, hm3]; rfl
      obtain ⟨f0, f1, f2⟩ := HTB.out c (by omega)
      obtain ⟨f3, f4, f5⟩ := HTB.out m1 (by omega)
      obtain ⟨f6, f7, f8⟩ := HTB.out m2 (by omega)
      obtain ⟨f9, fa, fb⟩ := HTB.out m3 (by omega)
      rw [Nat.mul_comm 3 c] at f0 f1 f2
      rw [Nat.mul_comm 3 m1] at f3 f4 f5
      rw [Nat.mul_comm 3 m2] at f6 f7 f8
      rw [Nat.mul_comm 3 m3] at f9 fa fb
      have ko := fun w => KO.out r hr4 w
      have kr := fun e w hb => KR.out w1.heap.size e r c w hb
      have halk := HALK.out r c
      have HSA : Hid (Nw [tg a (4 * r), tg a (4 * r + 1), tg a (4 * r + 2), tg a (4 * r + 3)] (Vu b c).l 4 = rowS (tg a (4 * r)) (tg a (4 * r + 1)) (tg a (4 * r + 2)) (tg a (4 * r + 3)) (Vu b c).a (Vu b c).b (Vu b c).c (Vu b c).d) := Kw (sacc_row _ _ _ _ _ _ _ _)
      simp only [HSA.out] at kr
      rw [← HTR.out] at halk
      generalize rowS (tg a (4 * r)) (tg a (4 * r + 1)) (tg a (4 * r + 2)) (tg a (4 * r + 3)) (Vu b c).a (Vu b c).b (Vu b c).c (Vu b c).d = sr at kr halk
      clear HSA HTR
      generalize Zs [tg a (4 * r), tg a (4 * r + 1), tg a (4 * r + 2), tg a (4 * r + 3)] = rc at ko kr
      rw [hcol] at kr
      clear hcol hm1 hm2 hm3
      generalize tg b c = x0 at *
      obtain ⟨x1, x2, x3⟩ := x0
      generalize tg b m1 = y0 at *
      obtain ⟨y1, y2, y3⟩ := y0
      generalize tg b m2 = z0 at *
      obtain ⟨z1, z2, z3⟩ := z0
      generalize tg b m3 = u0 at *
      obtain ⟨u1, u2, u3⟩ := u0
      simp only at f0 f1 f2 f3 f4 f5 f6 f7 f8 f9 fa fb
      rw [show Zs [⟨x1, x2, x3⟩, ⟨y1, y2, y3⟩, ⟨z1, z2, z3⟩, ⟨u1, u2, u3⟩] = #[.int .i64 x1, .int .i64 x2, .int .i64 x3, .int .i64 y1, .int .i64 y2, .int .i64 y3, .int .i64 z1, .int .i64 z2, .int .i64 z3, .int .i64 u1, .int .i64 u2, .int .i64 u3] from rfl] at kr
      obtain ⟨⟨q1, q2, q3⟩, kq⟩ := sr
      unfold Alk at halk
      simp only at halk
      have KO2 := Kw ko
      have KR2 := Kw kr
      have HAL := Kw halk
      clear ko kr halk HL
      have hS := HS.out
      rw [hf] at hS
      clear HS
      have hC := hS.reads
      simp only [Zz, Zy] at hC
      go_upto_region 7 with fail
      clear hC
      replace hS : Zr w wr w1.heap.size (!false || kq) _ := hS
      refine Zd (St := fun _ _ => True) 29 false (B := fun b2 w2 => Zr w w2 w1.heap.size (!b2 || kq) ((w1.heap.size + 1, 85, Zs (Xv a b n)) :: [(w.heap.size + 1 + 1, 85, Z48), (w.heap.size + 1, 85, bc), (w.heap.size, 85, ac)])) (by kernel_rfl) (by kernel_rfl) (hS.drewW) (by exact fun _ _ _ _ _ h => h) ?_
      iterate 5 (apply Zx; (· rfl); (· intro b wb hB Q1 hQ1; go_wp2_with (refine wpList_load_row rfl _ _ rfl _ rfl _ _ (0, 0) _ hB.boxes.2.2.2.1 Tryz.underlying85 rfl (Yz hsa) ?_); exact hQ1 _ trivial hB); (· exact ⟨_, rfl⟩))
      (apply Zx; (· rfl); (· intro b wb hB Q1 hQ1; go_wp2_with (go_at_call 45; (with_reducible refine (KO2.out _).mono ?_); rintro e1 wn ⟨rfl, hx⟩); exact hQ1 _ trivial (hB.ex hx)); (· exact ⟨_, rfl⟩))
      iterate 20 (apply Zx; (· rfl); (· intro b wb hB Q1 hQ1; have hC := hB.reads; simp only [Zz, Zy] at hC; go_wp2_with fail; exact hQ1 _ trivial hB); (· exact ⟨_, rfl⟩))
      apply Zp (d := true)
      ·rfl
      ·intro b2 wb hB Q1 hQ1
       have hB2 : Zr w wb w1.heap.size (!(b2 && !kq)) ((w1.heap.size + 1, 85, Zs (Xv a b n)) :: [(w.heap.size + 1 + 1, 85, Z48), (w.heap.size + 1, 85, bc), (w.heap.size, 85, ac)]) := by
        have e : (!b2 || kq) = !(b2 && !kq) := by cases b2 <;> cases kq <;> rfl
        rw [← e]
        exact hB
       go_wp2_with (go_at_call 114; (with_reducible refine (KR2.out (b2 && !kq) _ hB2.sum).mono ?_); rintro e1 wm ⟨rfl, hs1, hb1⟩)
       have hN := Zr.call hB2 hs1 hb1
       have e : (!(b2 && !kq) && kq) = (!(b2 || true) || kq) := by cases b2 <;> cases kq <;> rfl
       rw [e] at hN
       exact hQ1 _ trivial hN
      ·exact ⟨_, rfl⟩
      iterate 2 (apply Zx; (· rfl); (· intro b wb hB Q1 hQ1; go_wp2_with fail; exact hQ1 _ trivial hB); (· exact ⟨_, rfl⟩))
      refine Zq ?_
      intro wz hz
      replace hz : Zr w wz w1.heap.size (true && kq) _ := hz
      go_wp2_with (refine Yo hz hob hne n (by rw [Vg]; exact hlt) (by rw [Nat.mul_comm 3 n]; rfl) rfl ?_; intro V hV2)
      have e2 : (true && kq) = Xo a b (n + 1) := by simp [Xo, hf, HAL.out.1]
      rw [e2] at hV2
      have HL3 : Hid (Xo a b (n + 1) = true → (Xv a b n).set n ⟨q1, q2, q3⟩ = Xv a b (n + 1)) := Kw fun h => by
        have h2 : (Pe a b n).2 = true := by simpa [Xo, hf] using h
        rw [HAL.out.2 h2]
        exact Lj a b n hlt
      have HV2 := Kw hV2
      clear hV2 e2 hS hz
      go_roundw
      case rel => exact ⟨n + 1, _, by go_num, by omega, by rw [List.length_set]; exact Vg a b n, HL3, HV2⟩
      case measure => simp [intOf] <;> omega
     ·obtain rfl : n = 16 := by omega
      have hI : ¬ ((16 : Nat) : Int) < 16 := by omega
      obtain rfl := HL.out hf
      have hS := HS.out
      rw [hf] at hS
      have HTY : Hid (Wd a b = (Xv a b 16, true)) := Kw (by rw [HTP.out, hf, if_pos rfl])
      have hts : (Zs (Xv a b 16)).size = 48 := by rw [Ym, Vg]
      have hto := Yw (Xv a b 16)
      have hC := hS.reads
      simp only [Zz, Zy] at hC
      have bR := hS.boxes.2.1
      have bT := hS.boxes.1
      have hE := hS.rel hle2
      clear HS HL
      skip
      go_wp2_with (first | (refine wpList_load_row rfl _ _ rfl _ rfl _ _ (0, 0) _ bT Tryz.underlying85 rfl (Yz hts) ?_) | (refine wpList_store_row rfl _ _ _ rfl _ _ rfl rfl _ _ bR (Yz hts) (by rw [hts]; rfl) hto ?_))
      exact Kr (Zl Tryz.results44 _ _ _ _ _ (0, 0) _ rfl (bR.setRow _) Tryz.underlying85 rfl (Yz hts)) rfl ⟨by rw [HTY.out]; rfl, hE.setRow (by omega) _⟩
end
section
open Go.RowKit

attribute [local go_sem] Zi Zh
theorem Zt.setRowT {W w : World} {bs g : Nat} {b : Bool} {t : TypeId} {y : Array Value} {L : List (Nat × TypeId × Array Value)} (h : Zt W w bs b ((g, t, y) :: L)) (hg : W.heap.size ≤ g) (hne : ∀ x ∈ L, x.1 ≠ g) (x : Array Value) : Zt W (w.setRow g x) bs b ((g, t, x) :: L) :=
 ⟨h.sm.setRow hg x, h.sum.setRow_far (Ne.symm (h.far _ (.head _))) x, ⟨h.boxes.1.setRow x, Uf hne h.boxes.2⟩, fun v hv => by
  rcases List.mem_cons.1 hv with rfl | hv
  ·exact h.far (g, t, y) (.head _)
  ·exact h.far v (.tail _ hv)⟩
theorem iTableTimes (a b : List Fr) (ha : a.length = 16) (hb : b.length = 16) (w : World) : Calls Tryz.prog 40 #[.agg (Zs a), .agg (Zs b)] w (fun e w' => e = .returned (Sg (Wd a b)) ∧ Ex w w') := by
 have ka := fun w => Rb a ha w
 have kb := fun w => Rb b hb w
 have hsa : (Zs a).size = 48 := by rw [Ym, ha]
 have hsb : (Zs b).size = 48 := by rw [Ym, hb]
 have HTP : Hid (Wd a b = if Vn a && Vn b && Xo a b 16 then (Xv a b 16, true) else (Wn 16, false)) := Kw rfl
 have HTA := Kw (fun k (hk : k < 16) => Ul a k (by omega))
 have HTB := Kw (fun k (hk : k < 16) => Ul b k (by omega))
 generalize hca : Zs a = ac at *
 generalize hcb : Zs b = bc at *
 generalize hta : Vn a = ta at *
 generalize htb : Vn b = tb at *
 have KA := Kw ka
 have KB := Kw kb
 clear ka kb hca hcb hta htb
 have hR := Zw.refl w
 go_enter Tryz.func40, Tryz.ntmps40
 go_upto_region 1 with fail
 rw [Vv]
 have hV : Zw w (((w.alloc (.cells ac 85)).alloc (.cells bc 85)).alloc (.cells Z48 85)) _ := inferInstance
 clear hR
 have hle : w.heap.size ≤ (((w.alloc (.cells ac 85)).alloc (.cells bc 85)).alloc (.cells Z48 85)).heap.size := hV.ex.size
 simp only [Kv] at hV
 generalize ((w.alloc (.cells ac 85)).alloc (.cells bc 85)).alloc (.cells Z48 85) = W0 at *
 have hW : Zt w (W0.alloc (.cells #[.bool false] 92)) W0.heap.size false _ := Zt.start (h := hV)
 go_cut [6] (fun s wx => s = .pointer (some ⟨W0.heap.size, 0, none⟩) ∧ Zt w wx W0.heap.size (!(ta && tb)) [(w.heap.size + 1 + 1, 85, Z48), (w.heap.size + 1, 85, bc), (w.heap.size, 85, ac)])
 case first =>
  rcases ta with _ | _
  ·go_wp2_with (first | (refine wpList_load_row rfl _ _ rfl _ rfl _ _ (0, 0) _ hW.boxes.2.2.1 Tryz.underlying85 rfl (Yz hsa) ?_) | (refine Yl (by rfl) _ _ rfl _ _ _ rfl hW.boxes.2.1 Tryz.underlying85 rfl (Yz hsb) ?_) | (go_at_call 101; (with_reducible refine (KA.out _).mono ?_); rintro e w1 ⟨rfl, hx⟩; replace hW := Zt.ex hW hx; clear hx) | (go_at_call 101; (with_reducible refine (KB.out _).mono ?_); rintro e w2 ⟨rfl, hx⟩; replace hW := Zt.ex hW hx; clear hx) | (go_at_call 46; (with_reducible refine (Uz _ _ _ _ hW.sum).mono ?_); rintro e w3 ⟨rfl, hs, hb⟩; have hN := Zt.call hW hs hb))
   go_meet
   exact ⟨rfl, hN⟩
  ·rcases tb with _ | _
   ·go_wp2_with (first | (refine wpList_load_row rfl _ _ rfl _ rfl _ _ (0, 0) _ hW.boxes.2.2.1 Tryz.underlying85 rfl (Yz hsa) ?_) | (refine Yl (by rfl) _ _ rfl _ _ _ rfl hW.boxes.2.1 Tryz.underlying85 rfl (Yz hsb) ?_) | (go_at_call 101; (with_reducible refine (KA.out _).mono ?_); rintro e w1 ⟨rfl, hx⟩; replace hW := Zt.ex hW hx; clear hx) | (go_at_call 101; (with_reducible refine (KB.out _).mono ?_); rintro e w2 ⟨rfl, hx⟩; replace hW := Zt.ex hW hx; clear hx) | (go_at_call 46; (with_reducible refine (Uz _ _ _ _ hW.sum).mono ?_); rintro e w3 ⟨rfl, hs, hb⟩; have hN := Zt.call hW hs hb))
    go_meet
    exact ⟨rfl, hN⟩
   ·go_wp2_with (first | (refine wpList_load_row rfl _ _ rfl _ rfl _ _ (0, 0) _ hW.boxes.2.2.1 Tryz.underlying85 rfl (Yz hsa) ?_) | (refine Yl (by rfl) _ _ rfl _ _ _ rfl hW.boxes.2.1 Tryz.underlying85 rfl (Yz hsb) ?_) | (go_at_call 101; (with_reducible refine (KA.out _).mono ?_); rintro e w1 ⟨rfl, hx⟩; replace hW := Zt.ex hW hx; clear hx) | (go_at_call 101; (with_reducible refine (KB.out _).mono ?_); rintro e w2 ⟨rfl, hx⟩; replace hW := Zt.ex hW hx; clear hx) | (go_at_call 46; (with_reducible refine (Uz _ _ _ _ hW.sum).mono ?_); rintro e w3 ⟨rfl, hs, hb⟩; have hN := Zt.call hW hs hb))
    go_meet
    exact ⟨rfl, hN⟩
 case rest =>
  obtain ⟨rfl, hS⟩ := hcut
  clear hW hV KA KB
  have hS1 := Zt.alloc (h := hS) (cs := Z48) (t := 85)
  have hob : w.heap.size ≤ wc.heap.size := hS.sm.size
  have z1 := hS.boxes.1.lt
  have z2 := hS.boxes.2.1.lt
  have z3 := hS.boxes.2.2.1.lt
  have hne : ∀ x ∈ ([(w.heap.size + 1 + 1, 85, Z48), (w.heap.size + 1, 85, bc), (w.heap.size, 85, ac)] : List (Nat × TypeId × Array Value)), x.1 ≠ wc.heap.size := by
   intro x hx
   simp only [List.mem_cons, List.not_mem_nil, or_false] at hx
   rcases hx with rfl | rfl | rfl
   ·exact Nat.ne_of_lt z1
   ·exact Nat.ne_of_lt z2
   ·exact Nat.ne_of_lt z3
  have bT := hS1.boxes.1
  go_upto_region 3 with (refine wpList_store_row rfl _ _ _ rfl _ _ rfl rfl _ _ bT (Yz Yp) rfl Wl ?_)
  rw [Vv]
  replace hS1 := Zt.setRowT hS1 hob hne Z48
  generalize (wc.alloc (.cells Z48 85)).setRow wc.heap.size Z48 = W1 at *
  have hS2 : Zt w W1 W0.heap.size (!(ta && tb)) ((wc.heap.size, 85, Zs (Xv a b 0)) :: [(w.heap.size + 1 + 1, 85, Z48), (w.heap.size + 1, 85, bc), (w.heap.size, 85, ac)]) := by rw [Nc, ← Z48_eq]; exact hS1
  clear hS hS1 z1 z2 z3 bT
  have HS2 := Kw hS2
  clear hS2
  go_wp2_with fail
  go_loopw [22, 8, 9, 10, 11] (fun i _ _ _ _ wr => ∃ r : Nat, i = .int .i64 r ∧ r ≤ 4 ∧ Hid (Zt w wr W0.heap.size (!(ta && tb && Xo a b (4 * r))) ((wc.heap.size, 85, Zs (Xv a b (4 * r))) :: [(w.heap.size + 1 + 1, 85, Z48), (w.heap.size + 1, 85, bc), (w.heap.size, 85, ac)]))) (fun i _ _ _ _ _ => 5 - (intOf i).toNat)
  case atStart => exact ⟨0, rfl, by omega, by simpa [Xo] using HS2⟩
  case round =>
   clear HS2
   obtain ⟨r, rfl, hr, HS⟩ := hrel
   by_cases hlt : r < 4
   ·have hI : (r : Int) < 4 := by omega
    have hwr : IntKind.i64.wrap ((r : Int) + 1) = (r : Int) + 1 := Kq _ (by omega)
    have HS3 : Hid (Zt w wr W0.heap.size (!(ta && tb && Xo a b (4 * r + 0))) ((wc.heap.size, 85, Zs (Xv a b (4 * r + 0))) :: [(w.heap.size + 1 + 1, 85, Z48), (w.heap.size + 1, 85, bc), (w.heap.size, 85, ac)])) := HS
    clear HS
    go_wp2_with fail
    go_loopw [25, 9, 10, 11] (fun i _ _ _ wx => ∃ c : Nat, i = .int .i64 c ∧ c ≤ 4 ∧ Hid (Zt w wx W0.heap.size (!(ta && tb && Xo a b (4 * r + c))) ((wc.heap.size, 85, Zs (Xv a b (4 * r + c))) :: [(w.heap.size + 1 + 1, 85, Z48), (w.heap.size + 1, 85, bc), (w.heap.size, 85, ac)]))) (fun i _ _ _ _ => 5 - (intOf i).toNat)
    case atStart => exact ⟨0, rfl, by omega, HS3⟩
    case round =>
     clear HS3
     obtain ⟨c, rfl, hc, HS⟩ := hrel
     by_cases hlc : c < 4
     ·have hIc : (c : Int) < 4 := by omega
      have hwc : IntKind.i64.wrap ((c : Int) + 1) = (c : Int) + 1 := Kq _ (by omega)
      obtain ⟨m0, hm0⟩ : ∃ m0 : Nat, m0 = 4 * r := ⟨_, rfl⟩
      have hw0 : IntKind.i64.wrap (4 * (r : Int)) = (m0 : Int) := by rw [hm0]; have := Kq (4 * (r : Int)) (by omega); rw [this]; omega
      have hm1 : (m0 : Int) < 16 := by omega
      have hc16 : (c : Int) < 16 := by omega
      obtain ⟨f0, f1, f2⟩ := HTA.out m0 (by omega)
      obtain ⟨g0, g1, g2⟩ := HTB.out c (by omega)
      have HR0 : Hid (Uy a r (Vu b c) 0 = Zu (tg a m0) (tg b c)) := Kw (by rw [hm0]; rfl)
      have HRS : Hid (∀ k m p, m = 4 * r + (k + 1) → p = 4 * (k + 1) + c → k + 1 < 4 → Uy a r (Vu b c) (k + 1) = ((Za (Uy a r (Vu b c) k).1 (Zu (tg a m) (tg b p)).1).1, (Uy a r (Vu b c) k).2 && (Zu (tg a m) (tg b p)).2 && (Za (Uy a r (Vu b c) k).1 (Zu (tg a m) (tg b p)).1).2)) := Kw (fun k m p e e2 hk => by subst e e2; rw [← tcol_at b c (k + 1) hk]; rfl)
      have HR3 : Hid (Pe a b (4 * r + c) = Uy a r (Vu b c) 3) := Kw (by rw [tcell_rc a b r c hlc]; exact (Ll a r (Vu b c)).symm)
      obtain ⟨N, HN⟩ : ∃ N, Hid (N = 4 * r + c) := ⟨_, Kw rfl⟩
      rw [← HN.out] at HS HR3
      rw [Nat.mul_comm 3 m0] at f0 f1 f2
      rw [Nat.mul_comm 3 c] at g0 g1 g2
      generalize tg a m0 = x at f0 f1 f2 HR0
      generalize tg b c = y at g0 g1 g2 HR0
      obtain ⟨x1, x2, x3⟩ := x
      obtain ⟨y1, y2, y3⟩ := y
      simp only at f0 f1 f2 g0 g1 g2
      rcases h0 : Zu ⟨x1, x2, x3⟩ ⟨y1, y2, y3⟩ with ⟨⟨a1, a2, a3⟩, ka⟩
      have HA0 : Hid (Uy a r (Vu b c) 0 = (⟨a1, a2, a3⟩, ka)) := Kw (HR0.out.trans h0)
      have H0 := Kw h0
      clear h0 HR0
      obtain ⟨fl, HFL⟩ : ∃ fl, Hid (fl = !(ta && tb && Xo a b N)) := ⟨_, Kw rfl⟩
      have hS := HS.out
      rw [← HFL.out] at hS
      clear HS
      have HM0 := Kw hm0
      have HLT := Kw (Yr.old hS.boxes)
      have hws := hS.sm.size
      clear hm0
      go_upto_region 9 with fail
      have hS0 := hS
      have hbs0 := hS0.sum.lt
      refine Zm (St := Sm W0.heap.size) (B := fun b w' => InS _ W0.heap.size _ b w') 11 1 0 _ 30 (fun _ => 10) (fun _ => 38) (fun _ => #[.int .i64 0, .int .i64 0, .int .i64 0]) (fun _ => #[.int .i64 a1, .int .i64 a2, .int .i64 a3]) _ (by kernel_rfl) (by kernel_rfl) (InS.drew (InS.start hS0)) (fun x y h1 h2 _ => by omega) (fun x y _ _ => by decide) (fun _ _ h g cs hg hb => h.box _ _ _ (Nat.ne_of_gt (Nat.lt_of_lt_of_le hbs0 hg)) hb) (fun _ _ cs h => h.alloc _) (fun _ _ h => h.size) ?_
      iterate 10 (apply Zx; (· rfl); (· intro b wb hB Q1 hQ1; have hS := hB.sees; have hC := hS.reads; simp only [Zz, Zy] at hC; go_wp2_with fail; exact hQ1 _ (Sm.refl _ _) hB); (· exact ⟨_, rfl⟩))
      (apply Zp; (· rfl); (· intro b wb hB Q1 hQ1; go_wp2_with (go_at_call 49; (with_reducible refine (Ye hB.sees H0.out).mono ?_); rintro e wn ⟨rfl, hN, hM⟩); exact hQ1 _ hM (hB.call hN)); (· exact ⟨_, rfl⟩))
      refine Zq ?_
      refine ⟨fun i hi => ?_, fun i hi => ?_, fun i hi => ?_, fun gg wz hz hbx hne => ?_⟩
      ·obtain rfl : i = 0 := by omega
       all_goals exact ⟨_, rfl, Zb⟩
      ·obtain rfl : i = 0 := by omega
       all_goals exact ⟨_, rfl, Zf Yv rfl (by kernel_rfl) (fun _ _ _ hg h => h.setRow hg _)⟩
      ·obtain rfl : i = 0 := by omega
       ·exact (show (10 : Nat) < 76 by decide)
      obtain ⟨hq0, hp0⟩ := hbx 0 (by omega)
      replace hS := InS.join hS0 hz
      replace hS := Zt.put hS hp0 (by omega)
      simp only [frN, Act.put, Ku, Kt, Ks, Nat.reduceAdd, List.drop_succ_cons, List.drop_zero]
      generalize gg 0 = ga at *
      clear hbx hz hS0 hne
      simp only at hS
      have HNE := Kw (fun x hx => Nat.ne_of_lt (Nat.lt_of_lt_of_le (HLT.out x hx) hq0))
      have hgw : w.heap.size ≤ ga := Nat.le_trans hws hq0
      clear hws HLT hq0 hp0 f0 f1 f2 g0 g1 g2 hw0 hm1
      go_wp2_with fail
      go_loopw [11] (fun kk wy => ∃ k : Nat, kk = .int .i64 k ∧ 1 ≤ k ∧ k ≤ 4 ∧ ∃ a1 a2 a3 ka, Hid (Uy a r (Vu b c) (k - 1) = (⟨a1, a2, a3⟩, ka)) ∧ Hid (Zt w wy W0.heap.size (fl || !ka) ((ga, 30, #[.int .i64 a1, .int .i64 a2, .int .i64 a3]) :: (wc.heap.size, 85, Zs (Xv a b N)) :: [(w.heap.size + 1 + 1, 85, Z48), (w.heap.size + 1, 85, bc), (w.heap.size, 85, ac)]))) (fun kk _ => 5 - (intOf kk).toNat)
      case atStart => exact ⟨1, rfl, by omega, by omega, a1, a2, a3, ka, HA0, Kw hS⟩
      case round =>
       clear hS HA0 H0
       obtain ⟨k, rfl, hk1, hk4, b1, b2, b3, kb, HB, HS⟩ := hrel
       by_cases hk : k < 4
       ·have hkI : (k : Int) < 4 := by omega
        obtain ⟨m, hm⟩ : ∃ m : Nat, m = 4 * r + k := ⟨_, rfl⟩
        obtain ⟨p, hp⟩ : ∃ p : Nat, p = 4 * k + c := ⟨_, rfl⟩
        have hw0 : IntKind.i64.wrap (4 * (r : Int)) = 4 * (r : Int) := Kq _ (by omega)
        have hw1 : IntKind.i64.wrap (4 * (r : Int) + (k : Int)) = (m : Int) := by rw [hm]; have := Kq (4 * (r : Int) + (k : Int)) (by omega); rw [this]; omega
        have hw2 : IntKind.i64.wrap (4 * (k : Int)) = 4 * (k : Int) := Kq _ (by omega)
        have hw3 : IntKind.i64.wrap (4 * (k : Int) + (c : Int)) = (p : Int) := by rw [hp]; have := Kq (4 * (k : Int) + (c : Int)) (by omega); rw [this]; omega
        have hwk : IntKind.i64.wrap ((k : Int) + 1) = (k : Int) + 1 := Kq _ (by omega)
        have hm1 : (m : Int) < 16 := by omega
        have hp1 : (p : Int) < 16 := by omega
        obtain ⟨f0, f1, f2⟩ := HTA.out m (by omega)
        obtain ⟨g3, g4, g5⟩ := HTB.out p (by omega)
        have HK := Kw (HRS.out (k - 1) m p (by omega) (by omega) (by omega))
        have hkk : k - 1 + 1 = k := by omega
        rw [hkk] at HK
        rw [HB.out] at HK
        rw [Nat.mul_comm 3 m] at f0 f1 f2
        rw [Nat.mul_comm 3 p] at g3 g4 g5
        generalize tg a m = x at f0 f1 f2 HK
        generalize tg b p = y at g3 g4 g5 HK
        obtain ⟨x1, x2, x3⟩ := x
        obtain ⟨y1, y2, y3⟩ := y
        simp only at f0 f1 f2 g3 g4 g5 HK
        rcases h1 : Zu ⟨x1, x2, x3⟩ ⟨y1, y2, y3⟩ with ⟨⟨p1, p2, p3⟩, kp⟩
        rw [h1] at HK
        simp only at HK
        rcases h2 : Za ⟨b1, b2, b3⟩ ⟨p1, p2, p3⟩ with ⟨⟨s1, s2, s3⟩, ks⟩
        rw [h2] at HK
        simp only at HK
        have H1 := Kw h1
        have H2 := Kw h2
        clear h1 h2 hm hkk hp
        have hS := HS.out
        clear HS
        go_upto_region 13 with fail
        refine Zd (St := fun _ _ => True) 18 _ (B := fun b w2 => Zt w w2 W0.heap.size b _) (by kernel_rfl) (by kernel_rfl) (hS.drewW) (by exact fun _ _ _ _ _ h => h) ?_
        iterate 17 (apply Zx; (· rfl); (· intro b wb hB Q1 hQ1; have hS := hB; have hC := hS.reads; simp only [Zz, Zy] at hC; go_wp2_with fail; exact hQ1 _ trivial hB); (· exact ⟨_, rfl⟩))
        (apply Zp; (· rfl); (· intro b wb hB Q1 hQ1; go_wp2_with (go_at_call 49; (with_reducible refine (Ye hB H1.out).mono ?_); rintro e wn ⟨rfl, hN, hM⟩); exact hQ1 _ trivial hN); (· exact ⟨_, rfl⟩))
        refine Zq ?_
        intro wz2 hz2
        clear hS
        have hC := hz2.reads
        simp only [Zz, Zy] at hC
        go_wp2_with (go_at_call 53; (with_reducible refine (Mr hz2 H2.out).mono ?_); rintro e wm ⟨rfl, hN, -⟩; have hC := hN.reads; simp only [Zz, Zy] at hC)
        have hS5 := Zt.set3 hN hgw HNE.out (.int .i64 s1) (.int .i64 s2) (.int .i64 s3)
        have ef : (fl || !kb || !kp || !ks) = (fl || !(kb && kp && ks)) := by simp [Bool.or_assoc]
        rw [ef] at hS5
        have HS5 := Kw hS5
        clear hS5 hN hC ef
        go_roundw
        case rel => exact ⟨k + 1, by go_num, by omega, by omega, s1, s2, s3, (kb && kp && ks), HK, HS5⟩
        case measure => simp [intOf] <;> omega
       ·obtain rfl : k = 4 := by omega
        have hS := HS.out
        have hT := Zt.tail hS
        have hC := hS.reads
        simp only [Zz, Zy] at hC
        have HTR : Hid (Pe a b N = (⟨b1, b2, b3⟩, kb)) := Kw (HR3.out.trans HB.out)
        have hkI : ¬ ((4 : Nat) : Int) < 4 := by omega
        have hw0 : IntKind.i64.wrap (4 * (r : Int)) = 4 * (r : Int) := Kq _ (by omega)
        have hw1 : IntKind.i64.wrap (4 * (r : Int) + (c : Int)) = (N : Int) := by rw [HN.out]; have := Kq (4 * (r : Int) + (c : Int)) (by omega); rw [this]; omega
        have hN1 : (N : Int) < 16 := by rw [HN.out]; omega
        have hN2 : N < 16 := by omega
        clear HS HB hk hk1 hk4 HRS
        go_wp2_with (refine Qh hT hob hne N (by rw [Vg]; exact hN2) (by rw [Nat.mul_comm 3 N]; rfl) rfl ?_; intro V hV2)
        have e1 := Lj a b N hN2
        rw [HTR.out] at e1
        simp only at e1
        rw [e1] at hV2
        have e2 : (fl || !kb) = !(ta && tb && Xo a b (N + 1)) := by
         rw [HFL.out]
         simp only [Xo, HTR.out, Bool.not_and, Bool.or_assoc]
        rw [e2] at hV2
        rw [HN.out] at hV2
        have HV2 := Kw hV2
        clear hV2 e1 e2 hT hC hS
        go_roundw
        case rel => exact ⟨c + 1, by go_num, by omega, HV2⟩
        case measure => simp [intOf] <;> omega
     ·obtain rfl : c = 4 := by omega
      have hIc : ¬ ((4 : Nat) : Int) < 4 := by omega
      have HS4 : Hid (Zt w wr W0.heap.size (!(ta && tb && Xo a b (4 * (r + 1)))) ((wc.heap.size, 85, Zs (Xv a b (4 * (r + 1)))) :: [(w.heap.size + 1 + 1, 85, Z48), (w.heap.size + 1, 85, bc), (w.heap.size, 85, ac)])) := HS
      clear HS
      go_wp2_with fail
      go_roundw
      case rel => exact ⟨r + 1, by go_num, by omega, HS4⟩
      case measure => simp [intOf] <;> omega
   ·obtain rfl : r = 4 := by omega
    have hI : ¬ ((4 : Nat) : Int) < 4 := by omega
    have hS5 : Zt w wr W0.heap.size (!(ta && tb && Xo a b 16)) ((wc.heap.size, 85, Zs (Xv a b 16)) :: [(w.heap.size + 1 + 1, 85, Z48), (w.heap.size + 1, 85, bc), (w.heap.size, 85, ac)]) := HS.out
    have hS := hS5
    clear HS hS5
    rcases hK : (ta && tb && Xo a b 16) with _ | _
    ·rw [hK] at hS
     have HTZ : Hid (Wd a b = (Wn 16, false)) := Kw (by rw [HTP.out, hK]; rfl)
     have bT := hS.boxes.1
     have hts : (Zs (Xv a b 16)).size = 48 := by rw [Ym, Vg]
     have hto := Yw (Xv a b 16)
     have hC := hS.reads
     simp only [Zz, Zy] at hC
     obtain ⟨xc, hxc⟩ : ∃ xc, Hid (xc = Zs (Xv a b 16)) := ⟨_, Kw rfl⟩
     rw [← hxc.out] at hS bT hts hto hC
     go_wp2_with (first | (refine wpList_load_row rfl _ _ rfl _ rfl _ _ (0, 0) _ bT Tryz.underlying85 rfl (Yz hts) ?_) | (go_at_call 100; (with_reducible refine (Qj _ _ hts hto _ hS.sum).mono ?_); rintro e wn ⟨rfl, hx⟩; have hS9 := Zt.ex hS hx; have bR := hS9.boxes.2.1; have hE := hS9.rel hle) | (refine wpList_store_row rfl _ _ _ rfl _ _ rfl rfl _ _ bR (Yz Yp) (rfl) Wl ?_))
     exact Kr (Zl Tryz.results40 _ _ _ _ _ (0, 0) _ rfl (bR.setRow _) Tryz.underlying85 rfl (Yz Yp)) rfl ⟨by rw [HTZ.out]; rfl, hE.setRow (by omega) _⟩
    ·rw [hK] at hS
     have HTZ : Hid (Wd a b = (Xv a b 16, true)) := Kw (by rw [HTP.out, hK]; rfl)
     have bT := hS.boxes.1
     have hts : (Zs (Xv a b 16)).size = 48 := by rw [Ym, Vg]
     have hto := Yw (Xv a b 16)
     have hC := hS.reads
     simp only [Zz, Zy] at hC
     obtain ⟨xc, hxc⟩ : ∃ xc, Hid (xc = Zs (Xv a b 16)) := ⟨_, Kw rfl⟩
     rw [← hxc.out] at hS bT hts hto hC
     go_wp2_with (first | (refine wpList_load_row rfl _ _ rfl _ rfl _ _ (0, 0) _ bT Tryz.underlying85 rfl (Yz hts) ?_) | (go_at_call 100; (with_reducible refine (Re _ _ hts hto _ hS.sum).mono ?_); rintro e wn ⟨rfl, hx⟩; have hS9 := Zt.ex hS hx; have bR := hS9.boxes.2.1; have hE := hS9.rel hle) | (refine wpList_store_row rfl _ _ _ rfl _ _ rfl rfl _ _ bR (Yz hts) (by rw [hts]; rfl) hto ?_))
     exact Kr (Zl Tryz.results40 _ _ _ _ _ (0, 0) _ rfl (bR.setRow _) Tryz.underlying85 rfl (Yz hts)) rfl ⟨by rw [HTZ.out, hxc.out]; rfl, hE.setRow (by omega) _⟩
end
end Go.Proofs.YtiommfmaleeibaaGreatDoor
