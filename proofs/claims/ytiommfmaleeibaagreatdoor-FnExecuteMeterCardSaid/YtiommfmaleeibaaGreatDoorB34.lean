/-
  Proved: what functions compute, part 34. No condition.
-/
import Derived.Test.YtiommfmaleeibaaGreatDoorB32
import Derived.Test.YtiommfmaleeibaaGreatDoorB18
import Derived.Test.YtiommfmaleeibaaGreatDoorB33
import Derived.Test.YtiommfmaleeibaaGreatDoorB28
import Derived.Test.YtiommfmaleeibaaGreatDoorB24
import Derived.Test.YtiommfmaleeibaaGreatDoorB25
import Derived.Deep.MidRow
import Derived.Laws.Cover3
import Derived.Test.YtiommfmaleeibaaGreatDoorB17
import Derived.Test.YtiommfmaleeibaaGreatDoorB31
set_option linter.unusedSimpArgs false
set_option linter.unusedVariables false
set_option maxRecDepth 20000
set_option maxHeartbeats 8000000
namespace Go.Proofs.YtiommfmaleeibaaGreatDoor
section
open Go.RowKit

attribute [local go_sem] Zi Zh
theorem iMat_w (g n cap : Nat) (cur : Array Value) (S : ByteArray) (a b c : Int) (hn : 3 ≤ n) (w : World) [hG : Yc w] (hbox : Box w g 3 cur) (c0 : cur[0]? = some (.int .i64 a)) (c1 : cur[1]? = some (.int .i64 b)) (c2 : cur[2]? = some (.int .i64 c)) : Calls Tryz.prog 140 #[.agg #[.int .u8 119, .slice (some ⟨g, 0, none⟩) n cap, .string S]] w (fun e w' => e = .returned (m4v (Yn a b c)) ∧ Ex w w') := by
 have k1 := fun w (_ : Yc w) => iMatPlate a b c w
 rcases hf : Yn a b c with ⟨⟨⟨x1, x2, x3⟩, ⟨x4, x5, x6⟩, ⟨x7, x8, x9⟩, ⟨y1, y2, y3⟩⟩, ok⟩
 rw [hf] at k1
 simp only [m4v, M4.v] at k1
 have KF := Kw k1
 clear k1
 have HG := Kw hG
 have hR : Zw w w [(g, 3, cur)] := ⟨Ex.refl w, hbox, trivial⟩
 have n1 : (0 : Int) < n := by omega
 have n2 : (1 : Int) < n := by omega
 have n3 : (2 : Int) < n := by omega
 clear hbox
 go_enter Tryz.func140, Tryz.ntmps140
 go_upto_region 5 with fail
 have hS : Zw w ((w.alloc (.cells #[.int .u8 119, .slice (some ⟨g, 0, none⟩) n cap, .string S] 169)).alloc (.cells #[.int .i64 0, .int .i64 0, .int .i64 0, .int .i64 0, .int .i64 0, .int .i64 0, .int .i64 0, .int .i64 0, .int .i64 0, .int .i64 0, .int .i64 0, .int .i64 0] 79)) _ := inferInstance
 clear hR
 simp only [Kv] at hS
 generalize (w.alloc (.cells #[.int .u8 119, .slice (some ⟨g, 0, none⟩) n cap, .string S] 169)).alloc (.cells #[.int .i64 0, .int .i64 0, .int .i64 0, .int .i64 0, .int .i64 0, .int .i64 0, .int .i64 0, .int .i64 0, .int .i64 0, .int .i64 0, .int .i64 0, .int .i64 0] 79) = W0 at *
 refine Zd (St := fun _ _ => True) 15 false (B := fun _ w2 => Zw w w2 [(w.heap.size + 1, 79, #[.int .i64 0, .int .i64 0, .int .i64 0, .int .i64 0, .int .i64 0, .int .i64 0, .int .i64 0, .int .i64 0, .int .i64 0, .int .i64 0, .int .i64 0, .int .i64 0]), (w.heap.size, 169, #[.int .u8 119, .slice (some ⟨g, 0, none⟩) n cap, .string S]), (g, 3, cur)]) (by kernel_rfl) (by kernel_rfl) (hS.drewW) (by exact fun _ _ _ _ _ h => h) ?_
 iterate 12 (apply Zx; (· rfl); (· intro b wb hB Q1 hQ1; have hS := hB; have hC := hS.reads; simp only [Zz, Zy] at hC; go_wp2_with fail; exact hQ1 _ trivial hB); (· exact ⟨_, rfl⟩))
 (apply Zx; (· rfl); (· intro b wb hB Q1 hQ1; go_wp2_with (go_at_call 37; (with_reducible refine (KF.out _ (HG.out.ex hB.ex)).mono ?_); rintro e wn ⟨rfl, hx⟩); exact hQ1 _ trivial (hB.go hx)); (· exact ⟨_, rfl⟩))
 iterate 2 (apply Zx; (· rfl); (· intro b wb hB Q1 hQ1; go_wp2_with fail; exact hQ1 _ trivial hB); (· exact ⟨_, rfl⟩))
 refine Zq ?_
 intro wz hz
 clear hS
 have hS := hz
 have hC := hS.reads
 simp only [Zz, Zy] at hC
 have hE := hS.ex
 go_wp2_with fail
 refine Kr (v := .tuple #[.agg #[.int .i64 x1, .int .i64 x2, .int .i64 x3, .int .i64 x4, .int .i64 x5, .int .i64 x6, .int .i64 x7, .int .i64 x8, .int .i64 x9, .int .i64 y1, .int .i64 y2, .int .i64 y3], .bool ok]) ?_ rfl ⟨rfl, ?_⟩
 ·simp [results, Tryz.results140, go_sem, hC]
 ·repeat' (with_reducible first | exact hE | refine Ex.setCell ?_ (by simp <;> omega) _)
end
section
open Go.RowKit

theorem ptab_114 (a b : Int) : Ro 114 [a, b] = (if (Yt a b).2 then Xg (Yt a b).1 else (Wn 16, false)) := rfl
theorem ptab_102 (a b : Int) : Ro 102 [a, b] = (if (Yb a b).2 then Xg (Yb a b).1 else (Wn 16, false)) := rfl
theorem ptab_119 (a b c : Int) : Ro 119 [a, b, c] = (if (Yn a b c).2 then Xg (Yn a b c).1 else (Wn 16, false)) := rfl
theorem ptab_97 (a b : Int) : Ro 97 [a, b] = (if (true : Bool) then Xg ⟨(flow a 0 b).1, Fr.nul, Fr.nul, (flow a 0 b).1⟩ else (Wn 16, false)) := by
 have e : pmat 97 [a, b] = (⟨(flow a 0 b).1, Fr.nul, Fr.nul, (flow a 0 b).1⟩, true) := by
  unfold pmat
  rw [if_neg (by decide), if_neg (by decide), if_neg (by decide), if_pos rfl]
  unfold pshare
  simp only [List.getD_cons_zero, List.getD_cons_succ]
 unfold Ro
 rw [if_neg (by decide), e]
theorem ptab_100 (a b : Int) : Ro 100 [a, b] = Rd (flow a 0 b).1 := rfl
theorem iTab (q : Pc) (hv : Ws q.k q.ns = true) (w : World) [hG : Yc w] (hq : q.ok w) : Calls Tryz.prog 135 #[.agg #[.int .u8 q.k.toNat, .slice (some ⟨q.g, 0, none⟩) q.ns.length q.cap, .string q.S]] w (fun e w' => e = .returned (Sg (Ro q.k q.ns)) ∧ Ex w w') := by
 obtain ⟨k, g, cap, cur, ns, S⟩ := q
 obtain ⟨hb, hc⟩ := hq
 simp only at hv hb hc ⊢
 rcases (Lg hv).2.2 with ⟨hk, a, b, rfl, -⟩ | ⟨rfl, a, b, c, rfl, -, -⟩ | ⟨hk, a, b, rfl, h1, h2, h3, h4⟩
 ·have c0 : cur[0]? = some (.int .i64 a) := hc 0 (by simp)
  have c1 : cur[1]? = some (.int .i64 b) := hc 1 (by simp)
  rcases hk with rfl | rfl
  ·rw [ptab_114]
   exact iTab_m 114 g 2 cap cur S (by decide) (Yt a b) (fun w hG hb => iMat_r g 2 cap cur S a b (by omega) w hb c0 c1) w hb
  ·rw [ptab_102]
   exact iTab_m 102 g 2 cap cur S (by decide) (Yb a b) (fun w hG hb => iMat_f g 2 cap cur S a b (by omega) w hb c0 c1) w hb
 ·have c0 : cur[0]? = some (.int .i64 a) := hc 0 (by simp)
  have c1 : cur[1]? = some (.int .i64 b) := hc 1 (by simp)
  have c2 : cur[2]? = some (.int .i64 c) := hc 2 (by simp)
  rw [ptab_119]
  exact iTab_m 119 g 3 cap cur S (by decide) (Yn a b c) (fun w hG hb => iMat_w g 3 cap cur S a b c (by omega) w hb c0 c1 c2) w hb
 ·have c0 : cur[0]? = some (.int .i64 a) := hc 0 (by simp)
  have c1 : cur[1]? = some (.int .i64 b) := hc 1 (by simp)
  rcases hk with rfl | rfl
  ·rw [ptab_97]
   exact iTab_m 97 g 2 cap cur S (by decide) (⟨(flow a 0 b).1, Fr.nul, Fr.nul, (flow a 0 b).1⟩, true) (fun w hG hb => iMat_a g 2 cap cur S a b (by omega) (by omega) (by omega) w hb c0 c1) w hb
  ·rw [ptab_100]
   exact iTab_d g 2 cap cur S a b (by omega) (by omega) (by omega) w hb c0 c1
end
section
open Go.RowKit

def BnU (cells : List Pc → List Value) (w : World) (l : List UInt8) : Ending → World → Prop := fun e w' =>
 ∃ (qs : List Pc) (A : Option Addr) (cap : Nat) (ok : Bool), e = .returned (.tuple #[.slice A qs.length cap, .bool ok]) ∧ qs.length ≤ 12 ∧ Slc w' A (cells qs) ∧ Pcs w' qs ∧ Ex w w' ∧
  Hid (∀ v, Vo l v = Ta (qs.map Pc.p) 0 v (ok && Rq v)) ∧ Hid (∀ q ∈ qs, Ws q.k q.ns = true)
theorem bench_len {l : List UInt8} {ps : List (UInt8 × List Int)} (h : Yd l = some ps) : ps.length ≤ 12 := by
 by_cases hne : l = []
 ·subst hne
  rw [Na] at h
  injection h with h
  subst h
  simp
 ·exact (Qw h hne).2
theorem Qu.u {w : World} {l : List UInt8} {f : FuncId} {args : Array Value} (h : Calls Tryz.prog f args w (Qu Wu w l)) : Calls Tryz.prog f args w (BnU Wu w l) := by
 refine h.mono ?_
 rintro e w' (⟨qs, g, cap, hb, rfl, hs, -, hp, hx⟩ | ⟨hb, rfl, hx⟩)
 ·refine ⟨qs, some ⟨g, 0, none⟩, cap, true, rfl, by simpa using bench_len hb, Own.slc hs, hp, hx, Kw fun v => by rw [Bool.true_and]; exact breadOf_some hb v, Kw fun q hq => Qd hb q.p (List.mem_map_of_mem hq)⟩
 ·refine ⟨[], none, 0, false, rfl, by simp, Slc.nil _ _, Pcs.nil _, hx, Kw fun v => breadOf_none hb v, Kw fun q hq => by cases hq⟩
theorem brest_pc {qs : List Pc} {k : Nat} (hk : k < qs.length) (v : M4) (o : Bool) {t : List Fr} {okt : Bool} {u : M4} {oku : Bool} (hT : Ro qs[k].k qs[k].ns = (t, okt)) (hA : Sc t v = (u, oku)) :
  Ta (qs.map Pc.p) k v o = Ta (qs.map Pc.p) (k + 1) u (o && okt && oku) := by
 have h := brest_step (ps := qs.map Pc.p) (i := k) (by simpa using hk) v o
 have e : (qs.map Pc.p)[k]'(by simpa using hk) = qs[k].p := by simp
 rw [e] at h
 have e1 : Ro qs[k].p.1 qs[k].p.2 = (t, okt) := hT
 rw [e1] at h
 simp only at h
 rw [hA] at h
 exact h
theorem brest_done {qs : List Pc} (v : M4) (o : Bool) : Ta (qs.map Pc.p) qs.length v o = if o then (v, true) else (M4.none, false) := by
 have := brest_end (qs.map Pc.p) v o
 rwa [List.length_map] at this
structure BL (w wr : World) (n0 : Nat) (A : Option Addr) (cells : List Value) (qs : List Pc) (vc : Array Value) : Prop where
 sees : Zw w wr [(n0 + 1, 35, Z12), (n0, 35, vc)]
 slc : Slc wr A cells
 pcs : Pcs wr qs
section
variable {w wr w2 : World} {n0 : Nat} {A : Option Addr} {cells : List Value} {qs : List Pc} {vc : Array Value}
theorem BL.ex (h : BL w wr n0 A cells qs vc) (hx : Ex wr w2) : BL w w2 n0 A cells qs vc := ⟨Zw.after (h := h.sees) hx, h.slc.ex hx, h.pcs.ex hx⟩
theorem BL.store (h : BL w wr n0 A cells qs vc) (hlo : w.heap.size ≤ n0) (hv : I64s vc) (hc : Byte1 cells) (x : Array Value) : BL w (wr.setRow n0 x) n0 A cells qs x := by
 have hb := h.sees.boxes.2.1
 refine ⟨⟨h.sees.ex.setRow hlo x, h.sees.boxes.1.setRow_far (by simp) x, hb.setRow x, trivial⟩, ?_, fun q hq => ⟨(h.pcs q hq).1.setRow_far ?_ x, (h.pcs q hq).2⟩⟩
 ·intro hp
  obtain ⟨b, off, rfl, hk⟩ := h.slc hp
  refine ⟨b, off, rfl, fun k hlt => ?_⟩
  have hne : b ≠ n0 := by
   intro e
   subst e
   have h0 := hk 0 hp
   rw [Nat.add_zero, hb.cell, List.getElem?_eq_getElem hp] at h0
   obtain ⟨n, hn⟩ := hv _ _ h0
   obtain ⟨m, hm⟩ := hc _ (List.getElem?_eq_getElem hp)
   rw [hn] at hm
   injection hm with hm
   cases hm
  rw [Rs hne]
  exact hk k hlt
 ·intro e
  have h1 := (h.pcs q hq).1
  rw [e] at h1
  unfold Box at h1 hb
  rw [hb] at h1
  simp only [Option.some.injEq, Obj.cells.injEq] at h1
  exact absurd h1.2.1 (by decide)
end
end
section
open Go.RowKit

attribute [local go_sem] Zi Zh
theorem iBenchRead (l : List UInt8) (hl : l.length ≤ 1048576) (v : M4) (w : World) [hG : Yc w] (hm : Vs w) : Calls Tryz.prog 138 #[.string (Bs l), v.v] w (fun e w' => e = .returned (m4v (Vo l v)) ∧ Ex w w') := by
 have kb := fun w hm => Qu.u (Le l hl w hm)
 have kv : ∀ w, Calls Tryz.prog 57 #[.agg #[.int .i64 v.a.re, .int .i64 v.a.im, .int .i64 v.a.den, .int .i64 v.b.re, .int .i64 v.b.im, .int .i64 v.b.den, .int .i64 v.c.re, .int .i64 v.c.im, .int .i64 v.c.den, .int .i64 v.d.re, .int .i64 v.d.im, .int .i64 v.d.den]] w fun e w' => e = .returned (.bool (Rq v)) ∧ Ex w w' := fun w => Sd v.a v.b v.c v.d w
 unfold M4.v
 generalize Bs l = S at *
 have KB := Kw kb
 have KV := Kw kv
 have HG := Kw hG
 have HM := Kw hm
 clear hm
 clear kb kv hl
 clear hG
 have hR := Zw.refl w
 go_enter Tryz.func138, Tryz.ntmps138
 go_upto_region 1 with fail
 have hV : Zw w ((w.alloc (.cells #[.int .i64 v.a.re, .int .i64 v.a.im, .int .i64 v.a.den, .int .i64 v.b.re, .int .i64 v.b.im, .int .i64 v.b.den, .int .i64 v.c.re, .int .i64 v.c.im, .int .i64 v.c.den, .int .i64 v.d.re, .int .i64 v.d.im, .int .i64 v.d.den] 35)).alloc (.cells #[.int .i64 0, .int .i64 0, .int .i64 0, .int .i64 0, .int .i64 0, .int .i64 0, .int .i64 0, .int .i64 0, .int .i64 0, .int .i64 0, .int .i64 0, .int .i64 0] 35)) _ := inferInstance
 clear hR
 simp only [Kv] at hV
 generalize (w.alloc (.cells #[.int .i64 v.a.re, .int .i64 v.a.im, .int .i64 v.a.den, .int .i64 v.b.re, .int .i64 v.b.im, .int .i64 v.b.den, .int .i64 v.c.re, .int .i64 v.c.im, .int .i64 v.c.den, .int .i64 v.d.re, .int .i64 v.d.im, .int .i64 v.d.den] 35)).alloc (.cells #[.int .i64 0, .int .i64 0, .int .i64 0, .int .i64 0, .int .i64 0, .int .i64 0, .int .i64 0, .int .i64 0, .int .i64 0, .int .i64 0, .int .i64 0, .int .i64 0] 35) = W0 at *
 go_wp2_with fail
 refine (KB.out _ (HM.out.ex hV.ex)).mono ?_
 rintro e w1 ⟨qs, A, cap, ok0, rfl, hq12, hsl, hps, hx, HBR, HPV⟩
 replace hV := Zw.after (h := hV) hx
 clear hx KB HM
 go_upto_region 2 with fail
 go_cut [7] (fun s wx => s = .bool (ok0 && Rq v) ∧ Ex w1 wx)
 case first =>
  have hC := hV.reads
  simp only [Zz, Zy] at hC
  rcases ok0 with _ | _
  ·go_wp2_with fail
   go_meet
   exact ⟨rfl, Ex.refl _⟩
  ·go_wp2_with (go_at_call 57; (with_reducible refine (KV.out _).mono ?_); rintro e w2 ⟨rfl, hx⟩)
   go_meet
   exact ⟨by rw [Bool.true_and], hx⟩
 case rest =>
  obtain ⟨rfl, hx⟩ := hcut
  have hB : BL w wc w.heap.size A (Wu qs) qs (Zs v.l) := ⟨Zw.after (h := hV) hx, hsl.ex hx, hps.ex hx⟩
  clear hV hx hsl hps KV
  replace HBR := Kw (HBR.out v)
  generalize (ok0 && Rq v) = o0 at HBR ⊢
  have HQL := Kw hq12
  have HB0 := Kw hB
  clear hB hq12
  go_wp2_with fail
  go_loopw [26, 7, 9, 10, 11, 12, 13] (fun i o _ _ _ _ _ wr => ∃ (k : Nat) (u : M4) (ok : Bool), i = .int .i64 k ∧ o = .bool ok ∧ k ≤ qs.length ∧ Hid (Vo l v = Ta (qs.map Pc.p) k u ok) ∧ Hid (BL w wr w.heap.size A (Wu qs) qs (Zs u.l))) (fun i _ _ _ _ _ _ _ => 13 - (intOf i).toNat)
  case atStart => exact ⟨0, v, o0, rfl, rfl, by omega, HBR, HB0⟩
  case round =>
   clear HB0 HBR
   obtain ⟨k, u, ok, rfl, rfl, hk, HR, HB⟩ := hrel
   have hq12 := HQL.out
   by_cases hlt : k < qs.length
   ·have hI : (k : Int) < (qs.length : Int) := by omega
    have hw5 : IntKind.i64.wrap ((k : Int) + 1) = (k : Int) + 1 := Kq _ (by omega)
    obtain ⟨b, off, rfl, hc⟩ := HB.out.slc (by rw [Rx]; omega)
    have hat := cellsI_at qs k hlt
    have d0 := hc (3 * k) (by rw [Rx]; omega)
    have d1 := hc (3 * k + 1) (by rw [Rx]; omega)
    have d2 := hc (3 * k + 2) (by rw [Rx]; omega)
    rw [hat.1] at d0
    rw [hat.2.1] at d1
    rw [hat.2.2] at d2
    rw [Nat.mul_comm 3 k] at d0 d1 d2
    rw [← Nat.add_assoc] at d1 d2
    have HST := Kw (fun t okt x okx hT hA => brest_pc hlt u ok (t := t) (okt := okt) (u := x) (oku := okx) hT hA)
    have hmem : qs[k] ∈ qs := List.getElem_mem hlt
    have HV := Kw (HPV.out _ hmem)
    have HO := Kw (HB.out.pcs _ hmem)
    clear hc hat hmem
    generalize qs[k] = q at *
    have kt := fun w (_ : Yc w) ho => iTab q HV.out w ho
    rcases hT : Ro q.k q.ns with ⟨t, okt⟩
    have htl : t.length = 16 := by have := ptab_len q.k q.ns; rw [hT] at this; exact this
    have hts : (Zs t).size = 48 := by rw [Ym, htl]
    rcases hA : Sc t u with ⟨x, okx⟩
    have ka := fun w => iTableApply t htl u w
    have HR2 : Hid (Vo l v = Ta (qs.map Pc.p) (k + 1) x (ok && okt && okx)) := Kw (HR.out.trans (HST.out t okt x okx hT hA))
    rw [hT] at kt
    rw [hA] at ka
    simp only [Sg, m4v, M4.l_arr] at kt ka
    have hone := Yw t
    have hux := tabArr_i64 u.l
    have hxs := row12 x
    have hus := row12 u
    have hxo := Yw x.l
    generalize Zs t = tc at *
    generalize hvu : Zs u.l = uc at *
    generalize hvx : Zs x.l = xc at *
    have KT := Kw kt
    have KA := Kw ka
    have HX := Kw hvx
    have HTS := Kw hts
    have HXS := Kw hxs
    have HUS := Kw hus
    have HUX := Kw hux
    clear kt ka hT hA hvu hvx HST HR HV htl hts hxs hus hux
    have hB := HB.out
    clear HB
    go_upto_region 6 with fail
    have b9 := Box.new wr #[.int .u8 q.k.toNat, .slice (some ⟨q.g, 0, none⟩) q.ns.length q.cap, .string q.S] 169
    replace hB := hB.ex ((Ex.refl wr).alloc (.cells #[.int .u8 q.k.toNat, .slice (some ⟨q.g, 0, none⟩) q.ns.length q.cap, .string q.S] 169))
    have HO1 := Kw (HO.out.ex ((Ex.refl wr).alloc (.cells #[.int .u8 q.k.toNat, .slice (some ⟨q.g, 0, none⟩) q.ns.length q.cap, .string q.S] 169)))
    generalize wr.alloc _ = W1 at *
    have c9 := b9.cell
    have z9 := b9.lt
    clear d0 d1 d2 HO
    go_wp2_with fail
    refine (KT.out _ (HG.out.ex hB.sees.ex) HO1.out).mono ?_
    clear HO1 b9 c9 z9
    rintro e w2 ⟨rfl, hx⟩
    go_upto_region 7 with (refine wpList_store_row rfl _ _ _ rfl _ _ rfl rfl _ _ (Box.new w2 _ _) (Yz HTS.out) (by rw [HTS.out]; rfl) hone ?_)
    replace hB := hB.ex (hx.trans (((Ex.refl w2).alloc (.cells #[.int .i64 0, .int .i64 0, .int .i64 0, .int .i64 0, .int .i64 0, .int .i64 0, .int .i64 0, .int .i64 0, .int .i64 0, .int .i64 0, .int .i64 0, .int .i64 0, .int .i64 0, .int .i64 0, .int .i64 0, .int .i64 0, .int .i64 0, .int .i64 0, .int .i64 0, .int .i64 0, .int .i64 0, .int .i64 0, .int .i64 0, .int .i64 0, .int .i64 0, .int .i64 0, .int .i64 0, .int .i64 0, .int .i64 0, .int .i64 0, .int .i64 0, .int .i64 0, .int .i64 0, .int .i64 0, .int .i64 0, .int .i64 0, .int .i64 0, .int .i64 0, .int .i64 0, .int .i64 0, .int .i64 0, .int .i64 0, .int .i64 0, .int .i64 0, .int .i64 0, .int .i64 0, .int .i64 0, .int .i64 0] 85)).setRow (Nat.le_refl _) tc))
    have bT := (Box.new w2 #[.int .i64 0, .int .i64 0, .int .i64 0, .int .i64 0, .int .i64 0, .int .i64 0, .int .i64 0, .int .i64 0, .int .i64 0, .int .i64 0, .int .i64 0, .int .i64 0, .int .i64 0, .int .i64 0, .int .i64 0, .int .i64 0, .int .i64 0, .int .i64 0, .int .i64 0, .int .i64 0, .int .i64 0, .int .i64 0, .int .i64 0, .int .i64 0, .int .i64 0, .int .i64 0, .int .i64 0, .int .i64 0, .int .i64 0, .int .i64 0, .int .i64 0, .int .i64 0, .int .i64 0, .int .i64 0, .int .i64 0, .int .i64 0, .int .i64 0, .int .i64 0, .int .i64 0, .int .i64 0, .int .i64 0, .int .i64 0, .int .i64 0, .int .i64 0, .int .i64 0, .int .i64 0, .int .i64 0, .int .i64 0] 85).setRow tc
    generalize (w2.alloc (.cells #[.int .i64 0, .int .i64 0, .int .i64 0, .int .i64 0, .int .i64 0, .int .i64 0, .int .i64 0, .int .i64 0, .int .i64 0, .int .i64 0, .int .i64 0, .int .i64 0, .int .i64 0, .int .i64 0, .int .i64 0, .int .i64 0, .int .i64 0, .int .i64 0, .int .i64 0, .int .i64 0, .int .i64 0, .int .i64 0, .int .i64 0, .int .i64 0, .int .i64 0, .int .i64 0, .int .i64 0, .int .i64 0, .int .i64 0, .int .i64 0, .int .i64 0, .int .i64 0, .int .i64 0, .int .i64 0, .int .i64 0, .int .i64 0, .int .i64 0, .int .i64 0, .int .i64 0, .int .i64 0, .int .i64 0, .int .i64 0, .int .i64 0, .int .i64 0, .int .i64 0, .int .i64 0, .int .i64 0, .int .i64 0] 85)).setRow w2.heap.size tc = W2 at *
    clear hx hone
    have b3 := hB.sees.boxes.2.1
    go_wp2_with (first | (refine wpList_load_row rfl _ _ rfl _ rfl _ _ (0, 0) _ bT Tryz.underlying85 rfl (Yz HTS.out) ?_) | (refine wpList_load_row rfl _ _ rfl _ rfl _ _ (0, 0) _ b3 Tryz.underlying35 rfl (Pg HUS.out) ?_))
    refine (KA.out _).mono ?_
    rintro e w3 ⟨rfl, hx⟩
    go_upto_region 8 with (refine wpList_store_row rfl _ _ _ rfl _ _ rfl rfl _ _ (Box.new w3 _ _) (Pg HXS.out) (by rw [HXS.out]; rfl) hxo ?_)
    replace hB := hB.ex (hx.trans (((Ex.refl w3).alloc (.cells #[.int .i64 0, .int .i64 0, .int .i64 0, .int .i64 0, .int .i64 0, .int .i64 0, .int .i64 0, .int .i64 0, .int .i64 0, .int .i64 0, .int .i64 0, .int .i64 0] 35)).setRow (Nat.le_refl _) xc))
    have bX := (Box.new w3 #[.int .i64 0, .int .i64 0, .int .i64 0, .int .i64 0, .int .i64 0, .int .i64 0, .int .i64 0, .int .i64 0, .int .i64 0, .int .i64 0, .int .i64 0, .int .i64 0] 35).setRow xc
    generalize (w3.alloc (.cells #[.int .i64 0, .int .i64 0, .int .i64 0, .int .i64 0, .int .i64 0, .int .i64 0, .int .i64 0, .int .i64 0, .int .i64 0, .int .i64 0, .int .i64 0, .int .i64 0] 35)).setRow w3.heap.size xc = W3 at *
    clear hx b3 bT
    go_cut [7] (fun s wx => s = .bool (ok && okt && okx) ∧ wx = W3)
    case first =>
     rcases ok with _ | _ <;> rcases okt with _ | _ <;> rcases okx with _ | _
     all_goals
      go_wp2_with fail
      go_meet
      exact ⟨rfl, rfl⟩
    case rest =>
     obtain ⟨rfl, rfl⟩ := hcut
     have b3 := hB.sees.boxes.2.1
     go_wp2_with (first | (refine wpList_load_row rfl _ _ rfl _ rfl _ _ (0, 0) _ bX Tryz.underlying35 rfl (Pg HXS.out) ?_) | (refine wpList_store_row rfl _ _ _ rfl _ _ rfl rfl _ _ b3 (Pg HXS.out) (by rw [HXS.out, HUS.out]) hxo ?_))
     have HB2 : Hid (BL w (wc.setRow w.heap.size xc) w.heap.size (some ⟨b, off, none⟩) (Wu qs) qs (Zs x.l)) := Kw (by rw [HX.out]; exact hB.store (Nat.le_refl _) HUX.out (cellsI_byte qs) xc)
     clear hB b3 bX hxo
     go_roundw
     case rel => exact ⟨k + 1, x, _, by go_num, rfl, by omega, HR2, HB2⟩
     case measure => simp [intOf] <;> omega
   ·obtain rfl : k = qs.length := by omega
    have HE := HR.out
    rw [brest_done] at HE
    have hI : ¬ ((qs.length : Nat) : Int) < (qs.length : Int) := by omega
    have hB := HB.out
    clear HB HR hlt hk HPV HQL hq12
    have b4 := hB.sees.boxes.1
    have b3 := hB.sees.boxes.2.1
    have hE := hB.sees.ex
    have HEE := Kw HE
    clear HE
    rcases ok with _ | _
    ·have c4 := b4.cell
     have f4 := b4.frozen
     have z4 := b4.lt
     unfold Z12 at c4
     go_wp2
     refine Kr (v := .tuple #[.agg #[.int .i64 0, .int .i64 0, .int .i64 0, .int .i64 0, .int .i64 0, .int .i64 0, .int .i64 0, .int .i64 0, .int .i64 0, .int .i64 0, .int .i64 0, .int .i64 0], .bool false]) ?_ rfl ⟨by rw [HEE.out]; rfl, ?_⟩
     ·simp [results, Tryz.results138, go_sem, c4]
     ·repeat' (with_reducible first | exact hE | refine Ex.setCell ?_ (by simp <;> omega) _)
    ·have hus := row12 u
     have huo := Yw u.l
     go_wp2_with (first | (refine wpList_load_row rfl _ _ rfl _ rfl _ _ (0, 0) _ b3 Tryz.underlying35 rfl (Pg hus) ?_) | (refine wpList_store_row rfl _ _ _ rfl _ _ rfl rfl _ _ b4 (Pg hus) rfl huo ?_))
     exact Kr (Zl Tryz.results138 _ _ _ _ _ (0, 0) _ rfl (b4.setRow _) Tryz.underlying35 rfl (Pg hus)) rfl ⟨by rw [HEE.out]; rfl, hE.setRow (Nat.le_succ _) _⟩
end
section
open Go.RowKit

attribute [local go_sem] Zi Zh
theorem Qt {cs : Array Value} (h : cs.size = 12) : (Tryz.prog.info? 79).map (·.size) = some cs.size := by rw [h]; kernel_rfl
theorem Xi {cs : Array Value} (h : cs.size = 12) : (Tryz.prog.info? 31).map (·.size) = some cs.size := by rw [h]; kernel_rfl
theorem cellF4l {cs : List Value} (h : cs.length = 12) : (Tryz.prog.info? 31).map (·.size) = some cs.length := by rw [h]; kernel_rfl
theorem tab_take (l : List Fr) : (Zs (l.take 4)).toList = (Zs l).toList.take 12 := by
 unfold Zs
 match l with
 | [] => rfl
 | [_] => rfl
 | [_, _] => rfl
 | [_, _, _] => rfl
 | a :: b :: c :: d :: t => simp [Ug]
theorem range_take {w : World} {b : Nat} {t : TypeId} {l : List Fr} (h : Box w b t (Zs l)) : w.rangeAt b 0 (Zs (l.take 4)).toList := by
 intro j v hv
 rw [tab_take] at hv
 rw [Nat.zero_add, h.cell j, ← Array.getElem?_toList]
 rw [List.getElem?_take] at hv
 split at hv
 ·exact hv
 ·cases hv
theorem run_ar4 (a : Option Addr) (cap : Nat) (w : World) : (Instr.arrayAt 31 (.slice a 4 cap)).run Tryz.prog w = .ok (.pointer a) w := run_arrayAt w _ _ 4 a 4 cap Tryz.underlying31 (Nat.le_refl _)
attribute [local go_sem] run_ar4
theorem Qc : (#[.int .i64 0, .int .i64 0, .int .i64 0, .int .i64 0, .int .i64 0, .int .i64 0, .int .i64 0, .int .i64 0, .int .i64 0, .int .i64 0, .int .i64 0, .int .i64 0] : Array Value).all (·.oneCell') = true := by kernel_rfl
theorem Zw.grow {W w w1 : World} {L : List (Nat × TypeId × Array Value)} (h : Zw W w L) (hx : Ex w w1) : Zw W w1 L := Zw.after (h := h) hx
theorem iMeterRow (p q : Int) (w : World) [hG : Yc w] : Calls Tryz.prog 14 #[.agg #[.int .i64 p, .int .i64 q]] w (fun e w' => e = .returned (.tuple #[.agg (Zs (Vm p q).1), .bool (Vm p q).2]) ∧ Ex w w') := by
 have k1 := fun w (_ : Yc w) => iMatPlate p q 1 w
 have k2 := fun w => Ma 1 0 w
 have hq : Vm p q = if (Yn p q 1).2 && (Yb 1 0).2 && (Xg (Yb 1 0).1).2 && (Xg (Yn p q 1).1).2 && (Wd (Xg (Yb 1 0).1).1 (Xg (Yn p q 1).1).1).2 then ((Wd (Xg (Yb 1 0).1).1 (Xg (Yn p q 1).1).1).1.take 4, true) else (Wn 4, false) := rfl
 generalize Vm p q = R at hq ⊢
 rcases hP : Yn p q 1 with ⟨P, kp⟩
 rcases hF : Yb 1 0 with ⟨M, kf⟩
 rw [hP] at k1
 rw [hF] at k2
 simp only [hP, hF] at hq
 clear hP hF
 have k3 := fun w (_ : Yc w) => Lp M w
 have k4 := fun w (_ : Yc w) => Lp P w
 have hA := Ua M
 have hB := Ua P
 rcases hTA : Xg M with ⟨A, ka⟩
 rcases hTB : Xg P with ⟨B, kb⟩
 rw [hTA] at k3 hA
 rw [hTB] at k4 hB
 simp only [hTA, hTB] at hq
 simp only at hA hB
 clear hTA hTB
 have k5 := fun w => iTableTimes A B hA hB w
 have hC := Py A B
 rcases hTC : Wd A B with ⟨C, kc⟩
 rw [hTC] at k5 hC
 simp only [hTC] at hq
 simp only at hC
 clear hTC
 simp only [Sg, m4v, M4.l_arr] at k1 k2 k3 k4 k5
 have sA : (Zs A).size = 48 := by rw [Ym, hA]
 have sB : (Zs B).size = 48 := by rw [Ym, hB]
 have sC : (Zs C).size = 48 := by rw [Ym, hC]
 have oA := Yw A
 have oB := Yw B
 have oC := Yw C
 have sP : (Zs P.l).size = 12 := rfl
 have sM : (Zs M.l).size = 12 := rfl
 have oP := Yw P.l
 have oM := Yw M.l
 have sT : (Zs (C.take 4)).toList.length = 12 := by rw [Array.length_toList, Ym, List.length_take, hC]; rfl
 have oT := Yw (C.take 4)
 have HRG := Kw (fun (w : World) (b : Nat) (t : TypeId) (h : Box w b t (Zs C)) => range_take h)
 have HQ := Kw hq
 clear hq hA hB hC
 generalize Zs A = ac at *
 generalize Zs B = bc at *
 generalize Zs C = cc at *
 generalize Zs P.l = pc at *
 generalize Zs M.l = mc at *
 obtain ⟨tc, htc⟩ : ∃ tc, Hid (tc = Zs (C.take 4)) := ⟨_, Kw rfl⟩
 rw [← htc.out] at sT oT HRG
 have K1 := Kw k1
 have K2 := Kw k2
 have K3 := Kw k3
 have K4 := Kw k4
 have K5 := Kw k5
 have HG := Kw hG
 clear k1 k2 k3 k4 k5
 have hR := Zw.refl w
 go_enter Tryz.func14, Tryz.ntmps14
 go_upto_region 1 with fail
 have hV : Zw w ((w.alloc (.cells #[.int .i64 p, .int .i64 q] 27)).alloc (.cells #[.int .i64 0, .int .i64 0, .int .i64 0, .int .i64 0, .int .i64 0, .int .i64 0, .int .i64 0, .int .i64 0, .int .i64 0, .int .i64 0, .int .i64 0, .int .i64 0] 31)) _ := inferInstance
 clear hR
 simp only [Kv] at hV
 generalize (w.alloc (.cells #[.int .i64 p, .int .i64 q] 27)).alloc (.cells #[.int .i64 0, .int .i64 0, .int .i64 0, .int .i64 0, .int .i64 0, .int .i64 0, .int .i64 0, .int .i64 0, .int .i64 0, .int .i64 0, .int .i64 0, .int .i64 0] 31) = W0 at *
 have hC := hV.reads
 simp only [Zz, Zy] at hC
 skip
 go_upto_region 2 with (first | (go_at_call 37; (with_reducible refine (K1.out _ (HG.out.ex hV.ex)).mono ?_); rintro e u1 ⟨rfl, hx⟩; replace hV := Zw.after (W := w) hx; clear hx) | (refine wpList_store_row rfl _ _ _ rfl _ _ rfl rfl _ _ (Box.new u1 _ _) (Qt sP) (by rw [sP]; rfl) oP ?_))
 have hB2 := (Box.new u1 #[.int .i64 0, .int .i64 0, .int .i64 0, .int .i64 0, .int .i64 0, .int .i64 0, .int .i64 0, .int .i64 0, .int .i64 0, .int .i64 0, .int .i64 0, .int .i64 0] 79).setRow pc
 replace hV := hV.grow (((Ex.refl u1).alloc (.cells #[.int .i64 0, .int .i64 0, .int .i64 0, .int .i64 0, .int .i64 0, .int .i64 0, .int .i64 0, .int .i64 0, .int .i64 0, .int .i64 0, .int .i64 0, .int .i64 0] 79)).setRow (Nat.le_refl _) pc)
 generalize (u1.alloc (.cells #[.int .i64 0, .int .i64 0, .int .i64 0, .int .i64 0, .int .i64 0, .int .i64 0, .int .i64 0, .int .i64 0, .int .i64 0, .int .i64 0, .int .i64 0, .int .i64 0] 79)).setRow u1.heap.size pc = V2 at *
 replace hV := Zw.put hV hB2
 clear hB2
 generalize u1.heap.size = g2 at *
 clear hC
 go_upto_region 3 with (first | (go_at_call 38; (with_reducible refine (K2.out _).mono ?_); rintro e u2 ⟨rfl, hx⟩; replace hV := Zw.after (W := w) hx; clear hx) | (refine wpList_store_row rfl _ _ _ rfl _ _ rfl rfl _ _ (Box.new u2 _ _) (Qt sM) (by rw [sM]; rfl) oM ?_))
 have hB3 := (Box.new u2 #[.int .i64 0, .int .i64 0, .int .i64 0, .int .i64 0, .int .i64 0, .int .i64 0, .int .i64 0, .int .i64 0, .int .i64 0, .int .i64 0, .int .i64 0, .int .i64 0] 79).setRow mc
 replace hV := hV.grow (((Ex.refl u2).alloc (.cells #[.int .i64 0, .int .i64 0, .int .i64 0, .int .i64 0, .int .i64 0, .int .i64 0, .int .i64 0, .int .i64 0, .int .i64 0, .int .i64 0, .int .i64 0, .int .i64 0] 79)).setRow (Nat.le_refl _) mc)
 generalize (u2.alloc (.cells #[.int .i64 0, .int .i64 0, .int .i64 0, .int .i64 0, .int .i64 0, .int .i64 0, .int .i64 0, .int .i64 0, .int .i64 0, .int .i64 0, .int .i64 0, .int .i64 0] 79)).setRow u2.heap.size mc = V3 at *
 replace hV := Zw.put hV hB3
 clear hB3
 generalize u2.heap.size = g3 at *
 have bM := hV.boxes.1
 go_upto_region 4 with (first | (refine wpList_load_row rfl _ _ rfl _ rfl _ _ (0, 0) _ bM Tryz.underlying79 rfl (Qt sM) ?_) | (go_at_call 39; (with_reducible refine (K3.out _ (HG.out.ex hV.ex)).mono ?_); rintro e u3 ⟨rfl, hx⟩; replace hV := Zw.after (W := w) hx; clear hx) | (refine wpList_store_row rfl _ _ _ rfl _ _ rfl rfl _ _ (Box.new u3 _ _) (Yz sA) (by rw [sA]; rfl) oA ?_))
 have hB4 := (Box.new u3 #[.int .i64 0, .int .i64 0, .int .i64 0, .int .i64 0, .int .i64 0, .int .i64 0, .int .i64 0, .int .i64 0, .int .i64 0, .int .i64 0, .int .i64 0, .int .i64 0, .int .i64 0, .int .i64 0, .int .i64 0, .int .i64 0, .int .i64 0, .int .i64 0, .int .i64 0, .int .i64 0, .int .i64 0, .int .i64 0, .int .i64 0, .int .i64 0, .int .i64 0, .int .i64 0, .int .i64 0, .int .i64 0, .int .i64 0, .int .i64 0, .int .i64 0, .int .i64 0, .int .i64 0, .int .i64 0, .int .i64 0, .int .i64 0, .int .i64 0, .int .i64 0, .int .i64 0, .int .i64 0, .int .i64 0, .int .i64 0, .int .i64 0, .int .i64 0, .int .i64 0, .int .i64 0, .int .i64 0, .int .i64 0] 85).setRow ac
 replace hV := hV.grow (((Ex.refl u3).alloc (.cells #[.int .i64 0, .int .i64 0, .int .i64 0, .int .i64 0, .int .i64 0, .int .i64 0, .int .i64 0, .int .i64 0, .int .i64 0, .int .i64 0, .int .i64 0, .int .i64 0, .int .i64 0, .int .i64 0, .int .i64 0, .int .i64 0, .int .i64 0, .int .i64 0, .int .i64 0, .int .i64 0, .int .i64 0, .int .i64 0, .int .i64 0, .int .i64 0, .int .i64 0, .int .i64 0, .int .i64 0, .int .i64 0, .int .i64 0, .int .i64 0, .int .i64 0, .int .i64 0, .int .i64 0, .int .i64 0, .int .i64 0, .int .i64 0, .int .i64 0, .int .i64 0, .int .i64 0, .int .i64 0, .int .i64 0, .int .i64 0, .int .i64 0, .int .i64 0, .int .i64 0, .int .i64 0, .int .i64 0, .int .i64 0] 85)).setRow (Nat.le_refl _) ac)
 generalize (u3.alloc (.cells #[.int .i64 0, .int .i64 0, .int .i64 0, .int .i64 0, .int .i64 0, .int .i64 0, .int .i64 0, .int .i64 0, .int .i64 0, .int .i64 0, .int .i64 0, .int .i64 0, .int .i64 0, .int .i64 0, .int .i64 0, .int .i64 0, .int .i64 0, .int .i64 0, .int .i64 0, .int .i64 0, .int .i64 0, .int .i64 0, .int .i64 0, .int .i64 0, .int .i64 0, .int .i64 0, .int .i64 0, .int .i64 0, .int .i64 0, .int .i64 0, .int .i64 0, .int .i64 0, .int .i64 0, .int .i64 0, .int .i64 0, .int .i64 0, .int .i64 0, .int .i64 0, .int .i64 0, .int .i64 0, .int .i64 0, .int .i64 0, .int .i64 0, .int .i64 0, .int .i64 0, .int .i64 0, .int .i64 0, .int .i64 0] 85)).setRow u3.heap.size ac = V4 at *
 replace hV := Zw.put hV hB4
 clear hB4
 generalize u3.heap.size = g4 at *
 clear bM
 have bP := hV.boxes.2.2.1
 go_upto_region 5 with (first | (refine wpList_load_row rfl _ _ rfl _ rfl _ _ (0, 0) _ bP Tryz.underlying79 rfl (Qt sP) ?_) | (go_at_call 39; (with_reducible refine (K4.out _ (HG.out.ex hV.ex)).mono ?_); rintro e u4 ⟨rfl, hx⟩; replace hV := Zw.after (W := w) hx; clear hx) | (refine wpList_store_row rfl _ _ _ rfl _ _ rfl rfl _ _ (Box.new u4 _ _) (Yz sB) (by rw [sB]; rfl) oB ?_))
 have hB5 := (Box.new u4 #[.int .i64 0, .int .i64 0, .int .i64 0, .int .i64 0, .int .i64 0, .int .i64 0, .int .i64 0, .int .i64 0, .int .i64 0, .int .i64 0, .int .i64 0, .int .i64 0, .int .i64 0, .int .i64 0, .int .i64 0, .int .i64 0, .int .i64 0, .int .i64 0, .int .i64 0, .int .i64 0, .int .i64 0, .int .i64 0, .int .i64 0, .int .i64 0, .int .i64 0, .int .i64 0, .int .i64 0, .int .i64 0, .int .i64 0, .int .i64 0, .int .i64 0, .int .i64 0, .int .i64 0, .int .i64 0, .int .i64 0, .int .i64 0, .int .i64 0, .int .i64 0, .int .i64 0, .int .i64 0, .int .i64 0, .int .i64 0, .int .i64 0, .int .i64 0, .int .i64 0, .int .i64 0, .int .i64 0, .int .i64 0] 85).setRow bc
 replace hV := hV.grow (((Ex.refl u4).alloc (.cells #[.int .i64 0, .int .i64 0, .int .i64 0, .int .i64 0, .int .i64 0, .int .i64 0, .int .i64 0, .int .i64 0, .int .i64 0, .int .i64 0, .int .i64 0, .int .i64 0, .int .i64 0, .int .i64 0, .int .i64 0, .int .i64 0, .int .i64 0, .int .i64 0, .int .i64 0, .int .i64 0, .int .i64 0, .int .i64 0, .int .i64 0, .int .i64 0, .int .i64 0, .int .i64 0, .int .i64 0, .int .i64 0, .int .i64 0, .int .i64 0, .int .i64 0, .int .i64 0, .int .i64 0, .int .i64 0, .int .i64 0, .int .i64 0, .int .i64 0, .int .i64 0, .int .i64 0, .int .i64 0, .int .i64 0, .int .i64 0, .int .i64 0, .int .i64 0, .int .i64 0, .int .i64 0, .int .i64 0, .int .i64 0] 85)).setRow (Nat.le_refl _) bc)
 generalize (u4.alloc (.cells #[.int .i64 0, .int .i64 0, .int .i64 0, .int .i64 0, .int .i64 0, .int .i64 0, .int .i64 0, .int .i64 0, .int .i64 0, .int .i64 0, .int .i64 0, .int .i64 0, .int .i64 0, .int .i64 0, .int .i64 0, .int .i64 0, .int .i64 0, .int .i64 0, .int .i64 0, .int .i64 0, .int .i64 0, .int .i64 0, .int .i64 0, .int .i64 0, .int .i64 0, .int .i64 0, .int .i64 0, .int .i64 0, .int .i64 0, .int .i64 0, .int .i64 0, .int .i64 0, .int .i64 0, .int .i64 0, .int .i64 0, .int .i64 0, .int .i64 0, .int .i64 0, .int .i64 0, .int .i64 0, .int .i64 0, .int .i64 0, .int .i64 0, .int .i64 0, .int .i64 0, .int .i64 0, .int .i64 0, .int .i64 0] 85)).setRow u4.heap.size bc = V5 at *
 replace hV := Zw.put hV hB5
 clear hB5
 generalize u4.heap.size = g5 at *
 clear bP
 have bB := hV.boxes.1
 have bA := hV.boxes.2.1
 go_upto_region 6 with (first | (refine wpList_load_row rfl _ _ rfl _ rfl _ _ (0, 0) _ bA Tryz.underlying85 rfl (Yz sA) ?_) | (refine wpList_load_row rfl _ _ rfl _ rfl _ _ (0, 0) _ bB Tryz.underlying85 rfl (Yz sB) ?_) | (go_at_call 40; (with_reducible refine (K5.out _).mono ?_); rintro e u5 ⟨rfl, hx⟩; replace hV := Zw.after (W := w) hx; clear hx) | (refine wpList_store_row rfl _ _ _ rfl _ _ rfl rfl _ _ (Box.new u5 _ _) (Yz sC) (by rw [sC]; rfl) oC ?_))
 have hB6 := (Box.new u5 #[.int .i64 0, .int .i64 0, .int .i64 0, .int .i64 0, .int .i64 0, .int .i64 0, .int .i64 0, .int .i64 0, .int .i64 0, .int .i64 0, .int .i64 0, .int .i64 0, .int .i64 0, .int .i64 0, .int .i64 0, .int .i64 0, .int .i64 0, .int .i64 0, .int .i64 0, .int .i64 0, .int .i64 0, .int .i64 0, .int .i64 0, .int .i64 0, .int .i64 0, .int .i64 0, .int .i64 0, .int .i64 0, .int .i64 0, .int .i64 0, .int .i64 0, .int .i64 0, .int .i64 0, .int .i64 0, .int .i64 0, .int .i64 0, .int .i64 0, .int .i64 0, .int .i64 0, .int .i64 0, .int .i64 0, .int .i64 0, .int .i64 0, .int .i64 0, .int .i64 0, .int .i64 0, .int .i64 0, .int .i64 0] 85).setRow cc
 replace hV := hV.grow (((Ex.refl u5).alloc (.cells #[.int .i64 0, .int .i64 0, .int .i64 0, .int .i64 0, .int .i64 0, .int .i64 0, .int .i64 0, .int .i64 0, .int .i64 0, .int .i64 0, .int .i64 0, .int .i64 0, .int .i64 0, .int .i64 0, .int .i64 0, .int .i64 0, .int .i64 0, .int .i64 0, .int .i64 0, .int .i64 0, .int .i64 0, .int .i64 0, .int .i64 0, .int .i64 0, .int .i64 0, .int .i64 0, .int .i64 0, .int .i64 0, .int .i64 0, .int .i64 0, .int .i64 0, .int .i64 0, .int .i64 0, .int .i64 0, .int .i64 0, .int .i64 0, .int .i64 0, .int .i64 0, .int .i64 0, .int .i64 0, .int .i64 0, .int .i64 0, .int .i64 0, .int .i64 0, .int .i64 0, .int .i64 0, .int .i64 0, .int .i64 0] 85)).setRow (Nat.le_refl _) cc)
 generalize (u5.alloc (.cells #[.int .i64 0, .int .i64 0, .int .i64 0, .int .i64 0, .int .i64 0, .int .i64 0, .int .i64 0, .int .i64 0, .int .i64 0, .int .i64 0, .int .i64 0, .int .i64 0, .int .i64 0, .int .i64 0, .int .i64 0, .int .i64 0, .int .i64 0, .int .i64 0, .int .i64 0, .int .i64 0, .int .i64 0, .int .i64 0, .int .i64 0, .int .i64 0, .int .i64 0, .int .i64 0, .int .i64 0, .int .i64 0, .int .i64 0, .int .i64 0, .int .i64 0, .int .i64 0, .int .i64 0, .int .i64 0, .int .i64 0, .int .i64 0, .int .i64 0, .int .i64 0, .int .i64 0, .int .i64 0, .int .i64 0, .int .i64 0, .int .i64 0, .int .i64 0, .int .i64 0, .int .i64 0, .int .i64 0, .int .i64 0] 85)).setRow u5.heap.size cc = V6 at *
 replace hV := Zw.put hV hB6
 clear hB6
 generalize u5.heap.size = g6 at *
 clear bA bB
 have bR := hV.boxes.2.2.2.2.2.1
 have bC := hV.boxes.1
 have hE := hV.ex
 clear hV
 rcases kp with _ | _
 ·go_wp2_with (refine wpList_store_row rfl _ _ _ rfl _ _ rfl rfl _ _ bR (Xi rfl) rfl Qc ?_)
  exact Kr (Zl Tryz.results14 _ _ _ _ _ (0, 0) _ rfl (bR.setRow _) Tryz.underlying31 rfl (Xi rfl)) rfl ⟨by rw [HQ.out]; simp; rfl, hE.setRow (by omega) _⟩
 rcases kf with _ | _
 ·go_wp2_with (refine wpList_store_row rfl _ _ _ rfl _ _ rfl rfl _ _ bR (Xi rfl) rfl Qc ?_)
  exact Kr (Zl Tryz.results14 _ _ _ _ _ (0, 0) _ rfl (bR.setRow _) Tryz.underlying31 rfl (Xi rfl)) rfl ⟨by rw [HQ.out]; simp; rfl, hE.setRow (by omega) _⟩
 rcases ka with _ | _
 ·go_wp2_with (refine wpList_store_row rfl _ _ _ rfl _ _ rfl rfl _ _ bR (Xi rfl) rfl Qc ?_)
  exact Kr (Zl Tryz.results14 _ _ _ _ _ (0, 0) _ rfl (bR.setRow _) Tryz.underlying31 rfl (Xi rfl)) rfl ⟨by rw [HQ.out]; simp; rfl, hE.setRow (by omega) _⟩
 rcases kb with _ | _
 ·go_wp2_with (refine wpList_store_row rfl _ _ _ rfl _ _ rfl rfl _ _ bR (Xi rfl) rfl Qc ?_)
  exact Kr (Zl Tryz.results14 _ _ _ _ _ (0, 0) _ rfl (bR.setRow _) Tryz.underlying31 rfl (Xi rfl)) rfl ⟨by rw [HQ.out]; simp; rfl, hE.setRow (by omega) _⟩
 rcases kc with _ | _
 ·go_wp2_with (refine wpList_store_row rfl _ _ _ rfl _ _ rfl rfl _ _ bR (Xi rfl) rfl Qc ?_)
  exact Kr (Zl Tryz.results14 _ _ _ _ _ (0, 0) _ rfl (bR.setRow _) Tryz.underlying31 rfl (Xi rfl)) rfl ⟨by rw [HQ.out]; simp; rfl, hE.setRow (by omega) _⟩
 have sT1 : tc.size = 12 := by rw [← Array.length_toList]; exact sT
 have hg := HRG.out _ _ _ bC
 go_wp2_with (first | (refine wpList_load_mid rfl _ _ rfl g6 0 rfl tc.toList _ hg Tryz.underlying31 rfl (cellF4l sT) ?_) | (refine wpList_store_row rfl _ _ _ rfl _ _ rfl rfl _ _ bR (Xi sT1) (by rw [sT1]; rfl) oT ?_))
 exact Kr (Zl Tryz.results14 _ _ _ _ _ (0, 0) _ rfl (bR.setRow _) Tryz.underlying31 rfl (Xi sT1)) rfl ⟨by rw [HQ.out, htc.out]; rfl, hE.setRow (by omega) _⟩
end
section
open Go.RowKit

attribute [local go_sem] Zi Zh
theorem reading_any (bs : Nat) (bad : Bool) (t : List Fr) (ht : t.length = 4) (v : M4) (w : World) (hb : Box w bs 92 #[.bool bad]) :
  Calls Tryz.prog 58 #[.pointer (some ⟨bs, 0, none⟩), .agg (Zs t), .agg (Zs v.l)] w (Xe bs bad w (Vp t 0 v)) := by
 have HTA := Kw (fun k (hk : k < 4) => Ul t k (by omega))
 have HVA := Kw (fun k (hk : k < 4) => Ul v.l k (by simp [M4.l]; omega))
 have HR3 := Kw (Ll t 0 v)
 have hr0 : Uy t 0 v 0 = Zu (tg t 0) (tg v.l 0) := rfl
 have HRS : Hid (∀ k, Uy t 0 v (k + 1) = ((Za (Uy t 0 v k).1 (Zu (tg t (k + 1)) (tg v.l (k + 1))).1).1, (Uy t 0 v k).2 && (Zu (tg t (k + 1)) (tg v.l (k + 1))).2 && (Za (Uy t 0 v k).1 (Zu (tg t (k + 1)) (tg v.l (k + 1))).1).2)) := Kw (fun k => by rw [Uy, Nat.mul_zero, Nat.zero_add])
 obtain ⟨f0, f1, f2⟩ := HTA.out 0 (by omega)
 obtain ⟨g0, g1, g2⟩ := HVA.out 0 (by omega)
 simp only [Nat.mul_zero, Nat.zero_add] at f0 f1 f2 g0 g1 g2
 generalize Zs t = tc at *
 generalize Zs v.l = vc at *
 generalize tg t 0 = x at f0 f1 f2 hr0
 generalize tg v.l 0 = y at g0 g1 g2 hr0
 obtain ⟨x1, x2, x3⟩ := x
 obtain ⟨y1, y2, y3⟩ := y
 simp only at f0 f1 f2 g0 g1 g2
 rcases h0 : Zu ⟨x1, x2, x3⟩ ⟨y1, y2, y3⟩ with ⟨⟨a1, a2, a3⟩, ka⟩
 have HA0 : Hid (Uy t 0 v 0 = (⟨a1, a2, a3⟩, ka)) := Kw (hr0.trans h0)
 have H0 := Kw h0
 clear h0 hr0
 unfold Xe
 have hS := Zt.init hb
 have hbs := hb.lt
 go_enter Tryz.func58, Tryz.ntmps58
 go_upto_region 1 with fail
 have hS1 : Zt w (((w.alloc (.cells tc 31)).alloc (.cells vc 31)).alloc (.cells #[.int .i64 0, .int .i64 0, .int .i64 0] 30)) bs bad ((w.heap.size + 1 + 1, 30, #[.int .i64 0, .int .i64 0, .int .i64 0]) :: (w.heap.size + 1, 31, vc) :: (w.heap.size, 31, tc) :: []) := by
  have q := Zt.alloc (h := Zt.alloc (h := Zt.alloc (h := hS) (cs := tc) (t := 31)) (cs := vc) (t := 31)) (cs := #[.int .i64 0, .int .i64 0, .int .i64 0]) (t := 30)
  simpa only [Kv] using q
 clear hS
 generalize ((w.alloc (.cells tc 31)).alloc (.cells vc 31)).alloc (.cells #[.int .i64 0, .int .i64 0, .int .i64 0] 30) = W0 at *
 have hC := hS1.reads
 simp only [Zz, Zy] at hC
 go_upto_region 2 with (go_at_call 49; (with_reducible refine (Ye hS1 H0.out).mono ?_); rintro e w1 ⟨rfl, hN, -⟩; have hC := hN.reads; simp only [Zz, Zy] at hC)
 have hgw : w.heap.size ≤ w1.heap.size := hN.sm.size
 have z1 := hN.boxes.1.lt
 have z2 := hN.boxes.2.1.lt
 have z3 := hN.boxes.2.2.1.lt
 have hne : ∀ x ∈ ([(w.heap.size + 1 + 1, 30, #[.int .i64 0, .int .i64 0, .int .i64 0]), (w.heap.size + 1, 31, vc), (w.heap.size, 31, tc)] : List (Nat × TypeId × Array Value)), x.1 ≠ w1.heap.size := by
  intro x hx
  simp only [List.mem_cons, List.not_mem_nil, or_false] at hx
  rcases hx with rfl | rfl | rfl
  ·exact Nat.ne_of_lt z1
  ·exact Nat.ne_of_lt z2
  ·exact Nat.ne_of_lt z3
 have hT : Zt w (w1.alloc (.cells #[.int .i64 a1, .int .i64 a2, .int .i64 a3] 30)) bs (bad || !ka) ((w1.heap.size, 30, #[.int .i64 a1, .int .i64 a2, .int .i64 a3]) :: [(w.heap.size + 1 + 1, 30, #[.int .i64 0, .int .i64 0, .int .i64 0]), (w.heap.size + 1, 31, vc), (w.heap.size, 31, tc)]) := Zt.alloc (h := hN)
 have HNE := Kw hne
 clear hS1 hN hC z1 z2 z3 hne
 generalize hgg : w1.heap.size = ga at *
 clear f0 f1 f2 g0 g1 g2
 go_wp2_with fail
 go_loopw [8] (fun kk wy => ∃ k : Nat, kk = .int .i64 k ∧ 1 ≤ k ∧ k ≤ 4 ∧ ∃ a1 a2 a3 ka, Hid (Uy t 0 v (k - 1) = (⟨a1, a2, a3⟩, ka)) ∧ Hid (Zt w wy bs (bad || !ka) ((ga, 30, #[.int .i64 a1, .int .i64 a2, .int .i64 a3]) :: [(w.heap.size + 1 + 1, 30, #[.int .i64 0, .int .i64 0, .int .i64 0]), (w.heap.size + 1, 31, vc), (w.heap.size, 31, tc)]))) (fun kk _ => 5 - (intOf kk).toNat)
 case atStart => exact ⟨1, rfl, by omega, by omega, a1, a2, a3, ka, HA0, Kw hT⟩
 case round =>
  clear hT HA0 H0
  obtain ⟨k, rfl, hk1, hk4, b1, b2, b3, kb, HB, HS⟩ := hrel
  by_cases hk : k < 4
  ·have hkI : (k : Int) < 4 := by omega
   have hwk : IntKind.i64.wrap ((k : Int) + 1) = (k : Int) + 1 := Kq _ (by omega)
   obtain ⟨f0, f1, f2⟩ := HTA.out k (by omega)
   obtain ⟨g3, g4, g5⟩ := HVA.out k (by omega)
   have HK := Kw (HRS.out (k - 1))
   have hkk : k - 1 + 1 = k := by omega
   rw [hkk] at HK
   rw [HB.out] at HK
   rw [Nat.mul_comm 3 k] at f0 f1 f2 g3 g4 g5
   generalize tg t k = x at f0 f1 f2 HK
   generalize tg v.l k = y at g3 g4 g5 HK
   obtain ⟨x1, x2, x3⟩ := x
   obtain ⟨y1, y2, y3⟩ := y
   simp only at f0 f1 f2 g3 g4 g5 HK
   rcases h1 : Zu ⟨x1, x2, x3⟩ ⟨y1, y2, y3⟩ with ⟨⟨p1, p2, p3⟩, kp⟩
   rw [h1] at HK
   simp only at HK
   rcases h2 : Za ⟨b1, b2, b3⟩ ⟨p1, p2, p3⟩ with ⟨⟨s1, s2, s3⟩, ks⟩
   rw [h2] at HK
   simp only at HK
   have H1 := Kw h1
   have H2 := Kw h2
   clear h1 h2 hkk
   have hS := HS.out
   clear HS
   go_upto_region 5 with fail
   refine Zd (St := fun _ _ => True) 10 _ (B := fun b w2 => Zt w w2 bs b _) (by kernel_rfl) (by kernel_rfl) (hS.drewW) (by exact fun _ _ _ _ _ h => h) ?_
   iterate 9 (apply Zx; (· rfl); (· intro b wb hB Q1 hQ1; have hS := hB; have hC := hS.reads; simp only [Zz, Zy] at hC; go_wp2_with fail; exact hQ1 _ trivial hB); (· exact ⟨_, rfl⟩))
   (apply Zp; (· rfl); (· intro b wb hB Q1 hQ1; go_wp2_with (go_at_call 49; (with_reducible refine (Ye hB H1.out).mono ?_); rintro e wn ⟨rfl, hN, hM⟩); exact hQ1 _ trivial hN); (· exact ⟨_, rfl⟩))
   refine Zq ?_
   intro wz2 hz2
   clear hS
   have hC := hz2.reads
   simp only [Zz, Zy] at hC
   go_wp2_with (go_at_call 53; (with_reducible refine (Mr hz2 H2.out).mono ?_); rintro e wm ⟨rfl, hN, -⟩; have hC := hN.reads; simp only [Zz, Zy] at hC)
   have hS5 := Zt.set3 hN hgw HNE.out (.int .i64 s1) (.int .i64 s2) (.int .i64 s3)
   have ef : (bad || !kb || !kp || !ks) = (bad || !(kb && kp && ks)) := by simp [Bool.or_assoc]
   rw [ef] at hS5
   have HS5 := Kw hS5
   clear hS5 hN hC ef
   go_roundw
   case rel => exact ⟨k + 1, by go_num, by omega, by omega, s1, s2, s3, (kb && kp && ks), HK, HS5⟩
   case measure => simp [intOf] <;> omega
  ·obtain rfl : k = 4 := by omega
   have hS := HS.out
   have hC := hS.reads
   simp only [Zz, Zy] at hC
   have HTR : Hid (Vp t 0 v = (⟨b1, b2, b3⟩, kb)) := Kw (HR3.out.symm.trans HB.out)
   have hkI : ¬ ((4 : Nat) : Int) < 4 := by omega
   clear HS HB hk hk1 hk4 HRS
   go_wp2_with fail
   have hm := hS.sm
   have hs := hS.sum
   refine Kr (v := .agg #[.int .i64 b1, .int .i64 b2, .int .i64 b3]) ?_ rfl ⟨by rw [HTR.out]; rfl, ?_, ?_⟩
   ·simp [results, Tryz.results58, go_sem, hC]
   ·repeat' (first | exact hm | refine Sm.setNew ?_ (by simp <;> omega) _)
   ·rw [HTR.out]
    repeat' (first | exact hs | refine Box.far ?_ (by simp <;> omega) _)
end
section
open Go.RowKit

attribute [local go_sem] Zi Zh
end
section
open Go.RowKit

attribute [local go_sem] Zi Zh
end
section
open Go.RowKit

attribute [local go_sem] Zi Zh
theorem grown_ex {w w' : World} (h : Ex w w') (row : Option Nat) : w.grownBy w' row := ⟨h.os, h.tape, h.output, h.size, fun k hk _ => Below.block h k hk⟩
theorem Lb {bc : Nat} {w w' : World} {c : Con} {o : ByteArray} {ok told : Bool} {a : List UInt8} (hb : Box w bc 55 c.cells) (ha : answer o ok told = Bs a) (hx : Ex w w') :
  AnsGot bc w (c, a) (.returned (.tuple #[.string o, .bool ok, .bool told])) w' := ⟨o, ok, told, rfl, ha, grown_ex hx _, hb.ex hx⟩
def keepsA (b : List UInt8) : List UInt8 := if (bmatOf b).2 && mless (bmatOf b).1 then [121, 101, 115] else [110, 111, 116]
def benchR (c : Con) (s : List UInt8) : Con × List UInt8 := if (Yd s).isSome then (⟨s, c.x, c.y⟩, [111, 107]) else (c, [110, 111])
end
end Go.Proofs.YtiommfmaleeibaaGreatDoor
