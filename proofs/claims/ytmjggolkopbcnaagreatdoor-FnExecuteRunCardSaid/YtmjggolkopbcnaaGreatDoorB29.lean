/-
  Proved: what functions compute, part 29. No condition.
-/
import Derived.Test.YtmjggolkopbcnaaGreatDoorB23
import Derived.Test.YtmjggolkopbcnaaGreatDoorB28
import Derived.Test.YtmjggolkopbcnaaGreatDoorB20
import Derived.Test.YtmjggolkopbcnaaGreatDoorB19
import Derived.Test.YtmjggolkopbcnaaGreatDoorB15
import Derived.Test.YtmjggolkopbcnaaGreatDoorB05
import Derived.Test.YtmjggolkopbcnaaGreatDoorB13
import Derived.Test.YtmjggolkopbcnaaGreatDoorB16
import Derived.Test.YtmjggolkopbcnaaGreatDoorB14
set_option linter.unusedSimpArgs false
set_option linter.unusedVariables false
set_option maxRecDepth 20000
set_option maxHeartbeats 8000000
namespace Go.Proofs.YtmjggolkopbcnaaGreatDoor
section
open Go.RowKit

section
variable {σ : Type} (f : UInt8 × List Int → σ → σ × Bool) (z : σ)
def gOf (l : List UInt8) (v : σ) (ok : Bool) : σ × Bool := match Zj l with
 | some ps => if ok then grun f z ps v else (z, false)
 | none => (z, false)
theorem Qz {l : List UInt8} {qs : List Pc} {ok : Bool} (h : Zj l = if ok then some (qs.map Pc.p) else none) (v : σ) (o : Bool) : gOf f z l v o = Wl f z (qs.map Pc.p) 0 v (ok && o) := by
 unfold gOf
 rw [h]
 cases ok with
 | false => rfl
 | true => rfl
theorem Oq {qs : List Pc} {k : Nat} (hk : k < qs.length) (v : σ) (o : Bool) {x : σ} {u : Bool} (h : f qs[k].p v = (x, u)) : Wl f z (qs.map Pc.p) k v o = Wl f z (qs.map Pc.p) (k + 1) x (o && u) := by
 have e : (qs.map Pc.p)[k]'(by simpa using hk) = qs[k].p := by simp
 exact grest_step f z (ps := qs.map Pc.p) (i := k) (by simpa using hk) v o (by rw [e]; exact h)
theorem Sl {qs : List Pc} (v : σ) (o : Bool) : Wl f z (qs.map Pc.p) qs.length v o = if o then (v, true) else (z, false) := by
 have := grest_end f z (qs.map Pc.p) v o
 rwa [List.length_map] at this
end
theorem bmatOf_g (l : List UInt8) : Xo l = gOf Un M4.none l Rv true := by
 unfold Xo gOf
 cases Zj l <;> rfl
theorem brunOf_g (l : List UInt8) (x y : Fr) : Wx l x y = gOf Ov (Fr.none, Fr.none) l (x, y) (x.valid && y.valid) := by
 unfold Wx gOf
 cases Zj l <;> rfl
def BnW (cells : List Pc → List Value) (w : World) (l : List UInt8) : Ending → World → Prop := fun e w' =>
 ∃ (qs : List Pc) (A : Option Addr) (cap : Nat) (ok : Bool), e = .returned (.tuple #[.slice A qs.length cap, .bool ok]) ∧ qs.length ≤ 12 ∧ Slc w' A (cells qs) ∧ Pcs w' qs ∧ Ex w w' ∧
  Hid (Zj l = if ok then some (qs.map Pc.p) else none) ∧ Hid (∀ q ∈ qs, Yv q.k q.ns = true)
theorem Tg.w {w : World} {l : List UInt8} {f : FuncId} {args : Array Value} (h : Calls Tryz.prog f args w (Tg Yb w l)) : Calls Tryz.prog f args w (BnW Yb w l) := by
 refine h.mono ?_
 rintro e w' (⟨qs, A, cap, hb, rfl, hs, hp, hx⟩ | ⟨hb, rfl, hx⟩)
 ·exact ⟨qs, A, cap, true, rfl, by simpa using (Xa hb).2.2, hs, hp, hx, Oi hb, Oi fun q hq => Sr hb q.p (List.mem_map_of_mem hq)⟩
 ·exact ⟨[], none, 0, false, rfl, by simp, Slc.nil _ _, Pcs.nil _, hx, Oi hb, Oi fun q hq => by cases hq⟩
def I64s (cs : Array Value) : Prop := ∀ (i : Nat) (v : Value), cs[i]? = some v → ∃ n : Int, v = .int .i64 n
theorem Sk (l : List Fr) : I64s (Yh l) := by
 intro i v h
 have h2 : v ∈ l.flatMap frv3 := by
  have := Array.mem_of_getElem? h
  simpa [Yh] using this
 obtain ⟨x, -, hx⟩ := List.mem_flatMap.1 h2
 simp only [frv3, List.mem_cons, List.not_mem_nil, or_false] at hx
 rcases hx with rfl | rfl | rfl <;> exact ⟨_, rfl⟩
def Byte1 (cells : List Value) : Prop := ∀ v : Value, cells[0]? = some v → ∃ n : Int, v = .int .u8 n
theorem Qk (qs : List Pc) : Byte1 (Yb qs) := by
 intro v h
 cases qs with
 | nil => simp [Yb] at h
 | cons q t => simp [Yb, Pc.ci] at h; exact ⟨_, h.symm⟩
theorem cellsS_byte (qs : List Pc) : Byte1 (Xt qs) := by
 intro v h
 cases qs with
 | nil => simp [Xt] at h
 | cons q t => simp [Xt, Pc.cs] at h; exact ⟨_, h.symm⟩
theorem Qa {w : World} {g b i : Nat} {x : Array Value} (h : b ≠ g) : (w.setRow g x).cell? ⟨b, i, none⟩ = w.cell? ⟨b, i, none⟩ := by
 unfold World.cell?
 simp only [setRow_other w g b x h]
theorem Rs (v : M4) : (Yh v.l).size = 12 := rfl
structure BM (w wr : World) (T : TypeId) (nr na : Nat) (z : Array Value) (A : Option Addr) (cells : List Value) (qs : List Pc) (vc : Array Value) : Prop where
 sees : Zw w wr [(nr, T, z), (na, T, vc)]
 slc : Slc wr A cells
 pcs : Pcs wr qs
section
variable {w wr w2 : World} {T : TypeId} {nr na : Nat} {z : Array Value} {A : Option Addr} {cells : List Value} {qs : List Pc} {vc : Array Value}
theorem BM.ex (h : BM w wr T nr na z A cells qs vc) (hx : Ex wr w2) : BM w w2 T nr na z A cells qs vc := ⟨Zw.after (h := h.sees) hx, h.slc.ex hx, h.pcs.ex hx⟩
theorem BM.store (h : BM w wr T nr na z A cells qs vc) (hlo : w.heap.size ≤ na) (hne : nr ≠ na) (hT : T ≠ 3) (hv : I64s vc) (hc : Byte1 cells) (x : Array Value) : BM w (wr.setRow na x) T nr na z A cells qs x := by
 have hb := h.sees.boxes.2.1
 refine ⟨⟨h.sees.ex.setRow hlo x, h.sees.boxes.1.setRow_far hne x, hb.setRow x, trivial⟩, ?_, fun q hq => ⟨(h.pcs q hq).1.setRow_far ?_ x, (h.pcs q hq).2⟩⟩
 ·intro hp
  obtain ⟨b, off, rfl, hk⟩ := h.slc hp
  refine ⟨b, off, rfl, fun k hlt => ?_⟩
  have hne : b ≠ na := by
   intro e
   subst e
   have h0 := hk 0 hp
   rw [Nat.add_zero, hb.cell, List.getElem?_eq_getElem hp] at h0
   obtain ⟨n, hn⟩ := hv _ _ h0
   obtain ⟨m, hm⟩ := hc _ (List.getElem?_eq_getElem hp)
   rw [hn] at hm
   injection hm with hm
   cases hm
  rw [Qa hne]
  exact hk k hlt
 ·intro e
  have h1 := (h.pcs q hq).1
  rw [e] at h1
  unfold Box at h1 hb
  rw [hb] at h1
  simp only [Option.some.injEq, Obj.cells.injEq] at h1
  exact hT h1.2.1
end
theorem Wo {cs : Array Value} (h : cs.size = 12) : (Tryz.prog.info? 30).map (·.size) = some cs.size := by rw [h]; kernel_rfl
theorem Oo {cs : Array Value} (h : cs.size = 6) : (Tryz.prog.info? 47).map (·.size) = some cs.size := by rw [h]; kernel_rfl
end
section
open Go.RowKit

attribute [local go_sem] Zq Zp
theorem Rq (m : M4) (w : World) [hG : Ym w] : Calls Tryz.prog 11 #[m.v] w (fun e w' => e = .returned (.bool (mless m)) ∧ Ex w w') := by
 have k1 := fun w => Wd m w
 rcases h1 : Wz m with ⟨b, okb⟩
 have k2 := fun w => Xi m b w
 rcases h2 : Zl m b with ⟨p, okp⟩
 have hq := fun w => eqlMt p Rv w
 have hr : mless m = (okp && decide (p = Rv)) := by
  unfold mless
  rw [h1]
  simp only
  rw [h2]
 rw [hr]
 rw [h1] at k1
 rw [h2] at k2
 clear hr h1 h2
 generalize decide (p = Rv) = d at hq ⊢
 obtain ⟨⟨m1, m2, m3⟩, ⟨m4, m5, m6⟩, ⟨m7, m8, m9⟩, ⟨n1, n2, n3⟩⟩ := m
 obtain ⟨⟨b1, b2, b3⟩, ⟨b4, b5, b6⟩, ⟨b7, b8, b9⟩, ⟨c1, c2, c3⟩⟩ := b
 obtain ⟨⟨p1, p2, p3⟩, ⟨p4, p5, p6⟩, ⟨p7, p8, p9⟩, ⟨q1, q2, q3⟩⟩ := p
 simp only [m4v, M4.v, Rv, Fr.one, Fr.nul] at k1 k2 hq ⊢
 have K1 := Oi k1
 have K2 := Oi k2
 clear k1 k2
 have hS := Zw.refl w
 have hC := True.intro
 have hg := hG.reads
 rcases okp with _ | _
 ·clear hq
  go_enter Tryz.func11, Tryz.ntmps11
  go_wp2_with ((first | (go_at_call 36; (with_reducible refine (K1.out _).mono ?_); rintro e wn ⟨rfl, hx⟩; replace hS := Zw.after (W := w) hx; replace hG := Ym.after hx; clear hx; replace hC := hS.reads; simp only [Zz, Zy, Oh] at hC; replace hg := hG.reads) | (go_at_call 35; (with_reducible refine (K2.out _).mono ?_); rintro e wn ⟨rfl, hx⟩; replace hS := Zw.after (W := w) hx; replace hG := Ym.after hx; clear hx; replace hC := hS.reads; simp only [Zz, Zy, Oh] at hC; replace hg := hG.reads)))
  refine Od ?_ rfl ⟨rfl, ?_⟩
  ·simp [results, Tryz.results11, go_sem, hC]
  ·repeat' (with_reducible first | exact hS.ex | exact Ex.refl _ | assumption | apply Ex.alloc | apply Ex.drewN | apply Ex.drew | refine Ex.setCell ?_ (by simp <;> omega) _)
 ·go_enter Tryz.func11, Tryz.ntmps11
  go_wp2_with (first | (simp only [hq]) | (first | (go_at_call 36; (with_reducible refine (K1.out _).mono ?_); rintro e wn ⟨rfl, hx⟩; replace hS := Zw.after (W := w) hx; replace hG := Ym.after hx; clear hx; replace hC := hS.reads; simp only [Zz, Zy, Oh] at hC; replace hg := hG.reads) | (go_at_call 35; (with_reducible refine (K2.out _).mono ?_); rintro e wn ⟨rfl, hx⟩; replace hS := Zw.after (W := w) hx; replace hG := Ym.after hx; clear hx; replace hC := hS.reads; simp only [Zz, Zy, Oh] at hC; replace hg := hG.reads)))
  refine Od ?_ rfl ⟨rfl, ?_⟩
  ·simp [results, Tryz.results11, go_sem, hC]
  ·repeat' (with_reducible first | exact hS.ex | exact Ex.refl _ | assumption | apply Ex.alloc | apply Ex.drewN | apply Ex.drew | refine Ex.setCell ?_ (by simp <;> omega) _)
theorem Ty (l : List UInt8) (hl : l.length ≤ 1048576) (w : World) (hm : Xm w) : Calls Tryz.prog 13 #[.string (Bs l)] w fun e w' => e = .returned (.int .i64 (Wk l)) ∧ Ex w w' := by
 have KB := Oi (Tg.w (Ua l hl w hm))
 obtain ⟨n, HN⟩ : ∃ n, Hid (n = Wk l) := ⟨_, Oi rfl⟩
 rw [← HN.out]
 generalize Bs l = S at *
 clear hm hl
 go_enter Tryz.func13, Tryz.ntmps13
 go_wp2_with fail
 refine KB.out.mono ?_
 rintro e w1 ⟨qs, A, cap, ok0, rfl, hq12, hsl, hps, hx, HBR, HPV⟩
 rcases ok0 with _ | _
 ·have hn : n = -1 := by rw [HN.out]; unfold Wk; rw [HBR.out]; rfl
  subst hn
  clear HN HBR HPV hsl hps KB
  go_wp2
  go_ret
  exact ⟨rfl, hx⟩
 ·have hn : n = (qs.length : Nat) := by rw [HN.out]; unfold Wk; rw [HBR.out]; simp
  subst hn
  clear HN HBR HPV hsl hps KB
  go_wp2
  go_ret
  exact ⟨rfl, hx⟩
theorem Qj (l : List UInt8) (hl : l.length ≤ 1048576) (w : World) (hm : Xm w) : Calls Tryz.prog 7 #[.string (Bs l)] w fun e w' => e = .returned (.bool (Zj l).isSome) ∧ Ex w w' := by
 have KB := Oi (Tg.w (Ua l hl w hm))
 obtain ⟨n, HN⟩ : ∃ n, Hid (n = (Zj l).isSome) := ⟨_, Oi rfl⟩
 rw [← HN.out]
 generalize Bs l = S at *
 clear hm hl
 go_enter Tryz.func7, Tryz.ntmps7
 go_wp2_with fail
 refine KB.out.mono ?_
 rintro e w1 ⟨qs, A, cap, ok0, rfl, hq12, hsl, hps, hx, HBR, HPV⟩
 have hn : n = ok0 := by rw [HN.out, HBR.out]; cases ok0 <;> rfl
 subst hn
 clear HN HBR HPV hsl hps KB
 go_wp2
 go_ret
 exact ⟨rfl, hx⟩
end
section
open Go.RowKit

attribute [local go_sem] Zq Zp
theorem iShare (k : Int) (g n cap : Nat) (cur : Array Value) (S : ByteArray) (a b : Int) (hn : 2 ≤ n) (ha : -1000000 ≤ a ∧ a ≤ 1000000) (hb : 1 ≤ b ∧ b ≤ 1000000) (w : World) (hbox : Box w g 3 cur) (c0 : cur[0]? = some (.int .i64 a)) (c1 : cur[1]? = some (.int .i64 b)) : Calls Tryz.prog 91 #[.agg #[.int .u8 k, .slice (some ⟨g, 0, none⟩) n cap, .string S]] w (fun e w' => e = .returned (flow a 0 b).1.v ∧ Ex w w') := by
 have k0 := fun w => Vi a 0 b w (by omega) (by omega) (by omega)
 rcases hf : flow a 0 b with ⟨⟨f1, f2, f3⟩, ok⟩
 rw [hf] at k0
 have k1 : ∀ w, Calls Tryz.prog 119 #[.int .i64 a, .int .i64 0, .int .i64 b] w _ := fun w => Yc.spell (k0 w)
 clear k0
 have KF := Oi k1
 clear k1
 have hR : Zw w w [(g, 3, cur)] := ⟨Ex.refl w, hbox, trivial⟩
 have n1 : (0 : Int) < n := by omega
 have n2 : (1 : Int) < n := by omega
 clear hbox ha hb
 go_enter Tryz.func91, Tryz.ntmps91
 go_upto_region 1 with fail
 have hS : Zw w ((w.alloc (.cells #[.int .u8 k, .slice (some ⟨g, 0, none⟩) n cap, .string S] 85)).alloc (.cells #[.int .i64 0, .int .i64 0, .int .i64 0] 27)) _ := inferInstance
 clear hR
 simp only [Oh] at hS
 generalize (w.alloc (.cells #[.int .u8 k, .slice (some ⟨g, 0, none⟩) n cap, .string S] 85)).alloc (.cells #[.int .i64 0, .int .i64 0, .int .i64 0] 27) = W0 at *
 have hS0 := hS
 refine Zm (St := Ex) (B := fun _ w' => InE _ _ w') 12 1 1 _ 27 (fun _ => 3) (fun _ => 15) (fun _ => #[.int .i64 0, .int .i64 0, .int .i64 0]) (fun _ => #[.int .i64 f1, .int .i64 f2, .int .i64 f3]) false (by kernel_rfl) (by kernel_rfl) (InE.drew (InE.start hS0)) (fun x y h1 h2 _ => by omega) (fun x y _ _ => by decide) (fun _ _ h g cs _ hb => hb.ex h) (fun _ _ cs h => h.alloc _) (fun _ _ h => h.size) ?_
 iterate 8 (apply Zx; (· rfl); (· intro b wb hB Q1 hQ1; have hC := hB.sees.reads; simp only [Zz, Zy] at hC; go_wp2_with fail; exact hQ1 _ (Ex.refl _) hB); (· exact ⟨_, rfl⟩))
 (apply Zx; (· rfl); (· intro b wb hB Q1 hQ1; go_wp2_with (go_at_call 119; (with_reducible refine (KF.out _).mono ?_); rintro e wn ⟨rfl, hx⟩); exact hQ1 _ hx (hB.go hx)); (· exact ⟨_, rfl⟩))
 iterate 3 (apply Zx; (· rfl); (· intro b wb hB Q1 hQ1; go_wp2_with fail; exact hQ1 _ (Ex.refl _) hB); (· exact ⟨_, rfl⟩))
 refine Zv ?_
 refine ⟨fun i hi => ?_, fun i hi => ?_, fun i hi => ?_, fun gg wz hz hbx hne => ?_⟩
 ·obtain rfl : i = 0 := by omega
  all_goals exact ⟨_, rfl, Yt⟩
 ·obtain rfl : i = 0 := by omega
  all_goals exact ⟨_, rfl, Zf Yn rfl (by kernel_rfl) (fun _ _ _ hg h => h.setRow hg _)⟩
 ·obtain rfl : i = 0 := by omega
  ·exact (show (3 : Nat) < 18 by decide)
 obtain ⟨hg0, hb0⟩ := hbx 0 (by omega)
 replace hS := InE.join hS0 hz
 replace hS := Zw.put hS hb0
 simp only [frN, Act.put, Og, Of, Oe, Nat.reduceAdd, List.drop_succ_cons, List.drop_zero]
 generalize gg 0 = g0 at *
 clear hbx hz hS0 hne
 have hC := hS.reads
 simp only [Zz, Zy] at hC
 have hE := hS.ex
 go_wp2_with fail
 refine Od (v := .agg #[.int .i64 f1, .int .i64 f2, .int .i64 f3]) ?_ rfl ⟨rfl, ?_⟩
 ·simp [results, Tryz.results91, go_sem, hC]
 ·repeat' (with_reducible first | exact hE | refine Ex.setCell ?_ (by simp <;> omega) _)
theorem sShare (k : Int) (g n cap : Nat) (cur : Array Value) (a b : Int) (hn : 2 ≤ n) (ha : -1000000 ≤ a ∧ a ≤ 1000000) (hb : 1 ≤ b ∧ b ≤ 1000000) (w : World) (hbox : Box w g 3 cur) (c0 : cur[0]? = some (.int .i64 a)) (c1 : cur[1]? = some (.int .i64 b)) : Calls Tryz.prog 123 #[.agg #[.int .u8 k, .slice (some ⟨g, 0, none⟩) n cap]] w (fun e w' => e = .returned (flow a 0 b).1.v ∧ Ex w w') := by
 have k1 := fun w => Rd a 0 b w (by omega) (by omega) (by omega)
 rcases hf : flow a 0 b with ⟨⟨f1, f2, f3⟩, ok⟩
 rw [hf] at k1
 simp only [frv, Fr.v] at k1
 have KF := Oi k1
 clear k1
 have hR : Zw w w [(g, 3, cur)] := ⟨Ex.refl w, hbox, trivial⟩
 have n1 : (0 : Int) < n := by omega
 have n2 : (1 : Int) < n := by omega
 clear hbox ha hb
 go_enter Tryz.func123, Tryz.ntmps123
 go_upto_region 1 with fail
 have hS : Zw w ((w.alloc (.cells #[.int .u8 k, .slice (some ⟨g, 0, none⟩) n cap] 115)).alloc (.cells #[.int .i64 0, .int .i64 0, .int .i64 0] 27)) _ := inferInstance
 clear hR
 simp only [Oh] at hS
 generalize (w.alloc (.cells #[.int .u8 k, .slice (some ⟨g, 0, none⟩) n cap] 115)).alloc (.cells #[.int .i64 0, .int .i64 0, .int .i64 0] 27) = W0 at *
 have hS0 := hS
 refine Zm (St := Ex) (B := fun _ w' => InE _ _ w') 12 1 1 _ 27 (fun _ => 3) (fun _ => 15) (fun _ => #[.int .i64 0, .int .i64 0, .int .i64 0]) (fun _ => #[.int .i64 f1, .int .i64 f2, .int .i64 f3]) false (by kernel_rfl) (by kernel_rfl) (InE.drew (InE.start hS0)) (fun x y h1 h2 _ => by omega) (fun x y _ _ => by decide) (fun _ _ h g cs _ hb => hb.ex h) (fun _ _ cs h => h.alloc _) (fun _ _ h => h.size) ?_
 iterate 8 (apply Zx; (· rfl); (· intro b wb hB Q1 hQ1; have hC := hB.sees.reads; simp only [Zz, Zy] at hC; go_wp2_with fail; exact hQ1 _ (Ex.refl _) hB); (· exact ⟨_, rfl⟩))
 (apply Zx; (· rfl); (· intro b wb hB Q1 hQ1; go_wp2_with (go_at_call 154; (with_reducible refine (KF.out _).mono ?_); rintro e wn ⟨rfl, hx⟩); exact hQ1 _ hx (hB.go hx)); (· exact ⟨_, rfl⟩))
 iterate 3 (apply Zx; (· rfl); (· intro b wb hB Q1 hQ1; go_wp2_with fail; exact hQ1 _ (Ex.refl _) hB); (· exact ⟨_, rfl⟩))
 refine Zv ?_
 refine ⟨fun i hi => ?_, fun i hi => ?_, fun i hi => ?_, fun gg wz hz hbx hne => ?_⟩
 ·obtain rfl : i = 0 := by omega
  all_goals exact ⟨_, rfl, Yt⟩
 ·obtain rfl : i = 0 := by omega
  all_goals exact ⟨_, rfl, Zf Yn rfl (by kernel_rfl) (fun _ _ _ hg h => h.setRow hg _)⟩
 ·obtain rfl : i = 0 := by omega
  ·exact (show (3 : Nat) < 18 by decide)
 obtain ⟨hg0, hb0⟩ := hbx 0 (by omega)
 replace hS := InE.join hS0 hz
 replace hS := Zw.put hS hb0
 simp only [frN, Act.put, Og, Of, Oe, Nat.reduceAdd, List.drop_succ_cons, List.drop_zero]
 generalize gg 0 = g0 at *
 clear hbx hz hS0 hne
 have hC := hS.reads
 simp only [Zz, Zy] at hC
 have hE := hS.ex
 go_wp2_with fail
 refine Od (v := .agg #[.int .i64 f1, .int .i64 f2, .int .i64 f3]) ?_ rfl ⟨rfl, ?_⟩
 ·simp [results, Tryz.results123, go_sem, hC]
 ·repeat' (with_reducible first | exact hE | refine Ex.setCell ?_ (by simp <;> omega) _)
end
section
open Go.RowKit

attribute [local go_sem] Zq Zp
theorem iMat_r (g n cap : Nat) (cur : Array Value) (S : ByteArray) (a b : Int) (hn : 2 ≤ n) (w : World) [hG : Ym w] (hbox : Box w g 3 cur) (c0 : cur[0]? = some (.int .i64 a)) (c1 : cur[1]? = some (.int .i64 b)) : Calls Tryz.prog 34 #[.agg #[.int .u8 114, .slice (some ⟨g, 0, none⟩) n cap, .string S]] w (fun e w' => e = .returned (m4v (Zg a b)) ∧ Ex w w') := by
 have k1 := fun w => Wq a b w
 rcases hf : Zg a b with ⟨⟨⟨x1, x2, x3⟩, ⟨x4, x5, x6⟩, ⟨x7, x8, x9⟩, ⟨y1, y2, y3⟩⟩, ok⟩
 rw [hf] at k1
 simp only [m4v, M4.v] at k1
 have KF := Oi k1
 clear k1
 have hR : Zw w w [(g, 3, cur)] := ⟨Ex.refl w, hbox, trivial⟩
 have n1 : (0 : Int) < n := by omega
 have n2 : (1 : Int) < n := by omega
 clear hbox
 go_enter Tryz.func34, Tryz.ntmps34
 go_upto_region 3 with fail
 have hS : Zw w ((w.alloc (.cells #[.int .u8 114, .slice (some ⟨g, 0, none⟩) n cap, .string S] 85)).alloc (.cells #[.int .i64 0, .int .i64 0, .int .i64 0, .int .i64 0, .int .i64 0, .int .i64 0, .int .i64 0, .int .i64 0, .int .i64 0, .int .i64 0, .int .i64 0, .int .i64 0] 30)) _ := inferInstance
 clear hR
 simp only [Oh] at hS
 generalize (w.alloc (.cells #[.int .u8 114, .slice (some ⟨g, 0, none⟩) n cap, .string S] 85)).alloc (.cells #[.int .i64 0, .int .i64 0, .int .i64 0, .int .i64 0, .int .i64 0, .int .i64 0, .int .i64 0, .int .i64 0, .int .i64 0, .int .i64 0, .int .i64 0, .int .i64 0] 30) = W0 at *
 refine Zn (St := fun _ _ => True) 11 false (B := fun _ w2 => Zw w w2 [(w.heap.size + 1, 30, #[.int .i64 0, .int .i64 0, .int .i64 0, .int .i64 0, .int .i64 0, .int .i64 0, .int .i64 0, .int .i64 0, .int .i64 0, .int .i64 0, .int .i64 0, .int .i64 0]), (w.heap.size, 85, #[.int .u8 114, .slice (some ⟨g, 0, none⟩) n cap, .string S]), (g, 3, cur)]) (by kernel_rfl) (by kernel_rfl) (hS.drewW) (by exact fun _ _ _ _ _ h => h) ?_
 iterate 8 (apply Zx; (· rfl); (· intro b wb hB Q1 hQ1; have hS := hB; have hC := hS.reads; simp only [Zz, Zy] at hC; go_wp2_with fail; exact hQ1 _ trivial hB); (· exact ⟨_, rfl⟩))
 (apply Zx; (· rfl); (· intro b wb hB Q1 hQ1; go_wp2_with (go_at_call 90; (with_reducible refine (KF.out _).mono ?_); rintro e wn ⟨rfl, hx⟩); exact hQ1 _ trivial (hB.go hx)); (· exact ⟨_, rfl⟩))
 iterate 2 (apply Zx; (· rfl); (· intro b wb hB Q1 hQ1; go_wp2_with fail; exact hQ1 _ trivial hB); (· exact ⟨_, rfl⟩))
 refine Zv ?_
 intro wz hz
 clear hS
 have hS := hz
 have hC := hS.reads
 simp only [Zz, Zy] at hC
 have hE := hS.ex
 go_wp2_with fail
 refine Od (v := .tuple #[.agg #[.int .i64 x1, .int .i64 x2, .int .i64 x3, .int .i64 x4, .int .i64 x5, .int .i64 x6, .int .i64 x7, .int .i64 x8, .int .i64 x9, .int .i64 y1, .int .i64 y2, .int .i64 y3], .bool ok]) ?_ rfl ⟨rfl, ?_⟩
 ·simp [results, Tryz.results34, go_sem, hC]
 ·repeat' (with_reducible first | exact hE | refine Ex.setCell ?_ (by simp <;> omega) _)
theorem sMat_r (g n cap : Nat) (cur : Array Value) (a b : Int) (hn : 2 ≤ n) (w : World) (hbox : Box w g 3 cur) (c0 : cur[0]? = some (.int .i64 a)) (c1 : cur[1]? = some (.int .i64 b)) : Calls Tryz.prog 64 #[.agg #[.int .u8 114, .slice (some ⟨g, 0, none⟩) n cap]] w (fun e w' => e = .returned (m4v (Zg a b)) ∧ Ex w w') := by
 have k1 := fun w => Qm a b w
 rcases hf : Zg a b with ⟨⟨⟨x1, x2, x3⟩, ⟨x4, x5, x6⟩, ⟨x7, x8, x9⟩, ⟨y1, y2, y3⟩⟩, ok⟩
 rw [hf] at k1
 simp only [m4v, M4.v] at k1
 have KF := Oi k1
 clear k1
 have hR : Zw w w [(g, 3, cur)] := ⟨Ex.refl w, hbox, trivial⟩
 have n1 : (0 : Int) < n := by omega
 have n2 : (1 : Int) < n := by omega
 clear hbox
 go_enter Tryz.func64, Tryz.ntmps64
 go_upto_region 3 with fail
 have hS : Zw w ((w.alloc (.cells #[.int .u8 114, .slice (some ⟨g, 0, none⟩) n cap] 115)).alloc (.cells #[.int .i64 0, .int .i64 0, .int .i64 0, .int .i64 0, .int .i64 0, .int .i64 0, .int .i64 0, .int .i64 0, .int .i64 0, .int .i64 0, .int .i64 0, .int .i64 0] 30)) _ := inferInstance
 clear hR
 simp only [Oh] at hS
 generalize (w.alloc (.cells #[.int .u8 114, .slice (some ⟨g, 0, none⟩) n cap] 115)).alloc (.cells #[.int .i64 0, .int .i64 0, .int .i64 0, .int .i64 0, .int .i64 0, .int .i64 0, .int .i64 0, .int .i64 0, .int .i64 0, .int .i64 0, .int .i64 0, .int .i64 0] 30) = W0 at *
 refine Zn (St := fun _ _ => True) 11 false (B := fun _ w2 => Zw w w2 [(w.heap.size + 1, 30, #[.int .i64 0, .int .i64 0, .int .i64 0, .int .i64 0, .int .i64 0, .int .i64 0, .int .i64 0, .int .i64 0, .int .i64 0, .int .i64 0, .int .i64 0, .int .i64 0]), (w.heap.size, 115, #[.int .u8 114, .slice (some ⟨g, 0, none⟩) n cap]), (g, 3, cur)]) (by kernel_rfl) (by kernel_rfl) (hS.drewW) (by exact fun _ _ _ _ _ h => h) ?_
 iterate 8 (apply Zx; (· rfl); (· intro b wb hB Q1 hQ1; have hS := hB; have hC := hS.reads; simp only [Zz, Zy] at hC; go_wp2_with fail; exact hQ1 _ trivial hB); (· exact ⟨_, rfl⟩))
 (apply Zx; (· rfl); (· intro b wb hB Q1 hQ1; go_wp2_with (go_at_call 101; (with_reducible refine (KF.out _).mono ?_); rintro e wn ⟨rfl, hx⟩); exact hQ1 _ trivial (hB.go hx)); (· exact ⟨_, rfl⟩))
 iterate 2 (apply Zx; (· rfl); (· intro b wb hB Q1 hQ1; go_wp2_with fail; exact hQ1 _ trivial hB); (· exact ⟨_, rfl⟩))
 refine Zv ?_
 intro wz hz
 clear hS
 have hS := hz
 have hC := hS.reads
 simp only [Zz, Zy] at hC
 have hE := hS.ex
 go_wp2_with fail
 refine Od (v := .tuple #[.agg #[.int .i64 x1, .int .i64 x2, .int .i64 x3, .int .i64 x4, .int .i64 x5, .int .i64 x6, .int .i64 x7, .int .i64 x8, .int .i64 x9, .int .i64 y1, .int .i64 y2, .int .i64 y3], .bool ok]) ?_ rfl ⟨rfl, ?_⟩
 ·simp [results, Tryz.results64, go_sem, hC]
 ·repeat' (with_reducible first | exact hE | refine Ex.setCell ?_ (by simp <;> omega) _)
theorem iMat_f (g n cap : Nat) (cur : Array Value) (S : ByteArray) (a b : Int) (hn : 2 ≤ n) (w : World) [hG : Ym w] (hbox : Box w g 3 cur) (c0 : cur[0]? = some (.int .i64 a)) (c1 : cur[1]? = some (.int .i64 b)) : Calls Tryz.prog 34 #[.agg #[.int .u8 102, .slice (some ⟨g, 0, none⟩) n cap, .string S]] w (fun e w' => e = .returned (m4v (Xq a b)) ∧ Ex w w') := by
 have k1 := fun w => iMatFilter a b w
 rcases hf : Xq a b with ⟨⟨⟨x1, x2, x3⟩, ⟨x4, x5, x6⟩, ⟨x7, x8, x9⟩, ⟨y1, y2, y3⟩⟩, ok⟩
 rw [hf] at k1
 simp only [m4v, M4.v] at k1
 have KF := Oi k1
 clear k1
 have hR : Zw w w [(g, 3, cur)] := ⟨Ex.refl w, hbox, trivial⟩
 have n1 : (0 : Int) < n := by omega
 have n2 : (1 : Int) < n := by omega
 clear hbox
 go_enter Tryz.func34, Tryz.ntmps34
 go_upto_region 7 with fail
 have hS : Zw w ((w.alloc (.cells #[.int .u8 102, .slice (some ⟨g, 0, none⟩) n cap, .string S] 85)).alloc (.cells #[.int .i64 0, .int .i64 0, .int .i64 0, .int .i64 0, .int .i64 0, .int .i64 0, .int .i64 0, .int .i64 0, .int .i64 0, .int .i64 0, .int .i64 0, .int .i64 0] 30)) _ := inferInstance
 clear hR
 simp only [Oh] at hS
 generalize (w.alloc (.cells #[.int .u8 102, .slice (some ⟨g, 0, none⟩) n cap, .string S] 85)).alloc (.cells #[.int .i64 0, .int .i64 0, .int .i64 0, .int .i64 0, .int .i64 0, .int .i64 0, .int .i64 0, .int .i64 0, .int .i64 0, .int .i64 0, .int .i64 0, .int .i64 0] 30) = W0 at *
 refine Zn (St := fun _ _ => True) 11 false (B := fun _ w2 => Zw w w2 [(w.heap.size + 1, 30, #[.int .i64 0, .int .i64 0, .int .i64 0, .int .i64 0, .int .i64 0, .int .i64 0, .int .i64 0, .int .i64 0, .int .i64 0, .int .i64 0, .int .i64 0, .int .i64 0]), (w.heap.size, 85, #[.int .u8 102, .slice (some ⟨g, 0, none⟩) n cap, .string S]), (g, 3, cur)]) (by kernel_rfl) (by kernel_rfl) (hS.drewW) (by exact fun _ _ _ _ _ h => h) ?_
 iterate 8 (apply Zx; (· rfl); (· intro b wb hB Q1 hQ1; have hS := hB; have hC := hS.reads; simp only [Zz, Zy] at hC; go_wp2_with fail; exact hQ1 _ trivial hB); (· exact ⟨_, rfl⟩))
 (apply Zx; (· rfl); (· intro b wb hB Q1 hQ1; go_wp2_with (go_at_call 39; (with_reducible refine (KF.out _).mono ?_); rintro e wn ⟨rfl, hx⟩); exact hQ1 _ trivial (hB.go hx)); (· exact ⟨_, rfl⟩))
 iterate 2 (apply Zx; (· rfl); (· intro b wb hB Q1 hQ1; go_wp2_with fail; exact hQ1 _ trivial hB); (· exact ⟨_, rfl⟩))
 refine Zv ?_
 intro wz hz
 clear hS
 have hS := hz
 have hC := hS.reads
 simp only [Zz, Zy] at hC
 have hE := hS.ex
 go_wp2_with fail
 refine Od (v := .tuple #[.agg #[.int .i64 x1, .int .i64 x2, .int .i64 x3, .int .i64 x4, .int .i64 x5, .int .i64 x6, .int .i64 x7, .int .i64 x8, .int .i64 x9, .int .i64 y1, .int .i64 y2, .int .i64 y3], .bool ok]) ?_ rfl ⟨rfl, ?_⟩
 ·simp [results, Tryz.results34, go_sem, hC]
 ·repeat' (with_reducible first | exact hE | refine Ex.setCell ?_ (by simp <;> omega) _)
theorem sMat_f (g n cap : Nat) (cur : Array Value) (a b : Int) (hn : 2 ≤ n) (w : World) (hbox : Box w g 3 cur) (c0 : cur[0]? = some (.int .i64 a)) (c1 : cur[1]? = some (.int .i64 b)) : Calls Tryz.prog 64 #[.agg #[.int .u8 102, .slice (some ⟨g, 0, none⟩) n cap]] w (fun e w' => e = .returned (m4v (Xq a b)) ∧ Ex w w') := by
 have k1 := fun w => sMatFilter a b w
 rcases hf : Xq a b with ⟨⟨⟨x1, x2, x3⟩, ⟨x4, x5, x6⟩, ⟨x7, x8, x9⟩, ⟨y1, y2, y3⟩⟩, ok⟩
 rw [hf] at k1
 simp only [m4v, M4.v] at k1
 have KF := Oi k1
 clear k1
 have hR : Zw w w [(g, 3, cur)] := ⟨Ex.refl w, hbox, trivial⟩
 have n1 : (0 : Int) < n := by omega
 have n2 : (1 : Int) < n := by omega
 clear hbox
 go_enter Tryz.func64, Tryz.ntmps64
 go_upto_region 7 with fail
 have hS : Zw w ((w.alloc (.cells #[.int .u8 102, .slice (some ⟨g, 0, none⟩) n cap] 115)).alloc (.cells #[.int .i64 0, .int .i64 0, .int .i64 0, .int .i64 0, .int .i64 0, .int .i64 0, .int .i64 0, .int .i64 0, .int .i64 0, .int .i64 0, .int .i64 0, .int .i64 0] 30)) _ := inferInstance
 clear hR
 simp only [Oh] at hS
 generalize (w.alloc (.cells #[.int .u8 102, .slice (some ⟨g, 0, none⟩) n cap] 115)).alloc (.cells #[.int .i64 0, .int .i64 0, .int .i64 0, .int .i64 0, .int .i64 0, .int .i64 0, .int .i64 0, .int .i64 0, .int .i64 0, .int .i64 0, .int .i64 0, .int .i64 0] 30) = W0 at *
 refine Zn (St := fun _ _ => True) 11 false (B := fun _ w2 => Zw w w2 [(w.heap.size + 1, 30, #[.int .i64 0, .int .i64 0, .int .i64 0, .int .i64 0, .int .i64 0, .int .i64 0, .int .i64 0, .int .i64 0, .int .i64 0, .int .i64 0, .int .i64 0, .int .i64 0]), (w.heap.size, 115, #[.int .u8 102, .slice (some ⟨g, 0, none⟩) n cap]), (g, 3, cur)]) (by kernel_rfl) (by kernel_rfl) (hS.drewW) (by exact fun _ _ _ _ _ h => h) ?_
 iterate 8 (apply Zx; (· rfl); (· intro b wb hB Q1 hQ1; have hS := hB; have hC := hS.reads; simp only [Zz, Zy] at hC; go_wp2_with fail; exact hQ1 _ trivial hB); (· exact ⟨_, rfl⟩))
 (apply Zx; (· rfl); (· intro b wb hB Q1 hQ1; go_wp2_with (go_at_call 43; (with_reducible refine (KF.out _).mono ?_); rintro e wn ⟨rfl, hx⟩); exact hQ1 _ trivial (hB.go hx)); (· exact ⟨_, rfl⟩))
 iterate 2 (apply Zx; (· rfl); (· intro b wb hB Q1 hQ1; go_wp2_with fail; exact hQ1 _ trivial hB); (· exact ⟨_, rfl⟩))
 refine Zv ?_
 intro wz hz
 clear hS
 have hS := hz
 have hC := hS.reads
 simp only [Zz, Zy] at hC
 have hE := hS.ex
 go_wp2_with fail
 refine Od (v := .tuple #[.agg #[.int .i64 x1, .int .i64 x2, .int .i64 x3, .int .i64 x4, .int .i64 x5, .int .i64 x6, .int .i64 x7, .int .i64 x8, .int .i64 x9, .int .i64 y1, .int .i64 y2, .int .i64 y3], .bool ok]) ?_ rfl ⟨rfl, ?_⟩
 ·simp [results, Tryz.results64, go_sem, hC]
 ·repeat' (with_reducible first | exact hE | refine Ex.setCell ?_ (by simp <;> omega) _)
end
section
open Go.RowKit

attribute [local go_sem] Zq Zp
theorem third {W w : World} {x y : Nat × TypeId × Array Value} {g : Nat} {t : TypeId} {cs : Array Value} (h : Zw W w [x, y, (g, t, cs)]) : Box w g t cs := h.boxes.2.2.1
theorem iMat_a (g n cap : Nat) (cur : Array Value) (S : ByteArray) (a b : Int) (hn : 2 ≤ n) (ha : -1000000 ≤ a ∧ a ≤ 1000000) (hb : 1 ≤ b ∧ b ≤ 1000000) (w : World) [hG : Ym w] (hbox : Box w g 3 cur) (c0 : cur[0]? = some (.int .i64 a)) (c1 : cur[1]? = some (.int .i64 b)) : Calls Tryz.prog 34 #[.agg #[.int .u8 97, .slice (some ⟨g, 0, none⟩) n cap, .string S]] w (fun e w' => e = .returned (m4v (⟨(flow a 0 b).1, Fr.nul, Fr.nul, (flow a 0 b).1⟩, true)) ∧ Ex w w') := by
 have k1 := fun w hx => iShare 97 g n cap cur S a b hn ha hb w hx c0 c1
 rcases hf : (flow a 0 b).1 with ⟨f1, f2, f3⟩
 rw [hf] at k1
 simp only [Fr.v] at k1
 have KF := Oi k1
 clear k1
 have HG := Oi hG
 have hR : Zw w w [(g, 3, cur)] := ⟨Ex.refl w, hbox, trivial⟩
 clear hbox ha hb
 go_enter Tryz.func34, Tryz.ntmps34
 go_upto_region 9 with fail
 have hS : Zw w ((w.alloc (.cells #[.int .u8 97, .slice (some ⟨g, 0, none⟩) n cap, .string S] 85)).alloc (.cells #[.int .i64 0, .int .i64 0, .int .i64 0, .int .i64 0, .int .i64 0, .int .i64 0, .int .i64 0, .int .i64 0, .int .i64 0, .int .i64 0, .int .i64 0, .int .i64 0] 30)) _ := inferInstance
 clear hR
 simp only [Oh] at hS
 generalize (w.alloc (.cells #[.int .u8 97, .slice (some ⟨g, 0, none⟩) n cap, .string S] 85)).alloc (.cells #[.int .i64 0, .int .i64 0, .int .i64 0, .int .i64 0, .int .i64 0, .int .i64 0, .int .i64 0, .int .i64 0, .int .i64 0, .int .i64 0, .int .i64 0, .int .i64 0] 30) = W0 at *
 refine Zn (St := fun _ _ => True) 8 false (B := fun _ w2 => Zw w w2 [(w.heap.size + 1, 30, #[.int .i64 0, .int .i64 0, .int .i64 0, .int .i64 0, .int .i64 0, .int .i64 0, .int .i64 0, .int .i64 0, .int .i64 0, .int .i64 0, .int .i64 0, .int .i64 0]), (w.heap.size, 85, #[.int .u8 97, .slice (some ⟨g, 0, none⟩) n cap, .string S]), (g, 3, cur)]) (by kernel_rfl) (by kernel_rfl) (hS.drewW) (by exact fun _ _ _ _ _ h => h) ?_
 (apply Zx; (· rfl); (· intro b wb hB Q1 hQ1; have hS := hB; have hC := hS.reads; simp only [Zz, Zy] at hC; go_wp2_with fail; exact hQ1 _ trivial hB); (· exact ⟨_, rfl⟩))
 (apply Zx; (· rfl); (· intro b wb hB Q1 hQ1; go_wp2_with (go_at_call 91; (with_reducible refine (KF.out _ (third hB)).mono ?_); rintro e wn ⟨rfl, hx⟩); exact hQ1 _ trivial (hB.go hx)); (· exact ⟨_, rfl⟩))
 iterate 2 (apply Zx; (· rfl); (· intro b wb hB Q1 hQ1; have hg := (HG.out.ex hB.ex).reads; go_wp2_with fail; exact hQ1 _ trivial hB); (· exact ⟨_, rfl⟩))
 (apply Zx; (· rfl); (· intro b wb hB Q1 hQ1; have hS := hB; have hC := hS.reads; simp only [Zz, Zy] at hC; go_wp2_with fail; exact hQ1 _ trivial hB); (· exact ⟨_, rfl⟩))
 (apply Zx; (· rfl); (· intro b wb hB Q1 hQ1; go_wp2_with (go_at_call 91; (with_reducible refine (KF.out _ (third hB)).mono ?_); rintro e wn ⟨rfl, hx⟩); exact hQ1 _ trivial (hB.go hx)); (· exact ⟨_, rfl⟩))
 iterate 2 (apply Zx; (· rfl); (· intro b wb hB Q1 hQ1; go_wp2_with fail; exact hQ1 _ trivial hB); (· exact ⟨_, rfl⟩))
 refine Zv ?_
 intro wz hz
 clear hS
 have hS := hz
 have hC := hS.reads
 simp only [Zz, Zy] at hC
 have hE := hS.ex
 go_wp2_with fail
 refine Od (v := .tuple #[.agg #[.int .i64 f1, .int .i64 f2, .int .i64 f3, .int .i64 0, .int .i64 0, .int .i64 1, .int .i64 0, .int .i64 0, .int .i64 1, .int .i64 f1, .int .i64 f2, .int .i64 f3], .bool true]) ?_ rfl ⟨rfl, ?_⟩
 ·simp [results, Tryz.results34, go_sem, hC]
 ·repeat' (with_reducible first | exact hE | refine Ex.setCell ?_ (by simp <;> omega) _)
theorem sMat_a (g n cap : Nat) (cur : Array Value) (a b : Int) (hn : 2 ≤ n) (ha : -1000000 ≤ a ∧ a ≤ 1000000) (hb : 1 ≤ b ∧ b ≤ 1000000) (w : World) (hbox : Box w g 3 cur) (c0 : cur[0]? = some (.int .i64 a)) (c1 : cur[1]? = some (.int .i64 b)) : Calls Tryz.prog 64 #[.agg #[.int .u8 97, .slice (some ⟨g, 0, none⟩) n cap]] w (fun e w' => e = .returned (m4v (⟨(flow a 0 b).1, Fr.nul, Fr.nul, (flow a 0 b).1⟩, true)) ∧ Ex w w') := by
 have k1 := fun w hx => sShare 97 g n cap cur a b hn ha hb w hx c0 c1
 rcases hf : (flow a 0 b).1 with ⟨f1, f2, f3⟩
 rw [hf] at k1
 simp only [Fr.v] at k1
 have KF := Oi k1
 clear k1
 have k2 := fun w => sl5One ⟨f1, f2, f3⟩ ⟨f1, f2, f3⟩ w
 simp only [Fr.v, M4.v, Fr.nul] at k2
 have KO := Oi k2
 clear k2
 have hR : Zw w w [(g, 3, cur)] := ⟨Ex.refl w, hbox, trivial⟩
 clear hbox ha hb
 go_enter Tryz.func64, Tryz.ntmps64
 go_upto_region 9 with fail
 have hS : Zw w ((w.alloc (.cells #[.int .u8 97, .slice (some ⟨g, 0, none⟩) n cap] 115)).alloc (.cells #[.int .i64 0, .int .i64 0, .int .i64 0, .int .i64 0, .int .i64 0, .int .i64 0, .int .i64 0, .int .i64 0, .int .i64 0, .int .i64 0, .int .i64 0, .int .i64 0] 30)) _ := inferInstance
 clear hR
 simp only [Oh] at hS
 generalize (w.alloc (.cells #[.int .u8 97, .slice (some ⟨g, 0, none⟩) n cap] 115)).alloc (.cells #[.int .i64 0, .int .i64 0, .int .i64 0, .int .i64 0, .int .i64 0, .int .i64 0, .int .i64 0, .int .i64 0, .int .i64 0, .int .i64 0, .int .i64 0, .int .i64 0] 30) = W0 at *
 have hC := hS.reads
 simp only [Zz, Zy] at hC
 go_wp2_with fail
 refine (KF.out _ hS.boxes.2.2.1).mono ?_
 rintro e w1 ⟨rfl, hx⟩
 replace hS := Zw.after (h := hS) hx
 clear hC
 have hC := hS.reads
 simp only [Zz, Zy] at hC
 go_upto_region 10 with fail
 have hT : Zw w (w1.alloc (.cells #[.int .i64 f1, .int .i64 f2, .int .i64 f3] 27)) _ := Zw.alloc (h := hS)
 clear hC
 have hC := hT.reads
 simp only [Zz, Zy] at hC
 go_wp2_with fail
 refine (KO.out _).mono ?_
 rintro e w2 ⟨rfl, hx2⟩
 replace hT := Zw.after (h := hT) hx2
 clear hC hS
 have hC := hT.reads
 simp only [Zz, Zy] at hC
 have hE := hT.ex
 go_wp2_with fail
 refine Od (v := .tuple #[.agg #[.int .i64 f1, .int .i64 f2, .int .i64 f3, .int .i64 0, .int .i64 0, .int .i64 1, .int .i64 0, .int .i64 0, .int .i64 1, .int .i64 f1, .int .i64 f2, .int .i64 f3], .bool true]) ?_ rfl ⟨rfl, ?_⟩
 ·simp [results, Tryz.results64, go_sem, hC]
 ·repeat' (with_reducible first | exact hE | refine Ex.setCell ?_ (by simp <;> omega) _)
end
end Go.Proofs.YtmjggolkopbcnaaGreatDoor
