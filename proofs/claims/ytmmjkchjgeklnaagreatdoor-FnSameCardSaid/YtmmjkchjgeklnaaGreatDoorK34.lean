/-
  Proved: what functions compute, part 34. No condition.
-/
import Derived.Test.YtmmjkchjgeklnaaGreatDoorK32
import Derived.Test.YtmmjkchjgeklnaaGreatDoorK33
import Derived.Test.YtmmjkchjgeklnaaGreatDoorK22
import Derived.Test.YtmmjkchjgeklnaaGreatDoorK19
import Derived.LoopN
set_option linter.unusedSimpArgs false
set_option linter.unusedVariables false
set_option maxRecDepth 20000
set_option maxHeartbeats 8000000
namespace Go.Proofs.YtmmjkchjgeklnaaGreatDoor
section
open Go.RowKit

attribute [local go_sem] Zk Zj
theorem iMat_w (g n cap : Nat) (cur : Array Value) (S : ByteArray) (a b c : Int) (hn : 3 ≤ n) (w : World) [hG : Yf w] (hbox : Box w g 3 cur) (c0 : cur[0]? = some (.int .i64 a)) (c1 : cur[1]? = some (.int .i64 b)) (c2 : cur[2]? = some (.int .i64 c)) : Calls Tryz.prog 70 #[.agg #[.int .u8 119, .slice (some ⟨g, 0, none⟩) n cap, .string S]] w (fun e w' => e = .returned (m4v (Yg a b c)) ∧ Ex w w') := by
 have k1 := fun w (_ : Yf w) => iMatPlate a b c w
 rcases hf : Yg a b c with ⟨⟨⟨x1, x2, x3⟩, ⟨x4, x5, x6⟩, ⟨x7, x8, x9⟩, ⟨y1, y2, y3⟩⟩, ok⟩
 rw [hf] at k1
 simp only [m4v, M4.v] at k1
 have KF := Gv k1
 clear k1
 have HG := Gv hG
 have hR : Zw w w [(g, 3, cur)] := ⟨Ex.refl w, hbox, trivial⟩
 have n1 : (0 : Int) < n := by omega
 have n2 : (1 : Int) < n := by omega
 have n3 : (2 : Int) < n := by omega
 clear hbox
 go_enter Tryz.func70, Tryz.ntmps70
 go_upto_region 5 with fail
 have hS : Zw w ((w.alloc (.cells #[.int .u8 119, .slice (some ⟨g, 0, none⟩) n cap, .string S] 84)).alloc (.cells #[.int .i64 0, .int .i64 0, .int .i64 0, .int .i64 0, .int .i64 0, .int .i64 0, .int .i64 0, .int .i64 0, .int .i64 0, .int .i64 0, .int .i64 0, .int .i64 0] 122)) _ := inferInstance
 clear hR
 simp only [Gu] at hS
 generalize (w.alloc (.cells #[.int .u8 119, .slice (some ⟨g, 0, none⟩) n cap, .string S] 84)).alloc (.cells #[.int .i64 0, .int .i64 0, .int .i64 0, .int .i64 0, .int .i64 0, .int .i64 0, .int .i64 0, .int .i64 0, .int .i64 0, .int .i64 0, .int .i64 0, .int .i64 0] 122) = W0 at *
 refine Zd (St := fun _ _ => True) 15 false (B := fun _ w2 => Zw w w2 [(w.heap.size + 1, 122, #[.int .i64 0, .int .i64 0, .int .i64 0, .int .i64 0, .int .i64 0, .int .i64 0, .int .i64 0, .int .i64 0, .int .i64 0, .int .i64 0, .int .i64 0, .int .i64 0]), (w.heap.size, 84, #[.int .u8 119, .slice (some ⟨g, 0, none⟩) n cap, .string S]), (g, 3, cur)]) (by kernel_rfl) (by kernel_rfl) (hS.drewW) (by exact fun _ _ _ _ _ h => h) ?_
 iterate 12 (apply Zx; (· rfl); (· intro b wb hB Q1 hQ1; have hS := hB; have hC := hS.reads; simp only [Zz, Zy] at hC; go_wp2_with fail; exact hQ1 _ trivial hB); (· exact ⟨_, rfl⟩))
 (apply Zx; (· rfl); (· intro b wb hB Q1 hQ1; go_wp2_with (go_at_call 110; (with_reducible refine (KF.out _ (HG.out.ex hB.ex)).mono ?_); rintro e wn ⟨rfl, hx⟩); exact hQ1 _ trivial (hB.go hx)); (· exact ⟨_, rfl⟩))
 iterate 2 (apply Zx; (· rfl); (· intro b wb hB Q1 hQ1; go_wp2_with fail; exact hQ1 _ trivial hB); (· exact ⟨_, rfl⟩))
 refine Zv ?_
 intro wz hz
 clear hS
 have hS := hz
 have hC := hS.reads
 simp only [Zz, Zy] at hC
 have hE := hS.ex
 go_wp2_with fail
 refine Gq (v := .tuple #[.agg #[.int .i64 x1, .int .i64 x2, .int .i64 x3, .int .i64 x4, .int .i64 x5, .int .i64 x6, .int .i64 x7, .int .i64 x8, .int .i64 x9, .int .i64 y1, .int .i64 y2, .int .i64 y3], .bool ok]) ?_ rfl ⟨rfl, ?_⟩
 ·simp [results, Tryz.results70, go_sem, hC]
 ·repeat' (with_reducible first | exact hE | refine Ex.setCell ?_ (by simp <;> omega) _)
theorem sMat_w (g n cap : Nat) (cur : Array Value) (a b c : Int) (hn : 3 ≤ n) (w : World) (hbox : Box w g 3 cur) (c0 : cur[0]? = some (.int .i64 a)) (c1 : cur[1]? = some (.int .i64 b)) (c2 : cur[2]? = some (.int .i64 c)) : Calls Tryz.prog 90 #[.agg #[.int .u8 119, .slice (some ⟨g, 0, none⟩) n cap]] w (fun e w' => e = .returned (m4v (Yg a b c)) ∧ Ex w w') := by
 have k1 := fun w => sMatPlate a b c w
 rcases hf : Yg a b c with ⟨⟨⟨x1, x2, x3⟩, ⟨x4, x5, x6⟩, ⟨x7, x8, x9⟩, ⟨y1, y2, y3⟩⟩, ok⟩
 rw [hf] at k1
 simp only [m4v, M4.v] at k1
 have KF := Gv k1
 clear k1
 have hR : Zw w w [(g, 3, cur)] := ⟨Ex.refl w, hbox, trivial⟩
 have n1 : (0 : Int) < n := by omega
 have n2 : (1 : Int) < n := by omega
 have n3 : (2 : Int) < n := by omega
 clear hbox
 go_enter Tryz.func90, Tryz.ntmps90
 go_upto_region 5 with fail
 have hS : Zw w ((w.alloc (.cells #[.int .u8 119, .slice (some ⟨g, 0, none⟩) n cap] 103)).alloc (.cells #[.int .i64 0, .int .i64 0, .int .i64 0, .int .i64 0, .int .i64 0, .int .i64 0, .int .i64 0, .int .i64 0, .int .i64 0, .int .i64 0, .int .i64 0, .int .i64 0] 122)) _ := inferInstance
 clear hR
 simp only [Gu] at hS
 generalize (w.alloc (.cells #[.int .u8 119, .slice (some ⟨g, 0, none⟩) n cap] 103)).alloc (.cells #[.int .i64 0, .int .i64 0, .int .i64 0, .int .i64 0, .int .i64 0, .int .i64 0, .int .i64 0, .int .i64 0, .int .i64 0, .int .i64 0, .int .i64 0, .int .i64 0] 122) = W0 at *
 refine Zd (St := fun _ _ => True) 15 false (B := fun _ w2 => Zw w w2 [(w.heap.size + 1, 122, #[.int .i64 0, .int .i64 0, .int .i64 0, .int .i64 0, .int .i64 0, .int .i64 0, .int .i64 0, .int .i64 0, .int .i64 0, .int .i64 0, .int .i64 0, .int .i64 0]), (w.heap.size, 103, #[.int .u8 119, .slice (some ⟨g, 0, none⟩) n cap]), (g, 3, cur)]) (by kernel_rfl) (by kernel_rfl) (hS.drewW) (by exact fun _ _ _ _ _ h => h) ?_
 iterate 12 (apply Zx; (· rfl); (· intro b wb hB Q1 hQ1; have hS := hB; have hC := hS.reads; simp only [Zz, Zy] at hC; go_wp2_with fail; exact hQ1 _ trivial hB); (· exact ⟨_, rfl⟩))
 (apply Zx; (· rfl); (· intro b wb hB Q1 hQ1; go_wp2_with (go_at_call 141; (with_reducible refine (KF.out _).mono ?_); rintro e wn ⟨rfl, hx⟩); exact hQ1 _ trivial (hB.go hx)); (· exact ⟨_, rfl⟩))
 iterate 2 (apply Zx; (· rfl); (· intro b wb hB Q1 hQ1; go_wp2_with fail; exact hQ1 _ trivial hB); (· exact ⟨_, rfl⟩))
 refine Zv ?_
 intro wz hz
 clear hS
 have hS := hz
 have hC := hS.reads
 simp only [Zz, Zy] at hC
 have hE := hS.ex
 go_wp2_with fail
 refine Gq (v := .tuple #[.agg #[.int .i64 x1, .int .i64 x2, .int .i64 x3, .int .i64 x4, .int .i64 x5, .int .i64 x6, .int .i64 x7, .int .i64 x8, .int .i64 x9, .int .i64 y1, .int .i64 y2, .int .i64 y3], .bool ok]) ?_ rfl ⟨rfl, ?_⟩
 ·simp [results, Tryz.results90, go_sem, hC]
 ·repeat' (with_reducible first | exact hE | refine Ex.setCell ?_ (by simp <;> omega) _)
end
section
open Go.RowKit

theorem ptab_114 (a b : Int) : Qb 114 [a, b] = (if (Yo a b).2 then Tk (Yo a b).1 else (Tl 16, false)) := rfl
theorem ptab_102 (a b : Int) : Qb 102 [a, b] = (if (Wr a b).2 then Tk (Wr a b).1 else (Tl 16, false)) := rfl
theorem ptab_119 (a b c : Int) : Qb 119 [a, b, c] = (if (Yg a b c).2 then Tk (Yg a b c).1 else (Tl 16, false)) := rfl
theorem ptab_97 (a b : Int) : Qb 97 [a, b] = (if (true : Bool) then Tk ⟨(flow a 0 b).1, Fr.nul, Fr.nul, (flow a 0 b).1⟩ else (Tl 16, false)) := by
 have e : pmat 97 [a, b] = (⟨(flow a 0 b).1, Fr.nul, Fr.nul, (flow a 0 b).1⟩, true) := by
  unfold pmat
  rw [if_neg (by decide), if_neg (by decide), if_neg (by decide), if_pos rfl]
  unfold pshare
  simp only [List.getD_cons_zero, List.getD_cons_succ]
 unfold Qb
 rw [if_neg (by decide), e]
theorem ptab_100 (a b : Int) : Qb 100 [a, b] = Sy (flow a 0 b).1 := rfl
theorem iTab (q : Pc) (hv : Xq q.k q.ns = true) (w : World) [hG : Yf w] (hq : q.ok w) : Calls Tryz.prog 46 #[.agg #[.int .u8 q.k.toNat, .slice (some ⟨q.g, 0, none⟩) q.ns.length q.cap, .string q.S]] w (fun e w' => e = .returned (Rs (Qb q.k q.ns)) ∧ Ex w w') := by
 obtain ⟨k, g, cap, cur, ns, S⟩ := q
 obtain ⟨hb, hc⟩ := hq
 simp only at hv hb hc ⊢
 rcases (Pd hv).2.2 with ⟨hk, a, b, rfl, -⟩ | ⟨rfl, a, b, c, rfl, -, -⟩ | ⟨hk, a, b, rfl, h1, h2, h3, h4⟩
 ·have c0 : cur[0]? = some (.int .i64 a) := hc 0 (by simp)
  have c1 : cur[1]? = some (.int .i64 b) := hc 1 (by simp)
  rcases hk with rfl | rfl
  ·rw [ptab_114]
   exact iTab_m 114 g 2 cap cur S (by decide) (Yo a b) (fun w hG hb => iMat_r g 2 cap cur S a b (by omega) w hb c0 c1) w hb
  ·rw [ptab_102]
   exact iTab_m 102 g 2 cap cur S (by decide) (Wr a b) (fun w hG hb => iMat_f g 2 cap cur S a b (by omega) w hb c0 c1) w hb
 ·have c0 : cur[0]? = some (.int .i64 a) := hc 0 (by simp)
  have c1 : cur[1]? = some (.int .i64 b) := hc 1 (by simp)
  have c2 : cur[2]? = some (.int .i64 c) := hc 2 (by simp)
  rw [ptab_119]
  exact iTab_m 119 g 3 cap cur S (by decide) (Yg a b c) (fun w hG hb => iMat_w g 3 cap cur S a b c (by omega) w hb c0 c1 c2) w hb
 ·have c0 : cur[0]? = some (.int .i64 a) := hc 0 (by simp)
  have c1 : cur[1]? = some (.int .i64 b) := hc 1 (by simp)
  rcases hk with rfl | rfl
  ·rw [ptab_97]
   exact iTab_m 97 g 2 cap cur S (by decide) (⟨(flow a 0 b).1, Fr.nul, Fr.nul, (flow a 0 b).1⟩, true) (fun w hG hb => iMat_a g 2 cap cur S a b (by omega) (by omega) (by omega) w hb c0 c1) w hb
  ·rw [ptab_100]
   exact iTab_d g 2 cap cur S a b (by omega) (by omega) (by omega) w hb c0 c1
theorem sTab (q : Pc) (hv : Xq q.k q.ns = true) (w : World) (hq : q.ok w) : Calls Tryz.prog 57 #[.agg #[.int .u8 q.k.toNat, .slice (some ⟨q.g, 0, none⟩) q.ns.length q.cap]] w (fun e w' => e = .returned (Rs (Qb q.k q.ns)) ∧ Ex w w') := by
 obtain ⟨k, g, cap, cur, ns, S⟩ := q
 obtain ⟨hb, hc⟩ := hq
 simp only at hv hb hc ⊢
 rcases (Pd hv).2.2 with ⟨hk, a, b, rfl, -⟩ | ⟨rfl, a, b, c, rfl, -, -⟩ | ⟨hk, a, b, rfl, h1, h2, h3, h4⟩
 ·have c0 : cur[0]? = some (.int .i64 a) := hc 0 (by simp)
  have c1 : cur[1]? = some (.int .i64 b) := hc 1 (by simp)
  rcases hk with rfl | rfl
  ·rw [ptab_114]
   exact sTab_m 114 g 2 cap cur (by decide) (Yo a b) (fun w hb => sMat_r g 2 cap cur a b (by omega) w hb c0 c1) w hb
  ·rw [ptab_102]
   exact sTab_m 102 g 2 cap cur (by decide) (Wr a b) (fun w hb => sMat_f g 2 cap cur a b (by omega) w hb c0 c1) w hb
 ·have c0 : cur[0]? = some (.int .i64 a) := hc 0 (by simp)
  have c1 : cur[1]? = some (.int .i64 b) := hc 1 (by simp)
  have c2 : cur[2]? = some (.int .i64 c) := hc 2 (by simp)
  rw [ptab_119]
  exact sTab_m 119 g 3 cap cur (by decide) (Yg a b c) (fun w hb => sMat_w g 3 cap cur a b c (by omega) w hb c0 c1 c2) w hb
 ·have c0 : cur[0]? = some (.int .i64 a) := hc 0 (by simp)
  have c1 : cur[1]? = some (.int .i64 b) := hc 1 (by simp)
  rcases hk with rfl | rfl
  ·rw [ptab_97]
   exact sTab_m 97 g 2 cap cur (by decide) (⟨(flow a 0 b).1, Fr.nul, Fr.nul, (flow a 0 b).1⟩, true) (fun w hb => sMat_a g 2 cap cur a b (by omega) (by omega) (by omega) w hb c0 c1) w hb
  ·rw [ptab_100]
   exact sTab_d g 2 cap cur a b (by omega) (by omega) (by omega) w hb c0 c1
end
section
open Go.RowKit

def BnU (cells : List Pc → List Value) (w : World) (l : List UInt8) : Ending → World → Prop := fun e w' =>
 ∃ (qs : List Pc) (A : Option Addr) (cap : Nat) (ok : Bool), e = .returned (.tuple #[.slice A qs.length cap, .bool ok]) ∧ qs.length ≤ 12 ∧ Slc w' A (cells qs) ∧ Pcs w' qs ∧ Ex w w' ∧
  Hid (∀ v, Yj l v = Sx (qs.map Pc.p) 0 v (ok && Uz v)) ∧ Hid (∀ q ∈ qs, Xq q.k q.ns = true)
theorem bench_len {l : List UInt8} {ps : List (UInt8 × List Int)} (h : Xi l = some ps) : ps.length ≤ 12 := by
 by_cases hne : l = []
 ·subst hne
  rw [Jl] at h
  injection h with h
  subst h
  simp
 ·exact (Qz h hne).2
theorem Hf.u {w : World} {l : List UInt8} {f : FuncId} {args : Array Value} (h : Calls Tryz.prog f args w (Hf Wc w l)) : Calls Tryz.prog f args w (BnU Wc w l) := by
 refine h.mono ?_
 rintro e w' (⟨qs, A, cap, hb, rfl, hs, hp, hx⟩ | ⟨hb, rfl, hx⟩)
 ·refine ⟨qs, A, cap, true, rfl, by simpa using bench_len hb, hs, hp, hx, Gv fun v => by rw [Bool.true_and]; exact Ll hb v, Gv fun q hq => Mt hb q.p (List.mem_map_of_mem hq)⟩
 ·refine ⟨[], none, 0, false, rfl, by simp, Slc.nil _ _, Pcs.nil _, hx, Gv fun v => Lk hb v, Gv fun q hq => by cases hq⟩
theorem brest_pc {qs : List Pc} {k : Nat} (hk : k < qs.length) (v : M4) (o : Bool) {t : List Fr} {okt : Bool} {u : M4} {oku : Bool} (hT : Qb qs[k].k qs[k].ns = (t, okt)) (hA : Ro t v = (u, oku)) :
  Sx (qs.map Pc.p) k v o = Sx (qs.map Pc.p) (k + 1) u (o && okt && oku) := by
 have h := brest_step (ps := qs.map Pc.p) (i := k) (by simpa using hk) v o
 have e : (qs.map Pc.p)[k]'(by simpa using hk) = qs[k].p := by simp
 rw [e] at h
 have e1 : Qb qs[k].p.1 qs[k].p.2 = (t, okt) := hT
 rw [e1] at h
 simp only at h
 rw [hA] at h
 exact h
theorem Hd {qs : List Pc} (v : M4) (o : Bool) : Sx (qs.map Pc.p) qs.length v o = if o then (v, true) else (M4.none, false) := by
 have := brest_end (qs.map Pc.p) v o
 rwa [List.length_map] at this
def I64s (cs : Array Value) : Prop := ∀ (i : Nat) (v : Value), cs[i]? = some v → ∃ n : Int, v = .int .i64 n
theorem Hc (l : List Fr) : I64s (Zo l) := by
 intro i v h
 have h2 : v ∈ l.flatMap Rt := by
  have := Array.mem_of_getElem? h
  simpa [Zo] using this
 obtain ⟨x, -, hx⟩ := List.mem_flatMap.1 h2
 simp only [Rt, List.mem_cons, List.not_mem_nil, or_false] at hx
 rcases hx with rfl | rfl | rfl <;> exact ⟨_, rfl⟩
def Byte1 (cells : List Value) : Prop := ∀ v : Value, cells[0]? = some v → ∃ n : Int, v = .int .u8 n
theorem cellsI_byte (qs : List Pc) : Byte1 (Wc qs) := by
 intro v h
 cases qs with
 | nil => simp [Wc] at h
 | cons q t => simp [Wc, Pc.ci] at h; exact ⟨_, h.symm⟩
theorem cellsS_byte (qs : List Pc) : Byte1 (Vk qs) := by
 intro v h
 cases qs with
 | nil => simp [Vk] at h
 | cons q t => simp [Vk, Pc.cs] at h; exact ⟨_, h.symm⟩
theorem Iv {w : World} {g b i : Nat} {x : Array Value} (h : b ≠ g) : (w.setRow g x).cell? ⟨b, i, none⟩ = w.cell? ⟨b, i, none⟩ := by
 unfold World.cell?
 simp only [setRow_other w g b x h]
structure BL (w wr : World) (n0 : Nat) (A : Option Addr) (cells : List Value) (qs : List Pc) (vc : Array Value) : Prop where
 sees : Zw w wr [(n0 + 1, 35, Z12), (n0, 35, vc)]
 slc : Slc wr A cells
 pcs : Pcs wr qs
section
variable {w wr w2 : World} {n0 : Nat} {A : Option Addr} {cells : List Value} {qs : List Pc} {vc : Array Value}
theorem BL.ex (h : BL w wr n0 A cells qs vc) (hx : Ex wr w2) : BL w w2 n0 A cells qs vc := ⟨Zw.after (h := h.sees) hx, h.slc.ex hx, h.pcs.ex hx⟩
theorem BL.store (h : BL w wr n0 A cells qs vc) (hlo : w.heap.size ≤ n0) (hv : I64s vc) (hc : Byte1 cells) (x : Array Value) : BL w (wr.setRow n0 x) n0 A cells qs x := by
 have hb := h.sees.boxes.2.1
 refine ⟨⟨h.sees.ex.setRow hlo x, h.sees.boxes.1.setRow_far (by simp) x, hb.setRow x, trivial⟩, ?_, fun q hq => ⟨(h.pcs q hq).1.setRow_far ?_ x, (h.pcs q hq).2⟩⟩
 ·intro hp
  obtain ⟨b, off, rfl, hk⟩ := h.slc hp
  refine ⟨b, off, rfl, fun k hlt => ?_⟩
  have hne : b ≠ n0 := by
   intro e
   subst e
   have h0 := hk 0 hp
   rw [Nat.add_zero, hb.cell, List.getElem?_eq_getElem hp] at h0
   obtain ⟨n, hn⟩ := hv _ _ h0
   obtain ⟨m, hm⟩ := hc _ (List.getElem?_eq_getElem hp)
   rw [hn] at hm
   injection hm with hm
   cases hm
  rw [Iv hne]
  exact hk k hlt
 ·intro e
  have h1 := (h.pcs q hq).1
  rw [e] at h1
  unfold Box at h1 hb
  rw [hb] at h1
  simp only [Option.some.injEq, Obj.cells.injEq] at h1
  exact absurd h1.2.1 (by decide)
end
theorem row12 (v : M4) : (Zo v.l).size = 12 := rfl
end
section
open Go.RowKit

attribute [local go_sem] Zk Zj
theorem Rj (l : List UInt8) (hl : l.length ≤ 1048576) (v : M4) (w : World) [hG : Yf w] (hm : Vv w) : Calls Tryz.prog 28 #[.string (Bs l), v.v] w (fun e w' => e = .returned (m4v (Yj l v)) ∧ Ex w w') := by
 have kb := fun w hm => Hf.u (iReadBench l hl w hm)
 have kv : ∀ w, Calls Tryz.prog 45 #[.agg #[.int .i64 v.a.re, .int .i64 v.a.im, .int .i64 v.a.den, .int .i64 v.b.re, .int .i64 v.b.im, .int .i64 v.b.den, .int .i64 v.c.re, .int .i64 v.c.im, .int .i64 v.c.den, .int .i64 v.d.re, .int .i64 v.d.im, .int .i64 v.d.den]] w fun e w' => e = .returned (.bool (Uz v)) ∧ Ex w w' := fun w => Ts v.a v.b v.c v.d w
 unfold M4.v
 generalize Bs l = S at *
 have KB := Gv kb
 have KV := Gv kv
 have HG := Gv hG
 have HM := Gv hm
 clear hm
 clear kb kv hl
 clear hG
 have hR := Zw.refl w
 go_enter Tryz.func28, Tryz.ntmps28
 go_upto_region 1 with fail
 have hV : Zw w ((w.alloc (.cells #[.int .i64 v.a.re, .int .i64 v.a.im, .int .i64 v.a.den, .int .i64 v.b.re, .int .i64 v.b.im, .int .i64 v.b.den, .int .i64 v.c.re, .int .i64 v.c.im, .int .i64 v.c.den, .int .i64 v.d.re, .int .i64 v.d.im, .int .i64 v.d.den] 35)).alloc (.cells #[.int .i64 0, .int .i64 0, .int .i64 0, .int .i64 0, .int .i64 0, .int .i64 0, .int .i64 0, .int .i64 0, .int .i64 0, .int .i64 0, .int .i64 0, .int .i64 0] 35)) _ := inferInstance
 clear hR
 simp only [Gu] at hV
 generalize (w.alloc (.cells #[.int .i64 v.a.re, .int .i64 v.a.im, .int .i64 v.a.den, .int .i64 v.b.re, .int .i64 v.b.im, .int .i64 v.b.den, .int .i64 v.c.re, .int .i64 v.c.im, .int .i64 v.c.den, .int .i64 v.d.re, .int .i64 v.d.im, .int .i64 v.d.den] 35)).alloc (.cells #[.int .i64 0, .int .i64 0, .int .i64 0, .int .i64 0, .int .i64 0, .int .i64 0, .int .i64 0, .int .i64 0, .int .i64 0, .int .i64 0, .int .i64 0, .int .i64 0] 35) = W0 at *
 go_wp2_with fail
 refine (KB.out _ (HM.out.ex hV.ex)).mono ?_
 rintro e w1 ⟨qs, A, cap, ok0, rfl, hq12, hsl, hps, hx, HBR, HPV⟩
 replace hV := Zw.after (h := hV) hx
 clear hx KB HM
 go_upto_region 2 with fail
 go_cut [7] (fun s wx => s = .bool (ok0 && Uz v) ∧ Ex w1 wx)
 case first =>
  have hC := hV.reads
  simp only [Zz, Zy] at hC
  rcases ok0 with _ | _
  ·go_wp2_with fail
   go_meet
   exact ⟨rfl, Ex.refl _⟩
  ·go_wp2_with (go_at_call 45; (with_reducible refine (KV.out _).mono ?_); rintro e w2 ⟨rfl, hx⟩)
   go_meet
   exact ⟨by rw [Bool.true_and], hx⟩
 case rest =>
  obtain ⟨rfl, hx⟩ := hcut
  have hB : BL w wc w.heap.size A (Wc qs) qs (Zo v.l) := ⟨Zw.after (h := hV) hx, hsl.ex hx, hps.ex hx⟩
  clear hV hx hsl hps KV
  replace HBR := Gv (HBR.out v)
  generalize (ok0 && Uz v) = o0 at HBR ⊢
  have HQL := Gv hq12
  have HB0 := Gv hB
  clear hB hq12
  go_wp2_with fail
  go_loopw [26, 7, 9, 10, 11, 12, 13] (fun i o _ _ _ _ _ wr => ∃ (k : Nat) (u : M4) (ok : Bool), i = .int .i64 k ∧ o = .bool ok ∧ k ≤ qs.length ∧ Hid (Yj l v = Sx (qs.map Pc.p) k u ok) ∧ Hid (BL w wr w.heap.size A (Wc qs) qs (Zo u.l))) (fun i _ _ _ _ _ _ _ => 13 - (intOf i).toNat)
  case atStart => exact ⟨0, v, o0, rfl, rfl, by omega, HBR, HB0⟩
  case round =>
   clear HB0 HBR
   obtain ⟨k, u, ok, rfl, rfl, hk, HR, HB⟩ := hrel
   have hq12 := HQL.out
   by_cases hlt : k < qs.length
   ·have hI : (k : Int) < (qs.length : Int) := by omega
    have hw5 : IntKind.i64.wrap ((k : Int) + 1) = (k : Int) + 1 := Gp _ (by omega)
    obtain ⟨b, off, rfl, hc⟩ := HB.out.slc (by rw [Ov]; omega)
    have hat := cellsI_at qs k hlt
    have d0 := hc (3 * k) (by rw [Ov]; omega)
    have d1 := hc (3 * k + 1) (by rw [Ov]; omega)
    have d2 := hc (3 * k + 2) (by rw [Ov]; omega)
    rw [hat.1] at d0
    rw [hat.2.1] at d1
    rw [hat.2.2] at d2
    rw [Nat.mul_comm 3 k] at d0 d1 d2
    rw [← Nat.add_assoc] at d1 d2
    have HST := Gv (fun t okt x okx hT hA => brest_pc hlt u ok (t := t) (okt := okt) (u := x) (oku := okx) hT hA)
    have hmem : qs[k] ∈ qs := List.getElem_mem hlt
    have HV := Gv (HPV.out _ hmem)
    have HO := Gv (HB.out.pcs _ hmem)
    clear hc hat hmem
    generalize qs[k] = q at *
    have kt := fun w (_ : Yf w) ho => iTab q HV.out w ho
    rcases hT : Qb q.k q.ns with ⟨t, okt⟩
    have htl : t.length = 16 := by have := ptab_len q.k q.ns; rw [hT] at this; exact this
    have hts : (Zo t).size = 48 := by rw [Xy, htl]
    rcases hA : Ro t u with ⟨x, okx⟩
    have ka := fun w => iTableApply t htl u w
    have HR2 : Hid (Yj l v = Sx (qs.map Pc.p) (k + 1) x (ok && okt && okx)) := Gv (HR.out.trans (HST.out t okt x okx hT hA))
    rw [hT] at kt
    rw [hA] at ka
    simp only [Rs, m4v, M4.l_arr] at kt ka
    have hone := Xv t
    have hux := Hc u.l
    have hxs := row12 x
    have hus := row12 u
    have hxo := Xv x.l
    generalize Zo t = tc at *
    generalize hvu : Zo u.l = uc at *
    generalize hvx : Zo x.l = xc at *
    have KT := Gv kt
    have KA := Gv ka
    have HX := Gv hvx
    have HTS := Gv hts
    have HXS := Gv hxs
    have HUS := Gv hus
    have HUX := Gv hux
    clear kt ka hT hA hvu hvx HST HR HV htl hts hxs hus hux
    have hB := HB.out
    clear HB
    go_upto_region 6 with fail
    have b9 := Box.new wr #[.int .u8 q.k.toNat, .slice (some ⟨q.g, 0, none⟩) q.ns.length q.cap, .string q.S] 84
    replace hB := hB.ex ((Ex.refl wr).alloc (.cells #[.int .u8 q.k.toNat, .slice (some ⟨q.g, 0, none⟩) q.ns.length q.cap, .string q.S] 84))
    have HO1 := Gv (HO.out.ex ((Ex.refl wr).alloc (.cells #[.int .u8 q.k.toNat, .slice (some ⟨q.g, 0, none⟩) q.ns.length q.cap, .string q.S] 84)))
    generalize wr.alloc _ = W1 at *
    have c9 := b9.cell
    have z9 := b9.lt
    clear d0 d1 d2 HO
    go_wp2_with fail
    refine (KT.out _ (HG.out.ex hB.sees.ex) HO1.out).mono ?_
    clear HO1 b9 c9 z9
    rintro e w2 ⟨rfl, hx⟩
    go_upto_region 7 with (refine wpList_store_row rfl _ _ _ rfl _ _ rfl rfl _ _ (Box.new w2 _ _) (Ye HTS.out) (by rw [HTS.out]; rfl) hone ?_)
    replace hB := hB.ex (hx.trans (((Ex.refl w2).alloc (.cells #[.int .i64 0, .int .i64 0, .int .i64 0, .int .i64 0, .int .i64 0, .int .i64 0, .int .i64 0, .int .i64 0, .int .i64 0, .int .i64 0, .int .i64 0, .int .i64 0, .int .i64 0, .int .i64 0, .int .i64 0, .int .i64 0, .int .i64 0, .int .i64 0, .int .i64 0, .int .i64 0, .int .i64 0, .int .i64 0, .int .i64 0, .int .i64 0, .int .i64 0, .int .i64 0, .int .i64 0, .int .i64 0, .int .i64 0, .int .i64 0, .int .i64 0, .int .i64 0, .int .i64 0, .int .i64 0, .int .i64 0, .int .i64 0, .int .i64 0, .int .i64 0, .int .i64 0, .int .i64 0, .int .i64 0, .int .i64 0, .int .i64 0, .int .i64 0, .int .i64 0, .int .i64 0, .int .i64 0, .int .i64 0] 87)).setRow (Nat.le_refl _) tc))
    have bT := (Box.new w2 #[.int .i64 0, .int .i64 0, .int .i64 0, .int .i64 0, .int .i64 0, .int .i64 0, .int .i64 0, .int .i64 0, .int .i64 0, .int .i64 0, .int .i64 0, .int .i64 0, .int .i64 0, .int .i64 0, .int .i64 0, .int .i64 0, .int .i64 0, .int .i64 0, .int .i64 0, .int .i64 0, .int .i64 0, .int .i64 0, .int .i64 0, .int .i64 0, .int .i64 0, .int .i64 0, .int .i64 0, .int .i64 0, .int .i64 0, .int .i64 0, .int .i64 0, .int .i64 0, .int .i64 0, .int .i64 0, .int .i64 0, .int .i64 0, .int .i64 0, .int .i64 0, .int .i64 0, .int .i64 0, .int .i64 0, .int .i64 0, .int .i64 0, .int .i64 0, .int .i64 0, .int .i64 0, .int .i64 0, .int .i64 0] 87).setRow tc
    generalize (w2.alloc (.cells #[.int .i64 0, .int .i64 0, .int .i64 0, .int .i64 0, .int .i64 0, .int .i64 0, .int .i64 0, .int .i64 0, .int .i64 0, .int .i64 0, .int .i64 0, .int .i64 0, .int .i64 0, .int .i64 0, .int .i64 0, .int .i64 0, .int .i64 0, .int .i64 0, .int .i64 0, .int .i64 0, .int .i64 0, .int .i64 0, .int .i64 0, .int .i64 0, .int .i64 0, .int .i64 0, .int .i64 0, .int .i64 0, .int .i64 0, .int .i64 0, .int .i64 0, .int .i64 0, .int .i64 0, .int .i64 0, .int .i64 0, .int .i64 0, .int .i64 0, .int .i64 0, .int .i64 0, .int .i64 0, .int .i64 0, .int .i64 0, .int .i64 0, .int .i64 0, .int .i64 0, .int .i64 0, .int .i64 0, .int .i64 0] 87)).setRow w2.heap.size tc = W2 at *
    clear hx hone
    have b3 := hB.sees.boxes.2.1
    go_wp2_with (first | (refine wpList_load_row rfl _ _ rfl _ rfl _ _ (0, 0) _ bT Tryz.underlying87 rfl (Ye HTS.out) ?_) | (refine wpList_load_row rfl _ _ rfl _ rfl _ _ (0, 0) _ b3 Tryz.underlying35 rfl (Ss HUS.out) ?_))
    refine (KA.out _).mono ?_
    rintro e w3 ⟨rfl, hx⟩
    go_upto_region 8 with (refine wpList_store_row rfl _ _ _ rfl _ _ rfl rfl _ _ (Box.new w3 _ _) (Ss HXS.out) (by rw [HXS.out]; rfl) hxo ?_)
    replace hB := hB.ex (hx.trans (((Ex.refl w3).alloc (.cells #[.int .i64 0, .int .i64 0, .int .i64 0, .int .i64 0, .int .i64 0, .int .i64 0, .int .i64 0, .int .i64 0, .int .i64 0, .int .i64 0, .int .i64 0, .int .i64 0] 35)).setRow (Nat.le_refl _) xc))
    have bX := (Box.new w3 #[.int .i64 0, .int .i64 0, .int .i64 0, .int .i64 0, .int .i64 0, .int .i64 0, .int .i64 0, .int .i64 0, .int .i64 0, .int .i64 0, .int .i64 0, .int .i64 0] 35).setRow xc
    generalize (w3.alloc (.cells #[.int .i64 0, .int .i64 0, .int .i64 0, .int .i64 0, .int .i64 0, .int .i64 0, .int .i64 0, .int .i64 0, .int .i64 0, .int .i64 0, .int .i64 0, .int .i64 0] 35)).setRow w3.heap.size xc = W3 at *
    clear hx b3 bT
    go_cut [7] (fun s wx => s = .bool (ok && okt && okx) ∧ wx = W3)
    case first =>
     rcases ok with _ | _ <;> rcases okt with _ | _ <;> rcases okx with _ | _
     all_goals
      go_wp2_with fail
      go_meet
      exact ⟨rfl, rfl⟩
    case rest =>
     obtain ⟨rfl, rfl⟩ := hcut
     have b3 := hB.sees.boxes.2.1
     go_wp2_with (first | (refine wpList_load_row rfl _ _ rfl _ rfl _ _ (0, 0) _ bX Tryz.underlying35 rfl (Ss HXS.out) ?_) | (refine wpList_store_row rfl _ _ _ rfl _ _ rfl rfl _ _ b3 (Ss HXS.out) (by rw [HXS.out, HUS.out]) hxo ?_))
     have HB2 : Hid (BL w (wc.setRow w.heap.size xc) w.heap.size (some ⟨b, off, none⟩) (Wc qs) qs (Zo x.l)) := Gv (by rw [HX.out]; exact hB.store (Nat.le_refl _) HUX.out (cellsI_byte qs) xc)
     clear hB b3 bX hxo
     go_roundw
     case rel => exact ⟨k + 1, x, _, by go_num, rfl, by omega, HR2, HB2⟩
     case measure => simp [intOf] <;> omega
   ·obtain rfl : k = qs.length := by omega
    have HE := HR.out
    rw [Hd] at HE
    have hI : ¬ ((qs.length : Nat) : Int) < (qs.length : Int) := by omega
    have hB := HB.out
    clear HB HR hlt hk HPV HQL hq12
    have b4 := hB.sees.boxes.1
    have b3 := hB.sees.boxes.2.1
    have hE := hB.sees.ex
    have HEE := Gv HE
    clear HE
    rcases ok with _ | _
    ·have c4 := b4.cell
     have f4 := b4.frozen
     have z4 := b4.lt
     unfold Z12 at c4
     go_wp2
     refine Gq (v := .tuple #[.agg #[.int .i64 0, .int .i64 0, .int .i64 0, .int .i64 0, .int .i64 0, .int .i64 0, .int .i64 0, .int .i64 0, .int .i64 0, .int .i64 0, .int .i64 0, .int .i64 0], .bool false]) ?_ rfl ⟨by rw [HEE.out]; rfl, ?_⟩
     ·simp [results, Tryz.results28, go_sem, c4]
     ·repeat' (with_reducible first | exact hE | refine Ex.setCell ?_ (by simp <;> omega) _)
    ·have hus := row12 u
     have huo := Xv u.l
     go_wp2_with (first | (refine wpList_load_row rfl _ _ rfl _ rfl _ _ (0, 0) _ b3 Tryz.underlying35 rfl (Ss hus) ?_) | (refine wpList_store_row rfl _ _ _ rfl _ _ rfl rfl _ _ b4 (Ss hus) rfl huo ?_))
     exact Gq (Yx Tryz.results28 _ _ _ _ _ (0, 0) _ rfl (b4.setRow _) Tryz.underlying35 rfl (Ss hus)) rfl ⟨by rw [HEE.out]; rfl, hE.setRow (Nat.le_succ _) _⟩
end
section
open Go.RowKit

attribute [local go_sem] Zk Zj
theorem Ri (l : List UInt8) (hl : l.length ≤ 1048576) (v : M4) (w : World) : Calls Tryz.prog 37 #[.string (Bs l), v.v] w (fun e w' => e = .returned (m4v (Yj l v)) ∧ Ex w w') := by
 have kb := fun w => sL7Bench l hl w
 have kv : ∀ w, Calls Tryz.prog 56 #[.agg #[.int .i64 v.a.re, .int .i64 v.a.im, .int .i64 v.a.den, .int .i64 v.b.re, .int .i64 v.b.im, .int .i64 v.b.den, .int .i64 v.c.re, .int .i64 v.c.im, .int .i64 v.c.den, .int .i64 v.d.re, .int .i64 v.d.im, .int .i64 v.d.den]] w fun e w' => e = .returned (.bool (Uz v)) ∧ Ex w w' := fun w => Ve v.a v.b v.c v.d w
 unfold M4.v
 generalize Bs l = S at *
 have KB := Gv kb
 have KV := Gv kv
 clear kb kv hl
 have hR := Zw.refl w
 go_enter Tryz.func37, Tryz.ntmps37
 go_upto_region 1 with fail
 have hV : Zw w ((w.alloc (.cells #[.int .i64 v.a.re, .int .i64 v.a.im, .int .i64 v.a.den, .int .i64 v.b.re, .int .i64 v.b.im, .int .i64 v.b.den, .int .i64 v.c.re, .int .i64 v.c.im, .int .i64 v.c.den, .int .i64 v.d.re, .int .i64 v.d.im, .int .i64 v.d.den] 35)).alloc (.cells #[.int .i64 0, .int .i64 0, .int .i64 0, .int .i64 0, .int .i64 0, .int .i64 0, .int .i64 0, .int .i64 0, .int .i64 0, .int .i64 0, .int .i64 0, .int .i64 0] 35)) _ := inferInstance
 clear hR
 simp only [Gu] at hV
 generalize (w.alloc (.cells #[.int .i64 v.a.re, .int .i64 v.a.im, .int .i64 v.a.den, .int .i64 v.b.re, .int .i64 v.b.im, .int .i64 v.b.den, .int .i64 v.c.re, .int .i64 v.c.im, .int .i64 v.c.den, .int .i64 v.d.re, .int .i64 v.d.im, .int .i64 v.d.den] 35)).alloc (.cells #[.int .i64 0, .int .i64 0, .int .i64 0, .int .i64 0, .int .i64 0, .int .i64 0, .int .i64 0, .int .i64 0, .int .i64 0, .int .i64 0, .int .i64 0, .int .i64 0] 35) = W0 at *
 go_wp2_with fail
 refine (KB.out _).mono ?_
 rintro e w1 (⟨qs, A, cap, hbn, rfl, hsl, hps, hx⟩ | ⟨A, n, cap, hbn, rfl, hx⟩)
 ·have HBR : Hid (Yj l v = Sx (qs.map Pc.p) 0 v (Uz v)) := Gv (Ll hbn v)
  have hq12 : qs.length ≤ 12 := by simpa using bench_len hbn
  have HPV : Hid (∀ q ∈ qs, Xq q.k q.ns = true) := Gv fun q hq => Mt hbn q.p (List.mem_map_of_mem hq)
  clear hbn
  replace hV := Zw.after (h := hV) hx
  clear hx KB
  go_upto_region 2 with fail
  go_cut [7] (fun s wx => s = .bool (true && Uz v) ∧ Ex w1 wx)
  case first =>
   have hC := hV.reads
   simp only [Zz, Zy] at hC
   go_wp2_with (go_at_call 56; (with_reducible refine (KV.out _).mono ?_); rintro e w2 ⟨rfl, hx⟩)
   go_meet
   exact ⟨by rw [Bool.true_and], hx⟩
  case rest =>
   obtain ⟨rfl, hx⟩ := hcut
   have hB : BL w wc w.heap.size A (Vk qs) qs (Zo v.l) := ⟨Zw.after (h := hV) hx, hsl.ex hx, hps.ex hx⟩
   clear hV hx hsl hps KV
   rw [Bool.true_and]
   generalize Uz v = o0 at HBR ⊢
   have HQL := Gv hq12
   have HB0 := Gv hB
   clear hB hq12
   go_wp2_with fail
   go_loopw [8, 7, 9, 10, 11, 12] (fun i o _ _ _ _ wr => ∃ (k : Nat) (u : M4) (ok : Bool), i = .int .i64 k ∧ o = .bool ok ∧ k ≤ qs.length ∧ Hid (Yj l v = Sx (qs.map Pc.p) k u ok) ∧ Hid (BL w wr w.heap.size A (Vk qs) qs (Zo u.l))) (fun i _ _ _ _ _ _ => 13 - (intOf i).toNat)
   case atStart => exact ⟨0, v, o0, rfl, rfl, by omega, HBR, HB0⟩
   case round =>
    clear HB0 HBR
    obtain ⟨k, u, ok, rfl, rfl, hk, HR, HB⟩ := hrel
    have hq12 := HQL.out
    by_cases hlt : k < qs.length
    ·rcases ok with _ | _
     ·have HE := HR.out
      rw [show Sx (qs.map Pc.p) k u false = (M4.none, false) from rfl] at HE
      have hI : (k : Int) < (qs.length : Int) := by omega
      have hE := HB.out.sees.ex
      have b4 := HB.out.sees.boxes.1
      have HEE := Gv HE
      clear HB HR HE
      have c4 := b4.cell
      have f4 := b4.frozen
      have z4 := b4.lt
      unfold Z12 at c4
      go_wp2
      refine Gq (v := .tuple #[.agg #[.int .i64 0, .int .i64 0, .int .i64 0, .int .i64 0, .int .i64 0, .int .i64 0, .int .i64 0, .int .i64 0, .int .i64 0, .int .i64 0, .int .i64 0, .int .i64 0], .bool false]) ?_ rfl ⟨by rw [HEE.out]; rfl, ?_⟩
      ·simp [results, Tryz.results37, go_sem, c4]
      ·repeat' (with_reducible first | exact hE | refine Ex.setCell ?_ (by simp <;> omega) _)
     ·have hI : (k : Int) < (qs.length : Int) := by omega
      have hw5 : IntKind.i64.wrap ((k : Int) + 1) = (k : Int) + 1 := Gp _ (by omega)
      obtain ⟨b, off, rfl, hc⟩ := HB.out.slc (by rw [Mi]; omega)
      have hat := cellsS_at qs k hlt
      have d0 := hc (2 * k) (by rw [Mi]; omega)
      have d1 := hc (2 * k + 1) (by rw [Mi]; omega)
      rw [hat.1] at d0
      rw [hat.2] at d1
      rw [Nat.mul_comm 2 k] at d0 d1
      rw [← Nat.add_assoc] at d1
      have HST := Gv (fun t okt x okx hT hA => brest_pc hlt u true (t := t) (okt := okt) (u := x) (oku := okx) hT hA)
      have hmem : qs[k] ∈ qs := List.getElem_mem hlt
      have HV := Gv (HPV.out _ hmem)
      have HO := Gv (HB.out.pcs _ hmem)
      clear hc hat hmem
      generalize qs[k] = q at *
      have kt := fun w ho => sTab q HV.out w ho
      rcases hT : Qb q.k q.ns with ⟨t, okt⟩
      have htl : t.length = 16 := by have := ptab_len q.k q.ns; rw [hT] at this; exact this
      have hts : (Zo t).size = 48 := by rw [Xy, htl]
      rcases hA : Ro t u with ⟨x, okx⟩
      have ka := fun w => sTableApply t htl u w
      have HR2 : Hid (Yj l v = Sx (qs.map Pc.p) (k + 1) x (okt && okx)) := Gv (HR.out.trans (HST.out t okt x okx hT hA))
      rw [hT] at kt
      rw [hA] at ka
      simp only [Rs, m4v, M4.l_arr] at kt ka
      have hone := Xv t
      have hux := Hc u.l
      have hxs := row12 x
      have hus := row12 u
      have hxo := Xv x.l
      generalize Zo t = tc at *
      generalize hvu : Zo u.l = uc at *
      generalize hvx : Zo x.l = xc at *
      have KT := Gv kt
      have KA := Gv ka
      have HX := Gv hvx
      have HTS := Gv hts
      have HXS := Gv hxs
      have HUS := Gv hus
      have HUX := Gv hux
      clear kt ka hT hA hvu hvx HST HR HV htl hts hxs hus hux
      have hB := HB.out
      clear HB
      go_wp2_with fail
      refine (KT.out _ HO.out).mono ?_
      clear HO d0 d1
      rintro e w2 ⟨rfl, hx⟩
      go_upto_region 7 with (refine wpList_store_row rfl _ _ _ rfl _ _ rfl rfl _ _ (Box.new w2 _ _) (Ye HTS.out) (by rw [HTS.out]; rfl) hone ?_)
      replace hB := hB.ex (hx.trans (((Ex.refl w2).alloc (.cells #[.int .i64 0, .int .i64 0, .int .i64 0, .int .i64 0, .int .i64 0, .int .i64 0, .int .i64 0, .int .i64 0, .int .i64 0, .int .i64 0, .int .i64 0, .int .i64 0, .int .i64 0, .int .i64 0, .int .i64 0, .int .i64 0, .int .i64 0, .int .i64 0, .int .i64 0, .int .i64 0, .int .i64 0, .int .i64 0, .int .i64 0, .int .i64 0, .int .i64 0, .int .i64 0, .int .i64 0, .int .i64 0, .int .i64 0, .int .i64 0, .int .i64 0, .int .i64 0, .int .i64 0, .int .i64 0, .int .i64 0, .int .i64 0, .int .i64 0, .int .i64 0, .int .i64 0, .int .i64 0, .int .i64 0, .int .i64 0, .int .i64 0, .int .i64 0, .int .i64 0, .int .i64 0, .int .i64 0, .int .i64 0] 87)).setRow (Nat.le_refl _) tc))
      have bT := (Box.new w2 #[.int .i64 0, .int .i64 0, .int .i64 0, .int .i64 0, .int .i64 0, .int .i64 0, .int .i64 0, .int .i64 0, .int .i64 0, .int .i64 0, .int .i64 0, .int .i64 0, .int .i64 0, .int .i64 0, .int .i64 0, .int .i64 0, .int .i64 0, .int .i64 0, .int .i64 0, .int .i64 0, .int .i64 0, .int .i64 0, .int .i64 0, .int .i64 0, .int .i64 0, .int .i64 0, .int .i64 0, .int .i64 0, .int .i64 0, .int .i64 0, .int .i64 0, .int .i64 0, .int .i64 0, .int .i64 0, .int .i64 0, .int .i64 0, .int .i64 0, .int .i64 0, .int .i64 0, .int .i64 0, .int .i64 0, .int .i64 0, .int .i64 0, .int .i64 0, .int .i64 0, .int .i64 0, .int .i64 0, .int .i64 0] 87).setRow tc
      generalize (w2.alloc (.cells #[.int .i64 0, .int .i64 0, .int .i64 0, .int .i64 0, .int .i64 0, .int .i64 0, .int .i64 0, .int .i64 0, .int .i64 0, .int .i64 0, .int .i64 0, .int .i64 0, .int .i64 0, .int .i64 0, .int .i64 0, .int .i64 0, .int .i64 0, .int .i64 0, .int .i64 0, .int .i64 0, .int .i64 0, .int .i64 0, .int .i64 0, .int .i64 0, .int .i64 0, .int .i64 0, .int .i64 0, .int .i64 0, .int .i64 0, .int .i64 0, .int .i64 0, .int .i64 0, .int .i64 0, .int .i64 0, .int .i64 0, .int .i64 0, .int .i64 0, .int .i64 0, .int .i64 0, .int .i64 0, .int .i64 0, .int .i64 0, .int .i64 0, .int .i64 0, .int .i64 0, .int .i64 0, .int .i64 0, .int .i64 0] 87)).setRow w2.heap.size tc = W2 at *
      clear hx hone
      have b3 := hB.sees.boxes.2.1
      go_wp2_with (first | (refine wpList_load_row rfl _ _ rfl _ rfl _ _ (0, 0) _ bT Tryz.underlying87 rfl (Ye HTS.out) ?_) | (refine wpList_load_row rfl _ _ rfl _ rfl _ _ (0, 0) _ b3 Tryz.underlying35 rfl (Ss HUS.out) ?_))
      refine (KA.out _).mono ?_
      rintro e w3 ⟨rfl, hx⟩
      go_upto_region 8 with (refine wpList_store_row rfl _ _ _ rfl _ _ rfl rfl _ _ (Box.new w3 _ _) (Ss HXS.out) (by rw [HXS.out]; rfl) hxo ?_)
      replace hB := hB.ex (hx.trans (((Ex.refl w3).alloc (.cells #[.int .i64 0, .int .i64 0, .int .i64 0, .int .i64 0, .int .i64 0, .int .i64 0, .int .i64 0, .int .i64 0, .int .i64 0, .int .i64 0, .int .i64 0, .int .i64 0] 35)).setRow (Nat.le_refl _) xc))
      have bX := (Box.new w3 #[.int .i64 0, .int .i64 0, .int .i64 0, .int .i64 0, .int .i64 0, .int .i64 0, .int .i64 0, .int .i64 0, .int .i64 0, .int .i64 0, .int .i64 0, .int .i64 0] 35).setRow xc
      generalize (w3.alloc (.cells #[.int .i64 0, .int .i64 0, .int .i64 0, .int .i64 0, .int .i64 0, .int .i64 0, .int .i64 0, .int .i64 0, .int .i64 0, .int .i64 0, .int .i64 0, .int .i64 0] 35)).setRow w3.heap.size xc = W3 at *
      clear hx b3 bT
      go_cut [7] (fun s wx => s = .bool (okt && okx) ∧ wx = W3)
      case first =>
       rcases okt with _ | _ <;> rcases okx with _ | _
       all_goals
        go_wp2_with fail
        go_meet
        exact ⟨rfl, rfl⟩
      case rest =>
       obtain ⟨rfl, rfl⟩ := hcut
       have b3 := hB.sees.boxes.2.1
       go_wp2_with (first | (refine wpList_load_row rfl _ _ rfl _ rfl _ _ (0, 0) _ bX Tryz.underlying35 rfl (Ss HXS.out) ?_) | (refine wpList_store_row rfl _ _ _ rfl _ _ rfl rfl _ _ b3 (Ss HXS.out) (by rw [HXS.out, HUS.out]) hxo ?_))
       have HB2 : Hid (BL w (wc.setRow w.heap.size xc) w.heap.size (some ⟨b, off, none⟩) (Vk qs) qs (Zo x.l)) := Gv (by rw [HX.out]; exact hB.store (Nat.le_refl _) HUX.out (cellsS_byte qs) xc)
       clear hB b3 bX hxo
       go_roundw
       case rel => exact ⟨k + 1, x, _, by go_num, rfl, by omega, HR2, HB2⟩
       case measure => simp [intOf] <;> omega
    ·obtain rfl : k = qs.length := by omega
     have HE := HR.out
     rw [Hd] at HE
     have hI : ¬ ((qs.length : Nat) : Int) < (qs.length : Int) := by omega
     have hB := HB.out
     clear HB HR hlt hk HPV HQL hq12
     have b4 := hB.sees.boxes.1
     have b3 := hB.sees.boxes.2.1
     have hE := hB.sees.ex
     have HEE := Gv HE
     clear HE
     rcases ok with _ | _
     ·have c4 := b4.cell
      have f4 := b4.frozen
      have z4 := b4.lt
      unfold Z12 at c4
      go_wp2
      refine Gq (v := .tuple #[.agg #[.int .i64 0, .int .i64 0, .int .i64 0, .int .i64 0, .int .i64 0, .int .i64 0, .int .i64 0, .int .i64 0, .int .i64 0, .int .i64 0, .int .i64 0, .int .i64 0], .bool false]) ?_ rfl ⟨by rw [HEE.out]; rfl, ?_⟩
      ·simp [results, Tryz.results37, go_sem, c4]
      ·repeat' (with_reducible first | exact hE | refine Ex.setCell ?_ (by simp <;> omega) _)
     ·have hus := row12 u
      have huo := Xv u.l
      go_wp2_with (first | (refine wpList_load_row rfl _ _ rfl _ rfl _ _ (0, 0) _ b3 Tryz.underlying35 rfl (Ss hus) ?_) | (refine wpList_store_row rfl _ _ _ rfl _ _ rfl rfl _ _ b4 (Ss hus) rfl huo ?_))
      exact Gq (Yx Tryz.results37 _ _ _ _ _ (0, 0) _ rfl (b4.setRow _) Tryz.underlying35 rfl (Ss hus)) rfl ⟨by rw [HEE.out]; rfl, hE.setRow (Nat.le_succ _) _⟩
 ·have HE : Yj l v = (M4.none, false) := Lk hbn v
  replace hV := Zw.after (h := hV) hx
  have HEE := Gv HE
  clear hbn hx KB KV HE
  have b4 := hV.boxes.1
  have hE := hV.ex
  go_wp2_with fail
  go_loopw [8, 7, 9, 10, 11, 12] (fun i o _ _ _ _ wr => i = .int .i64 0 ∧ o = .bool false ∧ wr = w1) (fun _ _ _ _ _ _ _ => 0)
  case atStart => exact ⟨rfl, rfl, rfl⟩
  case round =>
   obtain ⟨rfl, rfl, rfl⟩ := hrel
   rcases Nat.eq_zero_or_pos n with hn | hn
   ·subst hn
    have c4 := b4.cell
    have f4 := b4.frozen
    have z4 := b4.lt
    unfold Z12 at c4
    go_wp2
    refine Gq (v := .tuple #[.agg #[.int .i64 0, .int .i64 0, .int .i64 0, .int .i64 0, .int .i64 0, .int .i64 0, .int .i64 0, .int .i64 0, .int .i64 0, .int .i64 0, .int .i64 0, .int .i64 0], .bool false]) ?_ rfl ⟨by rw [HEE.out]; rfl, ?_⟩
    ·simp [results, Tryz.results37, go_sem, c4]
    ·repeat' (with_reducible first | exact hE | refine Ex.setCell ?_ (by simp <;> omega) _)
   ·have hI : (0 : Int) < (n : Int) := by omega
    have c4 := b4.cell
    have f4 := b4.frozen
    have z4 := b4.lt
    unfold Z12 at c4
    go_wp2
    refine Gq (v := .tuple #[.agg #[.int .i64 0, .int .i64 0, .int .i64 0, .int .i64 0, .int .i64 0, .int .i64 0, .int .i64 0, .int .i64 0, .int .i64 0, .int .i64 0, .int .i64 0, .int .i64 0], .bool false]) ?_ rfl ⟨by rw [HEE.out]; rfl, ?_⟩
    ·simp [results, Tryz.results37, go_sem, c4]
    ·repeat' (with_reducible first | exact hE | refine Ex.setCell ?_ (by simp <;> omega) _)
end
section
open Go.RowKit

attribute [local go_sem] Zk Zj
@[local go_sem] theorem f32bits (b : Nat) (w : World) : (callFunc 35 #[.float .f32 b]).run Tryz.prog w = .ok (.value (.int .u32 b)) w :=
 (run_callFunc_extern (e := Extern.MathFloatBits.float32bits) Tryz.func35 (by kernel_rfl) (by kernel_rfl) (by kernel_rfl) (by kernel_rfl) _ w).trans rfl
theorem Qn (l : List UInt8) (hl : l.length ≤ 1048576) (v : M4) (w : World) [hG : Yf w] (hm : Vv w) : Calls Tryz.prog 17 #[.string (Bs l), v.v] w (fun e w' => e = .returned (Hk l v (Vw l v)) ∧ Ex w w') := by
 obtain ⟨S, hS0⟩ : ∃ S, S = Bs l := ⟨_, rfl⟩
 have kb := fun w (_ : Yf w) (hm : Vv w) => Rj l hl v w hm
 have kl := fun w => iStokesLight v w
 have he : Vw l v = if (Yj l v).2 && Rn v then (hash (Yj l v).1, true) else (0, false) := rfl
 generalize Vw l v = R at he ⊢
 generalize Rn v = sl at kl he
 obtain ⟨⟨a1, a2, a3⟩, ⟨b1, b2, b3⟩, ⟨c1, c2, c3⟩, ⟨d1, d2, d3⟩⟩ := v
 rcases hb : Yj l _ with ⟨⟨⟨p1, p2, p3⟩, ⟨q1, q2, q3⟩, ⟨r1, r2, r3⟩, ⟨s1, s2, s3⟩⟩, ok⟩
 rw [hb] at kb he
 rw [← hS0] at kb ⊢
 simp only [m4v, M4.v] at kb kl ⊢
 simp only [hash] at he
 clear hb hl
 have kp := fun w => Qy ⟨p1, p2, p3⟩ w
 generalize hgp : Xf ⟨p1, p2, p3⟩ = gp at kp he
 obtain ⟨pr, pi, po⟩ := gp
 have KP : Hid (∀ w, Calls Tryz.prog 34 #[.agg #[.int .i64 p1, .int .i64 p2, .int .i64 p3]] w (fun e w' => e = .returned (.tuple #[.complex .f32 pr pi, .bool po]) ∧ Ex w w')) := kp
 have kq := fun w => Qy ⟨q1, q2, q3⟩ w
 generalize hgq : Xf ⟨q1, q2, q3⟩ = gq at kq he
 obtain ⟨qr, qi, qo⟩ := gq
 have KQ : Hid (∀ w, Calls Tryz.prog 34 #[.agg #[.int .i64 q1, .int .i64 q2, .int .i64 q3]] w (fun e w' => e = .returned (.tuple #[.complex .f32 qr qi, .bool qo]) ∧ Ex w w')) := kq
 have kr := fun w => Qy ⟨r1, r2, r3⟩ w
 generalize hgr : Xf ⟨r1, r2, r3⟩ = gr at kr he
 obtain ⟨rr, ri, ro⟩ := gr
 have KR : Hid (∀ w, Calls Tryz.prog 34 #[.agg #[.int .i64 r1, .int .i64 r2, .int .i64 r3]] w (fun e w' => e = .returned (.tuple #[.complex .f32 rr ri, .bool ro]) ∧ Ex w w')) := kr
 have ks := fun w => Qy ⟨s1, s2, s3⟩ w
 generalize hgs : Xf ⟨s1, s2, s3⟩ = gs at ks he
 obtain ⟨sr, si, so⟩ := gs
 have KS : Hid (∀ w, Calls Tryz.prog 34 #[.agg #[.int .i64 s1, .int .i64 s2, .int .i64 s3]] w (fun e w' => e = .returned (.tuple #[.complex .f32 sr si, .bool so]) ∧ Ex w w')) := ks
 have KB := Gv kb
 have KL := Gv kl
 have HE := Gv he
 clear kb kl he kp kq kr ks hgp hgq hgr hgs
 have HG := Gv hG
 have HM := Gv hm
 clear hm hG
 generalize hV : Hk _ _ R = V
 simp only [Hk, Ws] at hV
 rw [← hS0] at hV
 have HV := Gv hV.symm
 clear hV
 clear hS0
 have hS := Zw.refl w
 have hC := True.intro
 rcases ok with _ | _
 ·go_enter Tryz.func17, Tryz.ntmps17
  go_wp2_with (first | (go_at_call 28; (with_reducible refine (KB.out _ (HG.out.ex (hS.ex.alloc _ |>.alloc _)) (HM.out.ex (hS.ex.alloc _ |>.alloc _))).mono ?_); rintro e wn ⟨rfl, hx⟩; replace hS := Zw.after (W := w) hx; clear hx; replace hC := hS.reads; simp only [Zz, Zy, Gu] at hC) | (go_at_call 33; (with_reducible refine (KL.out _).mono ?_); rintro e wn ⟨rfl, hx⟩; replace hS := Zw.after (W := w) hx; clear hx; replace hC := hS.reads; simp only [Zz, Zy, Gu] at hC))
  refine Gq (v := .tuple #[.agg #[.string ⟨#[]⟩, .int .i64 0, .int .i64 0, .int .i64 0, .int .i64 0, .int .i64 0, .int .i64 0, .int .i64 0, .int .i64 0, .int .i64 0, .int .i64 0, .int .i64 0, .int .i64 0, .int .u32 0], .bool false]) ?_ rfl ⟨by rw [HV.out, HE.out]; simp [M4.none, Fr.none], ?_⟩
  ·simp [results, Tryz.results17, go_sem, hC]
  ·repeat' (with_reducible first | exact hS.ex | exact Ex.refl _ | assumption | apply Ex.alloc | apply Ex.drewN | apply Ex.drew | refine Ex.setCell ?_ (by simp <;> omega) _)
 ·rcases sl with _ | _
  ·go_enter Tryz.func17, Tryz.ntmps17
   go_wp2_with (first | (go_at_call 28; (with_reducible refine (KB.out _ (HG.out.ex (hS.ex.alloc _ |>.alloc _)) (HM.out.ex (hS.ex.alloc _ |>.alloc _))).mono ?_); rintro e wn ⟨rfl, hx⟩; replace hS := Zw.after (W := w) hx; clear hx; replace hC := hS.reads; simp only [Zz, Zy, Gu] at hC) | (go_at_call 33; (with_reducible refine (KL.out _).mono ?_); rintro e wn ⟨rfl, hx⟩; replace hS := Zw.after (W := w) hx; clear hx; replace hC := hS.reads; simp only [Zz, Zy, Gu] at hC))
   refine Gq (v := .tuple #[.agg #[.string ⟨#[]⟩, .int .i64 0, .int .i64 0, .int .i64 0, .int .i64 0, .int .i64 0, .int .i64 0, .int .i64 0, .int .i64 0, .int .i64 0, .int .i64 0, .int .i64 0, .int .i64 0, .int .u32 0], .bool false]) ?_ rfl ⟨by rw [HV.out, HE.out]; simp [M4.none, Fr.none], ?_⟩
   ·simp [results, Tryz.results17, go_sem, hC]
   ·repeat' (with_reducible first | exact hS.ex | exact Ex.refl _ | assumption | apply Ex.alloc | apply Ex.drewN | apply Ex.drew | refine Ex.setCell ?_ (by simp <;> omega) _)
  ·go_enter Tryz.func17, Tryz.ntmps17
   go_wp2_with (first | (go_at_call 28; (with_reducible refine (KB.out _ (HG.out.ex (hS.ex.alloc _ |>.alloc _)) (HM.out.ex (hS.ex.alloc _ |>.alloc _))).mono ?_); rintro e wn ⟨rfl, hx⟩; replace hS := Zw.after (W := w) hx; clear hx; replace hC := hS.reads; simp only [Zz, Zy, Gu] at hC) | (go_at_call 33; (with_reducible refine (KL.out _).mono ?_); rintro e wn ⟨rfl, hx⟩; replace hS := Zw.after (W := w) hx; clear hx; replace hC := hS.reads; simp only [Zz, Zy, Gu] at hC))
   have i0 := fun w => index4_0 p1 p2 p3 q1 q2 q3 r1 r2 r3 s1 s2 s3 w
   have i1 := fun w => index4_1 p1 p2 p3 q1 q2 q3 r1 r2 r3 s1 s2 s3 w
   have i2 := fun w => index4_2 p1 p2 p3 q1 q2 q3 r1 r2 r3 s1 s2 s3 w
   have i3 := fun w => index4_3 p1 p2 p3 q1 q2 q3 r1 r2 r3 s1 s2 s3 w
   refine wp_loop_rounds 5 ?_
   rw [rounds_succ]
   go_wp2_with (go_at_call 34; (with_reducible refine (KP.out _).mono ?_); rintro e wn ⟨rfl, hx⟩; replace hS := Zw.after (W := w) hx; clear hx; replace hC := hS.reads; simp only [Zz, Zy, Gu] at hC)
   rw [rounds_succ]
   go_wp2_with (go_at_call 34; (with_reducible refine (KQ.out _).mono ?_); rintro e wn ⟨rfl, hx⟩; replace hS := Zw.after (W := w) hx; clear hx; replace hC := hS.reads; simp only [Zz, Zy, Gu] at hC)
   rw [rounds_succ]
   go_wp2_with (go_at_call 34; (with_reducible refine (KR.out _).mono ?_); rintro e wn ⟨rfl, hx⟩; replace hS := Zw.after (W := w) hx; clear hx; replace hC := hS.reads; simp only [Zz, Zy, Gu] at hC)
   rw [rounds_succ]
   go_wp2_with (go_at_call 34; (with_reducible refine (KS.out _).mono ?_); rintro e wn ⟨rfl, hx⟩; replace hS := Zw.after (W := w) hx; clear hx; replace hC := hS.reads; simp only [Zz, Zy, Gu] at hC)
   rw [rounds_succ]
   go_wp2_with fail
   refine Gq (v := .tuple #[.agg #[.string S, .int .i64 a1, .int .i64 a2, .int .i64 a3, .int .i64 b1, .int .i64 b2, .int .i64 b3, .int .i64 c1, .int .i64 c2, .int .i64 c3, .int .i64 d1, .int .i64 d2, .int .i64 d3, .int .u32 (Ti (Ti (Ti (Ti 2166136261 pr) qr) rr) sr)], .bool true]) ?_ rfl ⟨by rw [HV.out, HE.out]; simp [M4.none, Fr.none], ?_⟩
   ·simp [results, Tryz.results17, go_sem, hC, Ti]
   ·repeat' (with_reducible first | exact hS.ex | exact Ex.refl _ | assumption | apply Ex.alloc | apply Ex.drewN | apply Ex.drew | refine Ex.setCell ?_ (by simp <;> omega) _)
theorem sL14Sum (l : List UInt8) (hl : l.length ≤ 1048576) (v : M4) (w : World) : Calls Tryz.prog 31 #[.string (Bs l), v.v] w (fun e w' => e = .returned (.tuple #[.int .u32 (Vw l v).1, .bool (Vw l v).2]) ∧ Ex w w') := by
 obtain ⟨S, hS0⟩ : ∃ S, S = Bs l := ⟨_, rfl⟩
 have kb := fun w => Ri l hl v w
 have kl := fun w => sStokesLight v w
 have he : Vw l v = if (Yj l v).2 && Rn v then (hash (Yj l v).1, true) else (0, false) := rfl
 generalize Vw l v = R at he ⊢
 generalize Rn v = sl at kl he
 obtain ⟨⟨a1, a2, a3⟩, ⟨b1, b2, b3⟩, ⟨c1, c2, c3⟩, ⟨d1, d2, d3⟩⟩ := v
 rcases hb : Yj l _ with ⟨⟨⟨p1, p2, p3⟩, ⟨q1, q2, q3⟩, ⟨r1, r2, r3⟩, ⟨s1, s2, s3⟩⟩, ok⟩
 rw [hb] at kb he
 rw [← hS0] at kb ⊢
 simp only [m4v, M4.v] at kb kl ⊢
 simp only [hash] at he
 clear hb hl
 have kp := fun w => Qw ⟨p1, p2, p3⟩ w
 generalize hgp : Xf ⟨p1, p2, p3⟩ = gp at kp he
 obtain ⟨pr, pi, po⟩ := gp
 have KP : Hid (∀ w, Calls Tryz.prog 50 #[.agg #[.int .i64 p1, .int .i64 p2, .int .i64 p3]] w (fun e w' => e = .returned (.tuple #[.complex .f32 pr pi, .bool po]) ∧ Ex w w')) := kp
 have kq := fun w => Qw ⟨q1, q2, q3⟩ w
 generalize hgq : Xf ⟨q1, q2, q3⟩ = gq at kq he
 obtain ⟨qr, qi, qo⟩ := gq
 have KQ : Hid (∀ w, Calls Tryz.prog 50 #[.agg #[.int .i64 q1, .int .i64 q2, .int .i64 q3]] w (fun e w' => e = .returned (.tuple #[.complex .f32 qr qi, .bool qo]) ∧ Ex w w')) := kq
 have kr := fun w => Qw ⟨r1, r2, r3⟩ w
 generalize hgr : Xf ⟨r1, r2, r3⟩ = gr at kr he
 obtain ⟨rr, ri, ro⟩ := gr
 have KR : Hid (∀ w, Calls Tryz.prog 50 #[.agg #[.int .i64 r1, .int .i64 r2, .int .i64 r3]] w (fun e w' => e = .returned (.tuple #[.complex .f32 rr ri, .bool ro]) ∧ Ex w w')) := kr
 have ks := fun w => Qw ⟨s1, s2, s3⟩ w
 generalize hgs : Xf ⟨s1, s2, s3⟩ = gs at ks he
 obtain ⟨sr, si, so⟩ := gs
 have KS : Hid (∀ w, Calls Tryz.prog 50 #[.agg #[.int .i64 s1, .int .i64 s2, .int .i64 s3]] w (fun e w' => e = .returned (.tuple #[.complex .f32 sr si, .bool so]) ∧ Ex w w')) := ks
 have KB := Gv kb
 have KL := Gv kl
 have HE := Gv he
 clear kb kl he kp kq kr ks hgp hgq hgr hgs
 clear hS0
 have hS := Zw.refl w
 have hC := True.intro
 rcases ok with _ | _
 ·go_enter Tryz.func31, Tryz.ntmps31
  go_wp2_with (first | (go_at_call 37; (with_reducible refine (KB.out _).mono ?_); rintro e wn ⟨rfl, hx⟩; replace hS := Zw.after (W := w) hx; clear hx; replace hC := hS.reads; simp only [Zz, Zy, Gu] at hC) | (go_at_call 49; (with_reducible refine (KL.out _).mono ?_); rintro e wn ⟨rfl, hx⟩; replace hS := Zw.after (W := w) hx; clear hx; replace hC := hS.reads; simp only [Zz, Zy, Gu] at hC))
  refine Gq (v := .tuple #[.int .u32 0, .bool false]) ?_ rfl ⟨by rw [HE.out]; first | done | rfl, ?_⟩
  ·simp [results, Tryz.results31, go_sem, hC]
  ·repeat' (with_reducible first | exact hS.ex | exact Ex.refl _ | assumption | apply Ex.alloc | apply Ex.drewN | apply Ex.drew | refine Ex.setCell ?_ (by simp <;> omega) _)
 ·rcases sl with _ | _
  ·go_enter Tryz.func31, Tryz.ntmps31
   go_wp2_with (first | (go_at_call 37; (with_reducible refine (KB.out _).mono ?_); rintro e wn ⟨rfl, hx⟩; replace hS := Zw.after (W := w) hx; clear hx; replace hC := hS.reads; simp only [Zz, Zy, Gu] at hC) | (go_at_call 49; (with_reducible refine (KL.out _).mono ?_); rintro e wn ⟨rfl, hx⟩; replace hS := Zw.after (W := w) hx; clear hx; replace hC := hS.reads; simp only [Zz, Zy, Gu] at hC))
   refine Gq (v := .tuple #[.int .u32 0, .bool false]) ?_ rfl ⟨by rw [HE.out]; first | done | rfl, ?_⟩
   ·simp [results, Tryz.results31, go_sem, hC]
   ·repeat' (with_reducible first | exact hS.ex | exact Ex.refl _ | assumption | apply Ex.alloc | apply Ex.drewN | apply Ex.drew | refine Ex.setCell ?_ (by simp <;> omega) _)
  ·go_enter Tryz.func31, Tryz.ntmps31
   go_wp2_with (first | (go_at_call 37; (with_reducible refine (KB.out _).mono ?_); rintro e wn ⟨rfl, hx⟩; replace hS := Zw.after (W := w) hx; clear hx; replace hC := hS.reads; simp only [Zz, Zy, Gu] at hC) | (go_at_call 49; (with_reducible refine (KL.out _).mono ?_); rintro e wn ⟨rfl, hx⟩; replace hS := Zw.after (W := w) hx; clear hx; replace hC := hS.reads; simp only [Zz, Zy, Gu] at hC))
   refine wp_loop_rounds 5 ?_
   rw [rounds_succ]
   go_wp2_with (go_at_call 50; (with_reducible refine (KP.out _).mono ?_); rintro e wn ⟨rfl, hx⟩; replace hS := Zw.after (W := w) hx; clear hx; replace hC := hS.reads; simp only [Zz, Zy, Gu] at hC)
   rw [rounds_succ]
   go_wp2_with (go_at_call 50; (with_reducible refine (KQ.out _).mono ?_); rintro e wn ⟨rfl, hx⟩; replace hS := Zw.after (W := w) hx; clear hx; replace hC := hS.reads; simp only [Zz, Zy, Gu] at hC)
   rw [rounds_succ]
   go_wp2_with (go_at_call 50; (with_reducible refine (KR.out _).mono ?_); rintro e wn ⟨rfl, hx⟩; replace hS := Zw.after (W := w) hx; clear hx; replace hC := hS.reads; simp only [Zz, Zy, Gu] at hC)
   rw [rounds_succ]
   go_wp2_with (go_at_call 50; (with_reducible refine (KS.out _).mono ?_); rintro e wn ⟨rfl, hx⟩; replace hS := Zw.after (W := w) hx; clear hx; replace hC := hS.reads; simp only [Zz, Zy, Gu] at hC)
   rw [rounds_succ]
   go_wp2_with fail
   refine Gq (v := .tuple #[.int .u32 (Ti (Ti (Ti (Ti 2166136261 pr) qr) rr) sr), .bool true]) ?_ rfl ⟨by rw [HE.out]; first | done | rfl, ?_⟩
   ·simp [results, Tryz.results31, go_sem, hC, Ti]
   ·repeat' (with_reducible first | exact hS.ex | exact Ex.refl _ | assumption | apply Ex.alloc | apply Ex.drewN | apply Ex.drew | refine Ex.setCell ?_ (by simp <;> omega) _)
end
end Go.Proofs.YtmmjkchjgeklnaaGreatDoor
