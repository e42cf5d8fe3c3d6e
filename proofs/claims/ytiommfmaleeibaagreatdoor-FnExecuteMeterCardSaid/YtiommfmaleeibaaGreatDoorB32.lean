/-
  Proved: what functions compute, part 32. No condition.
-/
import Derived.Test.YtiommfmaleeibaaGreatDoorB25
import Derived.Test.YtiommfmaleeibaaGreatDoorB28
import Derived.Test.YtiommfmaleeibaaGreatDoorB31
import Derived.Test.YtiommfmaleeibaaGreatDoorB05
import Derived.Test.YtiommfmaleeibaaGreatDoorB14
import Derived.Test.YtiommfmaleeibaaGreatDoorB18
import Derived.Test.YtiommfmaleeibaaGreatDoorB16
import Derived.Test.YtiommfmaleeibaaGreatDoorB24
import Derived.Test.YtiommfmaleeibaaGreatDoorB29
import Derived.Test.YtiommfmaleeibaaGreatDoorB17
import Derived.Test.YtiommfmaleeibaaGreatDoorB30
set_option linter.unusedSimpArgs false
set_option linter.unusedVariables false
set_option maxRecDepth 20000
set_option maxHeartbeats 8000000
namespace Go.Proofs.YtiommfmaleeibaaGreatDoor
section
open Go.RowKit

attribute [local go_sem] Zi Zh
theorem iShare (k : Int) (g n cap : Nat) (cur : Array Value) (S : ByteArray) (a b : Int) (hn : 2 ≤ n) (ha : -1000000 ≤ a ∧ a ≤ 1000000) (hb : 1 ≤ b ∧ b ≤ 1000000) (w : World) (hbox : Box w g 3 cur) (c0 : cur[0]? = some (.int .i64 a)) (c1 : cur[1]? = some (.int .i64 b)) : Calls Tryz.prog 197 #[.agg #[.int .u8 k, .slice (some ⟨g, 0, none⟩) n cap, .string S]] w (fun e w' => e = .returned (flow a 0 b).1.v ∧ Ex w w') := by
 have k0 := fun w => Wp a 0 b w (by omega) (by omega) (by omega)
 rcases hf : flow a 0 b with ⟨⟨f1, f2, f3⟩, ok⟩
 rw [hf] at k0
 have k1 : ∀ w, Calls Tryz.prog 121 #[.int .i64 a, .int .i64 0, .int .i64 b] w _ := fun w => Yh.spell (k0 w)
 clear k0
 have KF := Kw k1
 clear k1
 have hR : Zw w w [(g, 3, cur)] := ⟨Ex.refl w, hbox, trivial⟩
 have n1 : (0 : Int) < n := by omega
 have n2 : (1 : Int) < n := by omega
 clear hbox ha hb
 go_enter Tryz.func197, Tryz.ntmps197
 go_upto_region 1 with fail
 have hS : Zw w ((w.alloc (.cells #[.int .u8 k, .slice (some ⟨g, 0, none⟩) n cap, .string S] 169)).alloc (.cells #[.int .i64 0, .int .i64 0, .int .i64 0] 30)) _ := inferInstance
 clear hR
 simp only [Kv] at hS
 generalize (w.alloc (.cells #[.int .u8 k, .slice (some ⟨g, 0, none⟩) n cap, .string S] 169)).alloc (.cells #[.int .i64 0, .int .i64 0, .int .i64 0] 30) = W0 at *
 have hS0 := hS
 refine Zm (St := Ex) (B := fun _ w' => InE _ _ w') 12 1 1 _ 30 (fun _ => 3) (fun _ => 15) (fun _ => #[.int .i64 0, .int .i64 0, .int .i64 0]) (fun _ => #[.int .i64 f1, .int .i64 f2, .int .i64 f3]) false (by kernel_rfl) (by kernel_rfl) (InE.drew (InE.start hS0)) (fun x y h1 h2 _ => by omega) (fun x y _ _ => by decide) (fun _ _ h g cs _ hb => hb.ex h) (fun _ _ cs h => h.alloc _) (fun _ _ h => h.size) ?_
 iterate 8 (apply Zx; (· rfl); (· intro b wb hB Q1 hQ1; have hC := hB.sees.reads; simp only [Zz, Zy] at hC; go_wp2_with fail; exact hQ1 _ (Ex.refl _) hB); (· exact ⟨_, rfl⟩))
 (apply Zx; (· rfl); (· intro b wb hB Q1 hQ1; go_wp2_with (go_at_call 121; (with_reducible refine (KF.out _).mono ?_); rintro e wn ⟨rfl, hx⟩); exact hQ1 _ hx (hB.go hx)); (· exact ⟨_, rfl⟩))
 iterate 3 (apply Zx; (· rfl); (· intro b wb hB Q1 hQ1; go_wp2_with fail; exact hQ1 _ (Ex.refl _) hB); (· exact ⟨_, rfl⟩))
 refine Zq ?_
 refine ⟨fun i hi => ?_, fun i hi => ?_, fun i hi => ?_, fun gg wz hz hbx hne => ?_⟩
 ·obtain rfl : i = 0 := by omega
  all_goals exact ⟨_, rfl, Zb⟩
 ·obtain rfl : i = 0 := by omega
  all_goals exact ⟨_, rfl, Zf Yv rfl (by kernel_rfl) (fun _ _ _ hg h => h.setRow hg _)⟩
 ·obtain rfl : i = 0 := by omega
  ·exact (show (3 : Nat) < 18 by decide)
 obtain ⟨hg0, hb0⟩ := hbx 0 (by omega)
 replace hS := InE.join hS0 hz
 replace hS := Zw.put hS hb0
 simp only [frN, Act.put, Ku, Kt, Ks, Nat.reduceAdd, List.drop_succ_cons, List.drop_zero]
 generalize gg 0 = g0 at *
 clear hbx hz hS0 hne
 have hC := hS.reads
 simp only [Zz, Zy] at hC
 have hE := hS.ex
 go_wp2_with fail
 refine Kr (v := .agg #[.int .i64 f1, .int .i64 f2, .int .i64 f3]) ?_ rfl ⟨rfl, ?_⟩
 ·simp [results, Tryz.results197, go_sem, hC]
 ·repeat' (with_reducible first | exact hE | refine Ex.setCell ?_ (by simp <;> omega) _)
end
section
open Go.RowKit

attribute [local go_sem] Zi Zh
theorem iMat_r (g n cap : Nat) (cur : Array Value) (S : ByteArray) (a b : Int) (hn : 2 ≤ n) (w : World) [hG : Yc w] (hbox : Box w g 3 cur) (c0 : cur[0]? = some (.int .i64 a)) (c1 : cur[1]? = some (.int .i64 b)) : Calls Tryz.prog 140 #[.agg #[.int .u8 114, .slice (some ⟨g, 0, none⟩) n cap, .string S]] w (fun e w' => e = .returned (m4v (Yt a b)) ∧ Ex w w') := by
 have k1 := fun w => Va a b w
 rcases hf : Yt a b with ⟨⟨⟨x1, x2, x3⟩, ⟨x4, x5, x6⟩, ⟨x7, x8, x9⟩, ⟨y1, y2, y3⟩⟩, ok⟩
 rw [hf] at k1
 simp only [m4v, M4.v] at k1
 have KF := Kw k1
 clear k1
 have hR : Zw w w [(g, 3, cur)] := ⟨Ex.refl w, hbox, trivial⟩
 have n1 : (0 : Int) < n := by omega
 have n2 : (1 : Int) < n := by omega
 clear hbox
 go_enter Tryz.func140, Tryz.ntmps140
 go_upto_region 3 with fail
 have hS : Zw w ((w.alloc (.cells #[.int .u8 114, .slice (some ⟨g, 0, none⟩) n cap, .string S] 169)).alloc (.cells #[.int .i64 0, .int .i64 0, .int .i64 0, .int .i64 0, .int .i64 0, .int .i64 0, .int .i64 0, .int .i64 0, .int .i64 0, .int .i64 0, .int .i64 0, .int .i64 0] 79)) _ := inferInstance
 clear hR
 simp only [Kv] at hS
 generalize (w.alloc (.cells #[.int .u8 114, .slice (some ⟨g, 0, none⟩) n cap, .string S] 169)).alloc (.cells #[.int .i64 0, .int .i64 0, .int .i64 0, .int .i64 0, .int .i64 0, .int .i64 0, .int .i64 0, .int .i64 0, .int .i64 0, .int .i64 0, .int .i64 0, .int .i64 0] 79) = W0 at *
 refine Zd (St := fun _ _ => True) 11 false (B := fun _ w2 => Zw w w2 [(w.heap.size + 1, 79, #[.int .i64 0, .int .i64 0, .int .i64 0, .int .i64 0, .int .i64 0, .int .i64 0, .int .i64 0, .int .i64 0, .int .i64 0, .int .i64 0, .int .i64 0, .int .i64 0]), (w.heap.size, 169, #[.int .u8 114, .slice (some ⟨g, 0, none⟩) n cap, .string S]), (g, 3, cur)]) (by kernel_rfl) (by kernel_rfl) (hS.drewW) (by exact fun _ _ _ _ _ h => h) ?_
 iterate 8 (apply Zx; (· rfl); (· intro b wb hB Q1 hQ1; have hS := hB; have hC := hS.reads; simp only [Zz, Zy] at hC; go_wp2_with fail; exact hQ1 _ trivial hB); (· exact ⟨_, rfl⟩))
 (apply Zx; (· rfl); (· intro b wb hB Q1 hQ1; go_wp2_with (go_at_call 91; (with_reducible refine (KF.out _).mono ?_); rintro e wn ⟨rfl, hx⟩); exact hQ1 _ trivial (hB.go hx)); (· exact ⟨_, rfl⟩))
 iterate 2 (apply Zx; (· rfl); (· intro b wb hB Q1 hQ1; go_wp2_with fail; exact hQ1 _ trivial hB); (· exact ⟨_, rfl⟩))
 refine Zq ?_
 intro wz hz
 clear hS
 have hS := hz
 have hC := hS.reads
 simp only [Zz, Zy] at hC
 have hE := hS.ex
 go_wp2_with fail
 refine Kr (v := .tuple #[.agg #[.int .i64 x1, .int .i64 x2, .int .i64 x3, .int .i64 x4, .int .i64 x5, .int .i64 x6, .int .i64 x7, .int .i64 x8, .int .i64 x9, .int .i64 y1, .int .i64 y2, .int .i64 y3], .bool ok]) ?_ rfl ⟨rfl, ?_⟩
 ·simp [results, Tryz.results140, go_sem, hC]
 ·repeat' (with_reducible first | exact hE | refine Ex.setCell ?_ (by simp <;> omega) _)
theorem iMat_f (g n cap : Nat) (cur : Array Value) (S : ByteArray) (a b : Int) (hn : 2 ≤ n) (w : World) [hG : Yc w] (hbox : Box w g 3 cur) (c0 : cur[0]? = some (.int .i64 a)) (c1 : cur[1]? = some (.int .i64 b)) : Calls Tryz.prog 140 #[.agg #[.int .u8 102, .slice (some ⟨g, 0, none⟩) n cap, .string S]] w (fun e w' => e = .returned (m4v (Yb a b)) ∧ Ex w w') := by
 have k1 := fun w => Ma a b w
 rcases hf : Yb a b with ⟨⟨⟨x1, x2, x3⟩, ⟨x4, x5, x6⟩, ⟨x7, x8, x9⟩, ⟨y1, y2, y3⟩⟩, ok⟩
 rw [hf] at k1
 simp only [m4v, M4.v] at k1
 have KF := Kw k1
 clear k1
 have hR : Zw w w [(g, 3, cur)] := ⟨Ex.refl w, hbox, trivial⟩
 have n1 : (0 : Int) < n := by omega
 have n2 : (1 : Int) < n := by omega
 clear hbox
 go_enter Tryz.func140, Tryz.ntmps140
 go_upto_region 7 with fail
 have hS : Zw w ((w.alloc (.cells #[.int .u8 102, .slice (some ⟨g, 0, none⟩) n cap, .string S] 169)).alloc (.cells #[.int .i64 0, .int .i64 0, .int .i64 0, .int .i64 0, .int .i64 0, .int .i64 0, .int .i64 0, .int .i64 0, .int .i64 0, .int .i64 0, .int .i64 0, .int .i64 0] 79)) _ := inferInstance
 clear hR
 simp only [Kv] at hS
 generalize (w.alloc (.cells #[.int .u8 102, .slice (some ⟨g, 0, none⟩) n cap, .string S] 169)).alloc (.cells #[.int .i64 0, .int .i64 0, .int .i64 0, .int .i64 0, .int .i64 0, .int .i64 0, .int .i64 0, .int .i64 0, .int .i64 0, .int .i64 0, .int .i64 0, .int .i64 0] 79) = W0 at *
 refine Zd (St := fun _ _ => True) 11 false (B := fun _ w2 => Zw w w2 [(w.heap.size + 1, 79, #[.int .i64 0, .int .i64 0, .int .i64 0, .int .i64 0, .int .i64 0, .int .i64 0, .int .i64 0, .int .i64 0, .int .i64 0, .int .i64 0, .int .i64 0, .int .i64 0]), (w.heap.size, 169, #[.int .u8 102, .slice (some ⟨g, 0, none⟩) n cap, .string S]), (g, 3, cur)]) (by kernel_rfl) (by kernel_rfl) (hS.drewW) (by exact fun _ _ _ _ _ h => h) ?_
 iterate 8 (apply Zx; (· rfl); (· intro b wb hB Q1 hQ1; have hS := hB; have hC := hS.reads; simp only [Zz, Zy] at hC; go_wp2_with fail; exact hQ1 _ trivial hB); (· exact ⟨_, rfl⟩))
 (apply Zx; (· rfl); (· intro b wb hB Q1 hQ1; go_wp2_with (go_at_call 38; (with_reducible refine (KF.out _).mono ?_); rintro e wn ⟨rfl, hx⟩); exact hQ1 _ trivial (hB.go hx)); (· exact ⟨_, rfl⟩))
 iterate 2 (apply Zx; (· rfl); (· intro b wb hB Q1 hQ1; go_wp2_with fail; exact hQ1 _ trivial hB); (· exact ⟨_, rfl⟩))
 refine Zq ?_
 intro wz hz
 clear hS
 have hS := hz
 have hC := hS.reads
 simp only [Zz, Zy] at hC
 have hE := hS.ex
 go_wp2_with fail
 refine Kr (v := .tuple #[.agg #[.int .i64 x1, .int .i64 x2, .int .i64 x3, .int .i64 x4, .int .i64 x5, .int .i64 x6, .int .i64 x7, .int .i64 x8, .int .i64 x9, .int .i64 y1, .int .i64 y2, .int .i64 y3], .bool ok]) ?_ rfl ⟨rfl, ?_⟩
 ·simp [results, Tryz.results140, go_sem, hC]
 ·repeat' (with_reducible first | exact hE | refine Ex.setCell ?_ (by simp <;> omega) _)
end
section
open Go.RowKit

attribute [local go_sem] Zi Zh
theorem third {W w : World} {x y : Nat × TypeId × Array Value} {g : Nat} {t : TypeId} {cs : Array Value} (h : Zw W w [x, y, (g, t, cs)]) : Box w g t cs := h.boxes.2.2.1
theorem iMat_a (g n cap : Nat) (cur : Array Value) (S : ByteArray) (a b : Int) (hn : 2 ≤ n) (ha : -1000000 ≤ a ∧ a ≤ 1000000) (hb : 1 ≤ b ∧ b ≤ 1000000) (w : World) [hG : Yc w] (hbox : Box w g 3 cur) (c0 : cur[0]? = some (.int .i64 a)) (c1 : cur[1]? = some (.int .i64 b)) : Calls Tryz.prog 140 #[.agg #[.int .u8 97, .slice (some ⟨g, 0, none⟩) n cap, .string S]] w (fun e w' => e = .returned (m4v (⟨(flow a 0 b).1, Fr.nul, Fr.nul, (flow a 0 b).1⟩, true)) ∧ Ex w w') := by
 have k1 := fun w hx => iShare 97 g n cap cur S a b hn ha hb w hx c0 c1
 rcases hf : (flow a 0 b).1 with ⟨f1, f2, f3⟩
 rw [hf] at k1
 simp only [Fr.v] at k1
 have KF := Kw k1
 clear k1
 have HG := Kw hG
 have hR : Zw w w [(g, 3, cur)] := ⟨Ex.refl w, hbox, trivial⟩
 clear hbox ha hb
 go_enter Tryz.func140, Tryz.ntmps140
 go_upto_region 9 with fail
 have hS : Zw w ((w.alloc (.cells #[.int .u8 97, .slice (some ⟨g, 0, none⟩) n cap, .string S] 169)).alloc (.cells #[.int .i64 0, .int .i64 0, .int .i64 0, .int .i64 0, .int .i64 0, .int .i64 0, .int .i64 0, .int .i64 0, .int .i64 0, .int .i64 0, .int .i64 0, .int .i64 0] 79)) _ := inferInstance
 clear hR
 simp only [Kv] at hS
 generalize (w.alloc (.cells #[.int .u8 97, .slice (some ⟨g, 0, none⟩) n cap, .string S] 169)).alloc (.cells #[.int .i64 0, .int .i64 0, .int .i64 0, .int .i64 0, .int .i64 0, .int .i64 0, .int .i64 0, .int .i64 0, .int .i64 0, .int .i64 0, .int .i64 0, .int .i64 0] 79) = W0 at *
 refine Zd (St := fun _ _ => True) 8 false (B := fun _ w2 => Zw w w2 [(w.heap.size + 1, 79, #[.int .i64 0, .int .i64 0, .int .i64 0, .int .i64 0, .int .i64 0, .int .i64 0, .int .i64 0, .int .i64 0, .int .i64 0, .int .i64 0, .int .i64 0, .int .i64 0]), (w.heap.size, 169, #[.int .u8 97, .slice (some ⟨g, 0, none⟩) n cap, .string S]), (g, 3, cur)]) (by kernel_rfl) (by kernel_rfl) (hS.drewW) (by exact fun _ _ _ _ _ h => h) ?_
 (apply Zx; (· rfl); (· intro b wb hB Q1 hQ1; have hS := hB; have hC := hS.reads; simp only [Zz, Zy] at hC; go_wp2_with fail; exact hQ1 _ trivial hB); (· exact ⟨_, rfl⟩))
 (apply Zx; (· rfl); (· intro b wb hB Q1 hQ1; go_wp2_with (go_at_call 197; (with_reducible refine (KF.out _ (third hB)).mono ?_); rintro e wn ⟨rfl, hx⟩); exact hQ1 _ trivial (hB.go hx)); (· exact ⟨_, rfl⟩))
 iterate 2 (apply Zx; (· rfl); (· intro b wb hB Q1 hQ1; have hg := (HG.out.ex hB.ex).reads; go_wp2_with fail; exact hQ1 _ trivial hB); (· exact ⟨_, rfl⟩))
 (apply Zx; (· rfl); (· intro b wb hB Q1 hQ1; have hS := hB; have hC := hS.reads; simp only [Zz, Zy] at hC; go_wp2_with fail; exact hQ1 _ trivial hB); (· exact ⟨_, rfl⟩))
 (apply Zx; (· rfl); (· intro b wb hB Q1 hQ1; go_wp2_with (go_at_call 197; (with_reducible refine (KF.out _ (third hB)).mono ?_); rintro e wn ⟨rfl, hx⟩); exact hQ1 _ trivial (hB.go hx)); (· exact ⟨_, rfl⟩))
 iterate 2 (apply Zx; (· rfl); (· intro b wb hB Q1 hQ1; go_wp2_with fail; exact hQ1 _ trivial hB); (· exact ⟨_, rfl⟩))
 refine Zq ?_
 intro wz hz
 clear hS
 have hS := hz
 have hC := hS.reads
 simp only [Zz, Zy] at hC
 have hE := hS.ex
 go_wp2_with fail
 refine Kr (v := .tuple #[.agg #[.int .i64 f1, .int .i64 f2, .int .i64 f3, .int .i64 0, .int .i64 0, .int .i64 1, .int .i64 0, .int .i64 0, .int .i64 1, .int .i64 f1, .int .i64 f2, .int .i64 f3], .bool true]) ?_ rfl ⟨rfl, ?_⟩
 ·simp [results, Tryz.results140, go_sem, hC]
 ·repeat' (with_reducible first | exact hE | refine Ex.setCell ?_ (by simp <;> omega) _)
end
section
open Go.RowKit

attribute [local go_sem] Zi Zh
theorem iTab_d (g n cap : Nat) (cur : Array Value) (S : ByteArray) (a b : Int) (hn : 2 ≤ n) (ha : -1000000 ≤ a ∧ a ≤ 1000000) (hb : 1 ≤ b ∧ b ≤ 1000000) (w : World) [hG : Yc w] (hbox : Box w g 3 cur) (c0 : cur[0]? = some (.int .i64 a)) (c1 : cur[1]? = some (.int .i64 b)) : Calls Tryz.prog 135 #[.agg #[.int .u8 100, .slice (some ⟨g, 0, none⟩) n cap, .string S]] w (fun e w' => e = .returned (Sg (Rd (flow a 0 b).1)) ∧ Ex w w') := by
 have k1 := fun w hx => iShare 100 g n cap cur S a b hn ha hb w hx c0 c1
 rcases hf : (flow a 0 b).1 with ⟨f1, f2, f3⟩
 rw [hf] at k1
 simp only [Fr.v] at k1
 have k2 := fun w (_ : Yc w) => iTableFade f1 f2 f3 w
 rcases hT : Rd ⟨f1, f2, f3⟩ with ⟨t, ok⟩
 have hl := tfade_len ⟨f1, f2, f3⟩
 rw [hT] at hl k2
 have hsz : (Zs t).size = 48 := by rw [Ym, hl]
 simp only [Sg] at k2
 have KF := Kw k1
 have KT := Kw k2
 have HZ := Kw hsz
 clear k1 k2 hl hT hf hsz
 have HG := Kw hG
 have hR : Zw w w [(g, 3, cur)] := ⟨Ex.refl w, hbox, trivial⟩
 clear hbox ha hb
 go_enter Tryz.func135, Tryz.ntmps135
 go_upto_region 1 with fail
 rw [Vv]
 have hS : Zw w ((w.alloc (.cells #[.int .u8 100, .slice (some ⟨g, 0, none⟩) n cap, .string S] 169)).alloc (.cells Z48 85)) _ := inferInstance
 clear hR
 simp only [Kv] at hS
 generalize (w.alloc (.cells #[.int .u8 100, .slice (some ⟨g, 0, none⟩) n cap, .string S] 169)).alloc (.cells Z48 85) = W0 at *
 have hC := hS.reads
 simp only [Zz, Zy] at hC
 go_wp2_with fail
 refine (KF.out _ hS.boxes.2.2.1).mono ?_
 rintro e w1 ⟨rfl, hx⟩
 replace hS := Zw.after (h := hS) hx
 clear hC
 have hC := hS.reads
 simp only [Zz, Zy] at hC
 go_wp2_with fail
 refine (KT.out _ (HG.out.ex hS.ex)).mono ?_
 rintro e w2 ⟨rfl, hx2⟩
 replace hS := Zw.after (h := hS) hx2
 clear hC
 have hC := hS.reads
 simp only [Zz, Zy] at hC
 have hr := hS.boxes.1
 have hE := hS.ex
 go_wp2_with (refine wpList_store_row rfl _ _ _ rfl _ _ rfl rfl _ _ hr (Yz HZ.out) (by rw [HZ.out]; rfl) (Yw _) ?_)
 exact Kr (Zl Tryz.results135 _ _ _ _ _ (0, 0) _ rfl (hr.setRow _) Tryz.underlying85 rfl (Yz HZ.out)) rfl ⟨rfl, hE.setRow (Nat.le_succ _) _⟩
end
section
open Go.RowKit

attribute [local go_sem] Zi Zh
theorem iTab_m (k : Int) (g n cap : Nat) (cur : Array Value) (S : ByteArray) (hk : ¬ k = 100) (r : M4 × Bool) (hm : ∀ w, Yc w → Box w g 3 cur → Calls Tryz.prog 140 #[.agg #[.int .u8 k, .slice (some ⟨g, 0, none⟩) n cap, .string S]] w (fun e w' => e = .returned (m4v r) ∧ Ex w w')) (w : World) [hG : Yc w] (hbox : Box w g 3 cur) : Calls Tryz.prog 135 #[.agg #[.int .u8 k, .slice (some ⟨g, 0, none⟩) n cap, .string S]] w (fun e w' => e = .returned (Sg (if r.2 then Xg r.1 else (Wn 16, false))) ∧ Ex w w') := by
 rcases r with ⟨⟨⟨x1, x2, x3⟩, ⟨x4, x5, x6⟩, ⟨x7, x8, x9⟩, ⟨y1, y2, y3⟩⟩, ok⟩
 simp only [m4v, M4.v] at hm
 have k2 := fun w (_ : Yc w) => Lp ⟨⟨x1, x2, x3⟩, ⟨x4, x5, x6⟩, ⟨x7, x8, x9⟩, ⟨y1, y2, y3⟩⟩ w
 rcases hT : Xg ⟨⟨x1, x2, x3⟩, ⟨x4, x5, x6⟩, ⟨x7, x8, x9⟩, ⟨y1, y2, y3⟩⟩ with ⟨t, okt⟩
 have hl := Ua ⟨⟨x1, x2, x3⟩, ⟨x4, x5, x6⟩, ⟨x7, x8, x9⟩, ⟨y1, y2, y3⟩⟩
 rw [hT] at hl k2
 have hsz : (Zs t).size = 48 := by rw [Ym, hl]
 simp only [Sg, M4.v] at k2
 have KF := Kw hm
 have KT := Kw k2
 have HZ := Kw hsz
 have HT := Kw hT
 clear hm k2 hl hT hsz
 have HG := Kw hG
 have hR : Zw w w [(g, 3, cur)] := ⟨Ex.refl w, hbox, trivial⟩
 clear hbox
 go_enter Tryz.func135, Tryz.ntmps135
 go_upto_region 1 with fail
 rw [Vv]
 have hS : Zw w ((w.alloc (.cells #[.int .u8 k, .slice (some ⟨g, 0, none⟩) n cap, .string S] 169)).alloc (.cells Z48 85)) _ := inferInstance
 clear hR
 simp only [Kv] at hS
 generalize (w.alloc (.cells #[.int .u8 k, .slice (some ⟨g, 0, none⟩) n cap, .string S] 169)).alloc (.cells Z48 85) = W0 at *
 have hC := hS.reads
 simp only [Zz, Zy] at hC
 go_wp2_with fail
 refine (KF.out _ (HG.out.ex hS.ex) hS.boxes.2.2.1).mono ?_
 rintro e w1 ⟨rfl, hx⟩
 replace hS := Zw.after (h := hS) hx
 clear hC
 have hC := hS.reads
 simp only [Zz, Zy] at hC
 go_upto_region 4 with fail
 have hT : Zw w (w1.alloc (.cells #[.int .i64 x1, .int .i64 x2, .int .i64 x3, .int .i64 x4, .int .i64 x5, .int .i64 x6, .int .i64 x7, .int .i64 x8, .int .i64 x9, .int .i64 y1, .int .i64 y2, .int .i64 y3] 79)) _ := Zw.alloc (h := hS)
 clear hC hS
 have hC := hT.reads
 simp only [Zz, Zy] at hC
 generalize w1.alloc _ = W1 at *
 have hr := hT.boxes.2.1
 have hE := hT.ex
 rcases ok with _ | _
 ·go_wp2_with (refine wpList_store_row rfl _ _ _ rfl _ _ rfl rfl _ _ hr (Yz Yp) rfl Wl ?_)
  exact Kr (Zl Tryz.results135 _ _ _ _ _ (0, 0) _ rfl (hr.setRow _) Tryz.underlying85 rfl (Yz Yp)) rfl ⟨rfl, hE.setRow (Nat.le_succ _) _⟩
 ·go_wp2_with fail
  refine (KT.out _ (HG.out.ex hT.ex)).mono ?_
  rintro e w2 ⟨rfl, hx2⟩
  replace hT := Zw.after (h := hT) hx2
  clear hC hr hE
  have hC := hT.reads
  simp only [Zz, Zy] at hC
  have hr := hT.boxes.2.1
  have hE := hT.ex
  go_wp2_with (refine wpList_store_row rfl _ _ _ rfl _ _ rfl rfl _ _ hr (Yz HZ.out) (by rw [HZ.out]; rfl) (Yw _) ?_)
  exact Kr (v := .tuple #[.agg (Zs t), .bool okt]) (Zl Tryz.results135 _ _ _ _ _ (0, 0) _ rfl (hr.setRow _) Tryz.underlying85 rfl (Yz HZ.out)) rfl ⟨by simp only [reduceIte, HT.out, Sg], hE.setRow (Nat.le_succ _) _⟩
end
section
open Go.RowKit

section
variable {σ : Type} (f : UInt8 × List Int → σ → σ × Bool) (z : σ)
def gOf (l : List UInt8) (v : σ) (ok : Bool) : σ × Bool := match Yd l with
 | some ps => if ok then grun f z ps v else (z, false)
 | none => (z, false)
end
def BnW (cells : List Pc → List Value) (w : World) (l : List UInt8) : Ending → World → Prop := fun e w' =>
 ∃ (qs : List Pc) (A : Option Addr) (cap : Nat) (ok : Bool), e = .returned (.tuple #[.slice A qs.length cap, .bool ok]) ∧ qs.length ≤ 12 ∧ Slc w' A (cells qs) ∧ Pcs w' qs ∧ Ex w w' ∧
  Hid (Yd l = if ok then some (qs.map Pc.p) else none) ∧ Hid (∀ q ∈ qs, Ws q.k q.ns = true)
theorem Qu.w {w : World} {l : List UInt8} {f : FuncId} {args : Array Value} (h : Calls Tryz.prog f args w (Qu Wu w l)) : Calls Tryz.prog f args w (BnW Wu w l) := by
 refine h.mono ?_
 rintro e w' (⟨qs, g, cap, hb, rfl, hs, -, hp, hx⟩ | ⟨hb, rfl, hx⟩)
 ·exact ⟨qs, some ⟨g, 0, none⟩, cap, true, rfl, by simpa using (Lc hb).2.2, Own.slc hs, hp, hx, Kw hb, Kw fun q hq => Qd hb q.p (List.mem_map_of_mem hq)⟩
 ·exact ⟨[], none, 0, false, rfl, by simp, Slc.nil _ _, Pcs.nil _, hx, Kw hb, Kw fun q hq => by cases hq⟩
def I64s (cs : Array Value) : Prop := ∀ (i : Nat) (v : Value), cs[i]? = some v → ∃ n : Int, v = .int .i64 n
theorem tabArr_i64 (l : List Fr) : I64s (Zs l) := by
 intro i v h
 have h2 : v ∈ l.flatMap Ug := by
  have := Array.mem_of_getElem? h
  simpa [Zs] using this
 obtain ⟨x, -, hx⟩ := List.mem_flatMap.1 h2
 simp only [Ug, List.mem_cons, List.not_mem_nil, or_false] at hx
 rcases hx with rfl | rfl | rfl <;> exact ⟨_, rfl⟩
def Byte1 (cells : List Value) : Prop := ∀ v : Value, cells[0]? = some v → ∃ n : Int, v = .int .u8 n
theorem cellsI_byte (qs : List Pc) : Byte1 (Wu qs) := by
 intro v h
 cases qs with
 | nil => simp [Wu] at h
 | cons q t => simp [Wu, Pc.ci] at h; exact ⟨_, h.symm⟩
theorem Rs {w : World} {g b i : Nat} {x : Array Value} (h : b ≠ g) : (w.setRow g x).cell? ⟨b, i, none⟩ = w.cell? ⟨b, i, none⟩ := by
 unfold World.cell?
 simp only [setRow_other w g b x h]
theorem row12 (v : M4) : (Zs v.l).size = 12 := rfl
structure BM (w wr : World) (T : TypeId) (nr na : Nat) (z : Array Value) (A : Option Addr) (cells : List Value) (qs : List Pc) (vc : Array Value) : Prop where
 sees : Zw w wr [(nr, T, z), (na, T, vc)]
 slc : Slc wr A cells
 pcs : Pcs wr qs
section
variable {w wr w2 : World} {T : TypeId} {nr na : Nat} {z : Array Value} {A : Option Addr} {cells : List Value} {qs : List Pc} {vc : Array Value}
theorem BM.ex (h : BM w wr T nr na z A cells qs vc) (hx : Ex wr w2) : BM w w2 T nr na z A cells qs vc := ⟨Zw.after (h := h.sees) hx, h.slc.ex hx, h.pcs.ex hx⟩
theorem BM.store (h : BM w wr T nr na z A cells qs vc) (hlo : w.heap.size ≤ na) (hne : nr ≠ na) (hT : T ≠ 3) (hv : I64s vc) (hc : Byte1 cells) (x : Array Value) : BM w (wr.setRow na x) T nr na z A cells qs x := by
 have hb := h.sees.boxes.2.1
 refine ⟨⟨h.sees.ex.setRow hlo x, h.sees.boxes.1.setRow_far hne x, hb.setRow x, trivial⟩, ?_, fun q hq => ⟨(h.pcs q hq).1.setRow_far ?_ x, (h.pcs q hq).2⟩⟩
 ·intro hp
  obtain ⟨b, off, rfl, hk⟩ := h.slc hp
  refine ⟨b, off, rfl, fun k hlt => ?_⟩
  have hne : b ≠ na := by
   intro e
   subst e
   have h0 := hk 0 hp
   rw [Nat.add_zero, hb.cell, List.getElem?_eq_getElem hp] at h0
   obtain ⟨n, hn⟩ := hv _ _ h0
   obtain ⟨m, hm⟩ := hc _ (List.getElem?_eq_getElem hp)
   rw [hn] at hm
   injection hm with hm
   cases hm
  rw [Rs hne]
  exact hk k hlt
 ·intro e
  have h1 := (h.pcs q hq).1
  rw [e] at h1
  unfold Box at h1 hb
  rw [hb] at h1
  simp only [Option.some.injEq, Obj.cells.injEq] at h1
  exact hT h1.2.1
end
end
section
open Go.RowKit

attribute [local go_sem] Zi Zh
theorem iBenchPieces (l : List UInt8) (hl : l.length ≤ 1048576) (w : World) (hm : Vs w) : Calls Tryz.prog 30 #[.string (Bs l)] w fun e w' => e = .returned (.int .i64 (Nn l)) ∧ Ex w w' := by
 have KB := Kw (Qu.w (Le l hl w hm))
 obtain ⟨n, HN⟩ : ∃ n, Hid (n = Nn l) := ⟨_, Kw rfl⟩
 rw [← HN.out]
 generalize Bs l = S at *
 clear hm hl
 go_enter Tryz.func30, Tryz.ntmps30
 go_wp2_with fail
 refine KB.out.mono ?_
 rintro e w1 ⟨qs, A, cap, ok0, rfl, hq12, hsl, hps, hx, HBR, HPV⟩
 rcases ok0 with _ | _
 ·have hn : n = -1 := by rw [HN.out]; unfold Nn; rw [HBR.out]; rfl
  subst hn
  clear HN HBR HPV hsl hps KB
  go_wp2
  go_ret
  exact ⟨rfl, hx⟩
 ·have hn : n = (qs.length : Nat) := by rw [HN.out]; unfold Nn; rw [HBR.out]; simp
  subst hn
  clear HN HBR HPV hsl hps KB
  go_wp2
  go_ret
  exact ⟨rfl, hx⟩
end
end Go.Proofs.YtiommfmaleeibaaGreatDoor
