/-
  Proved: what functions compute, part 32. No condition.
-/
import Derived.Test.YtmmjkchjgeklnaaGreatDoorK22
import Derived.Test.YtmmjkchjgeklnaaGreatDoorK31
import Derived.Test.YtmmjkchjgeklnaaGreatDoorK04
import Derived.Test.YtmmjkchjgeklnaaGreatDoorK09
import Derived.Test.YtmmjkchjgeklnaaGreatDoorK11
import Derived.Test.YtmmjkchjgeklnaaGreatDoorK10
import Derived.Test.YtmmjkchjgeklnaaGreatDoorK19
import Derived.Test.YtmmjkchjgeklnaaGreatDoorK21
import Derived.Test.YtmmjkchjgeklnaaGreatDoorK06
set_option linter.unusedSimpArgs false
set_option linter.unusedVariables false
set_option maxRecDepth 20000
set_option maxHeartbeats 8000000
namespace Go.Proofs.YtmmjkchjgeklnaaGreatDoor
section
open Go.RowKit

attribute [local go_sem] Zk Zj
theorem iShare (k : Int) (g n cap : Nat) (cur : Array Value) (S : ByteArray) (a b : Int) (hn : 2 ≤ n) (ha : -1000000 ≤ a ∧ a ≤ 1000000) (hb : 1 ≤ b ∧ b ≤ 1000000) (w : World) (hbox : Box w g 3 cur) (c0 : cur[0]? = some (.int .i64 a)) (c1 : cur[1]? = some (.int .i64 b)) : Calls Tryz.prog 69 #[.agg #[.int .u8 k, .slice (some ⟨g, 0, none⟩) n cap, .string S]] w (fun e w' => e = .returned (flow a 0 b).1.v ∧ Ex w w') := by
 have k0 := fun w => Wh a 0 b w (by omega) (by omega) (by omega)
 rcases hf : flow a 0 b with ⟨⟨f1, f2, f3⟩, ok⟩
 rw [hf] at k0
 have k1 : ∀ w, Calls Tryz.prog 108 #[.int .i64 a, .int .i64 0, .int .i64 b] w _ := fun w => Yu.spell (k0 w)
 clear k0
 have KF := Gv k1
 clear k1
 have hR : Zw w w [(g, 3, cur)] := ⟨Ex.refl w, hbox, trivial⟩
 have n1 : (0 : Int) < n := by omega
 have n2 : (1 : Int) < n := by omega
 clear hbox ha hb
 go_enter Tryz.func69, Tryz.ntmps69
 go_upto_region 1 with fail
 have hS : Zw w ((w.alloc (.cells #[.int .u8 k, .slice (some ⟨g, 0, none⟩) n cap, .string S] 84)).alloc (.cells #[.int .i64 0, .int .i64 0, .int .i64 0] 32)) _ := inferInstance
 clear hR
 simp only [Gu] at hS
 generalize (w.alloc (.cells #[.int .u8 k, .slice (some ⟨g, 0, none⟩) n cap, .string S] 84)).alloc (.cells #[.int .i64 0, .int .i64 0, .int .i64 0] 32) = W0 at *
 have hS0 := hS
 refine Zn (St := Ex) (B := fun _ w' => InE _ _ w') 12 1 1 _ 32 (fun _ => 3) (fun _ => 15) (fun _ => #[.int .i64 0, .int .i64 0, .int .i64 0]) (fun _ => #[.int .i64 f1, .int .i64 f2, .int .i64 f3]) false (by kernel_rfl) (by kernel_rfl) (InE.drew (InE.start hS0)) (fun x y h1 h2 _ => by omega) (fun x y _ _ => by decide) (fun _ _ h g cs _ hb => hb.ex h) (fun _ _ cs h => h.alloc _) (fun _ _ h => h.size) ?_
 iterate 8 (apply Zx; (· rfl); (· intro b wb hB Q1 hQ1; have hC := hB.sees.reads; simp only [Zz, Zy] at hC; go_wp2_with fail; exact hQ1 _ (Ex.refl _) hB); (· exact ⟨_, rfl⟩))
 (apply Zx; (· rfl); (· intro b wb hB Q1 hQ1; go_wp2_with (go_at_call 108; (with_reducible refine (KF.out _).mono ?_); rintro e wn ⟨rfl, hx⟩); exact hQ1 _ hx (hB.go hx)); (· exact ⟨_, rfl⟩))
 iterate 3 (apply Zx; (· rfl); (· intro b wb hB Q1 hQ1; go_wp2_with fail; exact hQ1 _ (Ex.refl _) hB); (· exact ⟨_, rfl⟩))
 refine Zv ?_
 refine ⟨fun i hi => ?_, fun i hi => ?_, fun i hi => ?_, fun gg wz hz hbx hne => ?_⟩
 ·obtain rfl : i = 0 := by omega
  all_goals exact ⟨_, rfl, Zc⟩
 ·obtain rfl : i = 0 := by omega
  all_goals exact ⟨_, rfl, Zi Za rfl (by kernel_rfl) (fun _ _ _ hg h => h.setRow hg _)⟩
 ·obtain rfl : i = 0 := by omega
  ·exact (show (3 : Nat) < 18 by decide)
 obtain ⟨hg0, hb0⟩ := hbx 0 (by omega)
 replace hS := InE.join hS0 hz
 replace hS := Zw.put hS hb0
 simp only [frN, Act.put, Gt, Gs, Gr, Nat.reduceAdd, List.drop_succ_cons, List.drop_zero]
 generalize gg 0 = g0 at *
 clear hbx hz hS0 hne
 have hC := hS.reads
 simp only [Zz, Zy] at hC
 have hE := hS.ex
 go_wp2_with fail
 refine Gq (v := .agg #[.int .i64 f1, .int .i64 f2, .int .i64 f3]) ?_ rfl ⟨rfl, ?_⟩
 ·simp [results, Tryz.results69, go_sem, hC]
 ·repeat' (with_reducible first | exact hE | refine Ex.setCell ?_ (by simp <;> omega) _)
theorem sShare (k : Int) (g n cap : Nat) (cur : Array Value) (a b : Int) (hn : 2 ≤ n) (ha : -1000000 ≤ a ∧ a ≤ 1000000) (hb : 1 ≤ b ∧ b ≤ 1000000) (w : World) (hbox : Box w g 3 cur) (c0 : cur[0]? = some (.int .i64 a)) (c1 : cur[1]? = some (.int .i64 b)) : Calls Tryz.prog 89 #[.agg #[.int .u8 k, .slice (some ⟨g, 0, none⟩) n cap]] w (fun e w' => e = .returned (flow a 0 b).1.v ∧ Ex w w') := by
 have k1 := fun w => Sa a 0 b w (by omega) (by omega) (by omega)
 rcases hf : flow a 0 b with ⟨⟨f1, f2, f3⟩, ok⟩
 rw [hf] at k1
 simp only [frv, Fr.v] at k1
 have KF := Gv k1
 clear k1
 have hR : Zw w w [(g, 3, cur)] := ⟨Ex.refl w, hbox, trivial⟩
 have n1 : (0 : Int) < n := by omega
 have n2 : (1 : Int) < n := by omega
 clear hbox ha hb
 go_enter Tryz.func89, Tryz.ntmps89
 go_upto_region 1 with fail
 have hS : Zw w ((w.alloc (.cells #[.int .u8 k, .slice (some ⟨g, 0, none⟩) n cap] 103)).alloc (.cells #[.int .i64 0, .int .i64 0, .int .i64 0] 32)) _ := inferInstance
 clear hR
 simp only [Gu] at hS
 generalize (w.alloc (.cells #[.int .u8 k, .slice (some ⟨g, 0, none⟩) n cap] 103)).alloc (.cells #[.int .i64 0, .int .i64 0, .int .i64 0] 32) = W0 at *
 have hS0 := hS
 refine Zn (St := Ex) (B := fun _ w' => InE _ _ w') 12 1 1 _ 32 (fun _ => 3) (fun _ => 15) (fun _ => #[.int .i64 0, .int .i64 0, .int .i64 0]) (fun _ => #[.int .i64 f1, .int .i64 f2, .int .i64 f3]) false (by kernel_rfl) (by kernel_rfl) (InE.drew (InE.start hS0)) (fun x y h1 h2 _ => by omega) (fun x y _ _ => by decide) (fun _ _ h g cs _ hb => hb.ex h) (fun _ _ cs h => h.alloc _) (fun _ _ h => h.size) ?_
 iterate 8 (apply Zx; (· rfl); (· intro b wb hB Q1 hQ1; have hC := hB.sees.reads; simp only [Zz, Zy] at hC; go_wp2_with fail; exact hQ1 _ (Ex.refl _) hB); (· exact ⟨_, rfl⟩))
 (apply Zx; (· rfl); (· intro b wb hB Q1 hQ1; go_wp2_with (go_at_call 139; (with_reducible refine (KF.out _).mono ?_); rintro e wn ⟨rfl, hx⟩); exact hQ1 _ hx (hB.go hx)); (· exact ⟨_, rfl⟩))
 iterate 3 (apply Zx; (· rfl); (· intro b wb hB Q1 hQ1; go_wp2_with fail; exact hQ1 _ (Ex.refl _) hB); (· exact ⟨_, rfl⟩))
 refine Zv ?_
 refine ⟨fun i hi => ?_, fun i hi => ?_, fun i hi => ?_, fun gg wz hz hbx hne => ?_⟩
 ·obtain rfl : i = 0 := by omega
  all_goals exact ⟨_, rfl, Zc⟩
 ·obtain rfl : i = 0 := by omega
  all_goals exact ⟨_, rfl, Zi Za rfl (by kernel_rfl) (fun _ _ _ hg h => h.setRow hg _)⟩
 ·obtain rfl : i = 0 := by omega
  ·exact (show (3 : Nat) < 18 by decide)
 obtain ⟨hg0, hb0⟩ := hbx 0 (by omega)
 replace hS := InE.join hS0 hz
 replace hS := Zw.put hS hb0
 simp only [frN, Act.put, Gt, Gs, Gr, Nat.reduceAdd, List.drop_succ_cons, List.drop_zero]
 generalize gg 0 = g0 at *
 clear hbx hz hS0 hne
 have hC := hS.reads
 simp only [Zz, Zy] at hC
 have hE := hS.ex
 go_wp2_with fail
 refine Gq (v := .agg #[.int .i64 f1, .int .i64 f2, .int .i64 f3]) ?_ rfl ⟨rfl, ?_⟩
 ·simp [results, Tryz.results89, go_sem, hC]
 ·repeat' (with_reducible first | exact hE | refine Ex.setCell ?_ (by simp <;> omega) _)
end
section
open Go.RowKit

attribute [local go_sem] Zk Zj
theorem iMat_r (g n cap : Nat) (cur : Array Value) (S : ByteArray) (a b : Int) (hn : 2 ≤ n) (w : World) [hG : Yf w] (hbox : Box w g 3 cur) (c0 : cur[0]? = some (.int .i64 a)) (c1 : cur[1]? = some (.int .i64 b)) : Calls Tryz.prog 70 #[.agg #[.int .u8 114, .slice (some ⟨g, 0, none⟩) n cap, .string S]] w (fun e w' => e = .returned (m4v (Yo a b)) ∧ Ex w w') := by
 have k1 := fun w => Tz a b w
 rcases hf : Yo a b with ⟨⟨⟨x1, x2, x3⟩, ⟨x4, x5, x6⟩, ⟨x7, x8, x9⟩, ⟨y1, y2, y3⟩⟩, ok⟩
 rw [hf] at k1
 simp only [m4v, M4.v] at k1
 have KF := Gv k1
 clear k1
 have hR : Zw w w [(g, 3, cur)] := ⟨Ex.refl w, hbox, trivial⟩
 have n1 : (0 : Int) < n := by omega
 have n2 : (1 : Int) < n := by omega
 clear hbox
 go_enter Tryz.func70, Tryz.ntmps70
 go_upto_region 3 with fail
 have hS : Zw w ((w.alloc (.cells #[.int .u8 114, .slice (some ⟨g, 0, none⟩) n cap, .string S] 84)).alloc (.cells #[.int .i64 0, .int .i64 0, .int .i64 0, .int .i64 0, .int .i64 0, .int .i64 0, .int .i64 0, .int .i64 0, .int .i64 0, .int .i64 0, .int .i64 0, .int .i64 0] 122)) _ := inferInstance
 clear hR
 simp only [Gu] at hS
 generalize (w.alloc (.cells #[.int .u8 114, .slice (some ⟨g, 0, none⟩) n cap, .string S] 84)).alloc (.cells #[.int .i64 0, .int .i64 0, .int .i64 0, .int .i64 0, .int .i64 0, .int .i64 0, .int .i64 0, .int .i64 0, .int .i64 0, .int .i64 0, .int .i64 0, .int .i64 0] 122) = W0 at *
 refine Zd (St := fun _ _ => True) 11 false (B := fun _ w2 => Zw w w2 [(w.heap.size + 1, 122, #[.int .i64 0, .int .i64 0, .int .i64 0, .int .i64 0, .int .i64 0, .int .i64 0, .int .i64 0, .int .i64 0, .int .i64 0, .int .i64 0, .int .i64 0, .int .i64 0]), (w.heap.size, 84, #[.int .u8 114, .slice (some ⟨g, 0, none⟩) n cap, .string S]), (g, 3, cur)]) (by kernel_rfl) (by kernel_rfl) (hS.drewW) (by exact fun _ _ _ _ _ h => h) ?_
 iterate 8 (apply Zx; (· rfl); (· intro b wb hB Q1 hQ1; have hS := hB; have hC := hS.reads; simp only [Zz, Zy] at hC; go_wp2_with fail; exact hQ1 _ trivial hB); (· exact ⟨_, rfl⟩))
 (apply Zx; (· rfl); (· intro b wb hB Q1 hQ1; go_wp2_with (go_at_call 109; (with_reducible refine (KF.out _).mono ?_); rintro e wn ⟨rfl, hx⟩); exact hQ1 _ trivial (hB.go hx)); (· exact ⟨_, rfl⟩))
 iterate 2 (apply Zx; (· rfl); (· intro b wb hB Q1 hQ1; go_wp2_with fail; exact hQ1 _ trivial hB); (· exact ⟨_, rfl⟩))
 refine Zv ?_
 intro wz hz
 clear hS
 have hS := hz
 have hC := hS.reads
 simp only [Zz, Zy] at hC
 have hE := hS.ex
 go_wp2_with fail
 refine Gq (v := .tuple #[.agg #[.int .i64 x1, .int .i64 x2, .int .i64 x3, .int .i64 x4, .int .i64 x5, .int .i64 x6, .int .i64 x7, .int .i64 x8, .int .i64 x9, .int .i64 y1, .int .i64 y2, .int .i64 y3], .bool ok]) ?_ rfl ⟨rfl, ?_⟩
 ·simp [results, Tryz.results70, go_sem, hC]
 ·repeat' (with_reducible first | exact hE | refine Ex.setCell ?_ (by simp <;> omega) _)
theorem sMat_r (g n cap : Nat) (cur : Array Value) (a b : Int) (hn : 2 ≤ n) (w : World) (hbox : Box w g 3 cur) (c0 : cur[0]? = some (.int .i64 a)) (c1 : cur[1]? = some (.int .i64 b)) : Calls Tryz.prog 90 #[.agg #[.int .u8 114, .slice (some ⟨g, 0, none⟩) n cap]] w (fun e w' => e = .returned (m4v (Yo a b)) ∧ Ex w w') := by
 have k1 := fun w => Jo a b w
 rcases hf : Yo a b with ⟨⟨⟨x1, x2, x3⟩, ⟨x4, x5, x6⟩, ⟨x7, x8, x9⟩, ⟨y1, y2, y3⟩⟩, ok⟩
 rw [hf] at k1
 simp only [m4v, M4.v] at k1
 have KF := Gv k1
 clear k1
 have hR : Zw w w [(g, 3, cur)] := ⟨Ex.refl w, hbox, trivial⟩
 have n1 : (0 : Int) < n := by omega
 have n2 : (1 : Int) < n := by omega
 clear hbox
 go_enter Tryz.func90, Tryz.ntmps90
 go_upto_region 3 with fail
 have hS : Zw w ((w.alloc (.cells #[.int .u8 114, .slice (some ⟨g, 0, none⟩) n cap] 103)).alloc (.cells #[.int .i64 0, .int .i64 0, .int .i64 0, .int .i64 0, .int .i64 0, .int .i64 0, .int .i64 0, .int .i64 0, .int .i64 0, .int .i64 0, .int .i64 0, .int .i64 0] 122)) _ := inferInstance
 clear hR
 simp only [Gu] at hS
 generalize (w.alloc (.cells #[.int .u8 114, .slice (some ⟨g, 0, none⟩) n cap] 103)).alloc (.cells #[.int .i64 0, .int .i64 0, .int .i64 0, .int .i64 0, .int .i64 0, .int .i64 0, .int .i64 0, .int .i64 0, .int .i64 0, .int .i64 0, .int .i64 0, .int .i64 0] 122) = W0 at *
 refine Zd (St := fun _ _ => True) 11 false (B := fun _ w2 => Zw w w2 [(w.heap.size + 1, 122, #[.int .i64 0, .int .i64 0, .int .i64 0, .int .i64 0, .int .i64 0, .int .i64 0, .int .i64 0, .int .i64 0, .int .i64 0, .int .i64 0, .int .i64 0, .int .i64 0]), (w.heap.size, 103, #[.int .u8 114, .slice (some ⟨g, 0, none⟩) n cap]), (g, 3, cur)]) (by kernel_rfl) (by kernel_rfl) (hS.drewW) (by exact fun _ _ _ _ _ h => h) ?_
 iterate 8 (apply Zx; (· rfl); (· intro b wb hB Q1 hQ1; have hS := hB; have hC := hS.reads; simp only [Zz, Zy] at hC; go_wp2_with fail; exact hQ1 _ trivial hB); (· exact ⟨_, rfl⟩))
 (apply Zx; (· rfl); (· intro b wb hB Q1 hQ1; go_wp2_with (go_at_call 140; (with_reducible refine (KF.out _).mono ?_); rintro e wn ⟨rfl, hx⟩); exact hQ1 _ trivial (hB.go hx)); (· exact ⟨_, rfl⟩))
 iterate 2 (apply Zx; (· rfl); (· intro b wb hB Q1 hQ1; go_wp2_with fail; exact hQ1 _ trivial hB); (· exact ⟨_, rfl⟩))
 refine Zv ?_
 intro wz hz
 clear hS
 have hS := hz
 have hC := hS.reads
 simp only [Zz, Zy] at hC
 have hE := hS.ex
 go_wp2_with fail
 refine Gq (v := .tuple #[.agg #[.int .i64 x1, .int .i64 x2, .int .i64 x3, .int .i64 x4, .int .i64 x5, .int .i64 x6, .int .i64 x7, .int .i64 x8, .int .i64 x9, .int .i64 y1, .int .i64 y2, .int .i64 y3], .bool ok]) ?_ rfl ⟨rfl, ?_⟩
 ·simp [results, Tryz.results90, go_sem, hC]
 ·repeat' (with_reducible first | exact hE | refine Ex.setCell ?_ (by simp <;> omega) _)
theorem iMat_f (g n cap : Nat) (cur : Array Value) (S : ByteArray) (a b : Int) (hn : 2 ≤ n) (w : World) [hG : Yf w] (hbox : Box w g 3 cur) (c0 : cur[0]? = some (.int .i64 a)) (c1 : cur[1]? = some (.int .i64 b)) : Calls Tryz.prog 70 #[.agg #[.int .u8 102, .slice (some ⟨g, 0, none⟩) n cap, .string S]] w (fun e w' => e = .returned (m4v (Wr a b)) ∧ Ex w w') := by
 have k1 := fun w => iMatFilter a b w
 rcases hf : Wr a b with ⟨⟨⟨x1, x2, x3⟩, ⟨x4, x5, x6⟩, ⟨x7, x8, x9⟩, ⟨y1, y2, y3⟩⟩, ok⟩
 rw [hf] at k1
 simp only [m4v, M4.v] at k1
 have KF := Gv k1
 clear k1
 have hR : Zw w w [(g, 3, cur)] := ⟨Ex.refl w, hbox, trivial⟩
 have n1 : (0 : Int) < n := by omega
 have n2 : (1 : Int) < n := by omega
 clear hbox
 go_enter Tryz.func70, Tryz.ntmps70
 go_upto_region 7 with fail
 have hS : Zw w ((w.alloc (.cells #[.int .u8 102, .slice (some ⟨g, 0, none⟩) n cap, .string S] 84)).alloc (.cells #[.int .i64 0, .int .i64 0, .int .i64 0, .int .i64 0, .int .i64 0, .int .i64 0, .int .i64 0, .int .i64 0, .int .i64 0, .int .i64 0, .int .i64 0, .int .i64 0] 122)) _ := inferInstance
 clear hR
 simp only [Gu] at hS
 generalize (w.alloc (.cells #[.int .u8 102, .slice (some ⟨g, 0, none⟩) n cap, .string S] 84)).alloc (.cells #[.int .i64 0, .int .i64 0, .int .i64 0, .int .i64 0, .int .i64 0, .int .i64 0, .int .i64 0, .int .i64 0, .int .i64 0, .int .i64 0, .int .i64 0, .int .i64 0] 122) = W0 at *
 refine Zd (St := fun _ _ => True) 11 false (B := fun _ w2 => Zw w w2 [(w.heap.size + 1, 122, #[.int .i64 0, .int .i64 0, .int .i64 0, .int .i64 0, .int .i64 0, .int .i64 0, .int .i64 0, .int .i64 0, .int .i64 0, .int .i64 0, .int .i64 0, .int .i64 0]), (w.heap.size, 84, #[.int .u8 102, .slice (some ⟨g, 0, none⟩) n cap, .string S]), (g, 3, cur)]) (by kernel_rfl) (by kernel_rfl) (hS.drewW) (by exact fun _ _ _ _ _ h => h) ?_
 iterate 8 (apply Zx; (· rfl); (· intro b wb hB Q1 hQ1; have hS := hB; have hC := hS.reads; simp only [Zz, Zy] at hC; go_wp2_with fail; exact hQ1 _ trivial hB); (· exact ⟨_, rfl⟩))
 (apply Zx; (· rfl); (· intro b wb hB Q1 hQ1; go_wp2_with (go_at_call 111; (with_reducible refine (KF.out _).mono ?_); rintro e wn ⟨rfl, hx⟩); exact hQ1 _ trivial (hB.go hx)); (· exact ⟨_, rfl⟩))
 iterate 2 (apply Zx; (· rfl); (· intro b wb hB Q1 hQ1; go_wp2_with fail; exact hQ1 _ trivial hB); (· exact ⟨_, rfl⟩))
 refine Zv ?_
 intro wz hz
 clear hS
 have hS := hz
 have hC := hS.reads
 simp only [Zz, Zy] at hC
 have hE := hS.ex
 go_wp2_with fail
 refine Gq (v := .tuple #[.agg #[.int .i64 x1, .int .i64 x2, .int .i64 x3, .int .i64 x4, .int .i64 x5, .int .i64 x6, .int .i64 x7, .int .i64 x8, .int .i64 x9, .int .i64 y1, .int .i64 y2, .int .i64 y3], .bool ok]) ?_ rfl ⟨rfl, ?_⟩
 ·simp [results, Tryz.results70, go_sem, hC]
 ·repeat' (with_reducible first | exact hE | refine Ex.setCell ?_ (by simp <;> omega) _)
theorem sMat_f (g n cap : Nat) (cur : Array Value) (a b : Int) (hn : 2 ≤ n) (w : World) (hbox : Box w g 3 cur) (c0 : cur[0]? = some (.int .i64 a)) (c1 : cur[1]? = some (.int .i64 b)) : Calls Tryz.prog 90 #[.agg #[.int .u8 102, .slice (some ⟨g, 0, none⟩) n cap]] w (fun e w' => e = .returned (m4v (Wr a b)) ∧ Ex w w') := by
 have k1 := fun w => sMatFilter a b w
 rcases hf : Wr a b with ⟨⟨⟨x1, x2, x3⟩, ⟨x4, x5, x6⟩, ⟨x7, x8, x9⟩, ⟨y1, y2, y3⟩⟩, ok⟩
 rw [hf] at k1
 simp only [m4v, M4.v] at k1
 have KF := Gv k1
 clear k1
 have hR : Zw w w [(g, 3, cur)] := ⟨Ex.refl w, hbox, trivial⟩
 have n1 : (0 : Int) < n := by omega
 have n2 : (1 : Int) < n := by omega
 clear hbox
 go_enter Tryz.func90, Tryz.ntmps90
 go_upto_region 7 with fail
 have hS : Zw w ((w.alloc (.cells #[.int .u8 102, .slice (some ⟨g, 0, none⟩) n cap] 103)).alloc (.cells #[.int .i64 0, .int .i64 0, .int .i64 0, .int .i64 0, .int .i64 0, .int .i64 0, .int .i64 0, .int .i64 0, .int .i64 0, .int .i64 0, .int .i64 0, .int .i64 0] 122)) _ := inferInstance
 clear hR
 simp only [Gu] at hS
 generalize (w.alloc (.cells #[.int .u8 102, .slice (some ⟨g, 0, none⟩) n cap] 103)).alloc (.cells #[.int .i64 0, .int .i64 0, .int .i64 0, .int .i64 0, .int .i64 0, .int .i64 0, .int .i64 0, .int .i64 0, .int .i64 0, .int .i64 0, .int .i64 0, .int .i64 0] 122) = W0 at *
 refine Zd (St := fun _ _ => True) 11 false (B := fun _ w2 => Zw w w2 [(w.heap.size + 1, 122, #[.int .i64 0, .int .i64 0, .int .i64 0, .int .i64 0, .int .i64 0, .int .i64 0, .int .i64 0, .int .i64 0, .int .i64 0, .int .i64 0, .int .i64 0, .int .i64 0]), (w.heap.size, 103, #[.int .u8 102, .slice (some ⟨g, 0, none⟩) n cap]), (g, 3, cur)]) (by kernel_rfl) (by kernel_rfl) (hS.drewW) (by exact fun _ _ _ _ _ h => h) ?_
 iterate 8 (apply Zx; (· rfl); (· intro b wb hB Q1 hQ1; have hS := hB; have hC := hS.reads; simp only [Zz, Zy] at hC; go_wp2_with fail; exact hQ1 _ trivial hB); (· exact ⟨_, rfl⟩))
 (apply Zx; (· rfl); (· intro b wb hB Q1 hQ1; go_wp2_with (go_at_call 142; (with_reducible refine (KF.out _).mono ?_); rintro e wn ⟨rfl, hx⟩); exact hQ1 _ trivial (hB.go hx)); (· exact ⟨_, rfl⟩))
 iterate 2 (apply Zx; (· rfl); (· intro b wb hB Q1 hQ1; go_wp2_with fail; exact hQ1 _ trivial hB); (· exact ⟨_, rfl⟩))
 refine Zv ?_
 intro wz hz
 clear hS
 have hS := hz
 have hC := hS.reads
 simp only [Zz, Zy] at hC
 have hE := hS.ex
 go_wp2_with fail
 refine Gq (v := .tuple #[.agg #[.int .i64 x1, .int .i64 x2, .int .i64 x3, .int .i64 x4, .int .i64 x5, .int .i64 x6, .int .i64 x7, .int .i64 x8, .int .i64 x9, .int .i64 y1, .int .i64 y2, .int .i64 y3], .bool ok]) ?_ rfl ⟨rfl, ?_⟩
 ·simp [results, Tryz.results90, go_sem, hC]
 ·repeat' (with_reducible first | exact hE | refine Ex.setCell ?_ (by simp <;> omega) _)
end
section
open Go.RowKit

attribute [local go_sem] Zk Zj
theorem third {W w : World} {x y : Nat × TypeId × Array Value} {g : Nat} {t : TypeId} {cs : Array Value} (h : Zw W w [x, y, (g, t, cs)]) : Box w g t cs := h.boxes.2.2.1
theorem iMat_a (g n cap : Nat) (cur : Array Value) (S : ByteArray) (a b : Int) (hn : 2 ≤ n) (ha : -1000000 ≤ a ∧ a ≤ 1000000) (hb : 1 ≤ b ∧ b ≤ 1000000) (w : World) [hG : Yf w] (hbox : Box w g 3 cur) (c0 : cur[0]? = some (.int .i64 a)) (c1 : cur[1]? = some (.int .i64 b)) : Calls Tryz.prog 70 #[.agg #[.int .u8 97, .slice (some ⟨g, 0, none⟩) n cap, .string S]] w (fun e w' => e = .returned (m4v (⟨(flow a 0 b).1, Fr.nul, Fr.nul, (flow a 0 b).1⟩, true)) ∧ Ex w w') := by
 have k1 := fun w hx => iShare 97 g n cap cur S a b hn ha hb w hx c0 c1
 rcases hf : (flow a 0 b).1 with ⟨f1, f2, f3⟩
 rw [hf] at k1
 simp only [Fr.v] at k1
 have KF := Gv k1
 clear k1
 have HG := Gv hG
 have hR : Zw w w [(g, 3, cur)] := ⟨Ex.refl w, hbox, trivial⟩
 clear hbox ha hb
 go_enter Tryz.func70, Tryz.ntmps70
 go_upto_region 9 with fail
 have hS : Zw w ((w.alloc (.cells #[.int .u8 97, .slice (some ⟨g, 0, none⟩) n cap, .string S] 84)).alloc (.cells #[.int .i64 0, .int .i64 0, .int .i64 0, .int .i64 0, .int .i64 0, .int .i64 0, .int .i64 0, .int .i64 0, .int .i64 0, .int .i64 0, .int .i64 0, .int .i64 0] 122)) _ := inferInstance
 clear hR
 simp only [Gu] at hS
 generalize (w.alloc (.cells #[.int .u8 97, .slice (some ⟨g, 0, none⟩) n cap, .string S] 84)).alloc (.cells #[.int .i64 0, .int .i64 0, .int .i64 0, .int .i64 0, .int .i64 0, .int .i64 0, .int .i64 0, .int .i64 0, .int .i64 0, .int .i64 0, .int .i64 0, .int .i64 0] 122) = W0 at *
 refine Zd (St := fun _ _ => True) 8 false (B := fun _ w2 => Zw w w2 [(w.heap.size + 1, 122, #[.int .i64 0, .int .i64 0, .int .i64 0, .int .i64 0, .int .i64 0, .int .i64 0, .int .i64 0, .int .i64 0, .int .i64 0, .int .i64 0, .int .i64 0, .int .i64 0]), (w.heap.size, 84, #[.int .u8 97, .slice (some ⟨g, 0, none⟩) n cap, .string S]), (g, 3, cur)]) (by kernel_rfl) (by kernel_rfl) (hS.drewW) (by exact fun _ _ _ _ _ h => h) ?_
 (apply Zx; (· rfl); (· intro b wb hB Q1 hQ1; have hS := hB; have hC := hS.reads; simp only [Zz, Zy] at hC; go_wp2_with fail; exact hQ1 _ trivial hB); (· exact ⟨_, rfl⟩))
 (apply Zx; (· rfl); (· intro b wb hB Q1 hQ1; go_wp2_with (go_at_call 69; (with_reducible refine (KF.out _ (third hB)).mono ?_); rintro e wn ⟨rfl, hx⟩); exact hQ1 _ trivial (hB.go hx)); (· exact ⟨_, rfl⟩))
 iterate 2 (apply Zx; (· rfl); (· intro b wb hB Q1 hQ1; have hg := (HG.out.ex hB.ex).reads; go_wp2_with fail; exact hQ1 _ trivial hB); (· exact ⟨_, rfl⟩))
 (apply Zx; (· rfl); (· intro b wb hB Q1 hQ1; have hS := hB; have hC := hS.reads; simp only [Zz, Zy] at hC; go_wp2_with fail; exact hQ1 _ trivial hB); (· exact ⟨_, rfl⟩))
 (apply Zx; (· rfl); (· intro b wb hB Q1 hQ1; go_wp2_with (go_at_call 69; (with_reducible refine (KF.out _ (third hB)).mono ?_); rintro e wn ⟨rfl, hx⟩); exact hQ1 _ trivial (hB.go hx)); (· exact ⟨_, rfl⟩))
 iterate 2 (apply Zx; (· rfl); (· intro b wb hB Q1 hQ1; go_wp2_with fail; exact hQ1 _ trivial hB); (· exact ⟨_, rfl⟩))
 refine Zv ?_
 intro wz hz
 clear hS
 have hS := hz
 have hC := hS.reads
 simp only [Zz, Zy] at hC
 have hE := hS.ex
 go_wp2_with fail
 refine Gq (v := .tuple #[.agg #[.int .i64 f1, .int .i64 f2, .int .i64 f3, .int .i64 0, .int .i64 0, .int .i64 1, .int .i64 0, .int .i64 0, .int .i64 1, .int .i64 f1, .int .i64 f2, .int .i64 f3], .bool true]) ?_ rfl ⟨rfl, ?_⟩
 ·simp [results, Tryz.results70, go_sem, hC]
 ·repeat' (with_reducible first | exact hE | refine Ex.setCell ?_ (by simp <;> omega) _)
theorem sMat_a (g n cap : Nat) (cur : Array Value) (a b : Int) (hn : 2 ≤ n) (ha : -1000000 ≤ a ∧ a ≤ 1000000) (hb : 1 ≤ b ∧ b ≤ 1000000) (w : World) (hbox : Box w g 3 cur) (c0 : cur[0]? = some (.int .i64 a)) (c1 : cur[1]? = some (.int .i64 b)) : Calls Tryz.prog 90 #[.agg #[.int .u8 97, .slice (some ⟨g, 0, none⟩) n cap]] w (fun e w' => e = .returned (m4v (⟨(flow a 0 b).1, Fr.nul, Fr.nul, (flow a 0 b).1⟩, true)) ∧ Ex w w') := by
 have k1 := fun w hx => sShare 97 g n cap cur a b hn ha hb w hx c0 c1
 rcases hf : (flow a 0 b).1 with ⟨f1, f2, f3⟩
 rw [hf] at k1
 simp only [Fr.v] at k1
 have KF := Gv k1
 clear k1
 have k2 := fun w => sl5One ⟨f1, f2, f3⟩ ⟨f1, f2, f3⟩ w
 simp only [Fr.v, M4.v, Fr.nul] at k2
 have KO := Gv k2
 clear k2
 have hR : Zw w w [(g, 3, cur)] := ⟨Ex.refl w, hbox, trivial⟩
 clear hbox ha hb
 go_enter Tryz.func90, Tryz.ntmps90
 go_upto_region 9 with fail
 have hS : Zw w ((w.alloc (.cells #[.int .u8 97, .slice (some ⟨g, 0, none⟩) n cap] 103)).alloc (.cells #[.int .i64 0, .int .i64 0, .int .i64 0, .int .i64 0, .int .i64 0, .int .i64 0, .int .i64 0, .int .i64 0, .int .i64 0, .int .i64 0, .int .i64 0, .int .i64 0] 122)) _ := inferInstance
 clear hR
 simp only [Gu] at hS
 generalize (w.alloc (.cells #[.int .u8 97, .slice (some ⟨g, 0, none⟩) n cap] 103)).alloc (.cells #[.int .i64 0, .int .i64 0, .int .i64 0, .int .i64 0, .int .i64 0, .int .i64 0, .int .i64 0, .int .i64 0, .int .i64 0, .int .i64 0, .int .i64 0, .int .i64 0] 122) = W0 at *
 have hC := hS.reads
 simp only [Zz, Zy] at hC
 go_wp2_with fail
 refine (KF.out _ hS.boxes.2.2.1).mono ?_
 rintro e w1 ⟨rfl, hx⟩
 replace hS := Zw.after (h := hS) hx
 clear hC
 have hC := hS.reads
 simp only [Zz, Zy] at hC
 go_upto_region 10 with fail
 have hT : Zw w (w1.alloc (.cells #[.int .i64 f1, .int .i64 f2, .int .i64 f3] 32)) _ := Zw.alloc (h := hS)
 clear hC
 have hC := hT.reads
 simp only [Zz, Zy] at hC
 go_wp2_with fail
 refine (KO.out _).mono ?_
 rintro e w2 ⟨rfl, hx2⟩
 replace hT := Zw.after (h := hT) hx2
 clear hC hS
 have hC := hT.reads
 simp only [Zz, Zy] at hC
 have hE := hT.ex
 go_wp2_with fail
 refine Gq (v := .tuple #[.agg #[.int .i64 f1, .int .i64 f2, .int .i64 f3, .int .i64 0, .int .i64 0, .int .i64 1, .int .i64 0, .int .i64 0, .int .i64 1, .int .i64 f1, .int .i64 f2, .int .i64 f3], .bool true]) ?_ rfl ⟨rfl, ?_⟩
 ·simp [results, Tryz.results90, go_sem, hC]
 ·repeat' (with_reducible first | exact hE | refine Ex.setCell ?_ (by simp <;> omega) _)
end
section
open Go.RowKit

attribute [local go_sem] Zk Zj
theorem iTab_d (g n cap : Nat) (cur : Array Value) (S : ByteArray) (a b : Int) (hn : 2 ≤ n) (ha : -1000000 ≤ a ∧ a ≤ 1000000) (hb : 1 ≤ b ∧ b ≤ 1000000) (w : World) [hG : Yf w] (hbox : Box w g 3 cur) (c0 : cur[0]? = some (.int .i64 a)) (c1 : cur[1]? = some (.int .i64 b)) : Calls Tryz.prog 46 #[.agg #[.int .u8 100, .slice (some ⟨g, 0, none⟩) n cap, .string S]] w (fun e w' => e = .returned (Rs (Sy (flow a 0 b).1)) ∧ Ex w w') := by
 have k1 := fun w hx => iShare 100 g n cap cur S a b hn ha hb w hx c0 c1
 rcases hf : (flow a 0 b).1 with ⟨f1, f2, f3⟩
 rw [hf] at k1
 simp only [Fr.v] at k1
 have k2 := fun w (_ : Yf w) => iTableFade f1 f2 f3 w
 rcases hT : Sy ⟨f1, f2, f3⟩ with ⟨t, ok⟩
 have hl := Jy ⟨f1, f2, f3⟩
 rw [hT] at hl k2
 have hsz : (Zo t).size = 48 := by rw [Xy, hl]
 simp only [Rs] at k2
 have KF := Gv k1
 have KT := Gv k2
 have HZ := Gv hsz
 clear k1 k2 hl hT hf hsz
 have HG := Gv hG
 have hR : Zw w w [(g, 3, cur)] := ⟨Ex.refl w, hbox, trivial⟩
 clear hbox ha hb
 go_enter Tryz.func46, Tryz.ntmps46
 go_upto_region 1 with fail
 rw [Ui]
 have hS : Zw w ((w.alloc (.cells #[.int .u8 100, .slice (some ⟨g, 0, none⟩) n cap, .string S] 84)).alloc (.cells Z48 87)) _ := inferInstance
 clear hR
 simp only [Gu] at hS
 generalize (w.alloc (.cells #[.int .u8 100, .slice (some ⟨g, 0, none⟩) n cap, .string S] 84)).alloc (.cells Z48 87) = W0 at *
 have hC := hS.reads
 simp only [Zz, Zy] at hC
 go_wp2_with fail
 refine (KF.out _ hS.boxes.2.2.1).mono ?_
 rintro e w1 ⟨rfl, hx⟩
 replace hS := Zw.after (h := hS) hx
 clear hC
 have hC := hS.reads
 simp only [Zz, Zy] at hC
 go_wp2_with fail
 refine (KT.out _ (HG.out.ex hS.ex)).mono ?_
 rintro e w2 ⟨rfl, hx2⟩
 replace hS := Zw.after (h := hS) hx2
 clear hC
 have hC := hS.reads
 simp only [Zz, Zy] at hC
 have hr := hS.boxes.1
 have hE := hS.ex
 go_wp2_with (refine wpList_store_row rfl _ _ _ rfl _ _ rfl rfl _ _ hr (Ye HZ.out) (by rw [HZ.out]; rfl) (Xv _) ?_)
 exact Gq (Yx Tryz.results46 _ _ _ _ _ (0, 0) _ rfl (hr.setRow _) Tryz.underlying87 rfl (Ye HZ.out)) rfl ⟨rfl, hE.setRow (Nat.le_succ _) _⟩
theorem sTab_d (g n cap : Nat) (cur : Array Value) (a b : Int) (hn : 2 ≤ n) (ha : -1000000 ≤ a ∧ a ≤ 1000000) (hb : 1 ≤ b ∧ b ≤ 1000000) (w : World) (hbox : Box w g 3 cur) (c0 : cur[0]? = some (.int .i64 a)) (c1 : cur[1]? = some (.int .i64 b)) : Calls Tryz.prog 57 #[.agg #[.int .u8 100, .slice (some ⟨g, 0, none⟩) n cap]] w (fun e w' => e = .returned (Rs (Sy (flow a 0 b).1)) ∧ Ex w w') := by
 have k1 := fun w hx => sShare 100 g n cap cur a b hn ha hb w hx c0 c1
 rcases hf : (flow a 0 b).1 with ⟨f1, f2, f3⟩
 rw [hf] at k1
 simp only [Fr.v] at k1
 have k2 := fun w => sTableFade f1 f2 f3 w
 rcases hT : Sy ⟨f1, f2, f3⟩ with ⟨t, ok⟩
 have hl := Jy ⟨f1, f2, f3⟩
 rw [hT] at hl k2
 have hsz : (Zo t).size = 48 := by rw [Xy, hl]
 simp only [Rs] at k2
 have KF := Gv k1
 have KT := Gv k2
 have HZ := Gv hsz
 clear k1 k2 hl hT hf hsz
 have hR : Zw w w [(g, 3, cur)] := ⟨Ex.refl w, hbox, trivial⟩
 clear hbox ha hb
 go_enter Tryz.func57, Tryz.ntmps57
 go_upto_region 1 with fail
 rw [Ui]
 have hS : Zw w ((w.alloc (.cells #[.int .u8 100, .slice (some ⟨g, 0, none⟩) n cap] 103)).alloc (.cells Z48 87)) _ := inferInstance
 clear hR
 simp only [Gu] at hS
 generalize (w.alloc (.cells #[.int .u8 100, .slice (some ⟨g, 0, none⟩) n cap] 103)).alloc (.cells Z48 87) = W0 at *
 have hC := hS.reads
 simp only [Zz, Zy] at hC
 go_wp2_with fail
 refine (KF.out _ hS.boxes.2.2.1).mono ?_
 rintro e w1 ⟨rfl, hx⟩
 replace hS := Zw.after (h := hS) hx
 clear hC
 have hC := hS.reads
 simp only [Zz, Zy] at hC
 go_wp2_with fail
 refine (KT.out _).mono ?_
 rintro e w2 ⟨rfl, hx2⟩
 replace hS := Zw.after (h := hS) hx2
 clear hC
 have hC := hS.reads
 simp only [Zz, Zy] at hC
 have hr := hS.boxes.1
 have hE := hS.ex
 go_wp2_with (refine wpList_store_row rfl _ _ _ rfl _ _ rfl rfl _ _ hr (Ye HZ.out) (by rw [HZ.out]; rfl) (Xv _) ?_)
 exact Gq (Yx Tryz.results57 _ _ _ _ _ (0, 0) _ rfl (hr.setRow _) Tryz.underlying87 rfl (Ye HZ.out)) rfl ⟨rfl, hE.setRow (Nat.le_succ _) _⟩
end
section
open Go.RowKit

attribute [local go_sem] Zk Zj
theorem iTab_m (k : Int) (g n cap : Nat) (cur : Array Value) (S : ByteArray) (hk : ¬ k = 100) (r : M4 × Bool) (hm : ∀ w, Yf w → Box w g 3 cur → Calls Tryz.prog 70 #[.agg #[.int .u8 k, .slice (some ⟨g, 0, none⟩) n cap, .string S]] w (fun e w' => e = .returned (m4v r) ∧ Ex w w')) (w : World) [hG : Yf w] (hbox : Box w g 3 cur) : Calls Tryz.prog 46 #[.agg #[.int .u8 k, .slice (some ⟨g, 0, none⟩) n cap, .string S]] w (fun e w' => e = .returned (Rs (if r.2 then Tk r.1 else (Tl 16, false))) ∧ Ex w w') := by
 rcases r with ⟨⟨⟨x1, x2, x3⟩, ⟨x4, x5, x6⟩, ⟨x7, x8, x9⟩, ⟨y1, y2, y3⟩⟩, ok⟩
 simp only [m4v, M4.v] at hm
 have k2 := fun w (_ : Yf w) => iTableOf ⟨⟨x1, x2, x3⟩, ⟨x4, x5, x6⟩, ⟨x7, x8, x9⟩, ⟨y1, y2, y3⟩⟩ w
 rcases hT : Tk ⟨⟨x1, x2, x3⟩, ⟨x4, x5, x6⟩, ⟨x7, x8, x9⟩, ⟨y1, y2, y3⟩⟩ with ⟨t, okt⟩
 have hl := Jz ⟨⟨x1, x2, x3⟩, ⟨x4, x5, x6⟩, ⟨x7, x8, x9⟩, ⟨y1, y2, y3⟩⟩
 rw [hT] at hl k2
 have hsz : (Zo t).size = 48 := by rw [Xy, hl]
 simp only [Rs, M4.v] at k2
 have KF := Gv hm
 have KT := Gv k2
 have HZ := Gv hsz
 have HT := Gv hT
 clear hm k2 hl hT hsz
 have HG := Gv hG
 have hR : Zw w w [(g, 3, cur)] := ⟨Ex.refl w, hbox, trivial⟩
 clear hbox
 go_enter Tryz.func46, Tryz.ntmps46
 go_upto_region 1 with fail
 rw [Ui]
 have hS : Zw w ((w.alloc (.cells #[.int .u8 k, .slice (some ⟨g, 0, none⟩) n cap, .string S] 84)).alloc (.cells Z48 87)) _ := inferInstance
 clear hR
 simp only [Gu] at hS
 generalize (w.alloc (.cells #[.int .u8 k, .slice (some ⟨g, 0, none⟩) n cap, .string S] 84)).alloc (.cells Z48 87) = W0 at *
 have hC := hS.reads
 simp only [Zz, Zy] at hC
 go_wp2_with fail
 refine (KF.out _ (HG.out.ex hS.ex) hS.boxes.2.2.1).mono ?_
 rintro e w1 ⟨rfl, hx⟩
 replace hS := Zw.after (h := hS) hx
 clear hC
 have hC := hS.reads
 simp only [Zz, Zy] at hC
 go_upto_region 4 with fail
 have hT : Zw w (w1.alloc (.cells #[.int .i64 x1, .int .i64 x2, .int .i64 x3, .int .i64 x4, .int .i64 x5, .int .i64 x6, .int .i64 x7, .int .i64 x8, .int .i64 x9, .int .i64 y1, .int .i64 y2, .int .i64 y3] 122)) _ := Zw.alloc (h := hS)
 clear hC hS
 have hC := hT.reads
 simp only [Zz, Zy] at hC
 generalize w1.alloc _ = W1 at *
 have hr := hT.boxes.2.1
 have hE := hT.ex
 rcases ok with _ | _
 ·go_wp2_with (refine wpList_store_row rfl _ _ _ rfl _ _ rfl rfl _ _ hr (Ye Xt) rfl Ue ?_)
  exact Gq (Yx Tryz.results46 _ _ _ _ _ (0, 0) _ rfl (hr.setRow _) Tryz.underlying87 rfl (Ye Xt)) rfl ⟨rfl, hE.setRow (Nat.le_succ _) _⟩
 ·go_wp2_with fail
  refine (KT.out _ (HG.out.ex hT.ex)).mono ?_
  rintro e w2 ⟨rfl, hx2⟩
  replace hT := Zw.after (h := hT) hx2
  clear hC hr hE
  have hC := hT.reads
  simp only [Zz, Zy] at hC
  have hr := hT.boxes.2.1
  have hE := hT.ex
  go_wp2_with (refine wpList_store_row rfl _ _ _ rfl _ _ rfl rfl _ _ hr (Ye HZ.out) (by rw [HZ.out]; rfl) (Xv _) ?_)
  exact Gq (v := .tuple #[.agg (Zo t), .bool okt]) (Yx Tryz.results46 _ _ _ _ _ (0, 0) _ rfl (hr.setRow _) Tryz.underlying87 rfl (Ye HZ.out)) rfl ⟨by simp only [reduceIte, HT.out, Rs], hE.setRow (Nat.le_succ _) _⟩
theorem sTab_m (k : Int) (g n cap : Nat) (cur : Array Value) (hk : ¬ k = 100) (r : M4 × Bool) (hm : ∀ w, Box w g 3 cur → Calls Tryz.prog 90 #[.agg #[.int .u8 k, .slice (some ⟨g, 0, none⟩) n cap]] w (fun e w' => e = .returned (m4v r) ∧ Ex w w')) (w : World) (hbox : Box w g 3 cur) : Calls Tryz.prog 57 #[.agg #[.int .u8 k, .slice (some ⟨g, 0, none⟩) n cap]] w (fun e w' => e = .returned (Rs (if r.2 then Tk r.1 else (Tl 16, false))) ∧ Ex w w') := by
 rcases r with ⟨⟨⟨x1, x2, x3⟩, ⟨x4, x5, x6⟩, ⟨x7, x8, x9⟩, ⟨y1, y2, y3⟩⟩, ok⟩
 simp only [m4v, M4.v] at hm
 have k2 := fun w => sTableOf ⟨⟨x1, x2, x3⟩, ⟨x4, x5, x6⟩, ⟨x7, x8, x9⟩, ⟨y1, y2, y3⟩⟩ w
 rcases hT : Tk ⟨⟨x1, x2, x3⟩, ⟨x4, x5, x6⟩, ⟨x7, x8, x9⟩, ⟨y1, y2, y3⟩⟩ with ⟨t, okt⟩
 have hl := Jz ⟨⟨x1, x2, x3⟩, ⟨x4, x5, x6⟩, ⟨x7, x8, x9⟩, ⟨y1, y2, y3⟩⟩
 rw [hT] at hl k2
 have hsz : (Zo t).size = 48 := by rw [Xy, hl]
 simp only [Rs, M4.v] at k2
 have KF := Gv hm
 have KT := Gv k2
 have HZ := Gv hsz
 have HT := Gv hT
 clear hm k2 hl hT hsz
 have hR : Zw w w [(g, 3, cur)] := ⟨Ex.refl w, hbox, trivial⟩
 clear hbox
 go_enter Tryz.func57, Tryz.ntmps57
 go_upto_region 1 with fail
 rw [Ui]
 have hS : Zw w ((w.alloc (.cells #[.int .u8 k, .slice (some ⟨g, 0, none⟩) n cap] 103)).alloc (.cells Z48 87)) _ := inferInstance
 clear hR
 simp only [Gu] at hS
 generalize (w.alloc (.cells #[.int .u8 k, .slice (some ⟨g, 0, none⟩) n cap] 103)).alloc (.cells Z48 87) = W0 at *
 have hC := hS.reads
 simp only [Zz, Zy] at hC
 go_wp2_with fail
 refine (KF.out _ hS.boxes.2.2.1).mono ?_
 rintro e w1 ⟨rfl, hx⟩
 replace hS := Zw.after (h := hS) hx
 clear hC
 have hC := hS.reads
 simp only [Zz, Zy] at hC
 go_upto_region 4 with fail
 have hT : Zw w (w1.alloc (.cells #[.int .i64 x1, .int .i64 x2, .int .i64 x3, .int .i64 x4, .int .i64 x5, .int .i64 x6, .int .i64 x7, .int .i64 x8, .int .i64 x9, .int .i64 y1, .int .i64 y2, .int .i64 y3] 122)) _ := Zw.alloc (h := hS)
 clear hC hS
 have hC := hT.reads
 simp only [Zz, Zy] at hC
 generalize w1.alloc _ = W1 at *
 have hr := hT.boxes.2.1
 have hE := hT.ex
 rcases ok with _ | _
 ·go_wp2_with (refine wpList_store_row rfl _ _ _ rfl _ _ rfl rfl _ _ hr (Ye Xt) rfl Ue ?_)
  exact Gq (Yx Tryz.results57 _ _ _ _ _ (0, 0) _ rfl (hr.setRow _) Tryz.underlying87 rfl (Ye Xt)) rfl ⟨rfl, hE.setRow (Nat.le_succ _) _⟩
 ·go_wp2_with fail
  refine (KT.out _).mono ?_
  rintro e w2 ⟨rfl, hx2⟩
  replace hT := Zw.after (h := hT) hx2
  clear hC hr hE
  have hC := hT.reads
  simp only [Zz, Zy] at hC
  have hr := hT.boxes.2.1
  have hE := hT.ex
  go_wp2_with (refine wpList_store_row rfl _ _ _ rfl _ _ rfl rfl _ _ hr (Ye HZ.out) (by rw [HZ.out]; rfl) (Xv _) ?_)
  exact Gq (v := .tuple #[.agg (Zo t), .bool okt]) (Yx Tryz.results57 _ _ _ _ _ (0, 0) _ rfl (hr.setRow _) Tryz.underlying87 rfl (Ye HZ.out)) rfl ⟨by simp only [reduceIte, HT.out, Rs], hE.setRow (Nat.le_succ _) _⟩
end
section
open Go.RowKit

attribute [local go_sem] Zk Zj
theorem iExcess (v : M4) (w : World) : Calls Tryz.prog 52 #[v.v] w (fun e w' => e = .returned (.tuple #[.int .i64 (Uh v).1, .bool (Uh v).2]) ∧ Ex w w') := by
 have kq := fun w => Hb v w
 have kp := fun w => Mm v.a v.a w
 have kc := fun w => iFracCompare (Zs v.a v.a).1 (Vq v).1 w
 have he : Uh v = if (Vq v).2 && (Zs v.a v.a).2 then Rw (Zs v.a v.a).1 (Vq v).1 else (0, false) := rfl
 generalize Uh v = ev at he ⊢
 obtain ⟨⟨a1, a2, a3⟩, ⟨b1, b2, b3⟩, ⟨c1, c2, c3⟩, ⟨d1, d2, d3⟩⟩ := v
 simp only [M4.v, frb, Fr.v] at kq kp kc he ⊢
 rcases hq : Vq ⟨⟨a1, a2, a3⟩, ⟨b1, b2, b3⟩, ⟨c1, c2, c3⟩, ⟨d1, d2, d3⟩⟩ with ⟨⟨q1, q2, q3⟩, okq⟩
 rcases hp : Zs ⟨a1, a2, a3⟩ ⟨a1, a2, a3⟩ with ⟨⟨p1, p2, p3⟩, okp⟩
 rw [hq] at kq kc he
 rw [hp] at kp kc he
 simp only at kq kc he
 rcases hc : Rw ⟨p1, p2, p3⟩ ⟨q1, q2, q3⟩ with ⟨n, okc⟩
 rw [hc] at kc he
 have kp2 : ∀ w, Calls Tryz.prog 81 #[.agg #[.int .i64 a1, .int .i64 a2, .int .i64 a3], .agg #[.int .i64 a1, .int .i64 a2, .int .i64 a3]] w _ := fun w => Yu.spell (kp w)
 have kc2 : ∀ w, Calls Tryz.prog 82 #[.agg #[.int .i64 p1, .int .i64 p2, .int .i64 p3], .agg #[.int .i64 q1, .int .i64 q2, .int .i64 q3]] w (fun e w' => e = .returned (.tuple #[.int .i64 n, .bool okc]) ∧ Ex w w') := kc
 have KQ := Gv kq
 have KP := Gv kp2
 have KC := Gv kc2
 have HE := Gv he
 clear kq kp kc kp2 kc2 he hq hp hc
 have hS := Zw.refl w
 have hC := True.intro
 rcases okq with _ | _ <;> rcases okp with _ | _
 all_goals
  go_enter Tryz.func52, Tryz.ntmps52
  go_wp2_with (first | (go_at_call 80; (with_reducible refine (KQ.out _).mono ?_); rintro e wn ⟨rfl, hx⟩; replace hS := Zw.after (W := w) hx; clear hx; replace hC := hS.reads; simp only [Zz, Zy, Gu] at hC) | (go_at_call 81; (with_reducible refine (KP.out _).mono ?_); rintro e wn ⟨rfl, hx⟩; replace hS := Zw.after (W := w) hx; clear hx; replace hC := hS.reads; simp only [Zz, Zy, Gu] at hC) | (go_at_call 82; (with_reducible refine (KC.out _).mono ?_); rintro e wn ⟨rfl, hx⟩; replace hS := Zw.after (W := w) hx; clear hx; replace hC := hS.reads; simp only [Zz, Zy, Gu] at hC))
  refine Gq ?_ rfl ⟨by first | (rw [HE.out]; done) | (rw [HE.out]; rfl), ?_⟩
  ·simp [results, Tryz.results52, go_sem]
  ·repeat' (with_reducible first | exact hS.ex | exact Ex.refl _ | assumption | apply Ex.alloc | apply Ex.drewN | apply Ex.drew | refine Ex.setCell ?_ (by simp <;> omega) _)
theorem iStokesLight (v : M4) (w : World) : Calls Tryz.prog 33 #[v.v] w (fun e w' => e = .returned (.bool (Rn v)) ∧ Ex w w') := by
 have kq := fun w => iExcess v w
 have he : Rn v = ((Uh v).2 && decide (0 ≤ (Uh v).1) && decide (0 ≤ v.a.re)) := rfl
 generalize Rn v = lv at he ⊢
 generalize Uh v = ev at he kq
 obtain ⟨⟨a1, a2, a3⟩, ⟨b1, b2, b3⟩, ⟨c1, c2, c3⟩, ⟨d1, d2, d3⟩⟩ := v
 obtain ⟨n, ok⟩ := ev
 simp only [M4.v] at kq he ⊢
 have KQ := Gv kq
 have HE := Gv he
 clear kq he
 have hS := Zw.refl w
 have hC := True.intro
 rcases ok with _ | _
 ·go_enter Tryz.func33, Tryz.ntmps33
  go_wp2_with (go_at_call 52; (with_reducible refine (KQ.out _).mono ?_); rintro e wn ⟨rfl, hx⟩; replace hS := Zw.after (W := w) hx; clear hx; replace hC := hS.reads; simp only [Zz, Zy, Gu] at hC)
  refine Gq ?_ rfl ⟨by first | (rw [HE.out]; done) | (rw [HE.out]; rfl), ?_⟩
  ·simp [results, Tryz.results33, go_sem]
  ·repeat' (with_reducible first | exact hS.ex | exact Ex.refl _ | assumption | apply Ex.alloc | apply Ex.drewN | apply Ex.drew | refine Ex.setCell ?_ (by simp <;> omega) _)
 ·by_cases h1 : 0 ≤ n
  ·by_cases h2 : 0 ≤ a1
   ·go_enter Tryz.func33, Tryz.ntmps33
    go_wp2_with (go_at_call 52; (with_reducible refine (KQ.out _).mono ?_); rintro e wn ⟨rfl, hx⟩; replace hS := Zw.after (W := w) hx; clear hx; replace hC := hS.reads; simp only [Zz, Zy, Gu] at hC)
    refine Gq (v := .bool true) ?_ rfl ⟨by rw [HE.out]; simp [h1, h2], ?_⟩
    ·simp [results, Tryz.results33, go_sem, h1, h2]
    ·repeat' (with_reducible first | exact hS.ex | exact Ex.refl _ | assumption | apply Ex.alloc | apply Ex.drewN | apply Ex.drew | refine Ex.setCell ?_ (by simp <;> omega) _)
   ·go_enter Tryz.func33, Tryz.ntmps33
    go_wp2_with (go_at_call 52; (with_reducible refine (KQ.out _).mono ?_); rintro e wn ⟨rfl, hx⟩; replace hS := Zw.after (W := w) hx; clear hx; replace hC := hS.reads; simp only [Zz, Zy, Gu] at hC)
    refine Gq (v := .bool false) ?_ rfl ⟨by rw [HE.out]; simp [h1, h2], ?_⟩
    ·simp [results, Tryz.results33, go_sem, h1, h2]
    ·repeat' (with_reducible first | exact hS.ex | exact Ex.refl _ | assumption | apply Ex.alloc | apply Ex.drewN | apply Ex.drew | refine Ex.setCell ?_ (by simp <;> omega) _)
  ·go_enter Tryz.func33, Tryz.ntmps33
   go_wp2_with (go_at_call 52; (with_reducible refine (KQ.out _).mono ?_); rintro e wn ⟨rfl, hx⟩; replace hS := Zw.after (W := w) hx; clear hx; replace hC := hS.reads; simp only [Zz, Zy, Gu] at hC)
   refine Gq (v := .bool false) ?_ rfl ⟨by rw [HE.out, show decide (0 ≤ n) = false from decide_eq_false (by omega)]; rfl, ?_⟩
   ·simp [results, Tryz.results33, go_sem, h1]
   ·repeat' (with_reducible first | exact hS.ex | exact Ex.refl _ | assumption | apply Ex.alloc | apply Ex.drewN | apply Ex.drew | refine Ex.setCell ?_ (by simp <;> omega) _)
theorem sExcess (v : M4) (w : World) : Calls Tryz.prog 78 #[v.v] w (fun e w' => e = .returned (.tuple #[.int .i64 (Uh v).1, .bool (Uh v).2]) ∧ Ex w w') := by
 have kq := fun w => Ha v w
 have kp := fun w => Xd v.a v.a w
 have kc := fun w => sFracCompare (Zs v.a v.a).1 (Vq v).1 w
 have he : Uh v = if (Vq v).2 && (Zs v.a v.a).2 then Rw (Zs v.a v.a).1 (Vq v).1 else (0, false) := rfl
 generalize Uh v = ev at he ⊢
 obtain ⟨⟨a1, a2, a3⟩, ⟨b1, b2, b3⟩, ⟨c1, c2, c3⟩, ⟨d1, d2, d3⟩⟩ := v
 simp only [M4.v, frb, Fr.v] at kq kp kc he ⊢
 rcases hq : Vq ⟨⟨a1, a2, a3⟩, ⟨b1, b2, b3⟩, ⟨c1, c2, c3⟩, ⟨d1, d2, d3⟩⟩ with ⟨⟨q1, q2, q3⟩, okq⟩
 rcases hp : Zs ⟨a1, a2, a3⟩ ⟨a1, a2, a3⟩ with ⟨⟨p1, p2, p3⟩, okp⟩
 rw [hq] at kq kc he
 rw [hp] at kp kc he
 simp only at kq kc he
 rcases hc : Rw ⟨p1, p2, p3⟩ ⟨q1, q2, q3⟩ with ⟨n, okc⟩
 rw [hc] at kc he
 have kp2 : ∀ w, Calls Tryz.prog 60 #[.agg #[.int .i64 a1, .int .i64 a2, .int .i64 a3], .agg #[.int .i64 a1, .int .i64 a2, .int .i64 a3]] w _ := fun w => Yu.spell (kp w)
 have kc2 : ∀ w, Calls Tryz.prog 129 #[.agg #[.int .i64 p1, .int .i64 p2, .int .i64 p3], .agg #[.int .i64 q1, .int .i64 q2, .int .i64 q3]] w (fun e w' => e = .returned (.tuple #[.int .i64 n, .bool okc]) ∧ Ex w w') := kc
 have KQ := Gv kq
 have KP := Gv kp2
 have KC := Gv kc2
 have HE := Gv he
 clear kq kp kc kp2 kc2 he hq hp hc
 have hS := Zw.refl w
 have hC := True.intro
 rcases okq with _ | _ <;> rcases okp with _ | _
 all_goals
  go_enter Tryz.func78, Tryz.ntmps78
  go_wp2_with (first | (go_at_call 128; (with_reducible refine (KQ.out _).mono ?_); rintro e wn ⟨rfl, hx⟩; replace hS := Zw.after (W := w) hx; clear hx; replace hC := hS.reads; simp only [Zz, Zy, Gu] at hC) | (go_at_call 60; (with_reducible refine (KP.out _).mono ?_); rintro e wn ⟨rfl, hx⟩; replace hS := Zw.after (W := w) hx; clear hx; replace hC := hS.reads; simp only [Zz, Zy, Gu] at hC) | (go_at_call 129; (with_reducible refine (KC.out _).mono ?_); rintro e wn ⟨rfl, hx⟩; replace hS := Zw.after (W := w) hx; clear hx; replace hC := hS.reads; simp only [Zz, Zy, Gu] at hC))
  refine Gq ?_ rfl ⟨by first | (rw [HE.out]; done) | (rw [HE.out]; rfl), ?_⟩
  ·simp [results, Tryz.results78, go_sem]
  ·repeat' (with_reducible first | exact hS.ex | exact Ex.refl _ | assumption | apply Ex.alloc | apply Ex.drewN | apply Ex.drew | refine Ex.setCell ?_ (by simp <;> omega) _)
theorem sStokesLight (v : M4) (w : World) : Calls Tryz.prog 49 #[v.v] w (fun e w' => e = .returned (.bool (Rn v)) ∧ Ex w w') := by
 have kq := fun w => sExcess v w
 have he : Rn v = ((Uh v).2 && decide (0 ≤ (Uh v).1) && decide (0 ≤ v.a.re)) := rfl
 generalize Rn v = lv at he ⊢
 generalize Uh v = ev at he kq
 obtain ⟨⟨a1, a2, a3⟩, ⟨b1, b2, b3⟩, ⟨c1, c2, c3⟩, ⟨d1, d2, d3⟩⟩ := v
 obtain ⟨n, ok⟩ := ev
 simp only [M4.v] at kq he ⊢
 have KQ := Gv kq
 have HE := Gv he
 clear kq he
 have hS := Zw.refl w
 have hC := True.intro
 rcases ok with _ | _
 ·go_enter Tryz.func49, Tryz.ntmps49
  go_wp2_with (go_at_call 78; (with_reducible refine (KQ.out _).mono ?_); rintro e wn ⟨rfl, hx⟩; replace hS := Zw.after (W := w) hx; clear hx; replace hC := hS.reads; simp only [Zz, Zy, Gu] at hC)
  refine Gq ?_ rfl ⟨by first | (rw [HE.out]; done) | (rw [HE.out]; rfl), ?_⟩
  ·simp [results, Tryz.results49, go_sem]
  ·repeat' (with_reducible first | exact hS.ex | exact Ex.refl _ | assumption | apply Ex.alloc | apply Ex.drewN | apply Ex.drew | refine Ex.setCell ?_ (by simp <;> omega) _)
 ·by_cases h1 : 0 ≤ n
  ·by_cases h2 : 0 ≤ a1
   ·go_enter Tryz.func49, Tryz.ntmps49
    go_wp2_with (go_at_call 78; (with_reducible refine (KQ.out _).mono ?_); rintro e wn ⟨rfl, hx⟩; replace hS := Zw.after (W := w) hx; clear hx; replace hC := hS.reads; simp only [Zz, Zy, Gu] at hC)
    refine Gq (v := .bool true) ?_ rfl ⟨by rw [HE.out]; simp [h1, h2], ?_⟩
    ·simp [results, Tryz.results49, go_sem, h1, h2]
    ·repeat' (with_reducible first | exact hS.ex | exact Ex.refl _ | assumption | apply Ex.alloc | apply Ex.drewN | apply Ex.drew | refine Ex.setCell ?_ (by simp <;> omega) _)
   ·go_enter Tryz.func49, Tryz.ntmps49
    go_wp2_with (go_at_call 78; (with_reducible refine (KQ.out _).mono ?_); rintro e wn ⟨rfl, hx⟩; replace hS := Zw.after (W := w) hx; clear hx; replace hC := hS.reads; simp only [Zz, Zy, Gu] at hC)
    refine Gq (v := .bool false) ?_ rfl ⟨by rw [HE.out]; simp [h1, h2], ?_⟩
    ·simp [results, Tryz.results49, go_sem, h1, h2]
    ·repeat' (with_reducible first | exact hS.ex | exact Ex.refl _ | assumption | apply Ex.alloc | apply Ex.drewN | apply Ex.drew | refine Ex.setCell ?_ (by simp <;> omega) _)
  ·go_enter Tryz.func49, Tryz.ntmps49
   go_wp2_with (go_at_call 78; (with_reducible refine (KQ.out _).mono ?_); rintro e wn ⟨rfl, hx⟩; replace hS := Zw.after (W := w) hx; clear hx; replace hC := hS.reads; simp only [Zz, Zy, Gu] at hC)
   refine Gq (v := .bool false) ?_ rfl ⟨by rw [HE.out, show decide (0 ≤ n) = false from decide_eq_false (by omega)]; rfl, ?_⟩
   ·simp [results, Tryz.results49, go_sem, h1]
   ·repeat' (with_reducible first | exact hS.ex | exact Ex.refl _ | assumption | apply Ex.alloc | apply Ex.drewN | apply Ex.drew | refine Ex.setCell ?_ (by simp <;> omega) _)
end
end Go.Proofs.YtmmjkchjgeklnaaGreatDoor
