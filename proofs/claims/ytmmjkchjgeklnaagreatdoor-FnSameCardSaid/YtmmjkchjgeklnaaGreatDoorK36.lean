/-
  Proved: what functions compute, part 36. No condition.
-/
import Derived.Test.YtmmjkchjgeklnaaGreatDoorK27
import Derived.Test.YtmmjkchjgeklnaaGreatDoorK35
set_option linter.unusedSimpArgs false
set_option linter.unusedVariables false
set_option maxRecDepth 20000
set_option maxHeartbeats 8000000
namespace Go.Proofs.YtmmjkchjgeklnaaGreatDoor
section
open Go.RowKit

attribute [local go_sem] Zk Zj
theorem Zw.setc {W w : World} {g : Nat} {t : TypeId} {cs : Array Value} {L : List (Nat × TypeId × Array Value)} (h : Zw W w ((g, t, cs) :: L)) (hg : W.heap.size ≤ g) (hne : ∀ x ∈ L, x.1 ≠ g) (i : Nat) (x : Value) :
  Zw W (w.setCell ⟨g, i, none⟩ x) ((g, t, cs.setIfInBounds i x) :: L) := by
 refine ⟨h.ex.setCell (p := ⟨g, i, none⟩) hg x, h.boxes.1.set_ i x, ?_⟩
 have : ∀ {M : List (Nat × TypeId × Array Value)}, (∀ v ∈ M, v.1 ≠ g) → Ym w M → Ym (w.setCell ⟨g, i, none⟩ x) M := by
  intro M
  induction M with
  | nil => exact fun _ _ => trivial
  | cons v M ih => exact fun hv hB => ⟨hB.1.far (p := ⟨g, i, none⟩) (hv _ (.head _)) x, ih (fun u hu => hv u (.tail _ hu)) hB.2⟩
 exact this hne h.boxes.2
theorem Qm (s : ByteArray) : s = Bs s.data.toList := Pg (by simp [Bs])
theorem Wb (s : ByteArray) : s.data.toList.length = s.size := by rw [Array.length_toList]; rfl
theorem Ql (S : ByteArray) (a1 a2 a3 b1 b2 b3 c1 c2 c3 d1 d2 d3 n : Int) : (#[.string S, .int .i64 a1, .int .i64 a2, .int .i64 a3, .int .i64 b1, .int .i64 b2, .int .i64 b3, .int .i64 c1, .int .i64 c2, .int .i64 c3, .int .i64 d1, .int .i64 d2, .int .i64 d3, .int .u32 n] : Array Value).all (fun x => x.oneCell') = true := by simp [Value.oneCell']
theorem Uy {cs : Array Value} (h : cs.size = 14) : (Tryz.prog.info? 37).map (·.size) = some cs.size := by rw [h]; kernel_rfl
theorem Sf (S : ByteArray) (a1 a2 a3 b1 b2 b3 c1 c2 c3 d1 d2 d3 n : Int) (w : World) : Calls Tryz.prog 13 #[.agg #[.string S, .int .i64 a1, .int .i64 a2, .int .i64 a3, .int .i64 b1, .int .i64 b2, .int .i64 b3, .int .i64 c1, .int .i64 c2, .int .i64 c3, .int .i64 d1, .int .i64 d2, .int .i64 d3, .int .u32 n]] w (fun e w' => e = .returned (.agg #[.string S, .int .i64 a1, .int .i64 a2, .int .i64 a3, .int .i64 b1, .int .i64 b2, .int .i64 b3, .int .i64 c1, .int .i64 c2, .int .i64 c3, .int .i64 d1, .int .i64 d2, .int .i64 d3, .int .u32 n]) ∧ Ex w w') := by
 have ks := fun w => Oy a1 a2 a3 b1 b2 b3 c1 c2 c3 d1 d2 d3 w
 have KS := Gv ks
 clear ks
 have hR := Zw.refl w
 go_enter Tryz.func13, Tryz.ntmps13
 go_upto_region 3 with fail
 have hS : Zw w (((w.alloc (.cells #[.string S, .int .i64 a1, .int .i64 a2, .int .i64 a3, .int .i64 b1, .int .i64 b2, .int .i64 b3, .int .i64 c1, .int .i64 c2, .int .i64 c3, .int .i64 d1, .int .i64 d2, .int .i64 d3, .int .u32 n] 29)).alloc (.cells #[.string ⟨#[]⟩, .int .i64 0, .int .i64 0, .int .i64 0, .int .i64 0, .int .i64 0, .int .i64 0, .int .i64 0, .int .i64 0, .int .i64 0, .int .i64 0, .int .i64 0, .int .i64 0, .int .u32 0] 37)).alloc (.cells #[.string S, .int .i64 0, .int .i64 0, .int .i64 0, .int .i64 0, .int .i64 0, .int .i64 0, .int .i64 0, .int .i64 0, .int .i64 0, .int .i64 0, .int .i64 0, .int .i64 0, .int .u32 0] 37)) _ := inferInstance
 simp only [Gu] at hS
 generalize ((w.alloc (.cells #[.string S, .int .i64 a1, .int .i64 a2, .int .i64 a3, .int .i64 b1, .int .i64 b2, .int .i64 b3, .int .i64 c1, .int .i64 c2, .int .i64 c3, .int .i64 d1, .int .i64 d2, .int .i64 d3, .int .u32 n] 29)).alloc (.cells #[.string ⟨#[]⟩, .int .i64 0, .int .i64 0, .int .i64 0, .int .i64 0, .int .i64 0, .int .i64 0, .int .i64 0, .int .i64 0, .int .i64 0, .int .i64 0, .int .i64 0, .int .i64 0, .int .u32 0] 37)).alloc (.cells #[.string S, .int .i64 0, .int .i64 0, .int .i64 0, .int .i64 0, .int .i64 0, .int .i64 0, .int .i64 0, .int .i64 0, .int .i64 0, .int .i64 0, .int .i64 0, .int .i64 0, .int .u32 0] 37) = W0 at *
 have hC := hS.reads
 simp only [Zz, Zy] at hC
 go_wp2_with fail
 refine (KS.out _).mono ?_
 rintro e w1 ⟨rfl, hx⟩
 replace hS := Zw.after (h := hS) hx
 clear hx hC
 have hC := hS.reads
 simp only [Zz, Zy] at hC
 have HNE : Hid (∀ x ∈ ([(w.heap.size + 1, 37, #[.string ⟨#[]⟩, .int .i64 0, .int .i64 0, .int .i64 0, .int .i64 0, .int .i64 0, .int .i64 0, .int .i64 0, .int .i64 0, .int .i64 0, .int .i64 0, .int .i64 0, .int .i64 0, .int .u32 0]), (w.heap.size, 29, #[.string S, .int .i64 a1, .int .i64 a2, .int .i64 a3, .int .i64 b1, .int .i64 b2, .int .i64 b3, .int .i64 c1, .int .i64 c2, .int .i64 c3, .int .i64 d1, .int .i64 d2, .int .i64 d3, .int .u32 n])] : List (Nat × TypeId × Array Value)), x.1 ≠ w.heap.size + 1 + 1) := Gv (by
  intro x hx
  simp only [List.mem_cons, List.not_mem_nil, or_false] at hx
  rcases hx with rfl | rfl
  ·simp only; omega
  ·simp only; omega)
 go_upto_region 5 with fail
 have hS2 := Zw.setc (Zw.setc (Zw.setc (Zw.setc (Zw.setc (Zw.setc (Zw.setc (Zw.setc (Zw.setc (Zw.setc (Zw.setc (Zw.setc (Zw.setc (hS) (by omega) HNE.out 1 (.int .i64 a1)) (by omega) HNE.out 2 (.int .i64 a2)) (by omega) HNE.out 3 (.int .i64 a3)) (by omega) HNE.out 4 (.int .i64 b1)) (by omega) HNE.out 5 (.int .i64 b2)) (by omega) HNE.out 6 (.int .i64 b3)) (by omega) HNE.out 7 (.int .i64 c1)) (by omega) HNE.out 8 (.int .i64 c2)) (by omega) HNE.out 9 (.int .i64 c3)) (by omega) HNE.out 10 (.int .i64 d1)) (by omega) HNE.out 11 (.int .i64 d2)) (by omega) HNE.out 12 (.int .i64 d3)) (by omega) HNE.out 13 (.int .u32 n)
 clear hS hC
 simp only [Gt, Gs, Gr] at hS2
 generalize (((((((((((((w1).setCell ⟨w.heap.size + 1 + 1, 1, none⟩ (.int .i64 a1)).setCell ⟨w.heap.size + 1 + 1, 2, none⟩ (.int .i64 a2)).setCell ⟨w.heap.size + 1 + 1, 3, none⟩ (.int .i64 a3)).setCell ⟨w.heap.size + 1 + 1, 4, none⟩ (.int .i64 b1)).setCell ⟨w.heap.size + 1 + 1, 5, none⟩ (.int .i64 b2)).setCell ⟨w.heap.size + 1 + 1, 6, none⟩ (.int .i64 b3)).setCell ⟨w.heap.size + 1 + 1, 7, none⟩ (.int .i64 c1)).setCell ⟨w.heap.size + 1 + 1, 8, none⟩ (.int .i64 c2)).setCell ⟨w.heap.size + 1 + 1, 9, none⟩ (.int .i64 c3)).setCell ⟨w.heap.size + 1 + 1, 10, none⟩ (.int .i64 d1)).setCell ⟨w.heap.size + 1 + 1, 11, none⟩ (.int .i64 d2)).setCell ⟨w.heap.size + 1 + 1, 12, none⟩ (.int .i64 d3)).setCell ⟨w.heap.size + 1 + 1, 13, none⟩ (.int .u32 n) = W1 at *
 have bb3 := hS2.boxes.1
 have bb2 := hS2.boxes.2.1
 have hE := hS2.ex
 have h1 := Ql S a1 a2 a3 b1 b2 b3 c1 c2 c3 d1 d2 d3 n
 go_wp2_with (first | (refine wpList_load_row rfl _ _ rfl _ rfl _ _ (0, 0) _ bb3 Tryz.underlying37 rfl (Uy rfl) ?_) | (refine wpList_store_row rfl _ _ _ rfl _ _ rfl rfl _ _ bb2 (Uy rfl) rfl h1 ?_))
 exact Gq (results_cell_row Tryz.results13 _ _ _ _ _ (0, 0) _ rfl (bb2.setRow _) Tryz.underlying37 rfl (Uy rfl)) rfl ⟨rfl, hE.setRow (Nat.le_succ _) _⟩
theorem Mo (S : ByteArray) (a1 a2 a3 b1 b2 b3 c1 c2 c3 d1 d2 d3 n : Int) (w : World) : Calls Tryz.prog 18 #[.agg #[.string S, .int .i64 a1, .int .i64 a2, .int .i64 a3, .int .i64 b1, .int .i64 b2, .int .i64 b3, .int .i64 c1, .int .i64 c2, .int .i64 c3, .int .i64 d1, .int .i64 d2, .int .i64 d3, .int .u32 n], .agg #[.string S, .int .i64 a1, .int .i64 a2, .int .i64 a3, .int .i64 b1, .int .i64 b2, .int .i64 b3, .int .i64 c1, .int .i64 c2, .int .i64 c3, .int .i64 d1, .int .i64 d2, .int .i64 d3, .int .u32 n]] w (fun e w' => e = .returned (.bool true) ∧ Ex w w') := by
 have ks := fun w => eqStokes_same a1 a2 a3 b1 b2 b3 c1 c2 c3 d1 d2 d3 w
 have KS := Gv ks
 clear ks
 have hb : (S.toList == S.toList) = true := beq_self_eq_true _
 have hS := Zw.refl w
 have hC := True.intro
 go_enter Tryz.func18, Tryz.ntmps18
 go_wp2_with (go_at_call 36; (with_reducible refine (KS.out _).mono ?_); rintro e wn ⟨rfl, hx⟩; replace hS := Zw.after (W := w) hx; clear hx; replace hC := hS.reads; simp only [Zz, Zy, Gu] at hC)
 refine Gq (v := .bool true) ?_ rfl ⟨rfl, ?_⟩
 ·simp [results, Tryz.results18, go_sem]
 ·repeat' (with_reducible first | exact hS.ex | exact Ex.refl _ | assumption | apply Ex.alloc | apply Ex.drewN | apply Ex.drew | refine Ex.setCell ?_ (by simp <;> omega) _)
def szr (left : Int) (S : ByteArray) : Int := if left - S.size < 0 then -1 else left - S.size
theorem Se (S : ByteArray) (a1 a2 a3 b1 b2 b3 c1 c2 c3 d1 d2 d3 n left : Int) (h0 : 0 ≤ left) (h1 : left ≤ 1048576) (hs : S.size ≤ 9223372036854775807) (w : World) : Calls Tryz.prog 11 #[.agg #[.string S, .int .i64 a1, .int .i64 a2, .int .i64 a3, .int .i64 b1, .int .i64 b2, .int .i64 b3, .int .i64 c1, .int .i64 c2, .int .i64 c3, .int .i64 d1, .int .i64 d2, .int .i64 d3, .int .u32 n], .int .i64 left] w (fun e w' => e = .returned (.int .i64 (szr left S)) ∧ Ex w w') := by
 unfold szr
 have hw := Gp (left - (S.size : Int)) (by omega)
 have hS := Zw.refl w
 by_cases hm : left - (S.size : Int) < 0
 ·rw [if_pos hm]
  go_enter Tryz.func11, Tryz.ntmps11
  go_wp2
  refine Gq (v := .int .i64 (-1)) ?_ rfl ⟨rfl, ?_⟩
  ·simp [results, Tryz.results11, go_sem]
  ·repeat' (with_reducible first | exact hS.ex | exact Ex.refl _ | assumption | apply Ex.alloc | apply Ex.drewN | apply Ex.drew | refine Ex.setCell ?_ (by simp <;> omega) _)
 ·rw [if_neg hm]
  go_enter Tryz.func11, Tryz.ntmps11
  go_wp2
  refine Gq (v := .int .i64 (left - (S.size : Int))) ?_ rfl ⟨rfl, ?_⟩
  ·simp [results, Tryz.results11, go_sem]
  ·repeat' (with_reducible first | exact hS.ex | exact Ex.refl _ | assumption | apply Ex.alloc | apply Ex.drewN | apply Ex.drew | refine Ex.setCell ?_ (by simp <;> omega) _)
theorem recv_form (l : List UInt8) (v : M4) (r : Int × Bool) : ∃ (S : ByteArray) (u : M4) (h : Int), Hk l v r = .tuple #[Ws S u h, .bool r.2] := by
 obtain ⟨h, ok⟩ := r
 cases ok with
 | false => exact ⟨_, _, _, rfl⟩
 | true => exact ⟨_, _, _, rfl⟩
end
end Go.Proofs.YtmmjkchjgeklnaaGreatDoor
