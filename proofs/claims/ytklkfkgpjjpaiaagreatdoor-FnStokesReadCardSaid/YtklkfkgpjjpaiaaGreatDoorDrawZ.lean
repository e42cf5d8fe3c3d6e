/-
  Walks: the draws of four numbers and of their texts.
-/
import Derived.Test.YtklkfkgpjjpaiaaGreatDoorDrawJ
import Derived.Test.YtklkfkgpjjpaiaaGreatDoorDrawW
import Derived.Test.YtklkfkgpjjpaiaaGreatDoorStkT
set_option linter.unusedSimpArgs false
set_option linter.unusedVariables false
namespace Go.Proofs.YtklkfkgpjjpaiaaGreatDoor
open Go.RowKit

set_option maxRecDepth 10000 in
set_option maxHeartbeats 2000000 in
theorem drawStokesText (A : Option Addr) (xs : List Int) (cap : Nat) (w : World) (hB : Byts w A xs) (hl : xs.length ≤ 9223372036854775807) (hcap : xs.length ≤ cap) (hcap2 : cap ≤ 9223372036854775807) :
    Calls Tryz.prog 5 #[.slice A xs.length cap] w fun e w' => ∃ a b c d : Fr, e = .returned (Sv a b c d) ∧ Ex w w' := by
  have ko := fun w hB => l6Open_any A xs cap w hB hl hcap hcap2
  have KO := Lib.hid ko
  clear ko
  go_enter Tryz.func5, Tryz.ntmps5
  go_wp2_with fail
  refine (KO.out _ (hB.alloc _)).mono ?_
  rintro e w1 ⟨bs, cap', rfl, hBs, hbl, hbR, hx, -⟩
  rw [alloc_size1] at hbR ⊢
  have bR := (Box.new w #[.int .i64 0, .int .i64 0, .int .i64 0, .int .i64 0, .int .i64 0, .int .i64 0, .int .i64 0, .int .i64 0, .int .i64 0, .int .i64 0, .int .i64 0, .int .i64 0] 27).ex hx
  have hE := ((Ex.refl w).alloc (.cells #[.int .i64 0, .int .i64 0, .int .i64 0, .int .i64 0, .int .i64 0, .int .i64 0, .int .i64 0, .int .i64 0, .int .i64 0, .int .i64 0, .int .i64 0, .int .i64 0] 27)).trans hx
  go_wp2_with fail
  refine (l91Stokes_any hBs hbl (w.heap.size + 1) cap' 0 w1 hx (by rw [alloc_size1]; omega) hbR (by omega)).mono ?_
  rintro e w2 ⟨a, b, c, d, a', rfl, -, hd, -⟩
  simp only [Sv]
  replace bR := hd.box _ _ _ (by omega) bR
  replace hE := hd.ex w hE (by omega)
  have cR := bR.cell
  have zR := bR.lt
  have fR := bR.frozen
  clear hd hBs hbR hx KO hB
  go_wp2
  clear cR zR fR
  replace hE := ex3 (ex3 (ex3 (ex3 (hE) (b := w.heap.size) (by omega) 0 1 2 (.int .i64 a.re) (.int .i64 a.im) (.int .i64 a.den)) (b := w.heap.size) (by omega) 3 4 5 (.int .i64 b.re) (.int .i64 b.im) (.int .i64 b.den)) (b := w.heap.size) (by omega) 6 7 8 (.int .i64 c.re) (.int .i64 c.im) (.int .i64 c.den)) (b := w.heap.size) (by omega) 9 10 11 (.int .i64 d.re) (.int .i64 d.im) (.int .i64 d.den)
  replace bR := put4_3 a.re a.im a.den b.re b.im b.den c.re c.im c.den d.re d.im d.den (put4_2 a.re a.im a.den b.re b.im b.den c.re c.im c.den d.re d.im d.den (put4_1 a.re a.im a.den b.re b.im b.den c.re c.im c.den d.re d.im d.den (put4_0 a.re a.im a.den b.re b.im b.den c.re c.im c.den d.re d.im d.den (bR))))
  generalize ((((((((((((w2.setCell ⟨w.heap.size, 0, none⟩ (.int .i64 a.re)).setCell ⟨w.heap.size, 1, none⟩ (.int .i64 a.im)).setCell ⟨w.heap.size, 2, none⟩ (.int .i64 a.den)).setCell ⟨w.heap.size, 3, none⟩ (.int .i64 b.re)).setCell ⟨w.heap.size, 4, none⟩ (.int .i64 b.im)).setCell ⟨w.heap.size, 5, none⟩ (.int .i64 b.den)).setCell ⟨w.heap.size, 6, none⟩ (.int .i64 c.re)).setCell ⟨w.heap.size, 7, none⟩ (.int .i64 c.im)).setCell ⟨w.heap.size, 8, none⟩ (.int .i64 c.den)).setCell ⟨w.heap.size, 9, none⟩ (.int .i64 d.re)).setCell ⟨w.heap.size, 10, none⟩ (.int .i64 d.im)).setCell ⟨w.heap.size, 11, none⟩ (.int .i64 d.den)) = Y at bR hE ⊢
  have cR := bR.cell
  refine bodyPost_ret (v := .agg #[.int .i64 a.re, .int .i64 a.im, .int .i64 a.den, .int .i64 b.re, .int .i64 b.im, .int .i64 b.den, .int .i64 c.re, .int .i64 c.im, .int .i64 c.den, .int .i64 d.re, .int .i64 d.im, .int .i64 d.den]) ?_ rfl ⟨a, b, c, d, rfl, hE⟩
  simp [results, Tryz.results5, go_sem, cR]
theorem stext_size (a b c d : Fr) : (Bs (stext a b c d).1).size ≤ 300 := by
  unfold stext
  rcases hv : svalid a b c d with _ | _
  · simp [Bs_size]
  · obtain ⟨va, vb, vc, vd⟩ := svalid_out hv
    obtain ⟨-, -, -, -, l1⟩ := txt_facts va
    obtain ⟨-, -, -, -, l2⟩ := txt_facts vb
    obtain ⟨-, -, -, -, l3⟩ := txt_facts vc
    obtain ⟨-, -, -, -, l4⟩ := txt_facts vd
    simp only [if_true, Bs_size, jtxt_eq]
    simp
    omega
theorem shorts3 : Shorts #[.string ⟨#[32]⟩, .string ⟨#[43, 48, 43, 48, 105]⟩, .string ⟨#[120]⟩] 100 := by
  refine shorts_list (ss := [⟨#[32]⟩, ⟨#[43, 48, 43, 48, 105]⟩, ⟨#[120]⟩]) ?_
  intro s hs
  simp only [List.mem_cons, List.not_mem_nil, or_false] at hs
  rcases hs with rfl | rfl | rfl <;> decide
set_option maxRecDepth 10000 in
set_option maxHeartbeats 2000000 in
theorem drawStokesRead (A : Option Addr) (xs : List Int) (cap : Nat) (w : World) (hB : Byts w A xs) (hl : xs.length ≤ 9223372036854775807) (hcap : xs.length ≤ cap) (hcap2 : cap ≤ 9223372036854775807) :
    Calls Tryz.prog 9 #[.slice A xs.length cap] w fun e w' => ∃ s : ByteArray, e = .returned (.string s) ∧ s.size ≤ 1000 ∧ Ex w w' := by
  have ko := fun w hB => l6Open_any A xs cap w hB hl hcap hcap2
  have KO := Lib.hid ko
  clear ko
  go_enter Tryz.func9, Tryz.ntmps9
  go_wp2_with fail
  refine (KO.out _ hB).mono ?_
  rintro e w1 ⟨bs, cap', rfl, hBs, hbl, hbR, hx, -⟩
  go_wp2_with fail
  refine (l91Stokes_any hBs hbl w.heap.size cap' 0 w1 hx (Nat.le_refl _) hbR (by omega)).mono ?_
  rintro e w2 ⟨a, b, c, d, a', rfl, ha', hd, hbR2⟩
  have hE := hd.ex w hx (Nat.le_refl _)
  have ks := fun w => sStokesText a b c d w
  have hsz := stext_size a b c d
  clear hd hx hbR KO hB
  have ks2 : ∀ w, Calls Tryz.prog 7 #[.agg #[.int .i64 a.re, .int .i64 a.im, .int .i64 a.den, .int .i64 b.re, .int .i64 b.im, .int .i64 b.den, .int .i64 c.re, .int .i64 c.im, .int .i64 c.den, .int .i64 d.re, .int .i64 d.im, .int .i64 d.den]] w fun e w' => e = .returned (.tuple #[.string (Bs (stext a b c d).1), .bool (stext a b c d).2]) ∧ Ex w w' := ks
  generalize Bs (stext a b c d).1 = S at ks2 hsz
  generalize (stext a b c d).2 = ok at ks2
  have KS := Lib.hid ks2
  clear ks ks2
  simp only [Sv]
  go_wp2_with fail
  refine (KS.out _).mono ?_
  rintro e w3 ⟨rfl, hx⟩
  replace hE := hE.trans hx
  have hbR3 : Rdr w3 w.heap.size A bs.length cap' a' := Box.ex hbR2 hx
  clear hx hbR2
  have hlt := hbR3.lt
  rcases ok with _ | _
  · go_wp2_with fail
    refine (of_any hBs hbl w.heap.size cap' a' _ (hE.alloc _) (Nat.le_refl _) (Box.alloc hbR3 _) (by omega) w3.heap.size 3 100 _ 9 (Box.new w3 _ _) (by omega) rfl (by omega) (by omega) shorts3).mono ?_
    rintro e w4 ⟨s, rfl, hs, hd, -⟩
    have hE4 := hd.ex w (hE.alloc _) (Nat.le_refl _)
    have hz : ¬ 9223372036854775807 < S.size + s.size := by omega
    have hz2 : (S ++ s).size ≤ 1000 := by rw [ByteArray.size_append]; omega
    go_wp2
    go_ret
    exact ⟨_, rfl, hz2, hE4⟩
  · go_wp2_with fail
    refine (pick_dr hBs hbl w.heap.size cap' a' 6 w3 hE (Nat.le_refl _) hbR3 (by omega) (by omega) (by omega)).mono ?_
    rintro e w4 ⟨v, rfl, hv0, hv1, hd, hbR4⟩
    replace hE := hd.ex w hE (Nat.le_refl _)
    have hlt4 := hbR4.lt
    clear hd hbR3
    by_cases hv : 0 < v
    · go_wp2
      go_ret
      exact ⟨S, rfl, by omega, hE⟩
    · go_wp2_with fail
      refine (of_any hBs hbl w.heap.size cap' (a' + 1) _ (hE.alloc _) (Nat.le_refl _) (Box.alloc hbR4 _) (by omega) w4.heap.size 3 100 _ 9 (Box.new w4 _ _) (by omega) rfl (by omega) (by omega) shorts3).mono ?_
      rintro e w5 ⟨s, rfl, hs, hd, -⟩
      have hE5 := hd.ex w (hE.alloc _) (Nat.le_refl _)
      have hz : ¬ 9223372036854775807 < S.size + s.size := by omega
      have hz2 : (S ++ s).size ≤ 1000 := by rw [ByteArray.size_append]; omega
      go_wp2
      go_ret
      exact ⟨_, rfl, hz2, hE5⟩
end Go.Proofs.YtklkfkgpjjpaiaaGreatDoor

