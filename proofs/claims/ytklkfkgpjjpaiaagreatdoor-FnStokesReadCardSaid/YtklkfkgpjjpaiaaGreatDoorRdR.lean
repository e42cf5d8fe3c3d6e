/-
  Walks: the library's IndexRune at the two signs.
-/
import Derived.Test.YtklkfkgpjjpaiaaGreatDoorRdC
import Derived.LoopN
import Derived.WalkMore
set_option linter.unusedSimpArgs false
set_option linter.unusedVariables false
namespace Go.Proofs.YtklkfkgpjjpaiaaGreatDoor
open Go.RowKit

def IrAt (r n : Int) : Prop := -1 ≤ n ∧ n ≤ 1 ∧ (r < 128 → (0 ≤ n ↔ r = 43 ∨ r = 45))
theorem indexByte_signs (c : UInt8) : Lib.indexByte [43, 45] c = if c = 43 then 0 else if c = 45 then 1 else -1 := by
  unfold Lib.indexByte Lib.indexByte Lib.indexByte
  by_cases h1 : c = 43
  · subst h1; rfl
  · by_cases h2 : c = 45
    · subst h2; rfl
    · have e1 : ((43 : UInt8) == c) = false := by simpa using fun e => h1 e.symm
      have e2 : ((45 : UInt8) == c) = false := by simpa using fun e => h2 e.symm
      rw [e1, e2, if_neg h1, if_neg h2]
      rfl
theorem ir_ascii (r : Int) (h0 : 0 ≤ r) (h1 : r < 128) (w : World) : Calls Tryz.prog 62 #[.string ⟨#[43, 45]⟩, .int .i32 r] w fun e w' => ∃ n, e = .returned (.int .i64 n) ∧ Ex w w' ∧ IrAt r n := by
  refine (Tryz.strings_IndexRune_ascii ⟨#[43, 45]⟩ r w h0 h1).mono ?_
  rintro e w' ⟨rfl, rfl⟩
  refine ⟨_, rfl, Ex.refl _, ?_⟩
  have e : Lib.indexByte (ByteArray.mk #[43, 45]).data.toList r.toNat.toUInt8 = Lib.indexByte [43, 45] r.toNat.toUInt8 := rfl
  rw [e, indexByte_signs]
  have hn : (r.toNat.toUInt8).toNat = r.toNat := by
    have : (r.toNat.toUInt8).toNat = r.toNat % 256 := UInt8.toNat_ofNat'
    omega
  by_cases h2 : r = 43
  · subst h2
    exact ⟨by decide, by decide, fun _ => by decide⟩
  · by_cases h3 : r = 45
    · subst h3
      exact ⟨by decide, by decide, fun _ => by decide⟩
    · have n1 : ¬ r.toNat.toUInt8 = 43 := fun e => by rw [e] at hn; have : (43 : UInt8).toNat = 43 := rfl; omega
      have n2 : ¬ r.toNat.toUInt8 = 45 := fun e => by rw [e] at hn; have : (45 : UInt8).toNat = 45 := rfl; omega
      rw [if_neg n1, if_neg n2]
      exact ⟨by omega, by omega, fun _ => by omega⟩
set_option maxRecDepth 20000 in
set_option maxHeartbeats 1000000 in
theorem ir_invalid (r : Int) (h1 : 128 ≤ r) (h2 : r ≠ 65533) (hv : Lib.validRune r = false) (w : World) : Calls Tryz.prog 62 #[.string ⟨#[43, 45]⟩, .int .i32 r] w fun e w' => ∃ n, e = .returned (.int .i64 n) ∧ Ex w w' ∧ IrAt r n := by
  have k := fun w => Tryz.utf8_ValidRune r w
  rw [hv] at k
  have K := Lib.hid k
  have h3 : ¬ r < 128 := by omega
  have h4 : (0 : Int) ≤ r := by omega
  clear k hv
  go_enter Tryz.func62, Tryz.ntmps62
  go_wp2_with fail
  refine (K.out _).mono ?_
  rintro e w1 ⟨rfl, rfl⟩
  go_wp2
  go_ret
  exact ⟨_, rfl, Ex.refl _, by omega, by omega, fun h => by omega⟩
theorem below_iter2 (w : World) (s : ByteArray) (p : Nat) : Ex w (w.iter s p) := (Ex.refl w).alloc _
set_option maxRecDepth 20000 in
set_option maxHeartbeats 1000000 in
theorem ir_error (w : World) : Calls Tryz.prog 62 #[.string ⟨#[43, 45]⟩, .int .i32 65533] w fun e w' => ∃ n, e = .returned (.int .i64 n) ∧ Ex w w' ∧ IrAt 65533 n := by
  go_enter Tryz.func62, Tryz.ntmps62
  go_wp2
  have n0 : ∀ ty, (Instr.next (.pointer (some ⟨w.heap.size, 0, none⟩)) true ty).run Tryz.prog (w.iter ⟨#[43, 45]⟩ 0) = _ := fun ty => run_next_ascii w ⟨#[43, 45]⟩ 0 ty (by decide) (by decide)
  have n1 : ∀ ty, (Instr.next (.pointer (some ⟨w.heap.size, 0, none⟩)) true ty).run Tryz.prog (w.iter ⟨#[43, 45]⟩ 1) = _ := fun ty => run_next_ascii w ⟨#[43, 45]⟩ 1 ty (by decide) (by decide)
  have n2 : ∀ ty, (Instr.next (.pointer (some ⟨w.heap.size, 0, none⟩)) true ty).run Tryz.prog (w.iter ⟨#[43, 45]⟩ 2) = _ := fun ty => run_next_end w ⟨#[43, 45]⟩ 2 ty (by decide)
  refine wp_loop_rounds 4 ?_
  rw [rounds_succ]
  go_wp2
  rw [rounds_succ]
  go_wp2
  rw [rounds_succ]
  go_wp2
  go_ret
  exact ⟨_, rfl, below_iter2 w ⟨#[43, 45]⟩ 2, by omega, by omega, fun h => by omega⟩
theorem valid_of {r : Int} (h : Lib.validRune r = true) (h1 : 128 ≤ r) : Utf8.valid r = true := by
  unfold Lib.validRune at h
  unfold Utf8.valid
  simp at h ⊢
  omega
set_option maxRecDepth 20000 in
set_option maxHeartbeats 1000000 in
theorem ir_valid (r : Int) (h1 : 128 ≤ r) (h2 : r ≠ 65533) (hv : Lib.validRune r = true) (w : World) : Calls Tryz.prog 62 #[.string ⟨#[43, 45]⟩, .int .i32 r] w fun e w' => ∃ n, e = .returned (.int .i64 n) ∧ Ex w w' ∧ IrAt r n := by
  have k := fun w => Tryz.utf8_ValidRune r w
  rw [hv] at k
  have K := Lib.hid k
  have h3 : ¬ r < 128 := by omega
  have h4 : (0 : Int) ≤ r := by omega
  obtain ⟨f1, f2, f3⟩ := encode_facts r (valid_of hv h1) h1
  clear k hv
  go_enter Tryz.func62, Tryz.ntmps62
  go_wp2_with fail
  refine (K.out _).mono ?_
  rintro e w1 ⟨rfl, rfl⟩
  obtain ⟨E, henc⟩ : ∃ E, Utf8.encode r = E := ⟨_, rfl⟩
  rw [henc] at f1 f2
  have f3 : ∀ h : E.size - 1 < E.size, 128 ≤ (E[E.size - 1]'h).toNat := by subst henc; exact f3
  by_cases h5 : E.size = 2
  · have hs : 1 < E.size := by omega
    have f4 := f3 (by omega)
    have hz : (E.size : Int) = 2 := by omega
    obtain ⟨b, hb⟩ : ∃ b, E[1]'hs = b := ⟨_, rfl⟩
    have hb1 : 128 ≤ b.toNat := by
      rw [← hb]
      simpa [h5] using f4
    have hne : ¬ (45 : Int) = (b.toNat : Int) := by omega
    have hne2 : ((45 : Int) == (b.toNat : Int)) = false := by simpa using hne
    have hne3 : ((45 : Int) != (b.toNat : Int)) = true := by simpa using hne
    have h45 : (ByteArray.mk #[43, 45])[1]'(by decide) = 45 := rfl
    have h45n : ((ByteArray.mk #[43, 45])[1]'(by decide)).toNat = 45 := rfl
    have KI : Hid (∀ w, Calls Tryz.prog 82 #[.string ByteArray.empty, .int .u8 (b.toNat : Int)] w fun e w' => e = .returned (.int .i64 (-1)) ∧ w' = w) := Lib.hid fun w => Tryz.strings_IndexByte ⟨#[]⟩ (b.toNat : Int) w
    have hw2 : IntKind.i64.wrap 2 = 2 := IntWalk.i64_in _ (by omega)
    clear f3 f4 f2 f1
    go_wp2_with fail
    go_step3
    go_wp2_with fail
    refine wp_loop_rounds 3 ?_
    rw [rounds_succ]
    go_wp2
    go_step3
    go_wp2
    go_quiet (fail)
    go_wp2
    have hE2 : Ex w1 (w1.drewN nq) := (Ex.refl _).drewN nq
    generalize w1.drewN nq = w2 at hE2 ⊢
    go_quiet ((go_at_call 82; exact Calls.quiet_of_same (KI.out _)))
    go_wp2
    repeat (first | rw [Exit.noGoto_ret] | (simp only [Exit.inBlock, Exit.then]))
    go_ret
    exact ⟨_, rfl, hE2.drewN _, by omega, by omega, fun h => by omega⟩
  · have h6 : 3 ≤ E.size := by omega
    have hz1 : ¬ (E.size : Int) - 1 < 2 := by omega
    clear f3
    go_wp2
    go_step3
    go_wp2
    refine wp_loop_rounds 3 ?_
    rw [rounds_succ]
    go_wp2
    rw [Exit.noGoto_ret]
    go_ret
    exact ⟨_, rfl, Ex.refl _, by omega, by omega, fun h => by omega⟩
theorem ir_any (r : Int) (h0 : 0 ≤ r) (w : World) : Calls Tryz.prog 62 #[.string ⟨#[43, 45]⟩, .int .i32 r] w fun e w' => ∃ n, e = .returned (.int .i64 n) ∧ Ex w w' ∧ IrAt r n := by
  by_cases h1 : r < 128
  · exact ir_ascii r h0 h1 w
  · by_cases h2 : r = 65533
    · subst h2; exact ir_error w
    · cases hv : Lib.validRune r with
      | false => exact ir_invalid r (by omega) h2 hv w
      | true => exact ir_valid r (by omega) h2 hv w
end Go.Proofs.YtklkfkgpjjpaiaaGreatDoor
