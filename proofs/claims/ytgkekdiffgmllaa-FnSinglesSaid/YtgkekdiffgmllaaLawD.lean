/-
  Walks: the helpers of the drawn laws on singles.
-/
import Derived.Test.YtgkekdiffgmllaaLawC
import Derived.Test.YtgkekdiffgmllaaDrawS
namespace Go.Proofs.Ytgkekdiffgmllaa
open Go.RowKit
open Ieee

theorem order_word_self (f : Format) (s : Bool) (r : Nat) (h : r ≤ f.infRung) : f.order (f.word s r) (f.word s r) = some .eq := by
  unfold Format.order
  rcases read_le f s r h with ⟨m, e, h1⟩ | h1
  · rw [h1]; simp [Datum.order]
  · rw [h1]; simp [Datum.order]
theorem one_over' {x : Nat} {k : Int} (h : NumLe double x k) : ∃ r, floatBits .quo .f64 4607182418800017408 x = some r ∧ FloatKind.f64.format.order r r = some .eq := by
  obtain ⟨s, m, e, hr, -⟩ := h
  have h1 : double.read 4607182418800017408 = .number false 4503599627370496 (-52) := by decide +kernel
  show ∃ r, double.div 4607182418800017408 x = some r ∧ double.order r r = some .eq
  unfold Format.div
  rw [hr, h1]
  simp only [Datum.quotient]
  by_cases hm : m = 0
  · rw [if_pos hm, if_neg (by decide)]
    exact ⟨_, rfl, order_word_self double _ _ (Nat.le_refl _)⟩
  · rw [if_neg hm]
    obtain ⟨r, h2, h3⟩ := write_number double (false ^^ s) (2 * (4503599627370496 <<< (double.fractionBits + 2 + m.log2 - Nat.log2 4503599627370496) / m) + (4503599627370496 <<< (double.fractionBits + 2 + m.log2 - Nat.log2 4503599627370496) % m != 0).toNat) (-52 - e - ((double.fractionBits + 2 + m.log2 - Nat.log2 4503599627370496 : Nat) : Int) - 1)
    refine ⟨_, rfl, ?_⟩
    rw [h2]
    exact order_word_self double _ _ h3
theorem zeroAlike_self (x : Nat) (k : Int) (h : NumLe double x k) (w : World) : Calls Try.prog 56 #[.float .f64 x, .float .f64 x] w fun e w' => e = .returned (.bool true) ∧ w' = w := by
  have hs : FloatKind.f64.format.order x x = some .eq := order_self h
  obtain ⟨r, hr, hr2⟩ := one_over' h
  have ho : ∀ t w, (binOp .quo t (.float .f64 4607182418800017408) (.float .f64 x)).run Try.prog w = .ok (.float .f64 r) w := fun t w => run_float_arith w .quo t .f64 _ _ _ hr
  clear h hr
  go_enter Try.func56, Try.ntmps56
  go_wp2_with (simp only [ho])
  all_goals
    go_ret
    exact ⟨ret_bool (by simp [hr2]), rfl⟩
theorem wideAlike_self (x y : Nat) (k : Int) (h1 : NumLe double x k) (h2 : NumLe double y k) (w : World) : Calls Try.prog 17 #[.complex .f64 x y, .complex .f64 x y] w fun e w' => e = .returned (.bool true) ∧ w' = w := by
  go_enter Try.func17, Try.ntmps17
  go_wp2_with fail
  refine (zeroAlike_self x k h1 _).mono ?_
  rintro e w1 ⟨rfl, rfl⟩
  go_wp2_with fail
  refine (zeroAlike_self y k h2 _).mono ?_
  rintro e w1 ⟨rfl, rfl⟩
  go_wp2
  go_ret
  exact ⟨rfl, rfl⟩
theorem singleAlike_self (p q : Nat) (h1 : Sgl p) (h2 : Sgl q) (w : World) : Calls Try.prog 31 #[.complex .f32 p q, .complex .f32 p q] w fun e w' => e = .returned (.bool true) ∧ w' = w := by
  have o := conv_wide h1 h2
  have kt := fun w => wideAlike_self _ _ 34 (widen_at h1).2 (widen_at h2).2 w
  generalize widen p = p' at o kt
  generalize widen q = q' at o kt
  have KT := Lib.hid kt
  clear kt h1 h2
  go_enter Try.func31, Try.ntmps31
  go_wp2_with (simp only [o])
  refine (KT.out _).mono ?_
  rintro e w1 ⟨rfl, rfl⟩
  go_wp2
  go_ret
  exact ⟨rfl, rfl⟩
set_option maxHeartbeats 400000 in
theorem sameSingles_same (A B : Option Addr) (cs : List (Nat × Nat)) (ca cb : Nat) (w : World) (hA : Sgls w A cs) (hB : Sgls w B cs) (hl : cs.length ≤ 1048576) (hs : ∀ k, k < cs.length → Sgl (cs.getD k (0, 0)).1 ∧ Sgl (cs.getD k (0, 0)).2) :
    Calls Try.prog 29 #[.slice A cs.length ca, .slice B cs.length cb] w fun e w' => e = .returned (.bool true) ∧ Ex w w' := by
  have HS := Lib.hid hs
  clear hs
  go_enter Try.func29, Try.ntmps29
  go_wp2
  go_loopw [5] (fun i wr => ∃ (k : Nat), k ≤ cs.length ∧ i = .int .i64 k ∧ Ex w wr) (fun i _ => cs.length - (intOf i).toNat)
  case atStart => exact ⟨0, by omega, rfl, Ex.refl _⟩
  case round =>
    obtain ⟨k, hk, rfl, hb⟩ := hrel
    by_cases hlt : k < cs.length
    · obtain ⟨b, off, rfl, hc⟩ := (hA.ex hb).at (by omega)
      obtain ⟨b2, off2, rfl, hc2⟩ := (hB.ex hb).at (by omega)
      have c1 := hc k hlt
      have d1 := hc2 k hlt
      obtain ⟨s1, s2⟩ := HS.out k hlt
      have kt := fun w => singleAlike_self _ _ s1 s2 w
      generalize (cs.getD k (0, 0)).1 = p at c1 d1 kt
      generalize (cs.getD k (0, 0)).2 = q at c1 d1 kt
      have KT := Lib.hid kt
      clear hc hc2 kt s1 s2
      go_wp2
      go_quiet ((go_at_call 31; exact Calls.quiet_of_same (KT.out _)))
      go_wp2
      go_roundw
      case rel => exact ⟨k + 1, by omega, by go_num, by repeat' (with_reducible first | exact Ex.refl _ | assumption | refine Ex.alloc ?_ _ | refine Ex.drewN ?_ _ | refine Ex.drew ?_ | refine Ex.setCell ?_ (by simp <;> omega) _)⟩
      case measure => simp [intOf]; omega
    · go_wp2
      go_ret
      exact ⟨rfl, hb⟩
/-- What a drawn grid is. -/
def GridR (w : World) : Ending → World → Prop := fun e w' =>
  ∃ (B : Option Addr) (cb : Nat) (ys : List Fr), e = .returned (.slice B ys.length cb) ∧ ys.length ≤ 6 ∧ OwnF w' w.heap.size B cb ys ∧ Ex w w'
theorem drawGridSingles (A : Option Addr) (xs : List Int) (cap : Nat) (w : World) (hB : Byts w A xs) (hl : xs.length ≤ 9223372036854775807) (hcap : xs.length ≤ cap) (hcap2 : cap ≤ 9223372036854775807) :
    Calls Try.prog 26 #[.slice A xs.length cap] w (GridR w) := by
  go_enter Try.func26, Try.ntmps26
  go_wp2_with fail
  refine (l6Open_any A xs cap _ hB hl hcap hcap2).mono ?_
  rintro e w2 ⟨bs, cap', rfl, hBb, hbl, hbR, hx, -⟩
  have hRd : Rdr w2 w.heap.size A bs.length cap' 0 := hbR
  clear hB hbR
  go_wp2_with fail
  refine (l92Grid_any (W := w) hBb hbl w.heap.size cap' 0 w2 (Ex.refl _) hx (Nat.le_refl _) hRd (by omega)).mono ?_
  rintro e w3 ⟨B, cb, ys, a', rfl, hyl, hO, haa, hE3, hR3, hs3⟩
  have hs2 := hx.size
  clear hRd hx
  go_wp2
  go_ret
  exact ⟨B, cb, ys, rfl, hyl, hO.wide hs2, hE3⟩
end Go.Proofs.Ytgkekdiffgmllaa
