/-
  Walks: which fractions are valid.
-/
import Derived.Test.YtklkfkgpjjpaiaaGreatDoorFrcB
set_option linter.unusedSimpArgs false
set_option linter.unusedVariables false
namespace Go.Proofs.YtklkfkgpjjpaiaaGreatDoor
open Go.RowKit

def fvalid (re im den : Int) : Bool := inB2 re (-2000000000) 2000000000 && inB2 im (-2000000000) 2000000000 && inB2 den 1 2000000000 && decide (gcd3 re im den = 1)
theorem inB2_out {n a b : Int} (h : inB2 n a b = true) : a ≤ n ∧ n ≤ b := by simpa [inB2] using h
theorem gcd_le (x y : Nat) (h1 : x ≤ 2000000000) (h2 : y ≤ 2000000000) : Nat.gcd x y ≤ 2000000000 := by
  rcases Nat.eq_zero_or_pos x with h | h
  · subst h; simpa using h2
  · exact Nat.le_trans (Nat.gcd_le_left y h) h1

set_option maxHeartbeats 1000000 in
theorem iFracValid (re im den : Int) (w : World) : Calls Tryz.prog 38 #[.agg #[.int .i64 re, .int .i64 im, .int .i64 den]] w fun e w' => e = .returned (.bool (fvalid re im den)) ∧ Ex w w' := by
  rcases h1 : inB2 re (-2000000000) 2000000000 with _ | _
  · have e : fvalid re im den = false := by simp [fvalid, h1]
    have k1 := fun w => within_q re (-2000000000) 2000000000 w
    simp only [h1] at k1
    have K1 := Lib.hid k1
    clear k1 h1
    go_enter Tryz.func38, Tryz.ntmps38
    go_wp2
    go_quiet ((go_at_call 70; exact Calls.quiet_of_same (K1.out _)))
    go_wp2
    go_ret
    exact ⟨ret_bool e.symm, ((Ex.refl _).alloc _).drewN _⟩
  rcases h2 : inB2 im (-2000000000) 2000000000 with _ | _
  · have e : fvalid re im den = false := by simp [fvalid, h2]
    have k1 := fun w => within_q re (-2000000000) 2000000000 w
    have k2 := fun w => within_q im (-2000000000) 2000000000 w
    simp only [h1] at k1
    simp only [h2] at k2
    have K1 := Lib.hid k1
    have K2 := Lib.hid k2
    clear k1 k2 h1 h2
    go_enter Tryz.func38, Tryz.ntmps38
    go_wp2
    go_quiet ((go_at_call 70; first | (with_reducible exact Calls.quiet_of_same (K1.out _)) | (with_reducible exact Calls.quiet_of_same (K2.out _))))
    go_wp2
    go_ret
    exact ⟨ret_bool e.symm, ((Ex.refl _).alloc _).drewN _⟩
  rcases h3 : inB2 den 1 2000000000 with _ | _
  · have e : fvalid re im den = false := by simp [fvalid, h3]
    have k1 := fun w => within_q re (-2000000000) 2000000000 w
    have k2 := fun w => within_q im (-2000000000) 2000000000 w
    have k3 := fun w => within_q den 1 2000000000 w
    simp only [h1] at k1
    simp only [h2] at k2
    simp only [h3] at k3
    have K1 := Lib.hid k1
    have K2 := Lib.hid k2
    have K3 := Lib.hid k3
    clear k1 k2 k3 h1 h2 h3
    go_enter Tryz.func38, Tryz.ntmps38
    go_wp2
    go_quiet ((go_at_call 70; first | (with_reducible exact Calls.quiet_of_same (K1.out _)) | (with_reducible exact Calls.quiet_of_same (K2.out _)) | (with_reducible exact Calls.quiet_of_same (K3.out _))))
    go_wp2
    go_ret
    exact ⟨ret_bool e.symm, ((Ex.refl _).alloc _).drewN _⟩
  · have i1 := inB2_out h1
    have i2 := inB2_out h2
    have i3 := inB2_out h3
    obtain ⟨dn, rfl⟩ := Int.eq_ofNat_of_zero_le (show 0 ≤ den by omega)
    have e : fvalid re im dn = decide (gcd3 re im dn = 1) := by simp [fvalid, h1, h2, h3]
    obtain ⟨a, ha, ha2⟩ : ∃ a : Nat, a = re.natAbs ∧ a ≤ 2000000000 := ⟨_, rfl, by omega⟩
    obtain ⟨b, hb, hb2⟩ : ∃ b : Nat, b = im.natAbs ∧ b ≤ 2000000000 := ⟨_, rfl, by omega⟩
    have s1 := fun w => size_q re w (by omega)
    have s2 := fun w => size_q im w (by omega)
    rw [← ha] at s1
    rw [← hb] at s2
    obtain ⟨g1, hg1, hg2⟩ : ∃ g : Nat, g = Nat.gcd a b ∧ g ≤ 2000000000 := ⟨_, rfl, gcd_le _ _ ha2 hb2⟩
    have d1 := fun w => divisor_any a b w (by omega) (by omega)
    rw [← hg1] at d1
    obtain ⟨g2, hg3⟩ : ∃ g : Nat, g = Nat.gcd g1 dn := ⟨_, rfl⟩
    have d2 := fun w => divisor_any g1 dn w (by omega) (by omega)
    rw [← hg3] at d2
    have e2 : gcd3 re im dn = (g2 : Int) := by
      unfold gcd3
      rw [← ha, ← hb, ← hg1, Int.natAbs_natCast, ← hg3]
    rw [e2] at e
    have E := Lib.hid e
    have k1 := fun w => within_q re (-2000000000) 2000000000 w
    have k2 := fun w => within_q im (-2000000000) 2000000000 w
    have k3 := fun w => within_q dn 1 2000000000 w
    simp only [h1] at k1
    simp only [h2] at k2
    simp only [h3] at k3
    have K1 := Lib.hid k1
    have K2 := Lib.hid k2
    have K3 := Lib.hid k3
    have S1 := Lib.hid s1
    have S2 := Lib.hid s2
    have D1 := Lib.hid d1
    have D2 := Lib.hid d2
    clear k1 k2 k3 h1 h2 h3 s1 s2 d1 d2 ha hb hg1 hg3 e e2
    go_enter Tryz.func38, Tryz.ntmps38
    go_wp2
    go_quiet ((first | (go_at_call 70; first | (with_reducible exact Calls.quiet_of_same (K1.out _)) | (with_reducible exact Calls.quiet_of_same (K2.out _)) | (with_reducible exact Calls.quiet_of_same (K3.out _))) | (go_at_call 72; first | (with_reducible exact Calls.quiet_of_same (S1.out _)) | (with_reducible exact Calls.quiet_of_same (S2.out _))) | (go_at_call 71; first | (with_reducible exact Calls.quiet_of (D1.out _)) | (with_reducible exact Calls.quiet_of (D2.out _)))))
    go_wp2
    go_ret
    exact ⟨ret_bool (by rw [E.out]; rfl), ((Ex.refl _).alloc _).drewN _⟩
set_option maxHeartbeats 1000000 in
theorem sFracValid (re im den : Int) (w : World) : Calls Tryz.prog 30 #[.agg #[.int .i64 re, .int .i64 im, .int .i64 den]] w fun e w' => e = .returned (.bool (fvalid re im den)) ∧ Ex w w' := by
  rcases h1 : inB2 re (-2000000000) 2000000000 with _ | _
  · have e : fvalid re im den = false := by simp [fvalid, h1]
    have k1 := fun w => l2In_q re w
    simp only [h1] at k1
    have K1 := Lib.hid k1
    clear k1 h1
    go_enter Tryz.func30, Tryz.ntmps30
    go_wp2
    go_quiet ((go_at_call 55; exact Calls.quiet_of_same (K1.out _)))
    go_wp2
    go_ret
    exact ⟨ret_bool e.symm, ((Ex.refl _).alloc _).drewN _⟩
  rcases h2 : inB2 im (-2000000000) 2000000000 with _ | _
  · have e : fvalid re im den = false := by simp [fvalid, h2]
    have k1 := fun w => l2In_q re w
    have k2 := fun w => l2In_q im w
    simp only [h1] at k1
    simp only [h2] at k2
    have K1 := Lib.hid k1
    have K2 := Lib.hid k2
    clear k1 k2 h1 h2
    go_enter Tryz.func30, Tryz.ntmps30
    go_wp2
    go_quiet ((go_at_call 55; first | (with_reducible exact Calls.quiet_of_same (K1.out _)) | (with_reducible exact Calls.quiet_of_same (K2.out _))))
    go_wp2
    go_ret
    exact ⟨ret_bool e.symm, ((Ex.refl _).alloc _).drewN _⟩
  rcases h3 : inB2 den 1 2000000000 with _ | _
  · have e : fvalid re im den = false := by simp [fvalid, h3]
    have k1 := fun w => l2In_q re w
    have k2 := fun w => l2In_q im w
    have k3 := fun w => l6In_q den 1 2000000000 w
    simp only [h1] at k1
    simp only [h2] at k2
    simp only [h3] at k3
    have K1 := Lib.hid k1
    have K2 := Lib.hid k2
    have K3 := Lib.hid k3
    clear k1 k2 k3 h1 h2 h3
    go_enter Tryz.func30, Tryz.ntmps30
    go_wp2
    go_quiet ((first | (go_at_call 55; first | (with_reducible exact Calls.quiet_of_same (K1.out _)) | (with_reducible exact Calls.quiet_of_same (K2.out _))) | (go_at_call 56; exact Calls.quiet_of_same (K3.out _))))
    go_wp2
    go_ret
    exact ⟨ret_bool e.symm, ((Ex.refl _).alloc _).drewN _⟩
  · have i1 := inB2_out h1
    have i2 := inB2_out h2
    have i3 := inB2_out h3
    obtain ⟨dn, rfl⟩ := Int.eq_ofNat_of_zero_le (show 0 ≤ den by omega)
    have e : fvalid re im dn = decide (gcd3 re im dn = 1) := by simp [fvalid, h1, h2, h3]
    obtain ⟨a, ha, ha2⟩ : ∃ a : Nat, a = re.natAbs ∧ a ≤ 2000000000 := ⟨_, rfl, by omega⟩
    obtain ⟨b, hb, hb2⟩ : ∃ b : Nat, b = im.natAbs ∧ b ≤ 2000000000 := ⟨_, rfl, by omega⟩
    obtain ⟨g1, hg1, hg2⟩ : ∃ g : Nat, g = Nat.gcd dn a ∧ g ≤ 2000000000 := ⟨_, rfl, gcd_le _ _ (by omega) ha2⟩
    have d1 := fun w => l2Gcd_any dn re w (by omega) (by omega)
    rw [Int.natAbs_natCast, ← ha, ← hg1] at d1
    obtain ⟨g2, hg3⟩ : ∃ g : Nat, g = Nat.gcd g1 b := ⟨_, rfl⟩
    have d2 := fun w => l2Gcd_any g1 im w (by omega) (by omega)
    rw [Int.natAbs_natCast, ← hb, ← hg3] at d2
    have e2 : gcd3 re im dn = (g2 : Int) := by
      unfold gcd3
      rw [← ha, ← hb, Int.natAbs_natCast, hg3, hg1, Nat.gcd_comm (Nat.gcd a b) dn, ← Nat.gcd_assoc]
    rw [e2] at e
    have E := Lib.hid e
    have k1 := fun w => l2In_q re w
    have k2 := fun w => l2In_q im w
    have k3 := fun w => l6In_q dn 1 2000000000 w
    simp only [h1] at k1
    simp only [h2] at k2
    simp only [h3] at k3
    have K1 := Lib.hid k1
    have K2 := Lib.hid k2
    have K3 := Lib.hid k3
    have D1 := Lib.hid d1
    have D2 := Lib.hid d2
    clear k1 k2 k3 h1 h2 h3 d1 d2 ha hb hg1 hg3 e e2
    go_enter Tryz.func30, Tryz.ntmps30
    go_wp2
    go_quiet ((first | (go_at_call 55; first | (with_reducible exact Calls.quiet_of_same (K1.out _)) | (with_reducible exact Calls.quiet_of_same (K2.out _))) | (go_at_call 56; exact Calls.quiet_of_same (K3.out _)) | (go_at_call 57; first | (with_reducible exact Calls.quiet_of (D1.out _)) | (with_reducible exact Calls.quiet_of (D2.out _)))))
    go_wp2
    go_ret
    exact ⟨ret_bool (by rw [E.out]; rfl), ((Ex.refl _).alloc _).drewN _⟩
end Go.Proofs.YtklkfkgpjjpaiaaGreatDoor
