/-
  Proved: what functions compute, part 5. No condition.
-/
import Derived.Test.YtmjggolkopbcnaaGreatDoorB01
import Derived.Test.YtmjggolkopbcnaaGreatDoorB04
set_option linter.unusedSimpArgs false
set_option linter.unusedVariables false
set_option maxRecDepth 20000
set_option maxHeartbeats 8000000
namespace Go.Proofs.YtmjggolkopbcnaaGreatDoor
section
open Go.RowKit

theorem Va (x0 y0 : Nat) (w : World) (hx : x0 ≤ 9223372036854775807) (hy : y0 ≤ 9223372036854775807) :
  Calls Tryz.prog 121 #[.int .i64 x0, .int .i64 y0] w fun e w' => e = .returned (.int .i64 (Nat.gcd x0 y0 : Nat)) ∧ ∃ d, w' = w.drewN d := by
 go_enter Tryz.func121, Tryz.ntmps121
 go_wp2
 go_loopw [0, 1] (fun a b wr => ∃ x y : Nat, a = .int .i64 x ∧ b = .int .i64 y ∧ Hid (Nat.gcd x y = Nat.gcd x0 y0) ∧ x ≤ 9223372036854775807 ∧ y ≤ 9223372036854775807 ∧ ∃ d, wr = w.drewN d) (fun _ b _ => (intOf b).toNat)
 case atStart => exact ⟨x0, y0, rfl, rfl, rfl, hx, hy, 0, rfl⟩
 case round =>
  obtain ⟨x, y, rfl, rfl, HG, hx', hy', d, rfl⟩ := hrel
  by_cases h0 : y = 0
  ·subst h0
   go_wp2
   go_ret
   have e := HG.out
   rw [Nat.gcd_zero_right] at e
   exact ⟨by rw [← e]; rfl, d, rfl⟩
  ·obtain ⟨z, hz⟩ : ∃ z : Nat, z = x % y := ⟨_, rfl⟩
   have ht : (x : Int).tmod y = (z : Int) := by rw [hz]; rfl
   have hlt : z < y := by rw [hz]; exact Nat.mod_lt _ (by omega)
   have HZ := Oi hz
   clear hz
   have h1 : ((y : Int) != 0) = true := by simp; omega
   go_wp2
   go_quiet (fail)
   go_wp2
   go_roundw
   case rel => exact ⟨y, z, rfl, rfl, show _ = _ by rw [HZ.out, gcd_loop, HG.out], hy', by omega, _, World.drewN_drewN _ _ _⟩
   case measure => simp [intOf]; omega

theorem Tf (a0 b0 : Int) (w : World) (ha : -9223372036854775807 ≤ a0 ∧ a0 ≤ 9223372036854775807) (hb : -9223372036854775807 ≤ b0 ∧ b0 ≤ 9223372036854775807) :
  Calls Tryz.prog 190 #[.int .i64 a0, .int .i64 b0] w fun e w' => e = .returned (.int .i64 (Nat.gcd a0.natAbs b0.natAbs : Nat)) ∧ ∃ d, w' = w.drewN d := by
 go_enter Tryz.func190, Tryz.ntmps190
 go_wp2
 go_loopw [0, 1] (fun a b wr => ∃ x y : Int, a = .int .i64 x ∧ b = .int .i64 y ∧ Hid (Nat.gcd x.natAbs y.natAbs = Nat.gcd a0.natAbs b0.natAbs) ∧ (-9223372036854775807 ≤ x ∧ x ≤ 9223372036854775807) ∧ (-9223372036854775807 ≤ y ∧ y ≤ 9223372036854775807) ∧ ∃ d, wr = w.drewN d) (fun _ b _ => (intOf b).natAbs)
 case atStart => exact ⟨a0, b0, rfl, rfl, rfl, ha, hb, 0, rfl⟩
 case round =>
  obtain ⟨x, y, rfl, rfl, HG, hx, hy, d, rfl⟩ := hrel
  rcases h0 : (y != 0) with _ | _
  ·have hy0 : y = 0 := by simpa using h0
   have e : max x (-x) = (Nat.gcd a0.natAbs b0.natAbs : Nat) := by
    rw [← HG.out, hy0]
    simp only [Int.natAbs_zero, Nat.gcd_zero_right]
    omega
   have E := Oi e
   have hw := Oc (-x) (by omega)
   clear e hy0
   go_wp2
   all_goals
    go_ret
    refine ⟨?_, d, rfl⟩
    exact ret_int (by rw [← E.out]; omega)
  ·have hy0 : y ≠ 0 := by simpa using h0
   obtain ⟨z, hz⟩ : ∃ z : Int, z = x.tmod y := ⟨_, rfl⟩
   have hlt : z.natAbs < y.natAbs := by rw [hz]; exact Pm x y hy0
   have hgz : Nat.gcd y.natAbs z.natAbs = Nat.gcd x.natAbs y.natAbs := by rw [hz]; exact Qi x y
   have HZ := Oi hgz
   have ht : x.tmod y = z := hz.symm
   clear hz hgz
   go_wp2
   go_roundw
   case rel => exact ⟨y, z, rfl, rfl, show _ = _ by rw [HZ.out, HG.out], hy, by omega, d, rfl⟩
   case measure => simp [intOf]; omega
end
section
open Go.RowKit

def Yo (n a b : Int) : Bool := decide (a ≤ n) && decide (n ≤ b)
theorem Yz (n a b : Int) (w : World) : Calls Tryz.prog 79 #[.int .i64 n, .int .i64 a, .int .i64 b] w fun e w' => e = .returned (.bool (Yo n a b)) ∧ w' = w := by
 go_enter Tryz.func79, Tryz.ntmps79
 go_wp2
 all_goals go_ret
 all_goals exact ⟨Yr (by simp [Yo] <;> omega), rfl⟩
theorem Xg (n a b : Int) (w : World) : Calls Tryz.prog 102 #[.int .i64 n, .int .i64 a, .int .i64 b] w fun e w' => e = .returned (.bool (Yo n a b)) ∧ w' = w := by
 go_enter Tryz.func102, Tryz.ntmps102
 go_wp2
 all_goals go_ret
 all_goals exact ⟨Yr (by simp [Yo] <;> omega), rfl⟩
theorem Sq (n : Int) (w : World) : Calls Tryz.prog 189 #[.int .i64 n] w fun e w' => e = .returned (.bool (Yo n (-2000000000) 2000000000)) ∧ w' = w := by
 go_enter Tryz.func189, Tryz.ntmps189
 go_wp2_with fail
 refine (Xg _ _ _ _).mono ?_
 rintro e w1 ⟨rfl, rfl⟩
 go_wp2
 go_ret
 exact ⟨rfl, rfl⟩
theorem size_q (n : Int) (w : World) (h : -9223372036854775807 ≤ n ∧ n ≤ 9223372036854775807) : Calls Tryz.prog 122 #[.int .i64 n] w fun e w' => e = .returned (.int .i64 (n.natAbs : Nat)) ∧ w' = w := by
 have hw := Oc (-n) (by omega)
 go_enter Tryz.func122, Tryz.ntmps122
 go_wp2
 all_goals
  go_ret
  exact ⟨ret_int (by omega), rfl⟩
end
section
open Go.RowKit

def Zk (re im den : Int) : Bool := Yo re (-2000000000) 2000000000 && Yo im (-2000000000) 2000000000 && Yo den 1 2000000000 && decide (Yf re im den = 1)
theorem Yq {n a b : Int} (h : Yo n a b = true) : a ≤ n ∧ n ≤ b := by simpa [Yo] using h
theorem gcd_le (x y : Nat) (h1 : x ≤ 2000000000) (h2 : y ≤ 2000000000) : Nat.gcd x y ≤ 2000000000 := by
 rcases Nat.eq_zero_or_pos x with h | h
 ·subst h; simpa using h2
 ·exact Nat.le_trans (Nat.gcd_le_left y h) h1

theorem Ya (re im den : Int) (w : World) : Calls Tryz.prog 60 #[.agg #[.int .i64 re, .int .i64 im, .int .i64 den]] w fun e w' => e = .returned (.bool (Zk re im den)) ∧ Ex w w' := by
 rcases h1 : Yo re (-2000000000) 2000000000 with _ | _
 ·have e : Zk re im den = false := by simp [Zk, h1]
  have k1 := fun w => Yz re (-2000000000) 2000000000 w
  simp only [h1] at k1
  have K1 := Oi k1
  clear k1 h1
  go_enter Tryz.func60, Tryz.ntmps60
  go_wp2
  go_quiet ((go_at_call 79; exact Calls.quiet_of_same (K1.out _)))
  go_wp2
  go_ret
  exact ⟨Yr e.symm, ((Ex.refl _).alloc _).drewN _⟩
 rcases h2 : Yo im (-2000000000) 2000000000 with _ | _
 ·have e : Zk re im den = false := by simp [Zk, h2]
  have k1 := fun w => Yz re (-2000000000) 2000000000 w
  have k2 := fun w => Yz im (-2000000000) 2000000000 w
  simp only [h1] at k1
  simp only [h2] at k2
  have K1 := Oi k1
  have K2 := Oi k2
  clear k1 k2 h1 h2
  go_enter Tryz.func60, Tryz.ntmps60
  go_wp2
  go_quiet ((go_at_call 79; first | (with_reducible exact Calls.quiet_of_same (K1.out _)) | (with_reducible exact Calls.quiet_of_same (K2.out _))))
  go_wp2
  go_ret
  exact ⟨Yr e.symm, ((Ex.refl _).alloc _).drewN _⟩
 rcases h3 : Yo den 1 2000000000 with _ | _
 ·have e : Zk re im den = false := by simp [Zk, h3]
  have k1 := fun w => Yz re (-2000000000) 2000000000 w
  have k2 := fun w => Yz im (-2000000000) 2000000000 w
  have k3 := fun w => Yz den 1 2000000000 w
  simp only [h1] at k1
  simp only [h2] at k2
  simp only [h3] at k3
  have K1 := Oi k1
  have K2 := Oi k2
  have K3 := Oi k3
  clear k1 k2 k3 h1 h2 h3
  go_enter Tryz.func60, Tryz.ntmps60
  go_wp2
  go_quiet ((go_at_call 79; first | (with_reducible exact Calls.quiet_of_same (K1.out _)) | (with_reducible exact Calls.quiet_of_same (K2.out _)) | (with_reducible exact Calls.quiet_of_same (K3.out _))))
  go_wp2
  go_ret
  exact ⟨Yr e.symm, ((Ex.refl _).alloc _).drewN _⟩
 ·have i1 := Yq h1
  have i2 := Yq h2
  have i3 := Yq h3
  obtain ⟨dn, rfl⟩ := Int.eq_ofNat_of_zero_le (show 0 ≤ den by omega)
  have e : Zk re im dn = decide (Yf re im dn = 1) := by simp [Zk, h1, h2, h3]
  obtain ⟨a, ha, ha2⟩ : ∃ a : Nat, a = re.natAbs ∧ a ≤ 2000000000 := ⟨_, rfl, by omega⟩
  obtain ⟨b, hb, hb2⟩ : ∃ b : Nat, b = im.natAbs ∧ b ≤ 2000000000 := ⟨_, rfl, by omega⟩
  have s1 := fun w => size_q re w (by omega)
  have s2 := fun w => size_q im w (by omega)
  rw [← ha] at s1
  rw [← hb] at s2
  obtain ⟨g1, hg1, hg2⟩ : ∃ g : Nat, g = Nat.gcd a b ∧ g ≤ 2000000000 := ⟨_, rfl, gcd_le _ _ ha2 hb2⟩
  have d1 := fun w => Va a b w (by omega) (by omega)
  rw [← hg1] at d1
  obtain ⟨g2, hg3⟩ : ∃ g : Nat, g = Nat.gcd g1 dn := ⟨_, rfl⟩
  have d2 := fun w => Va g1 dn w (by omega) (by omega)
  rw [← hg3] at d2
  have e2 : Yf re im dn = (g2 : Int) := by
   unfold Yf
   rw [← ha, ← hb, ← hg1, Int.natAbs_natCast, ← hg3]
  rw [e2] at e
  have E := Oi e
  have k1 := fun w => Yz re (-2000000000) 2000000000 w
  have k2 := fun w => Yz im (-2000000000) 2000000000 w
  have k3 := fun w => Yz dn 1 2000000000 w
  simp only [h1] at k1
  simp only [h2] at k2
  simp only [h3] at k3
  have K1 := Oi k1
  have K2 := Oi k2
  have K3 := Oi k3
  have S1 := Oi s1
  have S2 := Oi s2
  have D1 := Oi d1
  have D2 := Oi d2
  clear k1 k2 k3 h1 h2 h3 s1 s2 d1 d2 ha hb hg1 hg3 e e2
  go_enter Tryz.func60, Tryz.ntmps60
  go_wp2
  go_quiet ((first | (go_at_call 79; first | (with_reducible exact Calls.quiet_of_same (K1.out _)) | (with_reducible exact Calls.quiet_of_same (K2.out _)) | (with_reducible exact Calls.quiet_of_same (K3.out _))) | (go_at_call 122; first | (with_reducible exact Calls.quiet_of_same (S1.out _)) | (with_reducible exact Calls.quiet_of_same (S2.out _))) | (go_at_call 121; first | (with_reducible exact Calls.quiet_of (D1.out _)) | (with_reducible exact Calls.quiet_of (D2.out _)))))
  go_wp2
  go_ret
  exact ⟨Yr (by rw [E.out]; rfl), ((Ex.refl _).alloc _).drewN _⟩
theorem Xw (re im den : Int) (w : World) : Calls Tryz.prog 155 #[.agg #[.int .i64 re, .int .i64 im, .int .i64 den]] w fun e w' => e = .returned (.bool (Zk re im den)) ∧ Ex w w' := by
 rcases h1 : Yo re (-2000000000) 2000000000 with _ | _
 ·have e : Zk re im den = false := by simp [Zk, h1]
  have k1 := fun w => Sq re w
  simp only [h1] at k1
  have K1 := Oi k1
  clear k1 h1
  go_enter Tryz.func155, Tryz.ntmps155
  go_wp2
  go_quiet ((go_at_call 189; exact Calls.quiet_of_same (K1.out _)))
  go_wp2
  go_ret
  exact ⟨Yr e.symm, ((Ex.refl _).alloc _).drewN _⟩
 rcases h2 : Yo im (-2000000000) 2000000000 with _ | _
 ·have e : Zk re im den = false := by simp [Zk, h2]
  have k1 := fun w => Sq re w
  have k2 := fun w => Sq im w
  simp only [h1] at k1
  simp only [h2] at k2
  have K1 := Oi k1
  have K2 := Oi k2
  clear k1 k2 h1 h2
  go_enter Tryz.func155, Tryz.ntmps155
  go_wp2
  go_quiet ((go_at_call 189; first | (with_reducible exact Calls.quiet_of_same (K1.out _)) | (with_reducible exact Calls.quiet_of_same (K2.out _))))
  go_wp2
  go_ret
  exact ⟨Yr e.symm, ((Ex.refl _).alloc _).drewN _⟩
 rcases h3 : Yo den 1 2000000000 with _ | _
 ·have e : Zk re im den = false := by simp [Zk, h3]
  have k1 := fun w => Sq re w
  have k2 := fun w => Sq im w
  have k3 := fun w => Xg den 1 2000000000 w
  simp only [h1] at k1
  simp only [h2] at k2
  simp only [h3] at k3
  have K1 := Oi k1
  have K2 := Oi k2
  have K3 := Oi k3
  clear k1 k2 k3 h1 h2 h3
  go_enter Tryz.func155, Tryz.ntmps155
  go_wp2
  go_quiet ((first | (go_at_call 189; first | (with_reducible exact Calls.quiet_of_same (K1.out _)) | (with_reducible exact Calls.quiet_of_same (K2.out _))) | (go_at_call 102; exact Calls.quiet_of_same (K3.out _))))
  go_wp2
  go_ret
  exact ⟨Yr e.symm, ((Ex.refl _).alloc _).drewN _⟩
 ·have i1 := Yq h1
  have i2 := Yq h2
  have i3 := Yq h3
  obtain ⟨dn, rfl⟩ := Int.eq_ofNat_of_zero_le (show 0 ≤ den by omega)
  have e : Zk re im dn = decide (Yf re im dn = 1) := by simp [Zk, h1, h2, h3]
  obtain ⟨a, ha, ha2⟩ : ∃ a : Nat, a = re.natAbs ∧ a ≤ 2000000000 := ⟨_, rfl, by omega⟩
  obtain ⟨b, hb, hb2⟩ : ∃ b : Nat, b = im.natAbs ∧ b ≤ 2000000000 := ⟨_, rfl, by omega⟩
  obtain ⟨g1, hg1, hg2⟩ : ∃ g : Nat, g = Nat.gcd dn a ∧ g ≤ 2000000000 := ⟨_, rfl, gcd_le _ _ (by omega) ha2⟩
  have d1 := fun w => Tf dn re w (by omega) (by omega)
  rw [Int.natAbs_natCast, ← ha, ← hg1] at d1
  obtain ⟨g2, hg3⟩ : ∃ g : Nat, g = Nat.gcd g1 b := ⟨_, rfl⟩
  have d2 := fun w => Tf g1 im w (by omega) (by omega)
  rw [Int.natAbs_natCast, ← hb, ← hg3] at d2
  have e2 : Yf re im dn = (g2 : Int) := by
   unfold Yf
   rw [← ha, ← hb, Int.natAbs_natCast, hg3, hg1, Nat.gcd_comm (Nat.gcd a b) dn, ← Nat.gcd_assoc]
  rw [e2] at e
  have E := Oi e
  have k1 := fun w => Sq re w
  have k2 := fun w => Sq im w
  have k3 := fun w => Xg dn 1 2000000000 w
  simp only [h1] at k1
  simp only [h2] at k2
  simp only [h3] at k3
  have K1 := Oi k1
  have K2 := Oi k2
  have K3 := Oi k3
  have D1 := Oi d1
  have D2 := Oi d2
  clear k1 k2 k3 h1 h2 h3 d1 d2 ha hb hg1 hg3 e e2
  go_enter Tryz.func155, Tryz.ntmps155
  go_wp2
  go_quiet ((first | (go_at_call 189; first | (with_reducible exact Calls.quiet_of_same (K1.out _)) | (with_reducible exact Calls.quiet_of_same (K2.out _))) | (go_at_call 102; exact Calls.quiet_of_same (K3.out _)) | (go_at_call 190; first | (with_reducible exact Calls.quiet_of (D1.out _)) | (with_reducible exact Calls.quiet_of (D2.out _)))))
  go_wp2
  go_ret
  exact ⟨Yr (by rw [E.out]; rfl), ((Ex.refl _).alloc _).drewN _⟩
end
section
structure Fr where
 re : Int
 im : Int
 den : Int
 deriving DecidableEq
def Fr.v (x : Fr) : Value := .agg #[.int .i64 x.re, .int .i64 x.im, .int .i64 x.den]
def Fr.none : Fr := ⟨0, 0, 0⟩
def Fr.valid (x : Fr) : Bool := Zk x.re x.im x.den
def frv (r : Fr × Bool) : Value := .tuple #[r.1.v, .bool r.2]
def flow (re im den : Int) : Fr × Bool :=
 if Yo (re.tdiv (Yf re im den)) (-2000000000) 2000000000 && Yo (im.tdiv (Yf re im den)) (-2000000000) 2000000000 && decide (den.tdiv (Yf re im den) ≤ 2000000000) then
  (⟨re.tdiv (Yf re im den), im.tdiv (Yf re im den), den.tdiv (Yf re im den)⟩, true)
 else (Fr.none, false)

theorem flow_of {re im den g x y z : Int} (hg : Yf re im den = g) (hx : re.tdiv g = x) (hy : im.tdiv g = y) (hz : den.tdiv g = z) :
  flow re im den = if Yo x (-2000000000) 2000000000 && Yo y (-2000000000) 2000000000 && !decide (2000000000 < z) then (⟨x, y, z⟩, true) else (Fr.none, false) := by
 subst hg
 subst hx
 subst hy
 subst hz
 have : (!decide (2000000000 < den.tdiv (Yf re im den))) = decide (den.tdiv (Yf re im den) ≤ 2000000000) := by
  by_cases h : 2000000000 < den.tdiv (Yf re im den)
  ·have h2 : ¬ den.tdiv (Yf re im den) ≤ 2000000000 := by omega
   simp [h, h2]
  ·have h2 : den.tdiv (Yf re im den) ≤ 2000000000 := by omega
   simp [h, h2]
 rw [this]
 rfl
theorem Tt (re im den : Int) : Yf re im den = ((Nat.gcd (Nat.gcd re.natAbs im.natAbs) den.natAbs : Nat) : Int) := rfl
theorem Sc (re im den : Int) (h : 1 ≤ den) : 1 ≤ Yf re im den := by
 have : 0 < Nat.gcd (Nat.gcd re.natAbs im.natAbs) den.natAbs := Nat.gcd_pos_of_pos_right _ (by omega)
 rw [Tt]; omega
theorem gcd3_le (re im den : Int) (h : 1 ≤ den) : Yf re im den ≤ den := by
 have : Nat.gcd (Nat.gcd re.natAbs im.natAbs) den.natAbs ≤ den.natAbs := Nat.gcd_le_right _ (by omega)
 rw [Tt]; omega
theorem Vy (a g m : Int) (h1 : -m ≤ a) (h2 : a ≤ m) : -m ≤ a.tdiv g ∧ a.tdiv g ≤ m := by
 have h : (a.tdiv g).natAbs ≤ a.natAbs := by rw [Int.natAbs_tdiv]; exact Nat.div_le_self _ _
 omega
theorem Qh (re im den : Int) (h : 1 ≤ den) : Yf (re.tdiv (Yf re im den)) (im.tdiv (Yf re im den)) (den.tdiv (Yf re im den)) = 1 := by
 have h0 : 0 < Nat.gcd (Nat.gcd re.natAbs im.natAbs) den.natAbs := Nat.gcd_pos_of_pos_right _ (by omega)
 rw [Tt (re.tdiv _)]
 simp only [Int.natAbs_tdiv]
 rw [Tt, Int.natAbs_natCast]
 obtain ⟨g, hg⟩ : ∃ g, g = Nat.gcd (Nat.gcd re.natAbs im.natAbs) den.natAbs := ⟨_, rfl⟩
 rw [← hg] at h0 ⊢
 have d1 : g ∣ re.natAbs := by rw [hg]; exact Nat.dvd_trans (Nat.gcd_dvd_left _ _) (Nat.gcd_dvd_left _ _)
 have d2 : g ∣ im.natAbs := by rw [hg]; exact Nat.dvd_trans (Nat.gcd_dvd_left _ _) (Nat.gcd_dvd_right _ _)
 have d3 : g ∣ den.natAbs := by rw [hg]; exact Nat.gcd_dvd_right _ _
 show ((Nat.gcd (Nat.gcd (re.natAbs / g) (im.natAbs / g)) (den.natAbs / g) : Nat) : Int) = 1
 rw [Nat.gcd_div d1 d2, Nat.gcd_div (Nat.dvd_gcd d1 d2) d3, ← hg, Nat.div_self h0]
 rfl
theorem Sb (re im den : Int) (h : 1 ≤ den) : 1 ≤ den.tdiv (Yf re im den) := by
 have h1 := Sc re im den h
 have h2 := gcd3_le re im den h
 have : 1 ≤ den / Yf re im den := (Int.le_ediv_iff_mul_le (by omega)).2 (by omega)
 rw [Int.tdiv_eq_ediv_of_nonneg (by omega)]
 exact this
theorem Ts (re im den : Int) (h : 1 ≤ den) : Zk (re.tdiv (Yf re im den)) (im.tdiv (Yf re im den)) (den.tdiv (Yf re im den)) =
  (Yo (re.tdiv (Yf re im den)) (-2000000000) 2000000000 && Yo (im.tdiv (Yf re im den)) (-2000000000) 2000000000 && decide (den.tdiv (Yf re im den) ≤ 2000000000)) := by
 have h1 := Sb re im den h
 have h2 := Qh re im den h
 unfold Zk
 rw [h2]
 have h3 : Yo (den.tdiv (Yf re im den)) 1 2000000000 = decide (den.tdiv (Yf re im den) ≤ 2000000000) := by
  unfold Yo
  simp [h1]
 rw [h3]
 simp
theorem flow_of' {re im den g x y z : Int} (hg : Yf re im den = g) (hx : re.tdiv g = x) (hy : im.tdiv g = y) (hz : den.tdiv g = z)
  (h : Zk x y z = (Yo x (-2000000000) 2000000000 && Yo y (-2000000000) 2000000000 && decide (z ≤ 2000000000))) :
  flow re im den = if Zk x y z then (⟨x, y, z⟩, true) else (Fr.none, false) := by
 rw [h]
 subst hg
 subst hx
 subst hy
 subst hz
 rfl
theorem flow_ok {re im den : Int} (h : 1 ≤ den) (hk : (flow re im den).2 = true) : (flow re im den).1.valid = true := by
 unfold flow at hk ⊢
 rw [← Ts re im den h] at hk ⊢
 split
 ·rename_i hv; exact hv
 ·rename_i hv; rw [if_neg hv] at hk; cases hk
theorem Xx {re im den : Int} (h : Zk re im den = true) : (-2000000000 ≤ re ∧ re ≤ 2000000000) ∧ (-2000000000 ≤ im ∧ im ≤ 2000000000) ∧ (1 ≤ den ∧ den ≤ 2000000000) ∧ Yf re im den = 1 := by
 unfold Zk at h
 simp only [Bool.and_eq_true, decide_eq_true_eq] at h
 exact ⟨Yq h.1.1.1, Yq h.1.1.2, Yq h.1.2, h.2⟩
theorem Fr.valid_out {x : Fr} (h : x.valid = true) : (-2000000000 ≤ x.re ∧ x.re ≤ 2000000000) ∧ (-2000000000 ≤ x.im ∧ x.im ≤ 2000000000) ∧ (1 ≤ x.den ∧ x.den ≤ 2000000000) ∧ Yf x.re x.im x.den = 1 := Xx h

theorem Xf {a b : Int} (h1 : -2000000000 ≤ a ∧ a ≤ 2000000000) (h2 : -2000000000 ≤ b ∧ b ≤ 2000000000) : -4000000000000000000 ≤ a * b ∧ a * b ≤ 4000000000000000000 := by
 have h : (a * b).natAbs ≤ 2000000000 * 2000000000 := by
  rw [Int.natAbs_mul]
  exact Nat.mul_le_mul (by omega) (by omega)
 omega
theorem Pz {a b : Int} (h1 : 1 ≤ a ∧ a ≤ 2000000000) (h2 : 1 ≤ b ∧ b ≤ 2000000000) : 1 ≤ a * b ∧ a * b ≤ 4000000000000000000 := by
 have h3 := Xf (a := a) (b := b) (by omega) (by omega)
 have h4 : 1 * 1 ≤ a * b := Int.mul_le_mul h1.1 h2.1 (by omega) (by omega)
 omega
end
section
open Go.RowKit

def Yc (w : World) (r : Fr × Bool) : Ending → World → Prop := fun e w' => e = .returned (frv r) ∧ Ex w w'
theorem Yc.spell {P : Program} {f : Nat} {args : Array Value} {w : World} {a b c : Int} {ok : Bool} (h : Calls P f args w (Yc w (⟨a, b, c⟩, ok))) :
  Calls P f args w fun e w' => e = .returned (.tuple #[.agg #[.int .i64 a, .int .i64 b, .int .i64 c], .bool ok]) ∧ Ex w w' := h

theorem Vi (re im den : Int) (w : World) (h1 : -9223372036854775807 ≤ re ∧ re ≤ 9223372036854775807) (h2 : -9223372036854775807 ≤ im ∧ im ≤ 9223372036854775807) (h3 : 1 ≤ den ∧ den ≤ 9223372036854775807) :
  Calls Tryz.prog 119 #[.int .i64 re, .int .i64 im, .int .i64 den] w (Yc w (flow re im den)) := by
 obtain ⟨dn, rfl⟩ := Int.eq_ofNat_of_zero_le (show 0 ≤ den by omega)
 have g1 := Sc re im dn h3.1
 have g2 := gcd3_le re im dn h3.1
 obtain ⟨a, ha, ha2⟩ : ∃ a : Nat, a = re.natAbs ∧ a ≤ 9223372036854775807 := ⟨_, rfl, by omega⟩
 obtain ⟨b, hb, hb2⟩ : ∃ b : Nat, b = im.natAbs ∧ b ≤ 9223372036854775807 := ⟨_, rfl, by omega⟩
 have s1 := fun w => size_q re w (by omega)
 have s2 := fun w => size_q im w (by omega)
 rw [← ha] at s1
 rw [← hb] at s2
 have hgle : Nat.gcd a b ≤ 9223372036854775807 := by
  rcases Nat.eq_zero_or_pos a with h | h
  ·subst h; simpa using hb2
  ·exact Nat.le_trans (Nat.gcd_le_left b h) ha2
 obtain ⟨p, hp, hp2⟩ : ∃ g : Nat, g = Nat.gcd a b ∧ g ≤ 9223372036854775807 := ⟨_, rfl, hgle⟩
 have d1 := fun w => Va a b w (by omega) (by omega)
 rw [← hp] at d1
 obtain ⟨g, hg⟩ : ∃ g : Nat, g = Nat.gcd p dn := ⟨_, rfl⟩
 have d2 := fun w => Va p dn w (by omega) (by omega)
 rw [← hg] at d2
 have e2 : Yf re im dn = (g : Int) := by
  unfold Yf
  rw [← ha, ← hb, ← hp, Int.natAbs_natCast, ← hg]
 rw [e2] at g1 g2
 have b1 := Vy re g 9223372036854775807 h1.1 h1.2
 have b2 := Vy im g 9223372036854775807 h2.1 h2.2
 have b3 := Vy dn g 9223372036854775807 (by omega) h3.2
 obtain ⟨x, hx⟩ : ∃ x, re.tdiv (g : Int) = x := ⟨_, rfl⟩
 obtain ⟨y, hy⟩ : ∃ x, im.tdiv (g : Int) = x := ⟨_, rfl⟩
 obtain ⟨z, hz⟩ : ∃ x, (dn : Int).tdiv (g : Int) = x := ⟨_, rfl⟩
 rw [hx] at b1
 rw [hy] at b2
 rw [hz] at b3
 have hf := flow_of e2 hx hy hz
 have HF := Oi hf
 have S1 := Oi s1
 have S2 := Oi s2
 have D1 := Oi d1
 have D2 := Oi d2
 have hg0 : ((g : Int) != 0) = true := by simp; omega
 have w1 := Oc x (by omega)
 have w2 := Oc y (by omega)
 have w3 := Oc z (by omega)
 clear hf s1 s2 d1 d2 ha hb hp hg e2 hgle
 have k1 := fun w => Yz x (-2000000000) 2000000000 w
 have k2 := fun w => Yz y (-2000000000) 2000000000 w
 rcases hi1 : Yo x (-2000000000) 2000000000 with _ | _ <;> rcases hi2 : Yo y (-2000000000) 2000000000 with _ | _ <;> rcases hi3 : decide (2000000000 < z) with _ | _
 all_goals
  rw [hi1] at k1
  rw [hi2] at k2
  have hfin := HF.out
  rw [hi1, hi2, hi3] at hfin
  simp at hfin
  rw [hfin]
  have K1 := Oi k1
  have K2 := Oi k2
  clear hfin HF k1 k2 hi1 hi2
  go_enter Tryz.func119, Tryz.ntmps119
  go_wp2_with (first
   | (go_at_call 122; (first | (with_reducible refine (S1.out _).mono ?_) | (with_reducible refine (S2.out _).mono ?_)); rintro e wn ⟨rfl, rfl⟩)
   | (go_at_call 121; (first | (with_reducible refine (D1.out _).mono ?_) | (with_reducible refine (D2.out _).mono ?_)); rintro e wn ⟨rfl, d, rfl⟩))
  go_region
  go_wp2_with (go_at_call 79; (first | (with_reducible refine (K1.out _).mono ?_) | (with_reducible refine (K2.out _).mono ?_)); rintro e wn ⟨rfl, rfl⟩)
  all_goals
   first
    | (refine Od (v := frv (Fr.none, false)) ?_ rfl ⟨rfl, ?_⟩; · simp [results, Tryz.results119, go_sem, frv, Fr.v, Fr.none])
    | (refine Od (v := frv (⟨x, y, z⟩, true)) ?_ rfl ⟨rfl, ?_⟩; · simp [results, Tryz.results119, go_sem, frv, Fr.v])
   repeat' (with_reducible first | exact Ex.refl _ | assumption | apply Ex.alloc | apply Ex.drewN | apply Ex.drew | refine Ex.setCell ?_ (by simp <;> omega) _)

theorem Rk (re im den : Int) (w : World) (h1 : -9223372036854775807 ≤ re ∧ re ≤ 9223372036854775807) (h2 : -9223372036854775807 ≤ im ∧ im ≤ 9223372036854775807) (h3 : 1 ≤ den ∧ den ≤ 9223372036854775807) :
  Calls Tryz.prog 156 #[.int .i64 re, .int .i64 im, .int .i64 den] w (Yc w (flow re im den)) := by
 have g1 := Sc re im den h3.1
 have g2 := gcd3_le re im den h3.1
 have d1 := fun w => Tf den re w (by omega) (by omega)
 have hgle : Nat.gcd den.natAbs re.natAbs ≤ 9223372036854775807 := Nat.le_trans (Nat.gcd_le_left _ (by omega)) (show den.natAbs ≤ _ by omega)
 obtain ⟨p, hp, hp2⟩ : ∃ g : Nat, g = Nat.gcd den.natAbs re.natAbs ∧ g ≤ 9223372036854775807 := ⟨_, rfl, hgle⟩
 rw [← hp] at d1
 obtain ⟨g, hg⟩ : ∃ g : Nat, g = Nat.gcd p im.natAbs := ⟨_, rfl⟩
 have d2 := fun w => Tf p im w (by omega) (by omega)
 rw [Int.natAbs_natCast, ← hg] at d2
 have e2 : Yf re im den = (g : Int) := by
  unfold Yf
  rw [hg, hp, Nat.gcd_comm (Nat.gcd re.natAbs im.natAbs) den.natAbs, ← Nat.gcd_assoc]
 rw [e2] at g1 g2
 have b1 := Vy re g 9223372036854775807 h1.1 h1.2
 have b2 := Vy im g 9223372036854775807 h2.1 h2.2
 have b3 := Vy den g 9223372036854775807 (by omega) h3.2
 have hv := Ts re im den h3.1
 rw [e2] at hv
 obtain ⟨x, hx⟩ : ∃ x, re.tdiv (g : Int) = x := ⟨_, rfl⟩
 obtain ⟨y, hy⟩ : ∃ x, im.tdiv (g : Int) = x := ⟨_, rfl⟩
 obtain ⟨z, hz⟩ : ∃ x, den.tdiv (g : Int) = x := ⟨_, rfl⟩
 rw [hx] at b1
 rw [hy] at b2
 rw [hz] at b3
 rw [hx, hy, hz] at hv
 have hf := flow_of' e2 hx hy hz hv
 have D1 := Oi d1
 have D2 := Oi d2
 have hg0 : ((g : Int) != 0) = true := by simp; omega
 have w1 := Oc x (by omega)
 have w2 := Oc y (by omega)
 have w3 := Oc z (by omega)
 clear d1 d2 hp hg e2 hgle hv
 have k1 := fun w => Xw x y z w
 rcases hi1 : Zk x y z with _ | _
 all_goals
  rw [hi1] at k1 hf
  simp at hf
  rw [hf]
  have K1 := Oi k1
  clear k1 hf hi1
  go_enter Tryz.func156, Tryz.ntmps156
  go_wp2_with ((go_at_call 190; (first | (with_reducible refine (D1.out _).mono ?_) | (with_reducible refine (D2.out _).mono ?_)); rintro e wn ⟨rfl, d, rfl⟩))
  go_region
  go_wp2_with fail
  refine (K1.out _).mono ?_
  rintro e w5 ⟨rfl, hx⟩
  have hE : Ex w w5 := by
   refine Ex.trans ?_ hx
   repeat' (with_reducible first | exact Ex.refl _ | assumption | apply Ex.alloc | apply Ex.drewN | apply Ex.drew | refine Ex.setCell ?_ (by simp <;> omega) _)
  have hb := (Box.new _ #[.int .i64 x, .int .i64 y, .int .i64 z] 27).ex hx
  have hb0 : Box w5 w.heap.size 27 #[.int .i64 0, .int .i64 0, .int .i64 0] := by
   refine Box.ex (Box.new w _ _) (Ex.trans ?_ hx)
   repeat' (with_reducible first | exact Ex.refl _ | assumption | apply Ex.alloc | apply Ex.drewN | apply Ex.drew | refine Ex.setCell ?_ (by simp <;> omega) _)
  simp only [Oh, World.heap_drewN] at hb
  have c := hb.cell
  have c0 := hb0.cell
  have f0 := hb0.frozen
  clear hx hb
  go_wp2
  first
   | (refine Od (v := frv (Fr.none, false)) ?_ rfl ⟨rfl, ?_⟩; · simp [results, Tryz.results156, go_sem, frv, Fr.v, Fr.none, c0, f0])
   | (refine Od (v := frv (⟨x, y, z⟩, true)) ?_ rfl ⟨rfl, ?_⟩; · simp [results, Tryz.results156, go_sem, frv, Fr.v, c0, f0])
  repeat' (with_reducible first | exact Ex.refl _ | assumption | apply Ex.alloc | apply Ex.drewN | apply Ex.drew | refine Ex.setCell ?_ (by simp <;> omega) _)
end
section
def Ze (a b : Fr) : Fr × Bool := if a.valid && b.valid then flow (a.re * b.den + b.re * a.den) (a.im * b.den + b.im * a.den) (a.den * b.den) else (Fr.none, false)
def Tw (a b : Fr) : Fr × Bool := if a.valid && b.valid then flow (a.re * b.den - b.re * a.den) (a.im * b.den - b.im * a.den) (a.den * b.den) else (Fr.none, false)
def Zu (a b : Fr) : Fr × Bool := if a.valid && b.valid then flow (a.re * b.re - a.im * b.im) (a.re * b.im + a.im * b.re) (a.den * b.den) else (Fr.none, false)
def Wb (a : Fr) : Fr × Bool := if a.valid then flow (a.re * a.re + a.im * a.im) 0 (a.den * a.den) else (Fr.none, false)
def Yx (a : Fr) : Fr × Bool := if a.valid then (⟨a.re, -a.im, a.den⟩, true) else (Fr.none, false)
def fsign (n : Int) : Int := if n < 0 then -1 else if 0 < n then 1 else 0
def fcmp (a b : Fr) : Int × Bool := if a.valid && b.valid && decide (a.im = 0) && decide (b.im = 0) then (fsign (a.re * b.den - b.re * a.den), true) else (0, false)

def Xv (s : Int) (a b : Fr) : Fr × Bool := if a.valid && b.valid then flow (a.re * b.den + s * b.re * a.den) (a.im * b.den + s * b.im * a.den) (a.den * b.den) else (Fr.none, false)
theorem fsum_add (a b : Fr) : Xv 1 a b = Ze a b := by
 unfold Xv Ze
 rw [Int.one_mul, Int.one_mul]
theorem sgn_bd {s b : Int} (hs : s = 1 ∨ s = -1) (h : -2000000000 ≤ b ∧ b ≤ 2000000000) : -2000000000 ≤ s * b ∧ s * b ≤ 2000000000 := by
 rcases hs with rfl | rfl <;> omega

section
variable {a1 a2 a3 b1 b2 b3 : Int}
theorem fadd2_ok (h1 : Zk a1 a2 a3 = true) (h2 : Zk b1 b2 b3 = true) : Ze ⟨a1, a2, a3⟩ ⟨b1, b2, b3⟩ = flow (a1 * b3 + b1 * a3) (a2 * b3 + b2 * a3) (a3 * b3) := by simp [Ze, Fr.valid, h1, h2]
theorem fsum_ok {s : Int} (h1 : Zk a1 a2 a3 = true) (h2 : Zk b1 b2 b3 = true) : Xv s ⟨a1, a2, a3⟩ ⟨b1, b2, b3⟩ = flow (a1 * b3 + s * b1 * a3) (a2 * b3 + s * b2 * a3) (a3 * b3) := by simp [Xv, Fr.valid, h1, h2]
theorem ftimes_ok (h1 : Zk a1 a2 a3 = true) (h2 : Zk b1 b2 b3 = true) : Zu ⟨a1, a2, a3⟩ ⟨b1, b2, b3⟩ = flow (a1 * b1 - a2 * b2) (a1 * b2 + a2 * b1) (a3 * b3) := by simp [Zu, Fr.valid, h1, h2]
end
theorem flow_im0 {re den : Int} : (flow re 0 den).1.im = 0 := by
 unfold flow
 split <;> simp [Fr.none]
end
section
open Go.RowKit

theorem Vh (a b : Fr) (w : World) : Calls Tryz.prog 106 #[a.v, b.v] w (Yc w (Zu a b)) := by
 obtain ⟨a1, a2, a3⟩ := a
 obtain ⟨b1, b2, b3⟩ := b
 show Calls _ _ #[.agg #[.int .i64 a1, .int .i64 a2, .int .i64 a3], .agg #[.int .i64 b1, .int .i64 b2, .int .i64 b3]] _ _
 have k1 := fun w => Xw a1 a2 a3 w
 have k2 := fun w => Xw b1 b2 b3 w
 rcases h1 : Zk a1 a2 a3 with _ | _
 ·have hr : Zu ⟨a1, a2, a3⟩ ⟨b1, b2, b3⟩ = (Fr.none, false) := by simp [Zu, Fr.valid, h1]
  simp only [h1] at k1
  rw [hr]
  have K1 := Oi k1
  clear hr k1 k2 h1
  go_enter Tryz.func106, Tryz.ntmps106
  go_wp2_with fail
  refine (K1.out _).mono ?_
  rintro e w1 ⟨rfl, hx⟩
  have bA := (((Box.new _ _ _).alloc _).alloc _).ex hx
  have bB := ((Box.new _ _ _).alloc _).ex hx
  simp only [Oh] at bB
  have bR := (Box.new _ _ _).ex hx
  simp only [Oh] at bR
  replace hx := ((((Ex.refl w).alloc _).alloc _).alloc _).trans hx
  have hE := hx
  have cbA := bA.cell
  have fbA := bA.frozen
  have zbA := bA.lt
  have cbB := bB.cell
  have fbB := bB.frozen
  have zbB := bB.lt
  have cbR := bR.cell
  have fbR := bR.frozen
  have zbR := bR.lt
  clear hx
  go_wp2
  refine Od (v := frv (Fr.none, false)) ?_ rfl ⟨rfl, ?_⟩
  ·simp [results, Tryz.results106, go_sem, frv, Fr.v, Fr.none, cbA, zbA, cbB, zbB, cbR, zbR]
  ·repeat' (with_reducible first | exact Ex.refl _ | assumption | apply Ex.alloc | apply Ex.drewN | apply Ex.drew | refine Ex.setCell ?_ (by simp <;> omega) _)
 rcases h2 : Zk b1 b2 b3 with _ | _
 ·have hr : Zu ⟨a1, a2, a3⟩ ⟨b1, b2, b3⟩ = (Fr.none, false) := by simp [Zu, Fr.valid, h1, h2]
  simp only [h1] at k1
  simp only [h2] at k2
  rw [hr]
  have K1 := Oi k1
  have K2 := Oi k2
  clear hr k1 k2 h1 h2
  go_enter Tryz.func106, Tryz.ntmps106
  go_wp2_with fail
  refine (K1.out _).mono ?_
  rintro e w1 ⟨rfl, hx⟩
  have bA := (((Box.new _ _ _).alloc _).alloc _).ex hx
  have bB := ((Box.new _ _ _).alloc _).ex hx
  simp only [Oh] at bB
  have bR := (Box.new _ _ _).ex hx
  simp only [Oh] at bR
  replace hx := ((((Ex.refl w).alloc _).alloc _).alloc _).trans hx
  have hE := hx
  have cbA := bA.cell
  have fbA := bA.frozen
  have zbA := bA.lt
  have cbB := bB.cell
  have fbB := bB.frozen
  have zbB := bB.lt
  have cbR := bR.cell
  have fbR := bR.frozen
  have zbR := bR.lt
  clear hx
  go_wp2_with fail
  refine (K2.out _).mono ?_
  rintro e w2 ⟨rfl, hx⟩
  replace hE := hE.trans hx
  replace bA := bA.ex hx
  replace cbA := bA.cell
  replace fbA := bA.frozen
  replace zbA := bA.lt
  replace bB := bB.ex hx
  replace cbB := bB.cell
  replace fbB := bB.frozen
  replace zbB := bB.lt
  replace bR := bR.ex hx
  replace cbR := bR.cell
  replace fbR := bR.frozen
  replace zbR := bR.lt
  clear hx
  go_wp2
  refine Od (v := frv (Fr.none, false)) ?_ rfl ⟨rfl, ?_⟩
  ·simp [results, Tryz.results106, go_sem, frv, Fr.v, Fr.none, cbA, zbA, cbB, zbB, cbR, zbR]
  ·repeat' (with_reducible first | exact Ex.refl _ | assumption | apply Ex.alloc | apply Ex.drewN | apply Ex.drew | refine Ex.setCell ?_ (by simp <;> omega) _)
 obtain ⟨ap1, ap2, ap3, -⟩ := Xx h1
 obtain ⟨bp1, bp2, bp3, -⟩ := Xx h2
 have hr : Zu ⟨a1, a2, a3⟩ ⟨b1, b2, b3⟩ = _ := ftimes_ok h1 h2
 have mx1 := Xf (a := a1) (b := b1) (by omega) (by omega)
 obtain ⟨x1, ex1⟩ : ∃ x, a1 * b1 = x := ⟨_, rfl⟩
 rw [ex1] at mx1 hr
 have mx2 := Xf (a := a2) (b := b2) (by omega) (by omega)
 obtain ⟨x2, ex2⟩ : ∃ x, a2 * b2 = x := ⟨_, rfl⟩
 rw [ex2] at mx2 hr
 have mx3 := Xf (a := a1) (b := b2) (by omega) (by omega)
 obtain ⟨x3, ex3⟩ : ∃ x, a1 * b2 = x := ⟨_, rfl⟩
 rw [ex3] at mx3 hr
 have mx4 := Xf (a := a2) (b := b1) (by omega) (by omega)
 obtain ⟨x4, ex4⟩ : ∃ x, a2 * b1 = x := ⟨_, rfl⟩
 rw [ex4] at mx4 hr
 have mx5 := Pz (a := a3) (b := b3) (by omega) (by omega)
 obtain ⟨x5, ex5⟩ : ∃ x, a3 * b3 = x := ⟨_, rfl⟩
 rw [ex5] at mx5 hr
 have l1 := fun w => Rk (x1 - x2) (x3 + x4) (x5) w (by omega) (by omega) (by omega)
 rw [hr]
 clear hr
 generalize flow (x1 - x2) (x3 + x4) (x5) = r at l1 ⊢
 obtain ⟨⟨r1, r2, r3⟩, ok⟩ := r
 replace l1 := fun w => Yc.spell (l1 w)
 simp only [h1] at k1
 simp only [h2] at k2
 have K1 := Oi k1
 have K2 := Oi k2
 have L1 := Oi l1
 clear l1 k1 k2 h1 h2
 go_enter Tryz.func106, Tryz.ntmps106
 go_wp2_with fail
 refine (K1.out _).mono ?_
 rintro e w1 ⟨rfl, hx⟩
 have bA := (((Box.new _ _ _).alloc _).alloc _).ex hx
 have bB := ((Box.new _ _ _).alloc _).ex hx
 simp only [Oh] at bB
 have bR := (Box.new _ _ _).ex hx
 simp only [Oh] at bR
 replace hx := ((((Ex.refl w).alloc _).alloc _).alloc _).trans hx
 have hE := hx
 have cbA := bA.cell
 have fbA := bA.frozen
 have zbA := bA.lt
 have cbB := bB.cell
 have fbB := bB.frozen
 have zbB := bB.lt
 have cbR := bR.cell
 have fbR := bR.frozen
 have zbR := bR.lt
 clear hx
 go_wp2_with fail
 refine (K2.out _).mono ?_
 rintro e w2 ⟨rfl, hx⟩
 replace hE := hE.trans hx
 replace bA := bA.ex hx
 replace cbA := bA.cell
 replace fbA := bA.frozen
 replace zbA := bA.lt
 replace bB := bB.ex hx
 replace cbB := bB.cell
 replace fbB := bB.frozen
 replace zbB := bB.lt
 replace bR := bR.ex hx
 replace cbR := bR.cell
 replace fbR := bR.frozen
 replace zbR := bR.lt
 clear hx
 go_wp2_with fail
 refine (L1.out _).mono ?_
 rintro e w3 ⟨rfl, hx⟩
 replace hE := hE.trans hx
 replace bA := bA.ex hx
 replace cbA := bA.cell
 replace fbA := bA.frozen
 replace zbA := bA.lt
 replace bB := bB.ex hx
 replace cbB := bB.cell
 replace fbB := bB.frozen
 replace zbB := bB.lt
 replace bR := bR.ex hx
 replace cbR := bR.cell
 replace fbR := bR.frozen
 replace zbR := bR.lt
 clear hx
 go_wp2
 refine Od (v := frv (⟨r1, r2, r3⟩, ok)) ?_ rfl ⟨rfl, ?_⟩
 ·simp [results, Tryz.results106, go_sem, frv, Fr.v, Fr.none, cbA, zbA, cbB, zbB, cbR, zbR]
 ·repeat' (with_reducible first | exact Ex.refl _ | assumption | apply Ex.alloc | apply Ex.drewN | apply Ex.drew | refine Ex.setCell ?_ (by simp <;> omega) _)
theorem sl2Sum (a b : Fr) (s : Int) (hs : s = 1 ∨ s = -1) (w : World) : Calls Tryz.prog 191 #[a.v, .int .i64 s, b.v] w (Yc w (Xv s a b)) := by
 obtain ⟨a1, a2, a3⟩ := a
 obtain ⟨b1, b2, b3⟩ := b
 show Calls _ _ #[.agg #[.int .i64 a1, .int .i64 a2, .int .i64 a3], .int .i64 s, .agg #[.int .i64 b1, .int .i64 b2, .int .i64 b3]] _ _
 have k1 := fun w => Xw a1 a2 a3 w
 have k2 := fun w => Xw b1 b2 b3 w
 rcases h1 : Zk a1 a2 a3 with _ | _
 ·have hr : Xv s ⟨a1, a2, a3⟩ ⟨b1, b2, b3⟩ = (Fr.none, false) := by simp [Xv, Fr.valid, h1]
  simp only [h1] at k1
  rw [hr]
  have K1 := Oi k1
  clear hr k1 k2 h1
  go_enter Tryz.func191, Tryz.ntmps191
  go_wp2_with fail
  refine (K1.out _).mono ?_
  rintro e w1 ⟨rfl, hx⟩
  have bA := (((Box.new _ _ _).alloc _).alloc _).ex hx
  have bB := ((Box.new _ _ _).alloc _).ex hx
  simp only [Oh] at bB
  have bR := (Box.new _ _ _).ex hx
  simp only [Oh] at bR
  replace hx := ((((Ex.refl w).alloc _).alloc _).alloc _).trans hx
  have hE := hx
  have cbA := bA.cell
  have fbA := bA.frozen
  have zbA := bA.lt
  have cbB := bB.cell
  have fbB := bB.frozen
  have zbB := bB.lt
  have cbR := bR.cell
  have fbR := bR.frozen
  have zbR := bR.lt
  clear hx
  go_wp2
  refine Od (v := frv (Fr.none, false)) ?_ rfl ⟨rfl, ?_⟩
  ·simp [results, Tryz.results191, go_sem, frv, Fr.v, Fr.none, cbA, zbA, cbB, zbB, cbR, zbR]
  ·repeat' (with_reducible first | exact Ex.refl _ | assumption | apply Ex.alloc | apply Ex.drewN | apply Ex.drew | refine Ex.setCell ?_ (by simp <;> omega) _)
 rcases h2 : Zk b1 b2 b3 with _ | _
 ·have hr : Xv s ⟨a1, a2, a3⟩ ⟨b1, b2, b3⟩ = (Fr.none, false) := by simp [Xv, Fr.valid, h1, h2]
  simp only [h1] at k1
  simp only [h2] at k2
  rw [hr]
  have K1 := Oi k1
  have K2 := Oi k2
  clear hr k1 k2 h1 h2
  go_enter Tryz.func191, Tryz.ntmps191
  go_wp2_with fail
  refine (K1.out _).mono ?_
  rintro e w1 ⟨rfl, hx⟩
  have bA := (((Box.new _ _ _).alloc _).alloc _).ex hx
  have bB := ((Box.new _ _ _).alloc _).ex hx
  simp only [Oh] at bB
  have bR := (Box.new _ _ _).ex hx
  simp only [Oh] at bR
  replace hx := ((((Ex.refl w).alloc _).alloc _).alloc _).trans hx
  have hE := hx
  have cbA := bA.cell
  have fbA := bA.frozen
  have zbA := bA.lt
  have cbB := bB.cell
  have fbB := bB.frozen
  have zbB := bB.lt
  have cbR := bR.cell
  have fbR := bR.frozen
  have zbR := bR.lt
  clear hx
  go_wp2_with fail
  refine (K2.out _).mono ?_
  rintro e w2 ⟨rfl, hx⟩
  replace hE := hE.trans hx
  replace bA := bA.ex hx
  replace cbA := bA.cell
  replace fbA := bA.frozen
  replace zbA := bA.lt
  replace bB := bB.ex hx
  replace cbB := bB.cell
  replace fbB := bB.frozen
  replace zbB := bB.lt
  replace bR := bR.ex hx
  replace cbR := bR.cell
  replace fbR := bR.frozen
  replace zbR := bR.lt
  clear hx
  go_wp2
  refine Od (v := frv (Fr.none, false)) ?_ rfl ⟨rfl, ?_⟩
  ·simp [results, Tryz.results191, go_sem, frv, Fr.v, Fr.none, cbA, zbA, cbB, zbB, cbR, zbR]
  ·repeat' (with_reducible first | exact Ex.refl _ | assumption | apply Ex.alloc | apply Ex.drewN | apply Ex.drew | refine Ex.setCell ?_ (by simp <;> omega) _)
 obtain ⟨ap1, ap2, ap3, -⟩ := Xx h1
 obtain ⟨bp1, bp2, bp3, -⟩ := Xx h2
 have hr : Xv s ⟨a1, a2, a3⟩ ⟨b1, b2, b3⟩ = _ := fsum_ok h1 h2
 have mu := sgn_bd hs bp1
 obtain ⟨u, eu⟩ : ∃ x, s * b1 = x := ⟨_, rfl⟩
 rw [eu] at mu hr
 have mv := sgn_bd hs bp2
 obtain ⟨v, ev⟩ : ∃ x, s * b2 = x := ⟨_, rfl⟩
 rw [ev] at mv hr
 have mx1 := Xf (a := a1) (b := b3) (by omega) (by omega)
 obtain ⟨x1, ex1⟩ : ∃ x, a1 * b3 = x := ⟨_, rfl⟩
 rw [ex1] at mx1 hr
 have mx2 := Xf (a := u) (b := a3) (by omega) (by omega)
 obtain ⟨x2, ex2⟩ : ∃ x, u * a3 = x := ⟨_, rfl⟩
 rw [ex2] at mx2 hr
 have mx3 := Xf (a := a2) (b := b3) (by omega) (by omega)
 obtain ⟨x3, ex3⟩ : ∃ x, a2 * b3 = x := ⟨_, rfl⟩
 rw [ex3] at mx3 hr
 have mx4 := Xf (a := v) (b := a3) (by omega) (by omega)
 obtain ⟨x4, ex4⟩ : ∃ x, v * a3 = x := ⟨_, rfl⟩
 rw [ex4] at mx4 hr
 have mx5 := Pz (a := a3) (b := b3) (by omega) (by omega)
 obtain ⟨x5, ex5⟩ : ∃ x, a3 * b3 = x := ⟨_, rfl⟩
 rw [ex5] at mx5 hr
 have l1 := fun w => Rk (x1 + x2) (x3 + x4) (x5) w (by omega) (by omega) (by omega)
 rw [hr]
 clear hr
 generalize flow (x1 + x2) (x3 + x4) (x5) = r at l1 ⊢
 obtain ⟨⟨r1, r2, r3⟩, ok⟩ := r
 replace l1 := fun w => Yc.spell (l1 w)
 simp only [h1] at k1
 simp only [h2] at k2
 have K1 := Oi k1
 have K2 := Oi k2
 have L1 := Oi l1
 clear l1 k1 k2 h1 h2
 go_enter Tryz.func191, Tryz.ntmps191
 go_wp2_with fail
 refine (K1.out _).mono ?_
 rintro e w1 ⟨rfl, hx⟩
 have bA := (((Box.new _ _ _).alloc _).alloc _).ex hx
 have bB := ((Box.new _ _ _).alloc _).ex hx
 simp only [Oh] at bB
 have bR := (Box.new _ _ _).ex hx
 simp only [Oh] at bR
 replace hx := ((((Ex.refl w).alloc _).alloc _).alloc _).trans hx
 have hE := hx
 have cbA := bA.cell
 have fbA := bA.frozen
 have zbA := bA.lt
 have cbB := bB.cell
 have fbB := bB.frozen
 have zbB := bB.lt
 have cbR := bR.cell
 have fbR := bR.frozen
 have zbR := bR.lt
 clear hx
 go_wp2_with fail
 refine (K2.out _).mono ?_
 rintro e w2 ⟨rfl, hx⟩
 replace hE := hE.trans hx
 replace bA := bA.ex hx
 replace cbA := bA.cell
 replace fbA := bA.frozen
 replace zbA := bA.lt
 replace bB := bB.ex hx
 replace cbB := bB.cell
 replace fbB := bB.frozen
 replace zbB := bB.lt
 replace bR := bR.ex hx
 replace cbR := bR.cell
 replace fbR := bR.frozen
 replace zbR := bR.lt
 clear hx
 go_wp2_with fail
 refine (L1.out _).mono ?_
 rintro e w3 ⟨rfl, hx⟩
 replace hE := hE.trans hx
 replace bA := bA.ex hx
 replace cbA := bA.cell
 replace fbA := bA.frozen
 replace zbA := bA.lt
 replace bB := bB.ex hx
 replace cbB := bB.cell
 replace fbB := bB.frozen
 replace zbB := bB.lt
 replace bR := bR.ex hx
 replace cbR := bR.cell
 replace fbR := bR.frozen
 replace zbR := bR.lt
 clear hx
 go_wp2
 refine Od (v := frv (⟨r1, r2, r3⟩, ok)) ?_ rfl ⟨rfl, ?_⟩
 ·simp [results, Tryz.results191, go_sem, frv, Fr.v, Fr.none, cbA, zbA, cbB, zbB, cbR, zbR]
 ·repeat' (with_reducible first | exact Ex.refl _ | assumption | apply Ex.alloc | apply Ex.drewN | apply Ex.drew | refine Ex.setCell ?_ (by simp <;> omega) _)
theorem Uy (a : Fr) (w : World) : Calls Tryz.prog 153 #[a.v] w (Yc w (Yx a)) := by
 obtain ⟨a1, a2, a3⟩ := a
 show Calls _ _ #[.agg #[.int .i64 a1, .int .i64 a2, .int .i64 a3]] _ _
 have k1 := fun w => Xw a1 a2 a3 w
 rcases h1 : Zk a1 a2 a3 with _ | _
 ·have hr : Yx ⟨a1, a2, a3⟩ = (Fr.none, false) := by simp [Yx, Fr.valid, h1]
  simp only [h1] at k1
  rw [hr]
  have K1 := Oi k1
  clear k1 hr h1
  go_enter Tryz.func153, Tryz.ntmps153
  go_wp2_with fail
  refine (K1.out _).mono ?_
  rintro e w1 ⟨rfl, hx⟩
  have bA := ((Box.new _ _ _).alloc _).ex hx
  have bR := (Box.new _ _ _).ex hx
  simp only [Oh] at bR
  replace hx := (((Ex.refl w).alloc _).alloc _).trans hx
  have hE := hx
  have cbA := bA.cell
  have fbA := bA.frozen
  have zbA := bA.lt
  have cbR := bR.cell
  have fbR := bR.frozen
  have zbR := bR.lt
  clear hx
  go_wp2
  refine Od (v := frv (Fr.none, false)) ?_ rfl ⟨rfl, ?_⟩
  ·simp [results, Tryz.results153, go_sem, frv, Fr.v, Fr.none, cbA, zbA, cbR, zbR]
  ·repeat' (with_reducible first | exact Ex.refl _ | assumption | apply Ex.alloc | apply Ex.drewN | apply Ex.drew | refine Ex.setCell ?_ (by simp <;> omega) _)
 ·have hr : Yx ⟨a1, a2, a3⟩ = (⟨a1, -a2, a3⟩, true) := by simp [Yx, Fr.valid, h1]
  obtain ⟨-, p2, -, -⟩ := Xx h1
  have hw := Oc (0 - a2) (by omega)
  simp only [h1] at k1
  rw [hr]
  have K1 := Oi k1
  clear k1 hr h1
  go_enter Tryz.func153, Tryz.ntmps153
  go_wp2_with fail
  refine (K1.out _).mono ?_
  rintro e w1 ⟨rfl, hx⟩
  have bA := ((Box.new _ _ _).alloc _).ex hx
  have bR := (Box.new _ _ _).ex hx
  simp only [Oh] at bR
  replace hx := (((Ex.refl w).alloc _).alloc _).trans hx
  have hE := hx
  have cbA := bA.cell
  have fbA := bA.frozen
  have zbA := bA.lt
  have cbR := bR.cell
  have fbR := bR.frozen
  have zbR := bR.lt
  clear hx
  go_wp2
  refine Od (v := frv (⟨a1, -a2, a3⟩, true)) ?_ rfl ⟨rfl, ?_⟩
  ·simp [results, Tryz.results153, go_sem, frv, Fr.v, Fr.none, cbA, zbA, cbR, zbR]
  ·repeat' (with_reducible first | exact Ex.refl _ | assumption | apply Ex.alloc | apply Ex.drewN | apply Ex.drew | refine Ex.setCell ?_ (by simp <;> omega) _)
end
section
theorem flow_val {re im den : Int} (h : 1 ≤ den) (hk : (flow re im den).2 = true) :
  (flow re im den).1.re * den = re * (flow re im den).1.den ∧ (flow re im den).1.im * den = im * (flow re im den).1.den ∧ 1 ≤ (flow re im den).1.den := by
 have hg := Sc re im den h
 have hd : ∀ x : Int, ((Yf re im den).natAbs ∣ x.natAbs) → x.tdiv (Yf re im den) * Yf re im den = x := fun x hx => Int.tdiv_mul_cancel (Int.natAbs_dvd_natAbs.1 hx)
 have e : (Yf re im den).natAbs = Nat.gcd (Nat.gcd re.natAbs im.natAbs) den.natAbs := by rw [Tt, Int.natAbs_natCast]
 have d1 := hd re (by rw [e]; exact Nat.dvd_trans (Nat.gcd_dvd_left _ _) (Nat.gcd_dvd_left _ _))
 have d2 := hd im (by rw [e]; exact Nat.dvd_trans (Nat.gcd_dvd_left _ _) (Nat.gcd_dvd_right _ _))
 have d3 := hd den (by rw [e]; exact Nat.gcd_dvd_right _ _)
 have hp := Sb re im den h
 unfold flow at hk ⊢
 split
 ·dsimp only
  generalize re.tdiv (Yf re im den) = a at d1 hp ⊢
  generalize im.tdiv (Yf re im den) = b at d2 hp ⊢
  generalize den.tdiv (Yf re im den) = c at d3 hp ⊢
  generalize Yf re im den = g at d1 d2 d3
  rw [← d1, ← d2, ← d3]
  refine ⟨?_, ?_, hp⟩
  ·rw [Int.mul_comm c g, ← Int.mul_assoc]
  ·rw [Int.mul_comm c g, ← Int.mul_assoc]
 ·rename_i hn
  rw [if_neg hn] at hk
  cases hk
def fturn (b : Fr) : Fr × Bool := flow (b.den * b.re) (-b.den * b.im) (b.re * b.re + b.im * b.im)
def fnul (b : Fr) : Bool := decide (b.re = 0) && decide (b.im = 0)
def fover (a b : Fr) : Fr × Bool :=
 if a.valid && b.valid && !fnul b then
  if (fturn b).2 then Zu a (fturn b).1 else (Fr.none, false)
 else (Fr.none, false)
theorem Ul (a : Int) : 0 ≤ a * a := by
 rcases Int.le_total 0 a with h | h
 ·exact Int.mul_nonneg h h
 ·have := Int.mul_nonneg (a := -a) (b := -a) (by omega) (by omega)
  rwa [Int.neg_mul_neg] at this
theorem Tc {a b : Int} (h1 : 1 ≤ a) (h2 : 1 ≤ b) : 1 ≤ a * b := by
 have := Int.mul_pos (a := a) (b := b) (by omega) (by omega)
 omega
end
section
open Go.RowKit

def fcre (a : Fr) : Bool := a.valid && decide (a.im = 0)
def CmpGot (w : World) (r : Int × Bool) : Ending → World → Prop := fun e w' => e = .returned (.tuple #[.int .i64 r.1, .bool r.2]) ∧ Ex w w'
end
end Go.Proofs.YtmjggolkopbcnaaGreatDoor
