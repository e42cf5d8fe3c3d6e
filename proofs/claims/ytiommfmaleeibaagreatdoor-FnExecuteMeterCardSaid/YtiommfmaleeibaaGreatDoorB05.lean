/-
  Proved: what functions compute, part 5. No condition.
-/
import Derived.Test.YtiommfmaleeibaaGreatDoorB01
import Derived.Test.YtiommfmaleeibaaGreatDoorB04
set_option linter.unusedSimpArgs false
set_option linter.unusedVariables false
set_option maxRecDepth 20000
set_option maxHeartbeats 8000000
namespace Go.Proofs.YtiommfmaleeibaaGreatDoor
section
open Go.RowKit

theorem To (x0 y0 : Nat) (w : World) (hx : x0 ≤ 9223372036854775807) (hy : y0 ≤ 9223372036854775807) :
  Calls Tryz.prog 123 #[.int .i64 x0, .int .i64 y0] w fun e w' => e = .returned (.int .i64 (Nat.gcd x0 y0 : Nat)) ∧ ∃ d, w' = w.drewN d := by
 go_enter Tryz.func123, Tryz.ntmps123
 go_wp2
 go_loopw [0, 1] (fun a b wr => ∃ x y : Nat, a = .int .i64 x ∧ b = .int .i64 y ∧ Hid (Nat.gcd x y = Nat.gcd x0 y0) ∧ x ≤ 9223372036854775807 ∧ y ≤ 9223372036854775807 ∧ ∃ d, wr = w.drewN d) (fun _ b _ => (intOf b).toNat)
 case atStart => exact ⟨x0, y0, rfl, rfl, rfl, hx, hy, 0, rfl⟩
 case round =>
  obtain ⟨x, y, rfl, rfl, HG, hx', hy', d, rfl⟩ := hrel
  by_cases h0 : y = 0
  ·subst h0
   go_wp2
   go_ret
   have e := HG.out
   rw [Nat.gcd_zero_right] at e
   exact ⟨by rw [← e]; rfl, d, rfl⟩
  ·obtain ⟨z, hz⟩ : ∃ z : Nat, z = x % y := ⟨_, rfl⟩
   have ht : (x : Int).tmod y = (z : Int) := by rw [hz]; rfl
   have hlt : z < y := by rw [hz]; exact Nat.mod_lt _ (by omega)
   have HZ := Kw hz
   clear hz
   have h1 : ((y : Int) != 0) = true := by simp; omega
   go_wp2
   go_quiet (fail)
   go_wp2
   go_roundw
   case rel => exact ⟨y, z, rfl, rfl, show _ = _ by rw [HZ.out, gcd_loop, HG.out], hy', by omega, _, World.drewN_drewN _ _ _⟩
   case measure => simp [intOf]; omega

theorem Qr (a0 b0 : Int) (w : World) (ha : -9223372036854775807 ≤ a0 ∧ a0 ≤ 9223372036854775807) (hb : -9223372036854775807 ≤ b0 ∧ b0 ≤ 9223372036854775807) :
  Calls Tryz.prog 228 #[.int .i64 a0, .int .i64 b0] w fun e w' => e = .returned (.int .i64 (Nat.gcd a0.natAbs b0.natAbs : Nat)) ∧ ∃ d, w' = w.drewN d := by
 go_enter Tryz.func228, Tryz.ntmps228
 go_wp2
 go_loopw [0, 1] (fun a b wr => ∃ x y : Int, a = .int .i64 x ∧ b = .int .i64 y ∧ Hid (Nat.gcd x.natAbs y.natAbs = Nat.gcd a0.natAbs b0.natAbs) ∧ (-9223372036854775807 ≤ x ∧ x ≤ 9223372036854775807) ∧ (-9223372036854775807 ≤ y ∧ y ≤ 9223372036854775807) ∧ ∃ d, wr = w.drewN d) (fun _ b _ => (intOf b).natAbs)
 case atStart => exact ⟨a0, b0, rfl, rfl, rfl, ha, hb, 0, rfl⟩
 case round =>
  obtain ⟨x, y, rfl, rfl, HG, hx, hy, d, rfl⟩ := hrel
  rcases h0 : (y != 0) with _ | _
  ·have hy0 : y = 0 := by simpa using h0
   have e : max x (-x) = (Nat.gcd a0.natAbs b0.natAbs : Nat) := by
    rw [← HG.out, hy0]
    simp only [Int.natAbs_zero, Nat.gcd_zero_right]
    omega
   have E := Kw e
   have hw := Kq (-x) (by omega)
   clear e hy0
   go_wp2
   all_goals
    go_ret
    refine ⟨?_, d, rfl⟩
    exact ret_int (by rw [← E.out]; omega)
  ·have hy0 : y ≠ 0 := by simpa using h0
   obtain ⟨z, hz⟩ : ∃ z : Int, z = x.tmod y := ⟨_, rfl⟩
   have hlt : z.natAbs < y.natAbs := by rw [hz]; exact Mj x y hy0
   have hgz : Nat.gcd y.natAbs z.natAbs = Nat.gcd x.natAbs y.natAbs := by rw [hz]; exact Mx x y
   have HZ := Kw hgz
   have ht : x.tmod y = z := hz.symm
   clear hz hgz
   go_wp2
   go_roundw
   case rel => exact ⟨y, z, rfl, rfl, show _ = _ by rw [HZ.out, HG.out], hy, by omega, d, rfl⟩
   case measure => simp [intOf]; omega
end
section
open Go.RowKit

def Xu (n a b : Int) : Bool := decide (a ≤ n) && decide (n ≤ b)
theorem Yf (n a b : Int) (w : World) : Calls Tryz.prog 71 #[.int .i64 n, .int .i64 a, .int .i64 b] w fun e w' => e = .returned (.bool (Xu n a b)) ∧ w' = w := by
 go_enter Tryz.func71, Tryz.ntmps71
 go_wp2
 all_goals go_ret
 all_goals exact ⟨Ya (by simp [Xu] <;> omega), rfl⟩
theorem Sx (n a b : Int) (w : World) : Calls Tryz.prog 103 #[.int .i64 n, .int .i64 a, .int .i64 b] w fun e w' => e = .returned (.bool (Xu n a b)) ∧ w' = w := by
 go_enter Tryz.func103, Tryz.ntmps103
 go_wp2
 all_goals go_ret
 all_goals exact ⟨Ya (by simp [Xu] <;> omega), rfl⟩
theorem Qb (n : Int) (w : World) : Calls Tryz.prog 227 #[.int .i64 n] w fun e w' => e = .returned (.bool (Xu n (-2000000000) 2000000000)) ∧ w' = w := by
 go_enter Tryz.func227, Tryz.ntmps227
 go_wp2_with fail
 refine (Sx _ _ _ _).mono ?_
 rintro e w1 ⟨rfl, rfl⟩
 go_wp2
 go_ret
 exact ⟨rfl, rfl⟩
theorem size_q (n : Int) (w : World) (h : -9223372036854775807 ≤ n ∧ n ≤ 9223372036854775807) : Calls Tryz.prog 124 #[.int .i64 n] w fun e w' => e = .returned (.int .i64 (n.natAbs : Nat)) ∧ w' = w := by
 have hw := Kq (-n) (by omega)
 go_enter Tryz.func124, Tryz.ntmps124
 go_wp2
 all_goals
  go_ret
  exact ⟨ret_int (by omega), rfl⟩
end
section
open Go.RowKit

def Zg (re im den : Int) : Bool := Xu re (-2000000000) 2000000000 && Xu im (-2000000000) 2000000000 && Xu den 1 2000000000 && decide (Xh re im den = 1)
theorem Xt {n a b : Int} (h : Xu n a b = true) : a ≤ n ∧ n ≤ b := by simpa [Xu] using h
theorem gcd_le (x y : Nat) (h1 : x ≤ 2000000000) (h2 : y ≤ 2000000000) : Nat.gcd x y ≤ 2000000000 := by
 rcases Nat.eq_zero_or_pos x with h | h
 ·subst h; simpa using h2
 ·exact Nat.le_trans (Nat.gcd_le_left y h) h1

theorem Yk (re im den : Int) (w : World) : Calls Tryz.prog 59 #[.agg #[.int .i64 re, .int .i64 im, .int .i64 den]] w fun e w' => e = .returned (.bool (Zg re im den)) ∧ Ex w w' := by
 rcases h1 : Xu re (-2000000000) 2000000000 with _ | _
 ·have e : Zg re im den = false := by simp [Zg, h1]
  have k1 := fun w => Yf re (-2000000000) 2000000000 w
  simp only [h1] at k1
  have K1 := Kw k1
  clear k1 h1
  go_enter Tryz.func59, Tryz.ntmps59
  go_wp2
  go_quiet ((go_at_call 71; exact Calls.quiet_of_same (K1.out _)))
  go_wp2
  go_ret
  exact ⟨Ya e.symm, ((Ex.refl _).alloc _).drewN _⟩
 rcases h2 : Xu im (-2000000000) 2000000000 with _ | _
 ·have e : Zg re im den = false := by simp [Zg, h2]
  have k1 := fun w => Yf re (-2000000000) 2000000000 w
  have k2 := fun w => Yf im (-2000000000) 2000000000 w
  simp only [h1] at k1
  simp only [h2] at k2
  have K1 := Kw k1
  have K2 := Kw k2
  clear k1 k2 h1 h2
  go_enter Tryz.func59, Tryz.ntmps59
  go_wp2
  go_quiet ((go_at_call 71; first | (with_reducible exact Calls.quiet_of_same (K1.out _)) | (with_reducible exact Calls.quiet_of_same (K2.out _))))
  go_wp2
  go_ret
  exact ⟨Ya e.symm, ((Ex.refl _).alloc _).drewN _⟩
 rcases h3 : Xu den 1 2000000000 with _ | _
 ·have e : Zg re im den = false := by simp [Zg, h3]
  have k1 := fun w => Yf re (-2000000000) 2000000000 w
  have k2 := fun w => Yf im (-2000000000) 2000000000 w
  have k3 := fun w => Yf den 1 2000000000 w
  simp only [h1] at k1
  simp only [h2] at k2
  simp only [h3] at k3
  have K1 := Kw k1
  have K2 := Kw k2
  have K3 := Kw k3
  clear k1 k2 k3 h1 h2 h3
  go_enter Tryz.func59, Tryz.ntmps59
  go_wp2
  go_quiet ((go_at_call 71; first | (with_reducible exact Calls.quiet_of_same (K1.out _)) | (with_reducible exact Calls.quiet_of_same (K2.out _)) | (with_reducible exact Calls.quiet_of_same (K3.out _))))
  go_wp2
  go_ret
  exact ⟨Ya e.symm, ((Ex.refl _).alloc _).drewN _⟩
 ·have i1 := Xt h1
  have i2 := Xt h2
  have i3 := Xt h3
  obtain ⟨dn, rfl⟩ := Int.eq_ofNat_of_zero_le (show 0 ≤ den by omega)
  have e : Zg re im dn = decide (Xh re im dn = 1) := by simp [Zg, h1, h2, h3]
  obtain ⟨a, ha, ha2⟩ : ∃ a : Nat, a = re.natAbs ∧ a ≤ 2000000000 := ⟨_, rfl, by omega⟩
  obtain ⟨b, hb, hb2⟩ : ∃ b : Nat, b = im.natAbs ∧ b ≤ 2000000000 := ⟨_, rfl, by omega⟩
  have s1 := fun w => size_q re w (by omega)
  have s2 := fun w => size_q im w (by omega)
  rw [← ha] at s1
  rw [← hb] at s2
  obtain ⟨g1, hg1, hg2⟩ : ∃ g : Nat, g = Nat.gcd a b ∧ g ≤ 2000000000 := ⟨_, rfl, gcd_le _ _ ha2 hb2⟩
  have d1 := fun w => To a b w (by omega) (by omega)
  rw [← hg1] at d1
  obtain ⟨g2, hg3⟩ : ∃ g : Nat, g = Nat.gcd g1 dn := ⟨_, rfl⟩
  have d2 := fun w => To g1 dn w (by omega) (by omega)
  rw [← hg3] at d2
  have e2 : Xh re im dn = (g2 : Int) := by
   unfold Xh
   rw [← ha, ← hb, ← hg1, Int.natAbs_natCast, ← hg3]
  rw [e2] at e
  have E := Kw e
  have k1 := fun w => Yf re (-2000000000) 2000000000 w
  have k2 := fun w => Yf im (-2000000000) 2000000000 w
  have k3 := fun w => Yf dn 1 2000000000 w
  simp only [h1] at k1
  simp only [h2] at k2
  simp only [h3] at k3
  have K1 := Kw k1
  have K2 := Kw k2
  have K3 := Kw k3
  have S1 := Kw s1
  have S2 := Kw s2
  have D1 := Kw d1
  have D2 := Kw d2
  clear k1 k2 k3 h1 h2 h3 s1 s2 d1 d2 ha hb hg1 hg3 e e2
  go_enter Tryz.func59, Tryz.ntmps59
  go_wp2
  go_quiet ((first | (go_at_call 71; first | (with_reducible exact Calls.quiet_of_same (K1.out _)) | (with_reducible exact Calls.quiet_of_same (K2.out _)) | (with_reducible exact Calls.quiet_of_same (K3.out _))) | (go_at_call 124; first | (with_reducible exact Calls.quiet_of_same (S1.out _)) | (with_reducible exact Calls.quiet_of_same (S2.out _))) | (go_at_call 123; first | (with_reducible exact Calls.quiet_of (D1.out _)) | (with_reducible exact Calls.quiet_of (D2.out _)))))
  go_wp2
  go_ret
  exact ⟨Ya (by rw [E.out]; rfl), ((Ex.refl _).alloc _).drewN _⟩
theorem Wq (re im den : Int) (w : World) : Calls Tryz.prog 174 #[.agg #[.int .i64 re, .int .i64 im, .int .i64 den]] w fun e w' => e = .returned (.bool (Zg re im den)) ∧ Ex w w' := by
 rcases h1 : Xu re (-2000000000) 2000000000 with _ | _
 ·have e : Zg re im den = false := by simp [Zg, h1]
  have k1 := fun w => Qb re w
  simp only [h1] at k1
  have K1 := Kw k1
  clear k1 h1
  go_enter Tryz.func174, Tryz.ntmps174
  go_wp2
  go_quiet ((go_at_call 227; exact Calls.quiet_of_same (K1.out _)))
  go_wp2
  go_ret
  exact ⟨Ya e.symm, ((Ex.refl _).alloc _).drewN _⟩
 rcases h2 : Xu im (-2000000000) 2000000000 with _ | _
 ·have e : Zg re im den = false := by simp [Zg, h2]
  have k1 := fun w => Qb re w
  have k2 := fun w => Qb im w
  simp only [h1] at k1
  simp only [h2] at k2
  have K1 := Kw k1
  have K2 := Kw k2
  clear k1 k2 h1 h2
  go_enter Tryz.func174, Tryz.ntmps174
  go_wp2
  go_quiet ((go_at_call 227; first | (with_reducible exact Calls.quiet_of_same (K1.out _)) | (with_reducible exact Calls.quiet_of_same (K2.out _))))
  go_wp2
  go_ret
  exact ⟨Ya e.symm, ((Ex.refl _).alloc _).drewN _⟩
 rcases h3 : Xu den 1 2000000000 with _ | _
 ·have e : Zg re im den = false := by simp [Zg, h3]
  have k1 := fun w => Qb re w
  have k2 := fun w => Qb im w
  have k3 := fun w => Sx den 1 2000000000 w
  simp only [h1] at k1
  simp only [h2] at k2
  simp only [h3] at k3
  have K1 := Kw k1
  have K2 := Kw k2
  have K3 := Kw k3
  clear k1 k2 k3 h1 h2 h3
  go_enter Tryz.func174, Tryz.ntmps174
  go_wp2
  go_quiet ((first | (go_at_call 227; first | (with_reducible exact Calls.quiet_of_same (K1.out _)) | (with_reducible exact Calls.quiet_of_same (K2.out _))) | (go_at_call 103; exact Calls.quiet_of_same (K3.out _))))
  go_wp2
  go_ret
  exact ⟨Ya e.symm, ((Ex.refl _).alloc _).drewN _⟩
 ·have i1 := Xt h1
  have i2 := Xt h2
  have i3 := Xt h3
  obtain ⟨dn, rfl⟩ := Int.eq_ofNat_of_zero_le (show 0 ≤ den by omega)
  have e : Zg re im dn = decide (Xh re im dn = 1) := by simp [Zg, h1, h2, h3]
  obtain ⟨a, ha, ha2⟩ : ∃ a : Nat, a = re.natAbs ∧ a ≤ 2000000000 := ⟨_, rfl, by omega⟩
  obtain ⟨b, hb, hb2⟩ : ∃ b : Nat, b = im.natAbs ∧ b ≤ 2000000000 := ⟨_, rfl, by omega⟩
  obtain ⟨g1, hg1, hg2⟩ : ∃ g : Nat, g = Nat.gcd dn a ∧ g ≤ 2000000000 := ⟨_, rfl, gcd_le _ _ (by omega) ha2⟩
  have d1 := fun w => Qr dn re w (by omega) (by omega)
  rw [Int.natAbs_natCast, ← ha, ← hg1] at d1
  obtain ⟨g2, hg3⟩ : ∃ g : Nat, g = Nat.gcd g1 b := ⟨_, rfl⟩
  have d2 := fun w => Qr g1 im w (by omega) (by omega)
  rw [Int.natAbs_natCast, ← hb, ← hg3] at d2
  have e2 : Xh re im dn = (g2 : Int) := by
   unfold Xh
   rw [← ha, ← hb, Int.natAbs_natCast, hg3, hg1, Nat.gcd_comm (Nat.gcd a b) dn, ← Nat.gcd_assoc]
  rw [e2] at e
  have E := Kw e
  have k1 := fun w => Qb re w
  have k2 := fun w => Qb im w
  have k3 := fun w => Sx dn 1 2000000000 w
  simp only [h1] at k1
  simp only [h2] at k2
  simp only [h3] at k3
  have K1 := Kw k1
  have K2 := Kw k2
  have K3 := Kw k3
  have D1 := Kw d1
  have D2 := Kw d2
  clear k1 k2 k3 h1 h2 h3 d1 d2 ha hb hg1 hg3 e e2
  go_enter Tryz.func174, Tryz.ntmps174
  go_wp2
  go_quiet ((first | (go_at_call 227; first | (with_reducible exact Calls.quiet_of_same (K1.out _)) | (with_reducible exact Calls.quiet_of_same (K2.out _))) | (go_at_call 103; exact Calls.quiet_of_same (K3.out _)) | (go_at_call 228; first | (with_reducible exact Calls.quiet_of (D1.out _)) | (with_reducible exact Calls.quiet_of (D2.out _)))))
  go_wp2
  go_ret
  exact ⟨Ya (by rw [E.out]; rfl), ((Ex.refl _).alloc _).drewN _⟩
end
section
structure Fr where
 re : Int
 im : Int
 den : Int
 deriving DecidableEq
def Fr.v (x : Fr) : Value := .agg #[.int .i64 x.re, .int .i64 x.im, .int .i64 x.den]
def Fr.none : Fr := ⟨0, 0, 0⟩
def Fr.valid (x : Fr) : Bool := Zg x.re x.im x.den
def frv (r : Fr × Bool) : Value := .tuple #[r.1.v, .bool r.2]
def flow (re im den : Int) : Fr × Bool :=
 if Xu (re.tdiv (Xh re im den)) (-2000000000) 2000000000 && Xu (im.tdiv (Xh re im den)) (-2000000000) 2000000000 && decide (den.tdiv (Xh re im den) ≤ 2000000000) then
  (⟨re.tdiv (Xh re im den), im.tdiv (Xh re im den), den.tdiv (Xh re im den)⟩, true)
 else (Fr.none, false)

theorem flow_of {re im den g x y z : Int} (hg : Xh re im den = g) (hx : re.tdiv g = x) (hy : im.tdiv g = y) (hz : den.tdiv g = z) :
  flow re im den = if Xu x (-2000000000) 2000000000 && Xu y (-2000000000) 2000000000 && !decide (2000000000 < z) then (⟨x, y, z⟩, true) else (Fr.none, false) := by
 subst hg
 subst hx
 subst hy
 subst hz
 have : (!decide (2000000000 < den.tdiv (Xh re im den))) = decide (den.tdiv (Xh re im den) ≤ 2000000000) := by
  by_cases h : 2000000000 < den.tdiv (Xh re im den)
  ·have h2 : ¬ den.tdiv (Xh re im den) ≤ 2000000000 := by omega
   simp [h, h2]
  ·have h2 : den.tdiv (Xh re im den) ≤ 2000000000 := by omega
   simp [h, h2]
 rw [this]
 rfl
theorem Rm (re im den : Int) : Xh re im den = ((Nat.gcd (Nat.gcd re.natAbs im.natAbs) den.natAbs : Nat) : Int) := rfl
theorem Pt (re im den : Int) (h : 1 ≤ den) : 1 ≤ Xh re im den := by
 have : 0 < Nat.gcd (Nat.gcd re.natAbs im.natAbs) den.natAbs := Nat.gcd_pos_of_pos_right _ (by omega)
 rw [Rm]; omega
theorem gcd3_le (re im den : Int) (h : 1 ≤ den) : Xh re im den ≤ den := by
 have : Nat.gcd (Nat.gcd re.natAbs im.natAbs) den.natAbs ≤ den.natAbs := Nat.gcd_le_right _ (by omega)
 rw [Rm]; omega
theorem Ui (a g m : Int) (h1 : -m ≤ a) (h2 : a ≤ m) : -m ≤ a.tdiv g ∧ a.tdiv g ≤ m := by
 have h : (a.tdiv g).natAbs ≤ a.natAbs := by rw [Int.natAbs_tdiv]; exact Nat.div_le_self _ _
 omega
theorem Mw (re im den : Int) (h : 1 ≤ den) : Xh (re.tdiv (Xh re im den)) (im.tdiv (Xh re im den)) (den.tdiv (Xh re im den)) = 1 := by
 have h0 : 0 < Nat.gcd (Nat.gcd re.natAbs im.natAbs) den.natAbs := Nat.gcd_pos_of_pos_right _ (by omega)
 rw [Rm (re.tdiv _)]
 simp only [Int.natAbs_tdiv]
 rw [Rm, Int.natAbs_natCast]
 obtain ⟨g, hg⟩ : ∃ g, g = Nat.gcd (Nat.gcd re.natAbs im.natAbs) den.natAbs := ⟨_, rfl⟩
 rw [← hg] at h0 ⊢
 have d1 : g ∣ re.natAbs := by rw [hg]; exact Nat.dvd_trans (Nat.gcd_dvd_left _ _) (Nat.gcd_dvd_left _ _)
 have d2 : g ∣ im.natAbs := by rw [hg]; exact Nat.dvd_trans (Nat.gcd_dvd_left _ _) (Nat.gcd_dvd_right _ _)
 have d3 : g ∣ den.natAbs := by rw [hg]; exact Nat.gcd_dvd_right _ _
 show ((Nat.gcd (Nat.gcd (re.natAbs / g) (im.natAbs / g)) (den.natAbs / g) : Nat) : Int) = 1
 rw [Nat.gcd_div d1 d2, Nat.gcd_div (Nat.dvd_gcd d1 d2) d3, ← hg, Nat.div_self h0]
 rfl
theorem Ps (re im den : Int) (h : 1 ≤ den) : 1 ≤ den.tdiv (Xh re im den) := by
 have h1 := Pt re im den h
 have h2 := gcd3_le re im den h
 have : 1 ≤ den / Xh re im den := (Int.le_ediv_iff_mul_le (by omega)).2 (by omega)
 rw [Int.tdiv_eq_ediv_of_nonneg (by omega)]
 exact this
theorem Rl (re im den : Int) (h : 1 ≤ den) : Zg (re.tdiv (Xh re im den)) (im.tdiv (Xh re im den)) (den.tdiv (Xh re im den)) =
  (Xu (re.tdiv (Xh re im den)) (-2000000000) 2000000000 && Xu (im.tdiv (Xh re im den)) (-2000000000) 2000000000 && decide (den.tdiv (Xh re im den) ≤ 2000000000)) := by
 have h1 := Ps re im den h
 have h2 := Mw re im den h
 unfold Zg
 rw [h2]
 have h3 : Xu (den.tdiv (Xh re im den)) 1 2000000000 = decide (den.tdiv (Xh re im den) ≤ 2000000000) := by
  unfold Xu
  simp [h1]
 rw [h3]
 simp
theorem flow_of' {re im den g x y z : Int} (hg : Xh re im den = g) (hx : re.tdiv g = x) (hy : im.tdiv g = y) (hz : den.tdiv g = z)
  (h : Zg x y z = (Xu x (-2000000000) 2000000000 && Xu y (-2000000000) 2000000000 && decide (z ≤ 2000000000))) :
  flow re im den = if Zg x y z then (⟨x, y, z⟩, true) else (Fr.none, false) := by
 rw [h]
 subst hg
 subst hx
 subst hy
 subst hz
 rfl
theorem Sw {re im den : Int} (h : 1 ≤ den) (hk : (flow re im den).2 = true) : (flow re im den).1.valid = true := by
 unfold flow at hk ⊢
 rw [← Rl re im den h] at hk ⊢
 split
 ·rename_i hv; exact hv
 ·rename_i hv; rw [if_neg hv] at hk; cases hk
theorem Xm {re im den : Int} (h : Zg re im den = true) : (-2000000000 ≤ re ∧ re ≤ 2000000000) ∧ (-2000000000 ≤ im ∧ im ≤ 2000000000) ∧ (1 ≤ den ∧ den ≤ 2000000000) ∧ Xh re im den = 1 := by
 unfold Zg at h
 simp only [Bool.and_eq_true, decide_eq_true_eq] at h
 exact ⟨Xt h.1.1.1, Xt h.1.1.2, Xt h.1.2, h.2⟩
theorem Fr.valid_out {x : Fr} (h : x.valid = true) : (-2000000000 ≤ x.re ∧ x.re ≤ 2000000000) ∧ (-2000000000 ≤ x.im ∧ x.im ≤ 2000000000) ∧ (1 ≤ x.den ∧ x.den ≤ 2000000000) ∧ Xh x.re x.im x.den = 1 := Xm h

theorem Xq {a b : Int} (h1 : -2000000000 ≤ a ∧ a ≤ 2000000000) (h2 : -2000000000 ≤ b ∧ b ≤ 2000000000) : -4000000000000000000 ≤ a * b ∧ a * b ≤ 4000000000000000000 := by
 have h : (a * b).natAbs ≤ 2000000000 * 2000000000 := by
  rw [Int.natAbs_mul]
  exact Nat.mul_le_mul (by omega) (by omega)
 omega
theorem Tn {a b : Int} (h1 : 1 ≤ a ∧ a ≤ 2000000000) (h2 : 1 ≤ b ∧ b ≤ 2000000000) : 1 ≤ a * b ∧ a * b ≤ 4000000000000000000 := by
 have h3 := Xq (a := a) (b := b) (by omega) (by omega)
 have h4 : 1 * 1 ≤ a * b := Int.mul_le_mul h1.1 h2.1 (by omega) (by omega)
 omega
end
section
open Go.RowKit

def Yh (w : World) (r : Fr × Bool) : Ending → World → Prop := fun e w' => e = .returned (frv r) ∧ Ex w w'
theorem Yh.spell {P : Program} {f : Nat} {args : Array Value} {w : World} {a b c : Int} {ok : Bool} (h : Calls P f args w (Yh w (⟨a, b, c⟩, ok))) :
  Calls P f args w fun e w' => e = .returned (.tuple #[.agg #[.int .i64 a, .int .i64 b, .int .i64 c], .bool ok]) ∧ Ex w w' := h

theorem Wp (re im den : Int) (w : World) (h1 : -9223372036854775807 ≤ re ∧ re ≤ 9223372036854775807) (h2 : -9223372036854775807 ≤ im ∧ im ≤ 9223372036854775807) (h3 : 1 ≤ den ∧ den ≤ 9223372036854775807) :
  Calls Tryz.prog 121 #[.int .i64 re, .int .i64 im, .int .i64 den] w (Yh w (flow re im den)) := by
 obtain ⟨dn, rfl⟩ := Int.eq_ofNat_of_zero_le (show 0 ≤ den by omega)
 have g1 := Pt re im dn h3.1
 have g2 := gcd3_le re im dn h3.1
 obtain ⟨a, ha, ha2⟩ : ∃ a : Nat, a = re.natAbs ∧ a ≤ 9223372036854775807 := ⟨_, rfl, by omega⟩
 obtain ⟨b, hb, hb2⟩ : ∃ b : Nat, b = im.natAbs ∧ b ≤ 9223372036854775807 := ⟨_, rfl, by omega⟩
 have s1 := fun w => size_q re w (by omega)
 have s2 := fun w => size_q im w (by omega)
 rw [← ha] at s1
 rw [← hb] at s2
 have hgle : Nat.gcd a b ≤ 9223372036854775807 := by
  rcases Nat.eq_zero_or_pos a with h | h
  ·subst h; simpa using hb2
  ·exact Nat.le_trans (Nat.gcd_le_left b h) ha2
 obtain ⟨p, hp, hp2⟩ : ∃ g : Nat, g = Nat.gcd a b ∧ g ≤ 9223372036854775807 := ⟨_, rfl, hgle⟩
 have d1 := fun w => To a b w (by omega) (by omega)
 rw [← hp] at d1
 obtain ⟨g, hg⟩ : ∃ g : Nat, g = Nat.gcd p dn := ⟨_, rfl⟩
 have d2 := fun w => To p dn w (by omega) (by omega)
 rw [← hg] at d2
 have e2 : Xh re im dn = (g : Int) := by
  unfold Xh
  rw [← ha, ← hb, ← hp, Int.natAbs_natCast, ← hg]
 rw [e2] at g1 g2
 have b1 := Ui re g 9223372036854775807 h1.1 h1.2
 have b2 := Ui im g 9223372036854775807 h2.1 h2.2
 have b3 := Ui dn g 9223372036854775807 (by omega) h3.2
 obtain ⟨x, hx⟩ : ∃ x, re.tdiv (g : Int) = x := ⟨_, rfl⟩
 obtain ⟨y, hy⟩ : ∃ x, im.tdiv (g : Int) = x := ⟨_, rfl⟩
 obtain ⟨z, hz⟩ : ∃ x, (dn : Int).tdiv (g : Int) = x := ⟨_, rfl⟩
 rw [hx] at b1
 rw [hy] at b2
 rw [hz] at b3
 have hf := flow_of e2 hx hy hz
 have HF := Kw hf
 have S1 := Kw s1
 have S2 := Kw s2
 have D1 := Kw d1
 have D2 := Kw d2
 have hg0 : ((g : Int) != 0) = true := by simp; omega
 have w1 := Kq x (by omega)
 have w2 := Kq y (by omega)
 have w3 := Kq z (by omega)
 clear hf s1 s2 d1 d2 ha hb hp hg e2 hgle
 have k1 := fun w => Yf x (-2000000000) 2000000000 w
 have k2 := fun w => Yf y (-2000000000) 2000000000 w
 rcases hi1 : Xu x (-2000000000) 2000000000 with _ | _ <;> rcases hi2 : Xu y (-2000000000) 2000000000 with _ | _ <;> rcases hi3 : decide (2000000000 < z) with _ | _
 all_goals
  rw [hi1] at k1
  rw [hi2] at k2
  have hfin := HF.out
  rw [hi1, hi2, hi3] at hfin
  simp at hfin
  rw [hfin]
  have K1 := Kw k1
  have K2 := Kw k2
  clear hfin HF k1 k2 hi1 hi2
  go_enter Tryz.func121, Tryz.ntmps121
  go_wp2_with (first
   | (go_at_call 124; (first | (with_reducible refine (S1.out _).mono ?_) | (with_reducible refine (S2.out _).mono ?_)); rintro e wn ⟨rfl, rfl⟩)
   | (go_at_call 123; (first | (with_reducible refine (D1.out _).mono ?_) | (with_reducible refine (D2.out _).mono ?_)); rintro e wn ⟨rfl, d, rfl⟩))
  go_region
  go_wp2_with (go_at_call 71; (first | (with_reducible refine (K1.out _).mono ?_) | (with_reducible refine (K2.out _).mono ?_)); rintro e wn ⟨rfl, rfl⟩)
  all_goals
   first
    | (refine Kr (v := frv (Fr.none, false)) ?_ rfl ⟨rfl, ?_⟩; · simp [results, Tryz.results121, go_sem, frv, Fr.v, Fr.none])
    | (refine Kr (v := frv (⟨x, y, z⟩, true)) ?_ rfl ⟨rfl, ?_⟩; · simp [results, Tryz.results121, go_sem, frv, Fr.v])
   repeat' (with_reducible first | exact Ex.refl _ | assumption | apply Ex.alloc | apply Ex.drewN | apply Ex.drew | refine Ex.setCell ?_ (by simp <;> omega) _)

theorem Oo (re im den : Int) (w : World) (h1 : -9223372036854775807 ≤ re ∧ re ≤ 9223372036854775807) (h2 : -9223372036854775807 ≤ im ∧ im ≤ 9223372036854775807) (h3 : 1 ≤ den ∧ den ≤ 9223372036854775807) :
  Calls Tryz.prog 175 #[.int .i64 re, .int .i64 im, .int .i64 den] w (Yh w (flow re im den)) := by
 have g1 := Pt re im den h3.1
 have g2 := gcd3_le re im den h3.1
 have d1 := fun w => Qr den re w (by omega) (by omega)
 have hgle : Nat.gcd den.natAbs re.natAbs ≤ 9223372036854775807 := Nat.le_trans (Nat.gcd_le_left _ (by omega)) (show den.natAbs ≤ _ by omega)
 obtain ⟨p, hp, hp2⟩ : ∃ g : Nat, g = Nat.gcd den.natAbs re.natAbs ∧ g ≤ 9223372036854775807 := ⟨_, rfl, hgle⟩
 rw [← hp] at d1
 obtain ⟨g, hg⟩ : ∃ g : Nat, g = Nat.gcd p im.natAbs := ⟨_, rfl⟩
 have d2 := fun w => Qr p im w (by omega) (by omega)
 rw [Int.natAbs_natCast, ← hg] at d2
 have e2 : Xh re im den = (g : Int) := by
  unfold Xh
  rw [hg, hp, Nat.gcd_comm (Nat.gcd re.natAbs im.natAbs) den.natAbs, ← Nat.gcd_assoc]
 rw [e2] at g1 g2
 have b1 := Ui re g 9223372036854775807 h1.1 h1.2
 have b2 := Ui im g 9223372036854775807 h2.1 h2.2
 have b3 := Ui den g 9223372036854775807 (by omega) h3.2
 have hv := Rl re im den h3.1
 rw [e2] at hv
 obtain ⟨x, hx⟩ : ∃ x, re.tdiv (g : Int) = x := ⟨_, rfl⟩
 obtain ⟨y, hy⟩ : ∃ x, im.tdiv (g : Int) = x := ⟨_, rfl⟩
 obtain ⟨z, hz⟩ : ∃ x, den.tdiv (g : Int) = x := ⟨_, rfl⟩
 rw [hx] at b1
 rw [hy] at b2
 rw [hz] at b3
 rw [hx, hy, hz] at hv
 have hf := flow_of' e2 hx hy hz hv
 have D1 := Kw d1
 have D2 := Kw d2
 have hg0 : ((g : Int) != 0) = true := by simp; omega
 have w1 := Kq x (by omega)
 have w2 := Kq y (by omega)
 have w3 := Kq z (by omega)
 clear d1 d2 hp hg e2 hgle hv
 have k1 := fun w => Wq x y z w
 rcases hi1 : Zg x y z with _ | _
 all_goals
  rw [hi1] at k1 hf
  simp at hf
  rw [hf]
  have K1 := Kw k1
  clear k1 hf hi1
  go_enter Tryz.func175, Tryz.ntmps175
  go_wp2_with ((go_at_call 228; (first | (with_reducible refine (D1.out _).mono ?_) | (with_reducible refine (D2.out _).mono ?_)); rintro e wn ⟨rfl, d, rfl⟩))
  go_region
  go_wp2_with fail
  refine (K1.out _).mono ?_
  rintro e w5 ⟨rfl, hx⟩
  have hE : Ex w w5 := by
   refine Ex.trans ?_ hx
   repeat' (with_reducible first | exact Ex.refl _ | assumption | apply Ex.alloc | apply Ex.drewN | apply Ex.drew | refine Ex.setCell ?_ (by simp <;> omega) _)
  have hb := (Box.new _ #[.int .i64 x, .int .i64 y, .int .i64 z] 30).ex hx
  have hb0 : Box w5 w.heap.size 30 #[.int .i64 0, .int .i64 0, .int .i64 0] := by
   refine Box.ex (Box.new w _ _) (Ex.trans ?_ hx)
   repeat' (with_reducible first | exact Ex.refl _ | assumption | apply Ex.alloc | apply Ex.drewN | apply Ex.drew | refine Ex.setCell ?_ (by simp <;> omega) _)
  simp only [Kv, World.heap_drewN] at hb
  have c := hb.cell
  have c0 := hb0.cell
  have f0 := hb0.frozen
  clear hx hb
  go_wp2
  first
   | (refine Kr (v := frv (Fr.none, false)) ?_ rfl ⟨rfl, ?_⟩; · simp [results, Tryz.results175, go_sem, frv, Fr.v, Fr.none, c0, f0])
   | (refine Kr (v := frv (⟨x, y, z⟩, true)) ?_ rfl ⟨rfl, ?_⟩; · simp [results, Tryz.results175, go_sem, frv, Fr.v, c0, f0])
  repeat' (with_reducible first | exact Ex.refl _ | assumption | apply Ex.alloc | apply Ex.drewN | apply Ex.drew | refine Ex.setCell ?_ (by simp <;> omega) _)
end
section
def Za (a b : Fr) : Fr × Bool := if a.valid && b.valid then flow (a.re * b.den + b.re * a.den) (a.im * b.den + b.im * a.den) (a.den * b.den) else (Fr.none, false)
def Xy (a b : Fr) : Fr × Bool := if a.valid && b.valid then flow (a.re * b.den - b.re * a.den) (a.im * b.den - b.im * a.den) (a.den * b.den) else (Fr.none, false)
def Zu (a b : Fr) : Fr × Bool := if a.valid && b.valid then flow (a.re * b.re - a.im * b.im) (a.re * b.im + a.im * b.re) (a.den * b.den) else (Fr.none, false)
def Zj (a : Fr) : Fr × Bool := if a.valid then flow (a.re * a.re + a.im * a.im) 0 (a.den * a.den) else (Fr.none, false)
def Ze (a : Fr) : Fr × Bool := if a.valid then (⟨a.re, -a.im, a.den⟩, true) else (Fr.none, false)
def fsign (n : Int) : Int := if n < 0 then -1 else if 0 < n then 1 else 0
def fcmp (a b : Fr) : Int × Bool := if a.valid && b.valid && decide (a.im = 0) && decide (b.im = 0) then (fsign (a.re * b.den - b.re * a.den), true) else (0, false)

def Yu (s : Int) (a b : Fr) : Fr × Bool := if a.valid && b.valid then flow (a.re * b.den + s * b.re * a.den) (a.im * b.den + s * b.im * a.den) (a.den * b.den) else (Fr.none, false)
theorem fsum_less (a b : Fr) : Yu (-1) a b = Xy a b := by
 unfold Yu Xy
 have e1 : a.re * b.den + -1 * b.re * a.den = a.re * b.den - b.re * a.den := by
  rw [Int.neg_mul, Int.one_mul, Int.neg_mul]; omega
 have e2 : a.im * b.den + -1 * b.im * a.den = a.im * b.den - b.im * a.den := by
  rw [Int.neg_mul, Int.one_mul, Int.neg_mul]; omega
 rw [e1, e2]
theorem Mh (a b : Fr) : Yu 1 a b = Za a b := by
 unfold Yu Za
 rw [Int.one_mul, Int.one_mul]
theorem sgn_bd {s b : Int} (hs : s = 1 ∨ s = -1) (h : -2000000000 ≤ b ∧ b ≤ 2000000000) : -2000000000 ≤ s * b ∧ s * b ≤ 2000000000 := by
 rcases hs with rfl | rfl <;> omega

section
variable {a1 a2 a3 b1 b2 b3 : Int}
theorem fadd2_ok (h1 : Zg a1 a2 a3 = true) (h2 : Zg b1 b2 b3 = true) : Za ⟨a1, a2, a3⟩ ⟨b1, b2, b3⟩ = flow (a1 * b3 + b1 * a3) (a2 * b3 + b2 * a3) (a3 * b3) := by simp [Za, Fr.valid, h1, h2]
theorem fless_ok (h1 : Zg a1 a2 a3 = true) (h2 : Zg b1 b2 b3 = true) : Xy ⟨a1, a2, a3⟩ ⟨b1, b2, b3⟩ = flow (a1 * b3 - b1 * a3) (a2 * b3 - b2 * a3) (a3 * b3) := by simp [Xy, Fr.valid, h1, h2]
theorem fsum_ok {s : Int} (h1 : Zg a1 a2 a3 = true) (h2 : Zg b1 b2 b3 = true) : Yu s ⟨a1, a2, a3⟩ ⟨b1, b2, b3⟩ = flow (a1 * b3 + s * b1 * a3) (a2 * b3 + s * b2 * a3) (a3 * b3) := by simp [Yu, Fr.valid, h1, h2]
theorem On (h1 : Zg a1 a2 a3 = true) (h2 : Zg b1 b2 b3 = true) : Zu ⟨a1, a2, a3⟩ ⟨b1, b2, b3⟩ = flow (a1 * b1 - a2 * b2) (a1 * b2 + a2 * b1) (a3 * b3) := by simp [Zu, Fr.valid, h1, h2]
theorem fpower_ok (h1 : Zg a1 a2 a3 = true) : Zj ⟨a1, a2, a3⟩ = flow (a1 * a1 + a2 * a2) 0 (a3 * a3) := by simp [Zj, Fr.valid, h1]
end
theorem fvalid_mirror (a b c : Int) : Zg a (-b) c = Zg a b c := by
 have h : Xu (-b) (-2000000000) 2000000000 = Xu b (-2000000000) 2000000000 := by
  unfold Xu
  by_cases h1 : -2000000000 ≤ b <;> by_cases h2 : b ≤ 2000000000 <;> simp [h1, h2] <;> omega
 have h2 : Xh a (-b) c = Xh a b c := by unfold Xh; rw [Int.natAbs_neg]
 unfold Zg
 rw [h, h2]
theorem fpower_times (a : Fr) : Zj a = if (Ze a).2 then Zu a (Ze a).1 else (Fr.none, false) := by
 obtain ⟨a1, a2, a3⟩ := a
 rcases h : Zg a1 a2 a3 with _ | _
 ·simp [Zj, Ze, Fr.valid, h]
 ·have h2 : Zg a1 (-a2) a3 = true := by rw [fvalid_mirror]; exact h
  have e : Ze ⟨a1, a2, a3⟩ = (⟨a1, -a2, a3⟩, true) := by simp [Ze, Fr.valid, h]
  rw [e, fpower_ok h]
  simp only [if_true]
  rw [On h h2]
  have e1 : a1 * a1 - a2 * -a2 = a1 * a1 + a2 * a2 := by rw [Int.mul_neg]; omega
  have e2 : a1 * -a2 + a2 * a1 = 0 := by rw [Int.mul_neg, Int.mul_comm a2 a1]; omega
  rw [e1, e2]
theorem Pp {re den : Int} : (flow re 0 den).1.im = 0 := by
 unfold flow
 split <;> simp [Fr.none]
theorem fpower_valid {a : Fr} (h : (Zj a).2 = true) : (Zj a).1.valid = true ∧ (Zj a).1.im = 0 := by
 unfold Zj at h ⊢
 split
 ·rename_i hv
  rw [if_pos hv] at h
  have h1 := Fr.valid_out (x := a) hv
  exact ⟨Sw (Tn h1.2.2.1 h1.2.2.1).1 h, Pp⟩
 ·rename_i hv
  rw [if_neg hv] at h
  cases h
end
section
theorem flow_val {re im den : Int} (h : 1 ≤ den) (hk : (flow re im den).2 = true) :
  (flow re im den).1.re * den = re * (flow re im den).1.den ∧ (flow re im den).1.im * den = im * (flow re im den).1.den ∧ 1 ≤ (flow re im den).1.den := by
 have hg := Pt re im den h
 have hd : ∀ x : Int, ((Xh re im den).natAbs ∣ x.natAbs) → x.tdiv (Xh re im den) * Xh re im den = x := fun x hx => Int.tdiv_mul_cancel (Int.natAbs_dvd_natAbs.1 hx)
 have e : (Xh re im den).natAbs = Nat.gcd (Nat.gcd re.natAbs im.natAbs) den.natAbs := by rw [Rm, Int.natAbs_natCast]
 have d1 := hd re (by rw [e]; exact Nat.dvd_trans (Nat.gcd_dvd_left _ _) (Nat.gcd_dvd_left _ _))
 have d2 := hd im (by rw [e]; exact Nat.dvd_trans (Nat.gcd_dvd_left _ _) (Nat.gcd_dvd_right _ _))
 have d3 := hd den (by rw [e]; exact Nat.gcd_dvd_right _ _)
 have hp := Ps re im den h
 unfold flow at hk ⊢
 split
 ·dsimp only
  generalize re.tdiv (Xh re im den) = a at d1 hp ⊢
  generalize im.tdiv (Xh re im den) = b at d2 hp ⊢
  generalize den.tdiv (Xh re im den) = c at d3 hp ⊢
  generalize Xh re im den = g at d1 d2 d3
  rw [← d1, ← d2, ← d3]
  refine ⟨?_, ?_, hp⟩
  ·rw [Int.mul_comm c g, ← Int.mul_assoc]
  ·rw [Int.mul_comm c g, ← Int.mul_assoc]
 ·rename_i hn
  rw [if_neg hn] at hk
  cases hk
def Tj (b : Fr) : Fr × Bool := flow (b.den * b.re) (-b.den * b.im) (b.re * b.re + b.im * b.im)
def Om (b : Fr) : Bool := decide (b.re = 0) && decide (b.im = 0)
def Ve (a b : Fr) : Fr × Bool :=
 if a.valid && b.valid && !Om b then
  if (Tj b).2 then Zu a (Tj b).1 else (Fr.none, false)
 else (Fr.none, false)
theorem Uw (a : Int) : 0 ≤ a * a := by
 rcases Int.le_total 0 a with h | h
 ·exact Int.mul_nonneg h h
 ·have := Int.mul_nonneg (a := -a) (b := -a) (by omega) (by omega)
  rwa [Int.neg_mul_neg] at this
theorem Uh {a b : Int} (h1 : 1 ≤ a) (h2 : 1 ≤ b) : 1 ≤ a * b := by
 have := Int.mul_pos (a := a) (b := b) (by omega) (by omega)
 omega
theorem sq_pos {b : Fr} (h : Om b = false) : 1 ≤ b.re * b.re + b.im * b.im := by
 have h1 : 0 ≤ b.re * b.re := Uw _
 have h2 : 0 ≤ b.im * b.im := Uw _
 by_cases e : b.re = 0
 ·have e2 : b.im ≠ 0 := by
   intro h3
   rw [Om, decide_eq_true e, decide_eq_true h3] at h
   cases h
  have h3 : b.im * b.im ≠ 0 := Int.mul_ne_zero e2 e2
  omega
 ·have h3 : b.re * b.re ≠ 0 := Int.mul_ne_zero e e
  omega
theorem fover_none {a b : Fr} (h : (Ve a b).2 = false) : (Ve a b).1 = Fr.none := by
 unfold Ve at h ⊢
 split
 ·rename_i h1
  rw [if_pos h1] at h
  split
  ·rename_i h2
   rw [if_pos h2] at h
   unfold Zu at h ⊢
   split
   ·rename_i h3
    rw [if_pos h3] at h
    unfold flow at h ⊢
    split
    ·rename_i h4
     rw [if_pos h4] at h
     cases h
    ·rfl
   ·rfl
  ·rfl
 ·rfl
end
section
theorem Mq {x y z : Int} (h : (flow x y z).2 = false) : (flow x y z).1 = Fr.none := by
 unfold flow at h ⊢
 split
 ·rename_i h2; rw [if_pos h2] at h; cases h
 ·rfl
theorem Wg : Fr.none.valid = false := by decide
theorem Mc {a b : Fr} (h : b.valid = false) : Zu a b = (Fr.none, false) := by simp [Zu, h]
theorem fadd2_no1 {a b : Fr} (h : a.valid = false) : Za a b = (Fr.none, false) := by simp [Za, h]
theorem fadd2_no2 {a b : Fr} (h : b.valid = false) : Za a b = (Fr.none, false) := by simp [Za, h]
theorem ftimes_no {a b : Fr} (h : (Zu a b).2 = false) : (Zu a b).1 = Fr.none := by
 unfold Zu at h ⊢
 split
 ·rename_i h2; rw [if_pos h2] at h; exact Mq h
 ·rfl
def Xx (a b c d : Fr) : Fr × Bool := Za (Zu a b).1 (Zu c d).1
theorem finner_eq (a b c d : Fr) : (if (Zu a b).2 && (Zu c d).2 then Za (Zu a b).1 (Zu c d).1 else (Fr.none, false)) = Xx a b c d := by
 unfold Xx
 rcases h1 : (Zu a b).2 with _ | _
 ·rw [ftimes_no h1, fadd2_no1 Wg]; rfl
 rcases h2 : (Zu c d).2 with _ | _
 ·rw [ftimes_no h2, fadd2_no2 Wg]; rfl
 rfl
theorem Qq (a b c d : Fr) (x : Bool) : (((x || !(Zu a b).2) || !(Zu c d).2) || !(Xx a b c d).2) = (x || !(Xx a b c d).2) := by
 have := finner_eq a b c d
 rcases h1 : (Zu a b).2 with _ | _
 ·rw [h1] at this; simp only [Bool.false_and, Bool.false_eq_true, if_false] at this; rw [← this]; simp
 rcases h2 : (Zu c d).2 with _ | _
 ·rw [h1, h2] at this; simp only [Bool.and_false, Bool.false_eq_true, if_false] at this; rw [← this]; simp
 simp

structure M4 where
 a : Fr
 b : Fr
 c : Fr
 d : Fr
 deriving DecidableEq
def M4.none : M4 := ⟨Fr.none, Fr.none, Fr.none, Fr.none⟩
def M4.valid (m : M4) : Bool := m.a.valid && m.b.valid && m.c.valid && m.d.valid
def M4.v (m : M4) : Value := .agg #[.int .i64 m.a.re, .int .i64 m.a.im, .int .i64 m.a.den, .int .i64 m.b.re, .int .i64 m.b.im, .int .i64 m.b.den, .int .i64 m.c.re, .int .i64 m.c.im, .int .i64 m.c.den, .int .i64 m.d.re, .int .i64 m.d.im, .int .i64 m.d.den]
def Po (a b c d : Fr × Bool) (ok : Bool) : M4 × Bool := if ok && a.2 && b.2 && c.2 && d.2 then (⟨a.1, b.1, c.1, d.1⟩, true) else (M4.none, false)
def Yx (x y : M4) : M4 × Bool := Po (Xx x.a y.a x.b y.c) (Xx x.a y.b x.b y.d) (Xx x.c y.a x.d y.c) (Xx x.c y.b x.d y.d) (x.valid && y.valid)
def Vl (x : M4) : M4 × Bool := Po (Ze x.a) (Ze x.c) (Ze x.b) (Ze x.d) true
def Fr.one : Fr := ⟨1, 0, 1⟩
def Fr.nul : Fr := ⟨0, 0, 1⟩
def two (a b : Fr × Bool) (ok : Bool) : (Fr × Fr) × Bool := if ok && a.2 && b.2 then ((a.1, b.1), true) else ((Fr.none, Fr.none), false)
def Rh (m : M4) (x y : Fr) : (Fr × Fr) × Bool := two (Xx m.a x m.b y) (Xx m.c x m.d y) (m.valid && (x.valid && y.valid))
def jpower (x y : Fr) : Fr × Bool := Za (Zj x).1 (Zj y).1
def Xd (p q : Int) : Bool := Xu p (-100) 100 && Xu q (-100) 100 && !(decide (p = 0) && decide (q = 0))
def Vx (p q : Int) : Fr := (flow (p * p - q * q) 0 (p * p + q * q)).1
def Vw (p q : Int) : Fr := (flow (2 * p * q) 0 (p * p + q * q)).1
def fneg (a : Fr) : Fr := ⟨-a.re, -a.im, a.den⟩
def Yt (p q : Int) : M4 × Bool := if Xd p q then (⟨Vx p q, fneg (Vw p q), Vw p q, Vx p q⟩, true) else (M4.none, false)
def Xw (k : Int) : Fr := if k = 0 then ⟨1, 0, 1⟩ else if k = 1 then ⟨0, 1, 1⟩ else if k = 2 then ⟨-1, 0, 1⟩ else ⟨0, -1, 1⟩
def Yn (p q k : Int) : M4 × Bool :=
 if Xd p q && Xu k 0 3 then
  (if (Yx (Yt p q).1 ⟨Fr.one, Fr.nul, Fr.nul, Xw k⟩).2 && (Yx (Yx (Yt p q).1 ⟨Fr.one, Fr.nul, Fr.nul, Xw k⟩).1 (Vl (Yt p q).1).1).2 then
   Yx (Yx (Yt p q).1 ⟨Fr.one, Fr.nul, Fr.nul, Xw k⟩).1 (Vl (Yt p q).1).1 else (M4.none, false))
 else (M4.none, false)
def Yb (p q : Int) : M4 × Bool :=
 if Xd p q then Po (Zu (Vx p q) (Vx p q)) (Zu (Vx p q) (Vw p q)) (Zu (Vx p q) (Vw p q)) (Zu (Vw p q) (Vw p q)) true else (M4.none, false)
theorem Mb {re im den : Int} (h1 : -2000000000 ≤ re ∧ re ≤ 2000000000) (h2 : -2000000000 ≤ im ∧ im ≤ 2000000000) (h3 : 1 ≤ den ∧ den ≤ 2000000000) : (flow re im den).2 = true := by
 have b1 := Ui re (Xh re im den) 2000000000 h1.1 h1.2
 have b2 := Ui im (Xh re im den) 2000000000 h2.1 h2.2
 have b3 := Ui den (Xh re im den) 2000000000 (by omega) h3.2
 unfold flow Xu
 rw [if_pos]
 simp only [Bool.and_eq_true, decide_eq_true_eq]
 exact ⟨⟨⟨b1.1, b1.2⟩, ⟨b2.1, b2.2⟩⟩, b3.2⟩
end
section
structure Rp (f : Fr) (X Y D : Int) : Prop where
 re : f.re * D = X * f.den
 im : f.im * D = Y * f.den
 pos : 1 ≤ D
 den : 1 ≤ f.den
theorem Rp.own {f : Fr} (h : f.valid = true) : Rp f f.re f.im f.den := by
 obtain ⟨-, -, ⟨hd, -⟩, -⟩ := Fr.valid_out h
 exact ⟨rfl, rfl, hd, hd⟩
theorem Rp.cast {f : Fr} {X Y D X' Y' D' : Int} (h : Rp f X Y D) (h1 : X = X') (h2 : Y = Y') (h3 : D = D') : Rp f X' Y' D' := by
 subst h1 h2 h3
 exact h
theorem Rp.flow {X Y D : Int} {f : Fr} (hD : 1 ≤ D) (h : flow X Y D = (f, true)) : Rp f X Y D := by
 have := flow_val (re := X) (im := Y) hD (by rw [h])
 rw [h] at this
 exact ⟨this.1, this.2.1, hD, this.2.2⟩
theorem Rp.times {f g h : Fr} {X Y D X' Y' D' : Int} (hf : Rp f X Y D) (hg : Rp g X' Y' D') (ht : Zu f g = (h, true)) : Rp h (X * X' - Y * Y') (X * Y' + Y * X') (D * D') := by
 unfold Zu at ht
 split at ht
 ·have hp := Uh hf.den hg.den
  obtain ⟨k1, k2, -, k4⟩ := Rp.flow hp ht
  obtain ⟨f1, f2, f3, -⟩ := hf
  obtain ⟨g1, g2, g3, -⟩ := hg
  have hne : f.den * g.den ≠ 0 := by omega
  refine ⟨Int.eq_of_mul_eq_mul_right hne ?_, Int.eq_of_mul_eq_mul_right hne ?_, Uh f3 g3, k4⟩
  ·have e : h.re * (D * D') * (f.den * g.den) = ((f.re * D) * (g.re * D') - (f.im * D) * (g.im * D')) * h.den := by grind
   rw [e, f1, f2, g1, g2]; grind
  ·have e : h.im * (D * D') * (f.den * g.den) = ((f.re * D) * (g.im * D') + (f.im * D) * (g.re * D')) * h.den := by grind
   rw [e, f1, f2, g1, g2]; grind
 ·cases ht
theorem Rp.add {f g h : Fr} {X Y D X' Y' D' : Int} (hf : Rp f X Y D) (hg : Rp g X' Y' D') (ht : Za f g = (h, true)) : Rp h (X * D' + X' * D) (Y * D' + Y' * D) (D * D') := by
 unfold Za at ht
 split at ht
 ·have hp := Uh hf.den hg.den
  obtain ⟨k1, k2, -, k4⟩ := Rp.flow hp ht
  obtain ⟨f1, f2, f3, -⟩ := hf
  obtain ⟨g1, g2, g3, -⟩ := hg
  have hne : f.den * g.den ≠ 0 := by omega
  refine ⟨Int.eq_of_mul_eq_mul_right hne ?_, Int.eq_of_mul_eq_mul_right hne ?_, Uh f3 g3, k4⟩
  ·have e : h.re * (D * D') * (f.den * g.den) = ((f.re * D) * (g.den * D') + (g.re * D') * (f.den * D)) * h.den := by grind
   rw [e, f1, g1]; grind
  ·have e : h.im * (D * D') * (f.den * g.den) = ((f.im * D) * (g.den * D') + (g.im * D') * (f.den * D)) * h.den := by grind
   rw [e, f2, g2]; grind
 ·cases ht
theorem Rp.power {f h : Fr} {X Y D : Int} (hf : Rp f X Y D) (ht : Zj f = (h, true)) : Rp h (X * X + Y * Y) 0 (D * D) := by
 unfold Zj at ht
 split at ht
 ·have hp := Uh hf.den hf.den
  obtain ⟨k1, k2, -, k4⟩ := Rp.flow hp ht
  obtain ⟨f1, f2, f3, -⟩ := hf
  have hne : f.den * f.den ≠ 0 := by omega
  refine ⟨Int.eq_of_mul_eq_mul_right hne ?_, Int.eq_of_mul_eq_mul_right hne ?_, Uh f3 f3, k4⟩
  ·have e : h.re * (D * D) * (f.den * f.den) = ((f.re * D) * (f.re * D) + (f.im * D) * (f.im * D)) * h.den := by grind
   rw [e, f1, f2]; grind
  ·have e : h.im * (D * D) * (f.den * f.den) = (h.im * (f.den * f.den)) * (D * D) := by grind
   rw [e, k2]; grind
 ·cases ht
theorem M4.valid_out {m : M4} (h : m.valid = true) : m.a.valid = true ∧ m.b.valid = true ∧ m.c.valid = true ∧ m.d.valid = true := by
 unfold M4.valid at h
 simp only [Bool.and_eq_true] at h
 exact ⟨h.1.1.1, h.1.1.2, h.1.2, h.2⟩

def flt11 : M4 := ⟨Fr.nul, Fr.nul, Fr.nul, Fr.one⟩
def fcell (p q k : Int) : Fr × Bool :=
 jpower (Rh flt11 (Rh (Yn p q k).1 Fr.one Fr.nul).1.1 (Rh (Yn p q k).1 Fr.one Fr.nul).1.2).1.1 (Rh flt11 (Rh (Yn p q k).1 Fr.one Fr.nul).1.1 (Rh (Yn p q k).1 Fr.one Fr.nul).1.2).1.2
end
section
open Go.RowKit

def Fr.cs (x : Fr) : List Value := [.int .i64 x.re, .int .i64 x.im, .int .i64 x.den]
def Ut (xs : List Fr) : List Value := xs.flatMap Fr.cs
theorem frCells_len (xs : List Fr) : (Ut xs).length = xs.length * 3 := by
 induction xs with
 | nil => rfl
 | cons x xs ih => simp [Ut, Fr.cs] at *; omega
def Fr.zero : Fr := ⟨0, 0, 0⟩
theorem frCells_at (xs : List Fr) (k : Nat) (hk : k < xs.length) :
  (Ut xs)[k * 3]? = some (.int .i64 (xs.getD k .zero).re) ∧ (Ut xs)[k * 3 + 1]? = some (.int .i64 (xs.getD k .zero).im) ∧ (Ut xs)[k * 3 + 2]? = some (.int .i64 (xs.getD k .zero).den) := by
 induction xs generalizing k with
 | nil => simp at hk
 | cons x xs ih =>
  match k with
  | 0 => simp [Ut, Fr.cs]
  | k + 1 =>
   have h := ih k (by simpa using hk)
   have e : Ut (x :: xs) = Value.int .i64 x.re :: .int .i64 x.im :: .int .i64 x.den :: Ut xs := rfl
   rw [e]
   have e1 : (k + 1) * 3 = k * 3 + 1 + 1 + 1 := by omega
   rw [e1]
   simpa using h
def Uj (w : World) (A : Option Addr) (xs : List Fr) : Prop := Slc w A (Ut xs)
section
variable {w w1 : World} {A : Option Addr} {xs : List Fr}
theorem Uj.ex (h : Uj w A xs) (he : Ex w w1) : Uj w1 A xs := Slc.ex h he
theorem Uj.alloc (h : Uj w A xs) (o : Obj) : Uj (w.alloc o) A xs := Slc.alloc h o
theorem Uj.drew (h : Uj w A xs) : Uj w.drew A xs := h
theorem Uj.at (h : Uj w A xs) (hp : 0 < xs.length) : ∃ b off, A = some ⟨b, off, none⟩ ∧ ∀ k, k < xs.length →
  w.cell? ⟨b, off + k * 3, none⟩ = some (.int .i64 (xs.getD k .zero).re) ∧ w.cell? ⟨b, off + k * 3 + 1, none⟩ = some (.int .i64 (xs.getD k .zero).im) ∧ w.cell? ⟨b, off + k * 3 + 2, none⟩ = some (.int .i64 (xs.getD k .zero).den) := by
 have hl := frCells_len xs
 obtain ⟨b, off, rfl, hc⟩ := h (by omega)
 refine ⟨b, off, rfl, fun k hk => ?_⟩
 obtain ⟨h1, h2, h3⟩ := frCells_at xs k hk
 have c1 := hc (k * 3) (by omega)
 have c2 := hc (k * 3 + 1) (by omega)
 have c3 := hc (k * 3 + 2) (by omega)
 rw [h1] at c1; rw [h2] at c2; rw [h3] at c3
 exact ⟨c1, c2, c3⟩
end
def gok (xs : List Fr) : Bool := xs.all Fr.valid && Xu xs.length 1 40
end
end Go.Proofs.YtiommfmaleeibaaGreatDoor
