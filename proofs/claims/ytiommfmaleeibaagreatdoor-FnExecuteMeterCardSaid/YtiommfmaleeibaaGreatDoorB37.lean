/-
  Proved: what functions compute, part 37. No condition.
-/
import Derived.Test.YtiommfmaleeibaaGreatDoorB34
import Derived.Test.YtiommfmaleeibaaGreatDoorB36
import Derived.Test.YtiommfmaleeibaaGreatDoorB35
set_option linter.unusedSimpArgs false
set_option linter.unusedVariables false
set_option maxRecDepth 20000
set_option maxHeartbeats 8000000
namespace Go.Proofs.YtiommfmaleeibaaGreatDoor
section
open Go.RowKit

theorem Zw.exOf {W w : World} {L : List (Nat × TypeId × Array Value)} [h : Zw W w L] : Ex W w := h.ex
theorem cutl_at (a t : List UInt8) (h : ∀ c ∈ a, c ≠ 32) : Nm (a ++ 32 :: t) = (a, t, true) := by
 have key : ∀ a : List UInt8, (∀ c ∈ a, c ≠ 32) → Lib.index (a ++ 32 :: t) [32] = (a.length : Nat) := by
  intro a
  induction a with
  | nil =>
   intro _
   simp [Lib.index, List.isPrefixOf]
  | cons b a ih =>
   intro h
   have hb : b ≠ 32 := h b List.mem_cons_self
   have hp : ([32] : List UInt8).isPrefixOf (b :: (a ++ 32 :: t)) = false := by
    simp [List.isPrefixOf]
    exact fun e => hb e.symm
   have h1 := ih fun c hc => h c (List.mem_cons_of_mem _ hc)
   rw [List.cons_append]
   unfold Lib.index
   rw [hp, h1]
   have : (((a.length : Nat) : Int) == -1) = false := by rw [beq_eq_false_iff_ne]; omega
   simp [this]
 have e := key a h
 unfold Nm Lib.cut
 rw [e, if_pos (by omega)]
 have e2 : ((a.length : Nat) : Int).toNat = a.length := by omega
 rw [e2]
 have e3 : (a ++ 32 :: t).take a.length = a := List.take_left' rfl
 have e4 : (a ++ 32 :: t).drop (a.length + ([32] : List UInt8).length) = t := by
  have : a ++ 32 :: t = (a ++ [32]) ++ t := by simp
  rw [this]
  exact List.drop_left' (by simp)
 rw [e3, e4]
def lShow : List UInt8 := [115, 104, 111, 119]
def lKeeps : List UInt8 := [107, 101, 101, 112, 115]
def lBench (s : List UInt8) : List UInt8 := [98, 101, 110, 99, 104] ++ 32 :: s
def stB (c : Con) (l : List UInt8) : Con × List UInt8 := if l = lShow then (c, if c.b = [] then [45] else c.b) else if l = lKeeps then (c, keepsA c.b) else benchR c (Nm l).2.1
def QB (c : Con) : Prop := c.b.length ≤ 200
theorem piecesQ (c : Con) (hQ : QB c) (w : World) (_ : Yc w) (hm : Vs w) : Calls Tryz.prog 30 #[.string (Bs c.b)] w fun e w' => e = .returned (.int .i64 (Nn c.b)) ∧ Ex w w' := iBenchPieces c.b (by unfold QB at hQ; omega) w hm
def tShow : List UInt8 := lShow ++ [10]
def tBench (s : List UInt8) : List UInt8 := lBench s ++ 10 :: (lShow ++ 10 :: (lKeeps ++ 10 :: []))
end
section
open Go.RowKit

theorem fadd2_valid {a b : Fr} (h : (Za a b).2 = true) : (Za a b).1.valid = true := by
 unfold Za at h ⊢
 split
 ·rename_i hv
  rw [if_pos hv] at h
  have h1 := Fr.valid_out (x := a) (by simp at hv; exact hv.1)
  have h2 := Fr.valid_out (x := b) (by simp at hv; exact hv.2)
  exact Sw (Tn h1.2.2.1 h2.2.2.1).1 h
 ·rename_i hv
  rw [if_neg hv] at h
  cases h
theorem trow_valid {t : List Fr} {r : Nat} {v : M4} (h : (Vp t r v).2 = true) : (Vp t r v).1.valid = true := by
 unfold Vp rowR at h ⊢
 simp only [Bool.and_eq_true] at h
 exact fadd2_valid h.2
theorem Kz {p q : Int} {v : M4} (h : (Tp p q v).2 = true) : Rq v = true ∧ (Tp p q v).1.valid = true := by
 unfold Tp at h ⊢
 split
 ·rename_i hc
  simp only [Bool.and_eq_true] at hc
  exact ⟨hc.1.1, trow_valid hc.2⟩
 ·rename_i hc
  rw [if_neg hc] at h
  cases h
def stM (c : Con) (l : List UInt8) : Con × List UInt8 := (c, Pw c (Nm l).2.1)
def Ru (P Q : Int) : List UInt8 := [109, 101, 116, 101, 114] ++ 32 :: (Lib.itoa P ++ 32 :: Lib.itoa Q)
def Qs (P Q : Int) : List UInt8 := Ru P Q ++ 10 :: []
theorem Ky (P Q : Int) : Nm (Ru P Q) = ([109, 101, 116, 101, 114], Lib.itoa P ++ 32 :: Lib.itoa Q, true) := cutl_at _ _ (by decide)
theorem itoa_digs {n : Int} : ∀ c ∈ Lib.itoa n, c = 45 ∨ (48 ≤ c.toNat ∧ c.toNat ≤ 57) := by
 intro c hc
 by_cases hn : n < 0
 ·rw [itoa_neg hn] at hc
  rcases List.mem_cons.1 hc with rfl | hc
  ·exact .inl rfl
  ·exact .inr (by simpa [Wt] using Tv _ c hc)
 ·rw [Qy (by omega)] at hc
  exact .inr (by simpa [Wt] using Tv _ c hc)
theorem Qn {n : Int} {b : UInt8} (h : b = 10 ∨ b = 32) : ∀ c ∈ Lib.itoa n, c ≠ b := by
 intro c hc e
 subst e
 rcases itoa_digs c hc with rfl | h2
 ·rcases h with h | h <;> cases h
 ·rcases h with rfl | rfl <;> simp at h2
theorem lns_meter (P Q : Int) : (lns (Qs P Q)).dropLast = [Ru P Q] := by
 unfold Qs
 rw [lns_cut]
 ·rfl
 ·intro c hc
  unfold Ru at hc
  simp only [List.mem_append, List.mem_cons, List.not_mem_nil, or_false] at hc
  rcases hc with (rfl | rfl | rfl | rfl | rfl) | rfl | hc | rfl | hc
  ·decide
  ·decide
  ·decide
  ·decide
  ·decide
  ·decide
  ·exact Qn (.inl rfl) c hc
  ·decide
  ·exact Qn (.inl rfl) c hc
theorem nums_meter {P Q : Int} (h1 : -999 ≤ P) (h2 : P ≤ 999) (h3 : -999 ≤ Q) (h4 : Q ≤ 999) : Wa (Lib.itoa P ++ 32 :: Lib.itoa Q) 2 = some [P, Q] := by
 unfold Wa
 rw [wds_cut _ _ (Qn (.inr rfl)), wds_one _ (Qn (.inr rfl))]
 simp [Xf, num3_itoa h1 h2, num3_itoa h3 h4]
theorem lineMeter {P Q : Int} (h1 : -999 ≤ P) (h2 : P ≤ 999) (h3 : -999 ≤ Q) (h4 : Q ≤ 999) : LineOk stM QB (Ru P Q) := by
 intro c hQ
 have hp := Vk P (by omega) (by omega)
 have hq := Vk Q (by omega) (by omega)
 unfold stM
 rw [Ky]
 refine ⟨hQ, ?_, fun bc w hG hm hb => ?_⟩
 ·have := meterA_len c (Lib.itoa P ++ 32 :: Lib.itoa Q)
  simp only
  omega
 ·simp only [if_true]
  exact rest_meter c (by unfold QB at hQ; omega) _ (by simp; omega) bc w hG hm hb
theorem exec_meter {P Q : Int} (h1 : -999 ≤ P) (h2 : P ≤ 999) (h3 : -999 ≤ Q) (h4 : Q ≤ 999) {v : M4} {f : Fr} (hs : sof ⟨1, 0, 1⟩ ⟨0, 0, 1⟩ = (v, true)) (hr : Tp P Q v = (f, true)) :
  exec stM (Qs P Q) = txt f ++ [10, 112, 105, 101, 99, 101, 115, 32, 48, 10] := by
 have hk := Kz (p := P) (q := Q) (v := v) (by rw [hr])
 have e0 : stoA Con.new = (v, true) := by
  unfold stoA Con.new
  simp only [hs]
  have : Vo [] v = (v, true) := by
   unfold Vo
   rw [show Yd [] = some [] from rfl]
   simp only [hk.1, if_true]
   rfl
  rw [this]
  rfl
 have e1 : stM Con.new (Ru P Q) = (Con.new, txt f) := by
  unfold stM
  rw [Ky]
  simp only
  unfold Pw
  rw [nums_meter h1 h2 h3 h4]
  unfold Rv
  simp only [e0, if_true, hr]
  have hv : f.valid = true := by have := hk.2; rwa [hr] at this
  have e4 : Rr [f] = (txt f, true) := by
   unfold Rr
   rw [if_pos (by simp [hv])]
   rw [List.map_cons, Lib.join_cons]
   simp [Lib.joinTail]
  rw [e4]
  rfl
 unfold exec
 rw [lns_meter]
 have e2 : crun stM Con.new [Ru P Q] [] = (Con.new, txt f ++ [10]) := by
  simp only [crun, e1, List.nil_append]
 rw [e2]
 have e3 : Nn Con.new.b = 0 := rfl
 have e4 : Lib.itoa 0 = [48] := by
  rw [show (0 : Int) = ((0 : Nat) : Int) from rfl, Lib.itoa_nonneg, Um (by decide)]
  rfl
 unfold said
 simp only
 rw [e3, e4]
 simp
end
end Go.Proofs.YtiommfmaleeibaaGreatDoor
