/-
  Proved: what functions compute, part 7. No condition.
-/
import Derived.Test.YtiommfmaleeibaaGreatDoorB05
import Derived.Test.YtiommfmaleeibaaGreatDoorB06
import Derived.Lib.ItoaNum
import Derived.Lib.ItoaLen
import Derived.Lib.AppendIntMem
import Derived.Test.YtiommfmaleeibaaGreatDoorRows
import Derived.ProofKit
import Derived.LaidMore
import Derived.OpenShut
import Derived.Stop.Joined
import Derived.Stop.LaidErr
import Derived.Lib.LaidTab
import Derived.Lib.AtoiAllCases
import Derived.Lib.IndexMore
import Derived.Lib.SplitLaws
import Derived.Test.YtiommfmaleeibaaGreatDoorB01
import Derived.Lib.Strings
import Derived.Lib.Builder
import Derived.Lib.AppendStr
import Derived.Laws.Externs
set_option linter.unusedSimpArgs false
set_option linter.unusedVariables false
set_option maxRecDepth 20000
set_option maxHeartbeats 8000000
namespace Go.Proofs.YtiommfmaleeibaaGreatDoor
section
open Go.RowKit

def Bs (l : List UInt8) : ByteArray := ⟨l.toArray⟩
theorem Mi (a b : ByteArray) : (a ++ b).data.toList = a.data.toList ++ b.data.toList := by simp [ByteArray.data_append]
theorem Su {a b : ByteArray} (h : a.data.toList = b.data.toList) : a = b := by
 cases a; cases b
 congr 1
 exact Array.toList_inj.1 h
theorem Ue (a b : List UInt8) : Bs a ++ Bs b = Bs (a ++ b) := Su (by rw [Mi]; simp [Bs])
theorem Xp (l : List UInt8) : (Bs l).size = l.length := rfl
def sgn (n : Int) : List UInt8 := if n < 0 then Lib.itoa n else 43 :: Lib.itoa n
def txt (x : Fr) : List UInt8 := sgn x.re ++ sgn x.im ++ [105] ++ (if x.den = 1 then [] else 47 :: Lib.itoa x.den)
def Tx (x : Fr) : List UInt8 × Bool := if x.valid then (txt x, true) else ([], false)

def Tab (w : World) : Prop := Lib.TabIs Tryz.prog w "internal/strconv.uint64pow10" .u64 Lib.pow10Tab
theorem tabIs_ex {w w' : World} {s : String} {k : IntKind} {zs : List Int} (h : Lib.TabIs Tryz.prog w s k zs) (he : Ex w w') : Lib.TabIs Tryz.prog w' s k zs := by
 unfold Lib.TabIs World.var? at h ⊢
 cases hg : Tryz.prog.globalNamed s with
 | none => rw [hg] at h; cases h
 | some g =>
  rw [hg] at h
  simp only [Option.bind_some] at h ⊢
  cases hb : w.heap[g]? with
  | none => rw [hb] at h; cases h
  | some o => rw [he.block hb]; rw [hb] at h; exact h
theorem Tab.ex {w w' : World} (h : Tab w) (he : Ex w w') : Tab w' := tabIs_ex h he
theorem Tab.alloc {w : World} (h : Tab w) (o : Obj) : Tab (w.alloc o) := h.ex ((Ex.refl _).alloc o)
theorem Tab.drew {w : World} (h : Tab w) : Tab w.drew := h
theorem ex_grow (w : World) (k : Nat) (os : Array Obj) : Ex w (Sort.grow (w.drewN k) os) := Lib.below_grow _ w (Nat.le_refl _) k os
theorem Pr (n : Int) (h0 : -9223372036854775808 ≤ n) (h1 : n ≤ 9223372036854775807) (w : World) (ht : Tab w) :
  Calls Tryz.prog 29 #[.int .i64 n] w fun e w' => e = .returned (.string (Bs (Lib.itoa n))) ∧ Ex w w' :=
 (Tryz.strconv_Itoa n h0 h1 w ht).mono fun e w' ⟨h, k, os, hw⟩ => ⟨h, by rw [hw]; exact ex_grow w k os⟩
theorem Vk (n : Int) (h0 : -9223372036854775808 ≤ n) (h1 : n ≤ 9223372036854775807) : (Lib.itoa n).length ≤ 21 := Lib.itoa_length_le n h0 h1
theorem sgn_len (n : Int) (h0 : -9223372036854775808 ≤ n) (h1 : n ≤ 9223372036854775807) : (sgn n).length ≤ 22 := by
 have := Vk n h0 h1
 unfold sgn
 split
 ·omega
 ·simp; omega
theorem Ou (a b : List UInt8) (h : a.length + b.length ≤ 1000000) : ¬ 9223372036854775807 < (Bs a).size + (Bs b).size ∧ Bs a ++ Bs b = Bs (a ++ b) := by
 refine ⟨?_, Ue a b⟩
 rw [Xp, Xp]
 omega
theorem Ot (c : UInt8) (b : List UInt8) (h : b.length ≤ 1000000) : ¬ 9223372036854775807 < 1 + (Bs b).size ∧ (⟨#[c]⟩ : ByteArray) ++ Bs b = Bs (c :: b) := by
 refine ⟨?_, Ue [c] b⟩
 rw [Xp]
 omega
theorem cat_back (a : List UInt8) (c : UInt8) (h : a.length ≤ 1000000) : ¬ 9223372036854775807 < (Bs a).size + 1 ∧ Bs a ++ (⟨#[c]⟩ : ByteArray) = Bs (a ++ [c]) := by
 refine ⟨?_, Ue a [c]⟩
 rw [Xp]
 omega
end
section
open Go.RowKit

theorem gTab : Tryz.prog.globalNamed "internal/strconv.uint64pow10" = some 6 := by kernel_rfl
theorem gTabType : (Tryz.prog.globals[6]?).map (·.type) = some 257 := by kernel_rfl
end
section
open Go.RowKit

def Wt (c : UInt8) : Bool := decide (48 ≤ c.toNat ∧ c.toNat ≤ 57)
def dig : List UInt8 → Nat → Nat × Nat
 | [], n => (n, 0)
 | c :: t, n => if Wt c = true ∧ n ≤ 2000000000 then ((dig t (10 * n + (c.toNat - 48))).1, (dig t (10 * n + (c.toNat - 48))).2 + 1) else (n, 0)
theorem Or {u : Nat} (h : u < 10) : (UInt8.ofNat (48 + u)).toNat = 48 + u := by
 have : (UInt8.ofNat (48 + u)).toNat = (48 + u) % 256 := UInt8.toNat_ofNat'
 omega
theorem digit_is {u : Nat} (h : u < 10) : Wt (UInt8.ofNat (48 + u)) = true := by
 unfold Wt
 rw [Or h]
 simp
 omega
theorem Tv (u : Nat) : ∀ c ∈ Lib.decDigits u, Wt c = true := by
 induction u using Nat.strongRecOn with
 | _ u ih =>
  intro c hc
  unfold Lib.decDigits at hc
  split at hc
  ·rename_i h
   rw [List.mem_singleton.1 hc]
   exact digit_is h
  ·rename_i h
   rw [List.mem_append] at hc
   rcases hc with hc | hc
   ·exact ih (u / 10) (by omega) c hc
   ·rw [List.mem_singleton.1 hc]
    exact digit_is (by omega)
def Stops (l : List UInt8) : Prop := ∀ c t, l = c :: t → Wt c = false
theorem Oq (u : Nat) : ∀ k, u < 10 ^ (k + 1) → (Lib.decDigits u).length ≤ k + 1 := by
 induction u using Nat.strongRecOn with
 | _ u ih =>
  intro k hk
  by_cases h : u < 10
  ·rw [Lib.decDigits_one h]
   simp
  ·have e : Lib.decDigits u = Lib.decDigits (u / 10) ++ [UInt8.ofNat (48 + u % 10)] := by
    conv => lhs; unfold Lib.decDigits
    rw [dif_neg h]
   rw [e]
   cases k with
   | zero => simp at hk; omega
   | succ k =>
    have := ih (u / 10) (by omega) k (by rw [Nat.pow_succ] at hk; omega)
    simp
    omega
def sign1 (n : Int) : UInt8 := if n < 0 then 45 else 43
theorem sgn_form (n : Int) : sgn n = sign1 n :: Lib.decDigits n.natAbs := by
 unfold sgn sign1
 by_cases h : n < 0
 ·rw [if_pos h, if_pos h]
  unfold Lib.itoa
  rw [if_pos h]
 ·rw [if_neg h, if_neg h]
  unfold Lib.itoa
  rw [if_neg h]
  congr 2
  omega
def part (l : List UInt8) (i : Nat) : Int × Nat :=
 ((if l[i]? = some 45 then -1 else 1) * ((dig (l.drop (i + 1)) 0).1 : Int), i + 1 + (dig (l.drop (i + 1)) 0).2)
def sparse (l : List UInt8) : Fr :=
 ⟨(part l 0).1, (part l (part l 0).2).1, if (part l (part l 0).2).2 + 1 < l.length then ((dig (l.drop ((part l (part l 0).2).2 + 2)) 0).1 : Int) else 1⟩
def tailT (x : Fr) : List UInt8 := if x.den = 1 then [] else 47 :: Lib.itoa x.den
theorem itoa_den {n : Int} (h : 1 ≤ n) : Lib.itoa n = Lib.decDigits n.natAbs := by
 unfold Lib.itoa
 rw [if_neg (by omega)]
 congr 1
 omega
def rd (l : List UInt8) : Fr × Bool := if (sparse l).valid = true ∧ txt (sparse l) = l then (sparse l, true) else (⟨0, 0, 0⟩, false)
def isSign (c : UInt8) : Bool := c == 43 || c == 45
def lastSign : List UInt8 → Int
 | [] => -1
 | c :: t => if 0 ≤ lastSign t then lastSign t + 1 else if isSign c then 0 else -1
theorem dec_ne (u : Nat) : Lib.decDigits u ≠ [] := by
 unfold Lib.decDigits
 split <;> simp
end
section
open Go.RowKit

structure Vs (w : World) : Prop where
 tab : Tab w
 max : ∃ m, w.cell? ⟨4, 0, none⟩ = some (.int .i64 m)
 syn : ∃ t p, w.cell? ⟨9, 0, none⟩ = some (.iface t p)
 rng : ∃ t p, w.cell? ⟨10, 0, none⟩ = some (.iface t p)
theorem Vs.ex {w w' : World} (h : Vs w) (he : Ex w w') : Vs w' := by
 obtain ⟨m, hm⟩ := h.max
 obtain ⟨t1, p1, h1⟩ := h.syn
 obtain ⟨t2, p2, h2⟩ := h.rng
 exact ⟨h.tab.ex he, ⟨m, he.get hm⟩, ⟨t1, p1, he.get h1⟩, ⟨t2, p2, he.get h2⟩⟩
theorem Vs.alloc {w : World} (h : Vs w) (o : Obj) : Vs (w.alloc o) := h.ex ((Ex.refl _).alloc o)
def IsErr (v : Value) : Prop := v = .nilIface ∨ ∃ N : Nat, v = .iface 249 (.pointer (some ⟨N, 0, none⟩))
theorem atoiB_any (l : List UInt8) (hl : l.length ≤ 1048576) (w : World) (hm : Vs w) : Calls Tryz.prog 133 #[.string (Bs l)] w fun e w' =>
  ∃ v er, e = .returned (.tuple #[.int .i64 v, er]) ∧ Ex w w' ∧ IsErr er ∧ (∀ u, Lib.atoiAll l = .ok u → v = u ∧ er = .nilIface) := by
 rcases h : Lib.atoiAll l with v | _ | _
 ·
  refine (Tryz.strconv_Atoi_ok (Bs l) (by rw [Xp]; omega) v h w).mono ?_
  rintro e w' ⟨rfl, hw⟩
  refine ⟨v, _, rfl, ?_, .inl rfl, fun u hu => ⟨by injection hu, rfl⟩⟩
  rcases hw with rfl | ⟨t, rfl⟩
  ·exact Ex.refl _
  ·exact Lib.bytesWorld_below _ _ _
 ·
  obtain ⟨t, p, hp⟩ := hm.syn
  refine (Tryz.strconv_Atoi_syntax (Bs l) (by rw [Xp]; omega) h _ w hp (.inr ⟨t, p, rfl⟩)).mono ?_
  rintro e w' ⟨N, rfl, -, -, hb⟩
  exact ⟨0, _, rfl, hb, .inr ⟨N, rfl⟩, fun u hu => by cases hu⟩
 ·
  obtain ⟨t, p, hp⟩ := hm.rng
  refine (Tryz.strconv_Atoi_range (Bs l) (by rw [Xp]; omega) h _ w hp (.inr ⟨t, p, rfl⟩)).mono ?_
  rintro e w' ⟨N, rfl, -, -, hb⟩
  exact ⟨_, _, rfl, hb, .inr ⟨N, rfl⟩, fun u hu => by cases hu⟩
end
section
open Go.RowKit

def wds : List UInt8 → List (List UInt8)
 | [] => [[]]
 | b :: t => if b = 32 then [] :: wds t else (b :: (wds t).headD []) :: (wds t).tail
theorem Nv (l : List UInt8) : wds l ≠ [] := by
 cases l with
 | nil => simp [wds]
 | cons b t => unfold wds; split <;> simp
def pre (p : List UInt8) (ws : List (List UInt8)) : List (List UInt8) := (p ++ ws.headD []) :: ws.tail
theorem pre_nil {ws : List (List UInt8)} (h : ws ≠ []) : pre [] ws = ws := by
 cases ws with
 | nil => exact absurd rfl h
 | cons a t => rfl
theorem Tf (t : List UInt8) : wds (32 :: t) = [] :: wds t := by
 rw [wds, if_pos rfl]
theorem Te {b : UInt8} (h : b ≠ 32) (t : List UInt8) : wds (b :: t) = pre [b] (wds t) := by
 rw [wds, if_neg h]
 rfl
theorem pre_pre (p q : List UInt8) (ws : List (List UInt8)) : pre p (pre q ws) = pre (p ++ q) ws := by
 simp [pre]
theorem wds_app : ∀ (a : List UInt8) (t : List UInt8), (∀ c ∈ a, c ≠ 32) → wds (a ++ t) = pre a (wds t)
 | [], t, _ => (pre_nil (Nv t)).symm
 | b :: a, t, h => by
  show wds (b :: (a ++ t)) = _
  rw [Te (h b List.mem_cons_self), wds_app a t fun c hc => h c (List.mem_cons_of_mem _ hc), pre_pre]
  rfl
theorem wds_cut (a t : List UInt8) (h : ∀ c ∈ a, c ≠ 32) : wds (a ++ 32 :: t) = a :: wds t := by
 rw [wds_app a _ h, Tf]
 simp [pre]
theorem wds_one (a : List UInt8) (h : ∀ c ∈ a, c ≠ 32) : wds a = [a] := by
 have := wds_app a [] h
 rw [List.append_nil] at this
 rw [this]
 simp [pre, wds]
theorem Ra : ∀ l : List UInt8, (Lib.index l [32] = -1 ∧ ∀ c ∈ l, c ≠ 32) ∨ ∃ a t, l = a ++ 32 :: t ∧ Lib.index l [32] = (a.length : Nat) ∧ ∀ c ∈ a, c ≠ 32
 | [] => .inl ⟨rfl, fun _ h => by cases h⟩
 | b :: l => by
  by_cases hb : b = 32
  ·subst hb
   refine .inr ⟨[], l, rfl, ?_, fun _ h => by cases h⟩
   unfold Lib.index
   rw [if_pos (by simp)]
   rfl
  ·have hp : ([32] : List UInt8).isPrefixOf (b :: l) = false := by
    simp [List.isPrefixOf]
    exact fun e => hb e.symm
   rcases Ra l with ⟨h1, h2⟩ | ⟨a, t, rfl, h1, h2⟩
   ·refine .inl ⟨?_, fun c hc => ?_⟩
    ·unfold Lib.index
     rw [hp, h1]
     rfl
    ·rcases List.mem_cons.1 hc with rfl | hc
     ·exact hb
     ·exact h2 c hc
   ·refine .inr ⟨b :: a, t, rfl, ?_, fun c hc => ?_⟩
    ·unfold Lib.index
     rw [hp, h1]
     have : (((a.length : Nat) : Int) == -1) = false := by rw [beq_eq_false_iff_ne]; omega
     simp [this]
    ·rcases List.mem_cons.1 hc with rfl | hc
     ·exact hb
     ·exact h2 c hc
theorem bs_take (l : List UInt8) (n : Nat) : (Bs l).extract 0 n = Bs (l.take n) := by
 have := ByteArray.extract_mk l 0 n
 simpa [Bs] using this
theorem Sa (l : List UInt8) (n : Nat) : (Bs l).extract n (Bs l).size = Bs (l.drop n) := by
 have := ByteArray.extract_mk l n l.length
 unfold Bs at *
 have e : (ByteArray.mk l.toArray).size = l.length := rfl
 rw [e, this, List.take_of_length_le (by simp)]
theorem Nu : ∀ (k : Nat) (l : List UInt8), Lib.countB (Bs l) ⟨#[32]⟩ = k → Lib.splitB ⟨#[32]⟩ 0 k (Bs l) = (wds l).map Bs := by
 intro k
 induction k with
 | zero =>
  intro l h
  rcases Ra l with ⟨h1, h2⟩ | ⟨a, t, rfl, h1, h2⟩
  ·rw [wds_one l h2]
   rfl
  ·have := Lib.countB_hit (Bs (a ++ 32 :: t)) ⟨#[32]⟩ a.length (by decide) h1
   omega
 | succ k ih =>
  intro l h
  rcases Ra l with ⟨h1, h2⟩ | ⟨a, t, rfl, h1, h2⟩
  ·have := Lib.countB_miss (Bs l) ⟨#[32]⟩ h1
   omega
  ·have hc := Lib.countB_hit (Bs (a ++ 32 :: t)) ⟨#[32]⟩ a.length (by decide) h1
   rw [Lib.splitB_hit ⟨#[32]⟩ 0 k (Bs (a ++ 32 :: t)) a.length h1]
   have e1 : (⟨#[32]⟩ : ByteArray).size = 1 := rfl
   have e2 : (a ++ 32 :: t).take (a.length + 0) = a := List.take_left' rfl
   have e3 : (a ++ 32 :: t).drop (a.length + 1) = t := by
    have : a ++ 32 :: t = (a ++ [32]) ++ t := by simp
    rw [this]
    exact List.drop_left' (by simp)
   rw [e1] at hc ⊢
   rw [Sa, e3] at hc
   rw [bs_take, Sa, e2, e3]
   rw [wds_cut a t h2, ih t (by omega)]
   rfl
theorem Nt (l : List UInt8) : (wds l).length = Lib.countB (Bs l) ⟨#[32]⟩ + 1 := by
 have h1 := Nu _ l rfl
 have h2 := Lib.splitB_all ⟨#[32]⟩ (by decide) 0 _ (Bs l) rfl
 rw [h1, List.length_map] at h2
 exact h2
theorem Ns : ∀ (l : List UInt8), ∀ x ∈ wds l, x.length ≤ l.length
 | [], x, hx => by simp [wds] at hx; subst hx; simp
 | b :: t, x, hx => by
  have ih := Ns t
  by_cases hb : b = 32
  ·subst hb
   rw [Tf] at hx
   rcases List.mem_cons.1 hx with rfl | hx
   ·simp
   ·have := ih x hx
    simp
    omega
  ·rw [Te hb] at hx
   obtain ⟨h, r, hr⟩ : ∃ h r, wds t = h :: r := by
    cases hw : wds t with
    | nil => exact absurd hw (Nv t)
    | cons h r => exact ⟨h, r, rfl⟩
   rw [hr] at hx ih
   simp only [pre, List.headD_cons, List.tail_cons] at hx
   rcases List.mem_cons.1 hx with rfl | hx
   ·have := ih h List.mem_cons_self
    simp
    omega
   ·have := ih x (List.mem_cons_of_mem _ hx)
    simp
    omega
end
section
open Go.RowKit

def cds : List UInt8 → List (List UInt8)
 | [] => [[]]
 | b :: t => if b = 58 then [] :: cds t else (b :: (cds t).headD []) :: (cds t).tail
theorem Li (l : List UInt8) : cds l ≠ [] := by
 cases l with
 | nil => simp [cds]
 | cons b t => unfold cds; split <;> simp
theorem Td (t : List UInt8) : cds (58 :: t) = [] :: cds t := by
 rw [cds, if_pos rfl]
theorem Tc {b : UInt8} (h : b ≠ 58) (t : List UInt8) : cds (b :: t) = pre [b] (cds t) := by
 rw [cds, if_neg h]
 rfl
theorem cds_app : ∀ (a : List UInt8) (t : List UInt8), (∀ c ∈ a, c ≠ 58) → cds (a ++ t) = pre a (cds t)
 | [], t, _ => (pre_nil (Li t)).symm
 | b :: a, t, h => by
  show cds (b :: (a ++ t)) = _
  rw [Tc (h b List.mem_cons_self), cds_app a t fun c hc => h c (List.mem_cons_of_mem _ hc), pre_pre]
  rfl
theorem cds_cut (a t : List UInt8) (h : ∀ c ∈ a, c ≠ 58) : cds (a ++ 58 :: t) = a :: cds t := by
 rw [cds_app a _ h, Td]
 simp [pre]
theorem cds_one (a : List UInt8) (h : ∀ c ∈ a, c ≠ 58) : cds a = [a] := by
 have := cds_app a [] h
 rw [List.append_nil] at this
 rw [this]
 simp [pre, cds]
theorem Qz : ∀ l : List UInt8, (Lib.index l [58] = -1 ∧ ∀ c ∈ l, c ≠ 58) ∨ ∃ a t, l = a ++ 58 :: t ∧ Lib.index l [58] = (a.length : Nat) ∧ ∀ c ∈ a, c ≠ 58
 | [] => .inl ⟨rfl, fun _ h => by cases h⟩
 | b :: l => by
  by_cases hb : b = 58
  ·subst hb
   refine .inr ⟨[], l, rfl, ?_, fun _ h => by cases h⟩
   unfold Lib.index
   rw [if_pos (by simp)]
   rfl
  ·have hp : ([58] : List UInt8).isPrefixOf (b :: l) = false := by
    simp [List.isPrefixOf]
    exact fun e => hb e.symm
   rcases Qz l with ⟨h1, h2⟩ | ⟨a, t, rfl, h1, h2⟩
   ·refine .inl ⟨?_, fun c hc => ?_⟩
    ·unfold Lib.index
     rw [hp, h1]
     rfl
    ·rcases List.mem_cons.1 hc with rfl | hc
     ·exact hb
     ·exact h2 c hc
   ·refine .inr ⟨b :: a, t, rfl, ?_, fun c hc => ?_⟩
    ·unfold Lib.index
     rw [hp, h1]
     have : (((a.length : Nat) : Int) == -1) = false := by rw [beq_eq_false_iff_ne]; omega
     simp [this]
    ·rcases List.mem_cons.1 hc with rfl | hc
     ·exact hb
     ·exact h2 c hc
theorem split_cds : ∀ (k : Nat) (l : List UInt8), Lib.countB (Bs l) ⟨#[58]⟩ = k → Lib.splitB ⟨#[58]⟩ 0 k (Bs l) = (cds l).map Bs := by
 intro k
 induction k with
 | zero =>
  intro l h
  rcases Qz l with ⟨h1, h2⟩ | ⟨a, t, rfl, h1, h2⟩
  ·rw [cds_one l h2]
   rfl
  ·have := Lib.countB_hit (Bs (a ++ 58 :: t)) ⟨#[58]⟩ a.length (by decide) h1
   omega
 | succ k ih =>
  intro l h
  rcases Qz l with ⟨h1, h2⟩ | ⟨a, t, rfl, h1, h2⟩
  ·have := Lib.countB_miss (Bs l) ⟨#[58]⟩ h1
   omega
  ·have hc := Lib.countB_hit (Bs (a ++ 58 :: t)) ⟨#[58]⟩ a.length (by decide) h1
   rw [Lib.splitB_hit ⟨#[58]⟩ 0 k (Bs (a ++ 58 :: t)) a.length h1]
   have e1 : (⟨#[58]⟩ : ByteArray).size = 1 := rfl
   have e2 : (a ++ 58 :: t).take (a.length + 0) = a := List.take_left' rfl
   have e3 : (a ++ 58 :: t).drop (a.length + 1) = t := by
    have : a ++ 58 :: t = (a ++ [58]) ++ t := by simp
    rw [this]
    exact List.drop_left' (by simp)
   rw [e1] at hc ⊢
   rw [Sa, e3] at hc
   rw [bs_take, Sa, e2, e3]
   rw [cds_cut a t h2, ih t (by omega)]
   rfl
theorem cds_count (l : List UInt8) : (cds l).length = Lib.countB (Bs l) ⟨#[58]⟩ + 1 := by
 have h1 := split_cds _ l rfl
 have h2 := Lib.splitB_all ⟨#[58]⟩ (by decide) 0 _ (Bs l) rfl
 rw [h1, List.length_map] at h2
 exact h2
theorem Tb : ∀ (l : List UInt8), ∀ x ∈ cds l, x.length ≤ l.length
 | [], x, hx => by simp [cds] at hx; subst hx; simp
 | b :: t, x, hx => by
  have ih := Tb t
  by_cases hb : b = 58
  ·subst hb
   rw [Td] at hx
   rcases List.mem_cons.1 hx with rfl | hx
   ·simp
   ·have := ih x hx
    simp
    omega
  ·rw [Tc hb] at hx
   obtain ⟨h, r, hr⟩ : ∃ h r, cds t = h :: r := by
    cases hw : cds t with
    | nil => exact absurd hw (Li t)
    | cons h r => exact ⟨h, r, rfl⟩
   rw [hr] at hx ih
   simp only [pre, List.headD_cons, List.tail_cons] at hx
   rcases List.mem_cons.1 hx with rfl | hx
   ·have := ih h List.mem_cons_self
    simp
    omega
   ·have := ih x (List.mem_cons_of_mem _ hx)
    simp
    omega
end
section
open Go.RowKit

theorem Bs_at {l : List UInt8} {S : ByteArray} (h : S = Bs l) {i : Nat} (hi : i < l.length) : ∃ hs : i < S.size, S[i]'hs = l[i] := by
 subst h
 exact ⟨hi, rfl⟩
theorem Qv {T S : ByteArray} (h : ¬ T = S) : (T.toList == S.toList) = false := by
 rw [beq_eq_false_iff_ne, Lib.toList_data, Lib.toList_data]
 exact fun e => h (Su e)
theorem Bs_ne {a b : List UInt8} (h : a ≠ b) : ¬ Bs a = Bs b := fun e => h (by
 have h2 : (Bs a).data.toList = (Bs b).data.toList := by rw [e]
 simpa [Bs] using h2)
theorem slS : SlT 59 9 (.string ⟨#[]⟩) 1 16 := ⟨Tryz.underlying59, by kernel_rfl, rfl, by omega, by omega⟩
def Wv (ls : List (List UInt8)) : List Value := ls.map fun l => .string (Bs l)
def Qm (w : World) (lo : Nat) (A : Option Addr) (cap : Nat) (ls : List (List UInt8)) : Prop := Own w lo 9 1 (.slice A ls.length cap) ls.length (Wv ls)
theorem ownS_nil (w : World) (lo : Nat) (hlo : lo ≤ w.heap.size) : Qm (w.alloc (.cells #[] 9)) lo (some ⟨w.heap.size, 0, none⟩) 0 [] := Ox w lo _ 1 hlo
theorem Qm.ex {w w' : World} {lo : Nat} {A : Option Addr} {cap : Nat} {ls : List (List UInt8)} (h : Qm w lo A cap ls) (he : Ex w w') : Qm w' lo A cap ls := Own.ex h he
theorem Qm.snoc {w' : World} {lo : Nat} {A : Option Addr} {cap : Nat} {ls : List (List UInt8)} {l : List UInt8} (h : Own w' lo 9 1 (.slice A (ls.length + 1) cap) (ls.length + 1) (Wv ls ++ [.string (Bs l)])) : Qm w' lo A cap (ls ++ [l]) := by
 unfold Qm
 unfold Wv at h ⊢
 simpa using h
def Strs (w : World) (A : Option Addr) (ls : List (List UInt8)) : Prop := Slc w A (Wv ls)
theorem Strs.ex {w w1 : World} {A : Option Addr} {ls : List (List UInt8)} (h : Strs w A ls) (he : Ex w w1) : Strs w1 A ls := Slc.ex h he
def GotW (w : World) (ls : List (List UInt8)) : Ending → World → Prop := fun e w' => ∃ A cap, e = .returned (.slice A ls.length cap) ∧ Strs w' A ls ∧ Ex w w'
end
section
open Go.RowKit

def GotO (w : World) (ls : List (List UInt8)) : Ending → World → Prop := fun e w' => ∃ A cap, e = .returned (.slice A ls.length cap) ∧ Qm w' w.heap.size A cap ls ∧ Ex w w'
theorem splitB_any (l : List UInt8) (hl : l.length ≤ 1048576) (w : World) (hm : Vs w) : Calls Tryz.prog 24 #[.string (Bs l), .string ⟨#[32]⟩] w (GotW w (wds l)) := by
 obtain ⟨m, hm⟩ := hm.max
 refine (Tryz.strings_Split (Bs l) ⟨#[32]⟩ m w (by rw [Xp]; omega) hm (by decide)).mono ?_
 rintro e w' ⟨rfl, rfl⟩
 rw [Nu _ l rfl]
 refine ⟨some ⟨w.heap.size, 0, none⟩, Lib.countB (Bs l) ⟨#[32]⟩ + 1, by rw [Nt], fun _ => ⟨w.heap.size, 0, rfl, fun k hk => ?_⟩, (Ex.refl _).alloc _⟩
 rw [Nat.zero_add, (Box.new w _ 9).cell k]
 simp [Wv]
 rfl
end
section
open Go.RowKit

def lns : List UInt8 → List (List UInt8)
 | [] => [[]]
 | b :: t => if b = 10 then [] :: lns t else (b :: (lns t).headD []) :: (lns t).tail
theorem lns_ne (l : List UInt8) : lns l ≠ [] := by
 cases l with
 | nil => simp [lns]
 | cons b t => unfold lns; split <;> simp
theorem Np (t : List UInt8) : lns (10 :: t) = [] :: lns t := by
 rw [lns, if_pos rfl]
theorem No {b : UInt8} (h : b ≠ 10) (t : List UInt8) : lns (b :: t) = pre [b] (lns t) := by
 rw [lns, if_neg h]
 rfl
theorem lns_app : ∀ (a : List UInt8) (t : List UInt8), (∀ c ∈ a, c ≠ 10) → lns (a ++ t) = pre a (lns t)
 | [], t, _ => (pre_nil (lns_ne t)).symm
 | b :: a, t, h => by
  show lns (b :: (a ++ t)) = _
  rw [No (h b List.mem_cons_self), lns_app a t fun c hc => h c (List.mem_cons_of_mem _ hc), pre_pre]
  rfl
theorem lns_cut (a t : List UInt8) (h : ∀ c ∈ a, c ≠ 10) : lns (a ++ 10 :: t) = a :: lns t := by
 rw [lns_app a _ h, Np]
 simp [pre]
theorem lns_one (a : List UInt8) (h : ∀ c ∈ a, c ≠ 10) : lns a = [a] := by
 have := lns_app a [] h
 rw [List.append_nil] at this
 rw [this]
 simp [pre, lns]
theorem Px : ∀ l : List UInt8, (Lib.index l [10] = -1 ∧ ∀ c ∈ l, c ≠ 10) ∨ ∃ a t, l = a ++ 10 :: t ∧ Lib.index l [10] = (a.length : Nat) ∧ ∀ c ∈ a, c ≠ 10
 | [] => .inl ⟨rfl, fun _ h => by cases h⟩
 | b :: l => by
  by_cases hb : b = 10
  ·subst hb
   refine .inr ⟨[], l, rfl, ?_, fun _ h => by cases h⟩
   unfold Lib.index
   rw [if_pos (by simp)]
   rfl
  ·have hp : ([10] : List UInt8).isPrefixOf (b :: l) = false := by
    simp [List.isPrefixOf]
    exact fun e => hb e.symm
   rcases Px l with ⟨h1, h2⟩ | ⟨a, t, rfl, h1, h2⟩
   ·refine .inl ⟨?_, fun c hc => ?_⟩
    ·unfold Lib.index
     rw [hp, h1]
     rfl
    ·rcases List.mem_cons.1 hc with rfl | hc
     ·exact hb
     ·exact h2 c hc
   ·refine .inr ⟨b :: a, t, rfl, ?_, fun c hc => ?_⟩
    ·unfold Lib.index
     rw [hp, h1]
     have : (((a.length : Nat) : Int) == -1) = false := by rw [beq_eq_false_iff_ne]; omega
     simp [this]
    ·rcases List.mem_cons.1 hc with rfl | hc
     ·exact hb
     ·exact h2 c hc
theorem split_lns : ∀ (k : Nat) (l : List UInt8), Lib.countB (Bs l) ⟨#[10]⟩ = k → Lib.splitB ⟨#[10]⟩ 0 k (Bs l) = (lns l).map Bs := by
 intro k
 induction k with
 | zero =>
  intro l h
  rcases Px l with ⟨h1, h2⟩ | ⟨a, t, rfl, h1, h2⟩
  ·rw [lns_one l h2]
   rfl
  ·have := Lib.countB_hit (Bs (a ++ 10 :: t)) ⟨#[10]⟩ a.length (by decide) h1
   omega
 | succ k ih =>
  intro l h
  rcases Px l with ⟨h1, h2⟩ | ⟨a, t, rfl, h1, h2⟩
  ·have := Lib.countB_miss (Bs l) ⟨#[10]⟩ h1
   omega
  ·have hc := Lib.countB_hit (Bs (a ++ 10 :: t)) ⟨#[10]⟩ a.length (by decide) h1
   rw [Lib.splitB_hit ⟨#[10]⟩ 0 k (Bs (a ++ 10 :: t)) a.length h1]
   have e1 : (⟨#[10]⟩ : ByteArray).size = 1 := rfl
   have e2 : (a ++ 10 :: t).take (a.length + 0) = a := List.take_left' rfl
   have e3 : (a ++ 10 :: t).drop (a.length + 1) = t := by
    have : a ++ 10 :: t = (a ++ [10]) ++ t := by simp
    rw [this]
    exact List.drop_left' (by simp)
   rw [e1] at hc ⊢
   rw [Sa, e3] at hc
   rw [bs_take, Sa, e2, e3]
   rw [lns_cut a t h2, ih t (by omega)]
   rfl
theorem lns_count (l : List UInt8) : (lns l).length = Lib.countB (Bs l) ⟨#[10]⟩ + 1 := by
 have h1 := split_lns _ l rfl
 have h2 := Lib.splitB_all ⟨#[10]⟩ (by decide) 0 _ (Bs l) rfl
 rw [h1, List.length_map] at h2
 exact h2
theorem lns_bytes : ∀ (l : List UInt8), ∀ x ∈ lns l, x.length ≤ l.length
 | [], x, hx => by simp [lns] at hx; subst hx; simp
 | b :: t, x, hx => by
  have ih := lns_bytes t
  by_cases hb : b = 10
  ·subst hb
   rw [Np] at hx
   rcases List.mem_cons.1 hx with rfl | hx
   ·simp
   ·have := ih x hx
    simp
    omega
  ·rw [No hb] at hx
   obtain ⟨h, r, hr⟩ : ∃ h r, lns t = h :: r := by
    cases hw : lns t with
    | nil => exact absurd hw (lns_ne t)
    | cons h r => exact ⟨h, r, rfl⟩
   rw [hr] at hx ih
   simp only [pre, List.headD_cons, List.tail_cons] at hx
   rcases List.mem_cons.1 hx with rfl | hx
   ·have := ih h List.mem_cons_self
    simp
    omega
   ·have := ih x (List.mem_cons_of_mem _ hx)
    simp
    omega
end
section
open Go.RowKit

theorem sizeBld : (Tryz.prog.info? 58).map (·.size) = some 2 := by kernel_rfl
theorem liesBld : liesAt Tryz.prog Tryz.prog.depth 58 (2 / Tryz.prog.cellsOf 58) 0 58 1 = true := by kernel_rfl
theorem cc_used (b : Nat) (v : Value) (w : World) (hb : Box w b 58 #[.pointer (some ⟨b, 0, none⟩), v]) :
  Calls Tryz.prog 83 #[.pointer (some ⟨b, 0, none⟩)] w fun e w' => e = .returned (.tuple #[]) ∧ w' = w := by
 obtain ⟨j, hj, hjs⟩ := Option.map_eq_some_iff.1 sizeBld
 have c := hb.cell
 have z := hb.lt
 go_enter Tryz.func83, Tryz.ntmps83
 go_wp2
 rw [Lib.run_neq_ptr_same w _ Tryz.underlying56 hj]
 go_wp2
 go_end0
 exact ⟨rfl, rfl⟩
theorem cc_fresh (b : Nat) (v : Value) (w : World) (hb : Box w b 58 #[.pointer none, v]) :
  Calls Tryz.prog 83 #[.pointer (some ⟨b, 0, none⟩)] w fun e w' => e = .returned (.tuple #[]) ∧ w' = w.setCell ⟨b, 0, none⟩ (.pointer (some ⟨b, 0, none⟩)) := by
 obtain ⟨j, hj, hjs⟩ := Option.map_eq_some_iff.1 sizeBld
 have hsh : w.shape? b = some (58, 2) := by
  unfold Box at hb
  simp [World.shape?, hb]
 have c := hb.cell
 have f := hb.frozen
 have z := hb.lt
 go_enter Tryz.func83, Tryz.ntmps83
 go_wp2
 rw [Lib.run_to_unsafe w ⟨b, 0, none⟩ Tryz.underlying56 Tryz.underlying183 hj (by rw [hjs]; decide) hsh (Nat.zero_lt_succ 1)]
 simp only [Result.andThen]
 rw [Oper.upon_value]
 go_wp2
 rw [run_callFunc_extern Tryz.func147 (by kernel_rfl) (by kernel_rfl) (by kernel_rfl) (e := Extern.AbiNoEscape.same) (by kernel_rfl)]
 rw [Lib.run_noEscape]
 simp only [Result.andThen]
 rw [Oper.upon_value]
 go_wp2
 rw [Lib.run_from_unsafe w ⟨b, 0, none⟩ Tryz.underlying183 Tryz.underlying56 hj hsh liesBld]
 simp only [Result.andThen]
 rw [Oper.upon_value]
 go_wp2
 go_end0
 exact ⟨rfl, rfl⟩
structure Bld (w : World) (lo b : Nat) (p v : Value) (bs : List Value) : Prop where
 box : Box w b 58 #[p, v]
 own : Own w lo 5 1 v bs.length bs
 ptr : p = .pointer none ∨ p = .pointer (some ⟨b, 0, none⟩)
structure Vj (w w' : World) (lo b : Nat) : Prop where
 ex : ∀ W, Ex W w → W.heap.size ≤ lo → W.heap.size ≤ b → Ex W w'
 box : ∀ g t cs, g ≠ b → t ≠ 5 → Box w g t cs → Box w' g t cs
 size : w.heap.size ≤ w'.heap.size
theorem Vj.refl (w : World) (lo b : Nat) : Vj w w lo b := ⟨fun _ h _ _ => h, fun _ _ _ _ _ h => h, Nat.le_refl _⟩
theorem Vj.trans {w w1 w2 : World} {lo b : Nat} (h : Vj w w1 lo b) (k : Vj w1 w2 lo b) : Vj w w2 lo b :=
 ⟨fun W hW h1 h2 => k.ex W (h.ex W hW h1 h2) h1 h2, fun g t cs hg ht hb => k.box g t cs hg ht (h.box g t cs hg ht hb), Nat.le_trans h.size k.size⟩
theorem cc_any (lo b : Nat) (p v : Value) (bs : List Value) (w : World) (h : Bld w lo b p v bs) :
  Calls Tryz.prog 83 #[.pointer (some ⟨b, 0, none⟩)] w fun e w' => e = .returned (.tuple #[]) ∧ Bld w' lo b (.pointer (some ⟨b, 0, none⟩)) v bs ∧ Vj w w' lo b := by
 obtain ⟨hb, hown, hp⟩ := h
 have hne := Own.ne hown hb (by decide)
 rcases hp with rfl | rfl
 ·refine (cc_fresh b v w hb).mono ?_
  rintro e w' ⟨rfl, rfl⟩
  refine ⟨rfl, ⟨?_, Own.setCell (p := ⟨b, 0, none⟩) hown (fun g hg e => hne (by rw [hg, e])) _, .inr rfl⟩, ?_, ?_, ?_⟩
  ·have := hb.set_ 0 (.pointer (some ⟨b, 0, none⟩))
   simpa using this
  ·intro W hW h1 h2
   exact hW.setCell (p := ⟨b, 0, none⟩) h2 _
  ·intro g t cs hg ht hbx
   exact hbx.far (p := ⟨b, 0, none⟩) hg _
  ·simp
 ·refine (cc_used b v w hb).mono ?_
  rintro e w' ⟨rfl, rfl⟩
  exact ⟨rfl, ⟨hb, hown, .inr rfl⟩, Vj.refl _ _ _⟩
theorem ws_any (lo b : Nat) (p v : Value) (bs : List Value) (s : ByteArray) (w : World) (h : Bld w lo b p v bs) (hlo : lo ≤ w.heap.size) (hl : bs.length + s.size ≤ 10000000) :
  Calls Tryz.prog 28 #[.pointer (some ⟨b, 0, none⟩), .string s] w fun e w' =>
   e = .returned (.tuple #[.int .i64 s.size, .nilIface]) ∧ ∃ v', Bld w' lo b (.pointer (some ⟨b, 0, none⟩)) v' (bs ++ Lib.strCells s) ∧ Vj w w' lo b := by
 obtain ⟨i0, hi, hz0, hz1, hz2⟩ := info_parts (show (Tryz.prog.info? 5).map (fun i => (i.zero, i.size, i.bytes)) = some (some (.int .u8 0), 1, 1) by kernel_rfl)
 have K := Kw (cc_any lo b p v bs w h)
 clear h
 have h63 : bs.length + s.size ≤ maxLen := by unfold maxLen; omega
 go_enter Tryz.func28, Tryz.ntmps28
 go_wp2_with (go_at_call 83; refine K.out.mono ?_)
 rintro e w1 ⟨rfl, ⟨hb, hown, -⟩, HK⟩
 have hHK := Kw HK
 have hlo1 : lo ≤ w1.heap.size := Nat.le_trans hlo HK.size
 clear HK
 have hrow : w1.ownsRow lo 5 1 v bs.length bs := hown
 have c := hb.cell
 have z := hb.lt
 have hne : some b ≠ v.ownBlock := Own.ne hown hb (by decide)
 go_wp2_with (at_builtin; refine Lib.wpList_append_own_string _ rfl _ _ 22 9 rfl lo 5 i0 Tryz.underlying22 Tryz.underlying9 hi hz0 hz1 hz2 _ _ _ rfl hrow s rfl h63 (by omega) hlo1 ?_)
 intro v' w2 hown' hgrow _
 have hb2 : Box w2 b 58 #[.pointer (some ⟨b, 0, none⟩), v] := hb.grown hgrow hne
 have c2 := hb2.cell
 have f2 := hb2.frozen
 have z2 := hb2.lt
 obtain ⟨ao, cap, rfl, hA⟩ := Own.form hown'
 have hlt := Own.lt hown
 have hne2 : some b ≠ (Value.slice ao (bs.length + s.size) cap).ownBlock := Own.ne hown' hb2 (by decide)
 clear hA
 go_wp2
 go_ret2
 refine ⟨rfl, .slice ao (bs.length + s.size) cap, ⟨?_, ?_, .inr rfl⟩, hHK.out.trans ⟨?_, ?_, ?_⟩⟩
 ·have := hb2.set_ 1 (.slice ao (bs.length + s.size) cap)
  simpa using this
 ·rw [List.length_append, Lib.strCells_length]
  exact Own.setCell (p := ⟨b, 1, none⟩) hown' (fun g hg e => hne2 (by rw [hg, e])) _
 ·intro W hW h1 h2
  exact (hW.grown hgrow (fun k hk => Nat.le_trans h1 (hlt k hk).1)).setCell (p := ⟨b, 1, none⟩) h2 _
 ·intro g t cs hg ht hbx
  exact (hbx.grown hgrow (Own.ne hown hbx (fun e => ht e.symm))).far (p := ⟨b, 1, none⟩) hg _
 ·have := hgrow.size
  simpa using this
end
end Go.Proofs.YtiommfmaleeibaaGreatDoor
