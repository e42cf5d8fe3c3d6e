/-
  Proved: what functions compute, part 7. No condition.
-/
import Derived.Test.YtmjggolkopbcnaaGreatDoorB05
import Derived.Test.YtmjggolkopbcnaaGreatDoorB06
import Derived.Lib.ItoaNum
import Derived.Lib.ItoaLen
import Derived.Lib.AppendIntMem
import Derived.Test.YtmjggolkopbcnaaGreatDoorRows
import Derived.ProofKit
import Derived.LaidMore
import Derived.OpenShut
import Derived.Stop.Joined
import Derived.Stop.LaidErr
import Derived.Lib.LaidTab
import Derived.Lib.AtoiAllCases
import Derived.Lib.IndexMore
import Derived.Lib.SplitLaws
import Derived.Test.YtmjggolkopbcnaaGreatDoorB01
import Derived.Lib.Strings
import Derived.Lib.Builder
import Derived.Lib.AppendStr
import Derived.Laws.Externs
set_option linter.unusedSimpArgs false
set_option linter.unusedVariables false
set_option maxRecDepth 20000
set_option maxHeartbeats 8000000
namespace Go.Proofs.YtmjggolkopbcnaaGreatDoor
section
open Go.RowKit

def Bs (l : List UInt8) : ByteArray := ⟨l.toArray⟩
theorem Tr (a b : ByteArray) : (a ++ b).data.toList = a.data.toList ++ b.data.toList := by simp [ByteArray.data_append]
theorem Wv {a b : ByteArray} (h : a.data.toList = b.data.toList) : a = b := by
 cases a; cases b
 congr 1
 exact Array.toList_inj.1 h
theorem Vs (a b : List UInt8) : Bs a ++ Bs b = Bs (a ++ b) := Wv (by rw [Tr]; simp [Bs])
theorem Zd (l : List UInt8) : (Bs l).size = l.length := rfl
def sgn (n : Int) : List UInt8 := if n < 0 then Lib.itoa n else 43 :: Lib.itoa n
def txt (x : Fr) : List UInt8 := sgn x.re ++ sgn x.im ++ [105] ++ (if x.den = 1 then [] else 47 :: Lib.itoa x.den)
def Xe (x : Fr) : List UInt8 × Bool := if x.valid then (txt x, true) else ([], false)

def Tab (w : World) : Prop := Lib.TabIs Tryz.prog w "internal/strconv.uint64pow10" .u64 Lib.pow10Tab
theorem tabIs_ex {w w' : World} {s : String} {k : IntKind} {zs : List Int} (h : Lib.TabIs Tryz.prog w s k zs) (he : Ex w w') : Lib.TabIs Tryz.prog w' s k zs := by
 unfold Lib.TabIs World.var? at h ⊢
 cases hg : Tryz.prog.globalNamed s with
 | none => rw [hg] at h; cases h
 | some g =>
  rw [hg] at h
  simp only [Option.bind_some] at h ⊢
  cases hb : w.heap[g]? with
  | none => rw [hb] at h; cases h
  | some o => rw [he.block hb]; rw [hb] at h; exact h
theorem Tab.ex {w w' : World} (h : Tab w) (he : Ex w w') : Tab w' := tabIs_ex h he
theorem Tab.alloc {w : World} (h : Tab w) (o : Obj) : Tab (w.alloc o) := h.ex ((Ex.refl _).alloc o)
theorem Tab.drew {w : World} (h : Tab w) : Tab w.drew := h
theorem ex_grow (w : World) (k : Nat) (os : Array Obj) : Ex w (Sort.grow (w.drewN k) os) := Lib.below_grow _ w (Nat.le_refl _) k os
theorem Sa (n : Int) (h0 : -9223372036854775808 ≤ n) (h1 : n ≤ 9223372036854775807) (w : World) (ht : Tab w) :
  Calls Tryz.prog 32 #[.int .i64 n] w fun e w' => e = .returned (.string (Bs (Lib.itoa n))) ∧ Ex w w' :=
 (Tryz.strconv_Itoa n h0 h1 w ht).mono fun e w' ⟨h, k, os, hw⟩ => ⟨h, by rw [hw]; exact ex_grow w k os⟩
theorem Ur (n : Int) (h0 : -9223372036854775808 ≤ n) (h1 : n ≤ 9223372036854775807) : (Lib.itoa n).length ≤ 21 := Lib.itoa_length_le n h0 h1
theorem sgn_len (n : Int) (h0 : -9223372036854775808 ≤ n) (h1 : n ≤ 9223372036854775807) : (sgn n).length ≤ 22 := by
 have := Ur n h0 h1
 unfold sgn
 split
 ·omega
 ·simp; omega
theorem Te (a b : List UInt8) (h : a.length + b.length ≤ 1000000) : ¬ 9223372036854775807 < (Bs a).size + (Bs b).size ∧ Bs a ++ Bs b = Bs (a ++ b) := by
 refine ⟨?_, Vs a b⟩
 rw [Zd, Zd]
 omega
theorem Td (c : UInt8) (b : List UInt8) (h : b.length ≤ 1000000) : ¬ 9223372036854775807 < 1 + (Bs b).size ∧ (⟨#[c]⟩ : ByteArray) ++ Bs b = Bs (c :: b) := by
 refine ⟨?_, Vs [c] b⟩
 rw [Zd]
 omega
theorem cat_back (a : List UInt8) (c : UInt8) (h : a.length ≤ 1000000) : ¬ 9223372036854775807 < (Bs a).size + 1 ∧ Bs a ++ (⟨#[c]⟩ : ByteArray) = Bs (a ++ [c]) := by
 refine ⟨?_, Vs a [c]⟩
 rw [Zd]
 omega
end
section
open Go.RowKit

theorem gTab : Tryz.prog.globalNamed "internal/strconv.uint64pow10" = some 6 := by kernel_rfl
theorem gTabType : (Tryz.prog.globals[6]?).map (·.type) = some 239 := by kernel_rfl
end
section
open Go.RowKit

def Uz (c : UInt8) : Bool := decide (48 ≤ c.toNat ∧ c.toNat ≤ 57)
def dig : List UInt8 → Nat → Nat × Nat
 | [], n => (n, 0)
 | c :: t, n => if Uz c = true ∧ n ≤ 2000000000 then ((dig t (10 * n + (c.toNat - 48))).1, (dig t (10 * n + (c.toNat - 48))).2 + 1) else (n, 0)
theorem Wj {u : Nat} (h : u < 10) : (UInt8.ofNat (48 + u)).toNat = 48 + u := by
 have : (UInt8.ofNat (48 + u)).toNat = (48 + u) % 256 := UInt8.toNat_ofNat'
 omega
theorem digit_is {u : Nat} (h : u < 10) : Uz (UInt8.ofNat (48 + u)) = true := by
 unfold Uz
 rw [Wj h]
 simp
 omega
theorem Ry (u : Nat) : ∀ c ∈ Lib.decDigits u, Uz c = true := by
 induction u using Nat.strongRecOn with
 | _ u ih =>
  intro c hc
  unfold Lib.decDigits at hc
  split at hc
  ·rename_i h
   rw [List.mem_singleton.1 hc]
   exact digit_is h
  ·rename_i h
   rw [List.mem_append] at hc
   rcases hc with hc | hc
   ·exact ih (u / 10) (by omega) c hc
   ·rw [List.mem_singleton.1 hc]
    exact digit_is (by omega)
def Stops (l : List UInt8) : Prop := ∀ c t, l = c :: t → Uz c = false
theorem dec_short (u : Nat) : ∀ k, u < 10 ^ (k + 1) → (Lib.decDigits u).length ≤ k + 1 := by
 induction u using Nat.strongRecOn with
 | _ u ih =>
  intro k hk
  by_cases h : u < 10
  ·rw [Lib.decDigits_one h]
   simp
  ·have e : Lib.decDigits u = Lib.decDigits (u / 10) ++ [UInt8.ofNat (48 + u % 10)] := by
    conv => lhs; unfold Lib.decDigits
    rw [dif_neg h]
   rw [e]
   cases k with
   | zero => simp at hk; omega
   | succ k =>
    have := ih (u / 10) (by omega) k (by rw [Nat.pow_succ] at hk; omega)
    simp
    omega
def sign1 (n : Int) : UInt8 := if n < 0 then 45 else 43
theorem sgn_form (n : Int) : sgn n = sign1 n :: Lib.decDigits n.natAbs := by
 unfold sgn sign1
 by_cases h : n < 0
 ·rw [if_pos h, if_pos h]
  unfold Lib.itoa
  rw [if_pos h]
 ·rw [if_neg h, if_neg h]
  unfold Lib.itoa
  rw [if_neg h]
  congr 2
  omega
def part (l : List UInt8) (i : Nat) : Int × Nat :=
 ((if l[i]? = some 45 then -1 else 1) * ((dig (l.drop (i + 1)) 0).1 : Int), i + 1 + (dig (l.drop (i + 1)) 0).2)
def sparse (l : List UInt8) : Fr :=
 ⟨(part l 0).1, (part l (part l 0).2).1, if (part l (part l 0).2).2 + 1 < l.length then ((dig (l.drop ((part l (part l 0).2).2 + 2)) 0).1 : Int) else 1⟩
def tailT (x : Fr) : List UInt8 := if x.den = 1 then [] else 47 :: Lib.itoa x.den
theorem itoa_den {n : Int} (h : 1 ≤ n) : Lib.itoa n = Lib.decDigits n.natAbs := by
 unfold Lib.itoa
 rw [if_neg (by omega)]
 congr 1
 omega
def rd (l : List UInt8) : Fr × Bool := if (sparse l).valid = true ∧ txt (sparse l) = l then (sparse l, true) else (⟨0, 0, 0⟩, false)
def isSign (c : UInt8) : Bool := c == 43 || c == 45
def lastSign : List UInt8 → Int
 | [] => -1
 | c :: t => if 0 ≤ lastSign t then lastSign t + 1 else if isSign c then 0 else -1
theorem Qg (u : Nat) : ∀ rest, u ≤ 20000000009 → Lib.parseUint10 0 (Lib.decDigits u ++ rest) = Lib.parseUint10 u rest := by
 induction u using Nat.strongRecOn with
 | _ u ih =>
  intro rest hu
  by_cases h : u < 10
  ·rw [Lib.decDigits_one h]
   show Lib.parseUint10 0 (UInt8.ofNat (48 + u) :: rest) = _
   have hd : 48 ≤ (UInt8.ofNat (48 + u)).toNat ∧ (UInt8.ofNat (48 + u)).toNat ≤ 57 := by rw [Wj h]; omega
   simp only [Lib.parseUint10, if_pos hd]
   rw [Wj h, if_neg (by omega), if_neg (by omega)]
   congr 1
   omega
  ·have e : Lib.decDigits u = Lib.decDigits (u / 10) ++ [UInt8.ofNat (48 + u % 10)] := by
    conv => lhs; unfold Lib.decDigits
    rw [dif_neg h]
   rw [e, List.append_assoc, ih (u / 10) (by omega) _ (by omega)]
   show Lib.parseUint10 (u / 10) (UInt8.ofNat (48 + u % 10) :: rest) = _
   have hm : u % 10 < 10 := by omega
   have hd : 48 ≤ (UInt8.ofNat (48 + u % 10)).toNat ∧ (UInt8.ofNat (48 + u % 10)).toNat ≤ 57 := by rw [Wj hm]; omega
   simp only [Lib.parseUint10, if_pos hd]
   rw [Wj hm, if_neg (by omega), if_neg (by omega)]
   congr 1
   omega
theorem dec_ne (u : Nat) : Lib.decDigits u ≠ [] := by
 unfold Lib.decDigits
 split <;> simp
theorem mag_dec {u : Nat} (h : u ≤ 2000000000) : Lib.parseMag (Lib.decDigits u) = .ok u := by
 unfold Lib.parseMag
 rw [if_neg (dec_ne u)]
 have := Qg u [] (by omega)
 rw [List.append_nil] at this
 rw [this]
 rfl
theorem atoi_sgn {n : Int} (h0 : -2000000000 ≤ n) (h1 : n ≤ 2000000000) : Lib.atoiAll (sgn n) = .ok n := by
 rw [sgn_form]
 unfold sign1
 by_cases h : n < 0
 ·rw [if_pos h, Lib.atoiAll_minus, mag_dec (by omega)]
  simp only [Lib.signed]
  rw [if_neg (by omega)]
  congr 1
  omega
 ·rw [if_neg h, Lib.atoiAll_plus, mag_dec (by omega)]
  simp only [Lib.signless]
  rw [if_neg (by omega)]
  congr 1
  omega
theorem atoi_den {n : Int} (h0 : 1 ≤ n) (h1 : n ≤ 2000000000) : Lib.atoiAll (Lib.itoa n) = .ok n := by
 rw [itoa_den h0]
 obtain ⟨c, r, e⟩ : ∃ c r, Lib.decDigits n.natAbs = c :: r := by
  cases h : Lib.decDigits n.natAbs with
  | nil => exact absurd h (dec_ne _)
  | cons c r => exact ⟨c, r, rfl⟩
 have hd : Uz c = true := Ry n.natAbs c (by rw [e]; exact List.mem_cons_self)
 have hc : 48 ≤ c.toNat ∧ c.toNat ≤ 57 := by simpa [Uz] using hd
 have hm := mag_dec (u := n.natAbs) (by omega)
 rw [e] at hm ⊢
 rw [Lib.atoiAll_plain c r (by omega) (by omega), hm]
 simp only [Lib.signless]
 rw [if_neg (by omega)]
 congr 1
 omega
end
section
open Go.RowKit

structure Xm (w : World) : Prop where
 tab : Tab w
 max : ∃ m, w.cell? ⟨4, 0, none⟩ = some (.int .i64 m)
 syn : ∃ t p, w.cell? ⟨9, 0, none⟩ = some (.iface t p)
 rng : ∃ t p, w.cell? ⟨10, 0, none⟩ = some (.iface t p)
theorem Xm.ex {w w' : World} (h : Xm w) (he : Ex w w') : Xm w' := by
 obtain ⟨m, hm⟩ := h.max
 obtain ⟨t1, p1, h1⟩ := h.syn
 obtain ⟨t2, p2, h2⟩ := h.rng
 exact ⟨h.tab.ex he, ⟨m, he.get hm⟩, ⟨t1, p1, he.get h1⟩, ⟨t2, p2, he.get h2⟩⟩
theorem Xm.alloc {w : World} (h : Xm w) (o : Obj) : Xm (w.alloc o) := h.ex ((Ex.refl _).alloc o)
def IsErr (v : Value) : Prop := v = .nilIface ∨ ∃ N : Nat, v = .iface 231 (.pointer (some ⟨N, 0, none⟩))
end
section
open Go.RowKit

def wds : List UInt8 → List (List UInt8)
 | [] => [[]]
 | b :: t => if b = 32 then [] :: wds t else (b :: (wds t).headD []) :: (wds t).tail
theorem To (l : List UInt8) : wds l ≠ [] := by
 cases l with
 | nil => simp [wds]
 | cons b t => unfold wds; split <;> simp
def pre (p : List UInt8) (ws : List (List UInt8)) : List (List UInt8) := (p ++ ws.headD []) :: ws.tail
theorem Ud {ws : List (List UInt8)} (h : ws ≠ []) : pre [] ws = ws := by
 cases ws with
 | nil => exact absurd rfl h
 | cons a t => rfl
theorem Vp (t : List UInt8) : wds (32 :: t) = [] :: wds t := by
 rw [wds, if_pos rfl]
theorem Vo {b : UInt8} (h : b ≠ 32) (t : List UInt8) : wds (b :: t) = pre [b] (wds t) := by
 rw [wds, if_neg h]
 rfl
theorem Rw (p q : List UInt8) (ws : List (List UInt8)) : pre p (pre q ws) = pre (p ++ q) ws := by
 simp [pre]
theorem wds_app : ∀ (a : List UInt8) (t : List UInt8), (∀ c ∈ a, c ≠ 32) → wds (a ++ t) = pre a (wds t)
 | [], t, _ => (Ud (To t)).symm
 | b :: a, t, h => by
  show wds (b :: (a ++ t)) = _
  rw [Vo (h b List.mem_cons_self), wds_app a t fun c hc => h c (List.mem_cons_of_mem _ hc), Rw]
  rfl
theorem wds_cut (a t : List UInt8) (h : ∀ c ∈ a, c ≠ 32) : wds (a ++ 32 :: t) = a :: wds t := by
 rw [wds_app a _ h, Vp]
 simp [pre]
theorem wds_one (a : List UInt8) (h : ∀ c ∈ a, c ≠ 32) : wds a = [a] := by
 have := wds_app a [] h
 rw [List.append_nil] at this
 rw [this]
 simp [pre, wds]
theorem Tn : ∀ l : List UInt8, (Lib.index l [32] = -1 ∧ ∀ c ∈ l, c ≠ 32) ∨ ∃ a t, l = a ++ 32 :: t ∧ Lib.index l [32] = (a.length : Nat) ∧ ∀ c ∈ a, c ≠ 32
 | [] => .inl ⟨rfl, fun _ h => by cases h⟩
 | b :: l => by
  by_cases hb : b = 32
  ·subst hb
   refine .inr ⟨[], l, rfl, ?_, fun _ h => by cases h⟩
   unfold Lib.index
   rw [if_pos (by simp)]
   rfl
  ·have hp : ([32] : List UInt8).isPrefixOf (b :: l) = false := by
    simp [List.isPrefixOf]
    exact fun e => hb e.symm
   rcases Tn l with ⟨h1, h2⟩ | ⟨a, t, rfl, h1, h2⟩
   ·refine .inl ⟨?_, fun c hc => ?_⟩
    ·unfold Lib.index
     rw [hp, h1]
     rfl
    ·rcases List.mem_cons.1 hc with rfl | hc
     ·exact hb
     ·exact h2 c hc
   ·refine .inr ⟨b :: a, t, rfl, ?_, fun c hc => ?_⟩
    ·unfold Lib.index
     rw [hp, h1]
     have : (((a.length : Nat) : Int) == -1) = false := by rw [beq_eq_false_iff_ne]; omega
     simp [this]
    ·rcases List.mem_cons.1 hc with rfl | hc
     ·exact hb
     ·exact h2 c hc
theorem bs_take (l : List UInt8) (n : Nat) : (Bs l).extract 0 n = Bs (l.take n) := by
 have := ByteArray.extract_mk l 0 n
 simpa [Bs] using this
theorem Uc (l : List UInt8) (n : Nat) : (Bs l).extract n (Bs l).size = Bs (l.drop n) := by
 have := ByteArray.extract_mk l n l.length
 unfold Bs at *
 have e : (ByteArray.mk l.toArray).size = l.length := rfl
 rw [e, this, List.take_of_length_le (by simp)]
theorem split_wds : ∀ (k : Nat) (l : List UInt8), Lib.countB (Bs l) ⟨#[32]⟩ = k → Lib.splitB ⟨#[32]⟩ 0 k (Bs l) = (wds l).map Bs := by
 intro k
 induction k with
 | zero =>
  intro l h
  rcases Tn l with ⟨h1, h2⟩ | ⟨a, t, rfl, h1, h2⟩
  ·rw [wds_one l h2]
   rfl
  ·have := Lib.countB_hit (Bs (a ++ 32 :: t)) ⟨#[32]⟩ a.length (by decide) h1
   omega
 | succ k ih =>
  intro l h
  rcases Tn l with ⟨h1, h2⟩ | ⟨a, t, rfl, h1, h2⟩
  ·have := Lib.countB_miss (Bs l) ⟨#[32]⟩ h1
   omega
  ·have hc := Lib.countB_hit (Bs (a ++ 32 :: t)) ⟨#[32]⟩ a.length (by decide) h1
   rw [Lib.splitB_hit ⟨#[32]⟩ 0 k (Bs (a ++ 32 :: t)) a.length h1]
   have e1 : (⟨#[32]⟩ : ByteArray).size = 1 := rfl
   have e2 : (a ++ 32 :: t).take (a.length + 0) = a := List.take_left' rfl
   have e3 : (a ++ 32 :: t).drop (a.length + 1) = t := by
    have : a ++ 32 :: t = (a ++ [32]) ++ t := by simp
    rw [this]
    exact List.drop_left' (by simp)
   rw [e1] at hc ⊢
   rw [Uc, e3] at hc
   rw [bs_take, Uc, e2, e3]
   rw [wds_cut a t h2, ih t (by omega)]
   rfl
theorem wds_count (l : List UInt8) : (wds l).length = Lib.countB (Bs l) ⟨#[32]⟩ + 1 := by
 have h1 := split_wds _ l rfl
 have h2 := Lib.splitB_all ⟨#[32]⟩ (by decide) 0 _ (Bs l) rfl
 rw [h1, List.length_map] at h2
 exact h2
theorem Rc : ∀ (l : List UInt8), ∀ x ∈ wds l, x.length ≤ l.length
 | [], x, hx => by simp [wds] at hx; subst hx; simp
 | b :: t, x, hx => by
  have ih := Rc t
  by_cases hb : b = 32
  ·subst hb
   rw [Vp] at hx
   rcases List.mem_cons.1 hx with rfl | hx
   ·simp
   ·have := ih x hx
    simp
    omega
  ·rw [Vo hb] at hx
   obtain ⟨h, r, hr⟩ : ∃ h r, wds t = h :: r := by
    cases hw : wds t with
    | nil => exact absurd hw (To t)
    | cons h r => exact ⟨h, r, rfl⟩
   rw [hr] at hx ih
   simp only [pre, List.headD_cons, List.tail_cons] at hx
   rcases List.mem_cons.1 hx with rfl | hx
   ·have := ih h List.mem_cons_self
    simp
    omega
   ·have := ih x (List.mem_cons_of_mem _ hx)
    simp
    omega
end
section
open Go.RowKit

def cds : List UInt8 → List (List UInt8)
 | [] => [[]]
 | b :: t => if b = 58 then [] :: cds t else (b :: (cds t).headD []) :: (cds t).tail
theorem Tm (l : List UInt8) : cds l ≠ [] := by
 cases l with
 | nil => simp [cds]
 | cons b t => unfold cds; split <;> simp
theorem Vn (t : List UInt8) : cds (58 :: t) = [] :: cds t := by
 rw [cds, if_pos rfl]
theorem Vm {b : UInt8} (h : b ≠ 58) (t : List UInt8) : cds (b :: t) = pre [b] (cds t) := by
 rw [cds, if_neg h]
 rfl
theorem cds_app : ∀ (a : List UInt8) (t : List UInt8), (∀ c ∈ a, c ≠ 58) → cds (a ++ t) = pre a (cds t)
 | [], t, _ => (Ud (Tm t)).symm
 | b :: a, t, h => by
  show cds (b :: (a ++ t)) = _
  rw [Vm (h b List.mem_cons_self), cds_app a t fun c hc => h c (List.mem_cons_of_mem _ hc), Rw]
  rfl
theorem cds_cut (a t : List UInt8) (h : ∀ c ∈ a, c ≠ 58) : cds (a ++ 58 :: t) = a :: cds t := by
 rw [cds_app a _ h, Vn]
 simp [pre]
theorem cds_one (a : List UInt8) (h : ∀ c ∈ a, c ≠ 58) : cds a = [a] := by
 have := cds_app a [] h
 rw [List.append_nil] at this
 rw [this]
 simp [pre, cds]
theorem Tl : ∀ l : List UInt8, (Lib.index l [58] = -1 ∧ ∀ c ∈ l, c ≠ 58) ∨ ∃ a t, l = a ++ 58 :: t ∧ Lib.index l [58] = (a.length : Nat) ∧ ∀ c ∈ a, c ≠ 58
 | [] => .inl ⟨rfl, fun _ h => by cases h⟩
 | b :: l => by
  by_cases hb : b = 58
  ·subst hb
   refine .inr ⟨[], l, rfl, ?_, fun _ h => by cases h⟩
   unfold Lib.index
   rw [if_pos (by simp)]
   rfl
  ·have hp : ([58] : List UInt8).isPrefixOf (b :: l) = false := by
    simp [List.isPrefixOf]
    exact fun e => hb e.symm
   rcases Tl l with ⟨h1, h2⟩ | ⟨a, t, rfl, h1, h2⟩
   ·refine .inl ⟨?_, fun c hc => ?_⟩
    ·unfold Lib.index
     rw [hp, h1]
     rfl
    ·rcases List.mem_cons.1 hc with rfl | hc
     ·exact hb
     ·exact h2 c hc
   ·refine .inr ⟨b :: a, t, rfl, ?_, fun c hc => ?_⟩
    ·unfold Lib.index
     rw [hp, h1]
     have : (((a.length : Nat) : Int) == -1) = false := by rw [beq_eq_false_iff_ne]; omega
     simp [this]
    ·rcases List.mem_cons.1 hc with rfl | hc
     ·exact hb
     ·exact h2 c hc
theorem split_cds : ∀ (k : Nat) (l : List UInt8), Lib.countB (Bs l) ⟨#[58]⟩ = k → Lib.splitB ⟨#[58]⟩ 0 k (Bs l) = (cds l).map Bs := by
 intro k
 induction k with
 | zero =>
  intro l h
  rcases Tl l with ⟨h1, h2⟩ | ⟨a, t, rfl, h1, h2⟩
  ·rw [cds_one l h2]
   rfl
  ·have := Lib.countB_hit (Bs (a ++ 58 :: t)) ⟨#[58]⟩ a.length (by decide) h1
   omega
 | succ k ih =>
  intro l h
  rcases Tl l with ⟨h1, h2⟩ | ⟨a, t, rfl, h1, h2⟩
  ·have := Lib.countB_miss (Bs l) ⟨#[58]⟩ h1
   omega
  ·have hc := Lib.countB_hit (Bs (a ++ 58 :: t)) ⟨#[58]⟩ a.length (by decide) h1
   rw [Lib.splitB_hit ⟨#[58]⟩ 0 k (Bs (a ++ 58 :: t)) a.length h1]
   have e1 : (⟨#[58]⟩ : ByteArray).size = 1 := rfl
   have e2 : (a ++ 58 :: t).take (a.length + 0) = a := List.take_left' rfl
   have e3 : (a ++ 58 :: t).drop (a.length + 1) = t := by
    have : a ++ 58 :: t = (a ++ [58]) ++ t := by simp
    rw [this]
    exact List.drop_left' (by simp)
   rw [e1] at hc ⊢
   rw [Uc, e3] at hc
   rw [bs_take, Uc, e2, e3]
   rw [cds_cut a t h2, ih t (by omega)]
   rfl
theorem cds_count (l : List UInt8) : (cds l).length = Lib.countB (Bs l) ⟨#[58]⟩ + 1 := by
 have h1 := split_cds _ l rfl
 have h2 := Lib.splitB_all ⟨#[58]⟩ (by decide) 0 _ (Bs l) rfl
 rw [h1, List.length_map] at h2
 exact h2
theorem Wy : ∀ (l : List UInt8), ∀ x ∈ cds l, x.length ≤ l.length
 | [], x, hx => by simp [cds] at hx; subst hx; simp
 | b :: t, x, hx => by
  have ih := Wy t
  by_cases hb : b = 58
  ·subst hb
   rw [Vn] at hx
   rcases List.mem_cons.1 hx with rfl | hx
   ·simp
   ·have := ih x hx
    simp
    omega
  ·rw [Vm hb] at hx
   obtain ⟨h, r, hr⟩ : ∃ h r, cds t = h :: r := by
    cases hw : cds t with
    | nil => exact absurd hw (Tm t)
    | cons h r => exact ⟨h, r, rfl⟩
   rw [hr] at hx ih
   simp only [pre, List.headD_cons, List.tail_cons] at hx
   rcases List.mem_cons.1 hx with rfl | hx
   ·have := ih h List.mem_cons_self
    simp
    omega
   ·have := ih x (List.mem_cons_of_mem _ hx)
    simp
    omega
end
section
open Go.RowKit

theorem Th {l : List UInt8} {S : ByteArray} (h : S = Bs l) {i : Nat} (hi : i < l.length) : ∃ hs : i < S.size, S[i]'hs = l[i] := by
 subst h
 exact ⟨hi, rfl⟩
theorem drop_at {l : List UInt8} {i : Nat} (hi : i < l.length) : l.drop i = l[i] :: l.drop (i + 1) := List.drop_eq_getElem_cons hi
theorem drop_end {l : List UInt8} {i : Nat} (hi : ¬ i < l.length) : l.drop i = [] := List.drop_eq_nil_of_le (by omega)
theorem Vf {T S : ByteArray} (h : ¬ T = S) : (T.toList == S.toList) = false := by
 rw [beq_eq_false_iff_ne, Lib.toList_data, Lib.toList_data]
 exact fun e => h (Wv e)
theorem Bs_ne {a b : List UInt8} (h : a ≠ b) : ¬ Bs a = Bs b := fun e => h (by
 have h2 : (Bs a).data.toList = (Bs b).data.toList := by rw [e]
 simpa [Bs] using h2)
theorem slS : SlT 71 9 (.string ⟨#[]⟩) 1 16 := ⟨Tryz.underlying71, by kernel_rfl, rfl, by omega, by omega⟩
def Yd (ls : List (List UInt8)) : List Value := ls.map fun l => .string (Bs l)
def Vc (w : World) (lo : Nat) (A : Option Addr) (cap : Nat) (ls : List (List UInt8)) : Prop := Own w lo 9 1 (.slice A ls.length cap) ls.length (Yd ls)
theorem Ru (w : World) (lo : Nat) (hlo : lo ≤ w.heap.size) : Vc (w.alloc (.cells #[] 9)) lo (some ⟨w.heap.size, 0, none⟩) 0 [] := own_nil w lo _ 1 hlo
theorem Vc.ex {w w' : World} {lo : Nat} {A : Option Addr} {cap : Nat} {ls : List (List UInt8)} (h : Vc w lo A cap ls) (he : Ex w w') : Vc w' lo A cap ls := Own.ex h he
theorem Vc.snoc {w' : World} {lo : Nat} {A : Option Addr} {cap : Nat} {ls : List (List UInt8)} {l : List UInt8} (h : Own w' lo 9 1 (.slice A (ls.length + 1) cap) (ls.length + 1) (Yd ls ++ [.string (Bs l)])) : Vc w' lo A cap (ls ++ [l]) := by
 unfold Vc
 unfold Yd at h ⊢
 simpa using h
def Strs (w : World) (A : Option Addr) (ls : List (List UInt8)) : Prop := Slc w A (Yd ls)
theorem Strs.ex {w w1 : World} {A : Option Addr} {ls : List (List UInt8)} (h : Strs w A ls) (he : Ex w w1) : Strs w1 A ls := Slc.ex h he
def GotW (w : World) (ls : List (List UInt8)) : Ending → World → Prop := fun e w' => ∃ A cap, e = .returned (.slice A ls.length cap) ∧ Strs w' A ls ∧ Ex w w'
theorem Ux (l : List UInt8) (a b : Nat) : (Bs l).extract a b = Bs ((l.drop a).take (b - a)) := ByteArray.extract_mk l a b
theorem take_more {l : List UInt8} {p k : Nat} {c : UInt8} {t : List UInt8} (hp : p ≤ k) (hk : k < l.length) (h : l.drop k = c :: t) : (l.drop p).take (k + 1 - p) = (l.drop p).take (k - p) ++ [c] := by
 have hl : k - p < (l.drop p).length := by rw [List.length_drop]; omega
 have e : k + 1 - p = (k - p) + 1 := by omega
 rw [e, List.take_succ_eq_append_getElem hl]
 congr 1
 have e2 : (l.drop p)[k - p] = l[k] := by
  rw [List.getElem_drop]
  congr 1
  omega
 rw [e2]
 have e3 := List.drop_eq_getElem_cons hk
 rw [h] at e3
 injection e3 with e3 e4
 rw [e3]
end
section
open Go.RowKit

def GotO (w : World) (ls : List (List UInt8)) : Ending → World → Prop := fun e w' => ∃ A cap, e = .returned (.slice A ls.length cap) ∧ Vc w' w.heap.size A cap ls ∧ Ex w w'
theorem l7Cut_own (l : List UInt8) (hl : l.length ≤ 1048576) (w : World) : Calls Tryz.prog 70 #[.string (Bs l), .int .u8 32] w (GotO w (wds l)) := by
 obtain ⟨S, HS⟩ : ∃ S, Hid (S = Bs l) := ⟨_, Oi rfl⟩
 rw [← HS.out]
 have hsz : S.size = l.length := by rw [HS.out]; rfl
 have HZ := Oi hsz
 clear hsz
 go_enter Tryz.func70, Tryz.ntmps70
 go_wp2
 have hO := Ru w _ (Nat.le_refl _)
 have hE := (Ex.refl w).alloc (.cells #[] 9)
 go_loopw [7, 5, 6] (fun i v f wr => ∃ (k p : Nat) (B : Option Addr) (cb : Nat) (ys : List (List UInt8)), i = .int .i64 k ∧ v = .slice B ys.length cb ∧ f = .int .i64 p ∧ k ≤ l.length + 1 ∧ p ≤ k ∧ ys.length ≤ k ∧
   Hid ((k ≤ l.length → (∀ c ∈ (l.drop p).take (k - p), c ≠ 32) ∧ wds l = ys ++ pre ((l.drop p).take (k - p)) (wds (l.drop k))) ∧ (k = l.length + 1 → wds l = ys)) ∧ Hid (Vc wr w.heap.size B cb ys) ∧ Ex w wr) (fun i _ _ _ => l.length + 2 - (intOf i).toNat)
 case atStart => exact ⟨0, 0, _, 0, [], rfl, rfl, rfl, by omega, by omega, by simp, Oi ⟨fun _ => ⟨by simp, by simp [Ud (To l)]⟩, fun h => by omega⟩, Oi hO, hE⟩
 case round =>
  obtain ⟨k, p, B, cb, ys, rfl, rfl, rfl, hk, hp, hyk, HI, HO, hEr⟩ := hrel
  have hsz2 := hEr.size
  by_cases h1 : k = l.length + 1
  ·have hkI : ¬ (k : Int) ≤ (S.size : Int) := by rw [HZ.out]; omega
   have e1 := HI.out.2 h1
   clear HI
   go_wp2
   refine Od (v := .slice B ys.length cb) ?_ rfl ?_
   ·simp [results, Tryz.results70, go_sem]
   ·exact ⟨B, cb, rfl, HO.out, hEr⟩
  ·by_cases h2 : k = l.length
   ·obtain rfl : k = S.size := by rw [HZ.out]; exact h2
    have H2 := Oi h2
    clear h2 h1
    obtain ⟨x, Hx⟩ : ∃ x, Hid (x = (l.drop p).take (S.size - p)) := ⟨_, Oi rfl⟩
    have hext : S.extract p S.size = Bs x := by rw [Hx.out, ← Ux, ← HS.out]
    have hw5 : IntKind.i64.wrap ((S.size : Int) + 1) = (S.size : Int) + 1 := Oc _ (by have := H2.out; omega)
    have hpk : (p : Int) ≤ (S.size : Int) := by omega
    have hp0 : (0 : Int) ≤ (p : Int) := by omega
    have hk0 : (0 : Int) ≤ (S.size : Int) := by omega
    have hyl : ys.length ≤ 1048576 := by have := H2.out; omega
    have HNEW : Hid ((S.size + 1 ≤ l.length → (∀ c ∈ (l.drop (S.size + 1)).take (S.size + 1 - (S.size + 1)), c ≠ 32) ∧ wds l = (ys ++ [x]) ++ pre ((l.drop (S.size + 1)).take (S.size + 1 - (S.size + 1))) (wds (l.drop (S.size + 1)))) ∧ (S.size + 1 = l.length + 1 → wds l = ys ++ [x])) := Oi (by
     obtain ⟨g1, g2⟩ := HI.out.1 (by have := H2.out; omega)
     rw [← Hx.out] at g1 g2
     refine ⟨fun h => by have := H2.out; omega, fun _ => ?_⟩
     rw [g2, drop_end (by have := H2.out; omega)]
     simp [pre, wds])
    go_wp2_with (at_builtin; refine Xr slS rfl _ _ wr rfl w.heap.size B cb ys.length (Yd ys) [.string (Bs x)] rfl (by simp [Value.oneCell']) rfl HO.out rfl hyl hsz2 ?_)
    intro A' cap' w' hown' hk'
    have hE3 := hk'.ex w hEr (Nat.le_refl _)
    have HO3 := Oi (Vc.snoc (l := x) hown')
    clear hown' hk'
    go_wp2
    go_roundw
    case rel => exact ⟨S.size + 1, S.size + 1, A', cap', ys ++ [x], by go_num, by simp, by go_num, by have := H2.out; omega, by omega, by simp; omega, HNEW, HO3, hE3⟩
    case measure => have := H2.out; simp [intOf]; omega
   ·have hlt : k < l.length := by omega
    obtain ⟨hs, hc⟩ := Th HS.out hlt
    have hkI : (k : Int) ≤ (S.size : Int) := by rw [HZ.out]; omega
    have hkL : (k : Int) < (S.size : Int) := by rw [HZ.out]; omega
    have hkE : ¬ (k : Int) = (S.size : Int) := by rw [HZ.out]; omega
    have hkE2 : ((k : Int) == (S.size : Int)) = false := by simpa using hkE
    have hdr := drop_at hlt
    generalize l[k] = c at hc hdr
    by_cases h3 : c = 32
    ·have h3n : (c.toNat : Int) = 32 := by rw [h3]; rfl
     obtain ⟨x, Hx⟩ : ∃ x, Hid (x = (l.drop p).take (k - p)) := ⟨_, Oi rfl⟩
     have hext : S.extract p k = Bs x := by rw [HS.out, Ux, Hx.out]
     have hw5 : IntKind.i64.wrap ((k : Int) + 1) = (k : Int) + 1 := Oc _ (by omega)
     have hpk : (p : Int) ≤ (k : Int) := by omega
     have hp0 : (0 : Int) ≤ (p : Int) := by omega
     have hk0 : (0 : Int) ≤ (k : Int) := by omega
     have hyl : ys.length ≤ 1048576 := by omega
     have HNEW : Hid ((k + 1 ≤ l.length → (∀ c ∈ (l.drop (k + 1)).take (k + 1 - (k + 1)), c ≠ 32) ∧ wds l = (ys ++ [x]) ++ pre ((l.drop (k + 1)).take (k + 1 - (k + 1))) (wds (l.drop (k + 1)))) ∧ (k + 1 = l.length + 1 → wds l = ys ++ [x])) := Oi (by
      obtain ⟨g1, g2⟩ := HI.out.1 (by omega)
      rw [← Hx.out] at g1 g2
      refine ⟨fun _ => ⟨by simp, ?_⟩, fun h => by omega⟩
      rw [g2, hdr, h3, Vp, Nat.sub_self, List.take_zero, Ud (To _)]
      simp [pre])
     go_wp2_with (at_builtin; refine Xr slS rfl _ _ wr rfl w.heap.size B cb ys.length (Yd ys) [.string (Bs x)] rfl (by simp [Value.oneCell']) rfl HO.out rfl hyl hsz2 ?_)
     intro A' cap' w' hown' hk'
     have hE3 := hk'.ex w hEr (Nat.le_refl _)
     have HO3 := Oi (Vc.snoc (l := x) hown')
     clear hown' hk'
     go_wp2
     go_roundw
     case rel => exact ⟨k + 1, k + 1, A', cap', ys ++ [x], by go_num, by simp, by go_num, by omega, by omega, by simp; omega, HNEW, HO3, hE3⟩
     case measure => simp [intOf]; omega
    ·have h3n : ¬ (c.toNat : Int) = 32 := fun e => h3 (UInt8.toNat_inj.1 (by show c.toNat = 32; omega))
     have h3b : ((c.toNat : Int) == 32) = false := by simpa using h3n
     have hw5 : IntKind.i64.wrap ((k : Int) + 1) = (k : Int) + 1 := Oc _ (by omega)
     have HNEW : Hid ((k + 1 ≤ l.length → (∀ d ∈ (l.drop p).take (k + 1 - p), d ≠ 32) ∧ wds l = ys ++ pre ((l.drop p).take (k + 1 - p)) (wds (l.drop (k + 1)))) ∧ (k + 1 = l.length + 1 → wds l = ys)) := Oi (by
      obtain ⟨g1, g2⟩ := HI.out.1 (by omega)
      have e : (l.drop p).take (k + 1 - p) = (l.drop p).take (k - p) ++ [c] := take_more hp hlt hdr
      refine ⟨fun _ => ⟨?_, ?_⟩, fun h => by omega⟩
      ·intro d hd
       rw [e] at hd
       rcases List.mem_append.1 hd with hd | hd
       ·exact g1 d hd
       ·rw [List.mem_singleton.1 hd]; exact h3
      ·rw [g2, hdr, Vo h3, Rw, e])
     clear hdr
     go_wp2
     go_roundw
     case rel => exact ⟨k + 1, p, B, cb, ys, by go_num, rfl, rfl, by omega, by omega, by omega, HNEW, HO, hEr⟩
     case measure => simp [intOf]; omega
theorem l7CutC_own (l : List UInt8) (hl : l.length ≤ 1048576) (w : World) : Calls Tryz.prog 70 #[.string (Bs l), .int .u8 58] w (GotO w (cds l)) := by
 obtain ⟨S, HS⟩ : ∃ S, Hid (S = Bs l) := ⟨_, Oi rfl⟩
 rw [← HS.out]
 have hsz : S.size = l.length := by rw [HS.out]; rfl
 have HZ := Oi hsz
 clear hsz
 go_enter Tryz.func70, Tryz.ntmps70
 go_wp2
 have hO := Ru w _ (Nat.le_refl _)
 have hE := (Ex.refl w).alloc (.cells #[] 9)
 go_loopw [7, 5, 6] (fun i v f wr => ∃ (k p : Nat) (B : Option Addr) (cb : Nat) (ys : List (List UInt8)), i = .int .i64 k ∧ v = .slice B ys.length cb ∧ f = .int .i64 p ∧ k ≤ l.length + 1 ∧ p ≤ k ∧ ys.length ≤ k ∧
   Hid ((k ≤ l.length → (∀ c ∈ (l.drop p).take (k - p), c ≠ 58) ∧ cds l = ys ++ pre ((l.drop p).take (k - p)) (cds (l.drop k))) ∧ (k = l.length + 1 → cds l = ys)) ∧ Hid (Vc wr w.heap.size B cb ys) ∧ Ex w wr) (fun i _ _ _ => l.length + 2 - (intOf i).toNat)
 case atStart => exact ⟨0, 0, _, 0, [], rfl, rfl, rfl, by omega, by omega, by simp, Oi ⟨fun _ => ⟨by simp, by simp [Ud (Tm l)]⟩, fun h => by omega⟩, Oi hO, hE⟩
 case round =>
  obtain ⟨k, p, B, cb, ys, rfl, rfl, rfl, hk, hp, hyk, HI, HO, hEr⟩ := hrel
  have hsz2 := hEr.size
  by_cases h1 : k = l.length + 1
  ·have hkI : ¬ (k : Int) ≤ (S.size : Int) := by rw [HZ.out]; omega
   have e1 := HI.out.2 h1
   clear HI
   go_wp2
   refine Od (v := .slice B ys.length cb) ?_ rfl ?_
   ·simp [results, Tryz.results70, go_sem]
   ·exact ⟨B, cb, rfl, HO.out, hEr⟩
  ·by_cases h2 : k = l.length
   ·obtain rfl : k = S.size := by rw [HZ.out]; exact h2
    have H2 := Oi h2
    clear h2 h1
    obtain ⟨x, Hx⟩ : ∃ x, Hid (x = (l.drop p).take (S.size - p)) := ⟨_, Oi rfl⟩
    have hext : S.extract p S.size = Bs x := by rw [Hx.out, ← Ux, ← HS.out]
    have hw5 : IntKind.i64.wrap ((S.size : Int) + 1) = (S.size : Int) + 1 := Oc _ (by have := H2.out; omega)
    have hpk : (p : Int) ≤ (S.size : Int) := by omega
    have hp0 : (0 : Int) ≤ (p : Int) := by omega
    have hk0 : (0 : Int) ≤ (S.size : Int) := by omega
    have hyl : ys.length ≤ 1048576 := by have := H2.out; omega
    have HNEW : Hid ((S.size + 1 ≤ l.length → (∀ c ∈ (l.drop (S.size + 1)).take (S.size + 1 - (S.size + 1)), c ≠ 58) ∧ cds l = (ys ++ [x]) ++ pre ((l.drop (S.size + 1)).take (S.size + 1 - (S.size + 1))) (cds (l.drop (S.size + 1)))) ∧ (S.size + 1 = l.length + 1 → cds l = ys ++ [x])) := Oi (by
     obtain ⟨g1, g2⟩ := HI.out.1 (by have := H2.out; omega)
     rw [← Hx.out] at g1 g2
     refine ⟨fun h => by have := H2.out; omega, fun _ => ?_⟩
     rw [g2, drop_end (by have := H2.out; omega)]
     simp [pre, cds])
    go_wp2_with (at_builtin; refine Xr slS rfl _ _ wr rfl w.heap.size B cb ys.length (Yd ys) [.string (Bs x)] rfl (by simp [Value.oneCell']) rfl HO.out rfl hyl hsz2 ?_)
    intro A' cap' w' hown' hk'
    have hE3 := hk'.ex w hEr (Nat.le_refl _)
    have HO3 := Oi (Vc.snoc (l := x) hown')
    clear hown' hk'
    go_wp2
    go_roundw
    case rel => exact ⟨S.size + 1, S.size + 1, A', cap', ys ++ [x], by go_num, by simp, by go_num, by have := H2.out; omega, by omega, by simp; omega, HNEW, HO3, hE3⟩
    case measure => have := H2.out; simp [intOf]; omega
   ·have hlt : k < l.length := by omega
    obtain ⟨hs, hc⟩ := Th HS.out hlt
    have hkI : (k : Int) ≤ (S.size : Int) := by rw [HZ.out]; omega
    have hkL : (k : Int) < (S.size : Int) := by rw [HZ.out]; omega
    have hkE : ¬ (k : Int) = (S.size : Int) := by rw [HZ.out]; omega
    have hkE2 : ((k : Int) == (S.size : Int)) = false := by simpa using hkE
    have hdr := drop_at hlt
    generalize l[k] = c at hc hdr
    by_cases h3 : c = 58
    ·have h3n : (c.toNat : Int) = 58 := by rw [h3]; rfl
     obtain ⟨x, Hx⟩ : ∃ x, Hid (x = (l.drop p).take (k - p)) := ⟨_, Oi rfl⟩
     have hext : S.extract p k = Bs x := by rw [HS.out, Ux, Hx.out]
     have hw5 : IntKind.i64.wrap ((k : Int) + 1) = (k : Int) + 1 := Oc _ (by omega)
     have hpk : (p : Int) ≤ (k : Int) := by omega
     have hp0 : (0 : Int) ≤ (p : Int) := by omega
     have hk0 : (0 : Int) ≤ (k : Int) := by omega
     have hyl : ys.length ≤ 1048576 := by omega
     have HNEW : Hid ((k + 1 ≤ l.length → (∀ c ∈ (l.drop (k + 1)).take (k + 1 - (k + 1)), c ≠ 58) ∧ cds l = (ys ++ [x]) ++ pre ((l.drop (k + 1)).take (k + 1 - (k + 1))) (cds (l.drop (k + 1)))) ∧ (k + 1 = l.length + 1 → cds l = ys ++ [x])) := Oi (by
      obtain ⟨g1, g2⟩ := HI.out.1 (by omega)
      rw [← Hx.out] at g1 g2
      refine ⟨fun _ => ⟨by simp, ?_⟩, fun h => by omega⟩
      rw [g2, hdr, h3, Vn, Nat.sub_self, List.take_zero, Ud (Tm _)]
      simp [pre])
     go_wp2_with (at_builtin; refine Xr slS rfl _ _ wr rfl w.heap.size B cb ys.length (Yd ys) [.string (Bs x)] rfl (by simp [Value.oneCell']) rfl HO.out rfl hyl hsz2 ?_)
     intro A' cap' w' hown' hk'
     have hE3 := hk'.ex w hEr (Nat.le_refl _)
     have HO3 := Oi (Vc.snoc (l := x) hown')
     clear hown' hk'
     go_wp2
     go_roundw
     case rel => exact ⟨k + 1, k + 1, A', cap', ys ++ [x], by go_num, by simp, by go_num, by omega, by omega, by simp; omega, HNEW, HO3, hE3⟩
     case measure => simp [intOf]; omega
    ·have h3n : ¬ (c.toNat : Int) = 58 := fun e => h3 (UInt8.toNat_inj.1 (by show c.toNat = 58; omega))
     have h3b : ((c.toNat : Int) == 58) = false := by simpa using h3n
     have hw5 : IntKind.i64.wrap ((k : Int) + 1) = (k : Int) + 1 := Oc _ (by omega)
     have HNEW : Hid ((k + 1 ≤ l.length → (∀ d ∈ (l.drop p).take (k + 1 - p), d ≠ 58) ∧ cds l = ys ++ pre ((l.drop p).take (k + 1 - p)) (cds (l.drop (k + 1)))) ∧ (k + 1 = l.length + 1 → cds l = ys)) := Oi (by
      obtain ⟨g1, g2⟩ := HI.out.1 (by omega)
      have e : (l.drop p).take (k + 1 - p) = (l.drop p).take (k - p) ++ [c] := take_more hp hlt hdr
      refine ⟨fun _ => ⟨?_, ?_⟩, fun h => by omega⟩
      ·intro d hd
       rw [e] at hd
       rcases List.mem_append.1 hd with hd | hd
       ·exact g1 d hd
       ·rw [List.mem_singleton.1 hd]; exact h3
      ·rw [g2, hdr, Vm h3, Rw, e])
     clear hdr
     go_wp2
     go_roundw
     case rel => exact ⟨k + 1, p, B, cb, ys, by go_num, rfl, rfl, by omega, by omega, by omega, HNEW, HO, hEr⟩
     case measure => simp [intOf]; omega
end
section
open Go.RowKit

def lns : List UInt8 → List (List UInt8)
 | [] => [[]]
 | b :: t => if b = 10 then [] :: lns t else (b :: (lns t).headD []) :: (lns t).tail
theorem lns_ne (l : List UInt8) : lns l ≠ [] := by
 cases l with
 | nil => simp [lns]
 | cons b t => unfold lns; split <;> simp
theorem Qy (t : List UInt8) : lns (10 :: t) = [] :: lns t := by
 rw [lns, if_pos rfl]
theorem Qx {b : UInt8} (h : b ≠ 10) (t : List UInt8) : lns (b :: t) = pre [b] (lns t) := by
 rw [lns, if_neg h]
 rfl
theorem lns_app : ∀ (a : List UInt8) (t : List UInt8), (∀ c ∈ a, c ≠ 10) → lns (a ++ t) = pre a (lns t)
 | [], t, _ => (Ud (lns_ne t)).symm
 | b :: a, t, h => by
  show lns (b :: (a ++ t)) = _
  rw [Qx (h b List.mem_cons_self), lns_app a t fun c hc => h c (List.mem_cons_of_mem _ hc), Rw]
  rfl
theorem Sy (a t : List UInt8) (h : ∀ c ∈ a, c ≠ 10) : lns (a ++ 10 :: t) = a :: lns t := by
 rw [lns_app a _ h, Qy]
 simp [pre]
theorem lns_one (a : List UInt8) (h : ∀ c ∈ a, c ≠ 10) : lns a = [a] := by
 have := lns_app a [] h
 rw [List.append_nil] at this
 rw [this]
 simp [pre, lns]
theorem Sj : ∀ l : List UInt8, (Lib.index l [10] = -1 ∧ ∀ c ∈ l, c ≠ 10) ∨ ∃ a t, l = a ++ 10 :: t ∧ Lib.index l [10] = (a.length : Nat) ∧ ∀ c ∈ a, c ≠ 10
 | [] => .inl ⟨rfl, fun _ h => by cases h⟩
 | b :: l => by
  by_cases hb : b = 10
  ·subst hb
   refine .inr ⟨[], l, rfl, ?_, fun _ h => by cases h⟩
   unfold Lib.index
   rw [if_pos (by simp)]
   rfl
  ·have hp : ([10] : List UInt8).isPrefixOf (b :: l) = false := by
    simp [List.isPrefixOf]
    exact fun e => hb e.symm
   rcases Sj l with ⟨h1, h2⟩ | ⟨a, t, rfl, h1, h2⟩
   ·refine .inl ⟨?_, fun c hc => ?_⟩
    ·unfold Lib.index
     rw [hp, h1]
     rfl
    ·rcases List.mem_cons.1 hc with rfl | hc
     ·exact hb
     ·exact h2 c hc
   ·refine .inr ⟨b :: a, t, rfl, ?_, fun c hc => ?_⟩
    ·unfold Lib.index
     rw [hp, h1]
     have : (((a.length : Nat) : Int) == -1) = false := by rw [beq_eq_false_iff_ne]; omega
     simp [this]
    ·rcases List.mem_cons.1 hc with rfl | hc
     ·exact hb
     ·exact h2 c hc
theorem split_lns : ∀ (k : Nat) (l : List UInt8), Lib.countB (Bs l) ⟨#[10]⟩ = k → Lib.splitB ⟨#[10]⟩ 0 k (Bs l) = (lns l).map Bs := by
 intro k
 induction k with
 | zero =>
  intro l h
  rcases Sj l with ⟨h1, h2⟩ | ⟨a, t, rfl, h1, h2⟩
  ·rw [lns_one l h2]
   rfl
  ·have := Lib.countB_hit (Bs (a ++ 10 :: t)) ⟨#[10]⟩ a.length (by decide) h1
   omega
 | succ k ih =>
  intro l h
  rcases Sj l with ⟨h1, h2⟩ | ⟨a, t, rfl, h1, h2⟩
  ·have := Lib.countB_miss (Bs l) ⟨#[10]⟩ h1
   omega
  ·have hc := Lib.countB_hit (Bs (a ++ 10 :: t)) ⟨#[10]⟩ a.length (by decide) h1
   rw [Lib.splitB_hit ⟨#[10]⟩ 0 k (Bs (a ++ 10 :: t)) a.length h1]
   have e1 : (⟨#[10]⟩ : ByteArray).size = 1 := rfl
   have e2 : (a ++ 10 :: t).take (a.length + 0) = a := List.take_left' rfl
   have e3 : (a ++ 10 :: t).drop (a.length + 1) = t := by
    have : a ++ 10 :: t = (a ++ [10]) ++ t := by simp
    rw [this]
    exact List.drop_left' (by simp)
   rw [e1] at hc ⊢
   rw [Uc, e3] at hc
   rw [bs_take, Uc, e2, e3]
   rw [Sy a t h2, ih t (by omega)]
   rfl
theorem lns_count (l : List UInt8) : (lns l).length = Lib.countB (Bs l) ⟨#[10]⟩ + 1 := by
 have h1 := split_lns _ l rfl
 have h2 := Lib.splitB_all ⟨#[10]⟩ (by decide) 0 _ (Bs l) rfl
 rw [h1, List.length_map] at h2
 exact h2
theorem lns_bytes : ∀ (l : List UInt8), ∀ x ∈ lns l, x.length ≤ l.length
 | [], x, hx => by simp [lns] at hx; subst hx; simp
 | b :: t, x, hx => by
  have ih := lns_bytes t
  by_cases hb : b = 10
  ·subst hb
   rw [Qy] at hx
   rcases List.mem_cons.1 hx with rfl | hx
   ·simp
   ·have := ih x hx
    simp
    omega
  ·rw [Qx hb] at hx
   obtain ⟨h, r, hr⟩ : ∃ h r, lns t = h :: r := by
    cases hw : lns t with
    | nil => exact absurd hw (lns_ne t)
    | cons h r => exact ⟨h, r, rfl⟩
   rw [hr] at hx ih
   simp only [pre, List.headD_cons, List.tail_cons] at hx
   rcases List.mem_cons.1 hx with rfl | hx
   ·have := ih h List.mem_cons_self
    simp
    omega
   ·have := ih x (List.mem_cons_of_mem _ hx)
    simp
    omega
end
section
open Go.RowKit

theorem sizeBld : (Tryz.prog.info? 70).map (·.size) = some 2 := by kernel_rfl
theorem liesBld : liesAt Tryz.prog Tryz.prog.depth 70 (2 / Tryz.prog.cellsOf 70) 0 70 1 = true := by kernel_rfl
theorem cc_used (b : Nat) (v : Value) (w : World) (hb : Box w b 70 #[.pointer (some ⟨b, 0, none⟩), v]) :
  Calls Tryz.prog 88 #[.pointer (some ⟨b, 0, none⟩)] w fun e w' => e = .returned (.tuple #[]) ∧ w' = w := by
 obtain ⟨j, hj, hjs⟩ := Option.map_eq_some_iff.1 sizeBld
 have c := hb.cell
 have z := hb.lt
 go_enter Tryz.func88, Tryz.ntmps88
 go_wp2
 rw [Lib.run_neq_ptr_same w _ Tryz.underlying68 hj]
 go_wp2
 go_end0
 exact ⟨rfl, rfl⟩
theorem cc_fresh (b : Nat) (v : Value) (w : World) (hb : Box w b 70 #[.pointer none, v]) :
  Calls Tryz.prog 88 #[.pointer (some ⟨b, 0, none⟩)] w fun e w' => e = .returned (.tuple #[]) ∧ w' = w.setCell ⟨b, 0, none⟩ (.pointer (some ⟨b, 0, none⟩)) := by
 obtain ⟨j, hj, hjs⟩ := Option.map_eq_some_iff.1 sizeBld
 have hsh : w.shape? b = some (70, 2) := by
  unfold Box at hb
  simp [World.shape?, hb]
 have c := hb.cell
 have f := hb.frozen
 have z := hb.lt
 go_enter Tryz.func88, Tryz.ntmps88
 go_wp2
 rw [Lib.run_to_unsafe w ⟨b, 0, none⟩ Tryz.underlying68 Tryz.underlying188 hj (by rw [hjs]; decide) hsh (Nat.zero_lt_succ 1)]
 simp only [Result.andThen]
 rw [Oper.upon_value]
 go_wp2
 rw [run_callFunc_extern Tryz.func149 (by kernel_rfl) (by kernel_rfl) (by kernel_rfl) (e := Extern.AbiNoEscape.same) (by kernel_rfl)]
 rw [Lib.run_noEscape]
 simp only [Result.andThen]
 rw [Oper.upon_value]
 go_wp2
 rw [Lib.run_from_unsafe w ⟨b, 0, none⟩ Tryz.underlying188 Tryz.underlying68 hj hsh liesBld]
 simp only [Result.andThen]
 rw [Oper.upon_value]
 go_wp2
 go_end0
 exact ⟨rfl, rfl⟩
structure Bld (w : World) (lo b : Nat) (p v : Value) (bs : List Value) : Prop where
 box : Box w b 70 #[p, v]
 own : Own w lo 5 1 v bs.length bs
 ptr : p = .pointer none ∨ p = .pointer (some ⟨b, 0, none⟩)
structure Ww (w w' : World) (lo b : Nat) : Prop where
 ex : ∀ W, Ex W w → W.heap.size ≤ lo → W.heap.size ≤ b → Ex W w'
 box : ∀ g t cs, g ≠ b → t ≠ 5 → Box w g t cs → Box w' g t cs
 size : w.heap.size ≤ w'.heap.size
theorem Ww.refl (w : World) (lo b : Nat) : Ww w w lo b := ⟨fun _ h _ _ => h, fun _ _ _ _ _ h => h, Nat.le_refl _⟩
theorem Ww.trans {w w1 w2 : World} {lo b : Nat} (h : Ww w w1 lo b) (k : Ww w1 w2 lo b) : Ww w w2 lo b :=
 ⟨fun W hW h1 h2 => k.ex W (h.ex W hW h1 h2) h1 h2, fun g t cs hg ht hb => k.box g t cs hg ht (h.box g t cs hg ht hb), Nat.le_trans h.size k.size⟩
theorem cc_any (lo b : Nat) (p v : Value) (bs : List Value) (w : World) (h : Bld w lo b p v bs) :
  Calls Tryz.prog 88 #[.pointer (some ⟨b, 0, none⟩)] w fun e w' => e = .returned (.tuple #[]) ∧ Bld w' lo b (.pointer (some ⟨b, 0, none⟩)) v bs ∧ Ww w w' lo b := by
 obtain ⟨hb, hown, hp⟩ := h
 have hne := Own.ne hown hb (by decide)
 rcases hp with rfl | rfl
 ·refine (cc_fresh b v w hb).mono ?_
  rintro e w' ⟨rfl, rfl⟩
  refine ⟨rfl, ⟨?_, Own.setCell (p := ⟨b, 0, none⟩) hown (fun g hg e => hne (by rw [hg, e])) _, .inr rfl⟩, ?_, ?_, ?_⟩
  ·have := hb.set_ 0 (.pointer (some ⟨b, 0, none⟩))
   simpa using this
  ·intro W hW h1 h2
   exact hW.setCell (p := ⟨b, 0, none⟩) h2 _
  ·intro g t cs hg ht hbx
   exact hbx.far (p := ⟨b, 0, none⟩) hg _
  ·simp
 ·refine (cc_used b v w hb).mono ?_
  rintro e w' ⟨rfl, rfl⟩
  exact ⟨rfl, ⟨hb, hown, .inr rfl⟩, Ww.refl _ _ _⟩
theorem ws_any (lo b : Nat) (p v : Value) (bs : List Value) (s : ByteArray) (w : World) (h : Bld w lo b p v bs) (hlo : lo ≤ w.heap.size) (hl : bs.length + s.size ≤ 10000000) :
  Calls Tryz.prog 31 #[.pointer (some ⟨b, 0, none⟩), .string s] w fun e w' =>
   e = .returned (.tuple #[.int .i64 s.size, .nilIface]) ∧ ∃ v', Bld w' lo b (.pointer (some ⟨b, 0, none⟩)) v' (bs ++ Lib.strCells s) ∧ Ww w w' lo b := by
 obtain ⟨i0, hi, hz0, hz1, hz2⟩ := info_parts (show (Tryz.prog.info? 5).map (fun i => (i.zero, i.size, i.bytes)) = some (some (.int .u8 0), 1, 1) by kernel_rfl)
 have K := Oi (cc_any lo b p v bs w h)
 clear h
 have h63 : bs.length + s.size ≤ maxLen := by unfold maxLen; omega
 go_enter Tryz.func31, Tryz.ntmps31
 go_wp2_with (go_at_call 88; refine K.out.mono ?_)
 rintro e w1 ⟨rfl, ⟨hb, hown, -⟩, HK⟩
 have hHK := Oi HK
 have hlo1 : lo ≤ w1.heap.size := Nat.le_trans hlo HK.size
 clear HK
 have hrow : w1.ownsRow lo 5 1 v bs.length bs := hown
 have c := hb.cell
 have z := hb.lt
 have hne : some b ≠ v.ownBlock := Own.ne hown hb (by decide)
 go_wp2_with (at_builtin; refine Lib.wpList_append_own_string _ rfl _ _ 22 9 rfl lo 5 i0 Tryz.underlying22 Tryz.underlying9 hi hz0 hz1 hz2 _ _ _ rfl hrow s rfl h63 (by omega) hlo1 ?_)
 intro v' w2 hown' hgrow _
 have hb2 : Box w2 b 70 #[.pointer (some ⟨b, 0, none⟩), v] := hb.grown hgrow hne
 have c2 := hb2.cell
 have f2 := hb2.frozen
 have z2 := hb2.lt
 obtain ⟨ao, cap, rfl, hA⟩ := Own.form hown'
 have hlt := Own.lt hown
 have hne2 : some b ≠ (Value.slice ao (bs.length + s.size) cap).ownBlock := Own.ne hown' hb2 (by decide)
 clear hA
 go_wp2
 go_ret2
 refine ⟨rfl, .slice ao (bs.length + s.size) cap, ⟨?_, ?_, .inr rfl⟩, hHK.out.trans ⟨?_, ?_, ?_⟩⟩
 ·have := hb2.set_ 1 (.slice ao (bs.length + s.size) cap)
  simpa using this
 ·rw [List.length_append, Lib.strCells_length]
  exact Own.setCell (p := ⟨b, 1, none⟩) hown' (fun g hg e => hne2 (by rw [hg, e])) _
 ·intro W hW h1 h2
  exact (hW.grown hgrow (fun k hk => Nat.le_trans h1 (hlt k hk).1)).setCell (p := ⟨b, 1, none⟩) h2 _
 ·intro g t cs hg ht hbx
  exact (hbx.grown hgrow (Own.ne hown hbx (fun e => ht e.symm))).far (p := ⟨b, 1, none⟩) hg _
 ·have := hgrow.size
  simpa using this
end
end Go.Proofs.YtmjggolkopbcnaaGreatDoor
