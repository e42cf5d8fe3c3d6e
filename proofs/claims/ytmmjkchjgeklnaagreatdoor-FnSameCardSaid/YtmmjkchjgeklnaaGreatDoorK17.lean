/-
  Proved: what functions compute, part 17. No condition.
-/
import Derived.Test.YtmmjkchjgeklnaaGreatDoorK04
import Derived.Test.YtmmjkchjgeklnaaGreatDoorK16
import Derived.Lib.ItoaNum
import Derived.Lib.ItoaLen
import Derived.Lib.AppendIntMem
import Derived.Lib.AtoiAllCases
import Derived.Lib.IndexMore
import Derived.Lib.SplitLaws
import Derived.Test.YtmmjkchjgeklnaaGreatDoorRows
import Derived.ProofKit
import Derived.LaidMore
import Derived.OpenShut
import Derived.Stop.Joined
import Derived.Stop.LaidErr
import Derived.Lib.LaidTab
import Derived.Test.YtmmjkchjgeklnaaGreatDoorK01
import Derived.Lib.Strings
set_option linter.unusedSimpArgs false
set_option linter.unusedVariables false
set_option maxRecDepth 20000
set_option maxHeartbeats 8000000
namespace Go.Proofs.YtmmjkchjgeklnaaGreatDoor
section
open Go.RowKit

def Bs (l : List UInt8) : ByteArray := ⟨l.toArray⟩
theorem data_app (a b : ByteArray) : (a ++ b).data.toList = a.data.toList ++ b.data.toList := by simp [ByteArray.data_append]
theorem Pg {a b : ByteArray} (h : a.data.toList = b.data.toList) : a = b := by
 cases a; cases b
 congr 1
 exact Array.toList_inj.1 h
theorem Bs_append (a b : List UInt8) : Bs a ++ Bs b = Bs (a ++ b) := Pg (by rw [data_app]; simp [Bs])
theorem Wa (l : List UInt8) : (Bs l).size = l.length := rfl
def sgn (n : Int) : List UInt8 := if n < 0 then Lib.itoa n else 43 :: Lib.itoa n
def txt (x : Fr) : List UInt8 := sgn x.re ++ sgn x.im ++ [105] ++ (if x.den = 1 then [] else 47 :: Lib.itoa x.den)
def ftext (x : Fr) : List UInt8 × Bool := if x.valid then (txt x, true) else ([], false)

def Tab (w : World) : Prop := Lib.TabIs Tryz.prog w "internal/strconv.uint64pow10" .u64 Lib.pow10Tab
theorem tabIs_ex {w w' : World} {s : String} {k : IntKind} {zs : List Int} (h : Lib.TabIs Tryz.prog w s k zs) (he : Ex w w') : Lib.TabIs Tryz.prog w' s k zs := by
 unfold Lib.TabIs World.var? at h ⊢
 cases hg : Tryz.prog.globalNamed s with
 | none => rw [hg] at h; cases h
 | some g =>
  rw [hg] at h
  simp only [Option.bind_some] at h ⊢
  cases hb : w.heap[g]? with
  | none => rw [hb] at h; cases h
  | some o => rw [he.block hb]; rw [hb] at h; exact h
theorem Tab.ex {w w' : World} (h : Tab w) (he : Ex w w') : Tab w' := tabIs_ex h he
theorem Tab.alloc {w : World} (h : Tab w) (o : Obj) : Tab (w.alloc o) := h.ex ((Ex.refl _).alloc o)
theorem Tab.drew {w : World} (h : Tab w) : Tab w.drew := h
theorem ex_grow (w : World) (k : Nat) (os : Array Obj) : Ex w (Sort.grow (w.drewN k) os) := Lib.below_grow _ w (Nat.le_refl _) k os
theorem itoa_any (n : Int) (h0 : -9223372036854775808 ≤ n) (h1 : n ≤ 9223372036854775807) (w : World) (ht : Tab w) :
  Calls Tryz.prog 154 #[.int .i64 n] w fun e w' => e = .returned (.string (Bs (Lib.itoa n))) ∧ Ex w w' :=
 (Tryz.strconv_Itoa n h0 h1 w ht).mono fun e w' ⟨h, k, os, hw⟩ => ⟨h, by rw [hw]; exact ex_grow w k os⟩
theorem cat_facts (a b : List UInt8) (h : a.length + b.length ≤ 1000000) : ¬ 9223372036854775807 < (Bs a).size + (Bs b).size ∧ Bs a ++ Bs b = Bs (a ++ b) := by
 refine ⟨?_, Bs_append a b⟩
 rw [Wa, Wa]
 omega
theorem cat_front (c : UInt8) (b : List UInt8) (h : b.length ≤ 1000000) : ¬ 9223372036854775807 < 1 + (Bs b).size ∧ (⟨#[c]⟩ : ByteArray) ++ Bs b = Bs (c :: b) := by
 refine ⟨?_, Bs_append [c] b⟩
 rw [Wa]
 omega
end
section
open Go.RowKit

def Rm (c : UInt8) : Bool := decide (48 ≤ c.toNat ∧ c.toNat ≤ 57)
def dig : List UInt8 → Nat → Nat × Nat
 | [], n => (n, 0)
 | c :: t, n => if Rm c = true ∧ n ≤ 2000000000 then ((dig t (10 * n + (c.toNat - 48))).1, (dig t (10 * n + (c.toNat - 48))).2 + 1) else (n, 0)
theorem Um {u : Nat} (h : u < 10) : (UInt8.ofNat (48 + u)).toNat = 48 + u := by
 have : (UInt8.ofNat (48 + u)).toNat = (48 + u) % 256 := UInt8.toNat_ofNat'
 omega
theorem digit_is {u : Nat} (h : u < 10) : Rm (UInt8.ofNat (48 + u)) = true := by
 unfold Rm
 rw [Um h]
 simp
 omega
theorem Lp (u : Nat) : ∀ c ∈ Lib.decDigits u, Rm c = true := by
 induction u using Nat.strongRecOn with
 | _ u ih =>
  intro c hc
  unfold Lib.decDigits at hc
  split at hc
  ·rename_i h
   rw [List.mem_singleton.1 hc]
   exact digit_is h
  ·rename_i h
   rw [List.mem_append] at hc
   rcases hc with hc | hc
   ·exact ih (u / 10) (by omega) c hc
   ·rw [List.mem_singleton.1 hc]
    exact digit_is (by omega)
def Stops (l : List UInt8) : Prop := ∀ c t, l = c :: t → Rm c = false
theorem dec_short (u : Nat) : ∀ k, u < 10 ^ (k + 1) → (Lib.decDigits u).length ≤ k + 1 := by
 induction u using Nat.strongRecOn with
 | _ u ih =>
  intro k hk
  by_cases h : u < 10
  ·rw [Lib.decDigits_one h]
   simp
  ·have e : Lib.decDigits u = Lib.decDigits (u / 10) ++ [UInt8.ofNat (48 + u % 10)] := by
    conv => lhs; unfold Lib.decDigits
    rw [dif_neg h]
   rw [e]
   cases k with
   | zero => simp at hk; omega
   | succ k =>
    have := ih (u / 10) (by omega) k (by rw [Nat.pow_succ] at hk; omega)
    simp
    omega
def sign1 (n : Int) : UInt8 := if n < 0 then 45 else 43
theorem sgn_form (n : Int) : sgn n = sign1 n :: Lib.decDigits n.natAbs := by
 unfold sgn sign1
 by_cases h : n < 0
 ·rw [if_pos h, if_pos h]
  unfold Lib.itoa
  rw [if_pos h]
 ·rw [if_neg h, if_neg h]
  unfold Lib.itoa
  rw [if_neg h]
  congr 2
  omega
def part (l : List UInt8) (i : Nat) : Int × Nat :=
 ((if l[i]? = some 45 then -1 else 1) * ((dig (l.drop (i + 1)) 0).1 : Int), i + 1 + (dig (l.drop (i + 1)) 0).2)
def sparse (l : List UInt8) : Fr :=
 ⟨(part l 0).1, (part l (part l 0).2).1, if (part l (part l 0).2).2 + 1 < l.length then ((dig (l.drop ((part l (part l 0).2).2 + 2)) 0).1 : Int) else 1⟩
def tailT (x : Fr) : List UInt8 := if x.den = 1 then [] else 47 :: Lib.itoa x.den
theorem itoa_den {n : Int} (h : 1 ≤ n) : Lib.itoa n = Lib.decDigits n.natAbs := by
 unfold Lib.itoa
 rw [if_neg (by omega)]
 congr 1
 omega
def rd (l : List UInt8) : Fr × Bool := if (sparse l).valid = true ∧ txt (sparse l) = l then (sparse l, true) else (⟨0, 0, 0⟩, false)
def isSign (c : UInt8) : Bool := c == 43 || c == 45
def lastSign : List UInt8 → Int
 | [] => -1
 | c :: t => if 0 ≤ lastSign t then lastSign t + 1 else if isSign c then 0 else -1
theorem Ja (u : Nat) : ∀ rest, u ≤ 20000000009 → Lib.parseUint10 0 (Lib.decDigits u ++ rest) = Lib.parseUint10 u rest := by
 induction u using Nat.strongRecOn with
 | _ u ih =>
  intro rest hu
  by_cases h : u < 10
  ·rw [Lib.decDigits_one h]
   show Lib.parseUint10 0 (UInt8.ofNat (48 + u) :: rest) = _
   have hd : 48 ≤ (UInt8.ofNat (48 + u)).toNat ∧ (UInt8.ofNat (48 + u)).toNat ≤ 57 := by rw [Um h]; omega
   simp only [Lib.parseUint10, if_pos hd]
   rw [Um h, if_neg (by omega), if_neg (by omega)]
   congr 1
   omega
  ·have e : Lib.decDigits u = Lib.decDigits (u / 10) ++ [UInt8.ofNat (48 + u % 10)] := by
    conv => lhs; unfold Lib.decDigits
    rw [dif_neg h]
   rw [e, List.append_assoc, ih (u / 10) (by omega) _ (by omega)]
   show Lib.parseUint10 (u / 10) (UInt8.ofNat (48 + u % 10) :: rest) = _
   have hm : u % 10 < 10 := by omega
   have hd : 48 ≤ (UInt8.ofNat (48 + u % 10)).toNat ∧ (UInt8.ofNat (48 + u % 10)).toNat ≤ 57 := by rw [Um hm]; omega
   simp only [Lib.parseUint10, if_pos hd]
   rw [Um hm, if_neg (by omega), if_neg (by omega)]
   congr 1
   omega
theorem dec_ne (u : Nat) : Lib.decDigits u ≠ [] := by
 unfold Lib.decDigits
 split <;> simp
theorem mag_dec {u : Nat} (h : u ≤ 2000000000) : Lib.parseMag (Lib.decDigits u) = .ok u := by
 unfold Lib.parseMag
 rw [if_neg (dec_ne u)]
 have := Ja u [] (by omega)
 rw [List.append_nil] at this
 rw [this]
 rfl
theorem atoi_sgn {n : Int} (h0 : -2000000000 ≤ n) (h1 : n ≤ 2000000000) : Lib.atoiAll (sgn n) = .ok n := by
 rw [sgn_form]
 unfold sign1
 by_cases h : n < 0
 ·rw [if_pos h, Lib.atoiAll_minus, mag_dec (by omega)]
  simp only [Lib.signed]
  rw [if_neg (by omega)]
  congr 1
  omega
 ·rw [if_neg h, Lib.atoiAll_plus, mag_dec (by omega)]
  simp only [Lib.signless]
  rw [if_neg (by omega)]
  congr 1
  omega
theorem atoi_den {n : Int} (h0 : 1 ≤ n) (h1 : n ≤ 2000000000) : Lib.atoiAll (Lib.itoa n) = .ok n := by
 rw [itoa_den h0]
 obtain ⟨c, r, e⟩ : ∃ c r, Lib.decDigits n.natAbs = c :: r := by
  cases h : Lib.decDigits n.natAbs with
  | nil => exact absurd h (dec_ne _)
  | cons c r => exact ⟨c, r, rfl⟩
 have hd : Rm c = true := Lp n.natAbs c (by rw [e]; exact List.mem_cons_self)
 have hc : 48 ≤ c.toNat ∧ c.toNat ≤ 57 := by simpa [Rm] using hd
 have hm := mag_dec (u := n.natAbs) (by omega)
 rw [e] at hm ⊢
 rw [Lib.atoiAll_plain c r (by omega) (by omega), hm]
 simp only [Lib.signless]
 rw [if_neg (by omega)]
 congr 1
 omega
end
section
open Go.RowKit

def wds : List UInt8 → List (List UInt8)
 | [] => [[]]
 | b :: t => if b = 32 then [] :: wds t else (b :: (wds t).headD []) :: (wds t).tail
theorem Jx (l : List UInt8) : wds l ≠ [] := by
 cases l with
 | nil => simp [wds]
 | cons b t => unfold wds; split <;> simp
def pre (p : List UInt8) (ws : List (List UInt8)) : List (List UInt8) := (p ++ ws.headD []) :: ws.tail
theorem Nd {ws : List (List UInt8)} (h : ws ≠ []) : pre [] ws = ws := by
 cases ws with
 | nil => exact absurd rfl h
 | cons a t => rfl
theorem Nc (t : List UInt8) : wds (32 :: t) = [] :: wds t := by
 rw [wds, if_pos rfl]
theorem Nb {b : UInt8} (h : b ≠ 32) (t : List UInt8) : wds (b :: t) = pre [b] (wds t) := by
 rw [wds, if_neg h]
 rfl
theorem Ir (p q : List UInt8) (ws : List (List UInt8)) : pre p (pre q ws) = pre (p ++ q) ws := by
 simp [pre]
theorem wds_app : ∀ (a : List UInt8) (t : List UInt8), (∀ c ∈ a, c ≠ 32) → wds (a ++ t) = pre a (wds t)
 | [], t, _ => (Nd (Jx t)).symm
 | b :: a, t, h => by
  show wds (b :: (a ++ t)) = _
  rw [Nb (h b List.mem_cons_self), wds_app a t fun c hc => h c (List.mem_cons_of_mem _ hc), Ir]
  rfl
theorem wds_cut (a t : List UInt8) (h : ∀ c ∈ a, c ≠ 32) : wds (a ++ 32 :: t) = a :: wds t := by
 rw [wds_app a _ h, Nc]
 simp [pre]
theorem wds_one (a : List UInt8) (h : ∀ c ∈ a, c ≠ 32) : wds a = [a] := by
 have := wds_app a [] h
 rw [List.append_nil] at this
 rw [this]
 simp [pre, wds]
theorem Od : ∀ l : List UInt8, (Lib.index l [32] = -1 ∧ ∀ c ∈ l, c ≠ 32) ∨ ∃ a t, l = a ++ 32 :: t ∧ Lib.index l [32] = (a.length : Nat) ∧ ∀ c ∈ a, c ≠ 32
 | [] => .inl ⟨rfl, fun _ h => by cases h⟩
 | b :: l => by
  by_cases hb : b = 32
  ·subst hb
   refine .inr ⟨[], l, rfl, ?_, fun _ h => by cases h⟩
   unfold Lib.index
   rw [if_pos (by simp)]
   rfl
  ·have hp : ([32] : List UInt8).isPrefixOf (b :: l) = false := by
    simp [List.isPrefixOf]
    exact fun e => hb e.symm
   rcases Od l with ⟨h1, h2⟩ | ⟨a, t, rfl, h1, h2⟩
   ·refine .inl ⟨?_, fun c hc => ?_⟩
    ·unfold Lib.index
     rw [hp, h1]
     rfl
    ·rcases List.mem_cons.1 hc with rfl | hc
     ·exact hb
     ·exact h2 c hc
   ·refine .inr ⟨b :: a, t, rfl, ?_, fun c hc => ?_⟩
    ·unfold Lib.index
     rw [hp, h1]
     have : (((a.length : Nat) : Int) == -1) = false := by rw [beq_eq_false_iff_ne]; omega
     simp [this]
    ·rcases List.mem_cons.1 hc with rfl | hc
     ·exact hb
     ·exact h2 c hc
theorem bs_take (l : List UInt8) (n : Nat) : (Bs l).extract 0 n = Bs (l.take n) := by
 have := ByteArray.extract_mk l 0 n
 simpa [Bs] using this
theorem Lo (l : List UInt8) (n : Nat) : (Bs l).extract n (Bs l).size = Bs (l.drop n) := by
 have := ByteArray.extract_mk l n l.length
 unfold Bs at *
 have e : (ByteArray.mk l.toArray).size = l.length := rfl
 rw [e, this, List.take_of_length_le (by simp)]
theorem split_wds : ∀ (k : Nat) (l : List UInt8), Lib.countB (Bs l) ⟨#[32]⟩ = k → Lib.splitB ⟨#[32]⟩ 0 k (Bs l) = (wds l).map Bs := by
 intro k
 induction k with
 | zero =>
  intro l h
  rcases Od l with ⟨h1, h2⟩ | ⟨a, t, rfl, h1, h2⟩
  ·rw [wds_one l h2]
   rfl
  ·have := Lib.countB_hit (Bs (a ++ 32 :: t)) ⟨#[32]⟩ a.length (by decide) h1
   omega
 | succ k ih =>
  intro l h
  rcases Od l with ⟨h1, h2⟩ | ⟨a, t, rfl, h1, h2⟩
  ·have := Lib.countB_miss (Bs l) ⟨#[32]⟩ h1
   omega
  ·have hc := Lib.countB_hit (Bs (a ++ 32 :: t)) ⟨#[32]⟩ a.length (by decide) h1
   rw [Lib.splitB_hit ⟨#[32]⟩ 0 k (Bs (a ++ 32 :: t)) a.length h1]
   have e1 : (⟨#[32]⟩ : ByteArray).size = 1 := rfl
   have e2 : (a ++ 32 :: t).take (a.length + 0) = a := List.take_left' rfl
   have e3 : (a ++ 32 :: t).drop (a.length + 1) = t := by
    have : a ++ 32 :: t = (a ++ [32]) ++ t := by simp
    rw [this]
    exact List.drop_left' (by simp)
   rw [e1] at hc ⊢
   rw [Lo, e3] at hc
   rw [bs_take, Lo, e2, e3]
   rw [wds_cut a t h2, ih t (by omega)]
   rfl
theorem wds_count (l : List UInt8) : (wds l).length = Lib.countB (Bs l) ⟨#[32]⟩ + 1 := by
 have h1 := split_wds _ l rfl
 have h2 := Lib.splitB_all ⟨#[32]⟩ (by decide) 0 _ (Bs l) rfl
 rw [h1, List.length_map] at h2
 exact h2
theorem Jw : ∀ (l : List UInt8), ∀ x ∈ wds l, x.length ≤ l.length
 | [], x, hx => by simp [wds] at hx; subst hx; simp
 | b :: t, x, hx => by
  have ih := Jw t
  by_cases hb : b = 32
  ·subst hb
   rw [Nc] at hx
   rcases List.mem_cons.1 hx with rfl | hx
   ·simp
   ·have := ih x hx
    simp
    omega
  ·rw [Nb hb] at hx
   obtain ⟨h, r, hr⟩ : ∃ h r, wds t = h :: r := by
    cases hw : wds t with
    | nil => exact absurd hw (Jx t)
    | cons h r => exact ⟨h, r, rfl⟩
   rw [hr] at hx ih
   simp only [pre, List.headD_cons, List.tail_cons] at hx
   rcases List.mem_cons.1 hx with rfl | hx
   ·have := ih h List.mem_cons_self
    simp
    omega
   ·have := ih x (List.mem_cons_of_mem _ hx)
    simp
    omega
end
section
open Go.RowKit

def cds : List UInt8 → List (List UInt8)
 | [] => [[]]
 | b :: t => if b = 58 then [] :: cds t else (b :: (cds t).headD []) :: (cds t).tail
theorem Jv (l : List UInt8) : cds l ≠ [] := by
 cases l with
 | nil => simp [cds]
 | cons b t => unfold cds; split <;> simp
theorem Na (t : List UInt8) : cds (58 :: t) = [] :: cds t := by
 rw [cds, if_pos rfl]
theorem Mz {b : UInt8} (h : b ≠ 58) (t : List UInt8) : cds (b :: t) = pre [b] (cds t) := by
 rw [cds, if_neg h]
 rfl
theorem cds_app : ∀ (a : List UInt8) (t : List UInt8), (∀ c ∈ a, c ≠ 58) → cds (a ++ t) = pre a (cds t)
 | [], t, _ => (Nd (Jv t)).symm
 | b :: a, t, h => by
  show cds (b :: (a ++ t)) = _
  rw [Mz (h b List.mem_cons_self), cds_app a t fun c hc => h c (List.mem_cons_of_mem _ hc), Ir]
  rfl
theorem cds_cut (a t : List UInt8) (h : ∀ c ∈ a, c ≠ 58) : cds (a ++ 58 :: t) = a :: cds t := by
 rw [cds_app a _ h, Na]
 simp [pre]
theorem cds_one (a : List UInt8) (h : ∀ c ∈ a, c ≠ 58) : cds a = [a] := by
 have := cds_app a [] h
 rw [List.append_nil] at this
 rw [this]
 simp [pre, cds]
theorem Oc : ∀ l : List UInt8, (Lib.index l [58] = -1 ∧ ∀ c ∈ l, c ≠ 58) ∨ ∃ a t, l = a ++ 58 :: t ∧ Lib.index l [58] = (a.length : Nat) ∧ ∀ c ∈ a, c ≠ 58
 | [] => .inl ⟨rfl, fun _ h => by cases h⟩
 | b :: l => by
  by_cases hb : b = 58
  ·subst hb
   refine .inr ⟨[], l, rfl, ?_, fun _ h => by cases h⟩
   unfold Lib.index
   rw [if_pos (by simp)]
   rfl
  ·have hp : ([58] : List UInt8).isPrefixOf (b :: l) = false := by
    simp [List.isPrefixOf]
    exact fun e => hb e.symm
   rcases Oc l with ⟨h1, h2⟩ | ⟨a, t, rfl, h1, h2⟩
   ·refine .inl ⟨?_, fun c hc => ?_⟩
    ·unfold Lib.index
     rw [hp, h1]
     rfl
    ·rcases List.mem_cons.1 hc with rfl | hc
     ·exact hb
     ·exact h2 c hc
   ·refine .inr ⟨b :: a, t, rfl, ?_, fun c hc => ?_⟩
    ·unfold Lib.index
     rw [hp, h1]
     have : (((a.length : Nat) : Int) == -1) = false := by rw [beq_eq_false_iff_ne]; omega
     simp [this]
    ·rcases List.mem_cons.1 hc with rfl | hc
     ·exact hb
     ·exact h2 c hc
theorem split_cds : ∀ (k : Nat) (l : List UInt8), Lib.countB (Bs l) ⟨#[58]⟩ = k → Lib.splitB ⟨#[58]⟩ 0 k (Bs l) = (cds l).map Bs := by
 intro k
 induction k with
 | zero =>
  intro l h
  rcases Oc l with ⟨h1, h2⟩ | ⟨a, t, rfl, h1, h2⟩
  ·rw [cds_one l h2]
   rfl
  ·have := Lib.countB_hit (Bs (a ++ 58 :: t)) ⟨#[58]⟩ a.length (by decide) h1
   omega
 | succ k ih =>
  intro l h
  rcases Oc l with ⟨h1, h2⟩ | ⟨a, t, rfl, h1, h2⟩
  ·have := Lib.countB_miss (Bs l) ⟨#[58]⟩ h1
   omega
  ·have hc := Lib.countB_hit (Bs (a ++ 58 :: t)) ⟨#[58]⟩ a.length (by decide) h1
   rw [Lib.splitB_hit ⟨#[58]⟩ 0 k (Bs (a ++ 58 :: t)) a.length h1]
   have e1 : (⟨#[58]⟩ : ByteArray).size = 1 := rfl
   have e2 : (a ++ 58 :: t).take (a.length + 0) = a := List.take_left' rfl
   have e3 : (a ++ 58 :: t).drop (a.length + 1) = t := by
    have : a ++ 58 :: t = (a ++ [58]) ++ t := by simp
    rw [this]
    exact List.drop_left' (by simp)
   rw [e1] at hc ⊢
   rw [Lo, e3] at hc
   rw [bs_take, Lo, e2, e3]
   rw [cds_cut a t h2, ih t (by omega)]
   rfl
theorem cds_count (l : List UInt8) : (cds l).length = Lib.countB (Bs l) ⟨#[58]⟩ + 1 := by
 have h1 := split_cds _ l rfl
 have h2 := Lib.splitB_all ⟨#[58]⟩ (by decide) 0 _ (Bs l) rfl
 rw [h1, List.length_map] at h2
 exact h2
theorem Ul : ∀ (l : List UInt8), ∀ x ∈ cds l, x.length ≤ l.length
 | [], x, hx => by simp [cds] at hx; subst hx; simp
 | b :: t, x, hx => by
  have ih := Ul t
  by_cases hb : b = 58
  ·subst hb
   rw [Na] at hx
   rcases List.mem_cons.1 hx with rfl | hx
   ·simp
   ·have := ih x hx
    simp
    omega
  ·rw [Mz hb] at hx
   obtain ⟨h, r, hr⟩ : ∃ h r, cds t = h :: r := by
    cases hw : cds t with
    | nil => exact absurd hw (Jv t)
    | cons h r => exact ⟨h, r, rfl⟩
   rw [hr] at hx ih
   simp only [pre, List.headD_cons, List.tail_cons] at hx
   rcases List.mem_cons.1 hx with rfl | hx
   ·have := ih h List.mem_cons_self
    simp
    omega
   ·have := ih x (List.mem_cons_of_mem _ hx)
    simp
    omega
end
section
open Go.RowKit

theorem gTab : Tryz.prog.globalNamed "internal/strconv.uint64pow10" = some 9 := by kernel_rfl
theorem gTabType : (Tryz.prog.globals[9]?).map (·.type) = some 229 := by kernel_rfl
end
section
open Go.RowKit

structure Vv (w : World) : Prop where
 tab : Tab w
 max : ∃ m, w.cell? ⟨4, 0, none⟩ = some (.int .i64 m)
 syn : ∃ t p, w.cell? ⟨7, 0, none⟩ = some (.iface t p)
 rng : ∃ t p, w.cell? ⟨8, 0, none⟩ = some (.iface t p)
theorem Vv.ex {w w' : World} (h : Vv w) (he : Ex w w') : Vv w' := by
 obtain ⟨m, hm⟩ := h.max
 obtain ⟨t1, p1, h1⟩ := h.syn
 obtain ⟨t2, p2, h2⟩ := h.rng
 exact ⟨h.tab.ex he, ⟨m, he.get hm⟩, ⟨t1, p1, he.get h1⟩, ⟨t2, p2, he.get h2⟩⟩
theorem Vv.alloc {w : World} (h : Vv w) (o : Obj) : Vv (w.alloc o) := h.ex ((Ex.refl _).alloc o)
def IsErr (v : Value) : Prop := v = .nilIface ∨ ∃ N : Nat, v = .iface 200 (.pointer (some ⟨N, 0, none⟩))
end
section
open Go.RowKit

theorem Nv {l : List UInt8} {S : ByteArray} (h : S = Bs l) {i : Nat} (hi : i < l.length) : ∃ hs : i < S.size, S[i]'hs = l[i] := by
 subst h
 exact ⟨hi, rfl⟩
theorem drop_at {l : List UInt8} {i : Nat} (hi : i < l.length) : l.drop i = l[i] :: l.drop (i + 1) := List.drop_eq_getElem_cons hi
theorem drop_end {l : List UInt8} {i : Nat} (hi : ¬ i < l.length) : l.drop i = [] := List.drop_eq_nil_of_le (by omega)
theorem Nu {T S : ByteArray} (h : ¬ T = S) : (T.toList == S.toList) = false := by
 rw [beq_eq_false_iff_ne, Lib.toList_data, Lib.toList_data]
 exact fun e => h (Pg e)
theorem Bs_ne {a b : List UInt8} (h : a ≠ b) : ¬ Bs a = Bs b := fun e => h (by
 have h2 : (Bs a).data.toList = (Bs b).data.toList := by rw [e]
 simpa [Bs] using h2)
theorem slS : SlT 114 9 (.string ⟨#[]⟩) 1 16 := ⟨Tryz.underlying114, by kernel_rfl, rfl, by omega, by omega⟩
def Sh (ls : List (List UInt8)) : List Value := ls.map fun l => .string (Bs l)
def La (w : World) (lo : Nat) (A : Option Addr) (cap : Nat) (ls : List (List UInt8)) : Prop := Own w lo 9 1 (.slice A ls.length cap) ls.length (Sh ls)
theorem ownS_nil (w : World) (lo : Nat) (hlo : lo ≤ w.heap.size) : La (w.alloc (.cells #[] 9)) lo (some ⟨w.heap.size, 0, none⟩) 0 [] := Ip w lo _ 1 hlo
theorem La.ex {w w' : World} {lo : Nat} {A : Option Addr} {cap : Nat} {ls : List (List UInt8)} (h : La w lo A cap ls) (he : Ex w w') : La w' lo A cap ls := Own.ex h he
theorem La.snoc {w' : World} {lo : Nat} {A : Option Addr} {cap : Nat} {ls : List (List UInt8)} {l : List UInt8} (h : Own w' lo 9 1 (.slice A (ls.length + 1) cap) (ls.length + 1) (Sh ls ++ [.string (Bs l)])) : La w' lo A cap (ls ++ [l]) := by
 unfold La
 unfold Sh at h ⊢
 simpa using h
def Strs (w : World) (A : Option Addr) (ls : List (List UInt8)) : Prop := Slc w A (Sh ls)
theorem Strs.ex {w w1 : World} {A : Option Addr} {ls : List (List UInt8)} (h : Strs w A ls) (he : Ex w w1) : Strs w1 A ls := Slc.ex h he
def GotW (w : World) (ls : List (List UInt8)) : Ending → World → Prop := fun e w' => ∃ A cap, e = .returned (.slice A ls.length cap) ∧ Strs w' A ls ∧ Ex w w'
theorem Qq (l : List UInt8) (a b : Nat) : (Bs l).extract a b = Bs ((l.drop a).take (b - a)) := ByteArray.extract_mk l a b
theorem take_more {l : List UInt8} {p k : Nat} {c : UInt8} {t : List UInt8} (hp : p ≤ k) (hk : k < l.length) (h : l.drop k = c :: t) : (l.drop p).take (k + 1 - p) = (l.drop p).take (k - p) ++ [c] := by
 have hl : k - p < (l.drop p).length := by rw [List.length_drop]; omega
 have e : k + 1 - p = (k - p) + 1 := by omega
 rw [e, List.take_succ_eq_append_getElem hl]
 congr 1
 have e2 : (l.drop p)[k - p] = l[k] := by
  rw [List.getElem_drop]
  congr 1
  omega
 rw [e2]
 have e3 := List.drop_eq_getElem_cons hk
 rw [h] at e3
 injection e3 with e3 e4
 rw [e3]
end
section
open Go.RowKit

def GotO (w : World) (ls : List (List UInt8)) : Ending → World → Prop := fun e w' => ∃ A cap, e = .returned (.slice A ls.length cap) ∧ La w' w.heap.size A cap ls ∧ Ex w w'
theorem l7Cut_own (l : List UInt8) (hl : l.length ≤ 1048576) (w : World) : Calls Tryz.prog 85 #[.string (Bs l), .int .u8 32] w (GotO w (wds l)) := by
 obtain ⟨S, HS⟩ : ∃ S, Hid (S = Bs l) := ⟨_, Gv rfl⟩
 rw [← HS.out]
 have hsz : S.size = l.length := by rw [HS.out]; rfl
 have HZ := Gv hsz
 clear hsz
 go_enter Tryz.func85, Tryz.ntmps85
 go_wp2
 have hO := ownS_nil w _ (Nat.le_refl _)
 have hE := (Ex.refl w).alloc (.cells #[] 9)
 go_loopw [7, 5, 6] (fun i v f wr => ∃ (k p : Nat) (B : Option Addr) (cb : Nat) (ys : List (List UInt8)), i = .int .i64 k ∧ v = .slice B ys.length cb ∧ f = .int .i64 p ∧ k ≤ l.length + 1 ∧ p ≤ k ∧ ys.length ≤ k ∧
   Hid ((k ≤ l.length → (∀ c ∈ (l.drop p).take (k - p), c ≠ 32) ∧ wds l = ys ++ pre ((l.drop p).take (k - p)) (wds (l.drop k))) ∧ (k = l.length + 1 → wds l = ys)) ∧ Hid (La wr w.heap.size B cb ys) ∧ Ex w wr) (fun i _ _ _ => l.length + 2 - (intOf i).toNat)
 case atStart => exact ⟨0, 0, _, 0, [], rfl, rfl, rfl, by omega, by omega, by simp, Gv ⟨fun _ => ⟨by simp, by simp [Nd (Jx l)]⟩, fun h => by omega⟩, Gv hO, hE⟩
 case round =>
  obtain ⟨k, p, B, cb, ys, rfl, rfl, rfl, hk, hp, hyk, HI, HO, hEr⟩ := hrel
  have hsz2 := hEr.size
  by_cases h1 : k = l.length + 1
  ·have hkI : ¬ (k : Int) ≤ (S.size : Int) := by rw [HZ.out]; omega
   have e1 := HI.out.2 h1
   clear HI
   go_wp2
   refine Gq (v := .slice B ys.length cb) ?_ rfl ?_
   ·simp [results, Tryz.results85, go_sem]
   ·exact ⟨B, cb, rfl, HO.out, hEr⟩
  ·by_cases h2 : k = l.length
   ·obtain rfl : k = S.size := by rw [HZ.out]; exact h2
    have H2 := Gv h2
    clear h2 h1
    obtain ⟨x, Hx⟩ : ∃ x, Hid (x = (l.drop p).take (S.size - p)) := ⟨_, Gv rfl⟩
    have hext : S.extract p S.size = Bs x := by rw [Hx.out, ← Qq, ← HS.out]
    have hw5 : IntKind.i64.wrap ((S.size : Int) + 1) = (S.size : Int) + 1 := Gp _ (by have := H2.out; omega)
    have hpk : (p : Int) ≤ (S.size : Int) := by omega
    have hp0 : (0 : Int) ≤ (p : Int) := by omega
    have hk0 : (0 : Int) ≤ (S.size : Int) := by omega
    have hyl : ys.length ≤ 1048576 := by have := H2.out; omega
    have HNEW : Hid ((S.size + 1 ≤ l.length → (∀ c ∈ (l.drop (S.size + 1)).take (S.size + 1 - (S.size + 1)), c ≠ 32) ∧ wds l = (ys ++ [x]) ++ pre ((l.drop (S.size + 1)).take (S.size + 1 - (S.size + 1))) (wds (l.drop (S.size + 1)))) ∧ (S.size + 1 = l.length + 1 → wds l = ys ++ [x])) := Gv (by
     obtain ⟨g1, g2⟩ := HI.out.1 (by have := H2.out; omega)
     rw [← Hx.out] at g1 g2
     refine ⟨fun h => by have := H2.out; omega, fun _ => ?_⟩
     rw [g2, drop_end (by have := H2.out; omega)]
     simp [pre, wds])
    go_wp2_with (at_builtin; refine Up slS rfl _ _ wr rfl w.heap.size B cb ys.length (Sh ys) [.string (Bs x)] rfl (by simp [Value.oneCell']) rfl HO.out rfl hyl hsz2 ?_)
    intro A' cap' w' hown' hk'
    have hE3 := hk'.ex w hEr (Nat.le_refl _)
    have HO3 := Gv (La.snoc (l := x) hown')
    clear hown' hk'
    go_wp2
    go_roundw
    case rel => exact ⟨S.size + 1, S.size + 1, A', cap', ys ++ [x], by go_num, by simp, by go_num, by have := H2.out; omega, by omega, by simp; omega, HNEW, HO3, hE3⟩
    case measure => have := H2.out; simp [intOf]; omega
   ·have hlt : k < l.length := by omega
    obtain ⟨hs, hc⟩ := Nv HS.out hlt
    have hkI : (k : Int) ≤ (S.size : Int) := by rw [HZ.out]; omega
    have hkL : (k : Int) < (S.size : Int) := by rw [HZ.out]; omega
    have hkE : ¬ (k : Int) = (S.size : Int) := by rw [HZ.out]; omega
    have hkE2 : ((k : Int) == (S.size : Int)) = false := by simpa using hkE
    have hdr := drop_at hlt
    generalize l[k] = c at hc hdr
    by_cases h3 : c = 32
    ·have h3n : (c.toNat : Int) = 32 := by rw [h3]; rfl
     obtain ⟨x, Hx⟩ : ∃ x, Hid (x = (l.drop p).take (k - p)) := ⟨_, Gv rfl⟩
     have hext : S.extract p k = Bs x := by rw [HS.out, Qq, Hx.out]
     have hw5 : IntKind.i64.wrap ((k : Int) + 1) = (k : Int) + 1 := Gp _ (by omega)
     have hpk : (p : Int) ≤ (k : Int) := by omega
     have hp0 : (0 : Int) ≤ (p : Int) := by omega
     have hk0 : (0 : Int) ≤ (k : Int) := by omega
     have hyl : ys.length ≤ 1048576 := by omega
     have HNEW : Hid ((k + 1 ≤ l.length → (∀ c ∈ (l.drop (k + 1)).take (k + 1 - (k + 1)), c ≠ 32) ∧ wds l = (ys ++ [x]) ++ pre ((l.drop (k + 1)).take (k + 1 - (k + 1))) (wds (l.drop (k + 1)))) ∧ (k + 1 = l.length + 1 → wds l = ys ++ [x])) := Gv (by
      obtain ⟨g1, g2⟩ := HI.out.1 (by omega)
      rw [← Hx.out] at g1 g2
      refine ⟨fun _ => ⟨by simp, ?_⟩, fun h => by omega⟩
      rw [g2, hdr, h3, Nc, Nat.sub_self, List.take_zero, Nd (Jx _)]
      simp [pre])
     go_wp2_with (at_builtin; refine Up slS rfl _ _ wr rfl w.heap.size B cb ys.length (Sh ys) [.string (Bs x)] rfl (by simp [Value.oneCell']) rfl HO.out rfl hyl hsz2 ?_)
     intro A' cap' w' hown' hk'
     have hE3 := hk'.ex w hEr (Nat.le_refl _)
     have HO3 := Gv (La.snoc (l := x) hown')
     clear hown' hk'
     go_wp2
     go_roundw
     case rel => exact ⟨k + 1, k + 1, A', cap', ys ++ [x], by go_num, by simp, by go_num, by omega, by omega, by simp; omega, HNEW, HO3, hE3⟩
     case measure => simp [intOf]; omega
    ·have h3n : ¬ (c.toNat : Int) = 32 := fun e => h3 (UInt8.toNat_inj.1 (by show c.toNat = 32; omega))
     have h3b : ((c.toNat : Int) == 32) = false := by simpa using h3n
     have hw5 : IntKind.i64.wrap ((k : Int) + 1) = (k : Int) + 1 := Gp _ (by omega)
     have HNEW : Hid ((k + 1 ≤ l.length → (∀ d ∈ (l.drop p).take (k + 1 - p), d ≠ 32) ∧ wds l = ys ++ pre ((l.drop p).take (k + 1 - p)) (wds (l.drop (k + 1)))) ∧ (k + 1 = l.length + 1 → wds l = ys)) := Gv (by
      obtain ⟨g1, g2⟩ := HI.out.1 (by omega)
      have e : (l.drop p).take (k + 1 - p) = (l.drop p).take (k - p) ++ [c] := take_more hp hlt hdr
      refine ⟨fun _ => ⟨?_, ?_⟩, fun h => by omega⟩
      ·intro d hd
       rw [e] at hd
       rcases List.mem_append.1 hd with hd | hd
       ·exact g1 d hd
       ·rw [List.mem_singleton.1 hd]; exact h3
      ·rw [g2, hdr, Nb h3, Ir, e])
     clear hdr
     go_wp2
     go_roundw
     case rel => exact ⟨k + 1, p, B, cb, ys, by go_num, rfl, rfl, by omega, by omega, by omega, HNEW, HO, hEr⟩
     case measure => simp [intOf]; omega
theorem l7CutC_own (l : List UInt8) (hl : l.length ≤ 1048576) (w : World) : Calls Tryz.prog 85 #[.string (Bs l), .int .u8 58] w (GotO w (cds l)) := by
 obtain ⟨S, HS⟩ : ∃ S, Hid (S = Bs l) := ⟨_, Gv rfl⟩
 rw [← HS.out]
 have hsz : S.size = l.length := by rw [HS.out]; rfl
 have HZ := Gv hsz
 clear hsz
 go_enter Tryz.func85, Tryz.ntmps85
 go_wp2
 have hO := ownS_nil w _ (Nat.le_refl _)
 have hE := (Ex.refl w).alloc (.cells #[] 9)
 go_loopw [7, 5, 6] (fun i v f wr => ∃ (k p : Nat) (B : Option Addr) (cb : Nat) (ys : List (List UInt8)), i = .int .i64 k ∧ v = .slice B ys.length cb ∧ f = .int .i64 p ∧ k ≤ l.length + 1 ∧ p ≤ k ∧ ys.length ≤ k ∧
   Hid ((k ≤ l.length → (∀ c ∈ (l.drop p).take (k - p), c ≠ 58) ∧ cds l = ys ++ pre ((l.drop p).take (k - p)) (cds (l.drop k))) ∧ (k = l.length + 1 → cds l = ys)) ∧ Hid (La wr w.heap.size B cb ys) ∧ Ex w wr) (fun i _ _ _ => l.length + 2 - (intOf i).toNat)
 case atStart => exact ⟨0, 0, _, 0, [], rfl, rfl, rfl, by omega, by omega, by simp, Gv ⟨fun _ => ⟨by simp, by simp [Nd (Jv l)]⟩, fun h => by omega⟩, Gv hO, hE⟩
 case round =>
  obtain ⟨k, p, B, cb, ys, rfl, rfl, rfl, hk, hp, hyk, HI, HO, hEr⟩ := hrel
  have hsz2 := hEr.size
  by_cases h1 : k = l.length + 1
  ·have hkI : ¬ (k : Int) ≤ (S.size : Int) := by rw [HZ.out]; omega
   have e1 := HI.out.2 h1
   clear HI
   go_wp2
   refine Gq (v := .slice B ys.length cb) ?_ rfl ?_
   ·simp [results, Tryz.results85, go_sem]
   ·exact ⟨B, cb, rfl, HO.out, hEr⟩
  ·by_cases h2 : k = l.length
   ·obtain rfl : k = S.size := by rw [HZ.out]; exact h2
    have H2 := Gv h2
    clear h2 h1
    obtain ⟨x, Hx⟩ : ∃ x, Hid (x = (l.drop p).take (S.size - p)) := ⟨_, Gv rfl⟩
    have hext : S.extract p S.size = Bs x := by rw [Hx.out, ← Qq, ← HS.out]
    have hw5 : IntKind.i64.wrap ((S.size : Int) + 1) = (S.size : Int) + 1 := Gp _ (by have := H2.out; omega)
    have hpk : (p : Int) ≤ (S.size : Int) := by omega
    have hp0 : (0 : Int) ≤ (p : Int) := by omega
    have hk0 : (0 : Int) ≤ (S.size : Int) := by omega
    have hyl : ys.length ≤ 1048576 := by have := H2.out; omega
    have HNEW : Hid ((S.size + 1 ≤ l.length → (∀ c ∈ (l.drop (S.size + 1)).take (S.size + 1 - (S.size + 1)), c ≠ 58) ∧ cds l = (ys ++ [x]) ++ pre ((l.drop (S.size + 1)).take (S.size + 1 - (S.size + 1))) (cds (l.drop (S.size + 1)))) ∧ (S.size + 1 = l.length + 1 → cds l = ys ++ [x])) := Gv (by
     obtain ⟨g1, g2⟩ := HI.out.1 (by have := H2.out; omega)
     rw [← Hx.out] at g1 g2
     refine ⟨fun h => by have := H2.out; omega, fun _ => ?_⟩
     rw [g2, drop_end (by have := H2.out; omega)]
     simp [pre, cds])
    go_wp2_with (at_builtin; refine Up slS rfl _ _ wr rfl w.heap.size B cb ys.length (Sh ys) [.string (Bs x)] rfl (by simp [Value.oneCell']) rfl HO.out rfl hyl hsz2 ?_)
    intro A' cap' w' hown' hk'
    have hE3 := hk'.ex w hEr (Nat.le_refl _)
    have HO3 := Gv (La.snoc (l := x) hown')
    clear hown' hk'
    go_wp2
    go_roundw
    case rel => exact ⟨S.size + 1, S.size + 1, A', cap', ys ++ [x], by go_num, by simp, by go_num, by have := H2.out; omega, by omega, by simp; omega, HNEW, HO3, hE3⟩
    case measure => have := H2.out; simp [intOf]; omega
   ·have hlt : k < l.length := by omega
    obtain ⟨hs, hc⟩ := Nv HS.out hlt
    have hkI : (k : Int) ≤ (S.size : Int) := by rw [HZ.out]; omega
    have hkL : (k : Int) < (S.size : Int) := by rw [HZ.out]; omega
    have hkE : ¬ (k : Int) = (S.size : Int) := by rw [HZ.out]; omega
    have hkE2 : ((k : Int) == (S.size : Int)) = false := by simpa using hkE
    have hdr := drop_at hlt
    generalize l[k] = c at hc hdr
    by_cases h3 : c = 58
    ·have h3n : (c.toNat : Int) = 58 := by rw [h3]; rfl
     obtain ⟨x, Hx⟩ : ∃ x, Hid (x = (l.drop p).take (k - p)) := ⟨_, Gv rfl⟩
     have hext : S.extract p k = Bs x := by rw [HS.out, Qq, Hx.out]
     have hw5 : IntKind.i64.wrap ((k : Int) + 1) = (k : Int) + 1 := Gp _ (by omega)
     have hpk : (p : Int) ≤ (k : Int) := by omega
     have hp0 : (0 : Int) ≤ (p : Int) := by omega
     have hk0 : (0 : Int) ≤ (k : Int) := by omega
     have hyl : ys.length ≤ 1048576 := by omega
     have HNEW : Hid ((k + 1 ≤ l.length → (∀ c ∈ (l.drop (k + 1)).take (k + 1 - (k + 1)), c ≠ 58) ∧ cds l = (ys ++ [x]) ++ pre ((l.drop (k + 1)).take (k + 1 - (k + 1))) (cds (l.drop (k + 1)))) ∧ (k + 1 = l.length + 1 → cds l = ys ++ [x])) := Gv (by
      obtain ⟨g1, g2⟩ := HI.out.1 (by omega)
      rw [← Hx.out] at g1 g2
      refine ⟨fun _ => ⟨by simp, ?_⟩, fun h => by omega⟩
      rw [g2, hdr, h3, Na, Nat.sub_self, List.take_zero, Nd (Jv _)]
      simp [pre])
     go_wp2_with (at_builtin; refine Up slS rfl _ _ wr rfl w.heap.size B cb ys.length (Sh ys) [.string (Bs x)] rfl (by simp [Value.oneCell']) rfl HO.out rfl hyl hsz2 ?_)
     intro A' cap' w' hown' hk'
     have hE3 := hk'.ex w hEr (Nat.le_refl _)
     have HO3 := Gv (La.snoc (l := x) hown')
     clear hown' hk'
     go_wp2
     go_roundw
     case rel => exact ⟨k + 1, k + 1, A', cap', ys ++ [x], by go_num, by simp, by go_num, by omega, by omega, by simp; omega, HNEW, HO3, hE3⟩
     case measure => simp [intOf]; omega
    ·have h3n : ¬ (c.toNat : Int) = 58 := fun e => h3 (UInt8.toNat_inj.1 (by show c.toNat = 58; omega))
     have h3b : ((c.toNat : Int) == 58) = false := by simpa using h3n
     have hw5 : IntKind.i64.wrap ((k : Int) + 1) = (k : Int) + 1 := Gp _ (by omega)
     have HNEW : Hid ((k + 1 ≤ l.length → (∀ d ∈ (l.drop p).take (k + 1 - p), d ≠ 58) ∧ cds l = ys ++ pre ((l.drop p).take (k + 1 - p)) (cds (l.drop (k + 1)))) ∧ (k + 1 = l.length + 1 → cds l = ys)) := Gv (by
      obtain ⟨g1, g2⟩ := HI.out.1 (by omega)
      have e : (l.drop p).take (k + 1 - p) = (l.drop p).take (k - p) ++ [c] := take_more hp hlt hdr
      refine ⟨fun _ => ⟨?_, ?_⟩, fun h => by omega⟩
      ·intro d hd
       rw [e] at hd
       rcases List.mem_append.1 hd with hd | hd
       ·exact g1 d hd
       ·rw [List.mem_singleton.1 hd]; exact h3
      ·rw [g2, hdr, Mz h3, Ir, e])
     clear hdr
     go_wp2
     go_roundw
     case rel => exact ⟨k + 1, p, B, cb, ys, by go_num, rfl, rfl, by omega, by omega, by omega, HNEW, HO, hEr⟩
     case measure => simp [intOf]; omega
end
end Go.Proofs.YtmmjkchjgeklnaaGreatDoor
