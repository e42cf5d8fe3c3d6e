/-
  Proved: what functions compute, part 17. No condition.
-/
import Derived.Test.YtmjggolkopbcnaaGreatDoorB01
import Derived.Test.YtmjggolkopbcnaaGreatDoorB11
import Derived.Great.Frames
import Derived.Conc.MuLone
import Derived.Test.YtmjggolkopbcnaaGreatDoorB10
import Derived.Laws.Tables
import Derived.Laws.CopyOwn
import Derived.Laws.Rows
import Derived.Deep.Cut
set_option linter.unusedSimpArgs false
set_option linter.unusedVariables false
set_option maxRecDepth 20000
set_option maxHeartbeats 8000000
namespace Go.Proofs.YtmjggolkopbcnaaGreatDoor
section
open Go.MuLone (run_callFunc_enter)

structure Has (N lo : Nat) (r : Nat → Value) (a : Act) (L : List (Nat × Value)) : Prop where
 size : a.tmps.size = N
 low : ∀ t : Nat, t < lo → a.eval (.tmp t) = r t
 get : ∀ x ∈ L, a.eval (.tmp x.1) = x.2
 def0 : a.defers = []
variable {lo : Nat} {r : Nat → Value}
theorem Has.put {N m : Nat} {a : Act} {L0 L : List (Nat × Value)} (h : Has N lo r a L0) (hL : L0.drop m = L) {t : Nat} {v : Value} (ht : t < N) (hlo : lo ≤ t) (hf : (L.all fun x => x.1 != t) = true) : Has N lo r (a.put (some t) v) ((t, v) :: L) := by
 subst hL
 exact ⟨by rw [Act.size_put]; exact h.size, fun j hj => by
  rw [Act.eval_put_ne a t j v (by omega)]
  exact h.low j hj, fun x hx => by
  rcases List.mem_cons.1 hx with rfl | hx
  ·exact Act.eval_put_same a t v (by rw [h.size]; exact ht)
  ·have h1 := List.all_eq_true.1 hf x hx
   rw [Act.eval_put_ne a t x.1 v (by simpa using Ne.symm (bne_iff_ne.1 h1))]
   exact h.get x (List.mem_of_mem_drop hx), by rw [Act.defers_put']; exact h.def0⟩
theorem Has.of (a : Act) (lo : Nat) (h : a.defers = []) : Has a.tmps.size lo (fun t => a.eval (.tmp t)) a [] := ⟨rfl, fun _ _ => rfl, (fun _ h => nomatch h), h⟩
section
variable {P : Program} {ops : Array Oper} {B : Bool → World → Prop} {St : World → World → Prop} {Q : List Oper → Act → Bool → Prop} {o : Oper} {n N t : Nat} {rest : List Oper} {a : Act} {e d : Bool} {v : Value} {L0 L : List (Nat × Value)}
end
section
variable {P : Program} {G : Value → World → Prop} {ρ : Operand → Value} {w : World} {dst : Option Tmp} {ty : TypeId} {pos : String} {after : Array Edge} {guard : Option (Nat × Bool)} {x y z : Operand} {v v1 v2 v3 : Value}
variable {f : FuncId} {fn : Func} {c : Code} {ts : Array TypeId}
end
def passB (md : Region.Mode) (ops : Array Oper) (lo n : Nat) (outs : List Nat) : List Oper → Nat → Bool
 | [], _ => true
 | o :: l, k =>
  (if k < n then o.dst == some (lo + k) && (o.after.toList.all fun g => !Region.binds md g || decide (g.on < k)) && ((o.looksAt ops).all fun (t : Nat) => !outs.contains t)
   else match (o.dst : Option Nat) with | some d => outs.contains d && (decide (d < lo) || decide (lo + n ≤ d)) | none => true) &&
  ((o.looksAt ops).all fun (t : Nat) => decide (t < lo) || decide (lo + n ≤ t) || o.after.toList.any fun g => Region.binds md g && lo + g.on == t) && passB md ops lo n outs l (k + 1)
def Pa (N k : Nat) (listed : Array Bool) : Prop := listed.size = N ∧ (∀ j, j < k → listed.getD j false = true) ∧ ∀ j, k ≤ j → j < N → listed.getD j false = false
theorem Pa.zero (N : Nat) : Pa N 0 (Array.replicate N false) := ⟨by simp, fun j hj => absurd hj (by omega), fun j _ _ => getD_replicate_false _ _⟩
theorem Pa.succ {N k : Nat} {listed : Array Bool} (h : Pa N k listed) (hk : k < N) : Pa N (k + 1) (listed.setIfInBounds k true) :=
 ⟨by simpa using h.1, fun j hj => by
  by_cases hjk : j = k
  ·subst hjk
   have : j < listed.size := by rw [h.1]; exact hk
   simp [this]
  ·rw [getD_set_ne false (Ne.symm hjk)]; exact h.2.1 j (by omega), fun j hj hj2 => by
  rw [getD_set_ne false (by omega)]
  exact h.2.2 j (by omega) hj2⟩
section
variable {md : Region.Mode} {lo n : Nat} {outs : List Nat} {l : List Oper}
end
def longB (md : Region.Mode) (l : List Oper) (n k g lo : Nat) (outs : List Nat) : Bool :=
 Region.noSelect l.toArray && decide (l.length = n + k + k + g) &&
 (List.range g).all (fun t => (List.range (n + k + k)).all fun i => Region.waitsFor md l.toArray (n + k + k + t) i) && Region.seqB md l.toArray g (n + k + k) (LFn (n + k + k) g) &&
 (List.range k).all (fun i => match l[n + i]? with | some o => o.after.all (fun g => !Region.binds md g || decide (g.on < n)) | none => false) &&
 (List.range k).all (fun i => match l[n + k + i]? with | some o => o.after.all (fun g => !Region.binds md g || decide (g.on < n + k + i)) | none => false) &&
 (List.range k).all (fun i => Region.waitsFor md l.toArray (n + k + i) (n + i)) && (List.range k).all (fun i => decide (k ≤ i + 1) || Region.waitsFor md l.toArray (n + k + (i + 1)) (n + k + i)) && passB md l.toArray lo n outs l 0
end
section
open Go.RowKit

attribute [local go_sem] Zq Zp
end
section
open Go.RowKit

def frv3 (f : Fr) : List Value := [.int .i64 f.re, .int .i64 f.im, .int .i64 f.den]
def Yh (l : List Fr) : Array Value := (l.flatMap frv3).toArray
theorem Xp (l : List Fr) : (Yh l).all (·.oneCell') = true := by
 rw [Array.all_eq_true_iff_forall_mem]
 intro v hv
 simp only [Yh, List.mem_toArray, List.mem_flatMap, frv3, List.mem_cons, List.not_mem_nil, or_false] at hv
 obtain ⟨f, -, h | h | h⟩ := hv <;> subst h <;> rfl
def tabv (r : List Fr × Bool) : Value := .tuple #[.agg (Yh r.1), .bool r.2]
def nones (n : Nat) : List Fr := List.replicate n Fr.none
section
variable {w : World} {dst : Option Tmp} {ty : TypeId} {pos : String} {after : Array Edge} {guard : Option (Nat × Bool)} {ρ : Operand → Value} {x : Operand} {b : Nat}
end
theorem Wa {P : Program} {fn : Func} {p q : Tmp} {ty : TypeId} (h : fn.results = #[.cell p ty, .tmp q]) (tmps : Array Value) (w : World) (g : Nat) (t : TypeId) (cs : Array Value) (fr : Nat × Nat) (d : TypeDesc)
  (hp : tmps.getD p undef = .pointer (some ⟨g, 0, none⟩)) (hg : w.heap[g]? = some (.cells cs t fr))
  (hu : P.underlying ty = some d) (hd : (match d with | .struct _ | .array _ _ => true | _ => false) = true) (hi : (P.info? ty).map (·.size) = some cs.size) :
  (results fn tmps).run P w = .ok (.tuple #[.agg cs, tmps.getD q undef]) w := by
 have hp' : tmps[p]?.getD undef = .pointer (some ⟨g, 0, none⟩) := by simpa using hp
 simp [results, h, hp', asAddr, run_loadVar_row w g t ty cs fr d hg hu hd hi]
section
variable {P : Program} {w : World} {dst : Option Tmp} {ty ty' t : TypeId} {pos : String} {after : Array Edge} {guard : Option (Nat × Bool)} {ρ : Operand → Value} {x y : Operand} {b : Nat} {cs old : Array Value} {d : TypeDesc}
end
def Z48 : Array Value := #[.int .i64 0, .int .i64 0, .int .i64 0, .int .i64 0, .int .i64 0, .int .i64 0, .int .i64 0, .int .i64 0, .int .i64 0, .int .i64 0, .int .i64 0, .int .i64 0, .int .i64 0, .int .i64 0, .int .i64 0, .int .i64 0, .int .i64 0, .int .i64 0, .int .i64 0, .int .i64 0, .int .i64 0, .int .i64 0, .int .i64 0, .int .i64 0, .int .i64 0, .int .i64 0, .int .i64 0, .int .i64 0, .int .i64 0, .int .i64 0, .int .i64 0, .int .i64 0, .int .i64 0, .int .i64 0, .int .i64 0, .int .i64 0, .int .i64 0, .int .i64 0, .int .i64 0, .int .i64 0, .int .i64 0, .int .i64 0, .int .i64 0, .int .i64 0, .int .i64 0, .int .i64 0, .int .i64 0, .int .i64 0]
theorem z48_eq : (#[.int .i64 0, .int .i64 0, .int .i64 0, .int .i64 0, .int .i64 0, .int .i64 0, .int .i64 0, .int .i64 0, .int .i64 0, .int .i64 0, .int .i64 0, .int .i64 0, .int .i64 0, .int .i64 0, .int .i64 0, .int .i64 0, .int .i64 0, .int .i64 0, .int .i64 0, .int .i64 0, .int .i64 0, .int .i64 0, .int .i64 0, .int .i64 0, .int .i64 0, .int .i64 0, .int .i64 0, .int .i64 0, .int .i64 0, .int .i64 0, .int .i64 0, .int .i64 0, .int .i64 0, .int .i64 0, .int .i64 0, .int .i64 0, .int .i64 0, .int .i64 0, .int .i64 0, .int .i64 0, .int .i64 0, .int .i64 0, .int .i64 0, .int .i64 0, .int .i64 0, .int .i64 0, .int .i64 0, .int .i64 0] : Array Value) = Z48 := rfl
end
end Go.Proofs.YtmjggolkopbcnaaGreatDoor
