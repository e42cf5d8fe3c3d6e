/-
  Proved: what functions compute, part 12. No condition.
-/
import Derived.Test.YtiommfmaleeibaaGreatDoorB01
import Derived.Test.YtiommfmaleeibaaGreatDoorB11
import Derived.Laws.Tables
import Derived.Laws.CopyOwn
import Derived.Test.YtiommfmaleeibaaGreatDoorB05
set_option linter.unusedSimpArgs false
set_option linter.unusedVariables false
set_option maxRecDepth 20000
set_option maxHeartbeats 8000000
namespace Go.Proofs.YtiommfmaleeibaaGreatDoor
section
section
def frN (p : Nat → Nat) (o : Nat → Option Nat) (a : Act) : Nat → Act
 | 0 => a
 | k + 1 => match o k with
  | some g => (frN p o a k).put (some (p k)) (.pointer (some ⟨g, 0, none⟩))
  | none => frN p o a k
def upN (o : Nat → Option Nat) (i g : Nat) : Nat → Option Nat := fun j => if j = i then some g else o j
def Rj (o : Nat → Option Nat) : Nat → Nat
 | 0 => 0
 | k + 1 => Rj o k + (if (o k).isNone then 1 else 0)
theorem Oj {p : Nat → Nat} {o o' : Nat → Option Nat} {a : Act} : ∀ {k : Nat}, (∀ j, j < k → o j = o' j) → frN p o a k = frN p o' a k
 | 0, _ => rfl
 | k + 1, h => by
  unfold frN
  rw [h k (Nat.lt_succ_self k), Oj (k := k) (fun j hj => h j (Nat.lt_succ_of_lt hj))]
theorem Mf {o o' : Nat → Option Nat} : ∀ {k : Nat}, (∀ j, j < k → o j = o' j) → Rj o k = Rj o' k
 | 0, _ => rfl
 | k + 1, h => by
  unfold Rj
  rw [h k (Nat.lt_succ_self k), Mf (k := k) (fun j hj => h j (Nat.lt_succ_of_lt hj))]
theorem frN_up {p : Nat → Nat} {o : Nat → Option Nat} {a : Act} {i g : Nat} (hn : o i = none) : ∀ {k : Nat}, (∀ x y, x < k → y < k → p x = p y → x = y) → i < k →
  frN p (upN o i g) a k = (frN p o a k).put (some (p i)) (.pointer (some ⟨g, 0, none⟩))
 | 0, _, h => absurd h (Nat.not_lt_zero i)
 | k + 1, hp, hi => by
  by_cases hik : i = k
  ·subst hik
   unfold frN
   rw [hn, show upN o i g i = some g by simp [upN]]
   simp only
   rw [Oj (o := upN o i g) (o' := o) (fun j hj => by simp [upN, Nat.ne_of_lt hj])]
  ·have hlt : i < k := by omega
   have ih := frN_up (p := p) (a := a) (g := g) hn (k := k) (fun x y hx hy => hp x y (by omega) (by omega)) hlt
   unfold frN
   rw [show upN o i g k = o k by simp [upN, Ne.symm hik], ih]
   cases o k with
   | none => rfl
   | some g' => exact Act.put_comm _ _ _ (fun d hd he => by
     have h1 : p i = d := by simpa using hd
     have h2 : p k = d := by simpa using he
     exact hik (hp i k (by omega) (by omega) (h1.trans h2.symm)))
theorem cntN_up {o : Nat → Option Nat} {i g : Nat} (hn : o i = none) : ∀ {k : Nat}, i < k → Rj (upN o i g) k + 1 = Rj o k
 | 0, h => absurd h (Nat.not_lt_zero i)
 | k + 1, hi => by
  by_cases hik : i = k
  ·subst hik
   unfold Rj
   rw [hn, show upN o i g i = some g by simp [upN], Mf (o := upN o i g) (o' := o) (fun j hj => by simp [upN, Nat.ne_of_lt hj])]
   simp
  ·have ih := cntN_up (g := g) hn (k := k) (by omega)
   unfold Rj
   rw [show upN o i g k = o k by simp [upN, Ne.symm hik]]
   omega
theorem Oi {o : Nat → Option Nat} : ∀ {k : Nat}, Rj o k = 0 → ∀ i, i < k → ∃ g, o i = some g
 | 0, _, i, h => absurd h (Nat.not_lt_zero i)
 | k + 1, h, i, hi => by
  unfold Rj at h
  by_cases hik : i = k
  ·subst hik
   cases ho : o i with
   | some g => exact ⟨g, rfl⟩
   | none => rw [ho] at h; simp at h
  ·exact Oi (k := k) (by omega) i (by omega)
theorem Me {o : Nat → Option Nat} : ∀ {k : Nat}, 0 < Rj o k → ∃ i, i < k ∧ o i = none
 | 0, h => absurd h (Nat.not_lt_zero 0)
 | k + 1, h => by
  unfold Rj at h
  cases ho : o k with
  | none => exact ⟨k, Nat.lt_succ_self k, ho⟩
  | some g =>
   rw [ho] at h
   obtain ⟨i, hi, hn⟩ := Me (k := k) (by simpa using h)
   exact ⟨i, by omega, hn⟩
theorem frN_other {p : Nat → Nat} {o : Nat → Option Nat} {a : Act} {t : Nat} : ∀ {k : Nat}, (∀ j, j < k → p j ≠ t) → (frN p o a k).eval (.tmp t) = a.eval (.tmp t)
 | 0, _ => rfl
 | k + 1, h => by
  have ih := frN_other (p := p) (o := o) (a := a) (k := k) (fun j hj => h j (by omega))
  unfold frN
  cases o k with
  | none => exact ih
  | some g => exact (Act.eval_put (fun d hd he => h k (by omega) (by
    have h1 : p k = d := by simpa using hd
    have h2 : t = d := by simpa using he
    exact h1.trans h2.symm))).trans ih
theorem Md {p : Nat → Nat} {o : Nat → Option Nat} {a : Act} : ∀ {k : Nat}, (frN p o a k).tmps.size = a.tmps.size
 | 0 => rfl
 | k + 1 => by
  unfold frN
  cases o k with
  | none => exact Md (k := k)
  | some g => simp only [Act.put, Array.size_setIfInBounds]; exact Md (k := k)
theorem frN_slot {p : Nat → Nat} {o : Nat → Option Nat} {a : Act} {i g : Nat} (hg : o i = some g) : ∀ {k : Nat}, (∀ x y, x < k → y < k → p x = p y → x = y) → (∀ x, x < k → p x < a.tmps.size) → i < k →
  (frN p o a k).eval (.tmp (p i)) = .pointer (some ⟨g, 0, none⟩)
 | 0, _, _, h => absurd h (Nat.not_lt_zero i)
 | k + 1, hp, hz, hi => by
  by_cases hik : i = k
  ·subst hik
   unfold frN
   rw [hg]
   have hlt : p i < (frN p o a i).tmps.size := by rw [Md]; exact hz i (by omega)
   simp [Act.eval, Act.put, hlt]
  ·have ih := frN_slot (p := p) (a := a) hg (k := k) (fun x y hx hy => hp x y (by omega) (by omega)) (fun x hx => hz x (by omega)) (by omega)
   unfold frN
   cases o k with
   | none => exact ih
   | some g' => exact (Act.eval_put (fun d hd he => hik (hp i k (by omega) (by omega) (by
     have h1 : p k = d := by simpa using hd
     have h2 : p i = d := by simpa using he
     exact h2.trans h1.symm)))).trans ih

variable {P : Program} {ops : Array Oper} {md : Region.Mode}
def XN (N0 : Nat) (t : TypeId) (k : Nat) (zs xs : Nat → Array Value) (s : (Nat → Option Nat) × Nat) (w : World) : Prop :=
 (∀ i, i < k → ∀ g, s.1 i = some g → N0 ≤ g ∧ Box w g t (if i < s.2 then xs i else zs i)) ∧ (∀ i j, i < k → j < k → ∀ g, s.1 i = some g → s.1 j = some g → i = j)
def Oh (P : Program) (t : TypeId) (o : Oper) (p : Nat) (z : Array Value) : Prop :=
 o.dst = some p ∧ o.guard = none ∧ ∀ (ρ : Operand → Value) (w : World), (execOp ρ o).run P w = .ok (.value (.pointer (some ⟨w.heap.size, 0, none⟩))) (w.alloc (.cells z t))
def FillsB (P : Program) (N0 : Nat) (B : Bool → World → Prop) (t : TypeId) (o : Oper) (p q : Nat) (v : Value) (z x : Array Value) : Prop :=
 o.dst = none ∧ o.guard = none ∧ ∀ (a : Act) (g : Nat) (w : World), a.eval (.tmp p) = .pointer (some ⟨g, 0, none⟩) → a.eval (.tmp q) = v → Box w g t z →
  ∃ w', (execOp a.eval o).run P w = .ok .skip w' ∧ Box w' g t x ∧ (∀ b t' cs, b ≠ g → Box w b t' cs → Box w' b t' cs) ∧ (N0 ≤ g → ∀ b, B b w → B b w')
def LFn (m g : Nat) : Array Bool := (List.replicate m true ++ List.replicate g false).toArray
theorem LFn_of {m g : Nat} {listed : Array Bool} (hs : listed.size = m + g) (h1 : ∀ j, j < m → listed.getD j false = true) (h2 : ∀ j, m ≤ j → j < m + g → listed.getD j false = false) : listed = LFn m g := by
 apply Array.ext
 ·simp [LFn, hs]
 ·intro i hi hi2
  rcases Nat.lt_or_ge i m with h | h
  ·have := h1 i h
   simp only [Array.getD_eq_getD_getElem?, Array.getElem?_eq_getElem hi, Option.getD_some] at this
   rw [this]
   simp [LFn, List.getElem_append, h]
  ·have := h2 i h (by omega)
   simp only [Array.getD_eq_getD_getElem?, Array.getElem?_eq_getElem hi, Option.getD_some] at this
   rw [this]
   simp [LFn, List.getElem_append, Nat.not_lt.2 h]
theorem wpT_new {B : Bool → World → Prop} (k n N0 g : Nat) (t : TypeId) (p q : Nat → Nat) (vs : Nat → Value) (zs xs : Nat → Array Value) (Qf : Act → World → Prop) (a : Act) (e : Bool)
  (hsz : ops.size = n + k + k + g) (hTl : ∀ t, n + k + k ≤ t → t < ops.size → ∀ i, i < n + k + k → Region.waitsFor md ops t i = true)
  (hA : ∀ i, i < k → ∃ o, ops[n + i]? = some o ∧ Oh P t o (p i) (zs i) ∧ ∀ g ∈ o.after, Region.binds md g = true → g.on < n)
  (hS : ∀ i, i < k → ∃ o, ops[n + k + i]? = some o ∧ FillsB P N0 B t o (p i) (q i) (vs i) (zs i) (xs i) ∧ ∀ g ∈ o.after, Region.binds md g = true → g.on < n + k + i)
  (hw : ∀ i, i < k → Region.waitsFor md ops (n + k + i) (n + i) = true) (hc : ∀ i, i + 1 < k → Region.waitsFor md ops (n + k + (i + 1)) (n + k + i) = true)
  (hp : ∀ x y, x < k → y < k → p x = p y → x = y) (hq : ∀ x y, x < k → y < k → p x ≠ q y) (hz : ∀ x, x < k → p x < a.tmps.size) (hv : ∀ i, i < k → a.eval (.tmp (q i)) = vs i)
  (hBa : ∀ b w cs, B b w → B b (w.alloc (.cells cs t))) (hBn : ∀ b w, B b w → N0 ≤ w.heap.size)
  (hfin : ∀ g : Nat → Nat, ∀ w, B e w → (∀ i, i < k → N0 ≤ g i ∧ Box w (g i) t (xs i)) → (∀ i j, i < k → j < k → g i = g j → i = j) → Qf (frN p (fun i => some (g i)) a k) w) :
  ∀ (f : Nat) (listed : Array Bool) (o : Nat → Option Nat) (m : Nat), f = Rj o k + (k - m) → m ≤ k → listed.size = ops.size → (∀ j, j < n → listed.getD j false = true) →
   (∀ i, i < k → listed.getD (n + i) false = (o i).isSome) → (∀ i, i < k → listed.getD (n + k + i) false = decide (i < m)) → (∀ i, i < m → ∃ g, o i = some g) → (∀ j, n + k + k ≤ j → j < ops.size → listed.getD j false = false) →
   wpT P md ops B (XN N0 t k zs xs) (n + k + k) (fun listed a s e => listed = LFn (n + k + k) g ∧ ∀ w, B e w → XN N0 t k zs xs s w → Qf a w) f listed (frN p o a k) (o, m) e := by
 intro f
 induction f with
 | zero =>
  intro listed o m hf hm hls hl1 hl2 hl3 hom hl4
  have hall := Oi (o := o) (k := k) (by omega)
  have hmk : m = k := by omega
  subst hmk
  refine ⟨?_, fun w hb hx => ?_⟩
  ·refine LFn_of (by omega) (fun j hj => ?_) (fun j hj hj2 => hl4 j hj (by omega))
   rcases Nat.lt_or_ge j n with h | h
   ·exact hl1 j h
   rcases Nat.lt_or_ge j (n + m) with h2 | h2
   ·obtain ⟨g, hg⟩ := hall (j - n) (by omega)
    have := hl2 (j - n) (by omega)
    rw [show n + (j - n) = j by omega, hg] at this
    exact this
   ·have := hl3 (j - (n + m)) (by omega)
    rw [show n + m + (j - (n + m)) = j by omega] at this
    rw [this]
    simp; omega
  ·obtain ⟨g, hg⟩ : ∃ g : Nat → Nat, ∀ i, i < m → o i = some (g i) := ⟨fun i => (o i).getD 0, fun i hi => by obtain ⟨x, hx⟩ := hall i hi; simp [hx]⟩
   rw [Oj (o' := fun i => some (g i)) (fun j hj => hg j hj)]
   refine hfin g w hb (fun i hi => ?_) (fun i j hi hj hij => ?_)
   ·have := hx.1 i hi (g i) (hg i hi)
    simpa [hi] using this
   ·exact hx.2 i j hi hj (g i) (hg i hi) (by rw [hij]; exact hg j hj)
 | succ f ih =>
  intro listed o m hf hm hls hl1 hl2 hl3 hom hl4
  have inb : ∀ j, j < ops.size → listed.getD j false = false → listed.getD j true = false := fun j hj h => getD_in (by rw [hls]; exact hj) h
  refine ⟨?_, fun j hj => ?_⟩
  ·rcases Nat.eq_zero_or_pos (Rj o k) with h0 | h0
   ·have hall := Oi (o := o) (k := k) h0
    have hmk : m < k := by omega
    obtain ⟨os, hos, _, hed⟩ := hS m hmk
    intro hr
    have : n + k + m ∈ Region.ready md ops listed := by
     refine mem_ready.2 ⟨inb _ (by omega) ?_, os, hos, fun g hg hb => ?_⟩
     ·rw [hl3 m hmk]; simp
     ·have hon := hed g hg hb
      rcases Nat.lt_or_ge g.on n with h | h
      ·exact hl1 _ h
      rcases Nat.lt_or_ge g.on (n + k) with h2 | h2
      ·obtain ⟨x, hx⟩ := hall (g.on - n) (by omega)
       have := hl2 (g.on - n) (by omega)
       rw [show n + (g.on - n) = g.on by omega, hx] at this
       exact this
      ·have := hl3 (g.on - (n + k)) (by omega)
       rw [show n + k + (g.on - (n + k)) = g.on by omega] at this
       rw [this]
       simp; omega
    rw [hr] at this
    cases this
   ·obtain ⟨i, hi, hn⟩ := Me h0
    obtain ⟨oa, hoa, _, hed⟩ := hA i hi
    intro hr
    have : n + i ∈ Region.ready md ops listed := by
     refine mem_ready.2 ⟨inb _ (by omega) ?_, oa, hoa, fun g hg hb => hl1 _ (hed g hg hb)⟩
     rw [hl2 i hi, hn]; rfl
    rw [hr] at this
    cases this
  ·obtain ⟨hun, oj, hoj, hdep⟩ := mem_ready.1 hj
   have hun' := getD_both hun
   have hlt0 := (Array.getElem?_eq_some_iff.1 hoj).1
   have hlt : j < n + k + k := by
    rcases Nat.lt_or_ge j (n + k + k) with h | h
    ·exact h
    exfalso
    have wt0 : ∀ x, x < n + k + k → listed.getD x false = true := fun x hx => by
     obtain ⟨o', ho', g, hg, hb, hon⟩ := Region.waitsFor_spec (hTl j h hlt0 x hx)
     have : o' = oj := Option.some.inj (ho'.symm.trans hoj)
     subst this
     rw [← hon]
     exact hdep g hg hb
    rcases Nat.eq_zero_or_pos (Rj o k) with h0 | h0
    ·have := wt0 (n + k + m) (by omega)
     rw [hl3 m (by omega)] at this
     simp at this
    ·obtain ⟨i, hi, hn⟩ := Me h0
     have := wt0 (n + i) (by omega)
     rw [hl2 i hi, hn] at this
     cases this
   refine ⟨hlt, ?_⟩
   rcases Nat.lt_or_ge j n with h | h
   ·rw [hl1 j h] at hun'; cases hun'
   rcases Nat.lt_or_ge j (n + k) with h2 | h2
   ·-- a block is made
    obtain ⟨i, rfl⟩ : ∃ i, j = n + i := ⟨j - n, by omega⟩
    have hi : i < k := by omega
    have hn : o i = none := by
     have := hl2 i hi
     rw [hun'] at this
     cases ho : o i with
     | none => rfl
     | some g => rw [ho] at this; cases this
    obtain ⟨oa, hoa, ⟨hd, hg, hrun⟩, _⟩ := hA i hi
    unfold Ng
    simp only [hoa]
    rw [if_pos (by simp [Region.wanted, hg])]
    refine ⟨false, fun u s' => ∃ g, u = .pointer (some ⟨g, 0, none⟩) ∧ s' = (upN o i g, m), fun b w hb hx => ?_, ?_⟩
    ·rw [hrun]
     refine ⟨by rw [Bool.or_false]; exact hBa b w _ hb, _, ⟨_, rfl, rfl⟩, fun i' hi' g hg' => ?_, fun i' j' hi' hj' g h1 h2 => ?_⟩
     ·by_cases hii : i' = i
      ·subst hii
       have : g = w.heap.size := by simpa [upN] using hg'.symm
       subst this
       have hmi : ¬ i' < m := fun h => by obtain ⟨x, hx⟩ := hom i' h; rw [hn] at hx; cases hx
       simp only [hmi, if_false]
       exact ⟨hBn b w hb, Box.new w _ _⟩
      ·have : o i' = some g := by simpa [upN, hii] using hg'
       obtain ⟨q1, q2⟩ := hx.1 i' hi' g this
       exact ⟨q1, q2.alloc _⟩
     ·have old : ∀ x, x < k → ∀ y, o x = some y → y ≠ w.heap.size := fun x hx' y hy => Nat.ne_of_lt (hx.1 x hx' y hy).2.lt
      by_cases c1 : i' = i
      ·by_cases c2 : j' = i
       ·rw [c1, c2]
       ·have e1 : g = w.heap.size := by simpa [upN, c1] using h1.symm
        exact absurd e1 (old j' hj' g (by simpa [upN, c2] using h2))
      ·by_cases c2 : j' = i
       ·have e1 : g = w.heap.size := by simpa [upN, c2] using h2.symm
        exact absurd e1 (old i' hi' g (by simpa [upN, c1] using h1))
       ·exact hx.2 i' j' hi' hj' g (by simpa [upN, c1] using h1) (by simpa [upN, c2] using h2)
    ·rintro u s' ⟨g, rfl, rfl⟩
     rw [hd, ← frN_up hn hp hi, Bool.or_false]
     refine ih _ _ m (by have := cntN_up (g := g) hn hi; omega) hm (by simpa using hls) (fun x hx => getD_set_true (hl1 x hx)) (fun x hx => ?_) (fun x hx => by rw [getD_set_ne false (by omega)]; exact hl3 x hx) (fun x hx => ?_) (fun x hx hx2 => by rw [getD_set_ne false (by omega)]; exact hl4 x hx hx2)
     ·by_cases hxi : x = i
      ·subst hxi
       have : n + x < listed.size := by omega
       simp [upN, this]
      ·rw [getD_set_ne false (by omega), hl2 x hx]; simp [upN, hxi]
     ·obtain ⟨y, hy⟩ := hom x hx
      by_cases hxi : x = i
      ·exact ⟨g, by simp [upN, hxi]⟩
      ·exact ⟨y, by simp [upN, hxi, hy]⟩
   ·-- a block is filled
    obtain ⟨i, rfl⟩ : ∃ i, j = n + k + i := ⟨j - (n + k), by omega⟩
    have hi : i < k := by omega
    have him : ¬ i < m := by
     have := hl3 i hi
     rw [hun'] at this
     simpa using this.symm
    have wt : ∀ x, Region.waitsFor md ops (n + k + i) x = true → listed.getD x false = true := fun x hx => by
     obtain ⟨o', ho', g, hg, hb, hon⟩ := Region.waitsFor_spec hx
     have : o' = oj := Option.some.inj (ho'.symm.trans hoj)
     subst this
     rw [← hon]
     exact hdep g hg hb
    have hoi : ∃ g, o i = some g := by
     have := wt _ (hw i hi)
     rw [hl2 i hi] at this
     exact Option.isSome_iff_exists.1 this
    have hi0 : i = m := by
     rcases Nat.eq_zero_or_pos i with h0 | h0
     ·omega
     ·have := wt _ (by have := hc (i - 1) (by omega); rwa [show i - 1 + 1 = i by omega] at this)
      rw [hl3 (i - 1) (by omega)] at this
      have := of_decide_eq_true this
      omega
    subst hi0
    obtain ⟨g, hg⟩ := hoi
    obtain ⟨os, hos, ⟨hd, hgd, hrun⟩, _⟩ := hS i hi
    unfold Ng
    simp only [hos]
    rw [if_pos (by simp [Region.wanted, hgd])]
    refine ⟨false, fun u s' => s' = (o, i + 1), fun b w hb hx => ?_, ?_⟩
    ·obtain ⟨q1, q2⟩ := hx.1 i hi g hg
     simp only [Nat.lt_irrefl, if_false] at q2
     obtain ⟨w', hr, hb1, hb2, hb3⟩ := hrun (frN p o a k) g w (frN_slot hg hp hz hi) (by rw [frN_other (fun j hj => hq j i hj hi)]; exact hv i hi) q2
     rw [hr]
     refine ⟨by rw [Bool.or_false]; exact hb3 q1 b hb, _, rfl, fun x hx' y hy => ?_, hx.2⟩
     obtain ⟨r1, r2⟩ := hx.1 x hx' y hy
     by_cases hxi : x = i
     ·subst hxi
      have hy' : o x = some y := hy
      have : y = g := by rw [hg] at hy'; exact (Option.some.inj hy').symm
      subst this
      simp only [Nat.lt_succ_self, if_true]
      exact ⟨r1, hb1⟩
     ·refine ⟨r1, ?_⟩
      have hyg : y ≠ g := fun e => hxi (hx.2 x i hx' hi y hy (by rw [e]; exact hg))
      have := hb2 y t _ hyg r2
      by_cases hlt : x < i
      ·simpa [hlt, Nat.lt_succ_of_lt hlt] using this
      ·simpa [hlt, show ¬ x < i + 1 by omega] using this
    ·rintro u s' rfl
     rw [hd, Bool.or_false]
     refine ih _ o (i + 1) (by omega) (by omega) (by simpa using hls) (fun x hx => getD_set_true (hl1 x hx)) (fun x hx => by rw [getD_set_ne false (by omega)]; exact hl2 x hx) (fun x hx => ?_) (fun x hx => ?_) (fun x hx hx2 => by rw [getD_set_ne false (by omega)]; exact hl4 x hx hx2)
     ·by_cases hxi : x = i
      ·subst hxi
       have : n + k + x < listed.size := by omega
       simp [this]
      ·rw [getD_set_ne false (by omega), hl3 x hx]
       by_cases hlt : x < i
       ·simp [hlt, Nat.lt_succ_of_lt hlt]
       ·simp [hlt, show ¬ x < i + 1 by omega]
     ·by_cases hxi : x = i
      ·exact ⟨g, by rw [hxi]; exact hg⟩
      ·exact hom x (by omega)
def newB (md : Region.Mode) (l : List Oper) (n k g : Nat) : Bool :=
 Region.noSelect l.toArray && decide (l.length = n + k + k + g) &&
 (List.range g).all (fun t => (List.range (n + k + k)).all fun i => Region.waitsFor md l.toArray (n + k + k + t) i) && Region.seqB md l.toArray g (n + k + k) (LFn (n + k + k) g) &&
 (List.range k).all (fun i => match l[n + i]? with | some o => o.after.all (fun g => !Region.binds md g || decide (g.on < n)) | none => false) &&
 (List.range k).all (fun i => match l[n + k + i]? with | some o => o.after.all (fun g => !Region.binds md g || decide (g.on < n + k + i)) | none => false) &&
 (List.range k).all (fun i => Region.waitsFor md l.toArray (n + k + i) (n + i)) && (List.range k).all (fun i => decide (k ≤ i + 1) || Region.waitsFor md l.toArray (n + k + (i + 1)) (n + k + i)) &&
 freeB md l.toArray n 0 (Array.replicate l.length false)
where
 freeB (md : Region.Mode) (ops : Array Oper) : Nat → Nat → Array Bool → Bool
  | 0, _, _ => true
  | f + 1, k, listed => (Region.ready md ops listed).contains k && Region.free md ops listed k && freeB md ops f (k + 1) (listed.setIfInBounds k true)
def NewEnd (P : Program) (B : Bool → World → Prop) (n k N0 : Nat) (t : TypeId) (p q : Nat → Nat) (zs xs : Nat → Array Value) (Qf : Act → World → Prop) (l : List Oper) (a : Act) (e : Bool) : Prop :=
 (∀ i, i < k → ∃ o, l[i]? = some o ∧ Oh P t o (p i) (zs i)) ∧ (∀ i, i < k → ∃ o, l[k + i]? = some o ∧ FillsB P N0 B t o (p i) (q i) (a.eval (.tmp (q i))) (zs i) (xs i)) ∧
 (∀ x, x < k → p x < a.tmps.size) ∧
 ∀ g : Nat → Nat, ∀ w, B e w → (∀ i, i < k → N0 ≤ g i ∧ Box w (g i) t (xs i)) → (∀ i j, i < k → j < k → g i = g j → i = j) → Qf (frN p (fun i => some (g i)) a k) w
theorem wpT_head {B : Bool → World → Prop} {St : World → World → Prop} {N0 k : Nat} {t : TypeId} {zs xs : Nat → Array Value} {L : Array Bool → Act → ((Nat → Option Nat) × Nat) → Bool → Prop} {n g : Nat} {E : List Oper → Act → Bool → Prop}
  (hsel : Region.noSelect ops = true) (hX : ∀ w w', St w w' → ∀ g cs, N0 ≤ g → Box w g t cs → Box w' g t cs) {M : Nat} (hL : ∀ listed a s e, L listed a s e → ∀ j ∈ Region.ready md ops listed, M ≤ j) (hn : n ≤ M) (hM : M ≤ ops.size) (hTl : ∀ t, M ≤ t → t < ops.size → ∀ i, i < M → Region.waitsFor md ops t i = true)
  (hend : ∀ listed l a e, listed.size = ops.size → (∀ j, j < n → listed.getD j false = true) → (∀ j, n ≤ j → j < ops.size → listed.getD j false = false) → E l a e → (∀ j, l[j]? = ops[n + j]?) →
   wpT P md ops B (XN N0 t k zs xs) M L g listed a (fun _ => none, 0) e) :
  ∀ (m : Nat) (l : List Oper) (i : Nat) (listed : Array Bool) (a : Act) (e : Bool), (∀ j, l[j]? = ops[i + j]?) → i + m = n → HeadInv md ops M listed → (∀ j, j < i → listed.getD j false = true) → (∀ j, i ≤ j → j < ops.size → listed.getD j false = false) →
  newB.freeB md ops m i listed = true → Xb P ops B St E m l a e → wpT P md ops B (XN N0 t k zs xs) M L (m + g) listed a (fun _ => none, 0) e
 | 0, l, i, listed, a, e, hl, hi, inv, h1, h2, _, h => by
  rw [Nat.zero_add]
  have : i = n := by simpa using hi
  subst this
  exact hend listed l a e inv.size h1 h2 h hl
 | m + 1, [], _, _, _, _, _, _, _, _, _, _, h => h.elim
 | m + 1, o :: l, i, listed, a, e, hl, hi, inv, h1, h2, hB, h => by
  have h0 : ops[i]? = some o := by simpa using (hl 0).symm
  simp only [newB.freeB, Bool.and_eq_true] at hB
  obtain ⟨⟨hr, hf⟩, hB'⟩ := hB
  have hin : i < ops.size := by omega
  have hr' : i ∈ Region.ready md ops listed := by simpa using hr
  obtain ⟨v, d, hy, hK⟩ := h
  rw [show m + 1 + g = (m + g) + 1 by omega]
  have hiM : i < M := by omega
  have hlt : ∀ (L : Array Bool), L.getD i true = false → ∀ j ∈ Region.ready md ops L, j < M := fun L hLi j hj => by
   obtain ⟨_, oj, hoj, hdep⟩ := mem_ready.1 hj
   have hj0 := (Array.getElem?_eq_some_iff.1 hoj).1
   rcases Nat.lt_or_ge j M with h | h
   ·exact h
   exfalso
   obtain ⟨o', ho', g, hg, hb, hon⟩ := Region.waitsFor_spec (hTl j h hj0 i hiM)
   have : o' = oj := Option.some.inj (ho'.symm.trans hoj)
   subst this
   have h3 := hdep g hg hb
   rw [hon, getD_both hLi] at h3
   cases h3
  refine Ol (St := St) (fun s w w' hs hx => ⟨fun x hx' y hy' => ⟨(hx.1 x hx' y hy').1, hX w w' hs _ _ (hx.1 x hx' y hy').1 (hx.1 x hx' y hy').2⟩, hx.2⟩) h0 (Region.noSelect_spec hsel) hiM (fun L _ hLi j hj => hlt L hLi j hj) (fun L a s e hL' j hj => hL _ _ _ _ hL' j hj) (m + g) listed a _ e inv (Region.free_spec h0 hf) hr' hy ?_
  refine wpT_head hsel hX hL hn hM hTl hend m l (i + 1) _ _ _ (fun j => by have := hl (j + 1); simpa [Nat.add_assoc, Nat.add_comm 1 j] using this) (by omega) (inv.set hr' hiM) (fun j hj => ?_) (fun j hj hj2 => by rw [getD_set_ne false (by omega)]; exact h2 j (by omega) hj2) hB' hK
  by_cases hji : j = i
  ·subst hji
   have : j < listed.size := by rw [inv.size]; exact hin
   simp [this]
  ·rw [getD_set_ne false (Ne.symm hji)]; exact h1 j (by omega)
theorem Zm {B : Bool → World → Prop} (St : World → World → Prop) {id : Nat} {Q : Exit → Act → World → Prop} {a : Act} {w : World} {l : List Oper} (n k g N0 : Nat) (t : TypeId) (p q : Nat → Nat) (zs xs : Nat → Array Value) (e : Bool)
  (hm : P.follows .mixedOrders = true) (hB : newB .any l n k g = true) (hb : B e { w with drawn := w.drawn + 1 })
  (hp : ∀ x y, x < k → y < k → p x = p y → x = y) (hq : ∀ x y, x < k → y < k → p x ≠ q y)
  (hX : ∀ w w', St w w' → ∀ g cs, N0 ≤ g → Box w g t cs → Box w' g t cs) (hBa : ∀ b w cs, B b w → B b (w.alloc (.cells cs t))) (hBn : ∀ b w, B b w → N0 ≤ w.heap.size)
  (h : Xb P l.toArray B St (NewEnd P B n k N0 t p q zs xs (fun a w => wpList P l.toArray Q (l.drop (n + k + k)) a w)) n l a e) : (Code.region id l.toArray true).wp P Q a w := by
 simp only [newB, Bool.and_eq_true, decide_eq_true_eq] at hB
 obtain ⟨⟨⟨⟨⟨⟨⟨⟨hsel, hlen⟩, hT⟩, hsq⟩, hA⟩, hS⟩, hw⟩, hc⟩, hf⟩ := hB
 have hsz : l.toArray.size = n + k + k + g := by simpa using hlen
 have hA' := List.all_eq_true.1 hA
 have hS' := List.all_eq_true.1 hS
 have hw' := List.all_eq_true.1 hw
 have hc' := List.all_eq_true.1 hc
 have hT' : ∀ t, n + k + k ≤ t → t < l.toArray.size → ∀ i, i < n + k + k → Region.waitsFor .any l.toArray t i = true := fun t h1 h2 i hi => by
  have := List.all_eq_true.1 (List.all_eq_true.1 hT (t - (n + k + k)) (List.mem_range.2 (by omega))) i (List.mem_range.2 hi)
  rwa [show n + k + k + (t - (n + k + k)) = t by omega] at this
 have inv0 : HeadInv .any l.toArray (n + k + k) (Array.replicate l.toArray.size false) :=
  ⟨by simp, fun j oj _ hl => (by rw [getD_replicate_false] at hl; cases hl), fun t h1 h2 => getD_in (by simpa using h2) (getD_replicate_false _ _)⟩
 refine wp_region_any hm ?_
 have H := wpT_head (md := .any) (P := P) (ops := l.toArray) (B := B) (St := St) (N0 := N0) (k := k) (t := t) (zs := zs) (xs := xs) (n := n) (g := k + k) (M := n + k + k)
  (L := fun listed a s e => listed = LFn (n + k + k) g ∧ ∀ w, B e w → XN N0 t k zs xs s w → wpList P l.toArray Q (l.drop (n + k + k)) a w) (E := NewEnd P B n k N0 t p q zs xs (fun a w => wpList P l.toArray Q (l.drop (n + k + k)) a w))
  hsel hX (fun listed a s e h j hj => by
   have := h.1
   subst this
   exact seqB_ready hsq j hj) (by omega) (by omega) hT'
  (fun listed l' a e hls h1 h2 hE hl' => by
   obtain ⟨e1, e2, e3, e4⟩ := hE
   have c0 : ∀ k', Rj (fun _ => none) k' = k' := fun k' => by
    induction k' with
    | zero => rfl
    | succ k' ih => unfold Rj; rw [ih]; rfl
   have f0 : ∀ k', frN p (fun _ => none) a k' = a := fun k' => by
    induction k' with
    | zero => rfl
    | succ k' ih => unfold frN; exact ih
   have H2 := wpT_new (md := .any) (P := P) (ops := l.toArray) (B := B) k n N0 g t p q (fun i => a.eval (.tmp (q i))) zs xs (fun a w => wpList P l.toArray Q (l.drop (n + k + k)) a w) a e hsz hT'
    (fun i hi => by
     obtain ⟨o, ho, hmk⟩ := e1 i hi
     have ho' : l.toArray[n + i]? = some o := by rw [← hl' i]; exact ho
     refine ⟨o, ho', hmk, fun g hg hb => ?_⟩
     have := hA' i (List.mem_range.2 hi)
     rw [show l[n + i]? = some o by simpa using ho'] at this
     have h3 := Array.all_eq_true_iff_forall_mem.1 this g hg
     simpa [hb] using h3)
    (fun i hi => by
     obtain ⟨o, ho, hmk⟩ := e2 i hi
     have ho' : l.toArray[n + k + i]? = some o := by rw [Nat.add_assoc, ← hl' (k + i)]; exact ho
     refine ⟨o, ho', hmk, fun g hg hb => ?_⟩
     have := hS' i (List.mem_range.2 hi)
     rw [show l[n + k + i]? = some o by simpa using ho'] at this
     have h3 := Array.all_eq_true_iff_forall_mem.1 this g hg
     simpa [hb] using h3)
    (fun i hi => hw' i (List.mem_range.2 hi)) (fun i hi => by
     have := hc' i (List.mem_range.2 (by omega))
     simp only [Bool.or_eq_true, decide_eq_true_eq] at this
     rcases this with h | h
     ·omega
     ·exact h)
    hp hq e3 (fun i _ => rfl) hBa hBn e4 (k + k) listed (fun _ => none) 0 (by rw [c0]; omega) (by omega) hls h1
    (fun i hi => by rw [h2 (n + i) (by omega) (by omega)]; rfl) (fun i hi => by rw [h2 (n + k + i) (by omega) (by omega)]; simp) (fun i hi => absurd hi (by omega)) (fun j hj hj2 => h2 j (by omega) hj2)
   rwa [f0] at H2)
  n l 0 _ a e (by simp) (by simp) inv0 (fun j hj => absurd hj (by omega)) (fun j _ _ => getD_replicate_false _ _) (by simpa using hf) h
 have hdl : (l.drop (n + k + k)).length = g := by simp; omega
 have := Sr (Q' := Q) (g := g) (fun listed a' s e' w' hL hb' hx' => by
  have h1 := hL.1
  subst h1
  have := wpAny_of_seq (md := .any) (Q' := Q) (l.drop (n + k + k)) (n + k + k) _ a' w' (fun j => by simp) (by rw [hdl]; exact hsq) (hL.2 w' hb' hx')
  rwa [hdl] at this) (n + (k + k)) _ a _ e _ hb ⟨fun i hi g hg => (by cases hg), fun i j hi hj g hg _ => (by cases hg)⟩ H
 rwa [show n + (k + k) + g = l.toArray.size by omega] at this
end
end
section
open Go.RowKit

theorem Box.setRow {w : World} {g : Nat} {t : TypeId} {cs : Array Value} (h : Box w g t cs) (x : Array Value) : Box (w.setRow g x) g t x := setRow_heap w g cs x t (0, 0) h
theorem Box.setRow_far {w : World} {b g : Nat} {t : TypeId} {cs : Array Value} (h : Box w b t cs) (hne : b ≠ g) (x : Array Value) : Box (w.setRow g x) b t cs := (setRow_other w g b x hne).trans h
theorem Ex.setRow {W w : World} (h : Ex W w) {g : Nat} (hg : W.heap.size ≤ g) (x : Array Value) : Ex W (w.setRow g x) := below_setRow h hg x
theorem Sm.setRow {bs : Nat} {w w' : World} (h : Sm bs w w') {g : Nat} (hg : w.heap.size ≤ g) (x : Array Value) : Sm bs w (w'.setRow g x) :=
  ⟨fun W hW hl => (h.ex W hW hl).setRow (Nat.le_trans hW.size hg) x, fun b t cs hne hb => (h.box b t cs hne hb).setRow_far (by have := hb.lt; omega) x,
   fun lo T k v n cs hT ho => by
    have ho' := h.own lo T k v n cs hT ho
    refine ⟨ho'.1, ?_⟩
    rcases ho'.2 with h0 | ⟨g', cap, cur, rfl, hg', hh, hr⟩
    · exact .inl h0
    · refine .inr ⟨g', cap, cur, rfl, hg', ?_, hr⟩
      have : g' ≠ g := by have := (Own.lt ho g' rfl).2; omega
      exact (setRow_other w' g g' x this).trans hh, by have := h.size; simpa using this⟩
section
variable {W w w2 : World} {bs : Nat} {b b2 : Bool} {L : List (Nat × TypeId × Array Value)} {g : Nat}
theorem Yr.setRow_far : ∀ {L : List (Nat × TypeId × Array Value)}, (∀ x ∈ L, x.1 < g) → Yr w L → ∀ x, Yr (w.setRow g x) L
  | [], _, _, _ => trivial
  | _ :: _, hl, h, x => ⟨h.1.setRow_far (Nat.ne_of_lt (hl _ (.head _))) x, Yr.setRow_far (fun y hy => hl y (.tail _ hy)) h.2 x⟩
structure InS (W : World) (bs : Nat) (L : List (Nat × TypeId × Array Value)) (b : Bool) (w : World) : Prop where
  sees : Zt W w bs b L
  old : ∀ x ∈ L, x.1 < W.heap.size
  olds : bs < W.heap.size
theorem InS.start (h : Zt W w bs b L) : InS w bs L b w := ⟨⟨Sm.refl _ _, h.sum, h.boxes, h.far⟩, Yr.old h.boxes, h.sum.lt⟩
theorem InS.drew (h : InS W bs L b w) : InS W bs L b { w with drawn := w.drawn + 1 } := ⟨h.sees.drewW, h.old, h.olds⟩
theorem InS.alloc (h : InS W bs L b w) (o : Obj) : InS W bs L b (w.alloc o) := ⟨h.sees.ex ((Ex.refl w).alloc o), h.old, h.olds⟩
theorem InS.size (h : InS W bs L b w) : W.heap.size ≤ w.heap.size := h.sees.sm.size
theorem InS.setRow (h : InS W bs L b w) (hg : W.heap.size ≤ g) (x : Array Value) : InS W bs L b (w.setRow g x) :=
  ⟨⟨h.sees.sm.setRow hg x, h.sees.sum.setRow_far (by have := h.olds; omega) x, Yr.setRow_far (fun y hy => Nat.lt_of_lt_of_le (h.old y hy) hg) h.sees.boxes x, h.sees.far⟩, h.old, h.olds⟩
theorem InS.call (h : InS W bs L b w) (hN : Zt W w2 bs b2 L) : InS W bs L b2 w2 := ⟨hN, h.old, h.olds⟩
theorem InS.join (h0 : Zt W w bs b L) (h : InS w bs L b2 w2) : Zt W w2 bs b2 L := ⟨h0.sm.trans h.sees.sm, h.sees.sum, h.sees.boxes, h.sees.far⟩
structure InE (W : World) (L : List (Nat × TypeId × Array Value)) (w : World) : Prop where
  sees : Zw W w L
  old : ∀ x ∈ L, x.1 < W.heap.size
theorem InE.start (h : Zw W w L) : InE w L w := ⟨⟨Ex.refl _, h.boxes⟩, Yr.old h.boxes⟩
theorem InE.drew (h : InE W L w) : InE W L { w with drawn := w.drawn + 1 } := ⟨h.sees.drewW, h.old⟩
theorem InE.alloc (h : InE W L w) (o : Obj) : InE W L (w.alloc o) := ⟨h.sees.go ((Ex.refl w).alloc o), h.old⟩
theorem InE.size (h : InE W L w) : W.heap.size ≤ w.heap.size := h.sees.ex.size
theorem InE.setRow (h : InE W L w) (hg : W.heap.size ≤ g) (x : Array Value) : InE W L (w.setRow g x) :=
  ⟨⟨h.sees.ex.setRow hg x, Yr.setRow_far (fun y hy => Nat.lt_of_lt_of_le (h.old y hy) hg) h.sees.boxes x⟩, h.old⟩
theorem InE.go (h : InE W L w) (hx : Ex w w2) : InE W L w2 := ⟨h.sees.go hx, h.old⟩
theorem InE.join (h0 : Zw W w L) (h : InE w L w2) : Zw W w2 L := ⟨h0.ex.trans h.sees.ex, h.sees.boxes⟩
end
theorem Zf {B : Bool → World → Prop} {N0 : Nat} {t ty ty' : TypeId} {pos : String} {after : Array Edge} {p q : Nat} {z x : Array Value} (hi : (Tryz.prog.info? t).map (·.size) = some x.size) (hz : z.size = x.size) (h1 : x.all (·.oneCell') = true)
    (hB : ∀ b w g, N0 ≤ g → B b w → B b (w.setRow g x)) : FillsB Tryz.prog N0 B ty { dst := none, op := .store t (.tmp p) (.tmp q), type := ty', pos := pos, after := after, guard := none } p q (.agg x) z x := by
  refine ⟨rfl, rfl, fun a g w hp hq hb => ⟨w.setRow g x, ?_, hb.setRow x, fun b t' cs hne h => h.setRow_far hne x, fun hg b h => hB b w g hg h⟩⟩
  unfold execOp
  simp only [hp, hq, Instr.storeAt, Instr.sureAddr, Sem.run_bind, Sem.run_pure, Result.andThen_ok, run_storeVar_row w g ty t z x hb hi hz h1]
theorem Zb {p : Nat} {ty' : TypeId} {pos : String} {after : Array Edge} : Oh Tryz.prog 30 { dst := some p, op := .alloc 30, type := ty', pos := pos, after := after, guard := none } p #[.int .i64 0, .int .i64 0, .int .i64 0] := ⟨rfl, rfl, fun ρ w => by simp [execOp, go_sem]⟩
theorem Ti {p : Nat} {ty' : TypeId} {pos : String} {after : Array Edge} : Oh Tryz.prog 79 { dst := some p, op := .alloc 79, type := ty', pos := pos, after := after, guard := none } p #[.int .i64 0, .int .i64 0, .int .i64 0, .int .i64 0, .int .i64 0, .int .i64 0, .int .i64 0, .int .i64 0, .int .i64 0, .int .i64 0, .int .i64 0, .int .i64 0] := ⟨rfl, rfl, fun ρ w => by simp [execOp, go_sem]⟩
theorem Yv : (Tryz.prog.info? 30).map (·.size) = some 3 := by kernel_rfl
theorem Ri : (Tryz.prog.info? 79).map (·.size) = some 12 := by kernel_rfl
theorem Zw.put {W w : World} {L : List (Nat × TypeId × Array Value)} {g : Nat} {t : TypeId} {cs : Array Value} (h : Zw W w L) (hb : Box w g t cs) : Zw W w ((g, t, cs) :: L) := ⟨h.ex, hb, h.boxes⟩
end
section
open Go.RowKit

def Wz (a : Fr) : Fr × Bool := if a.valid then flow a.re 0 a.den else (Fr.none, false)
def Wy (a : Fr) : Fr × Bool := if a.valid then flow a.im 0 a.den else (Fr.none, false)
def Uo (a : Fr) : Fr × Bool := Ve a ⟨2, 0, 1⟩
def Zk (a b : Fr) : Fr × Bool := Zu a (Ze b).1
theorem fpair_or (a b : Fr) (x : Bool) : ((x || !(Ze b).2) || !(Zk a b).2) = (x || !(Zk a b).2) := by
 unfold Zk
 rcases h : (Ze b).2 with _ | _
 ·rw [Ss h, Mc Wg]
  simp
 ·simp
theorem over_any (bs : Nat) (bad : Bool) (a b : Fr) (w : World) (hG : Yc w) (hb : Box w bs 92 #[.bool bad]) :
  Calls Tryz.prog 99 #[.pointer (some ⟨bs, 0, none⟩), a.v, b.v] w (Xe bs bad w (Ve a b)) := by
 have l1 := fun w (hG : Yc w) => iFracOver a b w
 have l2 := fun w hb => Ur bs bad (Ve a b) w hb fover_none
 generalize Ve a b = r at l1 l2 ⊢
 obtain ⟨a1, a2, a3⟩ := a
 obtain ⟨b1, b2, b3⟩ := b
 obtain ⟨⟨r1, r2, r3⟩, ok⟩ := r
 show Calls _ _ #[_, .agg #[.int .i64 a1, .int .i64 a2, .int .i64 a3], .agg #[.int .i64 b1, .int .i64 b2, .int .i64 b3]] _ _
 have k1 : ∀ w, Yc w → Calls Tryz.prog 170 #[.agg #[.int .i64 a1, .int .i64 a2, .int .i64 a3], .agg #[.int .i64 b1, .int .i64 b2, .int .i64 b3]] w _ := fun w hG => Yh.spell (l1 w hG)
 have k2 : ∀ w, Box w bs 92 #[.bool bad] → Calls Tryz.prog 115 #[.pointer (some ⟨bs, 0, none⟩), .agg #[.int .i64 r1, .int .i64 r2, .int .i64 r3], .bool ok] w fun e w' => e = .returned (.agg #[.int .i64 r1, .int .i64 r2, .int .i64 r3]) ∧ Sm bs w w' ∧ Box w' bs 92 #[.bool (bad || !ok)] := l2
 clear l1 l2
 have hbs := hb.lt
 go_enter Tryz.func99, Tryz.ntmps99
 go_wp2_with fail
 refine (k1 _ (hG.ex (((Ex.refl w).alloc _).alloc _ |>.alloc _))).mono ?_
 rintro e w1 ⟨rfl, hx⟩
 have bR := (Box.new _ _ _).ex hx
 simp only [Kv] at bR
 replace hx := (((Ex.refl w).alloc _).alloc _ |>.alloc _).trans hx
 have zR := bR.lt
 go_wp2_with fail
 refine (k2 _ (hb.ex hx)).mono ?_
 rintro e w2 ⟨rfl, hsm, hb2⟩
 have bR2 := hsm.box _ _ _ (by omega) bR
 have cR := bR2.cell
 have fR := bR2.frozen
 clear bR hb
 go_wp2
 refine Kr (v := .agg #[.int .i64 r1, .int .i64 r2, .int .i64 r3]) ?_ rfl ⟨rfl, ?_, ?_⟩
 ·simp [results, Tryz.results99, go_sem, cR]
 ·repeat' (first
   | exact (Sm.of_ex hx).trans hsm
   | refine Sm.setNew ?_ (by simp <;> omega) _)
 ·repeat' (first
   | exact hb2
   | refine Box.far ?_ (by simp <;> omega) _)
theorem freal_none {a : Fr} (h : (Wz a).2 = false) : (Wz a).1 = Fr.none := by
 unfold Wz at h ⊢
 split
 ·rename_i hv
  rw [if_pos hv] at h
  exact Ud h
 ·rfl
theorem Tt (bs : Nat) (bad : Bool) (a : Fr) (w : World) (hb : Box w bs 92 #[.bool bad]) :
  Calls Tryz.prog 55 #[.pointer (some ⟨bs, 0, none⟩), a.v] w (Xe bs bad w (Wz a)) := by
 have kv := fun w => Yk a.re a.im a.den w
 have l2 := fun w hb => Ur bs bad (Wz a) w hb freal_none
 have hbs := hb.lt
 have ne1 := Nat.ne_of_gt hb.lt
 have hfr := hb.frozen
 have hc := hb.cell
 rcases hv : a.valid with _ | _
 ·have e : Wz a = (Fr.none, false) := by simp [Wz, hv]
  rw [e]
  obtain ⟨a1, a2, a3⟩ := a
  have hv' : Zg a1 a2 a3 = false := hv
  simp only [hv'] at kv
  unfold Xe
  simp only [Fr.v, Fr.none]
  clear e hv l2 hv'
  have KV := Kw kv
  clear kv
  have hS := Zt.init hb
  have hC := hS.reads
  simp only [Zz, Zy] at hC
  go_enter Tryz.func55, Tryz.ntmps55
  go_wp2_with (go_at_call 59; (with_reducible refine (KV.out _).mono ?_); rintro e wn ⟨rfl, hx⟩; replace hS := Zt.after (W := w) hx; (try simp only [Kv] at hS); replace hC := hS.reads; simp only [Zz, Zy] at hC)
  have hm := hS.sm
  have hs := hS.sum
  have : (bad || !false) = true := by simp
  rw [this]
  refine Kr ?_ rfl ⟨rfl, ?_, ?_⟩
  ·simp [results, Tryz.results55, go_sem, hC]
  ·repeat' (first
    | exact hm.trans (Sm.set hs 0 _)
    | refine Sm.setNew ?_ (by simp <;> omega) _)
  ·repeat' (first
    | exact hs.set_ 0 (.bool true)
    | refine Box.far ?_ (by simp <;> omega) _)
 ·have e : Wz a = flow a.re 0 a.den := by simp [Wz, hv]
  rw [e] at l2 ⊢
  obtain ⟨a1, a2, a3⟩ := a
  have hv' : Zg a1 a2 a3 = true := hv
  obtain ⟨⟨p1, p2⟩, ⟨p3, p4⟩, ⟨p5, p6⟩, -⟩ := Fr.valid_out hv
  simp only [hv'] at kv
  simp only at p1 p2 p3 p4 p5 p6
  have kl := fun w => Wp a1 0 a3 w (by omega) (by omega) (by omega)
  simp only at l2 ⊢
  generalize flow a1 0 a3 = r at l2 kl ⊢
  obtain ⟨⟨r1, r2, r3⟩, ok⟩ := r
  have k1 := fun w => Yh.spell (kl w)
  unfold Xe at l2 ⊢
  simp only [Fr.v] at l2 k1 ⊢
  clear e hv hv' p1 p2 p3 p4 p5 p6 kl
  have KV := Kw kv
  have KL := Kw k1
  have KK := Kw l2
  clear kv k1 l2
  have hS := Zt.init hb
  have hC := hS.reads
  simp only [Zz, Zy] at hC
  go_enter Tryz.func55, Tryz.ntmps55
  go_wp2_with (first | (go_at_call 59; (with_reducible refine (KV.out _).mono ?_); rintro e wn ⟨rfl, hx⟩; replace hS := Zt.after (W := w) hx; clear hx; (try simp only [Kv] at hS); replace hC := hS.reads; simp only [Zz, Zy] at hC) | (go_at_call 121; (with_reducible refine (KL.out _).mono ?_); rintro e wn ⟨rfl, hx⟩; replace hS := Zt.after (W := w) hx; clear hx; replace hC := hS.reads; simp only [Zz, Zy] at hC) | (go_at_call 115; (with_reducible refine (KK.out _ hS.sum).mono ?_); rintro e wn ⟨rfl, hs2, hb2⟩; replace hS := Zt.call hS hs2 hb2; replace hC := hS.reads; simp only [Zz, Zy] at hC))
  have hm := hS.sm
  have hs := hS.sum
  refine Kr ?_ rfl ⟨rfl, ?_, ?_⟩
  ·simp [results, Tryz.results55, go_sem, hC]
  ·repeat' (first
    | exact hm
    | refine Sm.setNew ?_ (by simp <;> omega) _)
  ·repeat' (first
    | exact hs
    | refine Box.far ?_ (by simp <;> omega) _)
theorem fimag_none {a : Fr} (h : (Wy a).2 = false) : (Wy a).1 = Fr.none := by
 unfold Wy at h ⊢
 split
 ·rename_i hv
  rw [if_pos hv] at h
  exact Ud h
 ·rfl
theorem Ts (bs : Nat) (bad : Bool) (a : Fr) (w : World) (hb : Box w bs 92 #[.bool bad]) :
  Calls Tryz.prog 56 #[.pointer (some ⟨bs, 0, none⟩), a.v] w (Xe bs bad w (Wy a)) := by
 have kv := fun w => Yk a.re a.im a.den w
 have l2 := fun w hb => Ur bs bad (Wy a) w hb fimag_none
 have hbs := hb.lt
 have ne1 := Nat.ne_of_gt hb.lt
 have hfr := hb.frozen
 have hc := hb.cell
 rcases hv : a.valid with _ | _
 ·have e : Wy a = (Fr.none, false) := by simp [Wy, hv]
  rw [e]
  obtain ⟨a1, a2, a3⟩ := a
  have hv' : Zg a1 a2 a3 = false := hv
  simp only [hv'] at kv
  unfold Xe
  simp only [Fr.v, Fr.none]
  clear e hv l2 hv'
  have KV := Kw kv
  clear kv
  have hS := Zt.init hb
  have hC := hS.reads
  simp only [Zz, Zy] at hC
  go_enter Tryz.func56, Tryz.ntmps56
  go_wp2_with (go_at_call 59; (with_reducible refine (KV.out _).mono ?_); rintro e wn ⟨rfl, hx⟩; replace hS := Zt.after (W := w) hx; (try simp only [Kv] at hS); replace hC := hS.reads; simp only [Zz, Zy] at hC)
  have hm := hS.sm
  have hs := hS.sum
  have : (bad || !false) = true := by simp
  rw [this]
  refine Kr ?_ rfl ⟨rfl, ?_, ?_⟩
  ·simp [results, Tryz.results56, go_sem, hC]
  ·repeat' (first
    | exact hm.trans (Sm.set hs 0 _)
    | refine Sm.setNew ?_ (by simp <;> omega) _)
  ·repeat' (first
    | exact hs.set_ 0 (.bool true)
    | refine Box.far ?_ (by simp <;> omega) _)
 ·have e : Wy a = flow a.im 0 a.den := by simp [Wy, hv]
  rw [e] at l2 ⊢
  obtain ⟨a1, a2, a3⟩ := a
  have hv' : Zg a1 a2 a3 = true := hv
  obtain ⟨⟨p1, p2⟩, ⟨p3, p4⟩, ⟨p5, p6⟩, -⟩ := Fr.valid_out hv
  simp only [hv'] at kv
  simp only at p1 p2 p3 p4 p5 p6
  have kl := fun w => Wp a2 0 a3 w (by omega) (by omega) (by omega)
  simp only at l2 ⊢
  generalize flow a2 0 a3 = r at l2 kl ⊢
  obtain ⟨⟨r1, r2, r3⟩, ok⟩ := r
  have k1 := fun w => Yh.spell (kl w)
  unfold Xe at l2 ⊢
  simp only [Fr.v] at l2 k1 ⊢
  clear e hv hv' p1 p2 p3 p4 p5 p6 kl
  have KV := Kw kv
  have KL := Kw k1
  have KK := Kw l2
  clear kv k1 l2
  have hS := Zt.init hb
  have hC := hS.reads
  simp only [Zz, Zy] at hC
  go_enter Tryz.func56, Tryz.ntmps56
  go_wp2_with (first | (go_at_call 59; (with_reducible refine (KV.out _).mono ?_); rintro e wn ⟨rfl, hx⟩; replace hS := Zt.after (W := w) hx; clear hx; (try simp only [Kv] at hS); replace hC := hS.reads; simp only [Zz, Zy] at hC) | (go_at_call 121; (with_reducible refine (KL.out _).mono ?_); rintro e wn ⟨rfl, hx⟩; replace hS := Zt.after (W := w) hx; clear hx; replace hC := hS.reads; simp only [Zz, Zy] at hC) | (go_at_call 115; (with_reducible refine (KK.out _ hS.sum).mono ?_); rintro e wn ⟨rfl, hs2, hb2⟩; replace hS := Zt.call hS hs2 hb2; replace hC := hS.reads; simp only [Zz, Zy] at hC))
  have hm := hS.sm
  have hs := hS.sum
  refine Kr ?_ rfl ⟨rfl, ?_, ?_⟩
  ·simp [results, Tryz.results56, go_sem, hC]
  ·repeat' (first
    | exact hm
    | refine Sm.setNew ?_ (by simp <;> omega) _)
  ·repeat' (first
    | exact hs
    | refine Box.far ?_ (by simp <;> omega) _)
end
section
open Go.RowKit

attribute [local go_sem] Zi Zh
def LStn (bo : Nat) (w : World) : Ending → World → Prop := fun e w' => ∃ P Q : Int, e = .returned (.agg #[.int .i64 P, .int .i64 Q]) ∧ 0 ≤ P ∧ P ≤ 3 ∧ -1 ≤ Q ∧ Q ≤ 3 ∧ Dr bo w w'
def DrwN (w : World) : Ending → World → Prop := fun e w' => ∃ P Q : Int, e = .returned (.agg #[.int .i64 P, .int .i64 Q]) ∧ 0 ≤ P ∧ P ≤ 3 ∧ -1 ≤ Q ∧ Q ≤ 3 ∧ Ex w w'
theorem Kx {W : World} {A : Option Addr} {bs : List Int} (hB : Sz W A bs) (hl : bs.length ≤ 2000) (bo cap a : Nat) (w : World) (hE : Ex W w) (hbo : W.heap.size ≤ bo)
  (hb : Rdr w bo A bs.length cap a) (ha : a ≤ 1000000) :
  Calls Tryz.prog 36 #[.pointer (some ⟨bo, 0, none⟩)] w (LStn bo w) := by
 have hpk := fun a m w hE hb ha hm hm2 => pick_dr hB hl bo cap a m w hE hbo hb ha hm hm2
 have HP := Kw hpk
 clear hpk hB hl
 go_enter Tryz.func36, Tryz.ntmps36
 go_wp2_with fail
 refine (HP.out a 4 _ (hE.alloc _) (hb.alloc _) (by omega) (by omega) (by omega)).mono ?_
 rintro e w1 ⟨u1, rfl, hu10, hu11, hd, hb1⟩
 have hzb := hb.lt
 have bR := hd.box _ _ _ (by omega) (Box.new w #[.int .i64 0, .int .i64 0] 27)
 replace hd := (Dr.of_ex ((Ex.refl w).alloc _)).trans hd
 go_wp2_with fail
 refine (HP.out (a + 1) 3 _ (hd.ex W hE hbo) hb1 (by omega) (by omega) (by omega)).mono ?_
 rintro e w2 ⟨u2, rfl, hu20, hu21, hd2, hb2⟩
 replace bR := hd2.box _ _ _ (by omega) bR
 replace hd := hd.trans hd2
 clear hd2 hb1
 have g1 := Kq (1 - u2) (by omega)
 go_wp2_with fail
 refine (HP.out (a + 1 + 1) 2 _ (hd.ex W hE hbo) hb2 (by omega) (by omega) (by omega)).mono ?_
 rintro e w3 ⟨u3, rfl, hu30, hu31, hd2, hb3⟩
 replace bR := hd2.box _ _ _ (by omega) bR
 replace hd := hd.trans hd2
 clear hd2 hb2
 have cR := bR.cell
 have fR := bR.frozen
 have g2 := Kq (u3 * 2) (by omega)
 have g3 := Kq (1 - u2 + u3 * 2) (by omega)
 have fin : LStn bo w (.returned (.agg #[.int .i64 u1, .int .i64 (1 - u2 + u3 * 2)])) ((w3.setCell ⟨w.heap.size, 0, none⟩ (.int .i64 u1)).setCell ⟨w.heap.size, 1, none⟩ (.int .i64 (1 - u2 + u3 * 2))) :=
  ⟨u1, _, rfl, hu10, by omega, by omega, by omega, (hd.setNew (Nat.le_refl _) _).setNew (Nat.le_refl _) _⟩
 have HF := Kw fin
 clear fin hd hb3
 go_wp2
 refine Kr (v := .agg #[.int .i64 u1, .int .i64 (1 - u2 + u3 * 2)]) ?_ rfl HF.out
 simp [results, Tryz.results36, go_sem, cR]
theorem drawMeterRow (A : Option Addr) (xs : List Int) (cap : Nat) (w : World) (hB : Sz w A xs) (hl : xs.length ≤ 9223372036854775807) (hcap : xs.length ≤ cap) (hcap2 : cap ≤ 9223372036854775807) :
  Calls Tryz.prog 13 #[.slice A xs.length cap] w (DrwN w) := by
 have KO := Kw (fun w hB => l6Open_any A xs cap w hB hl hcap hcap2)
 go_enter Tryz.func13, Tryz.ntmps13
 go_wp2_with fail
 refine (KO.out _ (hB.alloc _)).mono ?_
 rintro e u1 ⟨bs, cap2, rfl, hBs, hbl, hb, hE, -⟩
 clear KO hB
 have bR := (Box.new w #[.int .i64 0, .int .i64 0] 27).ex hE
 rw [Kv] at hb ⊢
 have hE0 := ((Ex.refl w).alloc (.cells #[.int .i64 0, .int .i64 0] 27)).trans hE
 go_wp2_with fail
 refine (Kx hBs hbl (w.heap.size + 1) cap2 0 u1 hE (by rw [Kv]; omega) hb (by omega)).mono ?_
 rintro e u2 ⟨P, Q, rfl, h1, h2, h3, h4, hd⟩
 replace bR := hd.box _ _ _ (by omega) bR
 have hE2 := hd.ex w hE0 (by omega)
 have cR := bR.cell
 have fR := bR.frozen
 have HF : Hid (DrwN w (.returned (.agg #[.int .i64 P, .int .i64 Q])) ((u2.setCell ⟨w.heap.size, 0, none⟩ (.int .i64 P)).setCell ⟨w.heap.size, 1, none⟩ (.int .i64 Q))) := Kw ⟨P, Q, rfl, h1, h2, h3, h4, (hE2.setCell (Nat.le_refl _) _).setCell (Nat.le_refl _) _⟩
 clear hE hE0 hE2 hd hb hBs
 go_wp2
 refine Kr (v := .agg #[.int .i64 P, .int .i64 Q]) ?_ rfl HF.out
 simp [results, Tryz.results13, go_sem, cR]
end
end Go.Proofs.YtiommfmaleeibaaGreatDoor
