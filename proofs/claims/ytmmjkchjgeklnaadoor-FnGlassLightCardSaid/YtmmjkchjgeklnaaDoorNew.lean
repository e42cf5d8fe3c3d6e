/-
  Regions of many orders in which new variables are made: behind the operations of one value stand k operations that each make a block, and k that each fill one.
-/
import Derived.Test.YtmmjkchjgeklnaaDoorQui
namespace Go.Proofs.YtmmjkchjgeklnaaDoor
section
/-- The frame in which those blocks that are made lie in their slots. -/
def frN (p : Nat → Nat) (o : Nat → Option Nat) (a : Act) : Nat → Act
  | 0 => a
  | k + 1 => match o k with
    | some g => (frN p o a k).put (some (p k)) (.pointer (some ⟨g, 0, none⟩))
    | none => frN p o a k
def upN (o : Nat → Option Nat) (i g : Nat) : Nat → Option Nat := fun j => if j = i then some g else o j
def cntN (o : Nat → Option Nat) : Nat → Nat
  | 0 => 0
  | k + 1 => cntN o k + (if (o k).isNone then 1 else 0)
theorem frN_congr {p : Nat → Nat} {o o' : Nat → Option Nat} {a : Act} : ∀ {k : Nat}, (∀ j, j < k → o j = o' j) → frN p o a k = frN p o' a k
  | 0, _ => rfl
  | k + 1, h => by
    unfold frN
    rw [h k (Nat.lt_succ_self k), frN_congr (k := k) (fun j hj => h j (Nat.lt_succ_of_lt hj))]
theorem cntN_congr {o o' : Nat → Option Nat} : ∀ {k : Nat}, (∀ j, j < k → o j = o' j) → cntN o k = cntN o' k
  | 0, _ => rfl
  | k + 1, h => by
    unfold cntN
    rw [h k (Nat.lt_succ_self k), cntN_congr (k := k) (fun j hj => h j (Nat.lt_succ_of_lt hj))]
theorem frN_up {p : Nat → Nat} {o : Nat → Option Nat} {a : Act} {i g : Nat} (hn : o i = none) : ∀ {k : Nat}, (∀ x y, x < k → y < k → p x = p y → x = y) → i < k →
    frN p (upN o i g) a k = (frN p o a k).put (some (p i)) (.pointer (some ⟨g, 0, none⟩))
  | 0, _, h => absurd h (Nat.not_lt_zero i)
  | k + 1, hp, hi => by
    by_cases hik : i = k
    · subst hik
      unfold frN
      rw [hn, show upN o i g i = some g by simp [upN]]
      simp only
      rw [frN_congr (o := upN o i g) (o' := o) (fun j hj => by simp [upN, Nat.ne_of_lt hj])]
    · have hlt : i < k := by omega
      have ih := frN_up (p := p) (a := a) (g := g) hn (k := k) (fun x y hx hy => hp x y (by omega) (by omega)) hlt
      unfold frN
      rw [show upN o i g k = o k by simp [upN, Ne.symm hik], ih]
      cases o k with
      | none => rfl
      | some g' => exact Act.put_comm _ _ _ (fun d hd he => by
          have h1 : p i = d := by simpa using hd
          have h2 : p k = d := by simpa using he
          exact hik (hp i k (by omega) (by omega) (h1.trans h2.symm)))
theorem cntN_up {o : Nat → Option Nat} {i g : Nat} (hn : o i = none) : ∀ {k : Nat}, i < k → cntN (upN o i g) k + 1 = cntN o k
  | 0, h => absurd h (Nat.not_lt_zero i)
  | k + 1, hi => by
    by_cases hik : i = k
    · subst hik
      unfold cntN
      rw [hn, show upN o i g i = some g by simp [upN], cntN_congr (o := upN o i g) (o' := o) (fun j hj => by simp [upN, Nat.ne_of_lt hj])]
      simp
    · have ih := cntN_up (g := g) hn (k := k) (by omega)
      unfold cntN
      rw [show upN o i g k = o k by simp [upN, Ne.symm hik]]
      omega
theorem cntN_zero {o : Nat → Option Nat} : ∀ {k : Nat}, cntN o k = 0 → ∀ i, i < k → ∃ g, o i = some g
  | 0, _, i, h => absurd h (Nat.not_lt_zero i)
  | k + 1, h, i, hi => by
    unfold cntN at h
    by_cases hik : i = k
    · subst hik
      cases ho : o i with
      | some g => exact ⟨g, rfl⟩
      | none => rw [ho] at h; simp at h
    · exact cntN_zero (k := k) (by omega) i (by omega)
theorem cntN_pos {o : Nat → Option Nat} : ∀ {k : Nat}, 0 < cntN o k → ∃ i, i < k ∧ o i = none
  | 0, h => absurd h (Nat.not_lt_zero 0)
  | k + 1, h => by
    unfold cntN at h
    cases ho : o k with
    | none => exact ⟨k, Nat.lt_succ_self k, ho⟩
    | some g =>
      rw [ho] at h
      obtain ⟨i, hi, hn⟩ := cntN_pos (k := k) (by simpa using h)
      exact ⟨i, by omega, hn⟩
theorem frN_other {p : Nat → Nat} {o : Nat → Option Nat} {a : Act} {t : Nat} : ∀ {k : Nat}, (∀ j, j < k → p j ≠ t) → (frN p o a k).eval (.tmp t) = a.eval (.tmp t)
  | 0, _ => rfl
  | k + 1, h => by
    have ih := frN_other (p := p) (o := o) (a := a) (k := k) (fun j hj => h j (by omega))
    unfold frN
    cases o k with
    | none => exact ih
    | some g => exact (Act.eval_put (fun d hd he => h k (by omega) (by
        have h1 : p k = d := by simpa using hd
        have h2 : t = d := by simpa using he
        exact h1.trans h2.symm))).trans ih
theorem frN_size {p : Nat → Nat} {o : Nat → Option Nat} {a : Act} : ∀ {k : Nat}, (frN p o a k).tmps.size = a.tmps.size
  | 0 => rfl
  | k + 1 => by
    unfold frN
    cases o k with
    | none => exact frN_size (k := k)
    | some g => simp only [Act.put, Array.size_setIfInBounds]; exact frN_size (k := k)
theorem frN_slot {p : Nat → Nat} {o : Nat → Option Nat} {a : Act} {i g : Nat} (hg : o i = some g) : ∀ {k : Nat}, (∀ x y, x < k → y < k → p x = p y → x = y) → (∀ x, x < k → p x < a.tmps.size) → i < k →
    (frN p o a k).eval (.tmp (p i)) = .pointer (some ⟨g, 0, none⟩)
  | 0, _, _, h => absurd h (Nat.not_lt_zero i)
  | k + 1, hp, hz, hi => by
    by_cases hik : i = k
    · subst hik
      unfold frN
      rw [hg]
      have hlt : p i < (frN p o a i).tmps.size := by rw [frN_size]; exact hz i (by omega)
      simp [Act.eval, Act.put, hlt]
    · have ih := frN_slot (p := p) (a := a) hg (k := k) (fun x y hx hy => hp x y (by omega) (by omega)) (fun x hx => hz x (by omega)) (by omega)
      unfold frN
      cases o k with
      | none => exact ih
      | some g' => exact (Act.eval_put (fun d hd he => hik (hp i k (by omega) (by omega) (by
          have h1 : p k = d := by simpa using hd
          have h2 : p i = d := by simpa using he
          exact h2.trans h1.symm)))).trans ih

variable {P : Program} {ops : Array Oper} {md : Region.Mode}
/-- Blocks made: number i at o i; the first m are filled. -/
def XN (N0 : Nat) (t : TypeId) (k : Nat) (zs xs : Nat → Array Value) (s : (Nat → Option Nat) × Nat) (w : World) : Prop :=
  (∀ i, i < k → ∀ g, s.1 i = some g → N0 ≤ g ∧ Box w g t (if i < s.2 then xs i else zs i)) ∧ (∀ i j, i < k → j < k → ∀ g, s.1 i = some g → s.1 j = some g → i = j)
/-- An operation that makes a block. -/
def MakesB (P : Program) (t : TypeId) (o : Oper) (p : Nat) (z : Array Value) : Prop :=
  o.dst = some p ∧ o.guard = none ∧ ∀ (ρ : Operand → Value) (w : World), (execOp ρ o).run P w = .ok (.value (.pointer (some ⟨w.heap.size, 0, none⟩))) (w.alloc (.cells z t))
/-- An operation that fills the block to which slot p points. -/
def FillsB (P : Program) (N0 : Nat) (B : Bool → World → Prop) (t : TypeId) (o : Oper) (p q : Nat) (v : Value) (z x : Array Value) : Prop :=
  o.dst = none ∧ o.guard = none ∧ ∀ (a : Act) (g : Nat) (w : World), a.eval (.tmp p) = .pointer (some ⟨g, 0, none⟩) → a.eval (.tmp q) = v → Box w g t z →
    ∃ w', (execOp a.eval o).run P w = .ok .skip w' ∧ Box w' g t x ∧ (∀ b t' cs, b ≠ g → Box w b t' cs → Box w' b t' cs) ∧ (N0 ≤ g → ∀ b, B b w → B b w')
/-- What is listed where all but the last g operations have come up. -/
def LFn (m g : Nat) : Array Bool := (List.replicate m true ++ List.replicate g false).toArray
theorem LFn_of {m g : Nat} {listed : Array Bool} (hs : listed.size = m + g) (h1 : ∀ j, j < m → listed.getD j false = true) (h2 : ∀ j, m ≤ j → j < m + g → listed.getD j false = false) : listed = LFn m g := by
  apply Array.ext
  · simp [LFn, hs]
  · intro i hi hi2
    rcases Nat.lt_or_ge i m with h | h
    · have := h1 i h
      simp only [Array.getD_eq_getD_getElem?, Array.getElem?_eq_getElem hi, Option.getD_some] at this
      rw [this]
      simp [LFn, List.getElem_append, h]
    · have := h2 i h (by omega)
      simp only [Array.getD_eq_getD_getElem?, Array.getElem?_eq_getElem hi, Option.getD_some] at this
      rw [this]
      simp [LFn, List.getElem_append, Nat.not_lt.2 h]
theorem wpT_new {B : Bool → World → Prop} (k n N0 g : Nat) (t : TypeId) (p q : Nat → Nat) (vs : Nat → Value) (zs xs : Nat → Array Value) (Qf : Act → World → Prop) (a : Act) (e : Bool)
    (hsz : ops.size = n + k + k + g) (hTl : ∀ t, n + k + k ≤ t → t < ops.size → ∀ i, i < n + k + k → Region.waitsFor md ops t i = true)
    (hA : ∀ i, i < k → ∃ o, ops[n + i]? = some o ∧ MakesB P t o (p i) (zs i) ∧ ∀ g ∈ o.after, Region.binds md g = true → g.on < n)
    (hS : ∀ i, i < k → ∃ o, ops[n + k + i]? = some o ∧ FillsB P N0 B t o (p i) (q i) (vs i) (zs i) (xs i) ∧ ∀ g ∈ o.after, Region.binds md g = true → g.on < n + k + i)
    (hw : ∀ i, i < k → Region.waitsFor md ops (n + k + i) (n + i) = true) (hc : ∀ i, i + 1 < k → Region.waitsFor md ops (n + k + (i + 1)) (n + k + i) = true)
    (hp : ∀ x y, x < k → y < k → p x = p y → x = y) (hq : ∀ x y, x < k → y < k → p x ≠ q y) (hz : ∀ x, x < k → p x < a.tmps.size) (hv : ∀ i, i < k → a.eval (.tmp (q i)) = vs i)
    (hBa : ∀ b w cs, B b w → B b (w.alloc (.cells cs t))) (hBn : ∀ b w, B b w → N0 ≤ w.heap.size)
    (hfin : ∀ g : Nat → Nat, ∀ w, B e w → (∀ i, i < k → N0 ≤ g i ∧ Box w (g i) t (xs i)) → (∀ i j, i < k → j < k → g i = g j → i = j) → Qf (frN p (fun i => some (g i)) a k) w) :
    ∀ (f : Nat) (listed : Array Bool) (o : Nat → Option Nat) (m : Nat), f = cntN o k + (k - m) → m ≤ k → listed.size = ops.size → (∀ j, j < n → listed.getD j false = true) →
      (∀ i, i < k → listed.getD (n + i) false = (o i).isSome) → (∀ i, i < k → listed.getD (n + k + i) false = decide (i < m)) → (∀ i, i < m → ∃ g, o i = some g) → (∀ j, n + k + k ≤ j → j < ops.size → listed.getD j false = false) →
      wpT P md ops B (XN N0 t k zs xs) (n + k + k) (fun listed a s e => listed = LFn (n + k + k) g ∧ ∀ w, B e w → XN N0 t k zs xs s w → Qf a w) f listed (frN p o a k) (o, m) e := by
  intro f
  induction f with
  | zero =>
    intro listed o m hf hm hls hl1 hl2 hl3 hom hl4
    have hall := cntN_zero (o := o) (k := k) (by omega)
    have hmk : m = k := by omega
    subst hmk
    refine ⟨?_, fun w hb hx => ?_⟩
    · refine LFn_of (by omega) (fun j hj => ?_) (fun j hj hj2 => hl4 j hj (by omega))
      rcases Nat.lt_or_ge j n with h | h
      · exact hl1 j h
      rcases Nat.lt_or_ge j (n + m) with h2 | h2
      · obtain ⟨g, hg⟩ := hall (j - n) (by omega)
        have := hl2 (j - n) (by omega)
        rw [show n + (j - n) = j by omega, hg] at this
        exact this
      · have := hl3 (j - (n + m)) (by omega)
        rw [show n + m + (j - (n + m)) = j by omega] at this
        rw [this]
        simp; omega
    · obtain ⟨g, hg⟩ : ∃ g : Nat → Nat, ∀ i, i < m → o i = some (g i) := ⟨fun i => (o i).getD 0, fun i hi => by obtain ⟨x, hx⟩ := hall i hi; simp [hx]⟩
      rw [frN_congr (o' := fun i => some (g i)) (fun j hj => hg j hj)]
      refine hfin g w hb (fun i hi => ?_) (fun i j hi hj hij => ?_)
      · have := hx.1 i hi (g i) (hg i hi)
        simpa [hi] using this
      · exact hx.2 i j hi hj (g i) (hg i hi) (by rw [hij]; exact hg j hj)
  | succ f ih =>
    intro listed o m hf hm hls hl1 hl2 hl3 hom hl4
    have inb : ∀ j, j < ops.size → listed.getD j false = false → listed.getD j true = false := fun j hj h => getD_in (by rw [hls]; exact hj) h
    refine ⟨?_, fun j hj => ?_⟩
    · rcases Nat.eq_zero_or_pos (cntN o k) with h0 | h0
      · have hall := cntN_zero (o := o) (k := k) h0
        have hmk : m < k := by omega
        obtain ⟨os, hos, _, hed⟩ := hS m hmk
        intro hr
        have : n + k + m ∈ Region.ready md ops listed := by
          refine mem_ready.2 ⟨inb _ (by omega) ?_, os, hos, fun g hg hb => ?_⟩
          · rw [hl3 m hmk]; simp
          · have hon := hed g hg hb
            rcases Nat.lt_or_ge g.on n with h | h
            · exact hl1 _ h
            rcases Nat.lt_or_ge g.on (n + k) with h2 | h2
            · obtain ⟨x, hx⟩ := hall (g.on - n) (by omega)
              have := hl2 (g.on - n) (by omega)
              rw [show n + (g.on - n) = g.on by omega, hx] at this
              exact this
            · have := hl3 (g.on - (n + k)) (by omega)
              rw [show n + k + (g.on - (n + k)) = g.on by omega] at this
              rw [this]
              simp; omega
        rw [hr] at this
        cases this
      · obtain ⟨i, hi, hn⟩ := cntN_pos h0
        obtain ⟨oa, hoa, _, hed⟩ := hA i hi
        intro hr
        have : n + i ∈ Region.ready md ops listed := by
          refine mem_ready.2 ⟨inb _ (by omega) ?_, oa, hoa, fun g hg hb => hl1 _ (hed g hg hb)⟩
          rw [hl2 i hi, hn]; rfl
        rw [hr] at this
        cases this
    · obtain ⟨hun, oj, hoj, hdep⟩ := mem_ready.1 hj
      have hun' := getD_both hun
      have hlt0 := (Array.getElem?_eq_some_iff.1 hoj).1
      have hlt : j < n + k + k := by
        rcases Nat.lt_or_ge j (n + k + k) with h | h
        · exact h
        exfalso
        have wt0 : ∀ x, x < n + k + k → listed.getD x false = true := fun x hx => by
          obtain ⟨o', ho', g, hg, hb, hon⟩ := Region.waitsFor_spec (hTl j h hlt0 x hx)
          have : o' = oj := Option.some.inj (ho'.symm.trans hoj)
          subst this
          rw [← hon]
          exact hdep g hg hb
        rcases Nat.eq_zero_or_pos (cntN o k) with h0 | h0
        · have := wt0 (n + k + m) (by omega)
          rw [hl3 m (by omega)] at this
          simp at this
        · obtain ⟨i, hi, hn⟩ := cntN_pos h0
          have := wt0 (n + i) (by omega)
          rw [hl2 i hi, hn] at this
          cases this
      refine ⟨hlt, ?_⟩
      rcases Nat.lt_or_ge j n with h | h
      · rw [hl1 j h] at hun'; cases hun'
      rcases Nat.lt_or_ge j (n + k) with h2 | h2
      · -- a block is made
        obtain ⟨i, rfl⟩ : ∃ i, j = n + i := ⟨j - n, by omega⟩
        have hi : i < k := by omega
        have hn : o i = none := by
          have := hl2 i hi
          rw [hun'] at this
          cases ho : o i with
          | none => rfl
          | some g => rw [ho] at this; cases this
        obtain ⟨oa, hoa, ⟨hd, hg, hrun⟩, _⟩ := hA i hi
        unfold relOp
        simp only [hoa]
        rw [if_pos (by simp [Region.wanted, hg])]
        refine ⟨false, fun u s' => ∃ g, u = .pointer (some ⟨g, 0, none⟩) ∧ s' = (upN o i g, m), fun b w hb hx => ?_, ?_⟩
        · rw [hrun]
          refine ⟨by rw [Bool.or_false]; exact hBa b w _ hb, _, ⟨_, rfl, rfl⟩, fun i' hi' g hg' => ?_, fun i' j' hi' hj' g h1 h2 => ?_⟩
          · by_cases hii : i' = i
            · subst hii
              have : g = w.heap.size := by simpa [upN] using hg'.symm
              subst this
              have hmi : ¬ i' < m := fun h => by obtain ⟨x, hx⟩ := hom i' h; rw [hn] at hx; cases hx
              simp only [hmi, if_false]
              exact ⟨hBn b w hb, Box.new w _ _⟩
            · have : o i' = some g := by simpa [upN, hii] using hg'
              obtain ⟨q1, q2⟩ := hx.1 i' hi' g this
              exact ⟨q1, q2.alloc _⟩
          · have old : ∀ x, x < k → ∀ y, o x = some y → y ≠ w.heap.size := fun x hx' y hy => Nat.ne_of_lt (hx.1 x hx' y hy).2.lt
            by_cases c1 : i' = i
            · by_cases c2 : j' = i
              · rw [c1, c2]
              · have e1 : g = w.heap.size := by simpa [upN, c1] using h1.symm
                exact absurd e1 (old j' hj' g (by simpa [upN, c2] using h2))
            · by_cases c2 : j' = i
              · have e1 : g = w.heap.size := by simpa [upN, c2] using h2.symm
                exact absurd e1 (old i' hi' g (by simpa [upN, c1] using h1))
              · exact hx.2 i' j' hi' hj' g (by simpa [upN, c1] using h1) (by simpa [upN, c2] using h2)
        · rintro u s' ⟨g, rfl, rfl⟩
          rw [hd, ← frN_up hn hp hi, Bool.or_false]
          refine ih _ _ m (by have := cntN_up (g := g) hn hi; omega) hm (by simpa using hls) (fun x hx => getD_set_true (hl1 x hx)) (fun x hx => ?_) (fun x hx => by rw [getD_set_ne false (by omega)]; exact hl3 x hx) (fun x hx => ?_) (fun x hx hx2 => by rw [getD_set_ne false (by omega)]; exact hl4 x hx hx2)
          · by_cases hxi : x = i
            · subst hxi
              have : n + x < listed.size := by omega
              simp [upN, this]
            · rw [getD_set_ne false (by omega), hl2 x hx]; simp [upN, hxi]
          · obtain ⟨y, hy⟩ := hom x hx
            by_cases hxi : x = i
            · exact ⟨g, by simp [upN, hxi]⟩
            · exact ⟨y, by simp [upN, hxi, hy]⟩
      · -- a block is filled
        obtain ⟨i, rfl⟩ : ∃ i, j = n + k + i := ⟨j - (n + k), by omega⟩
        have hi : i < k := by omega
        have him : ¬ i < m := by
          have := hl3 i hi
          rw [hun'] at this
          simpa using this.symm
        have wt : ∀ x, Region.waitsFor md ops (n + k + i) x = true → listed.getD x false = true := fun x hx => by
          obtain ⟨o', ho', g, hg, hb, hon⟩ := Region.waitsFor_spec hx
          have : o' = oj := Option.some.inj (ho'.symm.trans hoj)
          subst this
          rw [← hon]
          exact hdep g hg hb
        have hoi : ∃ g, o i = some g := by
          have := wt _ (hw i hi)
          rw [hl2 i hi] at this
          exact Option.isSome_iff_exists.1 this
        have hi0 : i = m := by
          rcases Nat.eq_zero_or_pos i with h0 | h0
          · omega
          · have := wt _ (by have := hc (i - 1) (by omega); rwa [show i - 1 + 1 = i by omega] at this)
            rw [hl3 (i - 1) (by omega)] at this
            have := of_decide_eq_true this
            omega
        subst hi0
        obtain ⟨g, hg⟩ := hoi
        obtain ⟨os, hos, ⟨hd, hgd, hrun⟩, _⟩ := hS i hi
        unfold relOp
        simp only [hos]
        rw [if_pos (by simp [Region.wanted, hgd])]
        refine ⟨false, fun u s' => s' = (o, i + 1), fun b w hb hx => ?_, ?_⟩
        · obtain ⟨q1, q2⟩ := hx.1 i hi g hg
          simp only [Nat.lt_irrefl, if_false] at q2
          obtain ⟨w', hr, hb1, hb2, hb3⟩ := hrun (frN p o a k) g w (frN_slot hg hp hz hi) (by rw [frN_other (fun j hj => hq j i hj hi)]; exact hv i hi) q2
          rw [hr]
          refine ⟨by rw [Bool.or_false]; exact hb3 q1 b hb, _, rfl, fun x hx' y hy => ?_, hx.2⟩
          obtain ⟨r1, r2⟩ := hx.1 x hx' y hy
          by_cases hxi : x = i
          · subst hxi
            have hy' : o x = some y := hy
            have : y = g := by rw [hg] at hy'; exact (Option.some.inj hy').symm
            subst this
            simp only [Nat.lt_succ_self, if_true]
            exact ⟨r1, hb1⟩
          · refine ⟨r1, ?_⟩
            have hyg : y ≠ g := fun e => hxi (hx.2 x i hx' hi y hy (by rw [e]; exact hg))
            have := hb2 y t _ hyg r2
            by_cases hlt : x < i
            · simpa [hlt, Nat.lt_succ_of_lt hlt] using this
            · simpa [hlt, show ¬ x < i + 1 by omega] using this
        · rintro u s' rfl
          rw [hd, Bool.or_false]
          refine ih _ o (i + 1) (by omega) (by omega) (by simpa using hls) (fun x hx => getD_set_true (hl1 x hx)) (fun x hx => by rw [getD_set_ne false (by omega)]; exact hl2 x hx) (fun x hx => ?_) (fun x hx => ?_) (fun x hx hx2 => by rw [getD_set_ne false (by omega)]; exact hl4 x hx hx2)
          · by_cases hxi : x = i
            · subst hxi
              have : n + k + x < listed.size := by omega
              simp [this]
            · rw [getD_set_ne false (by omega), hl3 x hx]
              by_cases hlt : x < i
              · simp [hlt, Nat.lt_succ_of_lt hlt]
              · simp [hlt, show ¬ x < i + 1 by omega]
          · by_cases hxi : x = i
            · exact ⟨g, by rw [hxi]; exact hg⟩
            · exact hom x (by omega)
/-- The check that a region is of this make: n operations, k that make blocks, k that fill them. -/
def newB (md : Region.Mode) (l : List Oper) (n k g : Nat) : Bool :=
  Region.noSelect l.toArray && decide (l.length = n + k + k + g) &&
  (List.range g).all (fun t => (List.range (n + k + k)).all fun i => Region.waitsFor md l.toArray (n + k + k + t) i) && Region.seqB md l.toArray g (n + k + k) (LFn (n + k + k) g) &&
  (List.range k).all (fun i => match l[n + i]? with | some o => o.after.all (fun g => !Region.binds md g || decide (g.on < n)) | none => false) &&
  (List.range k).all (fun i => match l[n + k + i]? with | some o => o.after.all (fun g => !Region.binds md g || decide (g.on < n + k + i)) | none => false) &&
  (List.range k).all (fun i => Region.waitsFor md l.toArray (n + k + i) (n + i)) && (List.range k).all (fun i => decide (k ≤ i + 1) || Region.waitsFor md l.toArray (n + k + (i + 1)) (n + k + i)) &&
  freeB md l.toArray n 0 (Array.replicate l.length false)
where
  freeB (md : Region.Mode) (ops : Array Oper) : Nat → Nat → Array Bool → Bool
    | 0, _, _ => true
    | f + 1, k, listed => (Region.ready md ops listed).contains k && Region.free md ops listed k && freeB md ops f (k + 1) (listed.setIfInBounds k true)
/-- What is to be shown behind the operations of one value. -/
def NewEnd (P : Program) (B : Bool → World → Prop) (n k N0 : Nat) (t : TypeId) (p q : Nat → Nat) (zs xs : Nat → Array Value) (Qf : Act → World → Prop) (l : List Oper) (a : Act) (e : Bool) : Prop :=
  (∀ i, i < k → ∃ o, l[i]? = some o ∧ MakesB P t o (p i) (zs i)) ∧ (∀ i, i < k → ∃ o, l[k + i]? = some o ∧ FillsB P N0 B t o (p i) (q i) (a.eval (.tmp (q i))) (zs i) (xs i)) ∧
  (∀ x, x < k → p x < a.tmps.size) ∧
  ∀ g : Nat → Nat, ∀ w, B e w → (∀ i, i < k → N0 ≤ g i ∧ Box w (g i) t (xs i)) → (∀ i j, i < k → j < k → g i = g j → i = j) → Qf (frN p (fun i => some (g i)) a k) w
theorem wpT_head {B : Bool → World → Prop} {St : World → World → Prop} {N0 k : Nat} {t : TypeId} {zs xs : Nat → Array Value} {L : Array Bool → Act → ((Nat → Option Nat) × Nat) → Bool → Prop} {n g : Nat} {E : List Oper → Act → Bool → Prop}
    (hsel : Region.noSelect ops = true) (hX : ∀ w w', St w w' → ∀ g cs, N0 ≤ g → Box w g t cs → Box w' g t cs) {M : Nat} (hL : ∀ listed a s e, L listed a s e → ∀ j ∈ Region.ready md ops listed, M ≤ j) (hn : n ≤ M) (hM : M ≤ ops.size) (hTl : ∀ t, M ≤ t → t < ops.size → ∀ i, i < M → Region.waitsFor md ops t i = true)
    (hend : ∀ listed l a e, listed.size = ops.size → (∀ j, j < n → listed.getD j false = true) → (∀ j, n ≤ j → j < ops.size → listed.getD j false = false) → E l a e → (∀ j, l[j]? = ops[n + j]?) →
      wpT P md ops B (XN N0 t k zs xs) M L g listed a (fun _ => none, 0) e) :
    ∀ (m : Nat) (l : List Oper) (i : Nat) (listed : Array Bool) (a : Act) (e : Bool), (∀ j, l[j]? = ops[i + j]?) → i + m = n → HeadInv md ops M listed → (∀ j, j < i → listed.getD j false = true) → (∀ j, i ≤ j → j < ops.size → listed.getD j false = false) →
    newB.freeB md ops m i listed = true → lexDet P ops B St E m l a e → wpT P md ops B (XN N0 t k zs xs) M L (m + g) listed a (fun _ => none, 0) e
  | 0, l, i, listed, a, e, hl, hi, inv, h1, h2, _, h => by
    rw [Nat.zero_add]
    have : i = n := by simpa using hi
    subst this
    exact hend listed l a e inv.size h1 h2 h hl
  | m + 1, [], _, _, _, _, _, _, _, _, _, _, h => h.elim
  | m + 1, o :: l, i, listed, a, e, hl, hi, inv, h1, h2, hB, h => by
    have h0 : ops[i]? = some o := by simpa using (hl 0).symm
    simp only [newB.freeB, Bool.and_eq_true] at hB
    obtain ⟨⟨hr, hf⟩, hB'⟩ := hB
    have hin : i < ops.size := by omega
    have hr' : i ∈ Region.ready md ops listed := by simpa using hr
    obtain ⟨v, d, hy, hK⟩ := h
    rw [show m + 1 + g = (m + g) + 1 by omega]
    have hiM : i < M := by omega
    have hlt : ∀ (L : Array Bool), L.getD i true = false → ∀ j ∈ Region.ready md ops L, j < M := fun L hLi j hj => by
      obtain ⟨_, oj, hoj, hdep⟩ := mem_ready.1 hj
      have hj0 := (Array.getElem?_eq_some_iff.1 hoj).1
      rcases Nat.lt_or_ge j M with h | h
      · exact h
      exfalso
      obtain ⟨o', ho', g, hg, hb, hon⟩ := Region.waitsFor_spec (hTl j h hj0 i hiM)
      have : o' = oj := Option.some.inj (ho'.symm.trans hoj)
      subst this
      have h3 := hdep g hg hb
      rw [hon, getD_both hLi] at h3
      cases h3
    refine wpT_first (St := St) (fun s w w' hs hx => ⟨fun x hx' y hy' => ⟨(hx.1 x hx' y hy').1, hX w w' hs _ _ (hx.1 x hx' y hy').1 (hx.1 x hx' y hy').2⟩, hx.2⟩) h0 (Region.noSelect_spec hsel) hiM (fun L _ hLi j hj => hlt L hLi j hj) (fun L a s e hL' j hj => hL _ _ _ _ hL' j hj) (m + g) listed a _ e inv (Region.free_spec h0 hf) hr' hy ?_
    refine wpT_head hsel hX hL hn hM hTl hend m l (i + 1) _ _ _ (fun j => by have := hl (j + 1); simpa [Nat.add_assoc, Nat.add_comm 1 j] using this) (by omega) (inv.set hr' hiM) (fun j hj => ?_) (fun j hj hj2 => by rw [getD_set_ne false (by omega)]; exact h2 j (by omega) hj2) hB' hK
    by_cases hji : j = i
    · subst hji
      have : j < listed.size := by rw [inv.size]; exact hin
      simp [this]
    · rw [getD_set_ne false (Ne.symm hji)]; exact h1 j (by omega)
theorem wp_region_new {B : Bool → World → Prop} (St : World → World → Prop) {id : Nat} {Q : Exit → Act → World → Prop} {a : Act} {w : World} {l : List Oper} (n k g N0 : Nat) (t : TypeId) (p q : Nat → Nat) (zs xs : Nat → Array Value) (e : Bool)
    (hm : P.follows .mixedOrders = true) (hB : newB .any l n k g = true) (hb : B e { w with drawn := w.drawn + 1 })
    (hp : ∀ x y, x < k → y < k → p x = p y → x = y) (hq : ∀ x y, x < k → y < k → p x ≠ q y)
    (hX : ∀ w w', St w w' → ∀ g cs, N0 ≤ g → Box w g t cs → Box w' g t cs) (hBa : ∀ b w cs, B b w → B b (w.alloc (.cells cs t))) (hBn : ∀ b w, B b w → N0 ≤ w.heap.size)
    (h : lexDet P l.toArray B St (NewEnd P B n k N0 t p q zs xs (fun a w => wpList P l.toArray Q (l.drop (n + k + k)) a w)) n l a e) : (Code.region id l.toArray true).wp P Q a w := by
  simp only [newB, Bool.and_eq_true, decide_eq_true_eq] at hB
  obtain ⟨⟨⟨⟨⟨⟨⟨⟨hsel, hlen⟩, hT⟩, hsq⟩, hA⟩, hS⟩, hw⟩, hc⟩, hf⟩ := hB
  have hsz : l.toArray.size = n + k + k + g := by simpa using hlen
  have hA' := List.all_eq_true.1 hA
  have hS' := List.all_eq_true.1 hS
  have hw' := List.all_eq_true.1 hw
  have hc' := List.all_eq_true.1 hc
  have hT' : ∀ t, n + k + k ≤ t → t < l.toArray.size → ∀ i, i < n + k + k → Region.waitsFor .any l.toArray t i = true := fun t h1 h2 i hi => by
    have := List.all_eq_true.1 (List.all_eq_true.1 hT (t - (n + k + k)) (List.mem_range.2 (by omega))) i (List.mem_range.2 hi)
    rwa [show n + k + k + (t - (n + k + k)) = t by omega] at this
  have inv0 : HeadInv .any l.toArray (n + k + k) (Array.replicate l.toArray.size false) :=
    ⟨by simp, fun j oj _ hl => (by rw [getD_replicate_false] at hl; cases hl), fun t h1 h2 => getD_in (by simpa using h2) (getD_replicate_false _ _)⟩
  refine wp_region_any hm ?_
  have H := wpT_head (md := .any) (P := P) (ops := l.toArray) (B := B) (St := St) (N0 := N0) (k := k) (t := t) (zs := zs) (xs := xs) (n := n) (g := k + k) (M := n + k + k)
    (L := fun listed a s e => listed = LFn (n + k + k) g ∧ ∀ w, B e w → XN N0 t k zs xs s w → wpList P l.toArray Q (l.drop (n + k + k)) a w) (E := NewEnd P B n k N0 t p q zs xs (fun a w => wpList P l.toArray Q (l.drop (n + k + k)) a w))
    hsel hX (fun listed a s e h j hj => by
      have := h.1
      subst this
      exact seqB_ready hsq j hj) (by omega) (by omega) hT'
    (fun listed l' a e hls h1 h2 hE hl' => by
      obtain ⟨e1, e2, e3, e4⟩ := hE
      have c0 : ∀ k', cntN (fun _ => none) k' = k' := fun k' => by
        induction k' with
        | zero => rfl
        | succ k' ih => unfold cntN; rw [ih]; rfl
      have f0 : ∀ k', frN p (fun _ => none) a k' = a := fun k' => by
        induction k' with
        | zero => rfl
        | succ k' ih => unfold frN; exact ih
      have H2 := wpT_new (md := .any) (P := P) (ops := l.toArray) (B := B) k n N0 g t p q (fun i => a.eval (.tmp (q i))) zs xs (fun a w => wpList P l.toArray Q (l.drop (n + k + k)) a w) a e hsz hT'
        (fun i hi => by
          obtain ⟨o, ho, hmk⟩ := e1 i hi
          have ho' : l.toArray[n + i]? = some o := by rw [← hl' i]; exact ho
          refine ⟨o, ho', hmk, fun g hg hb => ?_⟩
          have := hA' i (List.mem_range.2 hi)
          rw [show l[n + i]? = some o by simpa using ho'] at this
          have h3 := Array.all_eq_true_iff_forall_mem.1 this g hg
          simpa [hb] using h3)
        (fun i hi => by
          obtain ⟨o, ho, hmk⟩ := e2 i hi
          have ho' : l.toArray[n + k + i]? = some o := by rw [Nat.add_assoc, ← hl' (k + i)]; exact ho
          refine ⟨o, ho', hmk, fun g hg hb => ?_⟩
          have := hS' i (List.mem_range.2 hi)
          rw [show l[n + k + i]? = some o by simpa using ho'] at this
          have h3 := Array.all_eq_true_iff_forall_mem.1 this g hg
          simpa [hb] using h3)
        (fun i hi => hw' i (List.mem_range.2 hi)) (fun i hi => by
          have := hc' i (List.mem_range.2 (by omega))
          simp only [Bool.or_eq_true, decide_eq_true_eq] at this
          rcases this with h | h
          · omega
          · exact h)
        hp hq e3 (fun i _ => rfl) hBa hBn e4 (k + k) listed (fun _ => none) 0 (by rw [c0]; omega) (by omega) hls h1
        (fun i hi => by rw [h2 (n + i) (by omega) (by omega)]; rfl) (fun i hi => by rw [h2 (n + k + i) (by omega) (by omega)]; simp) (fun i hi => absurd hi (by omega)) (fun j hj hj2 => h2 j (by omega) hj2)
      rwa [f0] at H2)
    n l 0 _ a e (by simp) (by simp) inv0 (fun j hj => absurd hj (by omega)) (fun j _ _ => getD_replicate_false _ _) (by simpa using hf) h
  have hdl : (l.drop (n + k + k)).length = g := by simp; omega
  have := wpAny_of_T (Q' := Q) (g := g) (fun listed a' s e' w' hL hb' hx' => by
    have h1 := hL.1
    subst h1
    have := wpAny_of_seq (md := .any) (Q' := Q) (l.drop (n + k + k)) (n + k + k) _ a' w' (fun j => by simp) (by rw [hdl]; exact hsq) (hL.2 w' hb' hx')
    rwa [hdl] at this) (n + (k + k)) _ a _ e _ hb ⟨fun i hi g hg => (by cases hg), fun i j hi hj g hg _ => (by cases hg)⟩ H
  rwa [show n + (k + k) + g = l.toArray.size by omega] at this
end
end Go.Proofs.YtmmjkchjgeklnaaDoor
