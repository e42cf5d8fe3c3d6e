/-
  Regions that draw their order, where each call gives one value whatever was called before it, and only sets a flag: one walk, in the order of the text, serves all orders. Operations that make memory may stand among them.
-/
import Derived.Test.YtmmjkchjgeklnaaDoorLib
import Derived.StillTail
import Derived.Tactics2
namespace Go.Proofs.YtmmjkchjgeklnaaDoor
section
variable {P : Program} {ops : Array Oper} {md : Region.Mode} {σ : Type}

/-- What holds of the value that an operation yields, and of the world that it leaves. -/
def Leaves (P : Program) (G : Value → World → Prop) : Result Next → Prop
  | .ok (.value u) w => G u w
  | .ok .skip w => G undef w
  | .ok (.enter f args) w => Calls P f args w fun e w' => ∃ u, e = .returned u ∧ G u w'
  | .ok (.row row args) w => Rows P row args w G
  | _ => False
theorem Leaves.mono {G G' : Value → World → Prop} (h : ∀ u w, G u w → G' u w) {r : Result Next} (hh : Leaves P G r) : Leaves P G' r := by
  cases r with
  | ok n w' =>
    cases n <;> simp only [Leaves] at hh ⊢
    case value u => exact h _ _ hh
    case skip => exact h _ _ hh
    case enter f args => exact hh.mono fun _ _ ⟨u, he, hg⟩ => ⟨u, he, h _ _ hg⟩
    case row row args => exact Rows.mono hh fun _ _ hg => h _ _ hg
  | halt x w' => simp only [Leaves] at hh
theorem Leaves.wp {o : Oper} {a : Act} {w : World} {G : Value → World → Prop} {K : Act → World → Prop} {Q : Exit → Act → World → Prop} (h : Leaves P G ((execOp a.eval o).run P w))
    (hk : ∀ u w', G u w' → K (a.put o.dst u) w') : o.wp P a w K Q := by
  unfold Oper.wp
  generalize (execOp a.eval o).run P w = r at h
  cases r with
  | ok n w' =>
    cases n <;> simp only [Leaves] at h <;> simp only [Oper.upon]
    case value u => exact hk _ _ h
    case skip => exact hk _ _ h
    case enter f args => exact h.mono fun e w'' ⟨u, he, hg⟩ => by subst he; exact hk _ _ hg
    case row row args => exact Rows.mono h fun _ _ hg => hk _ _ hg
  | halt x w' => simp only [Leaves] at h

/-- Whatever has been called before it, the operation yields v; if d holds, it sets the flag. -/
def Det (P : Program) (ops : Array Oper) (B : Bool → World → Prop) (St : World → World → Prop) (o : Oper) (v : Value) (d : Bool) (a : Act) : Prop :=
  (Region.wanted o (yielded ops a.tmps) = true ∧ ∀ b w, B b w → Leaves P (fun u w' => a.put o.dst u = a.put o.dst v ∧ St w w' ∧ B (b || d) w') ((execOp a.eval o).run P w)) ∨
  (Region.wanted o (yielded ops a.tmps) = false ∧ v = undef ∧ d = false)
/-- Operation number i comes up. -/
def relOp (P : Program) (ops : Array Oper) (B : Bool → World → Prop) (X : σ → World → Prop) (i : Nat) (K : Act → σ → Bool → Prop) (a : Act) (s : σ) (e : Bool) : Prop :=
  match ops[i]? with
  | none => K a s e
  | some o => if Region.wanted o (yielded ops a.tmps) = true then
      ∃ (d : Bool) (R : Value → σ → Prop), (∀ b w, B b w → X s w → Leaves P (fun u w' => B (b || d) w' ∧ ∃ s', R u s' ∧ X s' w') ((execOp a.eval o).run P w)) ∧ ∀ u s', R u s' → K (a.put o.dst u) s' (e || d)
    else K (a.put o.dst undef) s e
/-- Whatever order is picked from here on, among the first n operations. -/
def wpT (P : Program) (md : Region.Mode) (ops : Array Oper) (B : Bool → World → Prop) (X : σ → World → Prop) (n : Nat) (L : Array Bool → Act → σ → Bool → Prop) : Nat → Array Bool → Act → σ → Bool → Prop
  | 0, listed, a, s, e => L listed a s e
  | f + 1, listed, a, s, e => Region.ready md ops listed ≠ [] ∧ ∀ i ∈ Region.ready md ops listed, i < n ∧ relOp P ops B X i (wpT P md ops B X n L f (listed.setIfInBounds i true)) a s e

variable {B : Bool → World → Prop} {St : World → World → Prop} {X : σ → World → Prop}
theorem wpOp_of_rel {i : Nat} {K : Act → σ → Bool → Prop} {K' : Act → World → Prop} {Q : Exit → Act → World → Prop} {a : Act} {s : σ} {e : Bool} {w : World} (hb : B e w) (hx : X s w)
    (h : ∀ a' s' e' w', B e' w' → X s' w' → K a' s' e' → K' a' w') (hh : relOp P ops B X i K a s e) : wpOp P ops Q i K' a w := by
  unfold relOp at hh
  unfold wpOp
  split
  · rename_i h0; simp only [h0] at hh; exact h _ _ _ _ hb hx hh
  · rename_i o ho
    simp only [ho] at hh
    split
    · rename_i hw
      simp only [hw, if_true] at hh
      obtain ⟨d, R, h1, h2⟩ := hh
      refine .inl ((h1 e w hb hx).wp ?_)
      rintro u w' ⟨hb', s', hR, hx'⟩
      exact h _ _ _ _ hb' hx' (h2 u s' hR)
    · rename_i hw
      simp only [hw] at hh
      exact h _ _ _ _ hb hx hh
theorem wpAny_of_T {n g : Nat} {L : Array Bool → Act → σ → Bool → Prop} {Q' : Exit → Act → World → Prop} (hL : ∀ listed a s e w, L listed a s e → B e w → X s w → wpAny P md ops Q' g listed a w) :
    ∀ (f : Nat) (listed : Array Bool) (a : Act) (s : σ) (e : Bool) (w : World), B e w → X s w → wpT P md ops B X n L f listed a s e → wpAny P md ops Q' (f + g) listed a w
  | 0, listed, a, s, e, w, hb, hx, h => by rw [Nat.zero_add]; exact hL _ _ _ _ _ h hb hx
  | f + 1, listed, a, s, e, w, hb, hx, h => by
    rw [show f + 1 + g = (f + g) + 1 by omega]
    exact ⟨fun h0 => absurd h0 h.1, fun i hi => wpOp_of_rel hb hx (fun a' s' e' w' hb' hx' hk => wpAny_of_T hL f _ a' s' e' w' hb' hx' hk) (h.2 i hi).2⟩
theorem Det.put {o : Oper} {v u : Value} {d : Bool} {a : Act} {t : Option Tmp} (hs : ∀ cs b, o.op ≠ .select cs b) (hl : ∀ d, t = some d → d ∉ o.looksAt ops) (hd : ∀ d, o.dst = some d → t ≠ some d) (hy : Det P ops B St o v d a) :
    Det P ops B St o v d (a.put t u) := by
  unfold Det at *
  rw [execOp_put o hs a t u hl, wanted_put o a t u hl]
  rcases hy with ⟨h1, h2⟩ | h1
  · refine .inl ⟨h1, fun b w hb => (h2 b w hb).mono ?_⟩
    rintro u' w' ⟨he, h3⟩
    exact ⟨by rw [← Act.put_comm a u' u hd, ← Act.put_comm a v u hd, he], h3⟩
  · exact .inr h1
theorem Det.rel (hX : ∀ s w w', St w w' → X s w → X s w') {i : Nat} {o : Oper} {v : Value} {d : Bool} {a : Act} {s : σ} {e : Bool} {K : Act → σ → Bool → Prop} (hi : ops[i]? = some o) (hy : Det P ops B St o v d a) (h : K (a.put o.dst v) s (e || d)) :
    relOp P ops B X i K a s e := by
  unfold relOp
  simp only [hi]
  rcases hy with ⟨hw, hv⟩ | ⟨hw, rfl, rfl⟩
  · simp only [hw, if_true]
    refine ⟨d, fun u s' => a.put o.dst u = a.put o.dst v ∧ s' = s, fun b w hb hx => (hv b w hb).mono ?_, ?_⟩
    · rintro u w' ⟨he, h1, h2⟩
      exact ⟨h2, s, ⟨he, rfl⟩, hX _ _ _ h1 hx⟩
    · rintro u s' ⟨he, rfl⟩
      rw [he]
      exact h
  · simp only [hw, Bool.false_eq_true, if_false]
    rwa [Bool.or_false] at h
/-- An operation of one value may be taken first. -/
theorem wpT_first (hX : ∀ s w w', St w w' → X s w → X s w') {n i : Nat} {oi : Oper} {v : Value} {d : Bool} {L : Array Bool → Act → σ → Bool → Prop} (hi : ops[i]? = some oi) (hsel : ∀ (j : Nat) (o : Oper) cs b, ops[j]? = some o → o.op ≠ .select cs b)
    (hin : i < n) (hT : ∀ listed, HeadInv md ops n listed → listed.getD i true = false → ∀ j ∈ Region.ready md ops listed, j < n) (hdone : ∀ listed a s e, L listed a s e → ∀ j ∈ Region.ready md ops listed, n ≤ j) :
    ∀ (f : Nat) (listed : Array Bool) (a : Act) (s : σ) (e : Bool), HeadInv md ops n listed →
      (∀ j oj, ops[j]? = some oj → j ≠ i → listed.getD j true = false → (∀ e ∈ oj.after, Region.binds md e = true → e.on ≠ i) → oi.apart ops oj = true) →
      i ∈ Region.ready md ops listed → Det P ops B St oi v d a →
      wpT P md ops B X n L f (listed.setIfInBounds i true) (a.put oi.dst v) s (e || d) → wpT P md ops B X n L (f + 1) listed a s e := by
  intro f
  induction f with
  | zero =>
    intro listed a s e inv _ hr hy H
    have hun := (mem_ready.1 hr).1
    refine ⟨fun h => (by rw [h] at hr; cases hr), fun j hj => ?_⟩
    have hjn := hT listed inv hun j hj
    refine ⟨hjn, ?_⟩
    by_cases hji : j = i
    · subst hji; exact hy.rel hX hi H
    · have := hdone _ _ _ _ H j (ready_mono hj hji)
      omega
  | succ f ih =>
    intro listed a s e inv hfree hr hy H
    have hun := (mem_ready.1 hr).1
    refine ⟨fun h => (by rw [h] at hr; cases hr), fun j hj => ?_⟩
    have hjn := hT listed inv hun j hj
    refine ⟨hjn, ?_⟩
    by_cases hji : j = i
    · subst hji; exact hy.rel hX hi H
    have h1 := (H.2 j (ready_mono hj hji)).2
    obtain ⟨hjun, oj, hoj, hall⟩ := mem_ready.1 hj
    have hnot : ∀ g ∈ oj.after, Region.binds md g = true → g.on ≠ i := fun g hg hb heq => by
      have h2 := hall g hg hb
      rw [heq, getD_both hun] at h2
      cases h2
    obtain ⟨p1, p2, p3⟩ := Oper.apart_spec (hfree j oj hoj hji hjun hnot)
    have hfree' : ∀ k ok, ops[k]? = some ok → k ≠ i → (listed.setIfInBounds j true).getD k true = false → (∀ g ∈ ok.after, Region.binds md g = true → g.on ≠ i) → oi.apart ops ok = true := fun k ok hk hki hun hno => by
      refine hfree k ok hk hki ?_ hno
      by_cases hjk : j = k
      · subst hjk; exact hjun
      · rw [getD_set_ne true hjk] at hun; exact hun
    have next : ∀ (u : Value) (s' : σ) (e' : Bool), wpT P md ops B X n L f ((listed.setIfInBounds i true).setIfInBounds j true) ((a.put oi.dst v).put oj.dst u) s' (e' || d) →
        wpT P md ops B X n L (f + 1) (listed.setIfInBounds j true) (a.put oj.dst u) s' e' := fun u s' e' hh => by
      refine ih _ _ s' e' (inv.set hj hjn) hfree' (ready_mono hr (Ne.symm hji)) (hy.put (fun cs b => hsel i oi cs b hi) p3 p2) ?_
      rw [Array.setIfInBounds_comm _ _ hji, ← Act.put_comm a v u p2]
      exact hh
    unfold relOp at h1 ⊢
    simp only [hoj] at h1 ⊢
    rw [wanted_put oj a oi.dst v p1] at h1
    split
    · rename_i hw
      simp only [hw, if_true] at h1
      obtain ⟨dj, R, h2, h3⟩ := h1
      rw [execOp_put oj (fun cs b => hsel j oj cs b hoj) a oi.dst v p1] at h2
      refine ⟨dj, R, h2, fun u s' hR => next u s' _ ?_⟩
      have := h3 u s' hR
      rwa [Bool.or_assoc, Bool.or_comm d dj, ← Bool.or_assoc] at this
    · rename_i hw
      simp only [hw] at h1
      exact next _ s e h1

/-- The first n operations in the order of the text, each of one value. -/
def lexDet (P : Program) (ops : Array Oper) (B : Bool → World → Prop) (St : World → World → Prop) (Q : List Oper → Act → Bool → Prop) : Nat → List Oper → Act → Bool → Prop
  | 0, l, a, e => Q l a e
  | _ + 1, [], _, _ => False
  | n + 1, o :: rest, a, e => ∃ v d, Det P ops B St o v d a ∧ lexDet P ops B St Q n rest (a.put o.dst v) (e || d)
section
variable {Q : List Oper → Act → Bool → Prop} {o : Oper} {n : Nat} {rest : List Oper} {a a' : Act} {e : Bool}
theorem lexDet_zero {l : List Oper} (h : Q l a e) : lexDet P ops B St Q 0 l a e := h
theorem lexDet_skip (hw : Region.wanted o (yielded ops a.tmps) = false) (ha : a.put o.dst undef = a') (h : lexDet P ops B St Q n rest a' e) : lexDet P ops B St Q (n + 1) (o :: rest) a e :=
  ⟨undef, false, .inr ⟨hw, rfl, rfl⟩, by rw [ha, Bool.or_false]; exact h⟩
theorem put_defers_eq (a : Act) (t : Option Tmp) (v : Value) : (a.put t v).defers = a.defers := by cases t <;> rfl
theorem Leaves.of_wp {w : World} {G : Act → World → Prop} (h : o.wp P a w (fun a2 w' => a2 = a' ∧ G a2 w') (fun _ _ _ => False)) (v : Value) (ha : a.put o.dst v = a') :
    Leaves P (fun u w' => a.put o.dst u = a.put o.dst v ∧ G a' w') ((execOp a.eval o).run P w) := by
  unfold Oper.wp at h
  generalize (execOp a.eval o).run P w = r at h ⊢
  cases r with
  | ok n w' =>
    cases n <;> simp only [Oper.upon] at h <;> simp only [Leaves]
    case value u => exact ⟨by rw [ha]; exact h.1, by rw [← h.1]; exact h.2⟩
    case skip => exact ⟨by rw [ha]; exact h.1, by rw [← h.1]; exact h.2⟩
    case defer d =>
      have := congrArg (fun x => x.defers.length) (h.1.trans ha.symm)
      simp only [put_defers_eq, List.length_cons] at this
      omega
    case enter f args =>
      refine h.mono fun e w'' he => ?_
      cases e with
      | returned u => exact ⟨u, rfl, by rw [ha]; exact he.1, by rw [← he.1]; exact he.2⟩
      | panicked c => exact he.elim
      | outgrown => obtain ⟨_, _, hf⟩ := he; exact hf.elim
    case row row args => exact Rows.mono h fun u w'' he => ⟨by rw [ha]; exact he.1, by rw [← he.1]; exact he.2⟩
  | halt x w' => cases x <;> simp only [Oper.upon] at h
/-- A step: it is walked in every world of the class, as a list of one operation. -/
theorem lexDet_step {d : Bool} (hw : Region.wanted o (yielded ops a.tmps) = true) (hr : ∀ b w, B b w → ∀ Q1 : Exit → Act → World → Prop, (∀ w', St w w' → B (b || d) w' → Q1 .normal a' w') → wpList P ops Q1 [o] a w)
    (ha : ∃ v, a.put o.dst v = a') (h : lexDet P ops B St Q n rest a' (e || d)) : lexDet P ops B St Q (n + 1) (o :: rest) a e := by
  obtain ⟨v, ha⟩ := ha
  refine ⟨v, d, .inl ⟨hw, fun b w hb => ?_⟩, by rw [ha]; exact h⟩
  have h1 := hr b w hb (fun x a2 w' => match x with | .normal => a2 = a' ∧ St w w' ∧ B (b || d) w' | _ => False) (fun w' h1 h' => ⟨rfl, h1, h'⟩)
  unfold wpList at h1
  rw [if_pos hw] at h1
  rcases h1 with h1 | ⟨_, _, _, hf⟩
  · have h2 : o.wp P a w (fun a2 w' => a2 = a' ∧ St w w' ∧ B (b || d) w') (fun _ _ _ => False) := by
      unfold Oper.wp at h1 ⊢
      generalize (execOp a.eval o).run P w = r at h1 ⊢
      cases r with
      | ok n w' =>
        cases n <;> simp only [Oper.upon] at h1 ⊢
        case value u => exact h1
        case skip => exact h1
        case defer d => exact h1
        case enter f args =>
          refine h1.mono fun e w'' he => ?_
          cases e with
          | returned u => exact he
          | panicked c => exact he
          | outgrown => obtain ⟨_, _, hf⟩ := he; exact hf.elim
        case row row args => exact h1
      | halt x w' => cases x <;> simp only [Oper.upon] at h1 ⊢
    exact (Leaves.of_wp (G := fun _ w' => St w w' ∧ B (b || d) w') h2 v ha).mono fun u w' hh => hh
  · exact hf.elim
/-- .. that leaves the flag alone. -/
theorem lexDet_pure (hw : Region.wanted o (yielded ops a.tmps) = true) (hr : ∀ b w, B b w → ∀ Q1 : Exit → Act → World → Prop, (∀ w', St w w' → B b w' → Q1 .normal a' w') → wpList P ops Q1 [o] a w)
    (ha : ∃ v, a.put o.dst v = a') (h : lexDet P ops B St Q n rest a' e) : lexDet P ops B St Q (n + 1) (o :: rest) a e :=
  lexDet_step (d := false) hw (fun b w hb Q1 hq => hr b w hb Q1 (fun w' h1 h' => hq w' h1 (by rwa [Bool.or_false]))) ha (by rwa [Bool.or_false])
end
theorem wpT_lex {n g : Nat} {Lq : Act → Bool → Prop} (hsel : Region.noSelect ops = true) (hT : ∀ i, i < n → ∀ listed, HeadInv md ops n listed → listed.getD i true = false → ∀ j ∈ Region.ready md ops listed, j < n)
    (hg : ∀ listed, Region.seqB md ops g n listed = true → ∀ j ∈ Region.ready md ops listed, n ≤ j) {tl : List Oper} :
    ∀ (m : Nat) (l : List Oper) (k : Nat) (listed : Array Bool) (a : Act) (e : Bool), (∀ j, l[j]? = ops[k + j]?) → k + m = n → l.drop m = tl → HeadInv md ops n listed →
    Region.lexHead md ops g m k listed = true → lexDet P ops B St (fun l' a e => l' = tl → Lq a e) m l a e →
    wpT P md ops B (fun (_ : Unit) _ => True) n (fun listed' a' _ e' => Region.seqB md ops g n listed' = true ∧ Lq a' e') m listed a () e
  | 0, l, k, listed, a, e, _, hk, ht, _, hB, h => by
    have : k = n := by simpa using hk
    subst this
    exact ⟨by simpa [Region.lexHead] using hB, h (by simpa using ht)⟩
  | m + 1, [], _, _, _, _, _, _, _, _, _, h => h.elim
  | m + 1, o :: l, k, listed, a, e, hl, hk, ht, inv, hB, h => by
    have h0 : ops[k]? = some o := by simpa using (hl 0).symm
    simp only [Region.lexHead, Bool.and_eq_true] at hB
    obtain ⟨⟨hr, hf⟩, hB'⟩ := hB
    have hkn : k < n := by omega
    have hr' : k ∈ Region.ready md ops listed := by simpa using hr
    obtain ⟨v, d, hy, hK⟩ := h
    exact wpT_first (fun _ _ _ _ h => h) h0 (Region.noSelect_spec hsel) hkn (hT k hkn) (fun listed' a' _ e' hL => hg listed' hL.1) m listed a () e inv (Region.free_spec h0 hf) hr' hy
      (wpT_lex hsel hT hg m l (k + 1) _ _ _ (fun j => by have := hl (j + 1); simpa [Nat.add_assoc, Nat.add_comm 1 j] using this) (by omega) (by simpa using ht) (inv.set hr' hkn) hB' hK)
/-- One walk of the order of the text serves all orders of the first n operations; the others follow in their order. -/
theorem wp_region_det {id : Nat} {Q : Exit → Act → World → Prop} {a : Act} {w : World} {l : List Oper} (n : Nat) (e : Bool) (hm : P.follows .mixedOrders = true) (hB : Region.lexTailB .any l.toArray n = true) (hb : B e { w with drawn := w.drawn + 1 })
    (h : lexDet P l.toArray B St (fun l' a e => ∀ w, B e w → wpList P l.toArray Q l' a w) n l a e) : (Code.region id l.toArray true).wp P Q a w := by
  simp only [Region.lexTailB, Bool.and_eq_true, decide_eq_true_eq] at hB
  obtain ⟨⟨⟨⟨hsel, hn⟩, hs⟩, hc⟩, hlex⟩ := hB
  have hdl : (l.drop n).length = l.toArray.size - n := by simp
  have inv0 : HeadInv .any l.toArray n (Array.replicate l.toArray.size false) :=
    ⟨by simp, fun j oj _ hl => (by rw [getD_replicate_false] at hl; cases hl), fun t _ ht => getD_in (by simpa using ht) (getD_replicate_false _ _)⟩
  have hw : ∀ (m : Nat) (l' : List Oper) (a : Act) (e : Bool), lexDet P l.toArray B St (fun l' a e => ∀ w, B e w → wpList P l.toArray Q l' a w) m l' a e → lexDet P l.toArray B St (fun l' a e => l' = l.drop n → ∀ w, B e w → wpList P l.toArray Q (l.drop n) a w) m l' a e := by
    intro m
    induction m with
    | zero => intro l' a e h; exact fun h' => h' ▸ h
    | succ m ih =>
      intro l' a e h
      cases l' with
      | nil => exact h
      | cons o r => obtain ⟨v, d, h1, h2⟩ := h; exact ⟨v, d, h1, ih _ _ _ h2⟩
  have H := wpT_lex (md := .any) (g := l.toArray.size - n) (Lq := fun a e => ∀ w, B e w → wpList P l.toArray Q (l.drop n) a w) (tl := l.drop n) hsel
    (fun i hi listed inv hun j hj => by
      rcases Nat.lt_or_ge j n with h | h
      · exact h
      · exact absurd hj (tail_waits hs hc hn inv _ i rfl hi hun j h))
    (fun listed h => seqB_ready h) n l 0 _ a e (by simp) (by simp) rfl inv0 hlex (hw n l a e h)
  refine wp_region_any hm ?_
  have := wpAny_of_T (Q' := Q) (g := l.toArray.size - n) (fun listed a' s e' w' hL hb' _ => by
    have := wpAny_of_seq (md := .any) (Q' := Q) (l.drop n) n listed a' w' (fun j => by simp) (by rw [hdl]; exact hL.1) (hL.2 w' hb')
    rwa [hdl] at this) n _ a () e _ hb trivial H
  rwa [show n + (l.toArray.size - n) = l.toArray.size by omega] at this
/-- .. of all operations. -/
theorem wp_region_all {id : Nat} {Q : Exit → Act → World → Prop} {a : Act} {w : World} {l : List Oper} (e : Bool) (hm : P.follows .mixedOrders = true) (hB : Region.lexB .any l.toArray = true) (hb : B e { w with drawn := w.drawn + 1 })
    (h : lexDet P l.toArray B St (fun l' a e => ∀ w, B e w → wpList P l.toArray Q l' a w) l.length l a e) : (Code.region id l.toArray true).wp P Q a w := by
  simp only [Region.lexB, Bool.and_eq_true] at hB
  have hx : ∀ (f k : Nat) (listed : Array Bool), Region.lexFrom .any l.toArray f k listed = true → Region.lexHead .any l.toArray 0 f k listed = true := by
    intro f
    induction f with
    | zero => intro k listed h; simpa [Region.lexHead, Region.seqB, Region.lexFrom] using h
    | succ f ih =>
      intro k listed h
      simp only [Region.lexFrom, Bool.and_eq_true] at h
      simp only [Region.lexHead, Bool.and_eq_true]
      exact ⟨h.1, ih _ _ h.2⟩
  have inv0 : HeadInv .any l.toArray l.length (Array.replicate l.toArray.size false) :=
    ⟨by simp, fun j oj _ hl => (by rw [getD_replicate_false] at hl; cases hl), fun t _ ht => getD_in (by simpa using ht) (getD_replicate_false _ _)⟩
  have hw : ∀ (m : Nat) (l' : List Oper) (a : Act) (e : Bool), lexDet P l.toArray B St (fun l' a e => ∀ w, B e w → wpList P l.toArray Q l' a w) m l' a e → lexDet P l.toArray B St (fun l' a e => l' = [] → ∀ w, B e w → wpList P l.toArray Q [] a w) m l' a e := by
    intro m
    induction m with
    | zero => intro l' a e h; exact fun h' => h' ▸ h
    | succ m ih =>
      intro l' a e h
      cases l' with
      | nil => exact h
      | cons o r => obtain ⟨v, d, h1, h2⟩ := h; exact ⟨v, d, h1, ih _ _ _ h2⟩
  have H := wpT_lex (md := .any) (g := 0) (n := l.length) (Lq := fun a e => ∀ w, B e w → wpList P l.toArray Q [] a w) (tl := []) hB.1
    (fun i hi listed inv hun j hj => by
      obtain ⟨_, oj, hoj, _⟩ := mem_ready.1 hj
      simpa using (Array.getElem?_eq_some_iff.1 hoj).1)
    (fun listed h => seqB_ready h) l.length l 0 _ a e (by simp) (by simp) (by simp) inv0 (hx _ _ _ (by simpa using hB.2)) (hw _ l a e h)
  refine wp_region_any hm ?_
  have := wpAny_of_T (Q' := Q) (g := 0) (fun listed a' s e' w' hL hb' _ => by
    exact wpAny_of_seq (md := .any) (Q' := Q) [] l.length listed a' w' (fun j => by simp) hL.1 (hL.2 w' hb')) l.length _ a () e _ hb trivial H
  simpa using this

/-- The operations behind the first n: each is the only one that may come up, or hands on what lies in a slot. -/
def worldless (o : Oper) : Bool := match o.op with | .move _ | .assign _ | .extract _ _ => true | _ => false
theorem worldless_run {o : Oper} {a : Act} {K : Act → World → Prop} {Q : Exit → Act → World → Prop} {w : World} (h : worldless o = true) (hh : o.wp P a w K Q ∨ (o.asks P a w ∧ LetsOut Q)) :
    ∃ v, (∀ w', (execOp a.eval o).run P w' = .ok (.value v) w') ∧ K (a.put o.dst v) w := by
  obtain ⟨dst, op, type, pos, after, guard⟩ := o
  cases op <;> simp only [worldless, Bool.false_eq_true] at h
  case move x =>
    refine ⟨a.eval x, fun w' => rfl, ?_⟩
    rcases hh with hh | hh
    · exact hh
    · exact absurd hh.1.1 (by show ¬ noRoomEvent ∈ (#[] : Array _); simp)
  case assign x =>
    refine ⟨a.eval x, fun w' => rfl, ?_⟩
    rcases hh with hh | hh
    · exact hh
    · exact absurd hh.1.1 (by show ¬ noRoomEvent ∈ (#[] : Array _); simp)
  case extract x ix =>
    unfold Oper.wp Oper.asks execOp at hh
    unfold execOp
    simp only [Instr.extract] at hh ⊢
    generalize a.eval x = u at hh ⊢
    cases u
    case tuple vs =>
      simp only at hh ⊢
      cases hv : vs[ix]? with
      | some v =>
        simp only [hv] at hh
        refine ⟨v, fun w' => rfl, ?_⟩
        rcases hh with hh | hh
        · exact hh
        · exact absurd hh.1.1 (by show ¬ noRoomEvent ∈ (#[] : Array _); simp)
      | none =>
        simp only [hv] at hh
        rcases hh with hh | hh
        · exact hh.elim
        · exact absurd hh.1.1 (by show ¬ noRoomEvent ∈ (#[] : Array _); simp)
    all_goals
      simp only at hh
      rcases hh with hh | hh
      · exact hh.elim
      · exact absurd hh.1.1 (by show ¬ noRoomEvent ∈ (#[] : Array _); simp)
def endB (md : Region.Mode) (ops : Array Oper) : List Oper → Nat → Array Bool → Bool
  | [], _, listed => (Region.ready md ops listed).isEmpty
  | o :: l, k, listed => (decide (Region.ready md ops listed = [k]) || (worldless o && o.guard.isNone && (Region.ready md ops listed).contains k && Region.free md ops listed k)) && endB md ops l (k + 1) (listed.setIfInBounds k true)
theorem wpAny_of_end {Q' : Exit → Act → World → Prop} (hs : Region.noSelect ops = true) (hQ : ∀ c a (d : Tmp) v w, Q' (.panic c) (a.put (some d) v) w → Q' (.panic c) a w) : ∀ (l : List Oper) (k : Nat) (listed : Array Bool) (a : Act) (w : World), (∀ j, l[j]? = ops[k + j]?) →
    endB md ops l k listed = true → wpList P ops Q' l a w → wpAny P md ops Q' l.length listed a w
  | [], _, _, _, _, _, hB, h => ⟨by simpa [endB] using hB, h⟩
  | o :: l, k, listed, a, w, hl, hB, h => by
    have h0 : ops[k]? = some o := by simpa using (hl 0).symm
    have hl' : ∀ j, l[j]? = ops[k + 1 + j]? := fun j => by have := hl (j + 1); simpa [Nat.add_assoc, Nat.add_comm 1 j] using this
    simp only [endB, Bool.and_eq_true, Bool.or_eq_true, decide_eq_true_eq] at hB
    obtain ⟨hB | ⟨⟨⟨h1, h2⟩, h3⟩, h4⟩, hB'⟩ := hB
    · refine ⟨fun h1 => (by rw [hB] at h1; cases h1), fun i hi => ?_⟩
      rw [hB] at hi
      have hik : i = k := by simpa using hi
      subst hik
      have hw : wpOp P ops Q' i (wpList P ops Q' l) a w := by unfold wpOp; simp only [h0]; exact h
      exact wpOp_mono (fun a' w' h' => wpAny_of_end hs hQ l (i + 1) _ a' w' hl' hB' h') hw
    · have hg : o.guard = none := by simpa using h2
      have hwt : Region.wanted o (yielded ops a.tmps) = true := by simp [Region.wanted, hg]
      unfold wpList at h
      rw [if_pos hwt] at h
      obtain ⟨v, hv, hk⟩ := worldless_run h1 h
      exact wpAny_take h0 hs h4 h3 (fun c a w => by
          cases o.dst with
          | none => exact id
          | some d => exact hQ c a d v w) (.inl ⟨hwt, hv⟩) (wpAny_of_end hs hQ l (k + 1) _ _ _ hl' hB' hk)
theorem waits_head {n : Nat} {listed : Array Bool} (hs : Region.sinkB md ops n = true) (hn : n < ops.size) (inv : HeadInv md ops n listed) :
    ∀ (d i : Nat), n - i = d → i < n → listed.getD i true = false → n ∉ Region.ready md ops listed := by
  intro d
  induction d using Nat.strongRecOn with
  | _ d ih =>
    intro i hd hi hun hr
    obtain ⟨_, ot, hot, hall⟩ := mem_ready.1 hr
    have h1 := List.all_eq_true.1 hs i (List.mem_range.2 hi)
    obtain ⟨j, hj, hj2⟩ := List.any_eq_true.1 h1
    simp only [Bool.and_eq_true, decide_eq_true_eq] at hj2
    obtain ⟨oj, hoj, e, he, hb, hon⟩ := Region.waitsFor_spec hj2.2
    have hjle : j ≤ n := by have := List.mem_range.1 hj; omega
    by_cases hjt : j = n
    · subst hjt
      have : oj = ot := Option.some.inj (hoj.symm.trans hot)
      subst this
      have h2 := hall e he hb
      rw [hon, getD_both hun] at h2
      cases h2
    · cases hl : listed.getD j false with
      | true =>
        have h2 := inv.closed j oj hoj hl e he hb
        rw [hon, getD_both hun] at h2
        cases h2
      | false =>
        have hjs : j < listed.size := by rw [inv.size]; omega
        exact ih (n - j) (by omega) j rfl (by omega) (getD_in hjs hl) hr
/-- Each operation behind number n waits for one from n on. -/
def tailsB (md : Region.Mode) (ops : Array Oper) (n : Nat) : Bool :=
  (List.range ops.size).all fun t => decide (t ≤ n) || (List.range t).any fun j => decide (n ≤ j) && Region.waitsFor md ops t j
theorem tails_wait {n : Nat} {listed : Array Bool} (hc : tailsB md ops n = true) (inv : HeadInv md ops n listed) {t : Nat} (ht : n < t) : t ∉ Region.ready md ops listed := by
  intro hr
  obtain ⟨_, ot, hot, hall⟩ := mem_ready.1 hr
  have htlt : t < ops.size := (Array.getElem?_eq_some_iff.1 hot).1
  have h1 := List.all_eq_true.1 hc t (List.mem_range.2 htlt)
  simp only [Bool.or_eq_true, decide_eq_true_eq] at h1
  rcases h1 with h1 | h1
  · omega
  obtain ⟨j, hj, hj2⟩ := List.any_eq_true.1 h1
  simp only [Bool.and_eq_true, decide_eq_true_eq] at hj2
  obtain ⟨o', ho', e, he, hb, hon⟩ := Region.waitsFor_spec hj2.2
  have : o' = ot := Option.some.inj (ho'.symm.trans hot)
  subst this
  have h2 := hall e he hb
  rw [hon, getD_both (inv.tail j hj2.1 (by have := List.mem_range.1 hj; omega))] at h2
  cases h2
/-- Those of the first n in their order, then the end. -/
def headB (md : Region.Mode) (ops : Array Oper) (l : List Oper) (n : Nat) : Nat → Nat → Array Bool → Bool
  | 0, _, listed => endB md ops l n listed && (Region.ready md ops listed).all (fun j => decide (n ≤ j))
  | f + 1, k, listed => (Region.ready md ops listed).contains k && Region.free md ops listed k && headB md ops l n f (k + 1) (listed.setIfInBounds k true)
def gotB (md : Region.Mode) (l : List Oper) (n : Nat) : Bool :=
  Region.noSelect l.toArray && decide (n < l.length) && Region.sinkB md l.toArray n && tailsB md l.toArray n && headB md l.toArray (l.drop n) n n 0 (Array.replicate l.length false)
theorem wpT_got {n : Nat} {Lq : Act → Bool → Prop} {tl : List Oper} (hsel : Region.noSelect ops = true) (hT : ∀ i, i < n → ∀ listed, HeadInv md ops n listed → listed.getD i true = false → ∀ j ∈ Region.ready md ops listed, j < n) :
    ∀ (m : Nat) (l : List Oper) (k : Nat) (listed : Array Bool) (a : Act) (e : Bool), (∀ j, l[j]? = ops[k + j]?) → k + m = n → l.drop m = tl → HeadInv md ops n listed →
    headB md ops tl n m k listed = true → lexDet P ops B St (fun l' a e => l' = tl → Lq a e) m l a e →
    wpT P md ops B (fun (_ : Unit) _ => True) n (fun listed' a' _ e' => (endB md ops tl n listed' && (Region.ready md ops listed').all (fun j => decide (n ≤ j))) = true ∧ Lq a' e') m listed a () e
  | 0, l, k, listed, a, e, _, hk, ht, _, hB, h => by
    have : k = n := by simpa using hk
    subst this
    exact ⟨by simpa [headB] using hB, h (by simpa using ht)⟩
  | m + 1, [], _, _, _, _, _, _, _, _, _, h => h.elim
  | m + 1, o :: l, k, listed, a, e, hl, hk, ht, inv, hB, h => by
    have h0 : ops[k]? = some o := by simpa using (hl 0).symm
    simp only [headB, Bool.and_eq_true] at hB
    obtain ⟨⟨hr, hf⟩, hB'⟩ := hB
    have hkn : k < n := by omega
    have hr' : k ∈ Region.ready md ops listed := by simpa using hr
    obtain ⟨v, d, hy, hK⟩ := h
    exact wpT_first (fun _ _ _ _ h => h) h0 (Region.noSelect_spec hsel) hkn (hT k hkn) (fun listed' a' _ e' hL j hj => by
        have := hL.1
        simp only [Bool.and_eq_true] at this
        simpa using List.all_eq_true.1 this.2 j hj) m listed a () e inv (Region.free_spec h0 hf) hr' hy
      (wpT_got hsel hT m l (k + 1) _ _ _ (fun j => by have := hl (j + 1); simpa [Nat.add_assoc, Nat.add_comm 1 j] using this) (by omega) (by simpa using ht) (inv.set hr' hkn) (by simpa only [headB, Bool.and_eq_true] using hB') hK)
/-- One walk of the order of the text serves all orders: the first n operations each of one value, the others as they come. -/
theorem wp_region_got {id : Nat} {Q : Exit → Act → World → Prop} {a : Act} {w : World} {l : List Oper} (n : Nat) (e : Bool) (hm : P.follows .mixedOrders = true) (hB : gotB .any l n = true) (hb : B e { w with drawn := w.drawn + 1 })
    (hQ : ∀ c a (d : Tmp) v w, Q (.panic c) (a.put (some d) v) w → Q (.panic c) a w)
    (h : lexDet P l.toArray B St (fun l' a e => ∀ w, B e w → wpList P l.toArray Q l' a w) n l a e) : (Code.region id l.toArray true).wp P Q a w := by
  simp only [gotB, Bool.and_eq_true, decide_eq_true_eq] at hB
  obtain ⟨⟨⟨⟨hsel, hn⟩, hs⟩, hc⟩, hlex⟩ := hB
  have hn' : n < l.toArray.size := by simpa using hn
  have inv0 : HeadInv .any l.toArray n (Array.replicate l.toArray.size false) :=
    ⟨by simp, fun j oj _ hl => (by rw [getD_replicate_false] at hl; cases hl), fun t _ ht => getD_in (by simpa using ht) (getD_replicate_false _ _)⟩
  have hw : ∀ (m : Nat) (l' : List Oper) (a : Act) (e : Bool), lexDet P l.toArray B St (fun l' a e => ∀ w, B e w → wpList P l.toArray Q l' a w) m l' a e → lexDet P l.toArray B St (fun l' a e => l' = l.drop n → ∀ w, B e w → wpList P l.toArray Q (l.drop n) a w) m l' a e := by
    intro m
    induction m with
    | zero => intro l' a e h; exact fun h' => h' ▸ h
    | succ m ih =>
      intro l' a e h
      cases l' with
      | nil => exact h
      | cons o r => obtain ⟨v, d, h1, h2⟩ := h; exact ⟨v, d, h1, ih _ _ _ h2⟩
  have H := wpT_got (md := .any) (Lq := fun a e => ∀ w, B e w → wpList P l.toArray Q (l.drop n) a w) (tl := l.drop n) hsel
    (fun i hi listed inv hun j hj => by
      rcases Nat.lt_trichotomy j n with h | h | h
      · exact h
      · subst h; exact absurd hj (waits_head hs hn' inv _ i rfl hi hun)
      · exact absurd hj (tails_wait hc inv h))
    n l 0 _ a e (by simp) (by simp) rfl inv0 (by simpa using hlex) (hw n l a e h)
  refine wp_region_any hm ?_
  have := wpAny_of_T (Q' := Q) (g := (l.drop n).length) (fun listed a' s e' w' hL hb' _ => by
    have h1 := hL.1
    simp only [Bool.and_eq_true] at h1
    exact wpAny_of_end (md := .any) (Q' := Q) hsel hQ (l.drop n) n listed a' w' (fun j => by simp) h1.1 (hL.2 w' hb')) n _ a () e _ hb trivial H
  rwa [show n + (l.drop n).length = l.toArray.size by simp; omega] at this
end
end Go.Proofs.YtmmjkchjgeklnaaDoor
