/-
  Proved: what functions compute, part 50. No condition.
-/
import Derived.Test.YtmmjkchjgeklnaaGreatDoorK01
set_option linter.unusedSimpArgs false
set_option linter.unusedVariables false
set_option maxRecDepth 20000
set_option maxHeartbeats 8000000
namespace Go.Proofs.YtmmjkchjgeklnaaGreatDoor
section
section
variable {P : Program} {ops : Array Oper} {md : Region.Mode} {σ : Type} {B : Bool → World → Prop} {St : World → World → Prop} {X : σ → World → Prop}
theorem relOp_mono {i : Nat} {K K' : Act → σ → Bool → Prop} {a : Act} {s : σ} {e : Bool} (h : ∀ a s e, K a s e → K' a s e) (hh : Rd P ops B X i K a s e) : Rd P ops B X i K' a s e := by
 unfold Rd at hh ⊢
 split
 ·rename_i h0; simp only [h0] at hh; exact h _ _ _ hh
 ·rename_i o ho
  simp only [ho] at hh
  split
  ·rename_i hw
   simp only [hw, if_true] at hh
   obtain ⟨d, R, h1, h2⟩ := hh
   exact ⟨d, R, h1, fun u s' hR => h _ _ _ (h2 u s' hR)⟩
  ·rename_i hw
   simp only [hw] at hh
   exact h _ _ _ hh
def Nq (P : Program) (ops : Array Oper) (B : Bool → World → Prop) (St : World → World → Prop) (X : σ → World → Prop) (F : Act → σ → Bool → Prop) : List (Nat × Bool) → Act → σ → Bool → Prop
 | [], a, s, e => F a s e
 | (i, true) :: r, a, s, e => Rd P ops B X i (Nq P ops B St X F r) a s e
 | (i, false) :: r, a, s, e => ∃ o, ops[i]? = some o ∧ Wv P ops B St (fun _ a e => Nq P ops B St X F r a s e) 1 [o] a e
def mixB (md : Region.Mode) (ops : Array Oper) : List (Nat × Bool) → Array Bool → Bool
 | [], listed => (Region.ready md ops listed).isEmpty
 | (i, true) :: r, listed => decide (Region.ready md ops listed = [i]) && decide (i < ops.size) && mixB md ops r (listed.setIfInBounds i true)
 | (i, false) :: r, listed => (Region.ready md ops listed).contains i && Region.free md ops listed i && mixB md ops r (listed.setIfInBounds i true)
theorem wpT_mix (hX : ∀ s w w', St w w' → X s w → X s w') (hsel : Region.noSelect ops = true) {F : Act → σ → Bool → Prop} :
  ∀ (ks : List (Nat × Bool)) (listed : Array Bool) (a : Act) (s : σ) (e : Bool), HeadInv md ops ops.size listed → mixB md ops ks listed = true → Nq P ops B St X F ks a s e →
  wpT P md ops B X ops.size (fun listed a s e => (Region.ready md ops listed).isEmpty = true ∧ F a s e) ks.length listed a s e
 | [], _, _, _, _, _, hB, h => ⟨hB, h⟩
 | (i, true) :: r, listed, a, s, e, inv, hB, h => by
  simp only [mixB, Bool.and_eq_true, decide_eq_true_eq] at hB
  refine ⟨by rw [hB.1.1]; simp, fun j hj => ?_⟩
  have hr : i ∈ Region.ready md ops listed := by rw [hB.1.1]; simp
  rw [hB.1.1] at hj
  obtain rfl : j = i := by simpa using hj
  exact ⟨hB.1.2, relOp_mono (fun a s e h' => wpT_mix hX hsel r _ a s e (inv.set hr hB.1.2) hB.2 h') h⟩
 | (i, false) :: r, listed, a, s, e, inv, hB, h => by
  obtain ⟨o, h0, v, d, hy, hK⟩ := h
  simp only [mixB, Bool.and_eq_true] at hB
  obtain ⟨⟨hr, hf⟩, hB'⟩ := hB
  have hkn : i < ops.size := (Array.getElem?_eq_some_iff.1 h0).1
  have hr' : i ∈ Region.ready md ops listed := by simpa using hr
  exact Nl hX h0 (Region.noSelect_spec hsel) hkn (fun listed' _ _ j hj => by
    obtain ⟨_, oj, hoj, _⟩ := mem_ready.1 hj
    exact (Array.getElem?_eq_some_iff.1 hoj).1) (fun listed' a' _ e' hL j hj => by
    have h1 : Region.ready md ops listed' = [] := by simpa using hL.1
    rw [h1] at hj; cases hj) _ listed a s e inv (Region.free_spec h0 hf) hr' hy
   (wpT_mix hX hsel r _ _ s _ (inv.set hr' hkn) hB' hK)
def ordB (md : Region.Mode) (ops : Array Oper) (ks : List (Nat × Bool)) : Bool :=
 Region.noSelect ops && decide (ks.length = ops.size) && mixB md ops ks (Array.replicate ops.size false)
theorem Td {id : Nat} {Q : Exit → Act → World → Prop} {a : Act} {w : World} {l : List Oper} (ks : List (Nat × Bool)) (s : σ) (e : Bool) (hm : P.follows .mixedOrders = true) (hB : ordB .any l.toArray ks = true)
  (hX : ∀ s w w', St w w' → X s w → X s w') (hb : B e { w with drawn := w.drawn + 1 }) (hx : X s { w with drawn := w.drawn + 1 })
  (h : Nq P l.toArray B St X (fun a s e => ∀ w, B e w → X s w → Q .normal a w) ks a s e) : (Code.region id l.toArray true).wp P Q a w := by
 simp only [ordB, Bool.and_eq_true, decide_eq_true_eq] at hB
 have inv0 : HeadInv .any l.toArray l.toArray.size (Array.replicate l.toArray.size false) :=
  ⟨by simp, fun j oj _ hl => (by rw [getD_replicate_false] at hl; cases hl), fun t _ ht => getD_in (by simpa using ht) (getD_replicate_false _ _)⟩
 have H := wpT_mix (md := .any) hX hB.1.1 ks _ a s e inv0 hB.2 h
 refine wp_region_any hm ?_
 have := Rv (Q' := Q) (g := 0) (fun listed a' s e' w' hL hb' hx' => by
  exact ⟨by simpa using hL.1, hL.2 w' hb' hx'⟩) ks.length _ a s e _ hb hx H
 rw [hB.1.2] at this
 simpa using this
theorem Sd {F : Act → σ → Bool → Prop} {i : Nat} {o : Oper} {r : List (Nat × Bool)} {a : Act} {s : σ} {e : Bool} (h0 : ops[i]? = some o) (h : Wv P ops B St (fun _ a e => Nq P ops B St X F r a s e) 1 [o] a e) : Nq P ops B St X F ((i, false) :: r) a s e := ⟨o, h0, h⟩
theorem Tc {F : Act → σ → Bool → Prop} {r : List (Nat × Bool)} {i : Nat} {o : Oper} {a : Act} {s : σ} {e : Bool} (d : Bool) (R : Value → σ → Prop) (hi : ops[i]? = some o) (hw : Region.wanted o (yielded ops a.tmps) = true)
  (hr : ∀ b w, B b w → X s w → ∀ Q1 : Exit → Act → World → Prop, (∀ u s' w', R u s' → B (b || d) w' → X s' w' → Q1 .normal (a.put o.dst u) w') → wpList P ops Q1 [o] a w)
  (h : ∀ u s', R u s' → Nq P ops B St X F r (a.put o.dst u) s' (e || d)) : Nq P ops B St X F ((i, true) :: r) a s e := by
 show Rd P ops B X i _ a s e
 unfold Rd
 simp only [hi, hw, if_true]
 refine ⟨d, fun u s' => ∃ u2, a.put o.dst u = a.put o.dst u2 ∧ R u2 s', fun b w hb hx => ?_, ?_⟩
 ·have h1 := hr b w hb hx (fun x a2 w' => match x with | .normal => ∃ u s', a2 = a.put o.dst u ∧ R u s' ∧ B (b || d) w' ∧ X s' w' | _ => False) (fun u s' w' h1 h2 h3 => ⟨u, s', rfl, h1, h2, h3⟩)
  unfold wpList at h1
  rw [if_pos hw] at h1
  rcases h1 with h1 | ⟨_, _, _, hf⟩
  ·unfold Oper.wp at h1
   generalize (execOp a.eval o).run P w = r at h1 ⊢
   cases r with
   | ok n w' =>
    cases n <;> simp only [Oper.upon] at h1 <;> simp only [Xb]
    case value u =>
     obtain ⟨u2, s', h3, h4, h5, h6⟩ := h1
     exact ⟨h5, s', ⟨u2, h3, h4⟩, h6⟩
    case skip =>
     obtain ⟨u2, s', h3, h4, h5, h6⟩ := h1
     exact ⟨h5, s', ⟨u2, h3, h4⟩, h6⟩
    case defer df =>
     obtain ⟨u2, s', h3, -⟩ := h1
     have := congrArg (fun x => x.defers.length) h3
     simp only [Mx, List.length_cons] at this
     omega
    case enter f args =>
     refine h1.mono fun e w'' he => ?_
     cases e with
     | returned u =>
      obtain ⟨u2, s', h3, h4, h5, h6⟩ := he
      exact ⟨u, rfl, h5, s', ⟨u2, h3, h4⟩, h6⟩
     | panicked c => exact he.elim
     | outgrown => obtain ⟨_, _, hf⟩ := he; exact hf.elim
    case row row args =>
     refine Rows.mono h1 fun u w'' he => ?_
     obtain ⟨u2, s', h3, h4, h5, h6⟩ := he
     exact ⟨h5, s', ⟨u2, h3, h4⟩, h6⟩
   | halt x w' => cases x <;> simp only [Oper.upon] at h1
  ·exact hf.elim
 ·rintro u s' ⟨u2, he, hR⟩
  rw [he]
  exact h u2 s' hR
end
end
end Go.Proofs.YtmmjkchjgeklnaaGreatDoor
