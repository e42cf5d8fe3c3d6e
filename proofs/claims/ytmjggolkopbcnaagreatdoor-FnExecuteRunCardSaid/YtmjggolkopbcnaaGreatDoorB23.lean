/-
  Proved: what functions compute, part 23. No condition.
-/
import Derived.Test.YtmjggolkopbcnaaGreatDoorB20
import Derived.Test.YtmjggolkopbcnaaGreatDoorB19
import Derived.Test.YtmjggolkopbcnaaGreatDoorB22
set_option linter.unusedSimpArgs false
set_option linter.unusedVariables false
set_option maxRecDepth 20000
set_option maxHeartbeats 8000000
namespace Go.Proofs.YtmjggolkopbcnaaGreatDoor
section
def pshare (ns : List Int) : Fr := (flow (ns.getD 0 0) 0 (ns.getD 1 0)).1
def Vv (k : UInt8) (ns : List Int) : M4 × Bool :=
 if k = 114 then Zg (ns.getD 0 0) (ns.getD 1 0)
 else if k = 119 then Yp (ns.getD 0 0) (ns.getD 1 0) (ns.getD 2 0)
 else if k = 102 then Xq (ns.getD 0 0) (ns.getD 1 0)
 else if k = 97 then (⟨pshare ns, Fr.nul, Fr.nul, pshare ns⟩, true)
 else (M4.none, false)
def ptab (k : UInt8) (ns : List Int) : List Fr × Bool :=
 if k = 100 then tfade (pshare ns) else if (Vv k ns).2 then tabOf (Vv k ns).1 else (nones 16, false)
def brun : List (UInt8 × List Int) → M4 → M4 × Bool
 | [], v => (v, true)
 | p :: ps, v => if (ptab p.1 p.2).2 && (tapply (ptab p.1 p.2).1 v).2 then brun ps (tapply (ptab p.1 p.2).1 v).1 else (M4.none, false)
def breadOf (l : List UInt8) (v : M4) : M4 × Bool :=
 match Zj l with
 | some ps => if skok v then brun ps v else (M4.none, false)
 | none => (M4.none, false)
end
section
section
variable {σ : Type} (f : UInt8 × List Int → σ → σ × Bool) (z : σ)
def grun : List (UInt8 × List Int) → σ → σ × Bool
 | [], v => (v, true)
 | p :: ps, v => if (f p v).2 then grun ps (f p v).1 else (z, false)
def Wl (ps : List (UInt8 × List Int)) (i : Nat) (v : σ) (ok : Bool) : σ × Bool := if ok then grun f z (ps.drop i) v else (z, false)
theorem grest_end (ps : List (UInt8 × List Int)) (v : σ) (ok : Bool) : Wl f z ps ps.length v ok = if ok then (v, true) else (z, false) := by
 unfold Wl
 rw [List.drop_length]
 rfl
theorem grest_step {ps : List (UInt8 × List Int)} {i : Nat} (hi : i < ps.length) (v : σ) (ok : Bool) {x : σ} {o : Bool} (h : f ps[i] v = (x, o)) :
  Wl f z ps i v ok = Wl f z ps (i + 1) x (ok && o) := by
 unfold Wl
 rcases ok with _ | _
 ·rfl
 ·rw [if_pos rfl, List.drop_eq_getElem_cons hi, grun, h]
  rcases o with _ | _ <;> simp
end
def Un (p : UInt8 × List Int) (a : M4) : M4 × Bool := ((Zl (Vv p.1 p.2).1 a).1, (Vv p.1 p.2).2 && (Zl (Vv p.1 p.2).1 a).2)
def Ov (p : UInt8 × List Int) (v : Fr × Fr) : (Fr × Fr) × Bool := ((Wi (Vv p.1 p.2).1 v.1 v.2).1, (Vv p.1 p.2).2 && (Wi (Vv p.1 p.2).1 v.1 v.2).2)
def Rv : M4 := ⟨Fr.one, Fr.nul, Fr.nul, Fr.one⟩
def Xo (l : List UInt8) : M4 × Bool := match Zj l with
 | some ps => grun Un M4.none ps Rv
 | none => (M4.none, false)
def Wx (l : List UInt8) (x y : Fr) : (Fr × Fr) × Bool := match Zj l with
 | some ps => if x.valid && y.valid then grun Ov (Fr.none, Fr.none) ps (x, y) else ((Fr.none, Fr.none), false)
 | none => ((Fr.none, Fr.none), false)
def mless (a : M4) : Bool := (Zl a (Wz a).1).2 && decide ((Zl a (Wz a).1).1 = Rv)
end
section
def brest (ps : List (UInt8 × List Int)) (i : Nat) (v : M4) (ok : Bool) : M4 × Bool := if ok then brun (ps.drop i) v else (M4.none, false)
theorem Or : ∀ {ws : List (List UInt8)} {ps : List (UInt8 × List Int)}, Yu Zo ws = some ps → ∀ p ∈ ps, Yv p.1 p.2 = true
 | [], ps, h, p, hp => by
  have : ps = [] := by
   have := Xz h
   exact List.length_eq_zero_iff.1 this
  subst this
  cases hp
 | w :: t, ps, h, p, hp => by
  obtain ⟨b, r, h1, h2, rfl⟩ := Ub h
  rcases List.mem_cons.1 hp with rfl | hp
  ·obtain ⟨_, -, -, hv⟩ := Tj (k := p.1) (ns := p.2) h1
   exact hv
  ·exact Or h2 p hp
theorem Sr {l : List UInt8} {ps : List (UInt8 × List Int)} (h : Zj l = some ps) : ∀ p ∈ ps, Yv p.1 p.2 = true := by
 by_cases hne : l = []
 ·subst hne
  rw [benchOf_nil] at h
  injection h with h
  subst h
  intro p hp
  cases hp
 ·exact Or (Ti h hne).1
end
end Go.Proofs.YtmjggolkopbcnaaGreatDoor
