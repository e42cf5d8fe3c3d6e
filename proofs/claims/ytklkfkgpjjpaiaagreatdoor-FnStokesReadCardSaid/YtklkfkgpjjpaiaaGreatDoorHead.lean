/-
  Three closed facts on the program's head. Its words are parted by a lemma, not by running the parting over the whole line: the line names every root of the cut and is long.
-/
import Derived.Test.YtklkfkgpjjpaiaaGreatDoorRows
import Derived.JoinedOf
set_option linter.unusedSimpArgs false
set_option linter.unusedVariables false
namespace Go.Proofs.YtklkfkgpjjpaiaaGreatDoor

theorem words_step (r : List Char) : ∀ w : List Char, w.all (fun c => c != Char.ofNat 32) = true → wordsSigns (w ++ Char.ofNat 32 :: r) = w :: wordsSigns r
  | [], _ => by rw [List.nil_append]; rfl
  | c :: w, h => by
    simp only [List.all_cons, Bool.and_eq_true] at h
    have ih := words_step r w h.2
    have hc : c ≠ Char.ofNat 32 := by simpa using h.1
    rw [List.cons_append]
    rw [wordsSigns.eq_def]
    split
    · rename_i heq; cases heq
    · rename_i r' heq
      injection heq with e1 e2
      exact absurd e1 hc
    · rename_i c' r' _ heq
      injection heq with e1 e2
      subst e1; subst e2
      rw [ih]

def head0 : List Nat := [104, 97, 114, 110, 101, 115, 115]
def head1 : List Nat := [56, 48, 52, 54, 101, 55, 51, 52, 52, 48, 101, 54, 53, 102, 97, 48, 52, 99, 97, 51, 54, 97, 52, 97, 53, 50, 49, 54, 97, 48, 54, 99, 53, 55, 99, 50, 52, 55, 57, 56, 101, 100, 51, 100, 48, 99, 57, 100, 98, 100, 53, 98, 57, 53, 100, 53, 52, 51, 97, 56, 55, 52, 55, 52]
def head2 : List Nat := [99, 117, 116]
def headRest : List Nat := [97, 116, 32, 108, 111, 111, 112, 46, 101, 120, 97, 109, 112, 108, 101, 47, 112, 111, 108, 97, 114, 105, 115, 101, 100, 108, 105, 103, 104, 116, 47, 108, 97, 119, 115, 46, 70, 110, 83, 116, 111, 107, 101, 115, 84, 101, 120, 116, 32, 108, 111, 111, 112, 46, 101, 120, 97, 109, 112, 108, 101, 47, 112, 111, 108, 97, 114, 105, 115, 101, 100, 108, 105, 103, 104, 116, 47, 108, 97, 119, 115, 46, 70, 110, 83, 116, 111, 107, 101, 115, 82, 101, 97, 100]
def signs (l : List Nat) : List Char := l.map Char.ofNat
def headAll : List Char := signs head0 ++ Char.ofNat 32 :: (signs head1 ++ Char.ofNat 32 :: (signs head2 ++ Char.ofNat 32 :: signs headRest))

set_option maxRecDepth 100000 in
theorem head_string : Tryz.prog.initOrder = String.ofList headAll := by kernel_rfl
theorem head_signs : Tryz.prog.initOrder.toList = headAll := (congrArg String.toList head_string).trans String.toList_ofList
theorem head_words : wordsSigns Tryz.prog.initOrder.toList = signs head0 :: signs head1 :: signs head2 :: wordsSigns (signs headRest) := by
  rw [head_signs]
  unfold headAll
  rw [words_step _ _ (by kernel_rfl), words_step _ _ (by kernel_rfl), words_step _ _ (by kernel_rfl)]
theorem head_behind : behindMainWord (wordsSigns Tryz.prog.initOrder.toList) = signs head2 :: wordsSigns (signs headRest) := by
  rw [head_words]
  generalize wordsSigns (signs headRest) = T
  kernel_rfl


theorem make_of (P : Program) (T : List (List Char)) (h : behindMainWord (wordsSigns P.initOrder.toList) = signs head2 :: T) : (P.make == some Make.cut) = true := by
  unfold Program.make
  rw [h]
  rfl
theorem lifts_of (P : Program) (T : List (List Char)) (h : behindMainWord (wordsSigns P.initOrder.toList) = signs head2 :: T) : (false == P.liftsFinal) = true := by
  unfold Program.liftsFinal Program.headLifts
  rw [h]
  rfl
theorem enter_of (P : Program) (T : List (List Char)) (h : behindMainWord (wordsSigns P.initOrder.toList) = signs head2 :: T)
    (h1 : P.laysLater = false) (h2 : P.bearsReflect = false) (h3 : P.doorFits [] = true) : P.mayEnter = true := by
  unfold Program.mayEnter
  rw [h]
  dsimp only
  have e : stripLifts liftWords (signs head2 :: T) = ([], signs head2 :: T) := rfl
  rw [e, h1, h2, h3]
  rfl
theorem head_laysLater : Tryz.prog.laysLater = false := by kernel_rfl
theorem head_bearsReflect : Tryz.prog.bearsReflect = false := by kernel_rfl
theorem head_doorFits : Tryz.prog.doorFits [] = true := by kernel_rfl
theorem head_make : (Tryz.prog.make == some Make.cut) = true := make_of _ _ head_behind
theorem head_lifts : (false == Tryz.prog.liftsFinal) = true := lifts_of _ _ head_behind
theorem head_enter : Tryz.prog.mayEnter = true := enter_of _ _ head_behind head_laysLater head_bearsReflect head_doorFits
theorem joined_of (P : Program) (f : FuncId) (fn : Func) (s : ChangeSpec) (c : OpenClaim)
    (k0 : (c.wf (OpenSpec.ofChange s)) = true)
    (k1 : (laidOutB P) = true)
    (k2 : (mapsRowed P) = true)
    (k3 : (fn.params.all (P.readableRec ·)) = true)
    (k4 : (namedTie P c.named s.vars) = true)
    (k5 : ((c.stops == [])) = true)
    (k6 : ((P.stops == [])) = true)
    (k7 : ((c.knobs == [])) = true)
    (k8 : ((P.stopKnobs == [])) = true)
    (k9 : ((c.inPlace == P.inPlace f)) = true)
    (k10 : ((c.unfollowed == P.unfollowed f)) = true)
    (k11 : ((c.recurses == P.recurses f)) = true)
    (k12 : ((c.named == P.varsNamed f)) = true)
    (k13 : ((c.maps == (fn.params.toList ++ s.plain.varTypes P).any (P.mapsRec ·))) = true)
    (k14 : ((c.ifaces == (fn.params.toList ++ s.plain.varTypes P).any (P.ifacesRec ·))) = true)
    (k15 : ((c.mapsOut == P.mapsAmong fn.resultTypes.toList)) = true)
    (k16 : ((c.loops == (fn.params.toList ++ s.plain.varTypes P).any (P.loopsFrom ·))) = true)
    (k17 : ((c.wideKeys == (fn.params.toList ++ s.plain.varTypes P ++ fn.resultTypes.toList).any (P.wideKeysFrom ·))) = true)
    (k18 : (s.vars.all (P.varReadable ·)) = true)
    (k19 : (fn.resultTypes.all (fun t => P.readableRec t && decide (t < P.types.size))) = true)
    (k20 : ((c.ifacesOut == fn.resultTypes.toList.any (P.ifacesRec ·))) = true)
    (k21 : ((c.loopsOut == fn.resultTypes.toList.any (P.loopsFrom ·))) = true)
    (k22 : ((c.plainKeys == P.plainKeys)) = true)
    (k23 : (c.shortTexts.isNone) = true)
    (k24 : (P.stopsHeard) = true)
    (k25 : (P.mayEnter) = true)
    (k26 : ((c.lifted == P.liftsFinal)) = true)
    (k27 : ((P.make == some c.make)) = true)
    (k28 : c.domain.isEmpty = true) (k28b : (c.kinds == []) = true)
    (k29 : ((c.pinned == c.pinnedBy)) = true)
    (k30 : ((c.veiled == (fn.params.toList ++ s.plain.varTypes P ++ fn.resultTypes.toList).any (P.veiledRec ·))) = true)
    (k31 : (c.veiledFits P fn.params.toList (fn.params.toList ++ s.plain.varTypes P ++ fn.resultTypes.toList)) = true)
    : joinedFacts P f fn s c = true := by
  unfold joinedFacts
  simp only [k0, k1, k2, k3, k4, k5, k6, k7, k8, k9, k10, k11, k12, k13, k14, k15, k16, k17, k18, k19, k20, k21, k22, k23, k24, k25, k26, k27, k28, k28b, if_true, k29, k30, k31, Bool.and_self]
theorem head_k1 : (laidOutB Tryz.prog) = true := by kernel_rfl
theorem head_k2 : (mapsRowed Tryz.prog) = true := by kernel_rfl
theorem head_k6 : ((Tryz.prog.stops == [])) = true := by kernel_rfl
theorem head_k8 : ((Tryz.prog.stopKnobs == [])) = true := by kernel_rfl
theorem head_k24 : (Tryz.prog.stopsHeard) = true := by kernel_rfl
end Go.Proofs.YtklkfkgpjjpaiaaGreatDoor
