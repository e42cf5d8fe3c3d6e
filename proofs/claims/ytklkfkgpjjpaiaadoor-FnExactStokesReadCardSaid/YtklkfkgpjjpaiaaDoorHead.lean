/-
  Three closed facts on the program's head. Its words are parted by a lemma, not by running the parting over the whole line: the line names every root of the cut and is long.
-/
import Derived.Test.YtklkfkgpjjpaiaaDoorRows
import Derived.JoinedOf
set_option linter.unusedSimpArgs false
set_option linter.unusedVariables false
namespace Go.Proofs.YtklkfkgpjjpaiaaDoor

theorem words_step (r : List Char) : ∀ w : List Char, w.all (fun c => c != Char.ofNat 32) = true → wordsSigns (w ++ Char.ofNat 32 :: r) = w :: wordsSigns r
  | [], _ => by rw [List.nil_append]; rfl
  | c :: w, h => by
    simp only [List.all_cons, Bool.and_eq_true] at h
    have ih := words_step r w h.2
    have hc : c ≠ Char.ofNat 32 := by simpa using h.1
    rw [List.cons_append]
    rw [wordsSigns.eq_def]
    split
    · rename_i heq; cases heq
    · rename_i r' heq
      injection heq with e1 e2
      exact absurd e1 hc
    · rename_i c' r' _ heq
      injection heq with e1 e2
      subst e1; subst e2
      rw [ih]

def head0 : List Nat := [104, 97, 114, 110, 101, 115, 115]
def head1 : List Nat := [50, 100, 97, 98, 57, 49, 50, 100, 52, 102, 55, 51, 50, 98, 100, 101, 54, 57, 101, 98, 99, 102, 56, 54, 102, 50, 56, 99, 102, 48, 51, 51, 54, 99, 48, 98, 102, 49, 54, 55, 50, 50, 55, 98, 101, 51, 57, 102, 102, 99, 57, 97, 55, 99, 54, 52, 98, 98, 51, 56, 97, 50, 101, 51]
def head2 : List Nat := [99, 117, 116]
def headRest : List Nat := [97, 116, 32, 108, 111, 111, 112, 46, 101, 120, 97, 109, 112, 108, 101, 47, 112, 111, 108, 97, 114, 105, 115, 101, 100, 108, 105, 103, 104, 116, 47, 108, 97, 119, 115, 46, 70, 110, 69, 120, 97, 99, 116, 70, 114, 97, 99, 84, 101, 120, 116, 32, 108, 111, 111, 112, 46, 101, 120, 97, 109, 112, 108, 101, 47, 112, 111, 108, 97, 114, 105, 115, 101, 100, 108, 105, 103, 104, 116, 47, 108, 97, 119, 115, 46, 70, 110, 69, 120, 97, 99, 116, 83, 116, 111, 107, 101, 115, 84, 101, 120, 116, 32, 108, 111, 111, 112, 46, 101, 120, 97, 109, 112, 108, 101, 47, 112, 111, 108, 97, 114, 105, 115, 101, 100, 108, 105, 103, 104, 116, 47, 108, 97, 119, 115, 46, 70, 110, 84, 101, 120, 116, 32, 108, 111, 111, 112, 46, 101, 120, 97, 109, 112, 108, 101, 47, 112, 111, 108, 97, 114, 105, 115, 101, 100, 108, 105, 103, 104, 116, 47, 108, 97, 119, 115, 46, 70, 110, 69, 120, 97, 99, 116, 70, 114, 97, 99, 82, 101, 97, 100, 32, 108, 111, 111, 112, 46, 101, 120, 97, 109, 112, 108, 101, 47, 112, 111, 108, 97, 114, 105, 115, 101, 100, 108, 105, 103, 104, 116, 47, 108, 97, 119, 115, 46, 70, 110, 82, 101, 97, 100, 32, 108, 111, 111, 112, 46, 101, 120, 97, 109, 112, 108, 101, 47, 112, 111, 108, 97, 114, 105, 115, 101, 100, 108, 105, 103, 104, 116, 47, 108, 97, 119, 115, 46, 70, 110, 69, 120, 97, 99, 116, 83, 116, 111, 107, 101, 115, 82, 101, 97, 100]
def signs (l : List Nat) : List Char := l.map Char.ofNat
def headAll : List Char := signs head0 ++ Char.ofNat 32 :: (signs head1 ++ Char.ofNat 32 :: (signs head2 ++ Char.ofNat 32 :: signs headRest))

set_option maxRecDepth 100000 in
theorem head_string : Tryd.prog.initOrder = String.ofList headAll := by kernel_rfl
theorem head_signs : Tryd.prog.initOrder.toList = headAll := (congrArg String.toList head_string).trans String.toList_ofList
theorem head_words : wordsSigns Tryd.prog.initOrder.toList = signs head0 :: signs head1 :: signs head2 :: wordsSigns (signs headRest) := by
  rw [head_signs]
  unfold headAll
  rw [words_step _ _ (by kernel_rfl), words_step _ _ (by kernel_rfl), words_step _ _ (by kernel_rfl)]
theorem head_behind : behindMainWord (wordsSigns Tryd.prog.initOrder.toList) = signs head2 :: wordsSigns (signs headRest) := by
  rw [head_words]
  generalize wordsSigns (signs headRest) = T
  kernel_rfl


theorem make_of (P : Program) (T : List (List Char)) (h : behindMainWord (wordsSigns P.initOrder.toList) = signs head2 :: T) : (P.make == some Make.cut) = true := by
  unfold Program.make
  rw [h]
  rfl
theorem lifts_of (P : Program) (T : List (List Char)) (h : behindMainWord (wordsSigns P.initOrder.toList) = signs head2 :: T) : (false == P.liftsFinal) = true := by
  unfold Program.liftsFinal Program.headLifts
  rw [h]
  rfl
theorem enter_of (P : Program) (T : List (List Char)) (h : behindMainWord (wordsSigns P.initOrder.toList) = signs head2 :: T)
    (h1 : P.laysLater = false) (h2 : P.bearsReflect = false) (h3 : P.doorFits [] = true) : P.mayEnter = true := by
  unfold Program.mayEnter
  rw [h]
  dsimp only
  have e : stripLifts liftWords (signs head2 :: T) = ([], signs head2 :: T) := rfl
  rw [e, h1, h2, h3]
  rfl
theorem head_laysLater : Tryd.prog.laysLater = false := by kernel_rfl
theorem head_bearsReflect : Tryd.prog.bearsReflect = false := by kernel_rfl
theorem head_doorFits : Tryd.prog.doorFits [] = true := by kernel_rfl
theorem head_make : (Tryd.prog.make == some Make.cut) = true := make_of _ _ head_behind
theorem head_lifts : (false == Tryd.prog.liftsFinal) = true := lifts_of _ _ head_behind
theorem head_enter : Tryd.prog.mayEnter = true := enter_of _ _ head_behind head_laysLater head_bearsReflect head_doorFits
theorem joined_of (P : Program) (f : FuncId) (fn : Func) (s : ChangeSpec) (c : OpenClaim)
    (k0 : (c.wf (OpenSpec.ofChange s)) = true)
    (k1 : (laidOutB P) = true)
    (k2 : (mapsRowed P) = true)
    (k3 : (fn.params.all (P.readableRec ·)) = true)
    (k4 : (namedTie P c.named s.vars) = true)
    (k5 : ((c.stops == [])) = true)
    (k6 : ((P.stops == [])) = true)
    (k7 : ((c.knobs == [])) = true)
    (k8 : ((P.stopKnobs == [])) = true)
    (k9 : ((c.inPlace == P.inPlace f)) = true)
    (k10 : ((c.unfollowed == P.unfollowed f)) = true)
    (k11 : ((c.recurses == P.recurses f)) = true)
    (k12 : ((c.named == P.varsNamed f)) = true)
    (k13 : ((c.maps == (fn.params.toList ++ s.plain.varTypes P).any (P.mapsRec ·))) = true)
    (k14 : ((c.ifaces == (fn.params.toList ++ s.plain.varTypes P).any (P.ifacesRec ·))) = true)
    (k15 : ((c.mapsOut == P.mapsAmong fn.resultTypes.toList)) = true)
    (k16 : ((c.loops == (fn.params.toList ++ s.plain.varTypes P).any (P.loopsFrom ·))) = true)
    (k17 : ((c.wideKeys == (fn.params.toList ++ s.plain.varTypes P ++ fn.resultTypes.toList).any (P.wideKeysFrom ·))) = true)
    (k18 : (s.vars.all (P.varReadable ·)) = true)
    (k19 : (fn.resultTypes.all (fun t => P.readableRec t && decide (t < P.types.size))) = true)
    (k20 : ((c.ifacesOut == fn.resultTypes.toList.any (P.ifacesRec ·))) = true)
    (k21 : ((c.loopsOut == fn.resultTypes.toList.any (P.loopsFrom ·))) = true)
    (k22 : ((c.plainKeys == P.plainKeys)) = true)
    (k23 : (c.shortTexts.isNone) = true)
    (k24 : (P.stopsHeard) = true)
    (k25 : (P.mayEnter) = true)
    (k26 : ((c.lifted == P.liftsFinal)) = true)
    (k27 : ((P.make == some c.make)) = true)
    (k28 : c.domain.isEmpty = true) (k28b : (c.kinds == []) = true)
    (k29 : ((c.pinned == c.pinnedBy)) = true)
    (k30 : ((c.veiled == (fn.params.toList ++ s.plain.varTypes P ++ fn.resultTypes.toList).any (P.veiledRec ·))) = true)
    (k31 : (c.veiledFits P fn.params.toList (fn.params.toList ++ s.plain.varTypes P ++ fn.resultTypes.toList)) = true)
    : joinedFacts P f fn s c = true := by
  unfold joinedFacts
  simp only [k0, k1, k2, k3, k4, k5, k6, k7, k8, k9, k10, k11, k12, k13, k14, k15, k16, k17, k18, k19, k20, k21, k22, k23, k24, k25, k26, k27, k28, k28b, if_true, k29, k30, k31, Bool.and_self]
theorem head_k1 : (laidOutB Tryd.prog) = true := by kernel_rfl
theorem head_k2 : (mapsRowed Tryd.prog) = true := by kernel_rfl
theorem head_k6 : ((Tryd.prog.stops == [])) = true := by kernel_rfl
theorem head_k8 : ((Tryd.prog.stopKnobs == [])) = true := by kernel_rfl
theorem head_k24 : (Tryd.prog.stopsHeard) = true := by kernel_rfl
end Go.Proofs.YtklkfkgpjjpaiaaDoor
