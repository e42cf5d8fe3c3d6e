/-
  Proved here: the law FnExactStokesRead returns true for every argument, and leaves its arguments as they were. The variables that the row lists read as listed; the card ties them to the text of the program.
-/
import Derived.Test.YtklkfkgpjjpaiaaDoorReadF
import Derived.Test.YtklkfkgpjjpaiaaDoorHead
import Derived.Test.YtklkfkgpjjpaiaaDoorLaidL
import Derived.Test.YtklkfkgpjjpaiaaDoorTie
import Derived.Test.YtklkfkgpjjpaiaaDoorCards
import Derived.SevenTiedAt
import Derived.Lay
import Derived.Test.YtklkfkgpjjpaiaaDoorWFnExactStokesRead
set_option linter.unusedSimpArgs false
set_option linter.unusedVariables false
namespace Go.Proofs.YtklkfkgpjjpaiaaDoor.fnExactStokesRead
open Go.ChangeShapes Go.WideShapes Go.ChangeAt Go.RowKit
open Go.ChangeMaps (open_string shut_string)

/-- A heap that holds just what the row lists meets the condition: closed facts. -/
theorem door_met (os : Os) (args : Array Value) : laidMetH Tryd.prog Rows.fnExactStokesReadRow.laid ((World.laidAll Tryd.prog os Rows.fnExactStokesReadRow.laid).forCall (fun _ _ => 0) ⟨#[], args, []⟩).memory :=
  by rw [MakeChecks.laidMetH_plain _ _ _ (by kernel_rfl)]; exact laidMet_laidAll _ (by kernel_rfl) (by kernel_rfl)

set_option maxRecDepth 100000 in
theorem lifted (os : Os) (started : os.Started) (H : Type) (enc : TypeId × Value → H) :
    ReturnsInHanded {} Tryd.checked os 8 .any (fun w args => (Rows.fnExactStokesReadSpec.pre enc Tryd.prog Tryd.f8 [] false w args ∧ laidMetH Tryd.prog Rows.fnExactStokesReadRow.laid w) ∧ sizedMet enc Tryd.prog Tryd.f8 (OpenSpec.ofChange Rows.fnExactStokesReadSpec) false w args) (Rows.fnExactStokesReadSpec.post enc Tryd.prog Tryd.f8 false true false false) := by
  refine handed_laid (C := Tryd.checked) (X := fun w _ => laidMetH Tryd.prog Rows.fnExactStokesReadRow.laid w) (fun _ _ _ hh h => h.of_heap hh) ownTryd started (by kernel_rfl) Tryd.func8
    (ChangeSpec.witness_shaped (enc := enc) (C := Tryd.checked) (os := os) (X := fun w _ => laidMetH Tryd.prog Rows.fnExactStokesReadRow.laid w) false (World.laidAll Tryd.prog os Rows.fnExactStokesReadRow.laid) #[.string ⟨#[]⟩] 8 rfl (World.shaped_of_ZipB (by kernel_rfl) (by kernel_rfl)) (by kernel_rfl) (by kernel_rfl) (by kernel_rfl) (door_met os _)) ?_
  intro W base args ds gs before hval0 hW hL hsh
  have hval : ∀ (j : Nat) t v, Tryd.f8.params[j]? = some t → args[j]? = some v → Value.okWide Tryd.prog W .any base t v := hval0
  have hW' := hW
  obtain ⟨p, q, hA0, hV, rfl, hfz, hnd⟩ := hW
  have hA : DataW.TrodAll enc Tryd.prog W 0 (fun _ => true) true Tryd.f8.params.toList args.toList ds p := hA0
  rw [Tryd.params8] at hA hval
  obtain ⟨v0, vs0, d0, ds0, p0, q0, hargs, rfl, rfl, h0, r0⟩ := trodAll_cons hA
  obtain ⟨rfl, rfl, rfl⟩ := trodAll_nil r0
  obtain rfl : args = #[v0] := by cases args; simp_all
  obtain ⟨rfl, rfl⟩ := trodVars_none hV
  have lt0 : ∀ x ∈ p0, x.block < W.heap.size := by obtain ⟨m, hm⟩ := h0; exact DataW.trod_lt m _ _ _ hm
  have w0 := read_string (hval 0 9 v0 rfl rfl) h0
  clear hA0 hval0
  have hT := laid_long (show laidMetH Tryd.prog Rows.fnExactFracReadRow.laid W from hL) hsh
  refine (law_FnExactStokesRead v0 W w0 hT).mono fun e W' ⟨he, bel⟩ => ?_
  subst he
  exact ⟨_, rfl, _, _, _, [], _, [], hW', trodAll_mk1 (shut_bool Tryd.underlying4 _), (trodAll_cons_mk (Below.trod laidOutTryd (by kernel_rfl) (of_decide_eq_true (by kernel_rfl)) h0 bel.out lt0) trodAll_mk0), rfl, bel.out.frame _, fun h => by cases h⟩

theorem k0 : (Rows.fnExactStokesReadRow.wf (OpenSpec.ofChange Rows.fnExactStokesReadSpec)) = true := by kernel_rfl
theorem k3 : (Tryd.f8.params.all (Tryd.prog.readableRec ·)) = true := by kernel_rfl
theorem k4 : (namedTie Tryd.prog Rows.fnExactStokesReadRow.named Rows.fnExactStokesReadSpec.vars) = true := by kernel_rfl
theorem k5 : ((Rows.fnExactStokesReadRow.stops == [])) = true := by kernel_rfl
theorem k7 : ((Rows.fnExactStokesReadRow.knobs == [])) = true := by kernel_rfl
theorem k9 : ((Rows.fnExactStokesReadRow.inPlace == Tryd.prog.inPlace 8)) = true := by kernel_rfl
theorem k10 : ((Rows.fnExactStokesReadRow.unfollowed == Tryd.prog.unfollowed 8)) = true := by kernel_rfl
theorem k11 : ((Rows.fnExactStokesReadRow.recurses == Tryd.prog.recurses 8)) = true := by kernel_rfl
theorem k12 : ((Rows.fnExactStokesReadRow.named == Tryd.prog.varsNamed 8)) = true := by kernel_rfl
theorem k13 : ((Rows.fnExactStokesReadRow.maps == (Tryd.f8.params.toList ++ Rows.fnExactStokesReadSpec.plain.varTypes Tryd.prog).any (Tryd.prog.mapsRec ·))) = true := by kernel_rfl
theorem k14 : ((Rows.fnExactStokesReadRow.ifaces == (Tryd.f8.params.toList ++ Rows.fnExactStokesReadSpec.plain.varTypes Tryd.prog).any (Tryd.prog.ifacesRec ·))) = true := by kernel_rfl
theorem k15 : ((Rows.fnExactStokesReadRow.mapsOut == Tryd.prog.mapsAmong Tryd.f8.resultTypes.toList)) = true := by kernel_rfl
theorem k16 : ((Rows.fnExactStokesReadRow.loops == (Tryd.f8.params.toList ++ Rows.fnExactStokesReadSpec.plain.varTypes Tryd.prog).any (Tryd.prog.loopsFrom ·))) = true := by kernel_rfl
theorem k17 : ((Rows.fnExactStokesReadRow.wideKeys == (Tryd.f8.params.toList ++ Rows.fnExactStokesReadSpec.plain.varTypes Tryd.prog ++ Tryd.f8.resultTypes.toList).any (Tryd.prog.wideKeysFrom ·))) = true := by kernel_rfl
theorem k18 : (Rows.fnExactStokesReadSpec.vars.all (Tryd.prog.varReadable ·)) = true := by kernel_rfl
theorem k19 : (Tryd.f8.resultTypes.all (fun t => Tryd.prog.readableRec t && decide (t < Tryd.prog.types.size))) = true := by kernel_rfl
theorem k20 : ((Rows.fnExactStokesReadRow.ifacesOut == Tryd.f8.resultTypes.toList.any (Tryd.prog.ifacesRec ·))) = true := by kernel_rfl
theorem k21 : ((Rows.fnExactStokesReadRow.loopsOut == Tryd.f8.resultTypes.toList.any (Tryd.prog.loopsFrom ·))) = true := by kernel_rfl
theorem k22 : ((Rows.fnExactStokesReadRow.plainKeys == Tryd.prog.plainKeys)) = true := by kernel_rfl
theorem k23 : (Rows.fnExactStokesReadRow.shortTexts.isNone) = true := by kernel_rfl
theorem k28 : Rows.fnExactStokesReadRow.domain.isEmpty = true := by kernel_rfl
theorem k28b : (Rows.fnExactStokesReadRow.kinds == []) = true := by kernel_rfl
theorem k29 : ((Rows.fnExactStokesReadRow.pinned == Rows.fnExactStokesReadRow.pinnedBy)) = true := by kernel_rfl
theorem k30 : ((Rows.fnExactStokesReadRow.veiled == (Tryd.f8.params.toList ++ Rows.fnExactStokesReadSpec.plain.varTypes Tryd.prog ++ Tryd.f8.resultTypes.toList).any (Tryd.prog.veiledRec ·))) = true := by kernel_rfl
theorem k31 : (Rows.fnExactStokesReadRow.veiledFits Tryd.prog Tryd.f8.params.toList (Tryd.f8.params.toList ++ Rows.fnExactStokesReadSpec.plain.varTypes Tryd.prog ++ Tryd.f8.resultTypes.toList)) = true := by kernel_rfl
theorem closed : joinedFacts Tryd.prog 8 Tryd.f8 Rows.fnExactStokesReadSpec Rows.fnExactStokesReadRow = true :=
  joined_of _ _ _ _ _ k0 head_k1 head_k2 k3 k4 k5 head_k6 k7 head_k8 k9 k10 k11 k12 k13 k14 k15 k16 k17 k18 k19 k20 k21 k22 k23 head_k24 head_enter head_lifts head_make k28 k28b k29 k30 k31

theorem over : Rows.fnExactStokesReadRow.holds Tryd.pinned (OpenSpec.ofChange Rows.fnExactStokesReadSpec) :=
  OpenClaim.holds_of_wide 8 Tryd.f8 rfl rfl rfl rfl rfl rfl rfl ⟨rfl, rfl, rfl, rfl, rfl⟩ rfl rfl rfl rfl rfl (by kernel_rfl) Tryd.func8 closed
    (of_decide_eq_true (by kernel_rfl)) (by unfold Func.isWrapper; rw [if_neg (of_decide_eq_false (by kernel_rfl))]; exact ⟨rfl, rfl⟩)
    (fun os started H enc _ => lifted os started H enc)

theorem proved : Rows.FnExactStokesReadCardSaid :=
  Claim7.holds_tied_plain_at .later [] Rows.fnExactStokesReadCard.laidKinds true Rows.fnExactStokesReadCard.stood.harness Rows.fnExactStokesReadCard.stood.looks
    over (fun _ h => by cases h) (by kernel_rfl) (fun _ h => by cases h) fnExactStokesRead_row_tie rfl ⟨rfl, rfl⟩ (by kernel_rfl) rfl
    (fun f fn hf hfn => by
      obtain rfl : f = 8 := Option.some.inj ((show Tryd.prog.funcNamed Rows.fnExactStokesReadRow.func = some 8 by kernel_rfl).symm.trans hf) |>.symm
      obtain rfl : fn = Tryd.f8 := (Option.some.inj (Tryd.func8.symm.trans hfn)).symm
      exact ⟨by kernel_rfl, fun j t ht => by
        have hm : t ∈ Tryd.f8.params.toList := by simpa using Array.mem_of_getElem? ht
        have hall : (Tryd.f8.params.toList.all fun u => !Tryd.prog.wantsStandIn u) = true := by kernel_rfl
        exact (show Tryd.prog.wantsStandIn t = false by simpa using List.all_eq_true.1 hall t hm)⟩)
    (by kernel_rfl)
end Go.Proofs.YtklkfkgpjjpaiaaDoor.fnExactStokesRead

