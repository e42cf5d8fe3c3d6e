/-
  Proved here: the law FnRecord returns true for every argument, and leaves its arguments as they were. The variables that the row lists read as listed; the card ties them to the text of the program.
-/
import Derived.Test.YtmmjkchjgeklnaaGreatDoorK23
import Derived.Test.YtmmjkchjgeklnaaGreatDoorK24
import Derived.Test.YtmmjkchjgeklnaaGreatDoorK26
import Derived.Test.YtmmjkchjgeklnaaGreatDoorTie
import Derived.Test.YtmmjkchjgeklnaaGreatDoorCards
import Derived.SevenTiedAt
import Derived.Lay
import Derived.Test.YtmmjkchjgeklnaaGreatDoorWFnRecord
set_option linter.unusedSimpArgs false
set_option linter.unusedVariables false
namespace Go.Proofs.YtmmjkchjgeklnaaGreatDoor.fnRecord
open Go.ChangeShapes Go.WideShapes Go.ChangeAt Go.RowKit
open Go.ChangeMaps (open_string shut_string)

/-- A heap that holds just what the row lists meets the condition: closed facts. -/
theorem door_met (os : Os) (args : Array Value) : laidMetH Tryz.prog Rows.fnRecordRow.laid ((World.laidAll Tryz.prog os Rows.fnRecordRow.laid).forCall (fun _ _ => 0) ⟨#[], args, []⟩).memory :=
 by rw [MakeChecks.laidMetH_plain _ _ _ (by kernel_rfl)]; exact laidMet_laidAll _ (by kernel_rfl) (by kernel_rfl)

set_option maxRecDepth 100000 in
theorem lifted (os : Os) (started : os.Started) (H : Type) (enc : TypeId × Value → H) :
  ReturnsInHanded {} Tryz.checked os 9 .any (fun w args => (Rows.fnRecordSpec.pre enc Tryz.prog Tryz.f9 [] false w args ∧ laidMetH Tryz.prog Rows.fnRecordRow.laid w) ∧ sizedMet enc Tryz.prog Tryz.f9 (OpenSpec.ofChange Rows.fnRecordSpec) false w args) (Rows.fnRecordSpec.post enc Tryz.prog Tryz.f9 false true false false) := by
 refine Vh (C := Tryz.checked) (X := fun w _ => laidMetH Tryz.prog Rows.fnRecordRow.laid w) (fun _ _ _ hh h => h.of_heap hh) Rf started (by kernel_rfl) Tryz.func9
  (ChangeSpec.witness_shaped (enc := enc) (C := Tryz.checked) (os := os) (X := fun w _ => laidMetH Tryz.prog Rows.fnRecordRow.laid w) false (World.laidAll Tryz.prog os Rows.fnRecordRow.laid) #[.slice none 0 0] 8 rfl (World.shaped_of_ZipB (by kernel_rfl) (by kernel_rfl)) (by kernel_rfl) (by kernel_rfl) (by kernel_rfl) (door_met os _)) ?_
 intro W base args ds gs before hval0 hW hL hsh
 have hval : ∀ (j : Nat) t v, Tryz.f9.params[j]? = some t → args[j]? = some v → Value.okWide Tryz.prog W .any base t v := hval0
 have hW' := hW
 obtain ⟨p, q, hA0, hV, rfl, hfz, hnd⟩ := hW
 have hA : DataW.TrodAll enc Tryz.prog W 0 (fun _ => true) true Tryz.f9.params.toList args.toList ds p := hA0
 rw [Tryz.params9] at hA hval
 obtain ⟨v0, vs0, d0, ds0, p0, q0, hargs, rfl, rfl, h0, r0⟩ := trodAll_cons hA
 obtain ⟨rfl, rfl, rfl⟩ := trodAll_nil r0
 obtain rfl : args = #[v0] := by cases args; simp_all
 have hgl : gs.length = 3 := Tq hV
 obtain ⟨g1, g2, g3, rfl⟩ : ∃ g1 g2 g3, gs = [g1, g2, g3] := by
  match gs, hgl with
  | [g1, g2, g3], _ => exact ⟨g1, g2, g3, rfl⟩
 have lt0 : ∀ x ∈ p0, x.block < W.heap.size := by obtain ⟨m, hm⟩ := h0; exact DataW.trod_lt m _ _ _ hm
 have w0 := Pz (hval 0 46 v0 rfl rfl) h0
 clear hA0 hval0
 have hT := Su (show laidMetH Tryz.prog Si W from hL) hsh
 refine (law_FnRecord v0 W w0 hT).mono fun e W' ⟨he, bel⟩ => ?_
 subst he
 exact ⟨_, rfl, _, _, _, [], _, _, hW', trodAll_mk1 (shut_bool Tryz.underlying4 _), (trodAll_cons_mk (Below.trod Yc (by kernel_rfl) (of_decide_eq_true (by kernel_rfl)) h0 bel.out lt0) trodAll_mk0), Below.trodVars Yc bel.out (by kernel_rfl) hV, bel.out.frame _, fun h => by cases h⟩

theorem k0 : (Rows.fnRecordRow.wf (OpenSpec.ofChange Rows.fnRecordSpec)) = true := by kernel_rfl
theorem k3 : (Tryz.f9.params.all (Tryz.prog.readableRec ·)) = true := by kernel_rfl
theorem k4 : (namedTie Tryz.prog Rows.fnRecordRow.named Rows.fnRecordSpec.vars) = true := by kernel_rfl
theorem k5 : ((Rows.fnRecordRow.stops == [])) = true := by kernel_rfl
theorem k7 : ((Rows.fnRecordRow.knobs == [])) = true := by kernel_rfl
theorem k9 : ((Rows.fnRecordRow.inPlace == Tryz.prog.inPlace 9)) = true := by kernel_rfl
theorem k10 : ((Rows.fnRecordRow.unfollowed == Tryz.prog.unfollowed 9)) = true := by kernel_rfl
theorem k11 : ((Rows.fnRecordRow.recurses == Tryz.prog.recurses 9)) = true := by kernel_rfl
theorem k12 : ((Rows.fnRecordRow.named == Tryz.prog.varsNamed 9)) = true := by kernel_rfl
theorem k13 : ((Rows.fnRecordRow.maps == (Tryz.f9.params.toList ++ Rows.fnRecordSpec.plain.varTypes Tryz.prog).any (Tryz.prog.mapsRec ·))) = true := by kernel_rfl
theorem k14 : ((Rows.fnRecordRow.ifaces == (Tryz.f9.params.toList ++ Rows.fnRecordSpec.plain.varTypes Tryz.prog).any (Tryz.prog.ifacesRec ·))) = true := by kernel_rfl
theorem k15 : ((Rows.fnRecordRow.mapsOut == Tryz.prog.mapsAmong Tryz.f9.resultTypes.toList)) = true := by kernel_rfl
theorem k16 : ((Rows.fnRecordRow.loops == (Tryz.f9.params.toList ++ Rows.fnRecordSpec.plain.varTypes Tryz.prog).any (Tryz.prog.loopsFrom ·))) = true := by kernel_rfl
theorem k17 : ((Rows.fnRecordRow.wideKeys == (Tryz.f9.params.toList ++ Rows.fnRecordSpec.plain.varTypes Tryz.prog ++ Tryz.f9.resultTypes.toList).any (Tryz.prog.wideKeysFrom ·))) = true := by kernel_rfl
theorem k18 : (Rows.fnRecordSpec.vars.all (Tryz.prog.varReadable ·)) = true := by kernel_rfl
theorem k19 : (Tryz.f9.resultTypes.all (fun t => Tryz.prog.readableRec t && decide (t < Tryz.prog.types.size))) = true := by kernel_rfl
theorem k20 : ((Rows.fnRecordRow.ifacesOut == Tryz.f9.resultTypes.toList.any (Tryz.prog.ifacesRec ·))) = true := by kernel_rfl
theorem k21 : ((Rows.fnRecordRow.loopsOut == Tryz.f9.resultTypes.toList.any (Tryz.prog.loopsFrom ·))) = true := by kernel_rfl
theorem k22 : ((Rows.fnRecordRow.plainKeys == Tryz.prog.plainKeys)) = true := by kernel_rfl
theorem k23 : (Rows.fnRecordRow.shortTexts.isNone) = true := by kernel_rfl
theorem k28 : Rows.fnRecordRow.domain.isEmpty = true := by kernel_rfl
theorem k28b : (Rows.fnRecordRow.kinds == []) = true := by kernel_rfl
theorem k29 : ((Rows.fnRecordRow.pinned == Rows.fnRecordRow.pinnedBy)) = true := by kernel_rfl
theorem k30 : ((Rows.fnRecordRow.veiled == (Tryz.f9.params.toList ++ Rows.fnRecordSpec.plain.varTypes Tryz.prog ++ Tryz.f9.resultTypes.toList).any (Tryz.prog.veiledRec ·))) = true := by kernel_rfl
theorem k31 : (Rows.fnRecordRow.veiledFits Tryz.prog Tryz.f9.params.toList (Tryz.f9.params.toList ++ Rows.fnRecordSpec.plain.varTypes Tryz.prog ++ Tryz.f9.resultTypes.toList)) = true := by kernel_rfl
theorem closed : joinedFacts Tryz.prog 9 Tryz.f9 Rows.fnRecordSpec Rows.fnRecordRow = true :=
 Tw _ _ _ _ _ k0 Qv Qu k3 k4 k5 Qt k7 Qs k9 k10 k11 k12 k13 k14 k15 k16 k17 k18 k19 k20 k21 k22 k23 Sw Uq Ur Tx k28 k28b k29 k30 k31

theorem over : Rows.fnRecordRow.holds Tryz.pinned (OpenSpec.ofChange Rows.fnRecordSpec) :=
 OpenClaim.holds_of_wide 9 Tryz.f9 rfl rfl rfl rfl rfl rfl rfl ⟨rfl, rfl, rfl, rfl, rfl⟩ rfl rfl rfl rfl rfl (by kernel_rfl) Tryz.func9 closed
  (of_decide_eq_true (by kernel_rfl)) (by unfold Func.isWrapper; rw [if_neg (of_decide_eq_false (by kernel_rfl))]; exact ⟨rfl, rfl⟩)
  (fun os started H enc _ => lifted os started H enc)

theorem proved : Rows.FnRecordCardSaid :=
 Claim7.holds_tied_plain_at .later [] Rows.fnRecordCard.laidKinds true Rows.fnRecordCard.stood.harness Rows.fnRecordCard.stood.looks
  over (fun _ h => by cases h) (by kernel_rfl) (fun _ h => by cases h) fnRecord_row_tie rfl ⟨rfl, rfl⟩ (by kernel_rfl) rfl
  (fun f fn hf hfn => by
   obtain rfl : f = 9 := Option.some.inj ((show Tryz.prog.funcNamed Rows.fnRecordRow.func = some 9 by kernel_rfl).symm.trans hf) |>.symm
   obtain rfl : fn = Tryz.f9 := (Option.some.inj (Tryz.func9.symm.trans hfn)).symm
   exact ⟨by kernel_rfl, fun j t ht => by
    have hm : t ∈ Tryz.f9.params.toList := by simpa using Array.mem_of_getElem? ht
    have hall : (Tryz.f9.params.toList.all fun u => !Tryz.prog.wantsStandIn u) = true := by kernel_rfl
    exact (show Tryz.prog.wantsStandIn t = false by simpa using List.all_eq_true.1 hall t hm)⟩)
  (by kernel_rfl)
end Go.Proofs.YtmmjkchjgeklnaaGreatDoor.fnRecord


