/-
  Proved here: the law FnSame returns true for every argument, and leaves its arguments as they were. The variables that the row lists read as listed; the card ties them to the text of the program.
-/
import Derived.Test.YtmmjkchjgeklnaaGreatDoorK23
import Derived.Test.YtmmjkchjgeklnaaGreatDoorK24
import Derived.Test.YtmmjkchjgeklnaaGreatDoorK26
import Derived.Test.YtmmjkchjgeklnaaGreatDoorTie
import Derived.Test.YtmmjkchjgeklnaaGreatDoorCards
import Derived.SevenTiedAt
import Derived.Lay
import Derived.Test.YtmmjkchjgeklnaaGreatDoorWFnSame
set_option linter.unusedSimpArgs false
set_option linter.unusedVariables false
namespace Go.Proofs.YtmmjkchjgeklnaaGreatDoor.fnSame
open Go.ChangeShapes Go.WideShapes Go.ChangeAt Go.RowKit
open Go.ChangeMaps (open_string shut_string)

/-- A heap that holds just what the row lists meets the condition: closed facts. -/
theorem door_met (os : Os) (args : Array Value) : laidMetH Tryz.prog Rows.fnSameRow.laid ((World.laidAll Tryz.prog os Rows.fnSameRow.laid).forCall (fun _ _ => 0) ⟨#[], args, []⟩).memory :=
 by rw [MakeChecks.laidMetH_plain _ _ _ (by kernel_rfl)]; exact laidMet_laidAll _ (by kernel_rfl) (by kernel_rfl)

set_option maxRecDepth 100000 in
theorem lifted (os : Os) (started : os.Started) (H : Type) (enc : TypeId × Value → H) :
  ReturnsInHanded {} Tryz.checked os 10 .any (fun w args => (Rows.fnSameSpec.pre enc Tryz.prog Tryz.f10 [] false w args ∧ laidMetH Tryz.prog Rows.fnSameRow.laid w) ∧ sizedMet enc Tryz.prog Tryz.f10 (OpenSpec.ofChange Rows.fnSameSpec) false w args) (Rows.fnSameSpec.post enc Tryz.prog Tryz.f10 false true false false) := by
 refine Vh (C := Tryz.checked) (X := fun w _ => laidMetH Tryz.prog Rows.fnSameRow.laid w) (fun _ _ _ hh h => h.of_heap hh) Rf started (by kernel_rfl) Tryz.func10
  (ChangeSpec.witness_shaped (enc := enc) (C := Tryz.checked) (os := os) (X := fun w _ => laidMetH Tryz.prog Rows.fnSameRow.laid w) false (World.laidAll Tryz.prog os Rows.fnSameRow.laid) #[.slice none 0 0] 8 rfl (World.shaped_of_ZipB (by kernel_rfl) (by kernel_rfl)) (by kernel_rfl) (by kernel_rfl) (by kernel_rfl) (door_met os _)) ?_
 intro W base args ds gs before hval0 hW hL hsh
 have hval : ∀ (j : Nat) t v, Tryz.f10.params[j]? = some t → args[j]? = some v → Value.okWide Tryz.prog W .any base t v := hval0
 have hW' := hW
 obtain ⟨p, q, hA0, hV, rfl, hfz, hnd⟩ := hW
 have hA : DataW.TrodAll enc Tryz.prog W 0 (fun _ => true) true Tryz.f10.params.toList args.toList ds p := hA0
 rw [Tryz.params10] at hA hval
 obtain ⟨v0, vs0, d0, ds0, p0, q0, hargs, rfl, rfl, h0, r0⟩ := trodAll_cons hA
 obtain ⟨rfl, rfl, rfl⟩ := trodAll_nil r0
 obtain rfl : args = #[v0] := by cases args; simp_all
 have hgl : gs.length = 3 := Tq hV
 obtain ⟨g1, g2, g3, rfl⟩ : ∃ g1 g2 g3, gs = [g1, g2, g3] := by
  match gs, hgl with
  | [g1, g2, g3], _ => exact ⟨g1, g2, g3, rfl⟩
 have lt0 : ∀ x ∈ p0, x.block < W.heap.size := by obtain ⟨m, hm⟩ := h0; exact DataW.trod_lt m _ _ _ hm
 have w0 := Pz (hval 0 46 v0 rfl rfl) h0
 clear hA0 hval0
 have hT := Su (show laidMetH Tryz.prog Si W from hL) hsh
 refine (law_FnSame v0 W w0 hT).mono fun e W' ⟨he, bel⟩ => ?_
 subst he
 exact ⟨_, rfl, _, _, _, [], _, _, hW', trodAll_mk1 (shut_bool Tryz.underlying4 _), (trodAll_cons_mk (Below.trod Yc (by kernel_rfl) (of_decide_eq_true (by kernel_rfl)) h0 bel.out lt0) trodAll_mk0), Below.trodVars Yc bel.out (by kernel_rfl) hV, bel.out.frame _, fun h => by cases h⟩

theorem k0 : (Rows.fnSameRow.wf (OpenSpec.ofChange Rows.fnSameSpec)) = true := by kernel_rfl
theorem k3 : (Tryz.f10.params.all (Tryz.prog.readableRec ·)) = true := by kernel_rfl
theorem k4 : (namedTie Tryz.prog Rows.fnSameRow.named Rows.fnSameSpec.vars) = true := by kernel_rfl
theorem k5 : ((Rows.fnSameRow.stops == [])) = true := by kernel_rfl
theorem k7 : ((Rows.fnSameRow.knobs == [])) = true := by kernel_rfl
theorem k9 : ((Rows.fnSameRow.inPlace == Tryz.prog.inPlace 10)) = true := by kernel_rfl
theorem k10 : ((Rows.fnSameRow.unfollowed == Tryz.prog.unfollowed 10)) = true := by kernel_rfl
theorem k11 : ((Rows.fnSameRow.recurses == Tryz.prog.recurses 10)) = true := by kernel_rfl
theorem k12 : ((Rows.fnSameRow.named == Tryz.prog.varsNamed 10)) = true := by kernel_rfl
theorem k13 : ((Rows.fnSameRow.maps == (Tryz.f10.params.toList ++ Rows.fnSameSpec.plain.varTypes Tryz.prog).any (Tryz.prog.mapsRec ·))) = true := by kernel_rfl
theorem k14 : ((Rows.fnSameRow.ifaces == (Tryz.f10.params.toList ++ Rows.fnSameSpec.plain.varTypes Tryz.prog).any (Tryz.prog.ifacesRec ·))) = true := by kernel_rfl
theorem k15 : ((Rows.fnSameRow.mapsOut == Tryz.prog.mapsAmong Tryz.f10.resultTypes.toList)) = true := by kernel_rfl
theorem k16 : ((Rows.fnSameRow.loops == (Tryz.f10.params.toList ++ Rows.fnSameSpec.plain.varTypes Tryz.prog).any (Tryz.prog.loopsFrom ·))) = true := by kernel_rfl
theorem k17 : ((Rows.fnSameRow.wideKeys == (Tryz.f10.params.toList ++ Rows.fnSameSpec.plain.varTypes Tryz.prog ++ Tryz.f10.resultTypes.toList).any (Tryz.prog.wideKeysFrom ·))) = true := by kernel_rfl
theorem k18 : (Rows.fnSameSpec.vars.all (Tryz.prog.varReadable ·)) = true := by kernel_rfl
theorem k19 : (Tryz.f10.resultTypes.all (fun t => Tryz.prog.readableRec t && decide (t < Tryz.prog.types.size))) = true := by kernel_rfl
theorem k20 : ((Rows.fnSameRow.ifacesOut == Tryz.f10.resultTypes.toList.any (Tryz.prog.ifacesRec ·))) = true := by kernel_rfl
theorem k21 : ((Rows.fnSameRow.loopsOut == Tryz.f10.resultTypes.toList.any (Tryz.prog.loopsFrom ·))) = true := by kernel_rfl
theorem k22 : ((Rows.fnSameRow.plainKeys == Tryz.prog.plainKeys)) = true := by kernel_rfl
theorem k23 : (Rows.fnSameRow.shortTexts.isNone) = true := by kernel_rfl
theorem k28 : Rows.fnSameRow.domain.isEmpty = true := by kernel_rfl
theorem k28b : (Rows.fnSameRow.kinds == []) = true := by kernel_rfl
theorem k29 : ((Rows.fnSameRow.pinned == Rows.fnSameRow.pinnedBy)) = true := by kernel_rfl
theorem k30 : ((Rows.fnSameRow.veiled == (Tryz.f10.params.toList ++ Rows.fnSameSpec.plain.varTypes Tryz.prog ++ Tryz.f10.resultTypes.toList).any (Tryz.prog.veiledRec ·))) = true := by kernel_rfl
theorem k31 : (Rows.fnSameRow.veiledFits Tryz.prog Tryz.f10.params.toList (Tryz.f10.params.toList ++ Rows.fnSameSpec.plain.varTypes Tryz.prog ++ Tryz.f10.resultTypes.toList)) = true := by kernel_rfl
theorem closed : joinedFacts Tryz.prog 10 Tryz.f10 Rows.fnSameSpec Rows.fnSameRow = true :=
 Tw _ _ _ _ _ k0 Qv Qu k3 k4 k5 Qt k7 Qs k9 k10 k11 k12 k13 k14 k15 k16 k17 k18 k19 k20 k21 k22 k23 Sw Uq Ur Tx k28 k28b k29 k30 k31

theorem over : Rows.fnSameRow.holds Tryz.pinned (OpenSpec.ofChange Rows.fnSameSpec) :=
 OpenClaim.holds_of_wide 10 Tryz.f10 rfl rfl rfl rfl rfl rfl rfl ⟨rfl, rfl, rfl, rfl, rfl⟩ rfl rfl rfl rfl rfl (by kernel_rfl) Tryz.func10 closed
  (of_decide_eq_true (by kernel_rfl)) (by unfold Func.isWrapper; rw [if_neg (of_decide_eq_false (by kernel_rfl))]; exact ⟨rfl, rfl⟩)
  (fun os started H enc _ => lifted os started H enc)

theorem proved : Rows.FnSameCardSaid :=
 Claim7.holds_tied_plain_at .later [] Rows.fnSameCard.laidKinds true Rows.fnSameCard.stood.harness Rows.fnSameCard.stood.looks
  over (fun _ h => by cases h) (by kernel_rfl) (fun _ h => by cases h) fnSame_row_tie rfl ⟨rfl, rfl⟩ (by kernel_rfl) rfl
  (fun f fn hf hfn => by
   obtain rfl : f = 10 := Option.some.inj ((show Tryz.prog.funcNamed Rows.fnSameRow.func = some 10 by kernel_rfl).symm.trans hf) |>.symm
   obtain rfl : fn = Tryz.f10 := (Option.some.inj (Tryz.func10.symm.trans hfn)).symm
   exact ⟨by kernel_rfl, fun j t ht => by
    have hm : t ∈ Tryz.f10.params.toList := by simpa using Array.mem_of_getElem? ht
    have hall : (Tryz.f10.params.toList.all fun u => !Tryz.prog.wantsStandIn u) = true := by kernel_rfl
    exact (show Tryz.prog.wantsStandIn t = false by simpa using List.all_eq_true.1 hall t hm)⟩)
  (by kernel_rfl)
end Go.Proofs.YtmmjkchjgeklnaaGreatDoor.fnSame


