/-
  Proved here: the law FnGlassLight returns true for every argument, and leaves its arguments as they were. The variables that the row lists read as listed; the card ties them to the text of the program.
-/
import Derived.Test.YtmmjkchjgeklnaaDoorRead
import Derived.Test.YtmmjkchjgeklnaaDoorHead
import Derived.Test.YtmmjkchjgeklnaaDoorLaidG
import Derived.Test.YtmmjkchjgeklnaaDoorTie
import Derived.Test.YtmmjkchjgeklnaaDoorCards
import Derived.SevenTiedAt
import Derived.Test.YtmmjkchjgeklnaaDoorWFnGlassLight
namespace Go.Proofs.YtmmjkchjgeklnaaDoor.fnGlassLight
open Go.ChangeShapes Go.WideShapes Go.ChangeAt Go.RowKit
open Go.ChangeMaps (open_string shut_string)

/-- The door's own heap meets the condition: closed facts. -/
theorem door_met (os : Os) (args : Array Value) : laidMetH Tryd.prog Rows.fnGlassLightRow.laid ((World.doorLaid Tryd.prog 400 os).forCall (fun _ _ => 0) ⟨#[], args, []⟩).memory :=
  laidMetH_of_parts3 (fuel := 8) (laidMet_of_run' 8 (by kernel_rfl) (by kernel_rfl)) (by kernel_rfl) (by kernel_rfl)

set_option maxRecDepth 100000 in
theorem lifted (os : Os) (started : os.Started) (H : Type) (enc : TypeId × Value → H) :
    ReturnsInHanded {} Tryd.checked os 4 .any (fun w args => (Rows.fnGlassLightSpec.pre enc Tryd.prog Tryd.f4 [] false w args ∧ laidMetH Tryd.prog Rows.fnGlassLightRow.laid w) ∧ sizedMet enc Tryd.prog Tryd.f4 (OpenSpec.ofChange Rows.fnGlassLightSpec) false w args) (Rows.fnGlassLightSpec.post enc Tryd.prog Tryd.f4 false true false false) := by
  refine returnsInHanded_of_change_and (C := Tryd.checked) (X := fun w _ => laidMetH Tryd.prog Rows.fnGlassLightRow.laid w) (fun _ _ _ hh h => h.of_heap hh) ownTryd started (by kernel_rfl) Tryd.func4
    (ChangeSpec.witness_shaped (enc := enc) (C := Tryd.checked) (os := os) (X := fun w _ => laidMetH Tryd.prog Rows.fnGlassLightRow.laid w) false (World.doorLaid Tryd.prog 400 os) #[.slice none 0 0] 8 rfl (World.shaped_of_RefB (by kernel_rfl) (by kernel_rfl)) (by kernel_rfl) (by kernel_rfl) (by kernel_rfl) (door_met os _)) ?_
  intro W base args ds gs before hval0 hW _ _ hL _
  have hval : ∀ (j : Nat) t v, Tryd.f4.params[j]? = some t → args[j]? = some v → Value.okWide Tryd.prog W .any base t v := hval0
  have hW' := hW
  obtain ⟨p, q, hA0, hV, rfl, hfz, hnd⟩ := hW
  have hA : DataW.TrodAll enc Tryd.prog W 0 (fun _ => true) true Tryd.f4.params.toList args.toList ds p := hA0
  rw [Tryd.params4] at hA hval
  obtain ⟨v0, vs0, d0, ds0, p0, q0, hargs, rfl, rfl, h0, r0⟩ := trodAll_cons hA
  obtain ⟨rfl, rfl, rfl⟩ := trodAll_nil r0
  obtain rfl : args = #[v0] := by cases args; simp_all
  have hgl : gs.length = 3 := vars_len hV
  obtain ⟨g1, g2, g3, rfl⟩ : ∃ g1 g2 g3, gs = [g1, g2, g3] := by
    match gs, hgl with
    | [g1, g2, g3], _ => exact ⟨g1, g2, g3, rfl⟩
  have lt0 : ∀ x ∈ p0, x.block < W.heap.size := by obtain ⟨m, hm⟩ := h0; exact DataW.trod_lt m _ _ _ hm
  have w0 := read_bytes (hval 0 36 v0 rfl rfl) h0
  clear hA0 hval0
  have hl := (show laidMetH Tryd.prog Rows.fnGlassLightRow.laid W from hL)
  rw [MakeChecks.laidMetH_plain _ _ _ (by kernel_rfl)] at hl
  have hT : Glob W := { triv := trivial, zero := frac_var gn_zero (by kernel_rfl) (Lib.laidMet.reads hl (.head _)), one := frac_var gn_one (by kernel_rfl) (Lib.laidMet.reads hl (.tail _ (.head _))), turns := frac4_var gn_turns (by kernel_rfl) (Lib.laidMet.reads hl (.tail _ (.tail _ (.head _)))) }
  refine (law_FnGlassLight v0 W w0 hT).mono fun e W' ⟨he, bel⟩ => ?_
  subst he
  exact ⟨_, rfl, _, _, _, [], _, _, hW', trodAll_mk1 (shut_bool Tryd.underlying4 _), (trodAll_cons_mk (Below.trod laidOutTryd (by kernel_rfl) (of_decide_eq_true (by kernel_rfl)) h0 bel.out lt0) trodAll_mk0), Below.trodVars laidOutTryd bel.out (by kernel_rfl) hV, bel.out.frame _, fun h => by cases h⟩

theorem k0 : (Rows.fnGlassLightRow.wf (OpenSpec.ofChange Rows.fnGlassLightSpec)) = true := by kernel_rfl
theorem k3 : (Tryd.f4.params.all (Tryd.prog.readableRec ·)) = true := by kernel_rfl
theorem k4 : (namedTie Tryd.prog Rows.fnGlassLightRow.named Rows.fnGlassLightSpec.vars) = true := by kernel_rfl
theorem k5 : ((Rows.fnGlassLightRow.stops == [])) = true := by kernel_rfl
theorem k7 : ((Rows.fnGlassLightRow.knobs == [])) = true := by kernel_rfl
theorem k9 : ((Rows.fnGlassLightRow.inPlace == Tryd.prog.inPlace 4)) = true := by kernel_rfl
theorem k10 : ((Rows.fnGlassLightRow.unfollowed == Tryd.prog.unfollowed 4)) = true := by kernel_rfl
theorem k11 : ((Rows.fnGlassLightRow.recurses == Tryd.prog.recurses 4)) = true := by kernel_rfl
theorem k12 : ((Rows.fnGlassLightRow.named == Tryd.prog.varsNamed 4)) = true := by kernel_rfl
theorem k13 : ((Rows.fnGlassLightRow.maps == (Tryd.f4.params.toList ++ Rows.fnGlassLightSpec.plain.varTypes Tryd.prog).any (Tryd.prog.mapsRec ·))) = true := by kernel_rfl
theorem k14 : ((Rows.fnGlassLightRow.ifaces == (Tryd.f4.params.toList ++ Rows.fnGlassLightSpec.plain.varTypes Tryd.prog).any (Tryd.prog.ifacesRec ·))) = true := by kernel_rfl
theorem k15 : ((Rows.fnGlassLightRow.mapsOut == Tryd.prog.mapsAmong Tryd.f4.resultTypes.toList)) = true := by kernel_rfl
theorem k16 : ((Rows.fnGlassLightRow.loops == (Tryd.f4.params.toList ++ Rows.fnGlassLightSpec.plain.varTypes Tryd.prog).any (Tryd.prog.loopsFrom ·))) = true := by kernel_rfl
theorem k17 : ((Rows.fnGlassLightRow.wideKeys == (Tryd.f4.params.toList ++ Rows.fnGlassLightSpec.plain.varTypes Tryd.prog ++ Tryd.f4.resultTypes.toList).any (Tryd.prog.wideKeysFrom ·))) = true := by kernel_rfl
theorem k18 : (Rows.fnGlassLightSpec.vars.all (Tryd.prog.varReadable ·)) = true := by kernel_rfl
theorem k19 : (Tryd.f4.resultTypes.all (fun t => Tryd.prog.readableRec t && decide (t < Tryd.prog.types.size))) = true := by kernel_rfl
theorem k20 : ((Rows.fnGlassLightRow.ifacesOut == Tryd.f4.resultTypes.toList.any (Tryd.prog.ifacesRec ·))) = true := by kernel_rfl
theorem k21 : ((Rows.fnGlassLightRow.loopsOut == Tryd.f4.resultTypes.toList.any (Tryd.prog.loopsFrom ·))) = true := by kernel_rfl
theorem k22 : ((Rows.fnGlassLightRow.plainKeys == Tryd.prog.plainKeys)) = true := by kernel_rfl
theorem k23 : (Rows.fnGlassLightRow.shortTexts.isNone) = true := by kernel_rfl
theorem k28 : Rows.fnGlassLightRow.domain.isEmpty = true := by kernel_rfl
theorem k28b : (Rows.fnGlassLightRow.kinds == []) = true := by kernel_rfl
theorem k29 : ((Rows.fnGlassLightRow.pinned == Rows.fnGlassLightRow.pinnedBy)) = true := by kernel_rfl
theorem k30 : ((Rows.fnGlassLightRow.veiled == (Tryd.f4.params.toList ++ Rows.fnGlassLightSpec.plain.varTypes Tryd.prog ++ Tryd.f4.resultTypes.toList).any (Tryd.prog.veiledRec ·))) = true := by kernel_rfl
theorem k31 : (Rows.fnGlassLightRow.veiledFits Tryd.prog Tryd.f4.params.toList (Tryd.f4.params.toList ++ Rows.fnGlassLightSpec.plain.varTypes Tryd.prog ++ Tryd.f4.resultTypes.toList)) = true := by kernel_rfl
theorem closed : joinedFacts Tryd.prog 4 Tryd.f4 Rows.fnGlassLightSpec Rows.fnGlassLightRow = true :=
  joined_of _ _ _ _ _ k0 head_k1 head_k2 k3 k4 k5 head_k6 k7 head_k8 k9 k10 k11 k12 k13 k14 k15 k16 k17 k18 k19 k20 k21 k22 k23 head_k24 head_enter head_lifts head_make k28 k28b k29 k30 k31

theorem over : Rows.fnGlassLightRow.holds Tryd.pinned (OpenSpec.ofChange Rows.fnGlassLightSpec) :=
  OpenClaim.holds_of_wide 4 Tryd.f4 rfl rfl rfl rfl rfl rfl rfl ⟨rfl, rfl, rfl, rfl, rfl⟩ rfl rfl rfl rfl rfl (by kernel_rfl) Tryd.func4 closed
    (of_decide_eq_true (by kernel_rfl)) (by unfold Func.isWrapper; rw [if_neg (of_decide_eq_false (by kernel_rfl))]; exact ⟨rfl, rfl⟩)
    (fun os started H enc _ => lifted os started H enc)

theorem proved : Rows.FnGlassLightCardSaid :=
  Claim7.holds_tied_plain_at .later [] Rows.fnGlassLightCard.laidKinds true Rows.fnGlassLightCard.stood.harness Rows.fnGlassLightCard.stood.looks
    over (fun _ h => by cases h) (by kernel_rfl) (fun _ h => by cases h) fnGlassLight_row_tie rfl ⟨rfl, rfl⟩ (by kernel_rfl) rfl
    (fun f fn hf hfn => by
      obtain rfl : f = 4 := Option.some.inj ((show Tryd.prog.funcNamed Rows.fnGlassLightRow.func = some 4 by kernel_rfl).symm.trans hf) |>.symm
      obtain rfl : fn = Tryd.f4 := (Option.some.inj (Tryd.func4.symm.trans hfn)).symm
      exact ⟨by kernel_rfl, fun j t ht => by
        have hm : t ∈ Tryd.f4.params.toList := by simpa using Array.mem_of_getElem? ht
        have hall : (Tryd.f4.params.toList.all fun u => !Tryd.prog.wantsStandIn u) = true := by kernel_rfl
        exact (show Tryd.prog.wantsStandIn t = false by simpa using List.all_eq_true.1 hall t hm)⟩)
    (by kernel_rfl)
end Go.Proofs.YtmmjkchjgeklnaaDoor.fnGlassLight


