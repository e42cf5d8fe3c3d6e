/-
  Proved here: the law FnFit returns true for every argument, and leaves its arguments as they were. No condition.
-/
import Derived.Test.YtgkekdiffgmllaaRead
import Derived.Test.YtgkekdiffgmllaaHead
import Derived.Test.YtgkekdiffgmllaaWFnFit
namespace Go.Proofs.Ytgkekdiffgmllaa.fnFit
open Go.ChangeShapes Go.WideShapes Go.ChangeAt Go.RowKit
open Go.ChangeMaps (open_string shut_string)

set_option maxRecDepth 100000 in
theorem lifted (os : Os) (started : os.Started) (H : Type) (enc : TypeId × Value → H) :
    ReturnsInHanded {} Try.checked os 7 .any (Rows.fnFitSpec.pre6 enc Try.prog Try.f7 Rows.fnFitRow.domain false) (Rows.fnFitSpec.post enc Try.prog Try.f7 false true false false) := by
  refine returnsInHanded_of_change (C := Try.checked) ownTry started (by kernel_rfl) Try.func7
    (ChangeSpec.witness6 (enc := enc) (C := Try.checked) false ⟨#[], #[.slice none 0 0], []⟩ 8 (by kernel_rfl) (by kernel_rfl) (by kernel_rfl) (by kernel_rfl)) ?_
  intro W base args ds gs before hval0 hW _ _
  have hval : ∀ (j : Nat) t v, Try.f7.params[j]? = some t → args[j]? = some v → Value.okWide Try.prog W .any base t v := hval0
  have hW' := hW
  obtain ⟨p, q, hA0, hV, rfl, hfz, hnd⟩ := hW
  have hA : DataW.TrodAll enc Try.prog W 0 (fun _ => true) true Try.f7.params.toList args.toList ds p := hA0
  rw [Try.params7] at hA hval
  obtain ⟨v0, vs0, d0, ds0, p0, q0, hargs, rfl, rfl, h0, r0⟩ := trodAll_cons hA
  obtain ⟨rfl, rfl, rfl⟩ := trodAll_nil r0
  obtain rfl : args = #[v0] := by cases args; simp_all
  obtain ⟨rfl, rfl⟩ := trodVars_none hV
  have lt0 : ∀ x ∈ p0, x.block < W.heap.size := by obtain ⟨m, hm⟩ := h0; exact DataW.trod_lt m _ _ _ hm
  have w0 := read_bytes (hval 0 22 v0 rfl rfl) h0
  clear hA0 hval0
  refine (law_FnFit v0 W w0).mono fun e W' ⟨he, bel⟩ => ?_
  subst he
  exact ⟨_, rfl, _, _, _, [], _, [], hW', trodAll_mk1 (shut_bool Try.underlying4 _), (trodAll_cons_mk (Below.trod laidOutTry (by kernel_rfl) (of_decide_eq_true (by kernel_rfl)) h0 bel.out lt0) trodAll_mk0), rfl, bel.out.frame _, fun h => by cases h⟩

theorem k0 : (Rows.fnFitRow.wf (OpenSpec.ofChange Rows.fnFitSpec)) = true := by kernel_rfl
theorem k3 : (Try.f7.params.all (Try.prog.readableRec ·)) = true := by kernel_rfl
theorem k4 : (namedTie Try.prog Rows.fnFitRow.named Rows.fnFitSpec.vars) = true := by kernel_rfl
theorem k5 : ((Rows.fnFitRow.stops == [])) = true := by kernel_rfl
theorem k7 : ((Rows.fnFitRow.knobs == [])) = true := by kernel_rfl
theorem k9 : ((Rows.fnFitRow.inPlace == Try.prog.inPlace 7)) = true := by kernel_rfl
theorem k10 : ((Rows.fnFitRow.unfollowed == Try.prog.unfollowed 7)) = true := by kernel_rfl
theorem k11 : ((Rows.fnFitRow.recurses == Try.prog.recurses 7)) = true := by kernel_rfl
theorem k12 : ((Rows.fnFitRow.named == Try.prog.varsNamed 7)) = true := by kernel_rfl
theorem k13 : ((Rows.fnFitRow.maps == (Try.f7.params.toList ++ Rows.fnFitSpec.plain.varTypes Try.prog).any (Try.prog.mapsRec ·))) = true := by kernel_rfl
theorem k14 : ((Rows.fnFitRow.ifaces == (Try.f7.params.toList ++ Rows.fnFitSpec.plain.varTypes Try.prog).any (Try.prog.ifacesRec ·))) = true := by kernel_rfl
theorem k15 : ((Rows.fnFitRow.mapsOut == Try.prog.mapsAmong Try.f7.resultTypes.toList)) = true := by kernel_rfl
theorem k16 : ((Rows.fnFitRow.loops == (Try.f7.params.toList ++ Rows.fnFitSpec.plain.varTypes Try.prog).any (Try.prog.loopsFrom ·))) = true := by kernel_rfl
theorem k17 : ((Rows.fnFitRow.wideKeys == (Try.f7.params.toList ++ Rows.fnFitSpec.plain.varTypes Try.prog ++ Try.f7.resultTypes.toList).any (Try.prog.wideKeysFrom ·))) = true := by kernel_rfl
theorem k18 : (Rows.fnFitSpec.vars.all (Try.prog.varReadable ·)) = true := by kernel_rfl
theorem k19 : (Try.f7.resultTypes.all (fun t => Try.prog.readableRec t && decide (t < Try.prog.types.size))) = true := by kernel_rfl
theorem k20 : ((Rows.fnFitRow.ifacesOut == Try.f7.resultTypes.toList.any (Try.prog.ifacesRec ·))) = true := by kernel_rfl
theorem k21 : ((Rows.fnFitRow.loopsOut == Try.f7.resultTypes.toList.any (Try.prog.loopsFrom ·))) = true := by kernel_rfl
theorem k22 : ((Rows.fnFitRow.plainKeys == Try.prog.plainKeys)) = true := by kernel_rfl
theorem k23 : (Rows.fnFitRow.shortTexts.isNone) = true := by kernel_rfl
theorem k28 : Rows.fnFitRow.domain.isEmpty = true := by kernel_rfl
theorem k28b : (Rows.fnFitRow.kinds == []) = true := by kernel_rfl
theorem k29 : ((Rows.fnFitRow.pinned == Rows.fnFitRow.pinnedBy)) = true := by kernel_rfl
theorem k30 : ((Rows.fnFitRow.veiled == (Try.f7.params.toList ++ Rows.fnFitSpec.plain.varTypes Try.prog ++ Try.f7.resultTypes.toList).any (Try.prog.veiledRec ·))) = true := by kernel_rfl
theorem k31 : (Rows.fnFitRow.veiledFits Try.prog Try.f7.params.toList (Try.f7.params.toList ++ Rows.fnFitSpec.plain.varTypes Try.prog ++ Try.f7.resultTypes.toList)) = true := by kernel_rfl
theorem closed : joinedFacts Try.prog 7 Try.f7 Rows.fnFitSpec Rows.fnFitRow = true :=
  joined_of _ _ _ _ _ k0 head_k1 head_k2 k3 k4 k5 head_k6 k7 head_k8 k9 k10 k11 k12 k13 k14 k15 k16 k17 k18 k19 k20 k21 k22 k23 head_k24 head_enter head_lifts head_make k28 k28b k29 k30 k31

theorem over : Rows.fnFitRow.holds Try.pinned (OpenSpec.ofChange Rows.fnFitSpec) :=
  OpenClaim.holds_of_wide 7 Try.f7 rfl rfl rfl rfl rfl rfl rfl ⟨rfl, rfl, rfl, rfl, rfl⟩ rfl rfl rfl rfl rfl (by kernel_rfl) Try.func7 closed
    (of_decide_eq_true (by kernel_rfl)) (by unfold Func.isWrapper; rw [if_neg (of_decide_eq_false (by kernel_rfl))]; exact ⟨rfl, rfl⟩)
    (fun os started H enc _ => lifted os started H enc)

theorem proved : Rows.FnFitSaid := over
end Go.Proofs.Ytgkekdiffgmllaa.fnFit
