/-
  Proved here: the law FnExactGridAgrees returns true for every argument, and leaves its arguments as they were. No condition.
-/
import Derived.Test.YtgkekdiffgmllaaReadF
import Derived.Test.YtgkekdiffgmllaaHead
import Derived.Test.YtgkekdiffgmllaaWFnExactGridAgrees
namespace Go.Proofs.Ytgkekdiffgmllaa.fnExactGridAgrees
open Go.ChangeShapes Go.WideShapes Go.ChangeAt Go.RowKit
open Go.ChangeMaps (open_string shut_string)

set_option maxRecDepth 100000 in
theorem lifted (os : Os) (started : os.Started) (H : Type) (enc : TypeId × Value → H) :
    ReturnsInHanded {} Try.checked os 12 .any (Rows.fnExactGridAgreesSpec.pre6 enc Try.prog Try.f12 Rows.fnExactGridAgreesRow.domain false) (Rows.fnExactGridAgreesSpec.post enc Try.prog Try.f12 false true false false) := by
  refine returnsInHanded_of_change (C := Try.checked) ownTry started (by kernel_rfl) Try.func12
    (ChangeSpec.witness6 (enc := enc) (C := Try.checked) false ⟨#[], #[.slice none 0 0, .agg #[.int .i64 0, .int .i64 0, .int .i64 0]], []⟩ 8 (by kernel_rfl) (by kernel_rfl) (by kernel_rfl) (by kernel_rfl)) ?_
  intro W base args ds gs before hval0 hW _ _
  have hval : ∀ (j : Nat) t v, Try.f12.params[j]? = some t → args[j]? = some v → Value.okWide Try.prog W .any base t v := hval0
  have hW' := hW
  obtain ⟨p, q, hA0, hV, rfl, hfz, hnd⟩ := hW
  have hA : DataW.TrodAll enc Try.prog W 0 (fun _ => true) true Try.f12.params.toList args.toList ds p := hA0
  rw [Try.params12] at hA hval
  obtain ⟨v0, vs0, d0, ds0, p0, q0, hargs, rfl, rfl, h0, r0⟩ := trodAll_cons hA
  obtain ⟨v1, vs1, d1, ds1, p1, q1, rfl, rfl, rfl, h1, r1⟩ := trodAll_cons r0
  obtain ⟨rfl, rfl, rfl⟩ := trodAll_nil r1
  obtain rfl : args = #[v0, v1] := by cases args; simp_all
  obtain ⟨rfl, rfl⟩ := trodVars_none hV
  have lt0 : ∀ x ∈ p0, x.block < W.heap.size := by obtain ⟨m, hm⟩ := h0; exact DataW.trod_lt m _ _ _ hm
  have lt1 : ∀ x ∈ p1, x.block < W.heap.size := by obtain ⟨m, hm⟩ := h1; exact DataW.trod_lt m _ _ _ hm
  have w0 := read_fracs (hval 0 36 v0 rfl rfl) h0
  have w1 := read_frac (hval 1 37 v1 rfl rfl) h1
  clear hA0 hval0
  refine (law_FnExactGridAgrees v0 v1 W w0 w1).mono fun e W' ⟨he, bel⟩ => ?_
  subst he
  exact ⟨_, rfl, _, _, _, [], _, [], hW', trodAll_mk1 (shut_bool Try.underlying4 _), (trodAll_cons_mk (Below.trod laidOutTry (by kernel_rfl) (of_decide_eq_true (by kernel_rfl)) h0 bel.out lt0) (trodAll_cons_mk (Below.trod laidOutTry (by kernel_rfl) (of_decide_eq_true (by kernel_rfl)) h1 bel.out lt1) trodAll_mk0)), rfl, bel.out.frame _, fun h => by cases h⟩

theorem k0 : (Rows.fnExactGridAgreesRow.wf (OpenSpec.ofChange Rows.fnExactGridAgreesSpec)) = true := by kernel_rfl
theorem k3 : (Try.f12.params.all (Try.prog.readableRec ·)) = true := by kernel_rfl
theorem k4 : (namedTie Try.prog Rows.fnExactGridAgreesRow.named Rows.fnExactGridAgreesSpec.vars) = true := by kernel_rfl
theorem k5 : ((Rows.fnExactGridAgreesRow.stops == [])) = true := by kernel_rfl
theorem k7 : ((Rows.fnExactGridAgreesRow.knobs == [])) = true := by kernel_rfl
theorem k9 : ((Rows.fnExactGridAgreesRow.inPlace == Try.prog.inPlace 12)) = true := by kernel_rfl
theorem k10 : ((Rows.fnExactGridAgreesRow.unfollowed == Try.prog.unfollowed 12)) = true := by kernel_rfl
theorem k11 : ((Rows.fnExactGridAgreesRow.recurses == Try.prog.recurses 12)) = true := by kernel_rfl
theorem k12 : ((Rows.fnExactGridAgreesRow.named == Try.prog.varsNamed 12)) = true := by kernel_rfl
theorem k13 : ((Rows.fnExactGridAgreesRow.maps == (Try.f12.params.toList ++ Rows.fnExactGridAgreesSpec.plain.varTypes Try.prog).any (Try.prog.mapsRec ·))) = true := by kernel_rfl
theorem k14 : ((Rows.fnExactGridAgreesRow.ifaces == (Try.f12.params.toList ++ Rows.fnExactGridAgreesSpec.plain.varTypes Try.prog).any (Try.prog.ifacesRec ·))) = true := by kernel_rfl
theorem k15 : ((Rows.fnExactGridAgreesRow.mapsOut == Try.prog.mapsAmong Try.f12.resultTypes.toList)) = true := by kernel_rfl
theorem k16 : ((Rows.fnExactGridAgreesRow.loops == (Try.f12.params.toList ++ Rows.fnExactGridAgreesSpec.plain.varTypes Try.prog).any (Try.prog.loopsFrom ·))) = true := by kernel_rfl
theorem k17 : ((Rows.fnExactGridAgreesRow.wideKeys == (Try.f12.params.toList ++ Rows.fnExactGridAgreesSpec.plain.varTypes Try.prog ++ Try.f12.resultTypes.toList).any (Try.prog.wideKeysFrom ·))) = true := by kernel_rfl
theorem k18 : (Rows.fnExactGridAgreesSpec.vars.all (Try.prog.varReadable ·)) = true := by kernel_rfl
theorem k19 : (Try.f12.resultTypes.all (fun t => Try.prog.readableRec t && decide (t < Try.prog.types.size))) = true := by kernel_rfl
theorem k20 : ((Rows.fnExactGridAgreesRow.ifacesOut == Try.f12.resultTypes.toList.any (Try.prog.ifacesRec ·))) = true := by kernel_rfl
theorem k21 : ((Rows.fnExactGridAgreesRow.loopsOut == Try.f12.resultTypes.toList.any (Try.prog.loopsFrom ·))) = true := by kernel_rfl
theorem k22 : ((Rows.fnExactGridAgreesRow.plainKeys == Try.prog.plainKeys)) = true := by kernel_rfl
theorem k23 : (Rows.fnExactGridAgreesRow.shortTexts.isNone) = true := by kernel_rfl
theorem k28 : Rows.fnExactGridAgreesRow.domain.isEmpty = true := by kernel_rfl
theorem k28b : (Rows.fnExactGridAgreesRow.kinds == []) = true := by kernel_rfl
theorem k29 : ((Rows.fnExactGridAgreesRow.pinned == Rows.fnExactGridAgreesRow.pinnedBy)) = true := by kernel_rfl
theorem k30 : ((Rows.fnExactGridAgreesRow.veiled == (Try.f12.params.toList ++ Rows.fnExactGridAgreesSpec.plain.varTypes Try.prog ++ Try.f12.resultTypes.toList).any (Try.prog.veiledRec ·))) = true := by kernel_rfl
theorem k31 : (Rows.fnExactGridAgreesRow.veiledFits Try.prog Try.f12.params.toList (Try.f12.params.toList ++ Rows.fnExactGridAgreesSpec.plain.varTypes Try.prog ++ Try.f12.resultTypes.toList)) = true := by kernel_rfl
theorem closed : joinedFacts Try.prog 12 Try.f12 Rows.fnExactGridAgreesSpec Rows.fnExactGridAgreesRow = true :=
  joined_of _ _ _ _ _ k0 head_k1 head_k2 k3 k4 k5 head_k6 k7 head_k8 k9 k10 k11 k12 k13 k14 k15 k16 k17 k18 k19 k20 k21 k22 k23 head_k24 head_enter head_lifts head_make k28 k28b k29 k30 k31

theorem over : Rows.fnExactGridAgreesRow.holds Try.pinned (OpenSpec.ofChange Rows.fnExactGridAgreesSpec) :=
  OpenClaim.holds_of_wide 12 Try.f12 rfl rfl rfl rfl rfl rfl rfl ⟨rfl, rfl, rfl, rfl, rfl⟩ rfl rfl rfl rfl rfl (by kernel_rfl) Try.func12 closed
    (of_decide_eq_true (by kernel_rfl)) (by unfold Func.isWrapper; rw [if_neg (of_decide_eq_false (by kernel_rfl))]; exact ⟨rfl, rfl⟩)
    (fun os started H enc _ => lifted os started H enc)

theorem proved : Rows.FnExactGridAgreesSaid := over
end Go.Proofs.Ytgkekdiffgmllaa.fnExactGridAgrees
