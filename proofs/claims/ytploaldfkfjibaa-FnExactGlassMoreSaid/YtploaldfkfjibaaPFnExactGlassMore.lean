/-
  Proved here: the law FnExactGlassMore returns true for every argument, and leaves its arguments as they were. No condition.
-/
import Derived.Test.YtploaldfkfjibaaRead
import Derived.Test.YtploaldfkfjibaaHead
import Derived.Test.YtploaldfkfjibaaWFnExactGlassMore
namespace Go.Proofs.Ytploaldfkfjibaa.fnExactGlassMore
open Go.ChangeShapes Go.WideShapes Go.ChangeAt Go.RowKit
open Go.ChangeMaps (open_string shut_string)

set_option maxRecDepth 100000 in
theorem lifted (os : Os) (started : os.Started) (H : Type) (enc : TypeId × Value → H) :
    ReturnsInHanded {} Try.checked os 14 .any (Rows.fnExactGlassMoreSpec.pre6 enc Try.prog Try.f14 Rows.fnExactGlassMoreRow.domain false) (Rows.fnExactGlassMoreSpec.post enc Try.prog Try.f14 false true false false) := by
  refine returnsInHanded_of_change (C := Try.checked) ownTry started (by kernel_rfl) Try.func14
    (ChangeSpec.witness6 (enc := enc) (C := Try.checked) false ⟨#[], #[.agg #[.int .i64 0, .int .i64 0, .slice none 0 0], .int .i64 0], []⟩ 8 (by kernel_rfl) (by kernel_rfl) (by kernel_rfl) (by kernel_rfl)) ?_
  intro W base args ds gs before hval0 hW _ _
  have hval : ∀ (j : Nat) t v, Try.f14.params[j]? = some t → args[j]? = some v → Value.okWide Try.prog W .any base t v := hval0
  have hW' := hW
  obtain ⟨p, q, hA0, hV, rfl, hfz, hnd⟩ := hW
  have hA : DataW.TrodAll enc Try.prog W 0 (fun _ => true) true Try.f14.params.toList args.toList ds p := hA0
  rw [Try.params14] at hA hval
  obtain ⟨v0, vs0, d0, ds0, p0, q0, hargs, rfl, rfl, h0, r0⟩ := trodAll_cons hA
  obtain ⟨v1, vs1, d1, ds1, p1, q1, rfl, rfl, rfl, h1, r1⟩ := trodAll_cons r0
  obtain ⟨rfl, rfl, rfl⟩ := trodAll_nil r1
  obtain rfl : args = #[v0, v1] := by cases args; simp_all
  obtain ⟨rfl, rfl⟩ := trodVars_none hV
  have lt0 : ∀ x ∈ p0, x.block < W.heap.size := by obtain ⟨m, hm⟩ := h0; exact DataW.trod_lt m _ _ _ hm
  have lt1 : ∀ x ∈ p1, x.block < W.heap.size := by obtain ⟨m, hm⟩ := h1; exact DataW.trod_lt m _ _ _ hm
  have w0 := read_glass (hval 0 24 v0 rfl rfl) h0
  have w1 := read_int (hval 1 3 v1 rfl rfl) h1
  clear hA0 hval0
  refine (law_FnExactGlassMore v0 v1 W w0 w1).mono fun e W' ⟨he, bel⟩ => ?_
  subst he
  exact ⟨_, rfl, _, _, _, [], _, [], hW', trodAll_mk1 (shut_bool Try.underlying4 _), (trodAll_cons_mk (Below.trod laidOutTry (by kernel_rfl) (of_decide_eq_true (by kernel_rfl)) h0 bel.out lt0) (trodAll_cons_mk (Below.trod laidOutTry (by kernel_rfl) (of_decide_eq_true (by kernel_rfl)) h1 bel.out lt1) trodAll_mk0)), rfl, bel.out.frame _, fun h => by cases h⟩

theorem k0 : (Rows.fnExactGlassMoreRow.wf (OpenSpec.ofChange Rows.fnExactGlassMoreSpec)) = true := by kernel_rfl
theorem k3 : (Try.f14.params.all (Try.prog.readableRec ·)) = true := by kernel_rfl
theorem k4 : (namedTie Try.prog Rows.fnExactGlassMoreRow.named Rows.fnExactGlassMoreSpec.vars) = true := by kernel_rfl
theorem k5 : ((Rows.fnExactGlassMoreRow.stops == [])) = true := by kernel_rfl
theorem k7 : ((Rows.fnExactGlassMoreRow.knobs == [])) = true := by kernel_rfl
theorem k9 : ((Rows.fnExactGlassMoreRow.inPlace == Try.prog.inPlace 14)) = true := by kernel_rfl
theorem k10 : ((Rows.fnExactGlassMoreRow.unfollowed == Try.prog.unfollowed 14)) = true := by kernel_rfl
theorem k11 : ((Rows.fnExactGlassMoreRow.recurses == Try.prog.recurses 14)) = true := by kernel_rfl
theorem k12 : ((Rows.fnExactGlassMoreRow.named == Try.prog.varsNamed 14)) = true := by kernel_rfl
theorem k13 : ((Rows.fnExactGlassMoreRow.maps == (Try.f14.params.toList ++ Rows.fnExactGlassMoreSpec.plain.varTypes Try.prog).any (Try.prog.mapsRec ·))) = true := by kernel_rfl
theorem k14 : ((Rows.fnExactGlassMoreRow.ifaces == (Try.f14.params.toList ++ Rows.fnExactGlassMoreSpec.plain.varTypes Try.prog).any (Try.prog.ifacesRec ·))) = true := by kernel_rfl
theorem k15 : ((Rows.fnExactGlassMoreRow.mapsOut == Try.prog.mapsAmong Try.f14.resultTypes.toList)) = true := by kernel_rfl
theorem k16 : ((Rows.fnExactGlassMoreRow.loops == (Try.f14.params.toList ++ Rows.fnExactGlassMoreSpec.plain.varTypes Try.prog).any (Try.prog.loopsFrom ·))) = true := by kernel_rfl
theorem k17 : ((Rows.fnExactGlassMoreRow.wideKeys == (Try.f14.params.toList ++ Rows.fnExactGlassMoreSpec.plain.varTypes Try.prog ++ Try.f14.resultTypes.toList).any (Try.prog.wideKeysFrom ·))) = true := by kernel_rfl
theorem k18 : (Rows.fnExactGlassMoreSpec.vars.all (Try.prog.varReadable ·)) = true := by kernel_rfl
theorem k19 : (Try.f14.resultTypes.all (fun t => Try.prog.readableRec t && decide (t < Try.prog.types.size))) = true := by kernel_rfl
theorem k20 : ((Rows.fnExactGlassMoreRow.ifacesOut == Try.f14.resultTypes.toList.any (Try.prog.ifacesRec ·))) = true := by kernel_rfl
theorem k21 : ((Rows.fnExactGlassMoreRow.loopsOut == Try.f14.resultTypes.toList.any (Try.prog.loopsFrom ·))) = true := by kernel_rfl
theorem k22 : ((Rows.fnExactGlassMoreRow.plainKeys == Try.prog.plainKeys)) = true := by kernel_rfl
theorem k23 : (Rows.fnExactGlassMoreRow.shortTexts.isNone) = true := by kernel_rfl
theorem k28 : Rows.fnExactGlassMoreRow.domain.isEmpty = true := by kernel_rfl
theorem k28b : (Rows.fnExactGlassMoreRow.kinds == []) = true := by kernel_rfl
theorem k29 : ((Rows.fnExactGlassMoreRow.pinned == Rows.fnExactGlassMoreRow.pinnedBy)) = true := by kernel_rfl
theorem k30 : ((Rows.fnExactGlassMoreRow.veiled == (Try.f14.params.toList ++ Rows.fnExactGlassMoreSpec.plain.varTypes Try.prog ++ Try.f14.resultTypes.toList).any (Try.prog.veiledRec ·))) = true := by kernel_rfl
theorem k31 : (Rows.fnExactGlassMoreRow.veiledFits Try.prog Try.f14.params.toList (Try.f14.params.toList ++ Rows.fnExactGlassMoreSpec.plain.varTypes Try.prog ++ Try.f14.resultTypes.toList)) = true := by kernel_rfl
theorem closed : joinedFacts Try.prog 14 Try.f14 Rows.fnExactGlassMoreSpec Rows.fnExactGlassMoreRow = true :=
  joined_of _ _ _ _ _ k0 head_k1 head_k2 k3 k4 k5 head_k6 k7 head_k8 k9 k10 k11 k12 k13 k14 k15 k16 k17 k18 k19 k20 k21 k22 k23 head_k24 head_enter head_lifts head_make k28 k28b k29 k30 k31

theorem over : Rows.fnExactGlassMoreRow.holds Try.pinned (OpenSpec.ofChange Rows.fnExactGlassMoreSpec) :=
  OpenClaim.holds_of_wide 14 Try.f14 rfl rfl rfl rfl rfl rfl rfl ⟨rfl, rfl, rfl, rfl, rfl⟩ rfl rfl rfl rfl rfl (by kernel_rfl) Try.func14 closed
    (of_decide_eq_true (by kernel_rfl)) (by unfold Func.isWrapper; rw [if_neg (of_decide_eq_false (by kernel_rfl))]; exact ⟨rfl, rfl⟩)
    (fun os started H enc _ => lifted os started H enc)

theorem proved : Rows.FnExactGlassMoreSaid := over
end Go.Proofs.Ytploaldfkfjibaa.fnExactGlassMore
