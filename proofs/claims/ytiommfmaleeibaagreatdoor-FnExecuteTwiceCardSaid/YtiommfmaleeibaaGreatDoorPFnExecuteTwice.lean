/-
  Proved here:the law FnExecuteTwice returns true for every argument,and leaves its arguments as they were. The variables that the row lists read as listed;the card ties them to the text of the program.
-/
import Derived.Test.YtiommfmaleeibaaGreatDoorB02
import Derived.Test.YtiommfmaleeibaaGreatDoorB04
import Derived.Test.YtiommfmaleeibaaGreatDoorB10
import Derived.Test.YtiommfmaleeibaaGreatDoorTie
import Derived.Test.YtiommfmaleeibaaGreatDoorCards
import Derived.SevenTiedAt
import Derived.Lay
import Derived.Test.YtiommfmaleeibaaGreatDoorWFnExecuteTwice
set_option linter.unusedSimpArgs false
set_option linter.unusedVariables false
namespace Go.Proofs.YtiommfmaleeibaaGreatDoor.fnExecuteTwice
open Go.ChangeShapes Go.WideShapes Go.ChangeAt Go.RowKit
open Go.ChangeMaps (open_string shut_string)

/-- A heap that holds just what the row lists meets the condition: closed facts. -/
theorem door_met(os:Os)(args:Array Value):laidMetH Tryz.prog Rows.fnExecuteTwiceRow.laid ((World.laidAll Tryz.prog os Rows.fnExecuteTwiceRow.laid).forCall (fun _ _=>0) ⟨#[],args,[]⟩).memory:=
 by rw[MakeChecks.laidMetH_plain _ _ _ (by kernel_rfl)];exact laidMet_laidAll _ (by kernel_rfl) (by kernel_rfl)

set_option maxRecDepth 100000 in
theorem lifted(os:Os)(started:os.Started)(H:Type)(enc:TypeId×Value→H):
  ReturnsInHanded {} Tryz.checked os 4 .any (fun w args=>(Rows.fnExecuteTwiceSpec.pre enc Tryz.prog Tryz.f4 [] false w args∧laidMetH Tryz.prog Rows.fnExecuteTwiceRow.laid w)∧sizedMet enc Tryz.prog Tryz.f4 (OpenSpec.ofChange Rows.fnExecuteTwiceSpec) false w args) (Rows.fnExecuteTwiceSpec.post enc Tryz.prog Tryz.f4 false true false false):=by
 refine Ni (C:=Tryz.checked) (X:=fun w _=>laidMetH Tryz.prog Rows.fnExecuteTwiceRow.laid w) (fun _ _ _ hh h=>h.of_heap hh) Dm started (by kernel_rfl) Tryz.func4
  (ChangeSpec.witness_shaped (enc:=enc) (C:=Tryz.checked) (os:=os) (X:=fun w _=>laidMetH Tryz.prog Rows.fnExecuteTwiceRow.laid w) false (World.laidAll Tryz.prog os Rows.fnExecuteTwiceRow.laid) #[.slice none 0 0] 8 rfl (World.shaped_of_ZipB (by kernel_rfl) (by kernel_rfl)) (by kernel_rfl) (by kernel_rfl) (by kernel_rfl) (door_met os _)) ?_
 intro W base args ds gs before hval0 hW hL hsh;have hval:∀(j:Nat) t v,Tryz.f4.params[j]? =some t→args[j]? =some v→Value.okWide Tryz.prog W .any base t v:=hval0;have hW':=hW;obtain⟨p,q,hA0,hV,rfl,hfz,hnd⟩:=hW;have hA:DataW.TrodAll enc Tryz.prog W 0 (fun _=>true) true Tryz.f4.params.toList args.toList ds p:=hA0;rw[Tryz.params4] at hA hval;obtain⟨v0,vs0,d0,ds0,p0,q0,hargs,rfl,rfl,h0,r0⟩:=trodAll_cons hA;obtain⟨rfl,rfl,rfl⟩:=trodAll_nil r0;obtain rfl:args=#[v0]:=by cases args;simp_all
 have hgl:gs.length=4:=Kk hV;obtain⟨g1,g2,g3,g4,rfl⟩:∃g1 g2 g3 g4,gs=[g1,g2,g3,g4]:=by
  match gs,hgl with
  |[g1,g2,g3,g4],_=>exact⟨g1,g2,g3,g4,rfl⟩
 have lt0:∀x∈p0,x.block<W.heap.size:=by obtain⟨m,hm⟩:=h0;exact DataW.trod_lt m _ _ _ hm
 have w0:=Ib (hval 0 22 v0 rfl rfl) h0;clear hA0 hval0;have hT:=Gv (show laidMetH Tryz.prog Gw W from hL) hsh;refine(law_FnExecuteTwice v0 W w0 hT).mono fun e W' ⟨he,bel⟩=>?_
 subst he;exact⟨_,rfl,_,_,_,[],_,_,hW',trodAll_mk1 (shut_bool Tryz.underlying4 _),(trodAll_cons_mk (Below.trod Tw (by kernel_rfl) (of_decide_eq_true (by kernel_rfl)) h0 bel.out lt0) trodAll_mk0),Below.trodVars Tw bel.out (by kernel_rfl) hV,bel.out.frame _,fun h=>by cases h⟩

theorem k0:(Rows.fnExecuteTwiceRow.wf (OpenSpec.ofChange Rows.fnExecuteTwiceSpec))=true:=by kernel_rfl
theorem k3:(Tryz.f4.params.all (Tryz.prog.readableRec ·))=true:=by kernel_rfl
theorem k4:(namedTie Tryz.prog Rows.fnExecuteTwiceRow.named Rows.fnExecuteTwiceSpec.vars)=true:=by kernel_rfl
theorem k5:((Rows.fnExecuteTwiceRow.stops==[]))=true:=by kernel_rfl
theorem k7:((Rows.fnExecuteTwiceRow.knobs==[]))=true:=by kernel_rfl
theorem k9:((Rows.fnExecuteTwiceRow.inPlace==Tryz.prog.inPlace 4))=true:=by kernel_rfl
theorem k10:((Rows.fnExecuteTwiceRow.unfollowed==Tryz.prog.unfollowed 4))=true:=by kernel_rfl
theorem k11:((Rows.fnExecuteTwiceRow.recurses==Tryz.prog.recurses 4))=true:=by kernel_rfl
theorem k12:((Rows.fnExecuteTwiceRow.named==Tryz.prog.varsNamed 4))=true:=by kernel_rfl
theorem k13:((Rows.fnExecuteTwiceRow.maps==(Tryz.f4.params.toList++Rows.fnExecuteTwiceSpec.plain.varTypes Tryz.prog).any (Tryz.prog.mapsRec ·)))=true:=by kernel_rfl
theorem k14:((Rows.fnExecuteTwiceRow.ifaces==(Tryz.f4.params.toList++Rows.fnExecuteTwiceSpec.plain.varTypes Tryz.prog).any (Tryz.prog.ifacesRec ·)))=true:=by kernel_rfl
theorem k15:((Rows.fnExecuteTwiceRow.mapsOut==Tryz.prog.mapsAmong Tryz.f4.resultTypes.toList))=true:=by kernel_rfl
theorem k16:((Rows.fnExecuteTwiceRow.loops==(Tryz.f4.params.toList++Rows.fnExecuteTwiceSpec.plain.varTypes Tryz.prog).any (Tryz.prog.loopsFrom ·)))=true:=by kernel_rfl
theorem k17:((Rows.fnExecuteTwiceRow.wideKeys==(Tryz.f4.params.toList++Rows.fnExecuteTwiceSpec.plain.varTypes Tryz.prog++Tryz.f4.resultTypes.toList).any (Tryz.prog.wideKeysFrom ·)))=true:=by kernel_rfl
theorem k18:(Rows.fnExecuteTwiceSpec.vars.all (Tryz.prog.varReadable ·))=true:=by kernel_rfl
theorem k19:(Tryz.f4.resultTypes.all (fun t=>Tryz.prog.readableRec t&&decide (t<Tryz.prog.types.size)))=true:=by kernel_rfl
theorem k20:((Rows.fnExecuteTwiceRow.ifacesOut==Tryz.f4.resultTypes.toList.any (Tryz.prog.ifacesRec ·)))=true:=by kernel_rfl
theorem k21:((Rows.fnExecuteTwiceRow.loopsOut==Tryz.f4.resultTypes.toList.any (Tryz.prog.loopsFrom ·)))=true:=by kernel_rfl
theorem k22:((Rows.fnExecuteTwiceRow.plainKeys==Tryz.prog.plainKeys))=true:=by kernel_rfl
theorem k23:(Rows.fnExecuteTwiceRow.shortTexts.isNone)=true:=by kernel_rfl
theorem k28:Rows.fnExecuteTwiceRow.domain.isEmpty=true:=by kernel_rfl
theorem k28b:(Rows.fnExecuteTwiceRow.kinds==[])=true:=by kernel_rfl
theorem k29:((Rows.fnExecuteTwiceRow.pinned==Rows.fnExecuteTwiceRow.pinnedBy))=true:=by kernel_rfl
theorem k30:((Rows.fnExecuteTwiceRow.veiled==(Tryz.f4.params.toList++Rows.fnExecuteTwiceSpec.plain.varTypes Tryz.prog++Tryz.f4.resultTypes.toList).any (Tryz.prog.veiledRec ·)))=true:=by kernel_rfl
theorem k31:(Rows.fnExecuteTwiceRow.veiledFits Tryz.prog Tryz.f4.params.toList (Tryz.f4.params.toList++Rows.fnExecuteTwiceSpec.plain.varTypes Tryz.prog++Tryz.f4.resultTypes.toList))=true:=by kernel_rfl
theorem closed:joinedFacts Tryz.prog 4 Tryz.f4 Rows.fnExecuteTwiceSpec Rows.fnExecuteTwiceRow=true:=
 Jb _ _ _ _ _ k0 Dk Dj k3 k4 k5 Di k7 Dh k9 k10 k11 k12 k13 k14 k15 k16 k17 k18 k19 k20 k21 k22 k23 Gz Lv Lw Jc k28 k28b k29 k30 k31

theorem over:Rows.fnExecuteTwiceRow.holds Tryz.pinned (OpenSpec.ofChange Rows.fnExecuteTwiceSpec):=
 OpenClaim.holds_of_wide 4 Tryz.f4 rfl rfl rfl rfl rfl rfl rfl ⟨rfl,rfl,rfl,rfl,rfl⟩ rfl rfl rfl rfl rfl (by kernel_rfl) Tryz.func4 closed
  (of_decide_eq_true (by kernel_rfl)) (by unfold Func.isWrapper;rw[if_neg (of_decide_eq_false (by kernel_rfl))];exact⟨rfl,rfl⟩)
  (fun os started H enc _=>lifted os started H enc)

theorem proved:Rows.FnExecuteTwiceCardSaid:=
 Claim7.holds_tied_plain_at .later [] Rows.fnExecuteTwiceCard.laidKinds true Rows.fnExecuteTwiceCard.stood.harness Rows.fnExecuteTwiceCard.stood.looks
  over (fun _ h=>by cases h) (by kernel_rfl) (fun _ h=>by cases h) fnExecuteTwice_row_tie rfl ⟨rfl,rfl⟩ (by kernel_rfl) rfl
  (fun f fn hf hfn=>by
   obtain rfl:f=4:=Option.some.inj ((show Tryz.prog.funcNamed Rows.fnExecuteTwiceRow.func=some 4 by kernel_rfl).symm.trans hf)|>.symm
   obtain rfl:fn=Tryz.f4:=(Option.some.inj (Tryz.func4.symm.trans hfn)).symm
   exact⟨by kernel_rfl,fun j t ht=>by
    have hm:t∈Tryz.f4.params.toList:=by simpa using Array.mem_of_getElem? ht
    have hall:(Tryz.f4.params.toList.all fun u=> !Tryz.prog.wantsStandIn u)=true:=by kernel_rfl
    exact(show Tryz.prog.wantsStandIn t=false by simpa using List.all_eq_true.1 hall t hm)⟩)
  (by kernel_rfl)
end Go.Proofs.YtiommfmaleeibaaGreatDoor.fnExecuteTwice


