/-
  Proved:what functions compute,part 4. No condition.
-/
import Derived.Test.YtiommfmaleeibaaGreatDoorRows
import Derived.JoinedOf
set_option linter.unusedSimpArgs false
set_option linter.unusedVariables false
set_option maxRecDepth 20000
set_option maxHeartbeats 8000000
namespace Go.Proofs.YtiommfmaleeibaaGreatDoor
open Go.Proofs.Tryz
section
theorem Lx(r:List Char):∀w:List Char,w.all (fun c=>c !=Char.ofNat 32)=true→wordsSigns (w++Char.ofNat 32::r)=w::wordsSigns r
 |[],_=>by rw[List.nil_append];rfl
 |c::w,h=>by
  simp only[List.all_cons,Bool.and_eq_true] at h
  have ih:=Lx r w h.2
  have hc:c≠Char.ofNat 32:=by simpa using h.1
  rw[List.cons_append]
  rw[wordsSigns.eq_def]
  split
  ·rename_i heq;cases heq
  ·rename_i r' heq
   injection heq with e1 e2
   exact absurd e1 hc
  ·rename_i c' r' _ heq
   injection heq with e1 e2
   subst e1;subst e2
   rw[ih]

def Zby:List Nat:=[104,97,114,110,101,115,115]
def Zbx:List Nat:=[99,97,53,97,99,54,52,101,55,55,51,98,52,100,52,53,57,48,50,99,56,99,99,100,51,57,50,49,52,101,101,51,48,52,57,102,50,101,57,49,55,55,48,99,56,54,97,50,99,56,102,52,99,101,49,100,100,97,54,54,101,50,100,51]
def Es:List Nat:=[99,117,116]
def Hb:List Nat:=[97,116,32,108,111,111,112,46,101,120,97,109,112,108,101,47,112,111,108,97,114,105,115,101,100,108,105,103,104,116,47,108,97,119,115,46,70,110,69,120,101,99,117,116,101,78,111,110,101,32,108,111,111,112,46,101,120,97,109,112,108,101,47,112,111,108,97,114,105,115,101,100,108,105,103,104,116,47,108,97,119,115,46,70,110,69,120,101,99,117,116,101,84,119,105,99,101,32,108,111,111,112,46,101,120,97,109,112,108,101,47,112,111,108,97,114,105,115,101,100,108,105,103,104,116,47,108,97,119,115,46,70,110,69,120,101,99,117,116,101,87,104,97,116,32,108,111,111,112,46,101,120,97,109,112,108,101,47,112,111,108,97,114,105,115,101,100,108,105,103,104,116,47,108,97,119,115,46,70,110,69,120,101,99,117,116,101,77,101,116,101,114,32,108,111,111,112,46,101,120,97,109,112,108,101,47,112,111,108,97,114,105,115,101,100,108,105,103,104,116,47,108,97,119,115,46,70,110,69,120,97,99,116,69,120,101,99,117,116,101]
def Pj(l:List Nat):List Char:=l.map Char.ofNat
def Zxq:List Char:=Pj Zby++Char.ofNat 32::(Pj Zbx++Char.ofNat 32::(Pj Es++Char.ofNat 32::Pj Hb))

theorem Zus:Tryz.prog.initOrder=String.ofList Zxq:=by kernel_rfl
theorem Zqi:Tryz.prog.initOrder.toList=Zxq:=(congrArg String.toList Zus).trans String.toList_ofList
theorem Zqh:wordsSigns Tryz.prog.initOrder.toList=Pj Zby::Pj Zbx::Pj Es::wordsSigns (Pj Hb):=by
 rw[Zqi];unfold Zxq;rw[Lx _ _ (by kernel_rfl),Lx _ _ (by kernel_rfl),Lx _ _ (by kernel_rfl)]
theorem Kn:behindMainWord (wordsSigns Tryz.prog.initOrder.toList)=Pj Es::wordsSigns (Pj Hb):=by
 rw[Zqh];generalize wordsSigns (Pj Hb)=T
 kernel_rfl


theorem Zdz(P:Program)(T:List (List Char))(h:behindMainWord (wordsSigns P.initOrder.toList)=Pj Es::T):(P.make==some Make.cut)=true:=by
 unfold Program.make;rw[h];rfl
theorem Zik(P:Program)(T:List (List Char))(h:behindMainWord (wordsSigns P.initOrder.toList)=Pj Es::T):(false==P.liftsFinal)=true:=by
 unfold Program.liftsFinal Program.headLifts;rw[h];rfl
theorem Zij(P:Program)(T:List (List Char))(h:behindMainWord (wordsSigns P.initOrder.toList)=Pj Es::T)
  (h1:P.laysLater=false) (h2:P.bearsReflect=false) (h3:P.doorFits []=true):P.mayEnter=true:=by
 unfold Program.mayEnter;rw[h];dsimp only
 have e:stripLifts liftWords (Pj Es::T)=([],Pj Es::T):=rfl;rw[e,h1,h2,h3];rfl
theorem Cu:Tryz.prog.laysLater=false:=by kernel_rfl
theorem Ha:Tryz.prog.bearsReflect=false:=by kernel_rfl
theorem Aa:Tryz.prog.doorFits []=true:=by kernel_rfl
theorem Jc:(Tryz.prog.make==some Make.cut)=true:=Zdz _ _ Kn
theorem Lw:(false==Tryz.prog.liftsFinal)=true:=Zik _ _ Kn
theorem Lv:Tryz.prog.mayEnter=true:=Zij _ _ Kn Cu Ha Aa
theorem Jb(P:Program)(f:FuncId)(fn:Func)(s:ChangeSpec)(c:OpenClaim)
  (k0:(c.wf (OpenSpec.ofChange s))=true)
  (k1:(laidOutB P)=true)
  (k2:(mapsRowed P)=true)
  (k3:(fn.params.all (P.readableRec ·))=true)
  (k4:(namedTie P c.named s.vars)=true)
  (k5:((c.stops==[]))=true)
  (k6:((P.stops==[]))=true)
  (k7:((c.knobs==[]))=true)
  (k8:((P.stopKnobs==[]))=true)
  (k9:((c.inPlace==P.inPlace f))=true)
  (k10:((c.unfollowed==P.unfollowed f))=true)
  (k11:((c.recurses==P.recurses f))=true)
  (k12:((c.named==P.varsNamed f))=true)
  (k13:((c.maps==(fn.params.toList++s.plain.varTypes P).any (P.mapsRec ·)))=true)
  (k14:((c.ifaces==(fn.params.toList++s.plain.varTypes P).any (P.ifacesRec ·)))=true)
  (k15:((c.mapsOut==P.mapsAmong fn.resultTypes.toList))=true)
  (k16:((c.loops==(fn.params.toList++s.plain.varTypes P).any (P.loopsFrom ·)))=true)
  (k17:((c.wideKeys==(fn.params.toList++s.plain.varTypes P++fn.resultTypes.toList).any (P.wideKeysFrom ·)))=true)
  (k18:(s.vars.all (P.varReadable ·))=true)
  (k19:(fn.resultTypes.all (fun t=>P.readableRec t&&decide (t<P.types.size)))=true)
  (k20:((c.ifacesOut==fn.resultTypes.toList.any (P.ifacesRec ·)))=true)
  (k21:((c.loopsOut==fn.resultTypes.toList.any (P.loopsFrom ·)))=true)
  (k22:((c.plainKeys==P.plainKeys))=true)
  (k23:(c.shortTexts.isNone)=true)
  (k24:(P.stopsHeard)=true)
  (k25:(P.mayEnter)=true)
  (k26:((c.lifted==P.liftsFinal))=true)
  (k27:((P.make==some c.make))=true)
  (k28:c.domain.isEmpty=true) (k28b:(c.kinds==[])=true)
  (k29:((c.pinned==c.pinnedBy))=true)
  (k30:((c.veiled==(fn.params.toList++s.plain.varTypes P++fn.resultTypes.toList).any (P.veiledRec ·)))=true)
  (k31:(c.veiledFits P fn.params.toList (fn.params.toList++s.plain.varTypes P++fn.resultTypes.toList))=true)
  :joinedFacts P f fn s c=true:=by
 unfold joinedFacts;simp only[k0,k1,k2,k3,k4,k5,k6,k7,k8,k9,k10,k11,k12,k13,k14,k15,k16,k17,k18,k19,k20,k21,k22,k23,k24,k25,k26,k27,k28,k28b,if_true,k29,k30,k31,Bool.and_self]
theorem Dk:(laidOutB prog)=true:=by kernel_rfl
theorem Dj:(mapsRowed prog)=true:=by kernel_rfl
theorem Di:((Tryz.prog.stops==[]))=true:=by kernel_rfl
theorem Dh:((Tryz.prog.stopKnobs==[]))=true:=by kernel_rfl
theorem Gz:(Tryz.prog.stopsHeard)=true:=by kernel_rfl
end
end Go.Proofs.YtiommfmaleeibaaGreatDoor
