/-
  The walk of the law FnExecuteNone.
-/
import Derived.Test.YtiommfmaleeibaaGreatDoorB25
import Derived.Test.YtiommfmaleeibaaGreatDoorB27
import Derived.Test.YtiommfmaleeibaaGreatDoorB02
set_option linter.unusedSimpArgs false
set_option linter.unusedVariables false
namespace Go.Proofs.YtiommfmaleeibaaGreatDoor
open Go.RowKit

attribute [local go_sem] Zg Zf
set_option maxRecDepth 10000 in
set_option maxHeartbeats 4000000 in
theorem law_FnExecuteNone(v0:Value)(w:World)(h:Dl w v0)(hm:Wn w∧Xz w):Calls Tryz.prog 3 #[v0] w fun e w'=>e= .returned (.bool true)∧Ex w w':=by
 obtain⟨A,cap,xs,rfl,hl,hcap,hcap2,hS0,hbs⟩:=h;have hB:Pl w A xs:=⟨hS0,hbs⟩
 clear hS0 hbs;by_cases hbig:(1048576:Int)<xs.length
 ·go_in;go_wp2;go_ret;exact⟨rfl,Ex.refl _⟩
 have HM:=Zz hm.1;have HG:=Zz hm.2;clear hm;have KD:=Zz (fun w hB=>Jd A xs cap w hB hl hcap hcap2);go_in;go_wp2_with fail;refine(KD.out _ hB).mono ?_;rintro e u1 ⟨S,rfl,hs,hx⟩;clear hB hbig hl hcap hcap2 KD;obtain⟨l,rfl⟩:∃l,S=Bs l:=⟨_,Zst S⟩
 rw[Yu] at hs;have hS:Zo w u1 []:=⟨hx,trivial⟩
 have hC:=True.intro;clear hx;have ki:=fun w hG hm=>Np (Bs l) w hG hm
 have ks:=fun w=>Zva (Bs l) w
 by_cases hlong:700<l.length
 ·have e:Kq (Bs l)=⟨#[116,111,111,32,108,111,110,103,10]⟩:=by unfold Kq;rw[Yu,if_pos hlong]
  rw[e] at ki ks;have hlI:(700:Int)<((Bs l).size:Int):=by rw[Yu];omega
  clear e hlong hs;generalize Bs l=S at*;have KI:=Zz ki;have KS:=Zz ks;clear ki ks;go_wp2_with (first|((with_reducible refine(KS.out _).mono ?_);rintro e wn ⟨rfl,hx⟩;replace hS:=Zo.after (W:=w) hx;clear hx)|((with_reducible refine(KI.out _ (HG.out.ex Zo.exOf) (HM.out.ex Zo.exOf)).mono ?_);rintro e wn ⟨rfl,hx⟩;replace hS:=Zo.after (W:=w) hx;clear hx));exact Yp (v:= .bool true) (by simp[results,Tryz.results3,go_sem]) rfl
 ·have hlI:¬(700:Int)<((Bs l).size:Int):=by rw[Yu];omega
  have e:=Rm (l:=l) (by omega);rw[e] at ki ks;have k0:=fun w hG hm=>Np ⟨#[]⟩ w hG hm
  have e0:Kq ⟨#[]⟩=⟨#[112,105,101,99,101,115,32,48,10]⟩:=by
   have h:=Rm (l:=[]) (by simp);rw[Zim] at h;exact h
  rw[e0] at k0;have kc:=fun w=>Kx l (by omega) w
  have k2:=fun w hG hm=>Np (Bs (cmp l)) w hG hm
  rw[Rm (by have:=Zux l;omega),Zem] at k2;have hstr:=Ta (Ih (show Pv stX l≠[] by rw[Ky];simp[Vd]));rw[show Bs []=(⟨#[]⟩:ByteArray) from rfl] at hstr;have hstr2:(Bs (Pv stX l)).toList.isEmpty=false:=by simpa using hstr
  clear e e0 hlong hs hstr;generalize Bs (Pv stX l)=T at*;generalize Bs (cmp l)=S2 at*;generalize Bs l=S at*;have KI:=Zz ki;have KS:=Zz ks;have K0:=Zz k0;have KC:=Zz kc;have K2:=Zz k2;clear ki ks k0 kc k2;go_wp2_with (first|((with_reducible refine(KS.out _).mono ?_);rintro e wn ⟨rfl,hx⟩;replace hS:=Zo.after (W:=w) hx;clear hx)|((first|(with_reducible refine(KI.out _ (HG.out.ex Zo.exOf) (HM.out.ex Zo.exOf)).mono ?_)|(with_reducible refine(K0.out _ (HG.out.ex Zo.exOf) (HM.out.ex Zo.exOf)).mono ?_)|(with_reducible refine(K2.out _ (HG.out.ex Zo.exOf) (HM.out.ex Zo.exOf)).mono ?_));rintro e wn ⟨rfl,hx⟩;replace hS:=Zo.after (W:=w) hx;clear hx)|((with_reducible refine(KC.out _).mono ?_);rintro e wn ⟨rfl,hx⟩;replace hS:=Zo.after (W:=w) hx;clear hx));exact Yp (v:= .bool true) (by simp[results,Tryz.results3,go_sem]) rfl
end Go.Proofs.YtiommfmaleeibaaGreatDoor
