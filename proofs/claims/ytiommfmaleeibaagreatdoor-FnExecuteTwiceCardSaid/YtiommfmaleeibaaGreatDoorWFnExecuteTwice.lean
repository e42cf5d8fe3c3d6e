/-
  The walk of the law FnExecuteTwice.
-/
import Derived.Test.YtiommfmaleeibaaGreatDoorB25
import Derived.Test.YtiommfmaleeibaaGreatDoorB27
import Derived.Test.YtiommfmaleeibaaGreatDoorB02
set_option linter.unusedSimpArgs false
set_option linter.unusedVariables false
namespace Go.Proofs.YtiommfmaleeibaaGreatDoor
open Go.RowKit

attribute [local go_sem] Zg Zf
set_option maxRecDepth 10000 in
set_option maxHeartbeats 4000000 in
theorem law_FnExecuteTwice(v0:Value)(w:World)(h:Dl w v0)(hm:Wn w∧Xz w):Calls Tryz.prog 4 #[v0] w fun e w'=>e= .returned (.bool true)∧Ex w w':=by
 obtain⟨A,cap,xs,rfl,hl,hcap,hcap2,hS0,hbs⟩:=h;have hB:Pl w A xs:=⟨hS0,hbs⟩
 clear hS0 hbs;by_cases hbig:(1048576:Int)<xs.length
 ·go_in;go_wp2;go_ret;exact⟨rfl,Ex.refl _⟩
 have HM:=Zz hm.1;have HG:=Zz hm.2;clear hm;have KD:=Zz (fun w hB=>Jd A xs cap w hB hl hcap hcap2);go_in;go_wp2_with fail;refine(KD.out _ hB).mono ?_;rintro e u1 ⟨S,rfl,hs,hx⟩;clear hB hbig hl hcap hcap2 KD;obtain⟨l,rfl⟩:∃l,S=Bs l:=⟨_,Zst S⟩
 rw[Yu] at hs;have hS:Zo w u1 []:=⟨hx,trivial⟩
 have hC:=True.intro;clear hx;have ki:=fun w hG hm=>Np (Bs l) w hG hm
 have ks:=fun w=>Zva (Bs l) w
 have kc:=fun w=>Kx l (by omega) w
 generalize Kq (Bs l)=T0 at*;have hcl:=Zux l;have hcm:=Zuy l;generalize cmp l=s at*;have KI:=Zz ki;have KS:=Zz ks;have KC:=Zz kc;clear ki ks kc;by_cases hlong:690<s.length
 ·have hlI:(690:Int)<((Bs s).size:Int):=by rw[Yu];omega
  clear hlong hs hcl hcm;generalize Bs s=S2 at*;generalize Bs l=S at*;go_wp2_with (first|((with_reducible refine(KS.out _).mono ?_);rintro e wn ⟨rfl,hx⟩;replace hS:=Zo.after (W:=w) hx;clear hx)|((with_reducible refine(KI.out _ (HG.out.ex Zo.exOf) (HM.out.ex Zo.exOf)).mono ?_);rintro e wn ⟨rfl,hx⟩;replace hS:=Zo.after (W:=w) hx;clear hx)|((with_reducible refine(KC.out _).mono ?_);rintro e wn ⟨rfl,hx⟩;replace hS:=Zo.after (W:=w) hx;clear hx));exact Yp (v:= .bool true) (by simp[results,Tryz.results4,go_sem]) rfl
 ·have hlI:¬(690:Int)<((Bs s).size:Int):=by rw[Yu];omega
  have hz2:(Bs s).size≤690:=by rw[Yu];omega
  have ka:=fun w hG hm=>Np (Bs s) w hG hm
  rw[Rm (by omega)] at ka;have kb:=fun w hG hm=>Np (Bs (s++(Th++[10]))) w hG hm
  rw[Rm (by simp[Th];omega),Zmt hcm,←Xk s,←Xk _ (Vd _),←Xk _ (Rl _++[10])] at kb;have kd:=fun w hG hm=>Np (Bs (s++(Th++[10]++(Th++[10])))) w hG hm
  rw[Rm (by simp[Th];omega),Zqo hcm,←Xk s,←Xk _ (Vd _),←Xk _ (Rl _++[10]),←Xk _ (Rl _++[10])] at kd;have hel:=Zld (s:=s) (by omega);have hpl:=Zxt (Yb stX s).1;have kl:=fun w=>Ft (Pv stX s) (by rw[Ky];simp only[List.length_append];omega) (by rw[Ky];simp[Vd]<;>omega) w
  rw[show nl (Pv stX s) ((Pv stX s).length-1)=(Yb stX s).2.length from Zle (Zlf stX s),Ky,List.drop_left' rfl] at kl;rw[Ky] at ka;have hext:(Bs ((Yb stX s).2++Vd (Yb stX s).1)).extract 0 (Yb stX s).2.length=Bs (Yb stX s).2:=by rw[Oz,List.take_left' rfl]
  have hsa:(Bs ((Yb stX s).2++Vd (Yb stX s).1)).size=(Yb stX s).2.length+(Vd (Yb stX s).1).length:=by rw[Yu,List.length_append]
  have hext2:(Bs (Yb stX s).2++Bs (Rl (Yb stX s).1++[10])++Bs (Vd (Yb stX s).1)).extract (Yb stX s).2.length ((Yb stX s).2.length+(Rl (Yb stX s).1++[10]).length)=Bs (Rl (Yb stX s).1++[10]):=by
   rw[Xk,Xk,Ro,List.append_assoc,List.drop_left' rfl,List.take_left' (by omega)]
  have hsb:(Bs (Yb stX s).2++Bs (Rl (Yb stX s).1++[10])++Bs (Vd (Yb stX s).1)).size=(Yb stX s).2.length+(Rl (Yb stX s).1++[10]).length+(Vd (Yb stX s).1).length:=by rw[Xk,Xk,Yu,List.length_append,List.length_append]
  have hzN:(Bs (Rl (Yb stX s).1++[10])).size≤300:=by rw[Yu];simp;omega
  have hszN:(Bs (Rl (Yb stX s).1++[10])).size=(Rl (Yb stX s).1++[10]).length:=Yu _;have hzO:(Bs (Yb stX s).2).size≤8000000:=by rw[Yu];omega
  have hzP:(Bs (Vd (Yb stX s).1)).size≤30:=by rw[Yu];omega
  have hszP:(Bs (Vd (Yb stX s).1)).size=(Vd (Yb stX s).1).length:=Yu _;rw[show Bs (Th++[10])=(⟨#[115,104,111,119,10]⟩:ByteArray) from rfl] at kb;rw[show Bs (Th++[10]++(Th++[10]))=(⟨#[115,104,111,119,10,115,104,111,119,10]⟩:ByteArray) from rfl] at kd;generalize hN:Bs (Rl (Yb stX s).1++[10])=ONE at*;generalize (Rl (Yb stX s).1++[10]).length=n1 at*;generalize Bs ((Yb stX s).2++Vd (Yb stX s).1)=TA at*;generalize Bs (Yb stX s).2=OT at*;generalize Bs (Vd (Yb stX s).1)=PT at*;generalize hno:(Yb stX s).2.length=no at*;generalize (Vd (Yb stX s).1).length=np at*;generalize Bs s=S2 at*;generalize Bs l=S at*;have hno8:no≤8000000:=by omega
  clear hno hel hs hcl hcm hlong hN;have hw:IntKind.i64.wrap ((TA.size:Int)-(PT.size:Int))=(no:Int):=by rw[hsa,hszP,Zt _ (by omega)];omega
  have hle:(no:Int)≤(TA.size:Int):=by omega
  have h0:(0:Int)≤(no:Int):=by omega
  generalize hTB:OT++ONE++PT=TB at kb hext2 hsb;have hw2:IntKind.i64.wrap ((TB.size:Int)-(PT.size:Int))=((no+n1:Nat):Int):=by rw[hsb,hszP,Zt _ (by omega)];omega
  have hle2:((no+n1:Nat):Int)≤(TB.size:Int):=by omega
  have h02:(no:Int)≤((no+n1:Nat):Int):=by omega
  have h03:(0:Int)≤((no+n1:Nat):Int):=by omega
  generalize no+n1=m1 at*;clear hTB hsb hszN;have HSA:=Zz hsa;have HSP:=Zz hszP;clear hsa hszP;have KA:=Zz ka;have KB:=Zz kb;have KL:=Zz kl;clear ka kb kl;have KD:=Zz kd;clear kd;go_upto_region 15 with(first|((with_reducible refine(KS.out _).mono ?_);rintro e wn ⟨rfl,hx⟩;replace hS:=Zo.after (W:=w) hx;clear hx)|((first|(with_reducible refine(KI.out _ (HG.out.ex Zo.exOf) (HM.out.ex Zo.exOf)).mono ?_)|(with_reducible refine(KA.out _ (HG.out.ex Zo.exOf) (HM.out.ex Zo.exOf)).mono ?_)|(with_reducible refine(KB.out _ (HG.out.ex Zo.exOf) (HM.out.ex Zo.exOf)).mono ?_));rintro e wn ⟨rfl,hx⟩;replace hS:=Zo.after (W:=w) hx;clear hx)|((with_reducible refine(KC.out _).mono ?_);rintro e wn ⟨rfl,hx⟩;replace hS:=Zo.after (W:=w) hx;clear hx)|((with_reducible refine(KL.out _).mono ?_);rintro e wn ⟨rfl,hx⟩;replace hS:=Zo.after (W:=w) hx;clear hx));refine Hw (fun _ w2=>Ex w w2) false (by kernel_rfl) hS.ex.drew ?_;clear hS hC;iterate 2 (apply Zp;rfl;intro b u B Q q;go_wp2;exact q _ trivial B;exact⟨_,rfl⟩)
  (apply Zp;rfl;intro b u B Q q;go_wp2_with (with_reducible refine Yw (KD.out _ (HG.out.ex B) (HM.out.ex B)) fun wn hx=>?_);exact q _ trivial (B.trans hx);exact⟨_,rfl⟩);iterate 15 (apply Zp;rfl;intro b u B Q q;go_wp2;exact q _ trivial B;exact⟨_,rfl⟩)
  refine Zn ?_;intro wz hz;have hE:=hz;go_wp2_with fail;refine Zu (v:= .bool true) ?_ rfl ⟨rfl,?_⟩
  ·simp[results,Tryz.results4,go_sem]
  ·exact hz
end Go.Proofs.YtiommfmaleeibaaGreatDoor
