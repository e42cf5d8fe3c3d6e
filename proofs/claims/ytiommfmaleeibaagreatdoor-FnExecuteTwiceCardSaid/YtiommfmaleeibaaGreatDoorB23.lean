/-
  Proved:what functions compute,part 23. No condition.
-/
import Derived.Test.YtiommfmaleeibaaGreatDoorB22
set_option linter.unusedSimpArgs false
set_option linter.unusedVariables false
set_option maxRecDepth 20000
set_option maxHeartbeats 8000000
namespace Go.Proofs.YtiommfmaleeibaaGreatDoor
open Go.Proofs.Tryz
section
open Go.RowKit

attribute [local go_sem] Zg Zf
theorem Zvq{p:Nat}{ty':TypeId}{pos:String}{after:Array Edge}:Qu prog 128 {dst:=some p,op:= .alloc 128,type:=ty',pos:=pos,after:=after,guard:=none} p #[.string ⟨#[]⟩,oo,oo,oo,oo,oo,oo,oo,oo,oo,oo,oo,oo, .int .u32 0]:=⟨rfl,rfl,fun ρ w=>by simp[execOp,go_sem]⟩
theorem Zrr:(Tryz.prog.info? 128).map (·.size)=some 14:=by kernel_rfl
theorem Zfo(h:Int)(b:Nat):0≤Ps h b∧Ps h b<4294967296:=by
 unfold Ps;omega
theorem Ap(l:Ub)(v:M4):0≤(Uy l v).1∧(Uy l v).1<4294967296:=by
 unfold Uy;split
 ·exact Zfo _ _
 ·simp
def Znr(c:Con):Ub:=if (sof c.x c.y).2&&(Uy c.b (sof c.x c.y).1).2 then Lib.itoa (Uy c.b (sof c.x c.y).1).1 else [110,111]
theorem Zfn(c:Con)(hl:c.b.length≤1048576) (bc:Nat)(w:World)(hG:Xz w)(hm:Wn w)(hb:Box w bc 55 c.cells):Calls prog 27 #[.pointer (some ⟨bc,0,none⟩), .string ⟨#[115,117,109]⟩] w (Uh bc w (c,Znr c)):=by
 have k1:=fun w=>Zyk c.x c.y w
 obtain⟨a,HA⟩:=nm (Znr c);rw[←HA.out];unfold Znr at HA;rcases hv:sof c.x c.y with⟨v,fine⟩;rw[hv] at k1 HA;simp only at HA;clear hv;have hbd:=Ap c.b v;have k2:∃(RS:ByteArray) (E:M4) (u2:Nat),u2<4294967296∧((Uy c.b v).2=true→(Uy c.b v).1=(u2:Int))∧∀w,Xz w→Wn w→Calls prog 81 #[(Bs c.b),v.v] w fun e w'=>e= .returned (.tuple #[Zru RS E u2, .bool (Uy c.b v).2])∧Ex w w':=by
  have k:=fun w (_:Xz w) hm=>Zrs c.b hl v w hm
  unfold Zrt at k;rcases hc:(Uy c.b v).2 with _|_
  ·rw[hc] at k;exact⟨⟨#[]⟩,M4.none,0,by omega,fun h=>absurd h Bool.false_ne_true,k⟩
  ·rw[hc] at k;refine⟨Bs c.b,v,(Uy c.b v).1.toNat,by omega,fun _=>by omega,?_⟩;rw[show(((Uy c.b v).1.toNat:Nat):Int)=(Uy c.b v).1 by omega];exact k
 obtain⟨RS,⟨⟨p1,p2,p3⟩,⟨q1,q2,q3⟩,⟨r1,r2,r3⟩,⟨s1,s2,s3⟩⟩,u2,hu,hq,k2⟩:=k2;generalize Uy c.b v=Q at*;obtain⟨h,can⟩:=Q;simp only at hq k2 HA;clear hbd hl;have kf:=fun w ht=>Zfq u2 (by omega) w ht
 have hwr:IntKind.u64.wrap (u2:Int)=(u2:Int):=by rw[IntKind.wrap_u64];omega
 obtain⟨TS,HTS⟩:=nm (Bs (Lib.itoa u2));rw[←HTS.out] at kf;have HQ:=Zz hq;clear hq hu;obtain⟨⟨a1,a2,a3⟩,⟨b1,b2,b3⟩,⟨c1,c2,c3⟩,⟨d1,d2,d3⟩⟩:=v;simp only[m4v,M4.v,jvv,Zru] at k1 k2;have K1:=Zz k1;have K2:=Zz k2;have KF:=Zz kf;have HM:=Zz hm;have HG:=Zz hG;have HB:=Zz hb;clear k1 k2 kf hm hG;have hS:Zo w w [(bc,55,c.cells)]:=⟨Ex.refl w,hb,trivial⟩
 have hC:=hS.rd;simp only[Zr,Zq] at hC;unfold Con.cells at hC;have z0:=hb.lt;clear hb;go_in;go_upto_region 30 with((with_reducible apply Zo.see w;exact K1.out _);clear hS hC;intro w1 hS hC;simp only[Zr,Zq,Zy] at hC;unfold Con.cells at hC);replace hS:Zo w (w1.alloc (.cells #[a1,a2,a3,b1,b2,b3,c1,c2,c3,d1,d2,d3] 35)) _:=inferInstance;clear hC z0 K1;generalize w1.alloc (.cells #[a1,a2,a3,b1,b2,b3,c1,c2,c3,d1,d2,d3] 35)=W1 at*;generalize w1.heap.size=g1 at*;have hS0:=hS;refine Rv hS0 9 1 128 19 151 #[.string ⟨#[]⟩,oo,oo,oo,oo,oo,oo,oo,oo,oo,oo,oo,oo, .int .u32 0] #[RS,p1,p2,p3,q1,q2,q3,r1,r2,r3,s1,s2,s3, .int .u32 u2] (by kernel_rfl) (by decide) ?_;iterate 5 (apply Zp;rfl;intro b u B Q q;have hS:=B.sees;have hC:=hS.rd;simp only[Zr,Zq] at hC;unfold Con.cells at hC;go_wp2;exact q _ (Ex.refl _) B;exact⟨_,rfl⟩)
 (apply Zp;rfl;intro b u B Q q;go_wp2_with (with_reducible refine Yw (K2.out _ (HG.out.ex (hS0.ex.trans B.sees.ex)) (HM.out.ex (hS0.ex.trans B.sees.ex))) fun wn hx=>?_);exact q _ hx (B.go hx);exact⟨_,rfl⟩);iterate 3 (apply Zp;rfl;intro b u B Q q;go_wp2;exact q _ (Ex.refl _) B;exact⟨_,rfl⟩)
 refine Zn ⟨⟨_,rfl,Zvq⟩,⟨_,rfl,Wy Zrr rfl (by kernel_rfl)⟩,show(19:Nat)<164 by decide,fun g0 wz hg0 hS=>?_⟩;simp only[Act.put,Zx,Zw,Zv,Nat.reduceAdd,List.drop_succ_cons,List.drop_zero];clear hS0;have hC:=hS.rd;simp only[Zr,Zq] at hC;have hE:=hS.ex;go_wp2_with fail;refine Yw (KF.out _ (HM.out.ex hE).tab) fun w9 hx9=>?_
 replace hE:=hE.trans hx9;clear hx9 hC hS hg0 K2 KF hwr;rcases fine with _|_<;>rcases can with _|_
 all_goals
  have e:=HA.out;simp only[Bool.and_false,Bool.false_and,Bool.and_self,Bool.false_eq_true,if_false,if_true] at e
 ·subst e;go_wp2;refine Zu (v:= .tuple #[TS,false,true]) ?_ rfl (Xo HB.out rfl hE);simp[results,results27,go_sem]
 ·subst e;go_wp2;refine Zu (v:= .tuple #[TS,false,true]) ?_ rfl (Xo HB.out rfl hE);simp[results,results27,go_sem]
 ·subst e;go_wp2;refine Zu (v:= .tuple #[TS,false,true]) ?_ rfl (Xo HB.out rfl hE);simp[results,results27,go_sem]
 ·rw[HQ.out rfl] at e;subst e;go_wp2;refine Zu (v:= .tuple #[TS,true,true]) ?_ rfl (Xo HB.out HTS.out hE);simp[results,results27,go_sem]
end
section
open Go.RowKit

attribute [local go_sem] Zg Zf
def Qz(s:Ub)(p q:Int):Ub×Bool:=if Wl p q then (if (Wk (rot p (-q)) s).2 then Wk (Wk (rot p (-q)) s).1 (rot p q) else ([],false)) else ([],false)
theorem Fx(p q:Int):(⟨#[114]⟩:ByteArray)++Bs (Lib.itoa p)++⟨#[58]⟩++Bs (Lib.itoa q)=Bs (rot p q):=by
 unfold rot;apply Te;simp[Mt,Bs]
theorem Cx{p q:Int}(h1: -1000000≤p∧p≤1000000)(h2: -1000000≤q∧q≤1000000):(rot p q).length≤50:=by
 have:=Vi p (by omega) (by omega)
 have:=Vi q (by omega) (by omega)
 unfold rot;simp only[List.length_cons,List.length_append];omega
theorem Zyd{a b:Ub}:(Wk a b).1.length≤191:=by
 rcases hk:(Wk a b).2 with _|_
 ·unfold Wk at hk ⊢;split at hk
  ·cases hk
  ·rename_i h;rw[if_neg h];simp
 ·obtain⟨ps,hp⟩:=Option.isSome_iff_exists.1 (Aw hk).1;exact(Vx hp).1
theorem Zfm{s:Ub}{p q:Int}(h:(Qz s p q).2=true):(Ys (Qz s p q).1).isSome=true:=by
 unfold Qz at h ⊢;split
 ·rename_i h1;rw[if_pos h1] at h;split
  ·rename_i h2;rw[if_pos h2] at h;exact(Aw h).1
  ·rename_i h2;rw[if_neg h2] at h;cases h
 ·rename_i h1;rw[if_neg h1] at h;cases h
theorem Zvp(s:Ub)(hl:s.length≤100000)(p q:Int)(hp: -1000000≤p∧p≤1000000)(hq: -1000000≤q∧q≤1000000)(w:World)(hm:Wn w):Calls prog 69 #[(Bs s),p,q] w fun e w'=>e= .returned (.tuple #[.string (Bs (Qz s p q).1), .bool (Qz s p q).2])∧Ex w w':=by
 have kd:=fun w=>Sf p q w
 have kp:=fun w ht=>Oh p (by omega) (by omega) w ht
 have kn:=fun w ht=>Oh (-q) (by omega) (by omega) w ht
 have kq:=fun w ht=>Oh q (by omega) (by omega) w ht
 have r1:=Cx (p:=p) (q:= -q) hp (by omega);have r2:=Cx (p:=p) (q:=q) hp hq;have k1:=fun w hm=>Hh (rot p (-q)) s (by omega) (by omega) w hm
 have k2:=fun x (hx:x.length≤191) w hm=>Hh x (rot p q) (by omega) (by omega) w hm
 have hz1:(Bs (Lib.itoa p)).size≤21:=by rw[Yu];exact Vi p (by omega) (by omega)
 have hz2:(Bs (Lib.itoa (-q))).size≤21:=by rw[Yu];exact Vi (-q) (by omega) (by omega)
 have hz3:(Bs (Lib.itoa q)).size≤21:=by rw[Yu];exact Vi q (by omega) (by omega)
 rw[←Fx] at k1;simp only[←Fx p q] at k2;have hng:IntKind.i64.wrap (-q)= -q:=Zt _ (by omega);have hng0:IntKind.i64.wrap (0-q)= -q:=by rw[Zt _ (by omega)];omega
 have hbt:Qz s p q=if Wl p q then (if (Wk (rot p (-q)) s).2 then Wk (Wk (rot p (-q)) s).1 (rot p q) else ([],false)) else ([],false):=rfl
 have e0:Bs []=(⟨#[]⟩:ByteArray):=rfl;replace k2:=k2 (Wk (rot p (-q)) s).1 Zyd;rcases hj:Wk (rot p (-q)) s with⟨x,okx⟩;rw[hj] at k1 k2 hbt;simp only at k1 k2 hbt;rcases hj2:Wk x (rot p q) with⟨y,oky⟩;rw[hj2] at k2 hbt;simp only at k2;obtain⟨R,HR⟩:=nm (Bs (Qz s p q).1);obtain⟨ok,HK⟩:=nm ((Qz s p q).2);rw[←HR.out,←HK.out];rw[hbt] at HR HK;clear hj hj2 hbt r1 r2 hp hq hl;unfold Rf at kd;generalize Bs (Lib.itoa p)=P at*;generalize Bs (Lib.itoa (-q))=M at*;generalize Bs (Lib.itoa q)=Q at*;generalize Bs x=X at*;obtain⟨Y,HY⟩:=nm (Bs y);rw[←HY.out] at k2;generalize Bs s=S at*;generalize Wl p q=dk at*;generalize Tm p q=cc at*;generalize Tl p q=cs at*;obtain⟨c1,c2,c3⟩:=cc;obtain⟨s1,s2,s3⟩:=cs;obtain⟨hS,hC⟩:=s0 w;have HM:=Zz hm;clear hm;rcases dk with _|_
 ·have hk:=HK.out;have hr:=HR.out;simp only[Bool.false_eq_true,if_false,if_true] at hk hr kd;rw[e0] at hr;subst hk hr;clear HK HR;simp only[Fr.v,Fr.none] at kd;have KD:=Zz kd;have KP:=Zz kp;have KN:=Zz kn;have KQ:=Zz kq;have K1:=Zz k1;have K2:=Zz k2;clear kd kp kn kq k1 k2;go_in;go_wp2_with ((with_reducible apply Zo.see w;first|exact KD.out _|exact KP.out _ (HM.out.ex Zo.exOf).tab|exact KN.out _ (HM.out.ex Zo.exOf).tab|exact KQ.out _ (HM.out.ex Zo.exOf).tab|exact K1.out _ (HM.out.ex Zo.exOf)|exact K2.out _ (HM.out.ex Zo.exOf));clear hS hC;intro wn hS hC;(try simp only[Zy] at hS hC);simp only[Zr,Zq] at hC);refine Zu ?_ rfl ⟨rfl,?_⟩
  ·simp[results,results69,go_sem];try rfl
  ·exact Exi.out
 ·rcases okx with _|_
  ·have hk:=HK.out;have hr:=HR.out;simp only[Bool.false_eq_true,if_false,if_true] at hk hr kd;rw[e0] at hr;subst hk hr;clear HK HR;simp only[Fr.v,Fr.none] at kd;have KD:=Zz kd;have KP:=Zz kp;have KN:=Zz kn;have KQ:=Zz kq;have K1:=Zz k1;have K2:=Zz k2;clear kd kp kn kq k1 k2;go_in;go_wp2_with ((with_reducible apply Zo.see w;first|exact KD.out _|exact KP.out _ (HM.out.ex Zo.exOf).tab|exact KN.out _ (HM.out.ex Zo.exOf).tab|exact KQ.out _ (HM.out.ex Zo.exOf).tab|exact K1.out _ (HM.out.ex Zo.exOf)|exact K2.out _ (HM.out.ex Zo.exOf));clear hS hC;intro wn hS hC;(try simp only[Zy] at hS hC);simp only[Zr,Zq] at hC);refine Zu ?_ rfl ⟨rfl,?_⟩
   ·simp[results,results69,go_sem];try rfl
   ·exact Exi.out
  ·have hk:=HK.out;have hr:=HR.out;simp only[Bool.false_eq_true,if_false,if_true] at hk hr kd;rw[←HY.out] at hr;subst hk hr;clear HK HR;simp only[Fr.v,Fr.none] at kd;have KD:=Zz kd;have KP:=Zz kp;have KN:=Zz kn;have KQ:=Zz kq;have K1:=Zz k1;have K2:=Zz k2;clear kd kp kn kq k1 k2
   skip
   all_goals
    go_in;go_wp2_with ((with_reducible apply Zo.see w;first|exact KD.out _|exact KP.out _ (HM.out.ex Zo.exOf).tab|exact KN.out _ (HM.out.ex Zo.exOf).tab|exact KQ.out _ (HM.out.ex Zo.exOf).tab|exact K1.out _ (HM.out.ex Zo.exOf)|exact K2.out _ (HM.out.ex Zo.exOf));clear hS hC;intro wn hS hC;(try simp only[Zy] at hS hC);simp only[Zr,Zq] at hC);refine Zu ?_ rfl ⟨rfl,?_⟩
    ·simp[results,results69,go_sem];try rfl
    ·exact Exi.out
theorem Zvo(s:Ub)(hl:s.length≤100000)(p q:Int)(hp: -1000000≤p∧p≤1000000)(hq: -1000000≤q∧q≤1000000)(w:World):Calls prog 162 #[(Bs s),p,q] w fun e w'=>e= .returned (.tuple #[.string (Bs (Qz s p q).1), .bool (Qz s p q).2])∧Ex w w':=by
 have kd:=fun w=>Rh p q w
 have kp:=fun w=>Uo p (by omega) (by omega) w
 have kn:=fun w=>Uo (-q) (by omega) (by omega) w
 have kq:=fun w=>Uo q (by omega) (by omega) w
 have r1:=Cx (p:=p) (q:= -q) hp (by omega);have r2:=Cx (p:=p) (q:=q) hp hq;have k1:=fun w=>Hg (rot p (-q)) s (by omega) (by omega) w
 have k2:=fun x (hx:x.length≤191) w=>Hg x (rot p q) (by omega) (by omega) w
 have hz1:(Bs (Lib.itoa p)).size≤21:=by rw[Yu];exact Vi p (by omega) (by omega)
 have hz2:(Bs (Lib.itoa (-q))).size≤21:=by rw[Yu];exact Vi (-q) (by omega) (by omega)
 have hz3:(Bs (Lib.itoa q)).size≤21:=by rw[Yu];exact Vi q (by omega) (by omega)
 rw[←Fx] at k1;simp only[←Fx p q] at k2;have hng:IntKind.i64.wrap (-q)= -q:=Zt _ (by omega);have hng0:IntKind.i64.wrap (0-q)= -q:=by rw[Zt _ (by omega)];omega
 have hbt:Qz s p q=if Wl p q then (if (Wk (rot p (-q)) s).2 then Wk (Wk (rot p (-q)) s).1 (rot p q) else ([],false)) else ([],false):=rfl
 have e0:Bs []=(⟨#[]⟩:ByteArray):=rfl;replace k2:=k2 (Wk (rot p (-q)) s).1 Zyd;rcases hj:Wk (rot p (-q)) s with⟨x,okx⟩;rw[hj] at k1 k2 hbt;simp only at k1 k2 hbt;rcases hj2:Wk x (rot p q) with⟨y,oky⟩;rw[hj2] at k2 hbt;simp only at k2;obtain⟨R,HR⟩:=nm (Bs (Qz s p q).1);obtain⟨ok,HK⟩:=nm ((Qz s p q).2);rw[←HR.out,←HK.out];rw[hbt] at HR HK;clear hj hj2 hbt r1 r2 hp hq hl;unfold Rf at kd;generalize Bs (Lib.itoa p)=P at*;generalize Bs (Lib.itoa (-q))=M at*;generalize Bs (Lib.itoa q)=Q at*;generalize Bs x=X at*;obtain⟨Y,HY⟩:=nm (Bs y);rw[←HY.out] at k2;generalize Bs s=S at*;generalize Wl p q=dk at*;generalize Tm p q=cc at*;generalize Tl p q=cs at*;obtain⟨c1,c2,c3⟩:=cc;obtain⟨s1,s2,s3⟩:=cs;obtain⟨hS,hC⟩:=s0 w;rcases dk with _|_
 ·have hk:=HK.out;have hr:=HR.out;simp only[Bool.false_eq_true,if_false,if_true] at hk hr kd;rw[e0] at hr;subst hk hr;clear HK HR;simp only[Fr.v,Fr.none] at kd;have KD:=Zz kd;have KP:=Zz kp;have KN:=Zz kn;have KQ:=Zz kq;have K1:=Zz k1;have K2:=Zz k2;clear kd kp kn kq k1 k2;go_in;go_wp2_with ((with_reducible apply Zo.see w;first|exact KD.out _|exact KP.out _|exact KN.out _|exact KQ.out _|exact K1.out _|exact K2.out _);clear hS hC;intro wn hS hC;(try simp only[Zy] at hS hC);simp only[Zr,Zq] at hC);refine Zu ?_ rfl ⟨rfl,?_⟩
  ·simp[results,results162,go_sem];try rfl
  ·exact Exi.out
 ·rcases okx with _|_
  ·have hk:=HK.out;have hr:=HR.out;simp only[Bool.false_eq_true,if_false,if_true] at hk hr kd;rw[e0] at hr;subst hk hr;clear HK HR;simp only[Fr.v,Fr.none] at kd;have KD:=Zz kd;have KP:=Zz kp;have KN:=Zz kn;have KQ:=Zz kq;have K1:=Zz k1;have K2:=Zz k2;clear kd kp kn kq k1 k2;go_in;go_wp2_with ((with_reducible apply Zo.see w;first|exact KD.out _|exact KP.out _|exact KN.out _|exact KQ.out _|exact K1.out _|exact K2.out _);clear hS hC;intro wn hS hC;(try simp only[Zy] at hS hC);simp only[Zr,Zq] at hC);refine Zu ?_ rfl ⟨rfl,?_⟩
   ·simp[results,results162,go_sem];try rfl
   ·exact Exi.out
  ·have hk:=HK.out;have hr:=HR.out;simp only[Bool.false_eq_true,if_false,if_true] at hk hr kd;rw[←HY.out] at hr;subst hk hr;clear HK HR;simp only[Fr.v,Fr.none] at kd;have KD:=Zz kd;have KP:=Zz kp;have KN:=Zz kn;have KQ:=Zz kq;have K1:=Zz k1;have K2:=Zz k2;clear kd kp kn kq k1 k2
   skip
   all_goals
    go_in;go_wp2_with ((with_reducible apply Zo.see w;first|exact KD.out _|exact KP.out _|exact KN.out _|exact KQ.out _|exact K1.out _|exact K2.out _);clear hS hC;intro wn hS hC;(try simp only[Zy] at hS hC);simp only[Zr,Zq] at hC);refine Zu ?_ rfl ⟨rfl,?_⟩
    ·simp[results,results162,go_sem];try rfl
    ·exact Exi.out
end
section
open Go.RowKit

attribute [local go_sem] Zg Zf
theorem Zlp{ns:List Int}(h:ns.length=4):∃p q r t,ns=[p,q,r,t]:=by
 match ns,h with
 |[p,q,r,t],_=>exact⟨p,q,r,t,rfl⟩
theorem Zyc{α β:Type}{f:α→Option β}:∀{xs:List α} {ys:List β},Xg f xs=some ys→∀y∈ys,∃x∈xs,f x=some y
 |[],ys,h,y,hy=>by
  simp only[Xg,Option.some.injEq] at h
  subst h
  cases hy
 |x::xs,ys,h,y,hy=>by
  unfold Xg at h
  split at h
  ·rename_i b bs h1 h2
   injection h with h
   subst h
   rcases List.mem_cons.1 hy with rfl|hy
   ·exact⟨x, .head _,h1⟩
   ·obtain⟨x2,hx2,h3⟩:=Zyc h2 y hy
    exact⟨x2, .tail _ hx2,h3⟩
  ·cases h
theorem Oi{s:Ub}{m:Nat}{ns:List Int}(h:Yj s m=some ns):∀n∈ns, -999≤n∧n≤999:=by
 intro n hn;unfold Yj at h;split at h
 ·rename_i h1;split at h
  ·injection h with h;subst h;obtain⟨x, -,hx⟩:=Zyc h1 n hn;exact⟨(Zsm hx).1,(Zsm hx).2.1⟩
  ·cases h
 ·cases h
def Fw(c:Con)(r:Option (List Int)):Con×Ub:=match r with
 |some [p,q]=>Tr c (Qz c.b p q)
 |_=>(c,[110,111])
def La(c:Con)(r:Option (List Int)):Con×Ub:=match r with
 |some [p,q,r,t]=>(⟨c.b,⟨p,q,1⟩,⟨r,t,1⟩⟩,[111,107])
 |_=>(c,[110,111])
theorem Zjk(c:Con)(hl:c.b.length≤1048576)(hlb:c.b.length≤100000)(s:Ub)(hl2:s.length≤1048576)(bc:Nat)(w:World)(hG:Xz w)(hm:Wn w)(hb:Box w bc 55 c.cells):Calls prog 26 #[.pointer (some ⟨bc,0,none⟩), .string ⟨#[116,117,114,110]⟩,(Bs s)] w (Uh bc w (Fw c (Yj s 2))):=by
 have c0:=hb.cell;unfold Con.cells at c0;have z0:=hb.lt;have k1:=fun w hm=>Jj s hl2 2 (by omega) w hm
 obtain⟨r,HR⟩:=nm (Fw c (Yj s 2));rw[←HR.out];have hn2:∀ns,Yj s 2=some ns→ns.length=2∧∀n∈ns, -999≤n∧n≤999:=fun ns h=>⟨Ug h,Oi h⟩
 generalize Yj s 2=N at*;generalize Bs s=S2 at k1 ⊢;have k2:=fun p q hp hq w hm=>Zvp c.b (by omega) p q hp hq w hm
 have HB:=Zz hb;clear hb;generalize hSB:Bs c.b=S at k2 c0;clear hSB;have K1:=Zz k1;have K2:=Zz k2;have HM:=Zz hm;have HN2:=Zz hn2;clear k1 k2 hm hn2 hG hl hl2;go_in;go_upto_region 9 with fail;go_wp2_with fail;refine(K1.out _ HM.out).mono ?_;rintro e w1 (⟨ns,A,cap,rfl,rfl,hO,hx⟩|⟨rfl,rfl,hx⟩)
 ·obtain⟨p,q,rfl⟩:∃p q,ns=[p,q]:=Zvv (HN2.out _ rfl).1;have hpb:=(HN2.out _ rfl).2 p (by simp);have hqb:=(HN2.out _ rfl).2 q (by simp);have hr:=HR.out;unfold Fw Tr at hr;simp only at hr;replace K2:=Zz (fun w hm=>K2.out p q (by omega) (by omega) w hm);rcases hB:Qz c.b p q with⟨t,ok⟩;rw[hB] at hr K2;simp only at hr K2;clear hB HN2 hpb hqb HR;have HR:=Zz hr;clear hr;obtain⟨T,HT⟩:=nm (Bs t);rw[←HT.out] at K2;obtain⟨g,rfl,hg1,hg2,hgc⟩:=hO.at (by simp);simp only[List.length_cons,List.length_nil] at hgc ⊢;have ce0:=hgc.1 0 (by simp);have ce1:=hgc.1 1 (by simp);simp only[List.getD_cons_zero,List.getD_cons_succ,Nat.zero_add] at ce0 ce1;have bc0:w1.cell? ⟨bc,0,none⟩=some (.string S):=hx.get (c0 0);clear hgc hO hg1 hg2 z0 c0;go_upto_region 11 with fail;refine Ux (fun _ w'=>Ex _ w') 14 false (by kernel_rfl) ((Ex.refl _).drew) (by exact fun _ _ _ _ _ h=>h) ?_;iterate 7 (apply Zp;rfl;intro b u B Q q;have q0:=Ex.get B bc0;go_wp2;exact q _ trivial B;exact⟨_,rfl⟩)
  iterate 3 (apply Zp;rfl;intro b u B Q q;have q0:=Ex.get B ce0;go_wp2;exact q _ trivial B;exact⟨_,rfl⟩)
  (apply Zp;rfl;intro b u B Q q;have q0:=Ex.get B ce1;go_wp2;exact q _ trivial B;exact⟨_,rfl⟩);(apply Zp;rfl;intro b u B Q q;go_wp2_with (with_reducible refine Yw (K2.out _ (HM.out.ex (hx.trans B))) fun wn hx=>?_);exact q _ trivial (B.trans hx);exact⟨_,rfl⟩);iterate 2 (apply Zp;rfl;intro b u B Q q;go_wp2;exact q _ trivial B;exact⟨_,rfl⟩)
  refine Zn ?_;intro wz hz;replace hx:=hx.trans hz;clear hz bc0 ce0 ce1;go_wp2_with fail;refine(Le c T t HT.out ok bc _ (HB.out.ex hx)).mono ?_;rintro e w2 ⟨rfl,hg,hb2⟩;have HB2:=Zz hb2;have HGr:=Zz (Uz (Ns hx (some bc)) hg);clear hx hg hb2;rcases ok with _|_
  all_goals
   have e:=HR.out;simp only[Bool.false_eq_true,if_false,if_true] at e HB2;subst e;go_wp2
  ·refine Zu (v:= .tuple #[.string ⟨#[111,107]⟩,false,true]) ?_ rfl ⟨_,_,_,rfl,rfl,HGr.out,HB2.out⟩;simp[results,results26,go_sem]
  ·refine Zu (v:= .tuple #[.string ⟨#[111,107]⟩,true,true]) ?_ rfl ⟨_,_,_,rfl,rfl,HGr.out,HB2.out⟩;simp[results,results26,go_sem]
 ·have hr:=HR.out;unfold Fw at hr;simp only at hr;subst hr;have hE:=hx;clear HR HN2;go_wp2_with fail;refine Zu (v:= .tuple #[.string ⟨#[]⟩,false,true]) ?_ rfl (Xo HB.out rfl ?_)
  ·simp[results,results26,go_sem]
  ·(have:=Exi.mk hE;exact Exi.out)
theorem Znq(c:Con)(hl:c.b.length≤1048576)(s:Ub)(hl2:s.length≤1048576)(bc:Nat)(w:World)(hG:Xz w)(hm:Wn w)(hb:Box w bc 55 c.cells):Calls prog 26 #[.pointer (some ⟨bc,0,none⟩), .string ⟨#[108,105,103,104,116]⟩,(Bs s)] w (Uh bc w (La c (Yj s 4))):=by
 have c0:=hb.cell;unfold Con.cells at c0;have z0:=hb.lt;have k1:=fun w hm=>Jj s hl2 4 (by omega) w hm
 obtain⟨r,HR⟩:=nm (La c (Yj s 4));rw[←HR.out];have hn2:∀ns,Yj s 4=some ns→ns.length=4∧∀n∈ns, -999≤n∧n≤999:=fun ns h=>⟨Ug h,Oi h⟩
 generalize Yj s 4=N at*;generalize Bs s=S2 at k1 ⊢;have HB:=Zz hb;clear hb;have K1:=Zz k1;have HM:=Zz hm;have HN2:=Zz hn2;clear k1 hm hn2 hG hl hl2 c0;go_in;go_upto_region 13 with fail;go_wp2_with fail;refine(K1.out _ HM.out).mono ?_;rintro e w1 (⟨ns,A,cap,rfl,rfl,hO,hx⟩|⟨rfl,rfl,hx⟩)
 ·obtain⟨p,q,r2,t,rfl⟩:∃p q r t,ns=[p,q,r,t]:=Zlp (HN2.out _ rfl).1;have hr:=HR.out;unfold La at hr;simp only at hr;subst hr;clear HN2 HR;obtain⟨g,rfl,hg1,hg2,hgc⟩:=hO.at (by simp);simp only[List.length_cons,List.length_nil] at hgc ⊢;have ce0:=hgc.1 0 (by simp);have ce1:=hgc.1 1 (by simp);have ce2:=hgc.1 2 (by simp);have ce3:=hgc.1 3 (by simp);simp only[List.getD_cons_zero,List.getD_cons_succ,Nat.zero_add] at ce0 ce1 ce2 ce3;clear hgc hO hg1 hg2;have z1:bc<w1.heap.size:=Nat.lt_of_lt_of_le z0 hx.size;clear z0;go_upto_region 15 with fail;refine Ux (fun _ w'=>Ex _ w') 18 false (by kernel_rfl) ((Ex.refl _).drew) (by exact fun _ _ _ _ _ h=>h) ?_;iterate 6 (apply Zp;rfl;intro b u B Q q;have q0:=Ex.get B ce0;go_wp2;exact q _ trivial B;exact⟨_,rfl⟩)
  iterate 4 (apply Zp;rfl;intro b u B Q q;have q0:=Ex.get B ce1;go_wp2;exact q _ trivial B;exact⟨_,rfl⟩)
  iterate 3 (apply Zp;rfl;intro b u B Q q;have q0:=Ex.get B ce2;go_wp2;exact q _ trivial B;exact⟨_,rfl⟩)
  iterate 5 (apply Zp;rfl;intro b u B Q q;have q0:=Ex.get B ce3;go_wp2;exact q _ trivial B;exact⟨_,rfl⟩)
  refine Zn ?_;intro wz hz;have hbz:=HB.out.ex (hx.trans hz);have f0:=hbz.frozen;have c0:=hbz.cell;unfold Con.cells at c0;have z0:=hbz.lt;have HBZ:=Zz hbz;have HXZ:=Zz (hx.trans hz);clear hz hx ce0 ce1 ce2 ce3 hbz z1;go_wp2_with fail;refine Zu (v:= .tuple #[.string ⟨#[111,107]⟩,true,true]) ?_ rfl ⟨_,_,_,rfl,rfl,?_,?_⟩
  ·simp[results,results26,go_sem]
  ·exact Uz (Ns HXZ.out (some bc)) (Uz Ql (Uz Ql (Uz Ql (Uz Ql (Uz Ql Ql)))))
  ·have h:=(((((HBZ.out.set_ 1 (p)).set_ 2 (q)).set_ 3 (.int .i64 1)).set_ 4 (r2)).set_ 5 (t)).set_ 6 (.int .i64 1);unfold Con.cells at h ⊢;simpa using h
 ·have hr:=HR.out;unfold La at hr;simp only at hr;subst hr;have hE:=hx;clear HR HN2;go_wp2_with fail;refine Zu (v:= .tuple #[.string ⟨#[111,107]⟩,false,true]) ?_ rfl (Xo HB.out rfl ?_)
  ·simp[results,results26,go_sem]
  ·(have:=Exi.mk hE;exact Exi.out)
end
section
open Go.RowKit

attribute [local go_sem] Zg Zf
def Ph(p:UInt8×List Int)(a:List Fr):List Fr×Bool:=((Wc (Tt p.1 p.2).1 a).1,(Tt p.1 p.2).2&&(Wc (Tt p.1 p.2).1 a).2)
def Up(l:Ub):List Fr×Bool:=gOf Ph (Wt 16) l (Se Fr.one) true
theorem Ao(c:Fr):(Se c).length=16:=rfl
theorem Zrq(l:Ub)(hl:l.length≤1048576)(w:World)[hG:Xz w](hm:Wn w):Calls prog 70 #[(Bs l)] w (fun e w'=>e= .returned (Sl (Up l))∧Ex w w'):=by
 have KB:=Zz (fun w hm=>Pp.w (Ts l hl w hm));have HRES:=(Zz rfl:Hid (Up l=gOf Ph (Wt 16) l (Se Fr.one) true))
 generalize Bs l=S at*;have HG:=Zz hG;have HM:=Zz hm;clear hm hl hG;have hR:=Zo.refl w;go_in;go_upto_region 1 with fail;rw[We];have b0:=Box.new w Z48 85;have hE0:Ex w (w.alloc (.cells Z48 85)):=(Ex.refl w).alloc _;have hz0:(w.alloc (.cells Z48 85)).heap.size=w.heap.size+1:=Zy _ _;generalize w.alloc _=W0 at*;clear hR;go_wp2_with fail;refine(KB.out _ (HM.out.ex hE0)).mono ?_;rintro e w1 ⟨qs,A,cap,ok0,rfl,hq12,hsl,hps,hx,HBR,HPV⟩;have hE1:=hE0.trans hx;have b1:=b0.ex hx;have hne:w.heap.size<w1.heap.size:=by have:=hx.size;omega
 clear hE0 b0 hz0 hx KB HM;have hg:=(HG.out.ex hE1).rd;have hDs:(Zm (Se Fr.one)).size=48:=by rw[Yn];rfl
 have hDo:=Zb (Se Fr.one);have KD:Hid (∀w,Xz w→Calls prog 134 #[.agg #[.int .i64 1,oo, .int .i64 1], .agg #[.int .i64 1,oo, .int .i64 1]] w fun e w'=>e= .returned (.agg (Zm (Se Fr.one)))∧Ex w w'):=Zz (fun w (_:Xz w)=>Zyo 1 0 1 w);generalize hDD:Zm (Se Fr.one)=dc at*;go_wp2_with fail;refine Yw (KD.out _ (HG.out.ex hE1)) fun w2 hx2=>?_
 have hE2:=hE1.trans hx2;have b2:=b1.ex hx2;have hne2:w.heap.size≠w2.heap.size:=by have:=hx2.size;omega
 clear hne hg KD;go_upto_region 3 with(refine wpList_store_row rfl _ _ _ rfl _ _ rfl rfl _ _ (Box.new w2 _ _) (Yy hDs) (by rw[hDs];rfl) hDo ?_);rw[We];have hB:BM w ((w2.alloc (.cells Z48 85)).setRow w2.heap.size dc) 85 w.heap.size w2.heap.size Z48 A (Xp qs) qs (Zm (Se Fr.one)):=
  ⟨⟨(hE2.alloc _).setRow hE2.size _,(b2.alloc _).setRow_far hne2 _,by rw[hDD];exact(Box.new w2 _ _).setRow _,trivial⟩,hsl.ex (hx2.trans (((Ex.refl _).alloc _).setRow (Nat.le_refl _) _)),hps.ex (hx2.trans (((Ex.refl _).alloc _).setRow (Nat.le_refl _) _))⟩
 have hlo:=hE2.size;clear hE1 b1 hE2 b2 hx2 hsl hps hDs hDo hDD;have HBR2:Hid (Up l=Um Ph (Wt 16) (qs.map Pc.p) 0 (Se Fr.one) ok0):=Zz (by rw[HRES.out,Ok Ph (Wt 16) HBR.out,Bool.and_true]);have HQL:=Zz hq12;have HB0:=Zz hB;have HNE:=Zz hne2;clear hB hq12 HBR HRES hne2;generalize (w2.alloc (.cells Z48 85)).setRow w2.heap.size dc=W1 at*;generalize w2.heap.size=na at*;go_wp2_with fail;go_loopw [23,5,8,9,10,11,12] (fun i o _ _ _ _ _ wr=>∃(k:Nat) (u:List Fr) (ok:Bool),i= .int .i64 k∧o= .bool ok∧k≤qs.length∧u.length=16∧Hid (Up l=Um Ph (Wt 16) (qs.map Pc.p) k u ok)∧Hid (BM w wr 85 w.heap.size na Z48 A (Xp qs) qs (Zm u))) (fun i _ _ _ _ _ _ _=>13-(intOf i).toNat)
 case atStart=>exact⟨0,(Se Fr.one),ok0,rfl,rfl,by omega,Ao _,HBR2,HB0⟩
 case round=>
  clear HB0 HBR2;obtain⟨k,u,ok,rfl,rfl,hk,hul,HR,HB⟩:=hrel;have hq12:=HQL.out;by_cases hlt:k<qs.length
  ·have hI:(k:Int)<(qs.length:Int):=by omega
   have hw5:=wr1 k (by omega);obtain⟨b,off,rfl,hc⟩:=HB.out.slc (by rw[Ws];omega);have hat:=Ol qs k hlt;have d0:=hc (3*k) (by rw[Ws];omega);have d1:=hc (3*k+1) (by rw[Ws];omega);have d2:=hc (3*k+2) (by rw[Ws];omega);rw[hat.1] at d0;rw[hat.2.1] at d1;rw[hat.2.2] at d2;rw[Nat.mul_comm 3 k] at d0 d1 d2;rw[←Nat.add_assoc] at d1 d2;have HST:=Zz (fun x ox h=>Md Ph (Wt 16) hlt u ok (x:=x) (u:=ox) h);have hmem:qs[k]∈qs:=List.getElem_mem hlt;have HV:=Zz (HPV.out _ hmem);have HO:=Zz (HB.out.pcs _ hmem);clear hc hat hmem;generalize qs[k]=q at*;have kt:=fun w (_:Xz w) ho=>iTab q HV.out w ho
   have htl:=Gj q.k q.ns;rcases hT:Tt q.k q.ns with⟨t,okt⟩;rw[hT] at htl;simp only at htl;have hxl:=Qk t u;rcases hA:Wc t u with⟨x,okx⟩;rw[hA] at hxl;simp only at hxl;have ka:=fun w=>Ec t u htl hul w
   have HR2:Hid (Up l=Um Ph (Wt 16) (qs.map Pc.p) (k+1) x (ok&&okt&&okx)):=Zz (by
    rw[Bool.and_assoc];refine HR.out.trans (HST.out x (okt&&okx) ?_);show((Wc (Tt q.k q.ns).1 u).1,(Tt q.k q.ns).2&&(Wc (Tt q.k q.ns).1 u).2)=_;rw[hT];simp only[hA])
   rw[hT] at kt;rw[hA] at ka;simp only[Sl] at kt ka;have hone:=Zb t;have hux:=Sz u;have hxs:(Zm x).size=48:=by rw[Yn,hxl]
   have hts:(Zm t).size=48:=by rw[Yn,htl]
   have hus:(Zm u).size=48:=by rw[Yn,hul]
   have hxo:=Zb x;generalize Zm t=tc at*;generalize hvu:Zm u=uc at*;generalize hvx:Zm x=xc at*;have KT:=Zz kt;have KA:=Zz ka;have HX:=Zz hvx;have HTS:=Zz hts;have HXS:=Zz hxs;have HUS:=Zz hus;have HUX:=Zz hux;clear kt ka hT hA hvu hvx HST HR HV hts hxs hus hux;have hB:=HB.out;clear HB;go_upto_region 6 with fail;have b9:=Box.new wr #[.int .u8 q.k.toNat, .slice (some ⟨q.g,0,none⟩) q.ns.length q.cap,q.S] 169;replace hB:=hB.ex ((Ex.refl wr).alloc (.cells #[.int .u8 q.k.toNat, .slice (some ⟨q.g,0,none⟩) q.ns.length q.cap,q.S] 169));have HO1:=Zz (HO.out.ex ((Ex.refl wr).alloc (.cells #[.int .u8 q.k.toNat, .slice (some ⟨q.g,0,none⟩) q.ns.length q.cap,q.S] 169)));generalize wr.alloc _=W2 at*;have c9:=b9.cell;have z9:=b9.lt;clear d0 d1 d2 HO;go_wp2_with fail;refine(KT.out _ (HG.out.ex hB.sees.ex) HO1.out).mono ?_;clear HO1 b9 c9 z9;rintro e w2 ⟨rfl,hx⟩;go_upto_region 7 with(refine wpList_store_row rfl _ _ _ rfl _ _ rfl rfl _ _ (Box.new w2 _ _) (Yy HTS.out) (by rw[HTS.out];rfl) hone ?_);rw[We];replace hB:=hB.ex (hx.trans (((Ex.refl w2).alloc (.cells Z48 85)).setRow (Nat.le_refl _) tc));have bT:=(Box.new w2 Z48 85).setRow tc;generalize (w2.alloc (.cells Z48 85)).setRow w2.heap.size tc=W3 at*;clear hx hone;have b3:=hB.sees.boxes.2.1;go_wp2_with (first|(refine wpList_load_row rfl _ _ rfl _ rfl _ _ (0,0) _ bT underlying85 rfl (Yy HTS.out) ?_)|(refine wpList_load_row rfl _ _ rfl _ rfl _ _ (0,0) _ b3 underlying85 rfl (Yy HUS.out) ?_));refine Yw (KA.out _) fun w3 hx=>?_
   go_upto_region 8 with(refine wpList_store_row rfl _ _ _ rfl _ _ rfl rfl _ _ (Box.new w3 _ _) (Yy HXS.out) (by rw[HXS.out];rfl) hxo ?_);rw[We];replace hB:=hB.ex (hx.trans (((Ex.refl w3).alloc (.cells Z48 85)).setRow (Nat.le_refl _) xc));have bX:=(Box.new w3 Z48 85).setRow xc;generalize (w3.alloc (.cells Z48 85)).setRow w3.heap.size xc=W4 at*;clear hx b3 bT;go_cut [5] (fun s wx=>s= .bool (ok&&okt&&okx)∧wx=W4)
   case first=>
    rcases ok with _|_<;>rcases okt with _|_<;>rcases okx with _|_
    all_goals
     go_wp2_with fail;go_meet
     exact⟨rfl,rfl⟩
   case rest=>
    obtain⟨rfl,rfl⟩:=hcut;have b3:=hB.sees.boxes.2.1;go_wp2_with (first|(refine wpList_load_row rfl _ _ rfl _ rfl _ _ (0,0) _ bX underlying85 rfl (Yy HXS.out) ?_)|(refine wpList_store_row rfl _ _ _ rfl _ _ rfl rfl _ _ b3 (Yy HXS.out) (by rw[HXS.out,HUS.out]) hxo ?_));have HB2:Hid (BM w (wc.setRow na xc) 85 w.heap.size na Z48 (some ⟨b,off,none⟩) (Xp qs) qs (Zm x)):=Zz (by rw[HX.out];exact hB.store hlo HNE.out (by decide) HUX.out (Na qs) xc);clear hB b3 bX hxo;go_roundw
    case rel=>exact⟨k+1,x,_,by go_num,rfl,by omega,hxl,HR2,HB2⟩
    case measure=>simp[intOf]<;>omega
  ·obtain rfl:k=qs.length:=by omega
   have HE:=HR.out;rw[Qn] at HE;have hI:¬((qs.length:Nat):Int)<(qs.length:Int):=by omega
   have hB:=HB.out;clear HB HR hlt hk HPV HQL hq12;have b4:=hB.sees.boxes.1;have b3:=hB.sees.boxes.2.1;have hE:=hB.sees.ex;have HEE:=Zz HE;clear HE;rcases ok with _|_
   ·go_wp2_with (refine wpList_store_row rfl _ _ _ rfl _ _ rfl rfl _ _ b4 (Yy Yk) rfl Wi ?_);exact Zu (Ze results70 _ _ _ _ _ (0,0) _ rfl (b4.setRow _) underlying85 rfl (Yy Yk)) rfl ⟨by rw[HEE.out];rfl,hE.setRow (Nat.le_refl _) _⟩
   ·have hus:(Zm u).size=48:=by rw[Yn,hul]
    have huo:=Zb u;go_wp2_with (first|(refine wpList_load_row rfl _ _ rfl _ rfl _ _ (0,0) _ b3 underlying85 rfl (Yy hus) ?_)|(refine wpList_store_row rfl _ _ _ rfl _ _ rfl rfl _ _ b4 (Yy hus) (by rw[hus];rfl) huo ?_));exact Zu (Ze results70 _ _ _ _ _ (0,0) _ rfl (b4.setRow _) underlying85 rfl (Yy hus)) rfl ⟨by rw[HEE.out];rfl,hE.setRow (Nat.le_refl _) _⟩
end
section
open Go.RowKit

attribute [local go_sem] Zg Zf
section
variable {σ:Type} {f:UInt8×List Int→σ→σ×Bool} {z:σ} {P:σ→Prop}
theorem Zrp(hz:P z)(hf:∀p v,P v→P (f p v).1):∀ps v,P v→P (Bn f z ps v).1
 |[],v,h=>h
 |p::ps,v,h=>by
  unfold Bn
  split
  ·exact Zrp hz hf ps _ (hf p v h)
  ·exact hz
end
theorem Zro(l:Ub):(Up l).1.length=16:=by
 unfold Up gOf;split
 ·rw[if_pos rfl];exact Zrp (f:=Ph) (z:=Wt 16) (P:=fun(v:List Fr)=>v.length=16) (List.length_replicate) (fun p v _=>(show((Wc (Tt p.1 p.2).1 v).1).length=16 from Qk _ _)) _ _ (Ao _)
 ·simp[Wt]
def Pn(L:List Fr)(k:Nat):List Fr:=[tg L (4*k),tg L (4*k+1),tg L (4*k+2),tg L (4*k+3)]
theorem Zvn{w:World}{b:Nat}{t:TypeId}{L:List Fr}(hL:L.length=16)(h:Box w b t (Zm L)){k:Nat}(hk:k≤3):Uq w (some ⟨b,12*k,none⟩) (Pn L k):=by
 intro _;refine⟨b,12*k,rfl,fun i hi=>?_⟩;have hi:i<12:=by simpa [Pn,Tg,Fr.cs] using hi
 rw[h.cell];match L,hL with
 |[a0,a1,a2,a3,a4,a5,a6,a7,a8,a9,b0,b1,b2,b3,b4,b5],_=>
  obtain rfl|rfl|rfl|rfl:k=0∨k=1∨k=2∨k=3:=by omega
  all_goals
   match i,hi with
   |0,_=>rfl
   |1,_=>rfl
   |2,_=>rfl
   |3,_=>rfl
   |4,_=>rfl
   |5,_=>rfl
   |6,_=>rfl
   |7,_=>rfl
   |8,_=>rfl
   |9,_=>rfl
   |10,_=>rfl
   |11,_=>rfl
theorem Zvm{ns:List Int}(h:ns.length=1):∃p,ns=[p]:=by
 match ns,h with
 |[p],_=>exact⟨p,rfl⟩
def Sw(xs:List Fr)(ok:Bool):Ub:=if (Sn xs).2&&ok then (Sn xs).1 else [110,111]
theorem An(xs:List Fr)(ok:Bool)(h:xs.length≤4):(Sw xs ok).length≤1000:=by
 unfold Sw;split
 ·have:=Ev xs
  omega
 ·simp
def Zrn(c:Con)(r:Option (List Int)):Ub:=match r with
 |some [n]=>if (Up c.b).2&&Xw n 0 3 then Sw (Pn (Up c.b).1 n.toNat) true else [110,111]
 |_=>[110,111]
theorem Zfl(c:Con)(hl:c.b.length≤1048576)(s:Ub)(hl2:s.length≤1048576)(bc:Nat)(w:World)(hG:Xz w)(hm:Wn w)(hb:Box w bc 55 c.cells):Calls prog 26 #[.pointer (some ⟨bc,0,none⟩), .string ⟨#[114,111,119]⟩,(Bs s)] w (Uh bc w (c,Zrn c (Yj s 1))):=by
 have c0:=hb.cell;unfold Con.cells at c0;have z0:=hb.lt;have k1:=fun w hm=>Jj s hl2 1 (by omega) w hm
 have k2:=fun w (_:Xz w) hm=>Zrq c.b hl w hm
 obtain⟨a,HA⟩:=nm (Zrn c (Yj s 1));rw[←HA.out];unfold Zrn at HA;have hn2:∀ns,Yj s 1=some ns→ns.length=1:=fun ns h=>Ug h
 generalize Yj s 1=N at*;generalize Bs s=S2 at k1 ⊢;have hL:=Zro c.b;generalize Up c.b=BT at*;obtain⟨L,okb⟩:=BT;simp only[Sl] at k2 HA hL;have hts:(Zm L).size=48:=by rw[Yn,hL]
 have hone:=Zb L;generalize hTA:Zm L=TA at*;have HTA:=Zz hTA;have HL:=Zz hL;have HTS:=Zz hts;clear hTA hL hts;generalize Bs c.b=S at k2 c0;have HB:=Zz hb;have K1:=Zz k1;have K2:=Zz k2;have HM:=Zz hm;have HG:=Zz hG;have HN2:=Zz hn2;clear k1 k2 hm hn2 hG hl hl2 hb;go_in;go_upto_region 18 with fail;go_wp2_with fail;refine(K1.out _ HM.out).mono ?_;rintro e w1 (⟨ns,A,cap,rfl,rfl,hO,hx⟩|⟨rfl,rfl,hx⟩)
 ·obtain⟨n,rfl⟩:∃p,ns=[p]:=Zvm (HN2.out _ rfl);clear HN2;obtain⟨g,rfl,hg1,hg2,hgc⟩:=hO.at (by simp);simp only[List.length_cons,List.length_nil] at hgc ⊢;have ce0:=hgc.1 0 (by simp);simp only[List.getD_cons_zero,List.getD_cons_succ,Nat.zero_add] at ce0;clear hgc hO hg1 hg2;have bc0:w1.cell? ⟨bc,0,none⟩=some (.string S):=hx.get (c0 0);clear c0;have z1:bc<w1.heap.size:=Nat.lt_of_lt_of_le z0 hx.size;clear z0;go_wp2_with fail;refine Yw (K2.out _ (HG.out.ex hx) (HM.out.ex hx)) fun w2 hx2=>?_
  go_upto_region 20 with(refine wpList_store_row rfl _ _ _ rfl _ _ rfl rfl _ _ (Box.new w2 _ _) (Yy HTS.out) (by rw[HTS.out];rfl) hone ?_);have hX:=hx2.trans (((Ex.refl w2).alloc (.cells Od 85)).setRow (Nat.le_refl _) TA);have bT:=(Box.new w2 Od 85).setRow TA;generalize (w2.alloc (.cells Od 85)).setRow w2.heap.size TA=W2 at*;have hE:=hx.trans hX;replace ce0:=hX.get ce0;clear hx hx2 hX hone bc0 z1;generalize w2.heap.size=gT at*;try simp only at HA
  rcases okb with _|_
  ·have e:=HA.out;simp only[Bool.false_and,Bool.and_false,Bool.false_eq_true,if_false] at e;subst e;clear HA;go_wp2_with fail;refine Zu (v:= .tuple #[.string ⟨#[]⟩,false,true]) ?_ rfl (Xo HB.out rfl ?_)
   ·simp[results,results26,go_sem]
   ·(have:=Exi.mk hE;exact Exi.out)
  ·have KIN:=Zz (fun w=>Wu n 0 3 w);rcases hi:Xw n 0 3 with _|_
   ·rw[hi] at KIN HA;have e:=HA.out;simp only[Bool.false_and,Bool.and_false,Bool.false_eq_true,if_false] at e;subst e;clear HA;go_wp2_with ((with_reducible refine(KIN.out _).mono ?_);rintro e wn ⟨rfl,rfl⟩);refine Zu (v:= .tuple #[.string ⟨#[]⟩,false,true]) ?_ rfl (Xo HB.out rfl ?_)
    ·simp[results,results26,go_sem]
    ·(have:=Exi.mk hE;exact Exi.out)
   ·have h3:0≤n∧n≤3:=by simpa [Xw] using hi
    rw[hi] at KIN HA;simp only[Bool.and_self,if_true] at HA;have kt:=fun k A cap w h ht=>Mb A (Pn L k) cap w h (by simp[Pn]) (by simp[Pn]) ht
    go_upto_region 21 with((with_reducible refine(KIN.out _).mono ?_);rintro e wn ⟨rfl,rfl⟩);clear KIN hi;obtain rfl|rfl|rfl|rfl:n=0∨n=1∨n=2∨n=3:=by omega
    ·have hr:a=Sw (Pn L 0) true:=by rw[HA.out];rfl
     replace kt:=kt 0;unfold Sw at hr;rcases hT:Sn (Pn L 0) with⟨t,okt⟩;rw[hT] at kt hr;simp only[Bool.and_true] at kt hr;have HR:=Zz hr;clear hr hT HA h3;obtain⟨TS,HTS2⟩:=nm (Bs t);have KT:Hid (∀(A:Option Addr) (cap:Nat) (w:World),Uq w A (Pn L 0)→Tab w→Calls prog 72 #[.slice A 4 cap] w fun e w'=>e= .returned (.tuple #[TS,okt])∧Ex w w'):=Zz (by rw[HTS2.out];exact kt);clear kt;refine Ux (fun _ w'=>Ex _ w') 11 false (by kernel_rfl) ((Ex.refl _).drew) (by exact fun _ _ _ _ _ h=>h) ?_;iterate 11 (apply Zp;rfl;intro b u B Q q;have q0:=Ex.get B ce0;go_wp2;exact q _ trivial B;exact⟨_,rfl⟩)
     refine Zn ?_;intro wz hz;have HFR:=Zz (Zvn HL.out (HTA.out▸bT.ex hz) (show 0≤3 by decide));replace hE:=hE.trans hz;clear hz bT ce0;go_wp2_with fail;refine Yw (KT.out _ _ _ HFR.out (HM.out.ex hE).tab) fun w5 hx5=>?_
     replace hE:=hE.trans hx5;have e:=HR.out;rcases okt with _|_
     ·simp only[Bool.false_eq_true,if_false] at e;subst e;clear HR;go_wp2_with fail;refine Zu (v:= .tuple #[TS,false,true]) ?_ rfl (Xo HB.out rfl ?_)
      ·simp[results,results26,go_sem]
      ·(have:=Exi.mk hE;exact Exi.out)
     ·simp only[if_true] at e;subst e;clear HR;go_wp2_with fail;refine Zu (v:= .tuple #[TS,true,true]) ?_ rfl (Xo HB.out HTS2.out ?_)
      ·simp[results,results26,go_sem]
      ·(have:=Exi.mk hE;exact Exi.out)
    ·have hr:a=Sw (Pn L 1) true:=by rw[HA.out];rfl
     replace kt:=kt 1;unfold Sw at hr;rcases hT:Sn (Pn L 1) with⟨t,okt⟩;rw[hT] at kt hr;simp only[Bool.and_true] at kt hr;have HR:=Zz hr;clear hr hT HA h3;obtain⟨TS,HTS2⟩:=nm (Bs t);have KT:Hid (∀(A:Option Addr) (cap:Nat) (w:World),Uq w A (Pn L 1)→Tab w→Calls prog 72 #[.slice A 4 cap] w fun e w'=>e= .returned (.tuple #[TS,okt])∧Ex w w'):=Zz (by rw[HTS2.out];exact kt);clear kt;refine Ux (fun _ w'=>Ex _ w') 11 false (by kernel_rfl) ((Ex.refl _).drew) (by exact fun _ _ _ _ _ h=>h) ?_;iterate 11 (apply Zp;rfl;intro b u B Q q;have q0:=Ex.get B ce0;go_wp2;exact q _ trivial B;exact⟨_,rfl⟩)
     refine Zn ?_;intro wz hz;have HFR:=Zz (Zvn HL.out (HTA.out▸bT.ex hz) (show 1≤3 by decide));replace hE:=hE.trans hz;clear hz bT ce0;go_wp2_with fail;refine Yw (KT.out _ _ _ HFR.out (HM.out.ex hE).tab) fun w5 hx5=>?_
     replace hE:=hE.trans hx5;have e:=HR.out;rcases okt with _|_
     ·simp only[Bool.false_eq_true,if_false] at e;subst e;clear HR;go_wp2_with fail;refine Zu (v:= .tuple #[TS,false,true]) ?_ rfl (Xo HB.out rfl ?_)
      ·simp[results,results26,go_sem]
      ·(have:=Exi.mk hE;exact Exi.out)
     ·simp only[if_true] at e;subst e;clear HR;go_wp2_with fail;refine Zu (v:= .tuple #[TS,true,true]) ?_ rfl (Xo HB.out HTS2.out ?_)
      ·simp[results,results26,go_sem]
      ·(have:=Exi.mk hE;exact Exi.out)
    ·have hr:a=Sw (Pn L 2) true:=by rw[HA.out];rfl
     replace kt:=kt 2;unfold Sw at hr;rcases hT:Sn (Pn L 2) with⟨t,okt⟩;rw[hT] at kt hr;simp only[Bool.and_true] at kt hr;have HR:=Zz hr;clear hr hT HA h3;obtain⟨TS,HTS2⟩:=nm (Bs t);have KT:Hid (∀(A:Option Addr) (cap:Nat) (w:World),Uq w A (Pn L 2)→Tab w→Calls prog 72 #[.slice A 4 cap] w fun e w'=>e= .returned (.tuple #[TS,okt])∧Ex w w'):=Zz (by rw[HTS2.out];exact kt);clear kt;refine Ux (fun _ w'=>Ex _ w') 11 false (by kernel_rfl) ((Ex.refl _).drew) (by exact fun _ _ _ _ _ h=>h) ?_;iterate 11 (apply Zp;rfl;intro b u B Q q;have q0:=Ex.get B ce0;go_wp2;exact q _ trivial B;exact⟨_,rfl⟩)
     refine Zn ?_;intro wz hz;have HFR:=Zz (Zvn HL.out (HTA.out▸bT.ex hz) (show 2≤3 by decide));replace hE:=hE.trans hz;clear hz bT ce0;go_wp2_with fail;refine Yw (KT.out _ _ _ HFR.out (HM.out.ex hE).tab) fun w5 hx5=>?_
     replace hE:=hE.trans hx5;have e:=HR.out;rcases okt with _|_
     ·simp only[Bool.false_eq_true,if_false] at e;subst e;clear HR;go_wp2_with fail;refine Zu (v:= .tuple #[TS,false,true]) ?_ rfl (Xo HB.out rfl ?_)
      ·simp[results,results26,go_sem]
      ·(have:=Exi.mk hE;exact Exi.out)
     ·simp only[if_true] at e;subst e;clear HR;go_wp2_with fail;refine Zu (v:= .tuple #[TS,true,true]) ?_ rfl (Xo HB.out HTS2.out ?_)
      ·simp[results,results26,go_sem]
      ·(have:=Exi.mk hE;exact Exi.out)
    ·have hr:a=Sw (Pn L 3) true:=by rw[HA.out];rfl
     replace kt:=kt 3;unfold Sw at hr;rcases hT:Sn (Pn L 3) with⟨t,okt⟩;rw[hT] at kt hr;simp only[Bool.and_true] at kt hr;have HR:=Zz hr;clear hr hT HA h3;obtain⟨TS,HTS2⟩:=nm (Bs t);have KT:Hid (∀(A:Option Addr) (cap:Nat) (w:World),Uq w A (Pn L 3)→Tab w→Calls prog 72 #[.slice A 4 cap] w fun e w'=>e= .returned (.tuple #[TS,okt])∧Ex w w'):=Zz (by rw[HTS2.out];exact kt);clear kt;refine Ux (fun _ w'=>Ex _ w') 11 false (by kernel_rfl) ((Ex.refl _).drew) (by exact fun _ _ _ _ _ h=>h) ?_;iterate 11 (apply Zp;rfl;intro b u B Q q;have q0:=Ex.get B ce0;go_wp2;exact q _ trivial B;exact⟨_,rfl⟩)
     refine Zn ?_;intro wz hz;have HFR:=Zz (Zvn HL.out (HTA.out▸bT.ex hz) (show 3≤3 by decide));replace hE:=hE.trans hz;clear hz bT ce0;go_wp2_with fail;refine Yw (KT.out _ _ _ HFR.out (HM.out.ex hE).tab) fun w5 hx5=>?_
     replace hE:=hE.trans hx5;have e:=HR.out;rcases okt with _|_
     ·simp only[Bool.false_eq_true,if_false] at e;subst e;clear HR;go_wp2_with fail;refine Zu (v:= .tuple #[TS,false,true]) ?_ rfl (Xo HB.out rfl ?_)
      ·simp[results,results26,go_sem]
      ·(have:=Exi.mk hE;exact Exi.out)
     ·simp only[if_true] at e;subst e;clear HR;go_wp2_with fail;refine Zu (v:= .tuple #[TS,true,true]) ?_ rfl (Xo HB.out HTS2.out ?_)
      ·simp[results,results26,go_sem]
      ·(have:=Exi.mk hE;exact Exi.out)
 ·clear HN2;have bc0:w1.cell? ⟨bc,0,none⟩=some (.string S):=hx.get (c0 0);clear c0;have z1:bc<w1.heap.size:=Nat.lt_of_lt_of_le z0 hx.size;clear z0;go_wp2_with fail;refine Yw (K2.out _ (HG.out.ex hx) (HM.out.ex hx)) fun w2 hx2=>?_
  go_upto_region 20 with(refine wpList_store_row rfl _ _ _ rfl _ _ rfl rfl _ _ (Box.new w2 _ _) (Yy HTS.out) (by rw[HTS.out];rfl) hone ?_);have hX:=hx2.trans (((Ex.refl w2).alloc (.cells Od 85)).setRow (Nat.le_refl _) TA);have bT:=(Box.new w2 Od 85).setRow TA;generalize (w2.alloc (.cells Od 85)).setRow w2.heap.size TA=W2 at*;have hE:=hx.trans hX;clear hx hx2 hX hone bc0 z1;generalize w2.heap.size=gT at*;have e:=HA.out;try simp only at e
  subst e;clear HA;go_wp2_with fail;refine Zu (v:= .tuple #[.string ⟨#[]⟩,false,true]) ?_ rfl (Xo HB.out rfl ?_)
  ·simp[results,results26,go_sem]
  ·(have:=Exi.mk hE;exact Exi.out)
end
section
open Go.RowKit

attribute [local go_sem] Zg Zf
def Z6:Av:=Ob
theorem Zlo(x y:Fr):jvv x y= .agg (Zm [x,y]):=rfl
theorem Zji(v:Fr×Fr):(Zm [v.1,v.2]).size=6:=rfl
theorem Ir(l:Ub)(hl:l.length≤1048576)(v:Fr×Fr)(w:World)[hG:Xz w](hm:Wn w):Calls prog 76 #[(Bs l),jvv v.1 v.2] w (fun e w'=>e= .returned (v2v (Yz l v.1 v.2))∧Ex w w'):=by
 have KB:=Zz (fun w hm=>Pp.w (Ts l hl w hm));have KV:=Zz (fun w=>Qa v.1 v.2 w);have HRES:=Zz (Zsy l v.1 v.2);unfold jvv at KV ⊢;generalize Bs l=S at*;have HG:=Zz hG;have HM:=Zz hm;clear hm hl hG;have hR:=Zo.refl w;go_in;go_upto_region 1 with fail;have hV:Zo w ((w.alloc (.cells #[v.1.re,v.1.im,v.1.den,v.2.re,v.2.im,v.2.den] 39)).alloc (.cells Ob 39)) _:=inferInstance;clear hR;simp only[Zy] at hV;generalize (w.alloc (.cells #[v.1.re,v.1.im,v.1.den,v.2.re,v.2.im,v.2.den] 39)).alloc (.cells Ob 39)=W0 at*;go_wp2_with fail;refine(KB.out _ (HM.out.ex hV.ex)).mono ?_;rintro e w1 ⟨qs,A,cap,ok0,rfl,hq12,hsl,hps,hx,HBR,HPV⟩;replace hV:=Zo.after (h:=hV) hx;clear hx KB HM;have HBR2:Hid (Yz l v.1 v.2=Um Nc (Fr.none,Fr.none) (qs.map Pc.p) 0 v (ok0&&(v.1.valid&&v.2.valid))):=Zz (HRES.out.trans (Ok Nc (Fr.none,Fr.none) HBR.out (v.1,v.2) _));clear HBR HRES;generalize (v.1.valid&&v.2.valid)=vv at KV HBR2;go_upto_region 2 with fail;go_cut [7] (fun s wx=>s= .bool (ok0&&vv)∧Ex w1 wx)
 case first=>
  have hC:=hV.rd;simp only[Zr,Zq] at hC;rcases ok0 with _|_
  ·go_wp2_with fail;go_meet
   exact⟨rfl,Ex.refl _⟩
  ·go_wp2_with (with_reducible refine Yw (KV.out _) fun w2 hx=>?_);go_meet
   exact⟨by rw[Bool.true_and],hx⟩
 case rest=>
  obtain⟨rfl,hx⟩:=hcut;have hB:BM w wc 39 (w.heap.size+1) w.heap.size Z6 A (Xp qs) qs (Zm [v.1,v.2]):=⟨Zo.after (h:=hV) hx,hsl.ex hx,hps.ex hx⟩
  clear hV hx hsl hps KV;generalize (ok0&&vv)=o0 at HBR2 ⊢;have HQL:=Zz hq12;have HB0:=Zz hB;clear hB hq12;go_wp2_with fail;go_loopw [26,7,9,10,11,12,13] (fun i o _ _ _ _ _ wr=>∃(k:Nat) (u:Fr×Fr) (ok:Bool),i= .int .i64 k∧o= .bool ok∧k≤qs.length∧Hid (Yz l v.1 v.2=Um Nc (Fr.none,Fr.none) (qs.map Pc.p) k u ok)∧Hid (BM w wr 39 (w.heap.size+1) w.heap.size Z6 A (Xp qs) qs (Zm [u.1,u.2]))) (fun i _ _ _ _ _ _ _=>13-(intOf i).toNat)
  case atStart=>exact⟨0,v,o0,rfl,rfl,by omega,HBR2,HB0⟩
  case round=>
   clear HB0 HBR2;obtain⟨k,u,ok,rfl,rfl,hk,HR,HB⟩:=hrel;have hq12:=HQL.out;by_cases hlt:k<qs.length
   ·have hI:(k:Int)<(qs.length:Int):=by omega
    have hw5:=wr1 k (by omega);obtain⟨b,off,rfl,hc⟩:=HB.out.slc (by rw[Ws];omega);have hat:=Ol qs k hlt;have d0:=hc (3*k) (by rw[Ws];omega);have d1:=hc (3*k+1) (by rw[Ws];omega);have d2:=hc (3*k+2) (by rw[Ws];omega);rw[hat.1] at d0;rw[hat.2.1] at d1;rw[hat.2.2] at d2;rw[Nat.mul_comm 3 k] at d0 d1 d2;rw[←Nat.add_assoc] at d1 d2;have HST:=Zz (fun x ox h=>Md Nc (Fr.none,Fr.none) hlt u ok (x:=x) (u:=ox) h);have hmem:qs[k]∈qs:=List.getElem_mem hlt;have HV:=Zz (HPV.out _ hmem);have HO:=Zz (HB.out.pcs _ hmem);clear hc hat hmem;generalize qs[k]=q at*;have kt:=fun w (_:Xz w) ho=>Zbp q HV.out w ho
    rcases hT:Rk q.k q.ns with⟨t,okt⟩;rcases hA:Ul t u.1 u.2 with⟨x,okx⟩;have ka:=fun w=>Zjj t u.1 u.2 w
    have HR2:Hid (Yz l v.1 v.2=Um Nc (Fr.none,Fr.none) (qs.map Pc.p) (k+1) x (ok&&okt&&okx)):=Zz (by
     rw[Bool.and_assoc];refine HR.out.trans (HST.out x (okt&&okx) ?_);show((Ul (Rk q.k q.ns).1 u.1 u.2).1,(Rk q.k q.ns).2&&(Ul (Rk q.k q.ns).1 u.1 u.2).2)=_;rw[hT];simp only[hA])
    rw[hT] at kt;rw[hA] at ka;simp only[m4v,v2v,M4.l_arr,Zlo] at kt ka;have hone:=Zb t.l;have hux:=Sz [u.1,u.2];have hxs:=Zji x;have hts:=Pi t;have hus:=Zji u;have hxo:=Zb [x.1,x.2];generalize Zm t.l=tc at*;generalize hvu:Zm [u.1,u.2]=uc at*;generalize hvx:Zm [x.1,x.2]=xc at*;have KT:=Zz kt;have KA:=Zz ka;have HX:=Zz hvx;have HTS:=Zz hts;have HXS:=Zz hxs;have HUS:=Zz hus;have HUX:=Zz hux;clear kt ka hT hA hvu hvx HST HR HV hts hxs hus hux;have hB:=HB.out;clear HB;go_upto_region 6 with fail;have b9:=Box.new wr #[.int .u8 q.k.toNat, .slice (some ⟨q.g,0,none⟩) q.ns.length q.cap,q.S] 169;replace hB:=hB.ex ((Ex.refl wr).alloc (.cells #[.int .u8 q.k.toNat, .slice (some ⟨q.g,0,none⟩) q.ns.length q.cap,q.S] 169));have HO1:=Zz (HO.out.ex ((Ex.refl wr).alloc (.cells #[.int .u8 q.k.toNat, .slice (some ⟨q.g,0,none⟩) q.ns.length q.cap,q.S] 169)));generalize wr.alloc _=W2 at*;have c9:=b9.cell;have z9:=b9.lt;clear d0 d1 d2 HO;go_wp2_with fail;refine(KT.out _ (HG.out.ex hB.sees.ex) HO1.out).mono ?_;clear HO1 b9 c9 z9;rintro e w2 ⟨rfl,hx⟩;go_upto_region 7 with(refine wpList_store_row rfl _ _ _ rfl _ _ rfl rfl _ _ (Box.new w2 _ _) (So HTS.out) (by rw[HTS.out];rfl) hone ?_);replace hB:=hB.ex (hx.trans (((Ex.refl w2).alloc (.cells Oc 79)).setRow (Nat.le_refl _) tc));have bT:=(Box.new w2 Oc 79).setRow tc;generalize (w2.alloc (.cells Oc 79)).setRow w2.heap.size tc=W3 at*;clear hx hone;have b3:=hB.sees.boxes.2.1;go_wp2_with (first|(refine wpList_load_row rfl _ _ rfl _ rfl _ _ (0,0) _ bT underlying79 rfl (So HTS.out) ?_)|(refine wpList_load_row rfl _ _ rfl _ rfl _ _ (0,0) _ b3 underlying39 rfl (My HUS.out) ?_));refine Yw (KA.out _) fun w3 hx=>?_
    go_upto_region 8 with(refine wpList_store_row rfl _ _ _ rfl _ _ rfl rfl _ _ (Box.new w3 _ _) (My HXS.out) (by rw[HXS.out];rfl) hxo ?_);replace hB:=hB.ex (hx.trans (((Ex.refl w3).alloc (.cells Ob 39)).setRow (Nat.le_refl _) xc));have bX:=(Box.new w3 Ob 39).setRow xc;generalize (w3.alloc (.cells Ob 39)).setRow w3.heap.size xc=W4 at*;clear hx b3 bT;go_cut [7] (fun s wx=>s= .bool (ok&&okt&&okx)∧wx=W4)
    case first=>
     rcases ok with _|_<;>rcases okt with _|_<;>rcases okx with _|_
     all_goals
      go_wp2_with fail;go_meet
      exact⟨rfl,rfl⟩
    case rest=>
     obtain⟨rfl,rfl⟩:=hcut;have b3:=hB.sees.boxes.2.1;go_wp2_with (first|(refine wpList_load_row rfl _ _ rfl _ rfl _ _ (0,0) _ bX underlying39 rfl (My HXS.out) ?_)|(refine wpList_store_row rfl _ _ _ rfl _ _ rfl rfl _ _ b3 (My HXS.out) (by rw[HXS.out,HUS.out]) hxo ?_));have HB2:Hid (BM w (wc.setRow w.heap.size xc) 39 (w.heap.size+1) w.heap.size Z6 (some ⟨b,off,none⟩) (Xp qs) qs (Zm [x.1,x.2])):=Zz (by rw[HX.out];exact hB.store (Nat.le_refl _) (by omega) (by decide) HUX.out (Na qs) xc);clear hB b3 bX hxo;go_roundw
     case rel=>exact⟨k+1,x,_,by go_num,rfl,by omega,HR2,HB2⟩
     case measure=>simp[intOf]<;>omega
   ·obtain rfl:k=qs.length:=by omega
    have HE:=HR.out;rw[Qn] at HE;have hI:¬((qs.length:Nat):Int)<(qs.length:Int):=by omega
    have hB:=HB.out;clear HB HR hlt hk HPV HQL hq12;have b4:=hB.sees.boxes.1;have b3:=hB.sees.boxes.2.1;have hE:=hB.sees.ex;have HEE:=Zz HE;clear HE;rcases ok with _|_
    ·have c4:=b4.cell;have f4:=b4.frozen;have z4:=b4.lt;unfold Z6 at c4;go_wp2;refine Zu (v:= .tuple #[.agg Ob,false]) ?_ rfl ⟨by rw[HEE.out];rfl,?_⟩
     ·simp[results,results76,go_sem,c4]
     ·(have:=Exi.mk hE;exact Exi.out)
    ·have hus:=Zji u;have huo:=Zb [u.1,u.2];go_wp2_with (first|(refine wpList_load_row rfl _ _ rfl _ rfl _ _ (0,0) _ b3 underlying39 rfl (My hus) ?_)|(refine wpList_store_row rfl _ _ _ rfl _ _ rfl rfl _ _ b4 (My hus) rfl huo ?_));exact Zu (Ze results76 _ _ _ _ _ (0,0) _ rfl (b4.setRow _) underlying39 rfl (My hus)) rfl ⟨by rw[HEE.out];rfl,hE.setRow (Nat.le_succ _) _⟩
end
section
open Go.RowKit

attribute [local go_sem] Zg Zf
theorem Zvl{w:World}{b:Nat}{t:TypeId}{x y:Fr}(h:Box w b t #[x.re,x.im,x.den,y.re,y.im,y.den]):Uq w (some ⟨b,0,none⟩) [x,y]:=by
 intro _;refine⟨b,0,rfl,fun k _=>?_⟩;rw[Nat.zero_add,h.cell k];simp[Tg,Fr.cs]
def Zrm(c:Con):Ub:=if (Sn [(Yz c.b c.x c.y).1.1,(Yz c.b c.x c.y).1.2]).2&&(Yz c.b c.x c.y).2 then (Sn [(Yz c.b c.x c.y).1.1,(Yz c.b c.x c.y).1.2]).1 else [110,111]
theorem Zfi(c:Con):(Zrm c).length≤1000:=by
 unfold Zrm;split
 ·have:=Ev [(Yz c.b c.x c.y).1.1,(Yz c.b c.x c.y).1.2]
  simp only[List.length_cons,List.length_nil] at this;omega
 ·simp
theorem Zfh(c:Con)(hl:c.b.length≤1048576)(bc:Nat)(w:World)(hG:Xz w)(hm:Wn w)(hb:Box w bc 55 c.cells):
  Calls prog 27 #[.pointer (some ⟨bc,0,none⟩), .string ⟨#[114,117,110]⟩] w (Uh bc w (c,Zrm c)):=by
 have k1:=fun w (_:Xz w) hm=>Ir c.b hl (c.x,c.y) w hm
 obtain⟨a,HA⟩:=nm (Zrm c);rw[←HA.out];unfold Zrm at HA;simp only at k1;rcases hR:Yz c.b c.x c.y with⟨⟨x,y⟩,fine⟩;rw[hR] at k1 HA;simp only at HA;have kt:=fun A w h ht=>Mb A [x,y] 2 w h (by simp) (by simp) ht
 rcases hT:Sn [x,y] with⟨t,okt⟩;rw[hT] at kt HA;simp only at HA;clear hR hT hl;obtain⟨x1,x2,x3⟩:=x;obtain⟨y1,y2,y3⟩:=y;simp only[jvv,v2v] at k1;obtain⟨TS,HTS⟩:=nm (Bs t);have KT:Hid (∀(A:Option Addr) (w:World),Uq w A [⟨x1,x2,x3⟩,⟨y1,y2,y3⟩]→Tab w→Calls prog 72 #[.slice A 2 2] w fun e w'=>e= .returned (.tuple #[TS,okt])∧Ex w w'):=Zz (by rw[HTS.out];exact kt);have K1:=Zz k1;have HM:=Zz hm;have HG:=Zz hG;have HB:=Zz hb;clear k1 kt hm hG;have hS:Zo w w [(bc,55,c.cells)]:=⟨Ex.refl w,hb,trivial⟩
 have z0:=hb.lt;clear hb;go_in;go_upto_region 11 with fail;clear z0;have hS0:=hS;refine Rv hS0 12 1 39 7 56 Ob #[x1,x2,x3,y1,y2,y3] (by kernel_rfl) (by decide) ?_;iterate 8 (apply Zp;rfl;intro b u B Q q;have hS:=B.sees;have hC:=hS.rd;simp only[Zr,Zq] at hC;unfold Con.cells at hC;go_wp2;exact q _ (Ex.refl _) B;exact⟨_,rfl⟩)
 (apply Zp;rfl;intro b u B Q q;go_wp2_with (with_reducible refine Yw (K1.out _ (HG.out.ex B.sees.ex) (HM.out.ex B.sees.ex)) fun wn hx=>?_);exact q _ hx (B.go hx);exact⟨_,rfl⟩);iterate 3 (apply Zp;rfl;intro b u B Q q;go_wp2;exact q _ (Ex.refl _) B;exact⟨_,rfl⟩)
 refine Zn ⟨⟨_,rfl,Rw⟩,⟨_,rfl,Wy Qt rfl (by kernel_rfl)⟩,show(7:Nat)<164 by decide,fun g0 wz hg0 hS=>?_⟩;simp only[Act.put,Zx,Zw,Zv,Nat.reduceAdd,List.drop_succ_cons,List.drop_zero];clear hS0;have hC:=hS.rd;simp only[Zr,Zq] at hC;have hE:=hS.ex;go_upto_region 12 with fail;go_wp2_with fail;refine Yw (KT.out _ _ (Zvl (x:=⟨x1,x2,x3⟩) (y:=⟨y1,y2,y3⟩) (Box.new _ _ _)) (HM.out.ex (hE.alloc _)).tab) fun w9 hx=>?_
 replace hE:=(hE.alloc _).trans hx;clear hx hC hS hg0;rcases okt with _|_<;>rcases fine with _|_
 all_goals
  have e:=HA.out;simp only[Bool.and_false,Bool.false_and,Bool.and_self,Bool.false_eq_true,if_false,if_true] at e;subst e;go_wp2
 ·refine Zu (v:= .tuple #[TS,false,true]) ?_ rfl (Xo HB.out rfl hE);simp[results,results27,go_sem]
 ·refine Zu (v:= .tuple #[TS,false,true]) ?_ rfl (Xo HB.out rfl hE);simp[results,results27,go_sem]
 ·refine Zu (v:= .tuple #[TS,false,true]) ?_ rfl (Xo HB.out rfl hE);simp[results,results27,go_sem]
 ·refine Zu (v:= .tuple #[TS,true,true]) ?_ rfl (Xo HB.out HTS.out hE);simp[results,results27,go_sem]
end
section
open Go.RowKit

attribute [local go_sem] Zg Zf
theorem Zln{w:World}{b:Nat}{t:TypeId}{x:Fr}(h:Box w b t #[x.re,x.im,x.den]):Uq w (some ⟨b,0,none⟩) [x]:=by
 intro _;refine⟨b,0,rfl,fun k _=>?_⟩;rw[Nat.zero_add,h.cell k];simp[Tg,Fr.cs]
def Hf(c:Con):Ub:=Sw [(Vm (Yz c.b c.x c.y).1.1 (Yz c.b c.x c.y).1.2).1] ((Yz c.b c.x c.y).2&&(Vm (Yz c.b c.x c.y).1.1 (Yz c.b c.x c.y).1.2).2)
theorem Znp(c:Con)(hl:c.b.length≤1048576) (bc:Nat)(w:World)(hG:Xz w)(hm:Wn w)(hb:Box w bc 55 c.cells):Calls prog 27 #[.pointer (some ⟨bc,0,none⟩), .string ⟨#[112,111,119,101,114]⟩] w (Uh bc w (c,Hf c)):=by
 have k1:=fun w (_:Xz w) hm=>Ir c.b hl (c.x,c.y) w hm
 obtain⟨a,HA⟩:=nm (Hf c);rw[←HA.out];unfold Hf at HA;simp only at k1;rcases hR:Yz c.b c.x c.y with⟨⟨x,y⟩,fine⟩;rw[hR] at k1 HA;simp only at HA;have k2:=fun w=>Ke x y w
 rcases hP:Vm x y with⟨f,can⟩;rw[hP] at k2 HA;unfold Sw at HA;simp only at HA;clear hP hR hl;have kt:=fun A w h ht=>Mb A [f] 1 w h (by simp) (by simp) ht
 rcases hT:Sn [f] with⟨t,okt⟩;rw[hT] at kt HA;simp only at HA;clear hT;obtain⟨x1,x2,x3⟩:=x;obtain⟨y1,y2,y3⟩:=y;obtain⟨f1,f2,f3⟩:=f;simp only[jvv,v2v,frv,Fr.v] at k1 k2;obtain⟨TS,HTS⟩:=nm (Bs t);have KT:Hid (∀(A:Option Addr) (w:World),Uq w A [⟨f1,f2,f3⟩]→Tab w→Calls prog 72 #[.slice A 1 1] w fun e w'=>e= .returned (.tuple #[TS,okt])∧Ex w w'):=Zz (by rw[HTS.out];exact kt);have K1:=Zz k1;have K2:=Zz k2;have HM:=Zz hm;have HG:=Zz hG;have HB:=Zz hb;clear k1 k2 kt hm hG;have hS:Zo w w [(bc,55,c.cells)]:=⟨Ex.refl w,hb,trivial⟩
 have z0:=hb.lt;clear hb;go_in;go_upto_region 19 with fail;clear z0;have hS0:=hS;refine Rv hS0 12 1 39 11 99 Ob #[x1,x2,x3,y1,y2,y3] (by kernel_rfl) (by decide) ?_;iterate 8 (apply Zp;rfl;intro b u B Q q;have hS:=B.sees;have hC:=hS.rd;simp only[Zr,Zq] at hC;unfold Con.cells at hC;go_wp2;exact q _ (Ex.refl _) B;exact⟨_,rfl⟩)
 (apply Zp;rfl;intro b u B Q q;go_wp2_with (with_reducible refine Yw (K1.out _ (HG.out.ex (hS0.ex.trans B.sees.ex)) (HM.out.ex (hS0.ex.trans B.sees.ex))) fun wn hx=>?_);exact q _ hx (B.go hx);exact⟨_,rfl⟩);iterate 3 (apply Zp;rfl;intro b u B Q q;go_wp2;exact q _ (Ex.refl _) B;exact⟨_,rfl⟩)
 refine Zn ⟨⟨_,rfl,Rw⟩,⟨_,rfl,Wy Qt rfl (by kernel_rfl)⟩,show(11:Nat)<164 by decide,fun g0 wz hg0 hS=>?_⟩;simp only[Act.put,Zx,Zw,Zv,Nat.reduceAdd,List.drop_succ_cons,List.drop_zero];clear hS0;have hC:=hS.rd;simp only[Zr,Zq] at hC;go_upto_region 20 with fail;go_upto_region 21 with((with_reducible apply Zo.see w;exact K2.out _);clear hS hC;intro w2 hS hC;simp only[Zr,Zq] at hC);replace hS:Zo w (w2.alloc (.cells #[f1,f2,f3] 30)) _:=inferInstance;clear hC K1 K2 hg0;generalize w2.alloc (.cells #[f1,f2,f3] 30)=W3 at*;generalize w2.heap.size=g2 at*;have hC:=hS.rd;simp only[Zr,Zq] at hC;have hE:=hS.ex;go_wp2_with fail;refine Yw (KT.out _ _ (Zln (x:=⟨f1,f2,f3⟩) (Box.new _ _ _)) (HM.out.ex (hE.alloc _)).tab) fun w9 hx9=>?_
 replace hE:=(hE.alloc _).trans hx9;clear hx9 hC hS;rcases okt with _|_<;>rcases fine with _|_<;>rcases can with _|_
 all_goals
  have e:=HA.out;simp only[Bool.and_false,Bool.false_and,Bool.and_self,Bool.false_eq_true,if_false,if_true] at e;subst e;go_wp2
 ·refine Zu (v:= .tuple #[TS,false,true]) ?_ rfl (Xo HB.out rfl hE);simp[results,results27,go_sem]
 ·refine Zu (v:= .tuple #[TS,false,true]) ?_ rfl (Xo HB.out rfl hE);simp[results,results27,go_sem]
 ·refine Zu (v:= .tuple #[TS,false,true]) ?_ rfl (Xo HB.out rfl hE);simp[results,results27,go_sem]
 ·refine Zu (v:= .tuple #[TS,false,true]) ?_ rfl (Xo HB.out rfl hE);simp[results,results27,go_sem]
 ·refine Zu (v:= .tuple #[TS,false,true]) ?_ rfl (Xo HB.out rfl hE);simp[results,results27,go_sem]
 ·refine Zu (v:= .tuple #[TS,false,true]) ?_ rfl (Xo HB.out rfl hE);simp[results,results27,go_sem]
 ·refine Zu (v:= .tuple #[TS,false,true]) ?_ rfl (Xo HB.out rfl hE);simp[results,results27,go_sem]
 ·refine Zu (v:= .tuple #[TS,true,true]) ?_ rfl (Xo HB.out HTS.out hE);simp[results,results27,go_sem]
end
section
open Go.RowKit

attribute [local go_sem] Zg Zf
theorem Zjg{x y c:Fr}(h:(x.valid&&y.valid&&c.valid)=false):((Zk x c).2&&(Zk y c).2)=false:=by
 have key:∀z:Fr,(Zk z c).2=true→z.valid=true∧c.valid=true:=fun z hz=>by
  unfold Zk at hz;split at hz
  ·rename_i hv;simpa using hv
  ·cases hz
 rcases h1:(Zk x c).2 with _|_
 ·rfl
 ·rcases h2:(Zk y c).2 with _|_
  ·rfl
  ·have a:=key x h1;have b:=key y h2;rw[a.1,b.1,b.2] at h;cases h
theorem Znn{a b:Bool}(h:(a&&b)=false)(k:Bool):(((false|| !k)|| !a)|| !b)=true:=by
 cases k<;>cases a<;>cases b<;>first|rfl|cases h
theorem Mx(x y c:Fr)(w:World):Calls prog 243 #[jvv x y,c.v] w (fun e w'=>e= .returned (v2v (Xn x y c))∧Ex w w'):=by
 have kx:=fun w=>Qa x y w
 have kc:=fun w=>Xj c.re c.im c.den w
 have hno:=Zjg (x:=x) (y:=y) (c:=c);unfold Xn two;have hcv:c.valid=Yx c.re c.im c.den:=rfl;rw[hcv] at hno;generalize (x.valid&&y.valid)=vx at*;generalize Yx c.re c.im c.den=vc at*;clear hcv;obtain⟨x1,x2,x3⟩:=x;obtain⟨y1,y2,y3⟩:=y;obtain⟨c1,c2,c3⟩:=c;simp only[jvv,Fr.v] at kx kc ⊢;rcases hss:Zk ⟨x1,x2,x3⟩ ⟨c1,c2,c3⟩ with⟨⟨s1,s2,s3⟩,sk⟩;rcases htt:Zk ⟨y1,y2,y3⟩ ⟨c1,c2,c3⟩ with⟨⟨t1,t2,t3⟩,tk⟩;rw[hss,htt] at hno;simp only[Bool.true_and] at hno ⊢;rcases vx with _|_
 ·have hK:=hno (by simp);clear hno;have HK:=Zz hK;rw[hK];clear hK;simp only[v2v,jvv,Fr.none,Bool.false_eq_true,if_false];have HSS:=Zz hss;have HTT:=Zz htt;have KX:=Zz kx;have KC:=Zz kc;clear hss htt kx kc;obtain⟨hS,hC⟩:=s0 w;go_in;go_wp2_with (first|((with_reducible apply Zl.see w;first|exact KX.out _|exact KC.out _);clear hS hC;intro wn hS hC;(try simp only[Zy] at hS hC);simp only[Zr,Zq] at hC)|(go_at_call 46;(with_reducible refine(Uc w).mono ?_);rintro e wn ⟨rfl,hS⟩;have hC:=hS.rd;simp only[Zr,Zq] at hC));refine Ux (fun b w'=>Zl w w' _ b _) 12 _ (by kernel_rfl) (hS.drewW) (by exact fun _ _ _ _ _ h=>h) ?_;iterate 5 (apply Zp;rfl;intro b u B Q q;have hS:=B;have hC:=hS.rd;simp only[Zr,Zq] at hC;go_wp2;exact q _ trivial B;exact⟨_,rfl⟩)
  (apply Zi;rfl;intro b u B Q q;go_wp2_with ((with_reducible refine(Ye B HSS.out).mono ?_);rintro e wn ⟨rfl,hN,hM⟩);exact q _ trivial hN;exact⟨_,rfl⟩);iterate 4 (apply Zp;rfl;intro b u B Q q;have hS:=B;have hC:=hS.rd;simp only[Zr,Zq] at hC;go_wp2;exact q _ trivial B;exact⟨_,rfl⟩)
  (apply Zi;rfl;intro b u B Q q;go_wp2_with ((with_reducible refine(Ye B HTT.out).mono ?_);rintro e wn ⟨rfl,hN,hM⟩);exact q _ trivial hN;exact⟨_,rfl⟩);(apply Zp;rfl;intro b u B Q q;go_wp2;exact q _ trivial B;exact⟨_,rfl⟩);refine Zn ?_;intro wz hz;rw[Znn HK.out] at hz;go_wp2_with ((with_reducible refine(Va _ _ _ _ _ _ _ _ hz.sum).mono ?_);rintro e wn ⟨rfl,hx⟩;have hS:=Zl.ex hz hx;have hC:=hS.rd;simp only[Zr,Zq] at hC;have hE:=hS.rel (by omega));have:=Exi.mk hE
  exact Yp (by simp[results,results243,go_sem,hC]) rfl
 ·rcases vc with _|_
  ·have hK:=hno (by simp);clear hno;have HK:=Zz hK;rw[hK];clear hK;simp only[v2v,jvv,Fr.none,Bool.false_eq_true,if_false];have HSS:=Zz hss;have HTT:=Zz htt;have KX:=Zz kx;have KC:=Zz kc;clear hss htt kx kc;obtain⟨hS,hC⟩:=s0 w;go_in;go_wp2_with (first|((with_reducible apply Zl.see w;first|exact KX.out _|exact KC.out _);clear hS hC;intro wn hS hC;(try simp only[Zy] at hS hC);simp only[Zr,Zq] at hC)|(go_at_call 46;(with_reducible refine(Uc w).mono ?_);rintro e wn ⟨rfl,hS⟩;have hC:=hS.rd;simp only[Zr,Zq] at hC));refine Ux (fun b w'=>Zl w w' _ b _) 12 _ (by kernel_rfl) (hS.drewW) (by exact fun _ _ _ _ _ h=>h) ?_;iterate 5 (apply Zp;rfl;intro b u B Q q;have hS:=B;have hC:=hS.rd;simp only[Zr,Zq] at hC;go_wp2;exact q _ trivial B;exact⟨_,rfl⟩)
   (apply Zi;rfl;intro b u B Q q;go_wp2_with ((with_reducible refine(Ye B HSS.out).mono ?_);rintro e wn ⟨rfl,hN,hM⟩);exact q _ trivial hN;exact⟨_,rfl⟩);iterate 4 (apply Zp;rfl;intro b u B Q q;have hS:=B;have hC:=hS.rd;simp only[Zr,Zq] at hC;go_wp2;exact q _ trivial B;exact⟨_,rfl⟩)
   (apply Zi;rfl;intro b u B Q q;go_wp2_with ((with_reducible refine(Ye B HTT.out).mono ?_);rintro e wn ⟨rfl,hN,hM⟩);exact q _ trivial hN;exact⟨_,rfl⟩);(apply Zp;rfl;intro b u B Q q;go_wp2;exact q _ trivial B;exact⟨_,rfl⟩);refine Zn ?_;intro wz hz;rw[Znn HK.out] at hz;go_wp2_with ((with_reducible refine(Va _ _ _ _ _ _ _ _ hz.sum).mono ?_);rintro e wn ⟨rfl,hx⟩;have hS:=Zl.ex hz hx;have hC:=hS.rd;simp only[Zr,Zq] at hC;have hE:=hS.rel (by omega));have:=Exi.mk hE
   exact Yp (by simp[results,results243,go_sem,hC]) rfl
  ·clear hno;rcases hK:(sk&&tk) with _|_
   all_goals
    first|(simp only[Bool.and_eq_true] at hK;obtain⟨rfl,rfl⟩:=hK;simp only[v2v,jvv,if_true])|(have HK:=Zz hK;clear hK;simp only[v2v,jvv,Fr.none,Bool.false_eq_true,if_false])
    have HSS:=Zz hss;have HTT:=Zz htt;have KX:=Zz kx;have KC:=Zz kc;clear hss htt kx kc;obtain⟨hS,hC⟩:=s0 w;go_in;go_wp2_with (first|((with_reducible apply Zl.see w;first|exact KX.out _|exact KC.out _);clear hS hC;intro wn hS hC;(try simp only[Zy] at hS hC);simp only[Zr,Zq] at hC)|(go_at_call 46;(with_reducible refine(Uc w).mono ?_);rintro e wn ⟨rfl,hS⟩;have hC:=hS.rd;simp only[Zr,Zq] at hC));refine Ux (fun b w'=>Zl w w' _ b _) 12 _ (by kernel_rfl) (hS.drewW) (by exact fun _ _ _ _ _ h=>h) ?_;iterate 5 (apply Zp;rfl;intro b u B Q q;have hS:=B;have hC:=hS.rd;simp only[Zr,Zq] at hC;go_wp2;exact q _ trivial B;exact⟨_,rfl⟩)
    (apply Zi;rfl;intro b u B Q q;go_wp2_with ((with_reducible refine(Ye B HSS.out).mono ?_);rintro e wn ⟨rfl,hN,hM⟩);exact q _ trivial hN;exact⟨_,rfl⟩);iterate 4 (apply Zp;rfl;intro b u B Q q;have hS:=B;have hC:=hS.rd;simp only[Zr,Zq] at hC;go_wp2;exact q _ trivial B;exact⟨_,rfl⟩)
    (apply Zi;rfl;intro b u B Q q;go_wp2_with ((with_reducible refine(Ye B HTT.out).mono ?_);rintro e wn ⟨rfl,hN,hM⟩);exact q _ trivial hN;exact⟨_,rfl⟩);(apply Zp;rfl;intro b u B Q q;go_wp2;exact q _ trivial B;exact⟨_,rfl⟩);refine Zn ?_;intro wz hz
   ·rw[Znn HK.out] at hz;go_wp2_with ((with_reducible refine(Va _ _ _ _ _ _ _ _ hz.sum).mono ?_);rintro e wn ⟨rfl,hx⟩;have hS:=Zl.ex hz hx;have hC:=hS.rd;simp only[Zr,Zq] at hC;have hE:=hS.rel (by omega));have:=Exi.mk hE
    exact Yp (by simp[results,results243,go_sem,hC]) rfl
   ·replace hz:Zl w wz _ false _:=hz;go_wp2_with ((with_reducible refine(Ri _ _ _ _ _ _ _ _ hz.sum).mono ?_);rintro e wn ⟨rfl,hx⟩;have hS:=Zl.ex hz hx;have hC:=hS.rd;simp only[Zr,Zq] at hC;have hE:=hS.rel (by omega));have:=Exi.mk hE
    exact Yp (by simp[results,results243,go_sem,hC]) rfl
theorem Zjf{W w:World}{bs:Nat}{bad sk tk:Bool}{x1 x2 x3 y1 y2 y3 u1 u2 u3 v1 v2 v3 s1 s2 s3 t1 t2 t3:Int}{L:Xx}(hB:Zl W w bs bad L)(h1:Xi ⟨x1,x2,x3⟩ ⟨u1,u2,u3⟩=(⟨s1,s2,s3⟩,sk))(h2:Xi ⟨y1,y2,y3⟩ ⟨v1,v2,v3⟩=(⟨t1,t2,t3⟩,tk)):Calls prog 200 #[.pointer (some ⟨bs,0,none⟩), .agg #[x1,x2,x3,y1,y2,y3], .agg #[u1,u2,u3,v1,v2,v3]] w fun e w'=>e= .returned (.agg #[s1,s2,s3,t1,t2,t3])∧Zl W w' bs (bad|| !sk|| !tk) L∧Sm bs w w':=by
 have HSS:=Zz h1;have HTT:=Zz h2;clear h1 h2;have hS:Zl w w bs bad L:=⟨Sm.refl _ _,hB.sum,hB.boxes,hB.far⟩
 have hB0:=hB;clear hB;go_in;go_upto_region 1 with fail;have hS1:Zl w (((w.alloc (.cells #[x1,x2,x3,y1,y2,y3] 39)).alloc (.cells #[u1,u2,u3,v1,v2,v3] 39)).alloc (.cells Ob 39)) bs bad _:=inferInstance;simp only[Zy] at hS1;have hx1:Ex w (((w.alloc (.cells #[x1,x2,x3,y1,y2,y3] 39)).alloc (.cells #[u1,u2,u3,v1,v2,v3] 39)).alloc (.cells Ob 39)):=(((Ex.refl w).alloc _).alloc _).alloc _;have m4:w.heap.size+1+1≠bs:=by have:=hS.sum.lt;omega
 generalize ((w.alloc (.cells #[x1,x2,x3,y1,y2,y3] 39)).alloc (.cells #[u1,u2,u3,v1,v2,v3] 39)).alloc (.cells Ob 39)=W1 at*;refine Ux (fun b w'=>Zl w w' _ b _) 12 _ (by kernel_rfl) (hS1.drewW) (by exact fun _ _ _ _ _ h=>h) ?_;iterate 5 (apply Zp;rfl;intro b u B Q q;have hS:=B;have hC:=hS.rd;simp only[Zr,Zq] at hC;go_wp2;exact q _ trivial B;exact⟨_,rfl⟩)
 (apply Zi;rfl;intro b u B Q q;go_wp2_with ((with_reducible refine(Cr B HSS.out).mono ?_);rintro e wn ⟨rfl,hN,hM⟩);exact q _ trivial hN;exact⟨_,rfl⟩);iterate 5 (apply Zp;rfl;intro b u B Q q;have hS:=B;have hC:=hS.rd;simp only[Zr,Zq] at hC;go_wp2;exact q _ trivial B;exact⟨_,rfl⟩)
 (apply Zi;rfl;intro b u B Q q;go_wp2_with ((with_reducible refine(Cr B HTT.out).mono ?_);rintro e wn ⟨rfl,hN,hM⟩);exact q _ trivial hN;exact⟨_,rfl⟩);refine Zn ?_;intro wz hz;have hC:=hz.rd;simp only[Zr,Zq] at hC;have z1:w.heap.size+1+1<wz.heap.size:=hz.boxes.1.lt;go_wp2_with fail;refine Zu ?_ rfl ⟨rfl,?_,?_⟩
 ·simp[results,results200,go_sem,hC]
 ·refine hB0.call ?_ ?_
  ·repeat' (with_reducible first
   |exact hz.sm
   |refine Sm.setNew ?_ (by simp<;>omega) _)
  ·repeat' (with_reducible first
   |exact hz.sum
   |refine Box.far ?_ (by simp;omega) _)
 ·repeat' (with_reducible first
  |exact hz.sm
  |refine Sm.setNew ?_ (by simp<;>omega) _)
end
section
open Go.RowKit

attribute [local go_sem] Zg Zf
theorem Zo.exW{W w:World}{L:Xx}[h:Zo W w L]:Ex W w:=h.ex
def Zcn(a b:Ub)(k:Int)(x y:Fr):Value:=
 if (Yz a x y).2&&(Yz b x y).2&&Xw k 0 3 then .tuple #[jvv (Yz a x y).1.1 (Yz a x y).1.2,jvv (Xn (Yz b x y).1.1 (Yz b x y).1.2 (Yd k)).1.1 (Xn (Yz b x y).1.1 (Yz b x y).1.2 (Yd k)).1.2, .bool (Xn (Yz b x y).1.1 (Yz b x y).1.2 (Yd k)).2]
 else .tuple #[jvv Fr.none Fr.none,jvv Fr.none Fr.none,false]
theorem iArms(a b:Ub)(ha:a.length≤1048576)(hb:b.length≤1048576)(k:Int)(x y:Fr)(w:World)[hG:Xz w](hm:Wn w):Calls prog 199 #[(Bs a),(Bs b),k,jvv x y] w (fun e w'=>e= .returned (Zcn a b k x y)∧Ex w w'):=by
 have ka:=fun w (_:Xz w) hm=>Ir a ha (x,y) w hm
 have kb:=fun w (_:Xz w) hm=>Ir b hb (x,y) w hm
 have kin:=fun w=>Wu k 0 3 w
 simp only at ka kb;unfold Zcn;rcases hA:Yz a x y with⟨⟨u,v⟩,ok1⟩;rcases hB:Yz b x y with⟨⟨p,q⟩,ok2⟩;rw[hA] at ka;rw[hB] at kb;simp only;clear hA hB ha hb;generalize Bs a=A at*;generalize Bs b=B at*;have HM:=Zz hm;have HG:=Zz hG;clear hm hG;have hkk:Xw k 0 3=true→k=0∨k=1∨k=2∨k=3:=fun h=>by
  have h3:0≤k∧k≤3:=by simpa [Xw] using h
  omega
 generalize hi:Xw k 0 3=ik at*;rcases ok1 with _|_
 ·clear hkk;obtain⟨x1,x2,x3⟩:=x;obtain⟨y1,y2,y3⟩:=y;obtain⟨u1,u2,u3⟩:=u;obtain⟨v1,v2,v3⟩:=v;obtain⟨p1,p2,p3⟩:=p;obtain⟨q1,q2,q3⟩:=q;simp only[v2v,jvv,Fr.v,Fr.none,Bool.false_and,Bool.and_false,Bool.false_eq_true,if_false] at ka kb ⊢;have KA:=Zz ka;have KB:=Zz kb;have KIN:=Zz kin;clear ka kb kin;obtain⟨hS,hC⟩:=s0 w;go_in;go_wp2_with (first|((with_reducible apply Zo.see w;exact KA.out _ (HG.out.ex Zo.exW) (HM.out.ex Zo.exW));clear hS hC;intro wa hS hC;(try simp only[Zy] at hS hC);simp only[Zr,Zq] at hC)|((with_reducible apply Zo.see w;exact KB.out _ (HG.out.ex Zo.exW) (HM.out.ex Zo.exW));clear hS hC;intro wb hS hC;(try simp only[Zy] at hS hC);simp only[Zr,Zq] at hC)|((with_reducible refine(KIN.out _).mono ?_);rintro e wi ⟨rfl,rfl⟩));exact Yp (by simp[results,results199,go_sem,hC]) rfl
 ·rcases ok2 with _|_
  ·clear hkk;obtain⟨x1,x2,x3⟩:=x;obtain⟨y1,y2,y3⟩:=y;obtain⟨u1,u2,u3⟩:=u;obtain⟨v1,v2,v3⟩:=v;obtain⟨p1,p2,p3⟩:=p;obtain⟨q1,q2,q3⟩:=q;simp only[v2v,jvv,Fr.v,Fr.none,Bool.false_and,Bool.and_false,Bool.false_eq_true,if_false] at ka kb ⊢;have KA:=Zz ka;have KB:=Zz kb;have KIN:=Zz kin;clear ka kb kin;obtain⟨hS,hC⟩:=s0 w;go_in;go_wp2_with (first|((with_reducible apply Zo.see w;exact KA.out _ (HG.out.ex Zo.exW) (HM.out.ex Zo.exW));clear hS hC;intro wa hS hC;(try simp only[Zy] at hS hC);simp only[Zr,Zq] at hC)|((with_reducible apply Zo.see w;exact KB.out _ (HG.out.ex Zo.exW) (HM.out.ex Zo.exW));clear hS hC;intro wb hS hC;(try simp only[Zy] at hS hC);simp only[Zr,Zq] at hC)|((with_reducible refine(KIN.out _).mono ?_);rintro e wi ⟨rfl,rfl⟩));exact Yp (by simp[results,results199,go_sem,hC]) rfl
  ·rcases ik with _|_
   ·clear hkk;obtain⟨x1,x2,x3⟩:=x;obtain⟨y1,y2,y3⟩:=y;obtain⟨u1,u2,u3⟩:=u;obtain⟨v1,v2,v3⟩:=v;obtain⟨p1,p2,p3⟩:=p;obtain⟨q1,q2,q3⟩:=q;simp only[v2v,jvv,Fr.v,Fr.none,Bool.false_and,Bool.and_false,Bool.false_eq_true,if_false] at ka kb ⊢;have KA:=Zz ka;have KB:=Zz kb;have KIN:=Zz kin;clear ka kb kin;obtain⟨hS,hC⟩:=s0 w;go_in;go_wp2_with (first|((with_reducible apply Zo.see w;exact KA.out _ (HG.out.ex Zo.exW) (HM.out.ex Zo.exW));clear hS hC;intro wa hS hC;(try simp only[Zy] at hS hC);simp only[Zr,Zq] at hC)|((with_reducible apply Zo.see w;exact KB.out _ (HG.out.ex Zo.exW) (HM.out.ex Zo.exW));clear hS hC;intro wb hS hC;(try simp only[Zy] at hS hC);simp only[Zr,Zq] at hC)|((with_reducible refine(KIN.out _).mono ?_);rintro e wi ⟨rfl,rfl⟩));exact Yp (by simp[results,results199,go_sem,hC]) rfl
   ·clear hi;rcases hkk rfl with rfl|rfl|rfl|rfl
    ·have kt:=fun w=>Mx p q (Yd 0) w
     rcases hT:Xn p q (Yd 0) with⟨⟨s,t⟩,okt⟩;rw[hT] at kt;clear hT;rw[show Yd 0=⟨1,0,1⟩ from rfl] at kt;obtain⟨x1,x2,x3⟩:=x;obtain⟨y1,y2,y3⟩:=y;obtain⟨u1,u2,u3⟩:=u;obtain⟨v1,v2,v3⟩:=v;obtain⟨p1,p2,p3⟩:=p;obtain⟨q1,q2,q3⟩:=q;obtain⟨s1,s2,s3⟩:=s;obtain⟨t1,t2,t3⟩:=t;simp only[v2v,jvv,Fr.v,Fr.none,Bool.and_self,if_true] at ka kb kt ⊢;have KA:=Zz ka;have KB:=Zz kb;have KIN:=Zz kin;clear ka kb kin;have KT:=Zz kt;clear kt;obtain⟨hS,hC⟩:=s0 w;go_in;go_upto_region 5 with(first|((with_reducible apply Zo.see w;exact KA.out _ (HG.out.ex Zo.exW) (HM.out.ex Zo.exW));clear hS hC;intro wa hS hC;(try simp only[Zy] at hS hC);simp only[Zr,Zq] at hC;have la:w.heap.size+1+1<wa.heap.size:=hS.boxes.1.lt)|((with_reducible apply Zo.see w;exact KB.out _ (HG.out.ex Zo.exW) (HM.out.ex Zo.exW));clear hS hC;intro wb hS hC;(try simp only[Zy] at hS hC);simp only[Zr,Zq] at hC)|((with_reducible refine(KIN.out _).mono ?_);rintro e wi ⟨rfl,rfl⟩));replace hS:Zo w (wb.alloc (.cells #[p1,p2,p3,q1,q2,q3] 39)) _:=inferInstance;try simp only[Zy] at hS
     have la2:w.heap.size+1<wa.heap.size:=by omega
     have l1:wa.heap.size<(wb.alloc (.cells #[p1,p2,p3,q1,q2,q3] 39)).heap.size:=hS.boxes.2.1.lt;clear hC;have hS0:=hS;refine Rv hS0 8 1 39 15 48 Ob #[s1,s2,s3,t1,t2,t3] (by kernel_rfl) (by decide) ?_;iterate 3 (apply Zp;rfl;intro b u B Q q;have hS:=B.sees;have hC:=hS.rd;simp only[Zr,Zq] at hC;go_wp2;exact q _ (Ex.refl _) B;exact⟨_,rfl⟩)
     (apply Zp;rfl;intro b u B Q q;have hg:=(HG.out.ex (hS0.ex.trans B.sees.ex)).rd;go_wp2;exact q _ (Ex.refl _) B;exact⟨_,rfl⟩);(apply Zp;rfl;intro b u B Q q;go_wp2_with (with_reducible refine Yw (KT.out _) fun wn hx=>?_);exact q _ hx (B.go hx);exact⟨_,rfl⟩);iterate 3 (apply Zp;rfl;intro b u B Q q;go_wp2;exact q _ (Ex.refl _) B;exact⟨_,rfl⟩)
     refine Zn ⟨⟨_,rfl,Rw⟩,⟨_,rfl,Wy Qt rfl (by kernel_rfl)⟩,show(15:Nat)<53 by decide,fun g0 wz hg0 hS=>?_⟩;simp only[Act.put,Zx,Zw,Zv,Nat.reduceAdd,List.drop_succ_cons,List.drop_zero];clear hS0;have m1:wa.heap.size<g0:=Nat.lt_of_lt_of_le l1 hg0;have m2:w.heap.size+1+1<g0:=Nat.lt_trans la m1;have m3:w.heap.size+1<g0:=Nat.lt_trans la2 m1;have hC:=hS.rd;simp only[Zr,Zq] at hC;go_wp2_with fail;go_region
     all_goals
      go_wp2;exact Yp (by simp[results,results199,go_sem,hC]) rfl
    ·have kt:=fun w=>Mx p q (Yd 1) w
     rcases hT:Xn p q (Yd 1) with⟨⟨s,t⟩,okt⟩;rw[hT] at kt;clear hT;rw[show Yd 1=⟨0,1,1⟩ from rfl] at kt;obtain⟨x1,x2,x3⟩:=x;obtain⟨y1,y2,y3⟩:=y;obtain⟨u1,u2,u3⟩:=u;obtain⟨v1,v2,v3⟩:=v;obtain⟨p1,p2,p3⟩:=p;obtain⟨q1,q2,q3⟩:=q;obtain⟨s1,s2,s3⟩:=s;obtain⟨t1,t2,t3⟩:=t;simp only[v2v,jvv,Fr.v,Fr.none,Bool.and_self,if_true] at ka kb kt ⊢;have KA:=Zz ka;have KB:=Zz kb;have KIN:=Zz kin;clear ka kb kin;have KT:=Zz kt;clear kt;obtain⟨hS,hC⟩:=s0 w;go_in;go_upto_region 5 with(first|((with_reducible apply Zo.see w;exact KA.out _ (HG.out.ex Zo.exW) (HM.out.ex Zo.exW));clear hS hC;intro wa hS hC;(try simp only[Zy] at hS hC);simp only[Zr,Zq] at hC;have la:w.heap.size+1+1<wa.heap.size:=hS.boxes.1.lt)|((with_reducible apply Zo.see w;exact KB.out _ (HG.out.ex Zo.exW) (HM.out.ex Zo.exW));clear hS hC;intro wb hS hC;(try simp only[Zy] at hS hC);simp only[Zr,Zq] at hC)|((with_reducible refine(KIN.out _).mono ?_);rintro e wi ⟨rfl,rfl⟩));replace hS:Zo w (wb.alloc (.cells #[p1,p2,p3,q1,q2,q3] 39)) _:=inferInstance;try simp only[Zy] at hS
     have la2:w.heap.size+1<wa.heap.size:=by omega
     have l1:wa.heap.size<(wb.alloc (.cells #[p1,p2,p3,q1,q2,q3] 39)).heap.size:=hS.boxes.2.1.lt;clear hC;have hS0:=hS;refine Rv hS0 8 1 39 15 48 Ob #[s1,s2,s3,t1,t2,t3] (by kernel_rfl) (by decide) ?_;iterate 3 (apply Zp;rfl;intro b u B Q q;have hS:=B.sees;have hC:=hS.rd;simp only[Zr,Zq] at hC;go_wp2;exact q _ (Ex.refl _) B;exact⟨_,rfl⟩)
     (apply Zp;rfl;intro b u B Q q;have hg:=(HG.out.ex (hS0.ex.trans B.sees.ex)).rd;go_wp2;exact q _ (Ex.refl _) B;exact⟨_,rfl⟩);(apply Zp;rfl;intro b u B Q q;go_wp2_with (with_reducible refine Yw (KT.out _) fun wn hx=>?_);exact q _ hx (B.go hx);exact⟨_,rfl⟩);iterate 3 (apply Zp;rfl;intro b u B Q q;go_wp2;exact q _ (Ex.refl _) B;exact⟨_,rfl⟩)
     refine Zn ⟨⟨_,rfl,Rw⟩,⟨_,rfl,Wy Qt rfl (by kernel_rfl)⟩,show(15:Nat)<53 by decide,fun g0 wz hg0 hS=>?_⟩;simp only[Act.put,Zx,Zw,Zv,Nat.reduceAdd,List.drop_succ_cons,List.drop_zero];clear hS0;have m1:wa.heap.size<g0:=Nat.lt_of_lt_of_le l1 hg0;have m2:w.heap.size+1+1<g0:=Nat.lt_trans la m1;have m3:w.heap.size+1<g0:=Nat.lt_trans la2 m1;have hC:=hS.rd;simp only[Zr,Zq] at hC;go_wp2_with fail;go_region
     all_goals
      go_wp2;exact Yp (by simp[results,results199,go_sem,hC]) rfl
    ·have kt:=fun w=>Mx p q (Yd 2) w
     rcases hT:Xn p q (Yd 2) with⟨⟨s,t⟩,okt⟩;rw[hT] at kt;clear hT;rw[show Yd 2=⟨-1,0,1⟩ from rfl] at kt;obtain⟨x1,x2,x3⟩:=x;obtain⟨y1,y2,y3⟩:=y;obtain⟨u1,u2,u3⟩:=u;obtain⟨v1,v2,v3⟩:=v;obtain⟨p1,p2,p3⟩:=p;obtain⟨q1,q2,q3⟩:=q;obtain⟨s1,s2,s3⟩:=s;obtain⟨t1,t2,t3⟩:=t;simp only[v2v,jvv,Fr.v,Fr.none,Bool.and_self,if_true] at ka kb kt ⊢;have KA:=Zz ka;have KB:=Zz kb;have KIN:=Zz kin;clear ka kb kin;have KT:=Zz kt;clear kt;obtain⟨hS,hC⟩:=s0 w;go_in;go_upto_region 5 with(first|((with_reducible apply Zo.see w;exact KA.out _ (HG.out.ex Zo.exW) (HM.out.ex Zo.exW));clear hS hC;intro wa hS hC;(try simp only[Zy] at hS hC);simp only[Zr,Zq] at hC;have la:w.heap.size+1+1<wa.heap.size:=hS.boxes.1.lt)|((with_reducible apply Zo.see w;exact KB.out _ (HG.out.ex Zo.exW) (HM.out.ex Zo.exW));clear hS hC;intro wb hS hC;(try simp only[Zy] at hS hC);simp only[Zr,Zq] at hC)|((with_reducible refine(KIN.out _).mono ?_);rintro e wi ⟨rfl,rfl⟩));replace hS:Zo w (wb.alloc (.cells #[p1,p2,p3,q1,q2,q3] 39)) _:=inferInstance;try simp only[Zy] at hS
     have la2:w.heap.size+1<wa.heap.size:=by omega
     have l1:wa.heap.size<(wb.alloc (.cells #[p1,p2,p3,q1,q2,q3] 39)).heap.size:=hS.boxes.2.1.lt;clear hC;have hS0:=hS;refine Rv hS0 8 1 39 15 48 Ob #[s1,s2,s3,t1,t2,t3] (by kernel_rfl) (by decide) ?_;iterate 3 (apply Zp;rfl;intro b u B Q q;have hS:=B.sees;have hC:=hS.rd;simp only[Zr,Zq] at hC;go_wp2;exact q _ (Ex.refl _) B;exact⟨_,rfl⟩)
     (apply Zp;rfl;intro b u B Q q;have hg:=(HG.out.ex (hS0.ex.trans B.sees.ex)).rd;go_wp2;exact q _ (Ex.refl _) B;exact⟨_,rfl⟩);(apply Zp;rfl;intro b u B Q q;go_wp2_with (with_reducible refine Yw (KT.out _) fun wn hx=>?_);exact q _ hx (B.go hx);exact⟨_,rfl⟩);iterate 3 (apply Zp;rfl;intro b u B Q q;go_wp2;exact q _ (Ex.refl _) B;exact⟨_,rfl⟩)
     refine Zn ⟨⟨_,rfl,Rw⟩,⟨_,rfl,Wy Qt rfl (by kernel_rfl)⟩,show(15:Nat)<53 by decide,fun g0 wz hg0 hS=>?_⟩;simp only[Act.put,Zx,Zw,Zv,Nat.reduceAdd,List.drop_succ_cons,List.drop_zero];clear hS0;have m1:wa.heap.size<g0:=Nat.lt_of_lt_of_le l1 hg0;have m2:w.heap.size+1+1<g0:=Nat.lt_trans la m1;have m3:w.heap.size+1<g0:=Nat.lt_trans la2 m1;have hC:=hS.rd;simp only[Zr,Zq] at hC;go_wp2_with fail;go_region
     all_goals
      go_wp2;exact Yp (by simp[results,results199,go_sem,hC]) rfl
    ·have kt:=fun w=>Mx p q (Yd 3) w
     rcases hT:Xn p q (Yd 3) with⟨⟨s,t⟩,okt⟩;rw[hT] at kt;clear hT;rw[show Yd 3=⟨0, -1,1⟩ from rfl] at kt;obtain⟨x1,x2,x3⟩:=x;obtain⟨y1,y2,y3⟩:=y;obtain⟨u1,u2,u3⟩:=u;obtain⟨v1,v2,v3⟩:=v;obtain⟨p1,p2,p3⟩:=p;obtain⟨q1,q2,q3⟩:=q;obtain⟨s1,s2,s3⟩:=s;obtain⟨t1,t2,t3⟩:=t;simp only[v2v,jvv,Fr.v,Fr.none,Bool.and_self,if_true] at ka kb kt ⊢;have KA:=Zz ka;have KB:=Zz kb;have KIN:=Zz kin;clear ka kb kin;have KT:=Zz kt;clear kt;obtain⟨hS,hC⟩:=s0 w;go_in;go_upto_region 5 with(first|((with_reducible apply Zo.see w;exact KA.out _ (HG.out.ex Zo.exW) (HM.out.ex Zo.exW));clear hS hC;intro wa hS hC;(try simp only[Zy] at hS hC);simp only[Zr,Zq] at hC;have la:w.heap.size+1+1<wa.heap.size:=hS.boxes.1.lt)|((with_reducible apply Zo.see w;exact KB.out _ (HG.out.ex Zo.exW) (HM.out.ex Zo.exW));clear hS hC;intro wb hS hC;(try simp only[Zy] at hS hC);simp only[Zr,Zq] at hC)|((with_reducible refine(KIN.out _).mono ?_);rintro e wi ⟨rfl,rfl⟩));replace hS:Zo w (wb.alloc (.cells #[p1,p2,p3,q1,q2,q3] 39)) _:=inferInstance;try simp only[Zy] at hS
     have la2:w.heap.size+1<wa.heap.size:=by omega
     have l1:wa.heap.size<(wb.alloc (.cells #[p1,p2,p3,q1,q2,q3] 39)).heap.size:=hS.boxes.2.1.lt;clear hC;have hS0:=hS;refine Rv hS0 8 1 39 15 48 Ob #[s1,s2,s3,t1,t2,t3] (by kernel_rfl) (by decide) ?_;iterate 3 (apply Zp;rfl;intro b u B Q q;have hS:=B.sees;have hC:=hS.rd;simp only[Zr,Zq] at hC;go_wp2;exact q _ (Ex.refl _) B;exact⟨_,rfl⟩)
     (apply Zp;rfl;intro b u B Q q;have hg:=(HG.out.ex (hS0.ex.trans B.sees.ex)).rd;go_wp2;exact q _ (Ex.refl _) B;exact⟨_,rfl⟩);(apply Zp;rfl;intro b u B Q q;go_wp2_with (with_reducible refine Yw (KT.out _) fun wn hx=>?_);exact q _ hx (B.go hx);exact⟨_,rfl⟩);iterate 3 (apply Zp;rfl;intro b u B Q q;go_wp2;exact q _ (Ex.refl _) B;exact⟨_,rfl⟩)
     refine Zn ⟨⟨_,rfl,Rw⟩,⟨_,rfl,Wy Qt rfl (by kernel_rfl)⟩,show(15:Nat)<53 by decide,fun g0 wz hg0 hS=>?_⟩;simp only[Act.put,Zx,Zw,Zv,Nat.reduceAdd,List.drop_succ_cons,List.drop_zero];clear hS0;have m1:wa.heap.size<g0:=Nat.lt_of_lt_of_le l1 hg0;have m2:w.heap.size+1+1<g0:=Nat.lt_trans la m1;have m3:w.heap.size+1<g0:=Nat.lt_trans la2 m1;have hC:=hS.rd;simp only[Zr,Zq] at hC;go_wp2_with fail;go_region
     all_goals
      go_wp2;exact Yp (by simp[results,results199,go_sem,hC]) rfl
end
section
open Go.RowKit

attribute [local go_sem] Zg Zf
theorem Zl.set6{W w:World}{bs g:Nat}{b:Bool}{t:TypeId}{p1 p2 p3 p4 p5 p6:Value}{L:Xx}(h:Zl W w bs b ((g,t,#[p1,p2,p3,p4,p5,p6])::L))(hg:W.heap.size≤g)(hne:∀x∈L,x.1≠g)(x1 x2 x3 x4 x5 x6:Value):
  Zl W ((((((w.setCell ⟨g,0,none⟩ x1).setCell ⟨g,1,none⟩ x2).setCell ⟨g,2,none⟩ x3).setCell ⟨g,3,none⟩ x4).setCell ⟨g,4,none⟩ x5).setCell ⟨g,5,none⟩ x6) bs b ((g,t,#[x1,x2,x3,x4,x5,x6])::L):=by
 have hb:g≠bs:=h.far _ (.head _);have hs:∀(w2:World) (j:Nat) (v:Value),Sm bs W w2→Sm bs W (w2.setCell ⟨g,j,none⟩ v):=fun w2 j v k=>k.setNew (p:=⟨g,j,none⟩) hg v
 have hf:∀{b2:Nat} {t2:TypeId} {c2:Av} (w2:World) (j:Nat) (v:Value),b2≠g→Box w2 b2 t2 c2→Box (w2.setCell ⟨g,j,none⟩ v) b2 t2 c2:=fun w2 j v k hb2=>hb2.far (p:=⟨g,j,none⟩) k v
 refine⟨hs _ _ _ (hs _ _ _ (hs _ _ _ (hs _ _ _ (hs _ _ _ (hs _ _ _ h.sm))))),hf _ _ _ (Ne.symm hb) (hf _ _ _ (Ne.symm hb) (hf _ _ _ (Ne.symm hb) (hf _ _ _ (Ne.symm hb) (hf _ _ _ (Ne.symm hb) (hf _ _ _ (Ne.symm hb) h.sum))))),⟨?_,?_⟩,fun v hv=>?_⟩
 ·have h2:=(((((h.boxes.1.set_ 0 x1).set_ 1 x2).set_ 2 x3).set_ 3 x4).set_ 4 x5).set_ 5 x6;simpa using h2
 ·have:∀{M:Xx},(∀v∈M,v.1≠g)→Xy w M→Xy ((((((w.setCell ⟨g,0,none⟩ x1).setCell ⟨g,1,none⟩ x2).setCell ⟨g,2,none⟩ x3).setCell ⟨g,3,none⟩ x4).setCell ⟨g,4,none⟩ x5).setCell ⟨g,5,none⟩ x6) M:=by
   intro M;induction M with
   |nil=>exact fun _ _=>trivial
   |cons v M ih=>exact fun hv hB=>⟨hf _ _ _ (hv _ (.head _)) (hf _ _ _ (hv _ (.head _)) (hf _ _ _ (hv _ (.head _)) (hf _ _ _ (hv _ (.head _)) (hf _ _ _ (hv _ (.head _)) (hf _ _ _ (hv _ (.head _)) hB.1))))),ih (fun u hu=>hv u (.tail _ hu)) hB.2⟩
  exact this hne h.boxes.2
 ·rcases List.mem_cons.1 hv with rfl|hv
  ·exact hb
  ·exact h.far v (.tail _ hv)
theorem Zfe{a b c e:Bool}(h:(a&&b&&c&&e)=false):((((false|| !a)|| !b)|| !c)|| !e)=true:=by
 cases a<;>cases b<;>cases c<;>cases e<;>first|rfl|cases h
theorem Zrh{a b c e:Bool}(h:(a&&b&&c&&e)=false):(((((false|| !true)|| !a)|| !b)|| !c)|| !e)=true:=by
 cases a<;>cases b<;>cases c<;>cases e<;>first|rfl|cases h
theorem Zlm{A B:ByteArray}{k:Int}{x1 x2 x3 y1 y2 y3 u1 u2 u3 v1 v2 v3 s1 s2 s3 t1 t2 t3:Int}(sec:Bool)(w:World)(hG:Xz w)(hm:Wn w)(har:∀w,Xz w→Wn w→Calls prog 199 #[A,B,k, .agg #[x1,x2,x3,y1,y2,y3]] w fun e w'=>e= .returned (.tuple #[.agg #[u1,u2,u3,v1,v2,v3], .agg #[s1,s2,s3,t1,t2,t3],false])∧Ex w w'):Calls prog 137 #[A,B,k, .agg #[x1,x2,x3,y1,y2,y3],sec] w (fun e w'=>e= .returned (v2v jno)∧Ex w w'):=by
 have KAR:=Zz har;have HM:=Zz hm;have HG:=Zz hG;clear har hm hG;simp only[v2v,jno,jvv,Fr.none];obtain⟨hS,hC⟩:=s0 w;go_in;go_upto_region 2 with((with_reducible apply Zo.see w;exact KAR.out _ (HG.out.ex Zo.exW) (HM.out.ex Zo.exW));clear hS hC;intro wa hS hC;(try simp only[Zy] at hS hC);simp only[Zr,Zq] at hC;have hwa:w.heap.size≤wa.heap.size:=hS.ex.size);have hS2:Zo w ((wa.alloc (.cells #[u1,u2,u3,v1,v2,v3] 39)).alloc (.cells #[s1,s2,s3,t1,t2,t3] 39)) _:=inferInstance;try simp only[Zy] at hS2
 have z2:((wa.alloc (.cells #[u1,u2,u3,v1,v2,v3] 39)).alloc (.cells #[s1,s2,s3,t1,t2,t3] 39)).heap.size=wa.heap.size+1+1:=by simp only[Zy]
 clear hC hS;generalize (wa.alloc (.cells #[u1,u2,u3,v1,v2,v3] 39)).alloc (.cells #[s1,s2,s3,t1,t2,t3] 39)=W2 at*;have hS0:Zl w (W2.alloc (.cells #[false] 92)) W2.heap.size false _:=Zl.start (h:=hS2);rw[z2] at hS0;have hz2:=Zz z2;clear z2;go_upto_region 3 with(first|(rw[hz2.out])|(go_at_call 46;(try rw[hz2.out]);(with_reducible refine(Ud _ false false _ hS0.sum).mono ?_);rintro e w5 ⟨rfl,hsm,hbx⟩;have hS:=Zl.call hS0 hsm hbx));try simp only[hz2.out]
 clear hS0 hsm hbx hz2 hS2;have hC:=hS.rd;simp only[Zr,Zq] at hC;go_wp2_with fail;have hE:=hS.rel (by omega);have:=Exi.mk hE
 exact Yp (by simp[results,results137,go_sem,hC]) rfl
theorem Zfd{A B:ByteArray}{k:Int}{x1 x2 x3 y1 y2 y3 u1 u2 u3 v1 v2 v3 s1 s2 s3 t1 t2 t3:Int}(w:World)(hG:Xz w)(hm:Wn w)(har:∀w,Xz w→Wn w→Calls prog 199 #[A,B,k, .agg #[x1,x2,x3,y1,y2,y3]] w fun e w'=>e= .returned (.tuple #[.agg #[u1,u2,u3,v1,v2,v3], .agg #[s1,s2,s3,t1,t2,t3],true])∧Ex w w'):Calls prog 137 #[A,B,k, .agg #[x1,x2,x3,y1,y2,y3],false] w (fun e w'=>e= .returned (v2v (Zrj (Yo ⟨u1,u2,u3⟩ ⟨s1,s2,s3⟩) (Yo ⟨v1,v2,v3⟩ ⟨t1,t2,t3⟩)))∧Ex w w'):=by
 have KAR:=Zz har;have HM:=Zz hm;have HG:=Zz hG;clear har hm hG;unfold Zrj Lz;rcases hp:Yo ⟨u1,u2,u3⟩ ⟨s1,s2,s3⟩ with⟨⟨p1,p2,p3⟩,pk⟩;rcases hq:Yo ⟨v1,v2,v3⟩ ⟨t1,t2,t3⟩ with⟨⟨q1,q2,q3⟩,qk⟩;simp only;rcases hmm:Zk ⟨p1,p2,p3⟩ ⟨1,0,2⟩ with⟨⟨m1,m2,m3⟩,mk⟩;rcases hnn:Zk ⟨q1,q2,q3⟩ ⟨1,0,2⟩ with⟨⟨n1,n2,n3⟩,nk⟩;simp only;have HP:=Zz hp;have HQ:=Zz hq;have HMM:=Zz hmm;have HNN:=Zz hnn;clear hp hq hmm hnn;generalize hR:(if (pk&&qk&&mk&&nk) then (((⟨m1,m2,m3⟩:Fr),(⟨n1,n2,n3⟩:Fr)),true) else jno)=RV;have HR:=Zz hR;clear hR;obtain⟨hS,hC⟩:=s0 w;go_in;go_upto_region 2 with((with_reducible apply Zo.see w;exact KAR.out _ (HG.out.ex Zo.exW) (HM.out.ex Zo.exW));clear hS hC;intro wa hS hC;(try simp only[Zy] at hS hC);simp only[Zr,Zq] at hC;have hwa:w.heap.size≤wa.heap.size:=hS.ex.size);have hS2:Zo w ((wa.alloc (.cells #[u1,u2,u3,v1,v2,v3] 39)).alloc (.cells #[s1,s2,s3,t1,t2,t3] 39)) _:=inferInstance;try simp only[Zy] at hS2
 have z2:((wa.alloc (.cells #[u1,u2,u3,v1,v2,v3] 39)).alloc (.cells #[s1,s2,s3,t1,t2,t3] 39)).heap.size=wa.heap.size+1+1:=by simp only[Zy]
 clear hC hS;generalize (wa.alloc (.cells #[u1,u2,u3,v1,v2,v3] 39)).alloc (.cells #[s1,s2,s3,t1,t2,t3] 39)=W2 at*;have hS0:Zl w (W2.alloc (.cells #[false] 92)) W2.heap.size false _:=Zl.start (h:=hS2);rw[z2] at hS0;have hz2:=Zz z2;clear z2;go_upto_region 3 with(first|(rw[hz2.out])|(go_at_call 46;(try rw[hz2.out]);(with_reducible refine(Ud _ false true _ hS0.sum).mono ?_);rintro e w5 ⟨rfl,hsm,hbx⟩;have hS:=Zl.call hS0 hsm hbx));try simp only[hz2.out]
 clear hS0 hsm hbx hz2 hS2;go_upto_region 5 with fail;have hS5:Zl w w5 (wa.heap.size+1+1) false [(wa.heap.size+1,39,#[s1,s2,s3,t1,t2,t3]),(wa.heap.size,39,#[u1,u2,u3,v1,v2,v3]),(w.heap.size+1,39,Ob),(w.heap.size,39,#[x1,x2,x3,y1,y2,y3])]:=hS;clear hS;have hne:∀z∈([(wa.heap.size+1,39,#[s1,s2,s3,t1,t2,t3]),(wa.heap.size,39,#[u1,u2,u3,v1,v2,v3]),(w.heap.size+1,39,Ob),(w.heap.size,39,#[x1,x2,x3,y1,y2,y3])]:Xx),z.1≠w5.heap.size:=fun z hz=>Nat.ne_of_lt (Xy.old hS5.boxes z hz)
 have hg5:w.heap.size≤w5.heap.size:=hS5.sm.size;have hbs:w.heap.size≤wa.heap.size+1+1:=by omega
 go_upto_region 8 with fail;have hS8:=Zl.alloc (h:=hS5) (cs:=Ob) (t:=39);generalize w5.alloc (.cells Ob 39)=W8 at*;generalize w5.heap.size=g16 at*;generalize wa.heap.size+1+1=bs at*;refine Ux (fun b w'=>Zl w w' _ b _) 12 _ (by kernel_rfl) (hS8.drewW) (by exact fun _ _ _ _ _ h=>h) ?_;iterate 5 (apply Zp;rfl;intro b u B Q q;have hS:=B;have hC:=hS.rd;simp only[Zr,Zq] at hC;go_wp2;exact q _ trivial B;exact⟨_,rfl⟩)
 (apply Zi;rfl;intro b u B Q q;go_wp2_with ((with_reducible refine(Rj B HP.out).mono ?_);rintro e wn ⟨rfl,hN,hM⟩);exact q _ trivial hN;exact⟨_,rfl⟩);iterate 5 (apply Zp;rfl;intro b u B Q q;have hS:=B;have hC:=hS.rd;simp only[Zr,Zq] at hC;go_wp2;exact q _ trivial B;exact⟨_,rfl⟩)
 (apply Zi;rfl;intro b u B Q q;go_wp2_with ((with_reducible refine(Rj B HQ.out).mono ?_);rintro e wn ⟨rfl,hN,hM⟩);exact q _ trivial hN;exact⟨_,rfl⟩);refine Zn ?_;intro wz hz;have hN:=hz;have hC:=hN.rd;simp only[Zr,Zq] at hC;go_upto_region 9 with fail;replace hN:=Zl.set6 hN hg5 hne (p1) (p2) (p3) (q1) (q2) (q3);clear hC hne hS8 hS5;generalize ((((((wz.setCell ⟨g16,0,none⟩ (p1)).setCell ⟨g16,1,none⟩ (p2)).setCell ⟨g16,2,none⟩ (p3)).setCell ⟨g16,3,none⟩ (q1)).setCell ⟨g16,4,none⟩ (q2)).setCell ⟨g16,5,none⟩ (q3))=W9 at*;go_upto_region 10 with fail;have hS10:=Zl.alloc (h:=hN) (cs:=#[.int .i64 1,oo, .int .i64 2]) (t:=30);refine Ux (fun b w'=>Zl w w' _ b _) 12 _ (by kernel_rfl) (hS10.drewW) (by exact fun _ _ _ _ _ h=>h) ?_;iterate 5 (apply Zp;rfl;intro b u B Q q;have hS:=B;have hC:=hS.rd;simp only[Zr,Zq] at hC;go_wp2;exact q _ trivial B;exact⟨_,rfl⟩)
 (apply Zi;rfl;intro b u B Q q;go_wp2_with ((with_reducible refine(Ye B HMM.out).mono ?_);rintro e wn ⟨rfl,hN,hM⟩);exact q _ trivial hN;exact⟨_,rfl⟩);iterate 4 (apply Zp;rfl;intro b u B Q q;have hS:=B;have hC:=hS.rd;simp only[Zr,Zq] at hC;go_wp2;exact q _ trivial B;exact⟨_,rfl⟩)
 (apply Zi;rfl;intro b u B Q q;go_wp2_with ((with_reducible refine(Ye B HNN.out).mono ?_);rintro e wn ⟨rfl,hN,hM⟩);exact q _ trivial hN;exact⟨_,rfl⟩);(apply Zp;rfl;intro b u B Q q;go_wp2;exact q _ trivial B;exact⟨_,rfl⟩);refine Zn ?_;intro wy hz;clear hS10 hN;rcases hK:(pk&&qk&&mk&&nk) with _|_
 ·have hr:=HR.out;rw[hK,if_neg Bool.false_ne_true] at hr;subst hr;have HK:=Zz hK;clear hK;try simp only[v2v,jvv,Fr.none,jno,Bool.false_eq_true,if_false]
  have hfl:=Zfe HK.out;first|rw[hfl] at hz|rw[Zrh HK.out] at hz
  clear hfl;go_wp2_with ((with_reducible refine(Va _ _ _ _ _ _ _ _ hz.sum).mono ?_);rintro e wn ⟨rfl,hx⟩;have hS:=Zl.ex hz hx;have hC:=hS.rd;simp only[Zr,Zq] at hC;have hE:=hS.rel (by omega));have:=Exi.mk hE
  exact Yp (by simp[results,results137,go_sem,hC,v2v,jno,jvv,Fr.v,Fr.none]) rfl
 ·have hr:=HR.out;rw[hK,if_pos rfl] at hr;subst hr;simp only[Bool.and_eq_true] at hK;obtain⟨⟨⟨rfl,rfl⟩,rfl⟩,rfl⟩:=hK;try simp only[v2v,jvv,Bool.and_self,if_true]
  replace hz:Zl w wy _ false _:=hz;go_wp2_with ((with_reducible refine(Ri _ _ _ _ _ _ _ _ hz.sum).mono ?_);rintro e wn ⟨rfl,hx⟩;have hS:=Zl.ex hz hx;have hC:=hS.rd;simp only[Zr,Zq] at hC;have hE:=hS.rel (by omega));have:=Exi.mk hE
  exact Yp (by simp[results,results137,go_sem,hC,v2v,jno,jvv,Fr.v,Fr.none]) rfl
theorem Zje{A B:ByteArray}{k:Int}{x1 x2 x3 y1 y2 y3 u1 u2 u3 v1 v2 v3 s1 s2 s3 t1 t2 t3:Int}(w:World)(hG:Xz w)(hm:Wn w)(har:∀w,Xz w→Wn w→Calls prog 199 #[A,B,k, .agg #[x1,x2,x3,y1,y2,y3]] w fun e w'=>e= .returned (.tuple #[.agg #[u1,u2,u3,v1,v2,v3], .agg #[s1,s2,s3,t1,t2,t3],true])∧Ex w w'):Calls prog 137 #[A,B,k, .agg #[x1,x2,x3,y1,y2,y3],true] w (fun e w'=>e= .returned (v2v (Zrj (Xi ⟨u1,u2,u3⟩ ⟨s1,s2,s3⟩) (Xi ⟨v1,v2,v3⟩ ⟨t1,t2,t3⟩)))∧Ex w w'):=by
 have KAR:=Zz har;have HM:=Zz hm;have HG:=Zz hG;clear har hm hG;unfold Zrj Lz;rcases hp:Xi ⟨u1,u2,u3⟩ ⟨s1,s2,s3⟩ with⟨⟨p1,p2,p3⟩,pk⟩;rcases hq:Xi ⟨v1,v2,v3⟩ ⟨t1,t2,t3⟩ with⟨⟨q1,q2,q3⟩,qk⟩;simp only;rcases hmm:Zk ⟨p1,p2,p3⟩ ⟨1,0,2⟩ with⟨⟨m1,m2,m3⟩,mk⟩;rcases hnn:Zk ⟨q1,q2,q3⟩ ⟨1,0,2⟩ with⟨⟨n1,n2,n3⟩,nk⟩;simp only;have HP:=Zz hp;have HQ:=Zz hq;have HMM:=Zz hmm;have HNN:=Zz hnn;clear hp hq hmm hnn;generalize hR:(if (pk&&qk&&mk&&nk) then (((⟨m1,m2,m3⟩:Fr),(⟨n1,n2,n3⟩:Fr)),true) else jno)=RV;have HR:=Zz hR;clear hR;obtain⟨hS,hC⟩:=s0 w;go_in;go_upto_region 2 with((with_reducible apply Zo.see w;exact KAR.out _ (HG.out.ex Zo.exW) (HM.out.ex Zo.exW));clear hS hC;intro wa hS hC;(try simp only[Zy] at hS hC);simp only[Zr,Zq] at hC;have hwa:w.heap.size≤wa.heap.size:=hS.ex.size);have hS2:Zo w ((wa.alloc (.cells #[u1,u2,u3,v1,v2,v3] 39)).alloc (.cells #[s1,s2,s3,t1,t2,t3] 39)) _:=inferInstance;try simp only[Zy] at hS2
 have z2:((wa.alloc (.cells #[u1,u2,u3,v1,v2,v3] 39)).alloc (.cells #[s1,s2,s3,t1,t2,t3] 39)).heap.size=wa.heap.size+1+1:=by simp only[Zy]
 clear hC hS;generalize (wa.alloc (.cells #[u1,u2,u3,v1,v2,v3] 39)).alloc (.cells #[s1,s2,s3,t1,t2,t3] 39)=W2 at*;have hS0:Zl w (W2.alloc (.cells #[false] 92)) W2.heap.size false _:=Zl.start (h:=hS2);rw[z2] at hS0;have hz2:=Zz z2;clear z2;go_upto_region 3 with(first|(rw[hz2.out])|(go_at_call 46;(try rw[hz2.out]);(with_reducible refine(Ud _ false true _ hS0.sum).mono ?_);rintro e w5 ⟨rfl,hsm,hbx⟩;have hS:=Zl.call hS0 hsm hbx));try simp only[hz2.out]
 clear hS0 hsm hbx hz2 hS2;go_upto_region 5 with fail;have hS5:Zl w w5 (wa.heap.size+1+1) false [(wa.heap.size+1,39,#[s1,s2,s3,t1,t2,t3]),(wa.heap.size,39,#[u1,u2,u3,v1,v2,v3]),(w.heap.size+1,39,Ob),(w.heap.size,39,#[x1,x2,x3,y1,y2,y3])]:=hS;clear hS;have hne:∀z∈([(wa.heap.size+1,39,#[s1,s2,s3,t1,t2,t3]),(wa.heap.size,39,#[u1,u2,u3,v1,v2,v3]),(w.heap.size+1,39,Ob),(w.heap.size,39,#[x1,x2,x3,y1,y2,y3])]:Xx),z.1≠w5.heap.size:=fun z hz=>Nat.ne_of_lt (Xy.old hS5.boxes z hz)
 have hg5:w.heap.size≤w5.heap.size:=hS5.sm.size;have hbs:w.heap.size≤wa.heap.size+1+1:=by omega
 go_upto_region 7 with fail;have hS8:=Zl.alloc (h:=hS5) (cs:=Ob) (t:=39);generalize w5.alloc (.cells Ob 39)=W8 at*;generalize w5.heap.size=g16 at*;generalize wa.heap.size+1+1=bs at*;have hC:=hS8.rd;simp only[Zr,Zq] at hC;go_upto_region 9 with((with_reducible refine(Zjf hS8 HP.out HQ.out).mono ?_);rintro e wz ⟨rfl,hN,hM⟩;replace hC:=hN.rd;simp only[Zr,Zq] at hC);replace hN:=Zl.set6 hN hg5 hne (p1) (p2) (p3) (q1) (q2) (q3);clear hC hne hS8 hS5;generalize ((((((wz.setCell ⟨g16,0,none⟩ (p1)).setCell ⟨g16,1,none⟩ (p2)).setCell ⟨g16,2,none⟩ (p3)).setCell ⟨g16,3,none⟩ (q1)).setCell ⟨g16,4,none⟩ (q2)).setCell ⟨g16,5,none⟩ (q3))=W9 at*;go_upto_region 10 with fail;have hS10:=Zl.alloc (h:=hN) (cs:=#[.int .i64 1,oo, .int .i64 2]) (t:=30);refine Ux (fun b w'=>Zl w w' _ b _) 12 _ (by kernel_rfl) (hS10.drewW) (by exact fun _ _ _ _ _ h=>h) ?_;iterate 5 (apply Zp;rfl;intro b u B Q q;have hS:=B;have hC:=hS.rd;simp only[Zr,Zq] at hC;go_wp2;exact q _ trivial B;exact⟨_,rfl⟩)
 (apply Zi;rfl;intro b u B Q q;go_wp2_with ((with_reducible refine(Ye B HMM.out).mono ?_);rintro e wn ⟨rfl,hN,hM⟩);exact q _ trivial hN;exact⟨_,rfl⟩);iterate 4 (apply Zp;rfl;intro b u B Q q;have hS:=B;have hC:=hS.rd;simp only[Zr,Zq] at hC;go_wp2;exact q _ trivial B;exact⟨_,rfl⟩)
 (apply Zi;rfl;intro b u B Q q;go_wp2_with ((with_reducible refine(Ye B HNN.out).mono ?_);rintro e wn ⟨rfl,hN,hM⟩);exact q _ trivial hN;exact⟨_,rfl⟩);(apply Zp;rfl;intro b u B Q q;go_wp2;exact q _ trivial B;exact⟨_,rfl⟩);refine Zn ?_;intro wy hz;clear hS10 hN;rcases hK:(pk&&qk&&mk&&nk) with _|_
 ·have hr:=HR.out;rw[hK,if_neg Bool.false_ne_true] at hr;subst hr;have HK:=Zz hK;clear hK;try simp only[v2v,jvv,Fr.none,jno,Bool.false_eq_true,if_false]
  have hfl:=Zfe HK.out;first|rw[hfl] at hz|rw[Zrh HK.out] at hz
  clear hfl;go_wp2_with ((with_reducible refine(Va _ _ _ _ _ _ _ _ hz.sum).mono ?_);rintro e wn ⟨rfl,hx⟩;have hS:=Zl.ex hz hx;have hC:=hS.rd;simp only[Zr,Zq] at hC;have hE:=hS.rel (by omega));have:=Exi.mk hE
  exact Yp (by simp[results,results137,go_sem,hC,v2v,jno,jvv,Fr.v,Fr.none]) rfl
 ·have hr:=HR.out;rw[hK,if_pos rfl] at hr;subst hr;simp only[Bool.and_eq_true] at hK;obtain⟨⟨⟨rfl,rfl⟩,rfl⟩,rfl⟩:=hK;try simp only[v2v,jvv,Bool.and_self,if_true]
  replace hz:Zl w wy _ false _:=hz;go_wp2_with ((with_reducible refine(Ri _ _ _ _ _ _ _ _ hz.sum).mono ?_);rintro e wn ⟨rfl,hx⟩;have hS:=Zl.ex hz hx;have hC:=hS.rd;simp only[Zr,Zq] at hC;have hE:=hS.rel (by omega));have:=Exi.mk hE
  exact Yp (by simp[results,results137,go_sem,hC,v2v,jno,jvv,Fr.v,Fr.none]) rfl
theorem Dz(a b:Ub)(ha:a.length≤1048576)(hb:b.length≤1048576)(k:Int)(_hk: -1000000≤k∧k≤1000000)(x y:Fr)(second:Bool)(w:World)[hG:Xz w](hm:Wn w):Calls prog 137 #[(Bs a),(Bs b),k,jvv x y,second] w (fun e w'=>e= .returned (v2v (Mu a b k x y second))∧Ex w w'):=by
 have har:∀w,Xz w→Wn w→Calls prog 199 #[(Bs a),(Bs b),k,jvv x y] w (fun e w'=>e= .returned (Zcn a b k x y)∧Ex w w'):=fun w h hm=>iArms a b ha hb k x y w hm
 unfold Zcn at har;rcases h:((Yz a x y).2&&(Yz b x y).2&&Xw k 0 3) with _|_
 ·rw[Zcp h];rw[h,if_neg Bool.false_ne_true] at har;obtain⟨x1,x2,x3⟩:=x;obtain⟨y1,y2,y3⟩:=y;exact Zlm (u1:=0) (u2:=0) (u3:=0) (v1:=0) (v2:=0) (v3:=0) (s1:=0) (s2:=0) (s3:=0) (t1:=0) (t2:=0) (t3:=0) second w hG hm har
 ·rw[h,if_pos rfl] at har;rcases ht:(Xn (Yz b x y).1.1 (Yz b x y).1.2 (Yd k)).2 with _|_
  ·rw[Zco second h ht];rw[ht] at har;generalize (Yz a x y).1.1=u at har;generalize (Yz a x y).1.2=v at har;generalize (Xn (Yz b x y).1.1 (Yz b x y).1.2 (Yd k)).1.1=s at har;generalize (Xn (Yz b x y).1.1 (Yz b x y).1.2 (Yd k)).1.2=t at har;obtain⟨x1,x2,x3⟩:=x;obtain⟨y1,y2,y3⟩:=y;exact Zlm (u1:=u.re) (u2:=u.im) (u3:=u.den) (v1:=v.re) (v2:=v.im) (v3:=v.den) (s1:=s.re) (s2:=s.im) (s3:=s.den) (t1:=t.re) (t2:=t.im) (t3:=t.den) second w hG hm har
  ·rw[ht] at har;rcases second with _|_
   ·rw[Zff h ht];generalize (Yz a x y).1.1=u at har ⊢;generalize (Yz a x y).1.2=v at har ⊢;generalize (Xn (Yz b x y).1.1 (Yz b x y).1.2 (Yd k)).1.1=s at har ⊢;generalize (Xn (Yz b x y).1.1 (Yz b x y).1.2 (Yd k)).1.2=t at har ⊢;obtain⟨x1,x2,x3⟩:=x;obtain⟨y1,y2,y3⟩:=y;obtain⟨u1,u2,u3⟩:=u;obtain⟨v1,v2,v3⟩:=v;obtain⟨s1,s2,s3⟩:=s;obtain⟨t1,t2,t3⟩:=t;exact Zfd w hG hm har
   ·rw[Zjh h ht];generalize (Yz a x y).1.1=u at har ⊢;generalize (Yz a x y).1.2=v at har ⊢;generalize (Xn (Yz b x y).1.1 (Yz b x y).1.2 (Yd k)).1.1=s at har ⊢;generalize (Xn (Yz b x y).1.1 (Yz b x y).1.2 (Yd k)).1.2=t at har ⊢;obtain⟨x1,x2,x3⟩:=x;obtain⟨y1,y2,y3⟩:=y;obtain⟨u1,u2,u3⟩:=u;obtain⟨v1,v2,v3⟩:=v;obtain⟨s1,s2,s3⟩:=s;obtain⟨t1,t2,t3⟩:=t;exact Zje w hG hm har
end
section
open Go.RowKit

attribute [local go_sem] Zg Zf
theorem Iq(l:Ub)(hl:l.length≤1048576)(v:Fr×Fr)(w:World):Calls prog 152 #[(Bs l),jvv v.1 v.2] w (fun e w'=>e= .returned (v2v (Yz l v.1 v.2))∧Ex w w'):=by
 have kb:=fun w=>Me l hl w
 have kv:∀w,Calls prog 211 #[.agg #[v.1.re,v.1.im,v.1.den,v.2.re,v.2.im,v.2.den]] w fun e w'=>e= .returned (.bool ((v.1.valid&&v.2.valid)))∧Ex w w':=fun w=>En v.1 v.2 w
 unfold jvv;generalize Bs l=S at*;have KB:=Zz kb;have KV:=Zz kv;clear kb kv hl;have hR:=Zo.refl w;go_in;go_upto_region 1 with fail;have hV:Zo w ((w.alloc (.cells #[v.1.re,v.1.im,v.1.den,v.2.re,v.2.im,v.2.den] 39)).alloc (.cells Ob 39)) _:=inferInstance;clear hR;simp only[Zy] at hV;generalize (w.alloc (.cells #[v.1.re,v.1.im,v.1.den,v.2.re,v.2.im,v.2.den] 39)).alloc (.cells Ob 39)=W0 at*;go_wp2_with fail;refine(KB.out _).mono ?_;rintro e w1 (⟨qs,A,cap,hbn,rfl,hsl,hps,hx⟩|⟨A,n,cap,hbn,rfl,hx⟩)
 ·have HBR:Hid (Yz l v.1 v.2=Um Nc (Fr.none,Fr.none) (qs.map Pc.p) 0 v ((v.1.valid&&v.2.valid))):=Zz ((Zsy l v.1 v.2).trans (Ok Nc (Fr.none,Fr.none) (ok:=true) (by rw[hbn];rfl) (v.1,v.2) _));have hq12:qs.length≤12:=by simpa using (Vx hbn).2.2
  have HPV:Hid (∀q∈qs,Wx q.k q.ns=true):=Zz fun q hq=>Tn hbn q.p (List.mem_map_of_mem hq)
  clear hbn;replace hV:=Zo.after (h:=hV) hx;clear hx KB;go_upto_region 2 with fail;go_cut [7] (fun s wx=>s= .bool (true&&(v.1.valid&&v.2.valid))∧Ex w1 wx)
  case first=>
   have hC:=hV.rd;simp only[Zr,Zq] at hC;go_wp2_with (with_reducible refine Yw (KV.out _) fun w2 hx=>?_);go_meet
   exact⟨by rw[Bool.true_and],hx⟩
  case rest=>
   obtain⟨rfl,hx⟩:=hcut;have hB:BM w wc 39 (w.heap.size+1) w.heap.size Z6 A (Vr qs) qs (Zm [v.1,v.2]):=⟨Zo.after (h:=hV) hx,hsl.ex hx,hps.ex hx⟩
   clear hV hx hsl hps KV;rw[Bool.true_and];generalize (v.1.valid&&v.2.valid)=o0 at HBR ⊢;have HQL:=Zz hq12;have HB0:=Zz hB;clear hB hq12;go_wp2_with fail;go_loopw [8,7,9,10,11,12] (fun i o _ _ _ _ wr=>∃(k:Nat) (u:Fr×Fr) (ok:Bool),i= .int .i64 k∧o= .bool ok∧k≤qs.length∧Hid (Yz l v.1 v.2=Um Nc (Fr.none,Fr.none) (qs.map Pc.p) k u ok)∧Hid (BM w wr 39 (w.heap.size+1) w.heap.size Z6 A (Vr qs) qs (Zm [u.1,u.2]))) (fun i _ _ _ _ _ _=>13-(intOf i).toNat)
   case atStart=>exact⟨0,v,o0,rfl,rfl,by omega,HBR,HB0⟩
   case round=>
    clear HB0 HBR;obtain⟨k,u,ok,rfl,rfl,hk,HR,HB⟩:=hrel;have hq12:=HQL.out;by_cases hlt:k<qs.length
    ·rcases ok with _|_
     ·have HE:=HR.out;rw[show Um Nc (Fr.none,Fr.none) (qs.map Pc.p) k u false=((Fr.none,Fr.none),false) from rfl] at HE;have hI:(k:Int)<(qs.length:Int):=by omega
      have hE:=HB.out.sees.ex;have b4:=HB.out.sees.boxes.1;have HEE:=Zz HE;clear HB HR HE;have c4:=b4.cell;have f4:=b4.frozen;have z4:=b4.lt;unfold Z6 at c4;go_wp2;refine Zu (v:= .tuple #[.agg Ob,false]) ?_ rfl ⟨by rw[HEE.out];rfl,?_⟩
      ·simp[results,results152,go_sem,c4]
      ·(have:=Exi.mk hE;exact Exi.out)
     ·have hI:(k:Int)<(qs.length:Int):=by omega
      have hw5:=wr1 k (by omega);obtain⟨b,off,rfl,hc⟩:=HB.out.slc (by rw[Vb];omega);have hat:=Mf qs k hlt;have d0:=hc (2*k) (by rw[Vb];omega);have d1:=hc (2*k+1) (by rw[Vb];omega);rw[hat.1] at d0;rw[hat.2] at d1;rw[Nat.mul_comm 2 k] at d0 d1;rw[←Nat.add_assoc] at d1;have HST:=Zz (fun x ox h=>Md Nc (Fr.none,Fr.none) hlt u true (x:=x) (u:=ox) h);have hmem:qs[k]∈qs:=List.getElem_mem hlt;have HV:=Zz (HPV.out _ hmem);have HO:=Zz (HB.out.pcs _ hmem);clear hc hat hmem;generalize qs[k]=q at*;have kt:=fun w ho=>Zbo q HV.out w ho
      rcases hT:Rk q.k q.ns with⟨t,okt⟩;have hts:=Pi t;rcases hA:Ul t u.1 u.2 with⟨x,okx⟩;have ka:=fun w=>Zjz t u.1 u.2 w
      have HR2:Hid (Yz l v.1 v.2=Um Nc (Fr.none,Fr.none) (qs.map Pc.p) (k+1) x (okt&&okx)):=Zz (by
       refine HR.out.trans (HST.out x (okt&&okx) ?_);show((Ul (Rk q.k q.ns).1 u.1 u.2).1,(Rk q.k q.ns).2&&(Ul (Rk q.k q.ns).1 u.1 u.2).2)=_;rw[hT];simp only[hA])
      rw[hT] at kt;rw[hA] at ka;simp only[m4v,v2v,M4.l_arr,Zlo] at kt ka;have hone:=Zb t.l;have hux:=Sz [u.1,u.2];have hxs:=Zji x;have hus:=Zji u;have hxo:=Zb [x.1,x.2];generalize Zm t.l=tc at*;generalize hvu:Zm [u.1,u.2]=uc at*;generalize hvx:Zm [x.1,x.2]=xc at*;have KT:=Zz kt;have KA:=Zz ka;have HX:=Zz hvx;have HTS:=Zz hts;have HXS:=Zz hxs;have HUS:=Zz hus;have HUX:=Zz hux;clear kt ka hT hA hvu hvx HST HR HV hts hxs hus hux;have hB:=HB.out;clear HB;go_wp2_with fail;refine(KT.out _ HO.out).mono ?_;clear HO d0 d1;rintro e w2 ⟨rfl,hx⟩;go_upto_region 7 with(refine wpList_store_row rfl _ _ _ rfl _ _ rfl rfl _ _ (Box.new w2 _ _) (So HTS.out) (by rw[HTS.out];rfl) hone ?_);replace hB:=hB.ex (hx.trans (((Ex.refl w2).alloc (.cells Oc 79)).setRow (Nat.le_refl _) tc));have bT:=(Box.new w2 Oc 79).setRow tc;generalize (w2.alloc (.cells Oc 79)).setRow w2.heap.size tc=W2 at*;clear hx hone;have b3:=hB.sees.boxes.2.1;go_wp2_with (first|(refine wpList_load_row rfl _ _ rfl _ rfl _ _ (0,0) _ bT underlying79 rfl (So HTS.out) ?_)|(refine wpList_load_row rfl _ _ rfl _ rfl _ _ (0,0) _ b3 underlying39 rfl (My HUS.out) ?_));refine Yw (KA.out _) fun w3 hx=>?_
      go_upto_region 8 with(refine wpList_store_row rfl _ _ _ rfl _ _ rfl rfl _ _ (Box.new w3 _ _) (My HXS.out) (by rw[HXS.out];rfl) hxo ?_);replace hB:=hB.ex (hx.trans (((Ex.refl w3).alloc (.cells Ob 39)).setRow (Nat.le_refl _) xc));have bX:=(Box.new w3 Ob 39).setRow xc;generalize (w3.alloc (.cells Ob 39)).setRow w3.heap.size xc=W3 at*;clear hx b3 bT;go_cut [7] (fun s wx=>s= .bool (okt&&okx)∧wx=W3)
      case first=>
       rcases okt with _|_<;>rcases okx with _|_
       all_goals
        go_wp2_with fail;go_meet
        exact⟨rfl,rfl⟩
      case rest=>
       obtain⟨rfl,rfl⟩:=hcut;have b3:=hB.sees.boxes.2.1;go_wp2_with (first|(refine wpList_load_row rfl _ _ rfl _ rfl _ _ (0,0) _ bX underlying39 rfl (My HXS.out) ?_)|(refine wpList_store_row rfl _ _ _ rfl _ _ rfl rfl _ _ b3 (My HXS.out) (by rw[HXS.out,HUS.out]) hxo ?_));have HB2:Hid (BM w (wc.setRow w.heap.size xc) 39 (w.heap.size+1) w.heap.size Z6 (some ⟨b,off,none⟩) (Vr qs) qs (Zm [x.1,x.2])):=Zz (by rw[HX.out];exact hB.store (Nat.le_refl _) (by omega) (by decide) HUX.out (Mz qs) xc);clear hB b3 bX hxo;go_roundw
       case rel=>exact⟨k+1,x,_,by go_num,rfl,by omega,HR2,HB2⟩
       case measure=>simp[intOf]<;>omega
    ·obtain rfl:k=qs.length:=by omega
     have HE:=HR.out;rw[Qn] at HE;have hI:¬((qs.length:Nat):Int)<(qs.length:Int):=by omega
     have hB:=HB.out;clear HB HR hlt hk HPV HQL hq12;have b4:=hB.sees.boxes.1;have b3:=hB.sees.boxes.2.1;have hE:=hB.sees.ex;have HEE:=Zz HE;clear HE;rcases ok with _|_
     ·have c4:=b4.cell;have f4:=b4.frozen;have z4:=b4.lt;unfold Z6 at c4;go_wp2;refine Zu (v:= .tuple #[.agg Ob,false]) ?_ rfl ⟨by rw[HEE.out];rfl,?_⟩
      ·simp[results,results152,go_sem,c4]
      ·(have:=Exi.mk hE;exact Exi.out)
     ·have hus:=Zji u;have huo:=Zb [u.1,u.2];go_wp2_with (first|(refine wpList_load_row rfl _ _ rfl _ rfl _ _ (0,0) _ b3 underlying39 rfl (My hus) ?_)|(refine wpList_store_row rfl _ _ _ rfl _ _ rfl rfl _ _ b4 (My hus) rfl huo ?_));exact Zu (Ze results152 _ _ _ _ _ (0,0) _ rfl (b4.setRow _) underlying39 rfl (My hus)) rfl ⟨by rw[HEE.out];rfl,hE.setRow (Nat.le_succ _) _⟩
 ·have HE:Yz l v.1 v.2=((Fr.none,Fr.none),false):=by unfold Yz;rw[hbn]
  replace hV:=Zo.after (h:=hV) hx;have HEE:=Zz HE;clear hbn hx KB KV HE;have b4:=hV.boxes.1;have hE:=hV.ex;go_wp2_with fail;go_loopw [8,7,9,10,11,12] (fun i o _ _ _ _ wr=>i= .int .i64 0∧o= .bool false∧wr=w1) (fun _ _ _ _ _ _ _=>0)
  case atStart=>exact⟨rfl,rfl,rfl⟩
  case round=>
   obtain⟨rfl,rfl,rfl⟩:=hrel;rcases Nat.eq_zero_or_pos n with hn|hn
   ·subst hn;have c4:=b4.cell;have f4:=b4.frozen;have z4:=b4.lt;unfold Z6 at c4;go_wp2;refine Zu (v:= .tuple #[.agg Ob,false]) ?_ rfl ⟨by rw[HEE.out];rfl,?_⟩
    ·simp[results,results152,go_sem,c4]
    ·(have:=Exi.mk hE;exact Exi.out)
   ·have hI:(0:Int)<(n:Int):=by omega
    have c4:=b4.cell;have f4:=b4.frozen;have z4:=b4.lt;unfold Z6 at c4;go_wp2;refine Zu (v:= .tuple #[.agg Ob,false]) ?_ rfl ⟨by rw[HEE.out];rfl,?_⟩
    ·simp[results,results152,go_sem,c4]
    ·(have:=Exi.mk hE;exact Exi.out)
end
section
open Go.RowKit

attribute [local go_sem] Zg Zf
theorem Pm{w:World}{b b':Nat}{t t':TypeId}{cs cs':Av}(h:Box w b t cs)(k:Box w b' t' cs')(ht:t≠t'):b≠b':=by
 intro e;subst e;unfold Box at h k;rw[h] at k;injection k with k;injection k with k1 k2 k3;exact ht k2
theorem Mw(x y c:Fr)(w:World):Calls prog 258 #[jvv x y,c.v] w (fun e w'=>e= .returned (v2v (Xn x y c))∧Ex w w'):=by
 unfold Xn two;have k1:=fun w=>Yc.opn (Vy x c w)
 have k2:=fun w=>Yc.opn (Vy y c w)
 generalize Zk x c=s at*;generalize Zk y c=t at*;obtain⟨x1,x2,x3⟩:=x;obtain⟨y1,y2,y3⟩:=y;obtain⟨c1,c2,c3⟩:=c;obtain⟨⟨s1,s2,s3⟩,sk⟩:=s;obtain⟨⟨t1,t2,t3⟩,tk⟩:=t;simp only[v2v,frv,Fr.v,jvv,Fr.none] at k1 k2 ⊢;rcases sk with _|_
 ·try simp only[Bool.false_and,Bool.and_false,Bool.false_eq_true,if_false,Bool.true_and,Bool.and_true]
  have K1:=Zz k1;have K2:=Zz k2;clear k1 k2;obtain⟨hS,hC⟩:=s0 w;go_in;go_wp2_with ((with_reducible apply Zo.see w;first|exact K1.out _|exact K2.out _);clear hS hC;intro wn hS hC;simp only[Zr,Zq,Zy] at hC);exact Yp (by simp[results,results258,go_sem,hC]) rfl
 ·rcases tk with _|_
  ·try simp only[Bool.false_and,Bool.and_false,Bool.false_eq_true,if_false,Bool.true_and,Bool.and_true]
   have K1:=Zz k1;have K2:=Zz k2;clear k1 k2;obtain⟨hS,hC⟩:=s0 w;go_in;go_wp2_with ((with_reducible apply Zo.see w;first|exact K1.out _|exact K2.out _);clear hS hC;intro wn hS hC;simp only[Zr,Zq,Zy] at hC);exact Yp (by simp[results,results258,go_sem,hC]) rfl
  ·try simp only[Bool.and_self,if_true]
   have K1:=Zz k1;have K2:=Zz k2;clear k1 k2;obtain⟨hS,hC⟩:=s0 w;go_in;go_wp2_with ((with_reducible apply Zo.see w;first|exact K1.out _|exact K2.out _);clear hS hC;intro wn hS hC;simp only[Zr,Zq,Zy] at hC);exact Yp (by simp[results,results258,go_sem,hC]) rfl
theorem Zxz(x y u v:Fr)(w:World):Calls prog 259 #[jvv x y,jvv u v] w (fun e w'=>e= .returned (v2v (Zrl x y u v))∧Ex w w'):=by
 unfold Zrl two;have k1:=fun w=>Yc.opn (Qd x u w)
 have k2:=fun w=>Yc.opn (Qd y v w)
 generalize Yo x u=s at*;generalize Yo y v=t at*;obtain⟨x1,x2,x3⟩:=x;obtain⟨y1,y2,y3⟩:=y;obtain⟨u1,u2,u3⟩:=u;obtain⟨v1,v2,v3⟩:=v;obtain⟨⟨s1,s2,s3⟩,sk⟩:=s;obtain⟨⟨t1,t2,t3⟩,tk⟩:=t;simp only[v2v,frv,Fr.v,jvv,Fr.none] at k1 k2 ⊢;rcases sk with _|_
 ·try simp only[Bool.false_and,Bool.and_false,Bool.false_eq_true,if_false,Bool.true_and,Bool.and_true]
  have K1:=Zz k1;have K2:=Zz k2;clear k1 k2;obtain⟨hS,hC⟩:=s0 w;go_in;go_wp2_with ((with_reducible apply Zo.see w;first|exact K1.out _|exact K2.out _);clear hS hC;intro wn hS hC;simp only[Zr,Zq,Zy] at hC);exact Yp (by simp[results,results259,go_sem,hC]) rfl
 ·rcases tk with _|_
  ·try simp only[Bool.false_and,Bool.and_false,Bool.false_eq_true,if_false,Bool.true_and,Bool.and_true]
   have K1:=Zz k1;have K2:=Zz k2;clear k1 k2;obtain⟨hS,hC⟩:=s0 w;go_in;go_wp2_with ((with_reducible apply Zo.see w;first|exact K1.out _|exact K2.out _);clear hS hC;intro wn hS hC;simp only[Zr,Zq,Zy] at hC);exact Yp (by simp[results,results259,go_sem,hC]) rfl
  ·try simp only[Bool.and_self,if_true]
   have K1:=Zz k1;have K2:=Zz k2;clear k1 k2;obtain⟨hS,hC⟩:=s0 w;go_in;go_wp2_with ((with_reducible apply Zo.see w;first|exact K1.out _|exact K2.out _);clear hS hC;intro wn hS hC;simp only[Zr,Zq,Zy] at hC);exact Yp (by simp[results,results259,go_sem,hC]) rfl
theorem Dy(a b:Ub)(ha:a.length≤1048576)(hb:b.length≤1048576)(k:Int)(hk: -1000000≤k∧k≤1000000)(x y:Fr)(second:Bool)(w:World):Calls prog 224 #[(Bs a),(Bs b),k,jvv x y,second] w (fun e w'=>e= .returned (v2v (Mu a b k x y second))∧Ex w w'):=by
 have kin:=fun w=>Tf k 0 3 w
 have ka:=fun w=>Iq a ha (x,y) w
 have kb:=fun w=>Iq b hb (x,y) w
 simp only at ka kb;unfold Mu;rcases hA:Yz a x y with⟨⟨u,v⟩,ok1⟩;rcases hB:Yz b x y with⟨⟨p,q⟩,ok2⟩;rw[hA] at ka;rw[hB] at kb;simp only;clear hA hB ha hb;generalize Bs a=A at*;generalize Bs b=B at*;rcases hi:Xw k 0 3 with _|_
 ·rw[hi] at kin;simp only[Bool.false_eq_true,if_false];clear ka kb;obtain⟨x1,x2,x3⟩:=x;obtain⟨y1,y2,y3⟩:=y;simp only[v2v,jvv,Fr.v,Fr.none,jno,Lz];have KIN:=Zz kin;clear kin;obtain⟨hS,hC⟩:=s0 w;go_in;go_wp2_with (first|((with_reducible refine(KIN.out _).mono ?_);rintro e wn ⟨rfl,rfl⟩));exact Yp (by simp[results,results224,go_sem,hC]) rfl
 ·rw[hi] at kin;simp only[if_true];have h3:0≤k∧k≤3:=by simpa [Xw] using hi
  clear hi;have kp:=fun w=>Kf k h3.1 h3.2 w
  have kq:=fun w=>Kf ((k+2) % 4) (by omega) (by omega) w
  have hw:=Zt (k+2) (by omega);have hr:(k+2).tmod 4=(k+2) % 4:=Int.tmod_eq_emod_of_nonneg (by omega);generalize (k+2) % 4=k2 at*;generalize hF:Yd k=f at*;generalize hG:Yd k2=g at*;clear h3;rcases ok1 with _|_
  ·simp only[Bool.false_and,Bool.false_eq_true,if_false];clear kp kq;obtain⟨x1,x2,x3⟩:=x;obtain⟨y1,y2,y3⟩:=y;obtain⟨u1,u2,u3⟩:=u;obtain⟨v1,v2,v3⟩:=v;obtain⟨p1,p2,p3⟩:=p;obtain⟨q1,q2,q3⟩:=q;simp only[v2v,jvv,Fr.v,Fr.none,jno,Lz] at ka kb ⊢;have KIN:=Zz kin;have KA:=Zz ka;have KB:=Zz kb;clear kin ka kb;obtain⟨hS,hC⟩:=s0 w;go_in;go_wp2_with (first|((with_reducible refine(KIN.out _).mono ?_);rintro e wn ⟨rfl,rfl⟩)|((with_reducible apply Zo.see w;first|exact KA.out _|exact KB.out _);clear hS hC;intro wn hS hC;(try simp only[Zy] at hS hC);simp only[Zr,Zq] at hC));exact Yp (by simp[results,results224,go_sem,hC]) rfl
  ·rcases ok2 with _|_
   ·simp only[Bool.and_false,Bool.false_eq_true,if_false];clear kp kq;obtain⟨x1,x2,x3⟩:=x;obtain⟨y1,y2,y3⟩:=y;obtain⟨u1,u2,u3⟩:=u;obtain⟨v1,v2,v3⟩:=v;obtain⟨p1,p2,p3⟩:=p;obtain⟨q1,q2,q3⟩:=q;simp only[v2v,jvv,Fr.v,Fr.none,jno,Lz] at ka kb ⊢;have KIN:=Zz kin;have KA:=Zz ka;have KB:=Zz kb;clear kin ka kb;obtain⟨hS,hC⟩:=s0 w;go_in;go_wp2_with (first|((with_reducible refine(KIN.out _).mono ?_);rintro e wn ⟨rfl,rfl⟩)|((with_reducible apply Zo.see w;first|exact KA.out _|exact KB.out _);clear hS hC;intro wn hS hC;(try simp only[Zy] at hS hC);simp only[Zr,Zq] at hC));exact Yp (by simp[results,results224,go_sem,hC]) rfl
   ·rcases second with _|_
    ·simp only[Bool.and_self,if_true,Bool.false_eq_true,if_false];rw[hF];clear hF hG kq;have kt:=fun w=>Mw p q f w
     unfold Zno;rcases hT:Xn p q f with⟨⟨s,t⟩,okt⟩;rw[hT] at kt;try simp only
     clear hT;have kad:=fun w=>Zxz u v s t w
     rcases hS:Zrl u v s t with⟨⟨i,j⟩,oks⟩;rw[hS] at kad;try simp only
     clear hS;have kh:=fun w=>Mw i j Lz w
     rcases hH:Xn i j Lz with⟨⟨m,n⟩,okr⟩;rw[hH] at kh;clear hH;obtain⟨x1,x2,x3⟩:=x;obtain⟨y1,y2,y3⟩:=y;obtain⟨u1,u2,u3⟩:=u;obtain⟨v1,v2,v3⟩:=v;obtain⟨p1,p2,p3⟩:=p;obtain⟨q1,q2,q3⟩:=q;obtain⟨s1,s2,s3⟩:=s;obtain⟨t1,t2,t3⟩:=t;obtain⟨i1,i2,i3⟩:=i;obtain⟨j1,j2,j3⟩:=j;obtain⟨m1,m2,m3⟩:=m;obtain⟨n1,n2,n3⟩:=n;obtain⟨f1,f2,f3⟩:=f;rcases okt with _|_
     ·try simp only[Bool.false_eq_true,if_false]
      simp only[v2v,jvv,Fr.v,Fr.none,jno,Lz] at ka kb kp kt ⊢;clear kad kh;have KIN:=Zz kin;have KA:=Zz ka;have KB:=Zz kb;have KP:=Zz kp;have KT:=Zz kt;clear kin ka kb kp kt;obtain⟨hS,hC⟩:=s0 w;go_in;go_wp2_with (first|((with_reducible refine(KIN.out _).mono ?_);rintro e wn ⟨rfl,rfl⟩)|((with_reducible apply Zo.see w;first|exact KA.out _|exact KB.out _|exact KP.out _|exact KT.out _);clear hS hC;intro wn hS hC;(try simp only[Zy] at hS hC);simp only[Zr,Zq] at hC));exact Yp (by simp[results,results224,go_sem,hC]) rfl
     ·try simp only[if_true]
      rcases oks with _|_
      ·try simp only[Bool.false_eq_true,if_false]
       simp only[v2v,jvv,Fr.v,Fr.none,jno,Lz] at ka kb kp kt kad ⊢;clear kh;have KIN:=Zz kin;have KA:=Zz ka;have KB:=Zz kb;have KP:=Zz kp;have KT:=Zz kt;have KAD:=Zz kad;clear kin ka kb kp kt kad;obtain⟨hS,hC⟩:=s0 w;go_in;go_wp2_with (first|((with_reducible refine(KIN.out _).mono ?_);rintro e wn ⟨rfl,rfl⟩)|((with_reducible apply Zo.see w;first|exact KA.out _|exact KB.out _|exact KP.out _|exact KT.out _|exact KAD.out _);clear hS hC;intro wn hS hC;(try simp only[Zy] at hS hC);simp only[Zr,Zq] at hC));exact Yp (by simp[results,results224,go_sem,hC]) rfl
      ·try simp only[if_true]
       simp only[v2v,jvv,Fr.v,Fr.none,jno,Lz] at ka kb kp kt kad kh ⊢;have KIN:=Zz kin;have KA:=Zz ka;have KB:=Zz kb;have KP:=Zz kp;have KT:=Zz kt;have KAD:=Zz kad;have KH:=Zz kh;clear kin ka kb kp kt kad kh;obtain⟨hS,hC⟩:=s0 w;go_in;go_wp2_with (first|((with_reducible refine(KIN.out _).mono ?_);rintro e wn ⟨rfl,rfl⟩)|((with_reducible apply Zo.see w;first|exact KA.out _|exact KB.out _|exact KP.out _|exact KT.out _|exact KH.out _|exact KAD.out _);clear hS hC;intro wn hS hC;(try simp only[Zy] at hS hC);simp only[Zr,Zq] at hC));exact Yp (by simp[results,results224,go_sem,hC]) rfl
    ·simp only[Bool.and_self,if_true];rw[hG];clear hF hG;have kt:=fun w=>Mw p q g w
     unfold Zno;rcases hT:Xn p q g with⟨⟨s,t⟩,okt⟩;rw[hT] at kt;try simp only
     clear hT;have kad:=fun w=>Zxz u v s t w
     rcases hS:Zrl u v s t with⟨⟨i,j⟩,oks⟩;rw[hS] at kad;try simp only
     clear hS;have kh:=fun w=>Mw i j Lz w
     rcases hH:Xn i j Lz with⟨⟨m,n⟩,okr⟩;rw[hH] at kh;clear hH;obtain⟨x1,x2,x3⟩:=x;obtain⟨y1,y2,y3⟩:=y;obtain⟨u1,u2,u3⟩:=u;obtain⟨v1,v2,v3⟩:=v;obtain⟨p1,p2,p3⟩:=p;obtain⟨q1,q2,q3⟩:=q;obtain⟨s1,s2,s3⟩:=s;obtain⟨t1,t2,t3⟩:=t;obtain⟨i1,i2,i3⟩:=i;obtain⟨j1,j2,j3⟩:=j;obtain⟨m1,m2,m3⟩:=m;obtain⟨n1,n2,n3⟩:=n;obtain⟨f1,f2,f3⟩:=f;obtain⟨g1,g2,g3⟩:=g;rcases okt with _|_
     ·try simp only[Bool.false_eq_true,if_false]
      simp only[v2v,jvv,Fr.v,Fr.none,jno,Lz] at ka kb kp kq kt ⊢;clear kad kh;have KIN:=Zz kin;have KA:=Zz ka;have KB:=Zz kb;have KP:=Zz kp;have KQ:=Zz kq;have KT:=Zz kt;clear kin ka kb kp kq kt;obtain⟨hS,hC⟩:=s0 w;go_in;go_upto_region 9 with(first|((with_reducible refine(KIN.out _).mono ?_);rintro e wn ⟨rfl,rfl⟩)|((with_reducible apply Zo.see w;exact KA.out _);clear hS hC;intro wa hS hC;(try simp only[Zy] at hS hC);simp only[Zr,Zq] at hC)|((with_reducible apply Zo.see w;exact KB.out _);clear hS hC;intro wb hS hC;(try simp only[Zy] at hS hC);simp only[Zr,Zq] at hC)|((with_reducible apply Zo.see w;exact KP.out _);clear hS hC;intro wp hS hC;(try simp only[Zy] at hS hC);simp only[Zr,Zq] at hC;have hle:=hS.ex.size));replace hS:Zo w (wp.alloc (.cells #[f1,f2,f3] 30)) _:=inferInstance;try simp only[Zy] at hS
      clear hC;generalize wp.alloc (.cells #[f1,f2,f3] 30)=W9 at*;generalize wp.heap.size=g16 at*;generalize wb.heap.size=g14 at*;generalize wa.heap.size=g12 at*;have hne:∀x∈([(g14,39,#[p1,p2,p3,q1,q2,q3]),(g12,39,#[u1,u2,u3,v1,v2,v3]),(w.heap.size+1,39,Ob),(w.heap.size,39,#[x1,x2,x3,y1,y2,y3])]:Xx),x.1≠g16:=by
       intro x hx;simp only[List.mem_cons,List.not_mem_nil,or_false] at hx;rcases hx with rfl|rfl|rfl|rfl
       ·exact Pm hS.boxes.2.1 hS.boxes.1 (show(39:TypeId)≠30 by decide)
       ·exact Pm hS.boxes.2.2.1 hS.boxes.1 (show(39:TypeId)≠30 by decide)
       ·exact Pm hS.boxes.2.2.2.1 hS.boxes.1 (show(39:TypeId)≠30 by decide)
       ·exact Pm hS.boxes.2.2.2.2.1 hS.boxes.1 (show(39:TypeId)≠30 by decide)
      have hC:=hS.rd;simp only[Zr,Zq] at hC;go_upto_region 10 with((with_reducible apply Zo.see w;exact KQ.out _);clear hS hC;intro wq hS hC;(try simp only[Zy] at hS hC);simp only[Zr,Zq] at hC);replace hS:=Zo.set3 hS hle hne (g1) (g2) (g3);clear hne hC;generalize ((wq.setCell ⟨g16,0,none⟩ (g1)).setCell ⟨g16,1,none⟩ (g2)).setCell ⟨g16,2,none⟩ (g3)=W10 at*;have hC:=hS.rd;simp only[Zr,Zq] at hC;go_wp2_with ((with_reducible apply Zo.see w;exact KT.out _);clear hS hC;intro wn hS hC;(try simp only[Zy] at hS hC);simp only[Zr,Zq] at hC);exact Yp (by simp[results,results224,go_sem,hC]) rfl
     ·try simp only[if_true]
      rcases oks with _|_
      ·try simp only[Bool.false_eq_true,if_false]
       simp only[v2v,jvv,Fr.v,Fr.none,jno,Lz] at ka kb kp kq kt kad ⊢;clear kh;have KIN:=Zz kin;have KA:=Zz ka;have KB:=Zz kb;have KP:=Zz kp;have KQ:=Zz kq;have KT:=Zz kt;have KAD:=Zz kad;clear kin ka kb kp kq kt kad;obtain⟨hS,hC⟩:=s0 w;go_in;go_upto_region 9 with(first|((with_reducible refine(KIN.out _).mono ?_);rintro e wn ⟨rfl,rfl⟩)|((with_reducible apply Zo.see w;exact KA.out _);clear hS hC;intro wa hS hC;(try simp only[Zy] at hS hC);simp only[Zr,Zq] at hC)|((with_reducible apply Zo.see w;exact KB.out _);clear hS hC;intro wb hS hC;(try simp only[Zy] at hS hC);simp only[Zr,Zq] at hC)|((with_reducible apply Zo.see w;exact KP.out _);clear hS hC;intro wp hS hC;(try simp only[Zy] at hS hC);simp only[Zr,Zq] at hC;have hle:=hS.ex.size));replace hS:Zo w (wp.alloc (.cells #[f1,f2,f3] 30)) _:=inferInstance;try simp only[Zy] at hS
       clear hC;generalize wp.alloc (.cells #[f1,f2,f3] 30)=W9 at*;generalize wp.heap.size=g16 at*;generalize wb.heap.size=g14 at*;generalize wa.heap.size=g12 at*;have hne:∀x∈([(g14,39,#[p1,p2,p3,q1,q2,q3]),(g12,39,#[u1,u2,u3,v1,v2,v3]),(w.heap.size+1,39,Ob),(w.heap.size,39,#[x1,x2,x3,y1,y2,y3])]:Xx),x.1≠g16:=by
        intro x hx;simp only[List.mem_cons,List.not_mem_nil,or_false] at hx;rcases hx with rfl|rfl|rfl|rfl
        ·exact Pm hS.boxes.2.1 hS.boxes.1 (show(39:TypeId)≠30 by decide)
        ·exact Pm hS.boxes.2.2.1 hS.boxes.1 (show(39:TypeId)≠30 by decide)
        ·exact Pm hS.boxes.2.2.2.1 hS.boxes.1 (show(39:TypeId)≠30 by decide)
        ·exact Pm hS.boxes.2.2.2.2.1 hS.boxes.1 (show(39:TypeId)≠30 by decide)
       have hC:=hS.rd;simp only[Zr,Zq] at hC;go_upto_region 10 with((with_reducible apply Zo.see w;exact KQ.out _);clear hS hC;intro wq hS hC;(try simp only[Zy] at hS hC);simp only[Zr,Zq] at hC);replace hS:=Zo.set3 hS hle hne (g1) (g2) (g3);clear hne hC;generalize ((wq.setCell ⟨g16,0,none⟩ (g1)).setCell ⟨g16,1,none⟩ (g2)).setCell ⟨g16,2,none⟩ (g3)=W10 at*;have hC:=hS.rd;simp only[Zr,Zq] at hC;go_wp2_with ((with_reducible apply Zo.see w;first|exact KT.out _|exact KAD.out _);clear hS hC;intro wn hS hC;(try simp only[Zy] at hS hC);simp only[Zr,Zq] at hC);exact Yp (by simp[results,results224,go_sem,hC]) rfl
      ·try simp only[if_true]
       simp only[v2v,jvv,Fr.v,Fr.none,jno,Lz] at ka kb kp kq kt kad kh ⊢;have KIN:=Zz kin;have KA:=Zz ka;have KB:=Zz kb;have KP:=Zz kp;have KQ:=Zz kq;have KT:=Zz kt;have KAD:=Zz kad;have KH:=Zz kh;clear kin ka kb kp kq kt kad kh;obtain⟨hS,hC⟩:=s0 w;go_in;go_upto_region 9 with(first|((with_reducible refine(KIN.out _).mono ?_);rintro e wn ⟨rfl,rfl⟩)|((with_reducible apply Zo.see w;exact KA.out _);clear hS hC;intro wa hS hC;(try simp only[Zy] at hS hC);simp only[Zr,Zq] at hC)|((with_reducible apply Zo.see w;exact KB.out _);clear hS hC;intro wb hS hC;(try simp only[Zy] at hS hC);simp only[Zr,Zq] at hC)|((with_reducible apply Zo.see w;exact KP.out _);clear hS hC;intro wp hS hC;(try simp only[Zy] at hS hC);simp only[Zr,Zq] at hC;have hle:=hS.ex.size));replace hS:Zo w (wp.alloc (.cells #[f1,f2,f3] 30)) _:=inferInstance;try simp only[Zy] at hS
       clear hC;generalize wp.alloc (.cells #[f1,f2,f3] 30)=W9 at*;generalize wp.heap.size=g16 at*;generalize wb.heap.size=g14 at*;generalize wa.heap.size=g12 at*;have hne:∀x∈([(g14,39,#[p1,p2,p3,q1,q2,q3]),(g12,39,#[u1,u2,u3,v1,v2,v3]),(w.heap.size+1,39,Ob),(w.heap.size,39,#[x1,x2,x3,y1,y2,y3])]:Xx),x.1≠g16:=by
        intro x hx;simp only[List.mem_cons,List.not_mem_nil,or_false] at hx;rcases hx with rfl|rfl|rfl|rfl
        ·exact Pm hS.boxes.2.1 hS.boxes.1 (show(39:TypeId)≠30 by decide)
        ·exact Pm hS.boxes.2.2.1 hS.boxes.1 (show(39:TypeId)≠30 by decide)
        ·exact Pm hS.boxes.2.2.2.1 hS.boxes.1 (show(39:TypeId)≠30 by decide)
        ·exact Pm hS.boxes.2.2.2.2.1 hS.boxes.1 (show(39:TypeId)≠30 by decide)
       have hC:=hS.rd;simp only[Zr,Zq] at hC;go_upto_region 10 with((with_reducible apply Zo.see w;exact KQ.out _);clear hS hC;intro wq hS hC;(try simp only[Zy] at hS hC);simp only[Zr,Zq] at hC);replace hS:=Zo.set3 hS hle hne (g1) (g2) (g3);clear hne hC;generalize ((wq.setCell ⟨g16,0,none⟩ (g1)).setCell ⟨g16,1,none⟩ (g2)).setCell ⟨g16,2,none⟩ (g3)=W10 at*;have hC:=hS.rd;simp only[Zr,Zq] at hC;go_wp2_with ((with_reducible apply Zo.see w;first|exact KT.out _|exact KH.out _|exact KAD.out _);clear hS hC;intro wn hS hC;(try simp only[Zy] at hS hC);simp only[Zr,Zq] at hC);exact Yp (by simp[results,results224,go_sem,hC]) rfl
end
section
open Go.RowKit

attribute [local go_sem] Zg Zf
def f2v(r:(Fr×Fr)×Bool):Value:= .tuple #[r.1.1.v,r.1.2.v,r.2]
theorem Zrg(a b:Ub)(ha:a.length≤1048576)(hb:b.length≤1048576)(k:Int)(hk: -1000000≤k∧k≤1000000)(x y:Fr)(w:World):Calls prog 165 #[(Bs a),(Bs b),k,jvv x y] w (fun e w'=>e= .returned (f2v (Io a b k x y))∧Ex w w'):=by
 unfold f2v;have k1:=fun w=>Dy a b ha hb k hk x y false w
 have k2:=fun w=>Dy a b ha hb k hk x y true w
 unfold Io two;rcases h1:Mu a b k x y false with⟨⟨p,q⟩,ok1⟩;rcases h2:Mu a b k x y true with⟨⟨s,t⟩,ok2⟩;rw[h1] at k1;rw[h2] at k2;simp only;clear h1 h2 ha hb hk;have k3:=fun w=>Jm p q w
 have k4:=fun w=>Jm s t w
 generalize Vm p q=m at*;generalize Vm s t=n at*;obtain⟨m,mk⟩:=m;obtain⟨n,nk⟩:=n;generalize Bs a=A at*;generalize Bs b=B at*;obtain⟨x1,x2,x3⟩:=x;obtain⟨y1,y2,y3⟩:=y;obtain⟨p1,p2,p3⟩:=p;obtain⟨q1,q2,q3⟩:=q;obtain⟨s1,s2,s3⟩:=s;obtain⟨t1,t2,t3⟩:=t;obtain⟨m1,m2,m3⟩:=m;obtain⟨n1,n2,n3⟩:=n;simp only[v2v,jvv,frv,Fr.v,Fr.none] at k1 k2 k3 k4 ⊢;have K1:=Zz k1;have K2:=Zz k2;have K3:=Zz k3;have K4:=Zz k4;clear k1 k2 k3 k4;obtain⟨hS,hC⟩:=s0 w;rcases ok1 with _|_
 ·simp only[Bool.false_and,Bool.and_false,Bool.false_eq_true,if_false,Bool.and_self,Bool.true_and,if_true];go_in;go_wp2_with ((with_reducible apply Zo.see w;first|exact K1.out _|exact K2.out _|exact K3.out _|exact K4.out _);clear hS hC;intro wn hS hC;(try simp only[Zy] at hS hC);simp only[Zr,Zq] at hC);exact Yp (by simp[results,results165,go_sem,hC]) rfl
 ·rcases ok2 with _|_
  ·simp only[Bool.false_and,Bool.and_false,Bool.false_eq_true,if_false,Bool.and_self,Bool.true_and,if_true];go_in;go_wp2_with ((with_reducible apply Zo.see w;first|exact K1.out _|exact K2.out _|exact K3.out _|exact K4.out _);clear hS hC;intro wn hS hC;(try simp only[Zy] at hS hC);simp only[Zr,Zq] at hC);exact Yp (by simp[results,results165,go_sem,hC]) rfl
  ·rcases mk with _|_
   ·simp only[Bool.false_and,Bool.and_false,Bool.false_eq_true,if_false,Bool.and_self,Bool.true_and,if_true];go_in;go_wp2_with ((with_reducible apply Zo.see w;first|exact K1.out _|exact K2.out _|exact K3.out _|exact K4.out _);clear hS hC;intro wn hS hC;(try simp only[Zy] at hS hC);simp only[Zr,Zq] at hC);exact Yp (by simp[results,results165,go_sem,hC]) rfl
   ·rcases nk with _|_
    ·simp only[Bool.false_and,Bool.and_false,Bool.false_eq_true,if_false,Bool.and_self,Bool.true_and,if_true];go_in;go_wp2_with ((with_reducible apply Zo.see w;first|exact K1.out _|exact K2.out _|exact K3.out _|exact K4.out _);clear hS hC;intro wn hS hC;(try simp only[Zy] at hS hC);simp only[Zr,Zq] at hC);exact Yp (by simp[results,results165,go_sem,hC]) rfl
    ·simp only[Bool.false_and,Bool.and_false,Bool.false_eq_true,if_false,Bool.and_self,Bool.true_and,if_true];go_in;go_wp2_with ((with_reducible apply Zo.see w;first|exact K1.out _|exact K2.out _|exact K3.out _|exact K4.out _);clear hS hC;intro wn hS hC;(try simp only[Zy] at hS hC);simp only[Zr,Zq] at hC);go_region
     all_goals
      go_wp2;exact Yp (by simp[results,results165,go_sem,hC]) rfl
end
section
open Go.RowKit

attribute [local go_sem] Zg Zf
def recRight(l:Ub)(v:M4)(h:Int):Bool:=(Uy l v).2&&decide ((Uy l v).1=h)
theorem Zqy(l:Ub)(hl:l.length≤1048576)(v:M4)(w:World):Calls prog 159 #[(Bs l),v.v] w (fun e w'=>e= .returned (Zrt l v (Uy l v))∧Ex w w'):=by
 have kb:=fun w=>Zcq l hl v w
 generalize Uy l v=R at kb ⊢;generalize hV:Zrt l v R=V;simp only[Zrt,Zru] at hV;obtain⟨⟨a1,a2,a3⟩,⟨b1,b2,b3⟩,⟨c1,c2,c3⟩,⟨d1,d2,d3⟩⟩:=v;obtain⟨h,ok⟩:=R;simp only[M4.v] at kb hV ⊢;generalize Bs l=S at*;have KB:=Zz kb;have HV:=Zz hV.symm;clear kb hV;obtain⟨hS,hC⟩:=s0 w;rcases ok with _|_
 ·go_in;go_wp2_with ((with_reducible apply Zo.see w;exact KB.out _);clear hS hC;intro wn hS hC;simp only[Zr,Zq,Zy] at hC);refine Zu (v:= .tuple #[.agg #[.string ⟨#[]⟩,oo,oo,oo,oo,oo,oo,oo,oo,oo,oo,oo,oo, .int .u32 0],false]) ?_ rfl ⟨by rw[HV.out];simp[M4.none,Fr.none],?_⟩
  ·simp[results,results159,go_sem,hC]
  ·exact Exi.out
 ·go_in;go_wp2_with ((with_reducible apply Zo.see w;exact KB.out _);clear hS hC;intro wn hS hC;simp only[Zr,Zq,Zy] at hC);refine Zu (v:= .tuple #[.agg #[S,a1,a2,a3,b1,b2,b3,c1,c2,c3,d1,d2,d3, .int .u32 h],true]) ?_ rfl ⟨by rw[HV.out];simp,?_⟩
  ·simp[results,results159,go_sem,hC]
  ·exact Exi.out
end
end Go.Proofs.YtiommfmaleeibaaGreatDoor
