/-
  Proved:what functions compute,part 11. No condition.
-/
import Derived.Test.YtiommfmaleeibaaGreatDoorB06
import Derived.LoopN
import Derived.RegionTactic
import Derived.ChangeAlike
set_option linter.unusedSimpArgs false
set_option linter.unusedVariables false
set_option maxRecDepth 20000
set_option maxHeartbeats 8000000
namespace Go.Proofs.YtiommfmaleeibaaGreatDoor
open Go.Proofs.Tryz
section
open Go.RowKit

theorem index4_0(a1 a2 a3 b1 b2 b3 c1 c2 c3 d1 d2 d3:Int)(w:World):(Instr.index 31 (.agg #[a1,a2,a3,b1,b2,b3,c1,c2,c3,d1,d2,d3]) (oo)).run prog w= .ok (.agg #[a1,a2,a3]) w:=by
 simp[Instr.index,run_underlying underlying31,asIntOf,go_sem]
theorem index4_1(a1 a2 a3 b1 b2 b3 c1 c2 c3 d1 d2 d3:Int)(w:World):(Instr.index 31 (.agg #[a1,a2,a3,b1,b2,b3,c1,c2,c3,d1,d2,d3]) (.int .i64 1)).run prog w= .ok (.agg #[b1,b2,b3]) w:=by
 simp[Instr.index,run_underlying underlying31,asIntOf,go_sem]
theorem index4_2(a1 a2 a3 b1 b2 b3 c1 c2 c3 d1 d2 d3:Int)(w:World):(Instr.index 31 (.agg #[a1,a2,a3,b1,b2,b3,c1,c2,c3,d1,d2,d3]) (.int .i64 2)).run prog w= .ok (.agg #[c1,c2,c3]) w:=by
 simp[Instr.index,run_underlying underlying31,asIntOf,go_sem]
theorem index4_3(a1 a2 a3 b1 b2 b3 c1 c2 c3 d1 d2 d3:Int)(w:World):(Instr.index 31 (.agg #[a1,a2,a3,b1,b2,b3,c1,c2,c3,d1,d2,d3]) (.int .i64 3)).run prog w= .ok (.agg #[d1,d2,d3]) w:=by
 simp[Instr.index,run_underlying underlying31,asIntOf,go_sem]
theorem Ix(m:M4)(w:World):Calls prog 96 #[m.v] w (fun e w'=>e= .returned (.bool m.valid)∧Ex w w'):=by
 obtain⟨⟨a1,a2,a3⟩,⟨b1,b2,b3⟩,⟨c1,c2,c3⟩,⟨d1,d2,d3⟩⟩:=m;show Calls _ _ #[.agg #[a1,a2,a3,b1,b2,b3,c1,c2,c3,d1,d2,d3]] _ fun e w'=>e= .returned (.bool (Yx a1 a2 a3&&Yx b1 b2 b3&&Yx c1 c2 c3&&Yx d1 d2 d3))∧Ex w w'
 have ka:=fun w=>Xj a1 a2 a3 w
 generalize Yx a1 a2 a3=va at ka ⊢;have kb:=fun w=>Xj b1 b2 b3 w
 generalize Yx b1 b2 b3=vb at kb ⊢;have kc:=fun w=>Xj c1 c2 c3 w
 generalize Yx c1 c2 c3=vc at kc ⊢;have kd:=fun w=>Xj d1 d2 d3 w
 generalize Yx d1 d2 d3=vd at kd ⊢;rcases va with _|_
 ·have KA:=Zz ka;clear ka kb kc kd;obtain⟨hS,hC⟩:=s0 w;go_in;go_wp2;have i0:=fun w=>index4_0 a1 a2 a3 b1 b2 b3 c1 c2 c3 d1 d2 d3 w
  refine wp_loop_rounds 5 ?_;rw[rounds_succ];go_wp2_with ((with_reducible apply Zo.see w;exact KA.out _);clear hS hC;intro wn hS hC;simp only[Zr,Zq,Zy] at hC);go_ret;refine⟨Wv (by simp),?_⟩;exact Exi.out
 ·rcases vb with _|_
  ·have KA:=Zz ka;have KB:=Zz kb;clear ka kb kc kd;obtain⟨hS,hC⟩:=s0 w;go_in;go_wp2;have i0:=fun w=>index4_0 a1 a2 a3 b1 b2 b3 c1 c2 c3 d1 d2 d3 w
   have i1:=fun w=>index4_1 a1 a2 a3 b1 b2 b3 c1 c2 c3 d1 d2 d3 w
   refine wp_loop_rounds 5 ?_;rw[rounds_succ];go_wp2_with ((with_reducible apply Zo.see w;exact KA.out _);clear hS hC;intro wn hS hC;simp only[Zr,Zq,Zy] at hC);rw[rounds_succ];go_wp2_with ((with_reducible apply Zo.see w;exact KB.out _);clear hS hC;intro wn hS hC;simp only[Zr,Zq,Zy] at hC);go_ret;refine⟨Wv (by simp),?_⟩;exact Exi.out
  ·rcases vc with _|_
   ·have KA:=Zz ka;have KB:=Zz kb;have KC:=Zz kc;clear ka kb kc kd;obtain⟨hS,hC⟩:=s0 w;go_in;go_wp2;have i0:=fun w=>index4_0 a1 a2 a3 b1 b2 b3 c1 c2 c3 d1 d2 d3 w
    have i1:=fun w=>index4_1 a1 a2 a3 b1 b2 b3 c1 c2 c3 d1 d2 d3 w
    have i2:=fun w=>index4_2 a1 a2 a3 b1 b2 b3 c1 c2 c3 d1 d2 d3 w
    refine wp_loop_rounds 5 ?_;rw[rounds_succ];go_wp2_with ((with_reducible apply Zo.see w;exact KA.out _);clear hS hC;intro wn hS hC;simp only[Zr,Zq,Zy] at hC);rw[rounds_succ];go_wp2_with ((with_reducible apply Zo.see w;exact KB.out _);clear hS hC;intro wn hS hC;simp only[Zr,Zq,Zy] at hC);rw[rounds_succ];go_wp2_with ((with_reducible apply Zo.see w;exact KC.out _);clear hS hC;intro wn hS hC;simp only[Zr,Zq,Zy] at hC);go_ret;refine⟨Wv (by simp),?_⟩;exact Exi.out
   ·rcases vd with _|_
    ·have KA:=Zz ka;have KB:=Zz kb;have KC:=Zz kc;have KD:=Zz kd;clear ka kb kc kd;obtain⟨hS,hC⟩:=s0 w;go_in;go_wp2;have i0:=fun w=>index4_0 a1 a2 a3 b1 b2 b3 c1 c2 c3 d1 d2 d3 w
     have i1:=fun w=>index4_1 a1 a2 a3 b1 b2 b3 c1 c2 c3 d1 d2 d3 w
     have i2:=fun w=>index4_2 a1 a2 a3 b1 b2 b3 c1 c2 c3 d1 d2 d3 w
     have i3:=fun w=>index4_3 a1 a2 a3 b1 b2 b3 c1 c2 c3 d1 d2 d3 w
     refine wp_loop_rounds 5 ?_;rw[rounds_succ];go_wp2_with ((with_reducible apply Zo.see w;exact KA.out _);clear hS hC;intro wn hS hC;simp only[Zr,Zq,Zy] at hC);rw[rounds_succ];go_wp2_with ((with_reducible apply Zo.see w;exact KB.out _);clear hS hC;intro wn hS hC;simp only[Zr,Zq,Zy] at hC);rw[rounds_succ];go_wp2_with ((with_reducible apply Zo.see w;exact KC.out _);clear hS hC;intro wn hS hC;simp only[Zr,Zq,Zy] at hC);rw[rounds_succ];go_wp2_with ((with_reducible apply Zo.see w;exact KD.out _);clear hS hC;intro wn hS hC;simp only[Zr,Zq,Zy] at hC);go_ret;refine⟨Wv (by simp),?_⟩;exact Exi.out
    ·have KA:=Zz ka;have KB:=Zz kb;have KC:=Zz kc;have KD:=Zz kd;clear ka kb kc kd;obtain⟨hS,hC⟩:=s0 w;go_in;go_wp2;have i0:=fun w=>index4_0 a1 a2 a3 b1 b2 b3 c1 c2 c3 d1 d2 d3 w
     have i1:=fun w=>index4_1 a1 a2 a3 b1 b2 b3 c1 c2 c3 d1 d2 d3 w
     have i2:=fun w=>index4_2 a1 a2 a3 b1 b2 b3 c1 c2 c3 d1 d2 d3 w
     have i3:=fun w=>index4_3 a1 a2 a3 b1 b2 b3 c1 c2 c3 d1 d2 d3 w
     refine wp_loop_rounds 5 ?_;rw[rounds_succ];go_wp2_with ((with_reducible apply Zo.see w;exact KA.out _);clear hS hC;intro wn hS hC;simp only[Zr,Zq,Zy] at hC);rw[rounds_succ];go_wp2_with ((with_reducible apply Zo.see w;exact KB.out _);clear hS hC;intro wn hS hC;simp only[Zr,Zq,Zy] at hC);rw[rounds_succ];go_wp2_with ((with_reducible apply Zo.see w;exact KC.out _);clear hS hC;intro wn hS hC;simp only[Zr,Zq,Zy] at hC);rw[rounds_succ];go_wp2_with ((with_reducible apply Zo.see w;exact KD.out _);clear hS hC;intro wn hS hC;simp only[Zr,Zq,Zy] at hC);rw[rounds_succ];go_wp2;go_ret;refine⟨Wv (by simp),?_⟩;exact Exi.out
theorem Iw(m:M4)(w:World):Calls prog 110 #[m.v] w (fun e w'=>e= .returned (.bool m.valid)∧Ex w w'):=by
 obtain⟨⟨a1,a2,a3⟩,⟨b1,b2,b3⟩,⟨c1,c2,c3⟩,⟨d1,d2,d3⟩⟩:=m;show Calls _ _ #[.agg #[a1,a2,a3,b1,b2,b3,c1,c2,c3,d1,d2,d3]] _ fun e w'=>e= .returned (.bool (Yx a1 a2 a3&&Yx b1 b2 b3&&Yx c1 c2 c3&&Yx d1 d2 d3))∧Ex w w'
 have ka:=fun w=>Xc a1 a2 a3 w
 generalize Yx a1 a2 a3=va at ka ⊢;have kb:=fun w=>Xc b1 b2 b3 w
 generalize Yx b1 b2 b3=vb at kb ⊢;have kc:=fun w=>Xc c1 c2 c3 w
 generalize Yx c1 c2 c3=vc at kc ⊢;have kd:=fun w=>Xc d1 d2 d3 w
 generalize Yx d1 d2 d3=vd at kd ⊢;rcases va with _|_
 ·have KA:=Zz ka;clear ka kb kc kd;obtain⟨hS,hC⟩:=s0 w;go_in;go_wp2;refine wp_loop_rounds 5 ?_;rw[rounds_succ];go_wp2_with ((with_reducible apply Zo.see w;exact KA.out _);clear hS hC;intro wn hS hC;simp only[Zr,Zq,Zy] at hC);go_ret;refine⟨Wv (by simp),?_⟩;exact Exi.out
 ·rcases vb with _|_
  ·have KA:=Zz ka;have KB:=Zz kb;clear ka kb kc kd;obtain⟨hS,hC⟩:=s0 w;go_in;go_wp2;refine wp_loop_rounds 5 ?_;rw[rounds_succ];go_wp2_with ((with_reducible apply Zo.see w;exact KA.out _);clear hS hC;intro wn hS hC;simp only[Zr,Zq,Zy] at hC);rw[rounds_succ];go_wp2_with ((with_reducible apply Zo.see w;exact KB.out _);clear hS hC;intro wn hS hC;simp only[Zr,Zq,Zy] at hC);go_ret;refine⟨Wv (by simp),?_⟩;exact Exi.out
  ·rcases vc with _|_
   ·have KA:=Zz ka;have KB:=Zz kb;have KC:=Zz kc;clear ka kb kc kd;obtain⟨hS,hC⟩:=s0 w;go_in;go_wp2;refine wp_loop_rounds 5 ?_;rw[rounds_succ];go_wp2_with ((with_reducible apply Zo.see w;exact KA.out _);clear hS hC;intro wn hS hC;simp only[Zr,Zq,Zy] at hC);rw[rounds_succ];go_wp2_with ((with_reducible apply Zo.see w;exact KB.out _);clear hS hC;intro wn hS hC;simp only[Zr,Zq,Zy] at hC);rw[rounds_succ];go_wp2_with ((with_reducible apply Zo.see w;exact KC.out _);clear hS hC;intro wn hS hC;simp only[Zr,Zq,Zy] at hC);go_ret;refine⟨Wv (by simp),?_⟩;exact Exi.out
   ·rcases vd with _|_
    ·have KA:=Zz ka;have KB:=Zz kb;have KC:=Zz kc;have KD:=Zz kd;clear ka kb kc kd;obtain⟨hS,hC⟩:=s0 w;go_in;go_wp2;refine wp_loop_rounds 5 ?_;rw[rounds_succ];go_wp2_with ((with_reducible apply Zo.see w;exact KA.out _);clear hS hC;intro wn hS hC;simp only[Zr,Zq,Zy] at hC);rw[rounds_succ];go_wp2_with ((with_reducible apply Zo.see w;exact KB.out _);clear hS hC;intro wn hS hC;simp only[Zr,Zq,Zy] at hC);rw[rounds_succ];go_wp2_with ((with_reducible apply Zo.see w;exact KC.out _);clear hS hC;intro wn hS hC;simp only[Zr,Zq,Zy] at hC);rw[rounds_succ];go_wp2_with ((with_reducible apply Zo.see w;exact KD.out _);clear hS hC;intro wn hS hC;simp only[Zr,Zq,Zy] at hC);go_ret;refine⟨Wv (by simp),?_⟩;exact Exi.out
    ·have KA:=Zz ka;have KB:=Zz kb;have KC:=Zz kc;have KD:=Zz kd;clear ka kb kc kd;obtain⟨hS,hC⟩:=s0 w;go_in;go_wp2;refine wp_loop_rounds 5 ?_;rw[rounds_succ];go_wp2_with ((with_reducible apply Zo.see w;exact KA.out _);clear hS hC;intro wn hS hC;simp only[Zr,Zq,Zy] at hC);rw[rounds_succ];go_wp2_with ((with_reducible apply Zo.see w;exact KB.out _);clear hS hC;intro wn hS hC;simp only[Zr,Zq,Zy] at hC);rw[rounds_succ];go_wp2_with ((with_reducible apply Zo.see w;exact KC.out _);clear hS hC;intro wn hS hC;simp only[Zr,Zq,Zy] at hC);rw[rounds_succ];go_wp2_with ((with_reducible apply Zo.see w;exact KD.out _);clear hS hC;intro wn hS hC;simp only[Zr,Zq,Zy] at hC);rw[rounds_succ];go_wp2;go_ret;refine⟨Wv (by simp),?_⟩;exact Exi.out
end
section
open Go.RowKit

theorem Yc.opn{P:Program}{f:Nat}{args:Av}{w:World}{r:Fr×Bool}(h:Calls P f args w (Yc w r)):Calls P f args w fun e w'=>e= .returned (frv r)∧Ex w w':=h
def m4v(r:M4×Bool):Value:= .tuple #[r.1.v,r.2]
def jvv(x y:Fr):Value:= .agg #[x.re,x.im,x.den,y.re,y.im,y.den]
def v2v(r:(Fr×Fr)×Bool):Value:= .tuple #[jvv r.1.1 r.1.2,r.2]
theorem Mm(a b c d:Fr)(w:World):Calls prog 172 #[a.v,b.v,c.v,d.v] w (fun e w'=>e= .returned (frv (Xd a b c d))∧Ex w w'):=by
 rw[←Zzd];have k1:=fun w=>Yc.opn (Vy a b w)
 have k2:=fun w=>Yc.opn (Vy c d w)
 have k3:=fun w=>Yc.opn (Qd (Zk a b).1 (Zk c d).1 w)
 generalize Yo (Zk a b).1 (Zk c d).1=s at*;generalize Zk a b=t at*;generalize Zk c d=u at*;obtain⟨a1,a2,a3⟩:=a;obtain⟨b1,b2,b3⟩:=b;obtain⟨c1,c2,c3⟩:=c;obtain⟨d1,d2,d3⟩:=d;obtain⟨⟨s1,s2,s3⟩,sk⟩:=s;obtain⟨⟨t1,t2,t3⟩,tk⟩:=t;obtain⟨⟨u1,u2,u3⟩,uk⟩:=u;simp only[m4v,v2v,frv,Fr.v,M4.v,jvv,Fr.none,M4.none] at k1 k2 k3 ⊢;rcases tk with _|_
 ·try simp only[Bool.false_and,Bool.and_false,Bool.false_eq_true,if_false,Bool.true_and,Bool.and_true]
  have K1:=Zz k1;have K2:=Zz k2;have K3:=Zz k3;clear k1 k2 k3;obtain⟨hS,hC⟩:=s0 w;go_in;go_wp2_with ((with_reducible apply Zo.see w;first|exact K1.out _|exact K2.out _|exact K3.out _);clear hS hC;intro wn hS hC;simp only[Zr,Zq,Zy] at hC);exact Yp (by simp[results,results172,go_sem,hC]) rfl
 ·rcases uk with _|_
  ·try simp only[Bool.false_and,Bool.and_false,Bool.false_eq_true,if_false,Bool.true_and,Bool.and_true]
   have K1:=Zz k1;have K2:=Zz k2;have K3:=Zz k3;clear k1 k2 k3;obtain⟨hS,hC⟩:=s0 w;go_in;go_wp2_with ((with_reducible apply Zo.see w;first|exact K1.out _|exact K2.out _|exact K3.out _);clear hS hC;intro wn hS hC;simp only[Zr,Zq,Zy] at hC);exact Yp (by simp[results,results172,go_sem,hC]) rfl
  ·try simp only[Bool.and_self,if_true]
   have K1:=Zz k1;have K2:=Zz k2;have K3:=Zz k3;clear k1 k2 k3;obtain⟨hS,hC⟩:=s0 w;go_in;go_wp2_with ((with_reducible apply Zo.see w;first|exact K1.out _|exact K2.out _|exact K3.out _);clear hS hC;intro wn hS hC;simp only[Zr,Zq,Zy] at hC);exact Yp (by simp[results,results172,go_sem,hC]) rfl
theorem Vk(a1 a2 a3 b1 b2 b3 c1 c2 c3 d1 d2 d3:Int)(w:World):Calls prog 109 #[.agg #[a1,a2,a3], .agg #[b1,b2,b3], .agg #[c1,c2,c3], .agg #[d1,d2,d3],true] w (fun e w'=>e= .returned (.tuple #[.agg #[a1,a2,a3,b1,b2,b3,c1,c2,c3,d1,d2,d3],true])∧Ex w w'):=by
 obtain⟨hS,hC⟩:=s0 w;go_in;go_wp2;exact Yp (by simp[results,results109,go_sem]) rfl
theorem Vt(a1 a2 a3 b1 b2 b3 c1 c2 c3 d1 d2 d3:Int)(w:World):Calls prog 109 #[.agg #[a1,a2,a3], .agg #[b1,b2,b3], .agg #[c1,c2,c3], .agg #[d1,d2,d3],false] w (fun e w'=>e= .returned (.tuple #[.agg Oc,false])∧Ex w w'):=by
 obtain⟨hS,hC⟩:=s0 w;go_in;go_wp2;exact Yp (by simp[results,results109,go_sem]) rfl
theorem Iv(x y:M4)(w:World):Calls prog 105 #[x.v,y.v] w (fun e w'=>e= .returned (m4v (Yi x y))∧Ex w w'):=by
 unfold Yi Nn;have kx:=fun w=>Iw x w
 have ky:=fun w=>Iw y w
 have k1:=fun w=>Mm x.a y.a x.b y.c w
 have k2:=fun w=>Mm x.a y.b x.b y.d w
 have k3:=fun w=>Mm x.c y.a x.d y.c w
 have k4:=fun w=>Mm x.c y.b x.d y.d w
 generalize Xd x.a y.a x.b y.c=s at*;generalize Xd x.a y.b x.b y.d=t at*;generalize Xd x.c y.a x.d y.c=u at*;generalize Xd x.c y.b x.d y.d=v at*;generalize x.valid=vx at*;generalize y.valid=vy at*;obtain⟨⟨a1,a2,a3⟩,⟨b1,b2,b3⟩,⟨c1,c2,c3⟩,⟨d1,d2,d3⟩⟩:=x;obtain⟨⟨e1,e2,e3⟩,⟨f1,f2,f3⟩,⟨g1,g2,g3⟩,⟨h1,h2,h3⟩⟩:=y;obtain⟨⟨s1,s2,s3⟩,sk⟩:=s;obtain⟨⟨t1,t2,t3⟩,tk⟩:=t;obtain⟨⟨u1,u2,u3⟩,uk⟩:=u;obtain⟨⟨v1,v2,v3⟩,vk⟩:=v;simp only[m4v,v2v,frv,Fr.v,M4.v,jvv,Fr.none,M4.none] at kx ky k1 k2 k3 k4 ⊢;rcases vx with _|_
 ·try simp only[Bool.false_and,Bool.and_false,Bool.false_eq_true,if_false,Bool.true_and,Bool.and_true]
  have KX:=Zz kx;have KY:=Zz ky;have K1:=Zz k1;have K2:=Zz k2;have K3:=Zz k3;have K4:=Zz k4;clear kx ky k1 k2 k3 k4;obtain⟨hS,hC⟩:=s0 w;go_in;go_wp2_with ((with_reducible apply Zo.see w;first|exact KX.out _|exact KY.out _|exact K1.out _|exact K2.out _|exact K3.out _|exact K4.out _|exact Vk _ _ _ _ _ _ _ _ _ _ _ _ _|exact Vt _ _ _ _ _ _ _ _ _ _ _ _ _);clear hS hC;intro wn hS hC;simp only[Zr,Zq,Zy] at hC);all_goals
   exact Yp (by simp[results,results105,go_sem,hC, *]) rfl
 ·rcases vy with _|_
  ·try simp only[Bool.false_and,Bool.and_false,Bool.false_eq_true,if_false,Bool.true_and,Bool.and_true]
   have KX:=Zz kx;have KY:=Zz ky;have K1:=Zz k1;have K2:=Zz k2;have K3:=Zz k3;have K4:=Zz k4;clear kx ky k1 k2 k3 k4;obtain⟨hS,hC⟩:=s0 w;go_in;go_wp2_with ((with_reducible apply Zo.see w;first|exact KX.out _|exact KY.out _|exact K1.out _|exact K2.out _|exact K3.out _|exact K4.out _|exact Vk _ _ _ _ _ _ _ _ _ _ _ _ _|exact Vt _ _ _ _ _ _ _ _ _ _ _ _ _);clear hS hC;intro wn hS hC;simp only[Zr,Zq,Zy] at hC);all_goals
    exact Yp (by simp[results,results105,go_sem,hC, *]) rfl
  ·rcases vk with _|_
   ·try simp only[Bool.false_and,Bool.and_false,Bool.false_eq_true,if_false,Bool.true_and,Bool.and_true]
    have KX:=Zz kx;have KY:=Zz ky;have K1:=Zz k1;have K2:=Zz k2;have K3:=Zz k3;have K4:=Zz k4;clear kx ky k1 k2 k3 k4;obtain⟨hS,hC⟩:=s0 w;go_in;go_wp2_with ((with_reducible apply Zo.see w;first|exact KX.out _|exact KY.out _|exact K1.out _|exact K2.out _|exact K3.out _|exact K4.out _|exact Vk _ _ _ _ _ _ _ _ _ _ _ _ _|exact Vt _ _ _ _ _ _ _ _ _ _ _ _ _);clear hS hC;intro wn hS hC;simp only[Zr,Zq,Zy] at hC);all_goals
     exact Yp (by simp[results,results105,go_sem,hC, *]) rfl
   ·try simp only[Bool.and_self,if_true]
    have KX:=Zz kx;have KY:=Zz ky;have K1:=Zz k1;have K2:=Zz k2;have K3:=Zz k3;have K4:=Zz k4;clear kx ky k1 k2 k3 k4;obtain⟨hS,hC⟩:=s0 w;go_in;go_wp2_with ((with_reducible apply Zo.see w;first|exact KX.out _|exact KY.out _|exact K1.out _|exact K2.out _|exact K3.out _|exact K4.out _|exact Vk _ _ _ _ _ _ _ _ _ _ _ _ _|exact Vt _ _ _ _ _ _ _ _ _ _ _ _ _);clear hS hC;intro wn hS hC;simp only[Zr,Zq,Zy] at hC);all_goals
     exact Yp (by simp[results,results105,go_sem,hC, *]) rfl
theorem Eo(x:M4)(w:World):Calls prog 104 #[x.v] w (fun e w'=>e= .returned (m4v (Tx x))∧Ex w w'):=by
 unfold Tx Nn;have k1:=fun w=>Yc.opn (Td x.a w)
 have k2:=fun w=>Yc.opn (Td x.c w)
 have k3:=fun w=>Yc.opn (Td x.b w)
 have k4:=fun w=>Yc.opn (Td x.d w)
 generalize Yq x.a=s at*;generalize Yq x.c=t at*;generalize Yq x.b=u at*;generalize Yq x.d=v at*;obtain⟨⟨a1,a2,a3⟩,⟨b1,b2,b3⟩,⟨c1,c2,c3⟩,⟨d1,d2,d3⟩⟩:=x;obtain⟨⟨s1,s2,s3⟩,sk⟩:=s;obtain⟨⟨t1,t2,t3⟩,tk⟩:=t;obtain⟨⟨u1,u2,u3⟩,uk⟩:=u;obtain⟨⟨v1,v2,v3⟩,vk⟩:=v;simp only[m4v,v2v,frv,Fr.v,M4.v,jvv,Fr.none,M4.none] at k1 k2 k3 k4 ⊢;rcases vk with _|_
 ·try simp only[Bool.false_and,Bool.and_false,Bool.false_eq_true,if_false,Bool.true_and,Bool.and_true]
  have K1:=Zz k1;have K2:=Zz k2;have K3:=Zz k3;have K4:=Zz k4;clear k1 k2 k3 k4;obtain⟨hS,hC⟩:=s0 w;go_in;go_wp2_with ((with_reducible apply Zo.see w;first|exact K1.out _|exact K2.out _|exact K3.out _|exact K4.out _|exact Vk _ _ _ _ _ _ _ _ _ _ _ _ _|exact Vt _ _ _ _ _ _ _ _ _ _ _ _ _);clear hS hC;intro wn hS hC;simp only[Zr,Zq,Zy] at hC);all_goals
   exact Yp (by simp[results,results104,go_sem,hC, *]) rfl
 ·try simp only[Bool.and_self,if_true]
  have K1:=Zz k1;have K2:=Zz k2;have K3:=Zz k3;have K4:=Zz k4;clear k1 k2 k3 k4;obtain⟨hS,hC⟩:=s0 w;go_in;go_wp2_with ((with_reducible apply Zo.see w;first|exact K1.out _|exact K2.out _|exact K3.out _|exact K4.out _|exact Vk _ _ _ _ _ _ _ _ _ _ _ _ _|exact Vt _ _ _ _ _ _ _ _ _ _ _ _ _);clear hS hC;intro wn hS hC;simp only[Zr,Zq,Zy] at hC);all_goals
   exact Yp (by simp[results,results104,go_sem,hC, *]) rfl
end
section
open Go.RowKit

theorem Zpv{p q:Int}(h1:Xw p (-100) 100=true)(h2:Xw q (-100) 100=true):(0≤p*p∧p*p≤10000)∧(0≤q*q∧q*q≤10000)∧(-10000≤p*q∧p*q≤10000):=by
 have hp:=Wj h1;have hq:=Wj h2;have bd:∀x y:Int, -100≤x→x≤100→ -100≤y→y≤100→ -10000≤x*y∧x*y≤10000:=by
  intro x y h1 h2 h3 h4;have:(x*y).natAbs≤100*100:=by
   rw[Int.natAbs_mul];exact Nat.mul_le_mul (by omega) (by omega)
  omega
 exact⟨⟨Qw _,(bd p p hp.1 hp.2 hp.1 hp.2).2⟩,⟨Qw _,(bd q q hq.1 hq.2 hq.1 hq.2).2⟩,bd p q hp.1 hp.2 hq.1 hq.2⟩
theorem Zxj{p q:Int}(h:(decide (p=0)&&decide (q=0))=false):1≤p*p+q*q:=by
 have s1:=Qw p;have s2:=Qw q;rw[Bool.and_eq_false_iff] at h;rcases h with h|h
 ·have:=Int.mul_ne_zero (show p≠0 by simpa using h) (show p≠0 by simpa using h)
  omega
 ·have:=Int.mul_ne_zero (show q≠0 by simpa using h) (show q≠0 by simpa using h)
  omega
def Rf(p q:Int):Value:=if Wl p q then .tuple #[(Tm p q).v,(Tl p q).v,true] else .tuple #[Fr.none.v,Fr.none.v,false]
theorem Qs(re im den:Int)(w:World)(h1: -1000000000000000000≤re∧re≤1000000000000000000)(h2: -1000000000000000000≤im∧im≤1000000000000000000)(h3:1≤den∧den≤1000000000000000000):Calls prog 173 #[re,im,den] w (fun e w'=>e= .returned (frv (flow re im den))∧Ex w w'):=by
 have k1:=fun w=>Tf den 1 1000000000000000000 w
 have k2:=fun w=>Tf re (-1000000000000000000) 1000000000000000000 w
 have k3:=fun w=>Tf im (-1000000000000000000) 1000000000000000000 w
 have e1:Xw den 1 1000000000000000000=true:=by simp[Xw];omega
 have e2:Xw re (-1000000000000000000) 1000000000000000000=true:=by simp[Xw];omega
 have e3:Xw im (-1000000000000000000) 1000000000000000000=true:=by simp[Xw];omega
 rw[e1] at k1;rw[e2] at k2;rw[e3] at k3;have k4:=fun w=>Yc.opn (Fq re im den w (by omega) (by omega) (by omega))
 generalize flow re im den=r at k4 ⊢;obtain⟨⟨r1,r2,r3⟩,rk⟩:=r;simp only[frv,Fr.v] at k4 ⊢;clear e1 e2 e3;have K1:=Zz k1;have K2:=Zz k2;have K3:=Zz k3;have K4:=Zz k4;clear k1 k2 k3 k4;obtain⟨hS,hC⟩:=s0 w;go_in;go_wp2_with (first|((first|(with_reducible refine(K1.out _).mono ?_)|(with_reducible refine(K2.out _).mono ?_)|(with_reducible refine(K3.out _).mono ?_));rintro e wn ⟨rfl,rfl⟩)|((with_reducible apply Zo.see w;exact K4.out _);clear hS hC;intro wn hS hC;simp only[Zr,Zq,Zy] at hC));exact Yp (by simp[results,results173,go_sem,hC]) rfl
theorem Rh(p q:Int)(w:World):Calls prog 107 #[p,q] w (fun e w'=>e= .returned (Rf p q)∧Ex w w'):=by
 have k1:=fun w=>Tf p (-100) 100 w
 have k2:=fun w=>Tf q (-100) 100 w
 rcases h1:Xw p (-100) 100 with _|_
 ·have e:Wl p q=false:=by simp[Wl,h1]
  simp only[Rf,e,Bool.false_eq_true,if_false,Fr.none,Fr.v];clear e;rw[h1] at k1;clear h1;have K1:=Zz k1;have K2:=Zz k2;clear k1 k2;obtain⟨hS,hC⟩:=s0 w;go_in;go_wp2_with (((with_reducible refine(K1.out _).mono ?_);rintro e wn ⟨rfl,rfl⟩));exact Yp (by simp[results,results107,go_sem,hC]) rfl
 ·rcases h2:Xw q (-100) 100 with _|_
  ·have e:Wl p q=false:=by simp[Wl,h1,h2]
   simp only[Rf,e,Bool.false_eq_true,if_false,Fr.none,Fr.v];clear e;rw[h1] at k1;rw[h2] at k2;clear h1 h2;have K1:=Zz k1;have K2:=Zz k2;clear k1 k2;obtain⟨hS,hC⟩:=s0 w;go_in;go_wp2_with (((first|(with_reducible refine(K1.out _).mono ?_)|(with_reducible refine(K2.out _).mono ?_));rintro e wn ⟨rfl,rfl⟩));exact Yp (by simp[results,results107,go_sem,hC]) rfl
  ·rcases h3:(decide (p=0)&&decide (q=0)) with _|_
   ·have e:Wl p q=true:=by unfold Wl;rw[h1,h2,h3];rfl
    have hn:=Zxj h3;obtain⟨b1,b2,b3⟩:=Zpv h1 h2;have hp:=Wj h1;have hq:=Wj h2;have e4:2*p*q=2*(p*q):=Int.mul_assoc _ _ _;have k3:=fun w=>Qs (p*p-q*q) 0 (p*p+q*q) w (by omega) (by omega) (by omega)
    have k4:=fun w=>Qs (2*p*q) 0 (p*p+q*q) w (by rw[e4];omega) (by omega) (by omega)
    simp only[Rf,e,if_true,Tm,Tl];have m4: -20000≤2*p*q∧2*p*q≤20000:=by rw[e4];omega
    have hne:(decide (p=0)&&decide (q=0))=false:=h3;rw[h1] at k1;rw[h2] at k2;clear e e4 h1 h2 h3;generalize flow (p*p-q*q) 0 (p*p+q*q)=c at*;generalize flow (2*p*q) 0 (p*p+q*q)=s at*;obtain⟨⟨c1,c2,c3⟩,ck⟩:=c;obtain⟨⟨s1,s2,s3⟩,sk⟩:=s;simp only[frv,Fr.v] at k3 k4 ⊢;by_cases hp0:p=0
    ·subst hp0;have hq0:(q==0)=false:=by simpa using hne
     clear hne;have ex3:(2:Int)*0*q=0:=by simp
     rw[ex3] at k4;have ex1:(0:Int)*0=0:=rfl;rw[ex1] at k3 k4;simp only[Int.zero_add,Int.zero_sub] at k3 k4;clear ex1 ex3 m4 b1 b3;generalize ex2:q*q=x2 at*;have K1:=Zz k1;have K2:=Zz k2;have K3:=Zz k3;have K4:=Zz k4;clear k1 k2 k3 k4;obtain⟨hS,hC⟩:=s0 w;go_in;go_wp2_with (first|((first|(with_reducible refine(K1.out _).mono ?_)|(with_reducible refine(K2.out _).mono ?_));rintro e wn ⟨rfl,rfl⟩)|((with_reducible apply Zo.see w;first|exact K3.out _|exact K4.out _);clear hS hC;intro wn hS hC;simp only[Zr,Zq,Zy] at hC));go_region
     all_goals
      go_wp2;exact Yp (by simp[results,results107,go_sem,hC]) rfl
    ·have hp1:(p==0)=false:=by simpa using hp0
     clear hne hp0;generalize ex1:p*p=x1 at*;generalize ex2:q*q=x2 at*;generalize ex3:2*p*q=x3 at*;clear b3;have K1:=Zz k1;have K2:=Zz k2;have K3:=Zz k3;have K4:=Zz k4;clear k1 k2 k3 k4;obtain⟨hS,hC⟩:=s0 w;go_in;go_wp2_with (first|((first|(with_reducible refine(K1.out _).mono ?_)|(with_reducible refine(K2.out _).mono ?_));rintro e wn ⟨rfl,rfl⟩)|((with_reducible apply Zo.see w;first|exact K3.out _|exact K4.out _);clear hS hC;intro wn hS hC;simp only[Zr,Zq,Zy] at hC));go_region
     all_goals
      go_wp2;exact Yp (by simp[results,results107,go_sem,hC]) rfl
   ·have e:Wl p q=false:=by simp[Wl,h1,h2,h3]
    simp only[Rf,e,Bool.false_eq_true,if_false,Fr.none,Fr.v];clear e;rw[h1] at k1;rw[h2] at k2;rw[Bool.and_eq_true] at h3;obtain⟨h3,h4⟩:=h3;have hp:p=0:=of_decide_eq_true h3;have hq:q=0:=of_decide_eq_true h4;subst hp hq;clear h1 h2 h3 h4;have K1:=Zz k1;have K2:=Zz k2;clear k1 k2;obtain⟨hS,hC⟩:=s0 w;go_in;go_wp2_with (((first|(with_reducible refine(K1.out _).mono ?_)|(with_reducible refine(K2.out _).mono ?_));rintro e wn ⟨rfl,rfl⟩));exact Yp (by simp[results,results107,go_sem,hC]) rfl
theorem Sf(p q:Int)(w:World):Calls prog 94 #[p,q] w (fun e w'=>e= .returned (Rf p q)∧Ex w w'):=by
 have k1:=fun w=>Wu p (-100) 100 w
 have k2:=fun w=>Wu q (-100) 100 w
 rcases h1:Xw p (-100) 100 with _|_
 ·have e:Wl p q=false:=by simp[Wl,h1]
  simp only[Rf,e,Bool.false_eq_true,if_false,Fr.none,Fr.v];clear e;rw[h1] at k1;clear h1;have K1:=Zz k1;have K2:=Zz k2;clear k1 k2;obtain⟨hS,hC⟩:=s0 w;go_in;go_wp2_with (((with_reducible refine(K1.out _).mono ?_);rintro e wn ⟨rfl,rfl⟩));exact Yp (by simp[results,results94,go_sem,hC]) rfl
 ·rcases h2:Xw q (-100) 100 with _|_
  ·have e:Wl p q=false:=by simp[Wl,h1,h2]
   simp only[Rf,e,Bool.false_eq_true,if_false,Fr.none,Fr.v];clear e;rw[h1] at k1;rw[h2] at k2;clear h1 h2;have K1:=Zz k1;have K2:=Zz k2;clear k1 k2;obtain⟨hS,hC⟩:=s0 w;go_in;go_wp2_with (((first|(with_reducible refine(K1.out _).mono ?_)|(with_reducible refine(K2.out _).mono ?_));rintro e wn ⟨rfl,rfl⟩));exact Yp (by simp[results,results94,go_sem,hC]) rfl
  ·rcases h3:(decide (p=0)&&decide (q=0)) with _|_
   ·have e:Wl p q=true:=by unfold Wl;rw[h1,h2,h3];rfl
    have hn:=Zxj h3;obtain⟨b1,b2,b3⟩:=Zpv h1 h2;have hp:=Wj h1;have hq:=Wj h2;have e4:2*p*q=2*(p*q):=Int.mul_assoc _ _ _;have k3:=fun w=>Yc.opn (Uv (p*p-q*q) 0 (p*p+q*q) w (by omega) (by omega) (by omega))
    have k4:=fun w=>Yc.opn (Uv (2*p*q) 0 (p*p+q*q) w (by rw[e4];omega) (by omega) (by omega))
    simp only[Rf,e,if_true,Tm,Tl];have m4: -20000≤2*p*q∧2*p*q≤20000:=by rw[e4];omega
    have hne:(decide (p=0)&&decide (q=0))=false:=h3;rw[h1] at k1;rw[h2] at k2;clear e e4 h1 h2 h3;generalize flow (p*p-q*q) 0 (p*p+q*q)=c at*;generalize flow (2*p*q) 0 (p*p+q*q)=s at*;obtain⟨⟨c1,c2,c3⟩,ck⟩:=c;obtain⟨⟨s1,s2,s3⟩,sk⟩:=s;simp only[frv,Fr.v] at k3 k4 ⊢;by_cases hp0:p=0
    ·subst hp0;have hq0:(q==0)=false:=by simpa using hne
     clear hne;have ex3:(2:Int)*0*q=0:=by simp
     rw[ex3] at k4;have ex1:(0:Int)*0=0:=rfl;rw[ex1] at k3 k4;simp only[Int.zero_add,Int.zero_sub] at k3 k4;clear ex1 ex3 m4 b1 b3;generalize ex2:q*q=x2 at*;have K1:=Zz k1;have K2:=Zz k2;have K3:=Zz k3;have K4:=Zz k4;clear k1 k2 k3 k4;obtain⟨hS,hC⟩:=s0 w;go_in;go_wp2_with (first|((first|(with_reducible refine(K1.out _).mono ?_)|(with_reducible refine(K2.out _).mono ?_));rintro e wn ⟨rfl,rfl⟩)|((with_reducible apply Zo.see w;first|exact K3.out _|exact K4.out _);clear hS hC;intro wn hS hC;simp only[Zr,Zq,Zy] at hC));go_region
     all_goals
      go_wp2;exact Yp (by simp[results,results94,go_sem,hC]) rfl
    ·have hp1:(p==0)=false:=by simpa using hp0
     clear hne hp0;generalize ex1:p*p=x1 at*;generalize ex2:q*q=x2 at*;generalize ex3:2*p*q=x3 at*;clear b3;have K1:=Zz k1;have K2:=Zz k2;have K3:=Zz k3;have K4:=Zz k4;clear k1 k2 k3 k4;obtain⟨hS,hC⟩:=s0 w;go_in;go_wp2_with (first|((first|(with_reducible refine(K1.out _).mono ?_)|(with_reducible refine(K2.out _).mono ?_));rintro e wn ⟨rfl,rfl⟩)|((with_reducible apply Zo.see w;first|exact K3.out _|exact K4.out _);clear hS hC;intro wn hS hC;simp only[Zr,Zq,Zy] at hC));go_region
     all_goals
      go_wp2;exact Yp (by simp[results,results94,go_sem,hC]) rfl
   ·have e:Wl p q=false:=by simp[Wl,h1,h2,h3]
    simp only[Rf,e,Bool.false_eq_true,if_false,Fr.none,Fr.v];clear e;rw[h1] at k1;rw[h2] at k2;rw[Bool.and_eq_true] at h3;obtain⟨h3,h4⟩:=h3;have hp:p=0:=of_decide_eq_true h3;have hq:q=0:=of_decide_eq_true h4;subst hp hq;clear h1 h2 h3 h4;have K1:=Zz k1;have K2:=Zz k2;clear k1 k2;obtain⟨hS,hC⟩:=s0 w;go_in;go_wp2_with (((first|(with_reducible refine(K1.out _).mono ?_)|(with_reducible refine(K2.out _).mono ?_));rintro e wn ⟨rfl,rfl⟩));exact Yp (by simp[results,results94,go_sem,hC]) rfl
end
section
open Go.RowKit

attribute [local go_sem] Zg Zf
def Ua(a:Fr)(over:Int)(im:Bool):Fr×Bool:=flow (if im then a.im else a.re) 0 (max 1 a.den*over)
theorem Zue(bs:Nat)(ok:Bool)(a b:Fr)(w:World)(hb:Box w bs 155 #[ok]):
  Calls prog 176 #[.pointer (some ⟨bs,0,none⟩),a.v,b.v] w (Vw bs ok w (Yr a b)):=by
 have k1:=fun w=>Yc.opn (Td b w)
 have ho:∀x:Bool,(x&&(Yq b).2&&(Yr a b).2)=(x&&(Yr a b).2):=fun x=>by
  have h:=Zuf a b (!x);revert h;cases x<;>cases (Yq b).2<;>cases (Yr a b).2<;>simp
 unfold Yr at ho ⊢;have k2:=fun w=>Yc.opn (Vy a (Yq b).1 w)
 rcases hm:Yq b with⟨⟨m1,m2,m3⟩,mk⟩;rw[hm] at k1 k2 ho;simp only at k1 k2 ho ⊢;rcases ht:Zk a ⟨m1,m2,m3⟩ with⟨⟨t1,t2,t3⟩,tk⟩;rw[ht] at k2 ho;simp only at ho;obtain⟨a1,a2,a3⟩:=a;obtain⟨b1,b2,b3⟩:=b;unfold Vw;simp only[frv,Fr.v] at k1 k2 ⊢;rw[←ho];clear ho hm ht;have K1:=Zz k1;have K2:=Zz k2;clear k1 k2;rcases ok with _|_
 ·rcases mk with _|_
  ·rcases tk with _|_
   ·have hS:=Zh.init hb;have hC:=hS.rd;simp only[Zr,Zq] at hC;have hbl:=hb.lt;have m2:w.heap.size≠bs:=Nat.ne_of_gt hb.lt;go_in;go_wp2_with (first|(go_at_call 171;(with_reducible apply Zh.see w;exact K1.out _);clear hS hC;intro wn hS hC;(try simp only[Zy] at hS hC);simp only[Zr,Zq] at hC)|(go_at_call 108;(with_reducible apply Zh.see w;exact K2.out _);clear hS hC;intro wn hS hC;(try simp only[Zy] at hS hC);simp only[Zr,Zq] at hC));have hm:=hS.sm;have hs:=hS.sum;have hs2:Box (World.setCell _ ⟨bs,0,none⟩ (.bool false)) bs 155 #[false]:=hs.set_ 0 (.bool false);have hm2:=hm.trans (SmO.set hs 0 (.bool false));refine Zu ?_ rfl ⟨rfl,?_,(show Box _ bs 155 #[false] from ?_)⟩
    ·simp[results,results176,go_sem,hC]
    ·repeat' (with_reducible first
      |exact hm2
      |refine SmO.setNew ?_ (by simp<;>omega) _
      |refine SmO.alloc ?_ _)
    ·repeat' (with_reducible first
      |exact hs2
      |refine Box.far ?_ (by simp<;>omega) _
      |refine Box.alloc ?_ _)
   ·have hS:=Zh.init hb;have hC:=hS.rd;simp only[Zr,Zq] at hC;have hbl:=hb.lt;have m2:w.heap.size≠bs:=Nat.ne_of_gt hb.lt;go_in;go_wp2_with (first|(go_at_call 171;(with_reducible apply Zh.see w;exact K1.out _);clear hS hC;intro wn hS hC;(try simp only[Zy] at hS hC);simp only[Zr,Zq] at hC)|(go_at_call 108;(with_reducible apply Zh.see w;exact K2.out _);clear hS hC;intro wn hS hC;(try simp only[Zy] at hS hC);simp only[Zr,Zq] at hC));have hm:=hS.sm;have hs:=hS.sum;have hs2:Box (World.setCell _ ⟨bs,0,none⟩ (.bool false)) bs 155 #[false]:=hs.set_ 0 (.bool false);have hm2:=hm.trans (SmO.set hs 0 (.bool false));refine Zu ?_ rfl ⟨rfl,?_,(show Box _ bs 155 #[false] from ?_)⟩
    ·simp[results,results176,go_sem,hC]
    ·repeat' (with_reducible first
      |exact hm2
      |refine SmO.setNew ?_ (by simp<;>omega) _
      |refine SmO.alloc ?_ _)
    ·repeat' (with_reducible first
      |exact hs2
      |refine Box.far ?_ (by simp<;>omega) _
      |refine Box.alloc ?_ _)
  ·rcases tk with _|_
   ·have hS:=Zh.init hb;have hC:=hS.rd;simp only[Zr,Zq] at hC;have hbl:=hb.lt;have m2:w.heap.size≠bs:=Nat.ne_of_gt hb.lt;go_in;go_wp2_with (first|(go_at_call 171;(with_reducible apply Zh.see w;exact K1.out _);clear hS hC;intro wn hS hC;(try simp only[Zy] at hS hC);simp only[Zr,Zq] at hC)|(go_at_call 108;(with_reducible apply Zh.see w;exact K2.out _);clear hS hC;intro wn hS hC;(try simp only[Zy] at hS hC);simp only[Zr,Zq] at hC));have hm:=hS.sm;have hs:=hS.sum;have hs2:Box (World.setCell _ ⟨bs,0,none⟩ (.bool false)) bs 155 #[false]:=hs.set_ 0 (.bool false);have hm2:=hm.trans (SmO.set hs 0 (.bool false));refine Zu ?_ rfl ⟨rfl,?_,(show Box _ bs 155 #[false] from ?_)⟩
    ·simp[results,results176,go_sem,hC]
    ·repeat' (with_reducible first
      |exact hm2
      |refine SmO.setNew ?_ (by simp<;>omega) _
      |refine SmO.alloc ?_ _)
    ·repeat' (with_reducible first
      |exact hs2
      |refine Box.far ?_ (by simp<;>omega) _
      |refine Box.alloc ?_ _)
   ·have hS:=Zh.init hb;have hC:=hS.rd;simp only[Zr,Zq] at hC;have hbl:=hb.lt;have m2:w.heap.size≠bs:=Nat.ne_of_gt hb.lt;go_in;go_wp2_with (first|(go_at_call 171;(with_reducible apply Zh.see w;exact K1.out _);clear hS hC;intro wn hS hC;(try simp only[Zy] at hS hC);simp only[Zr,Zq] at hC)|(go_at_call 108;(with_reducible apply Zh.see w;exact K2.out _);clear hS hC;intro wn hS hC;(try simp only[Zy] at hS hC);simp only[Zr,Zq] at hC));have hm:=hS.sm;have hs:=hS.sum;have hs2:Box (World.setCell _ ⟨bs,0,none⟩ (.bool false)) bs 155 #[false]:=hs.set_ 0 (.bool false);have hm2:=hm.trans (SmO.set hs 0 (.bool false));refine Zu ?_ rfl ⟨rfl,?_,(show Box _ bs 155 #[false] from ?_)⟩
    ·simp[results,results176,go_sem,hC]
    ·repeat' (with_reducible first
      |exact hm2
      |refine SmO.setNew ?_ (by simp<;>omega) _
      |refine SmO.alloc ?_ _)
    ·repeat' (with_reducible first
      |exact hs2
      |refine Box.far ?_ (by simp<;>omega) _
      |refine Box.alloc ?_ _)
 ·rcases mk with _|_
  ·rcases tk with _|_
   ·have hS:=Zh.init hb;have hC:=hS.rd;simp only[Zr,Zq] at hC;have hbl:=hb.lt;have m2:w.heap.size≠bs:=Nat.ne_of_gt hb.lt;go_in;go_wp2_with (first|(go_at_call 171;(with_reducible apply Zh.see w;exact K1.out _);clear hS hC;intro wn hS hC;(try simp only[Zy] at hS hC);simp only[Zr,Zq] at hC)|(go_at_call 108;(with_reducible apply Zh.see w;exact K2.out _);clear hS hC;intro wn hS hC;(try simp only[Zy] at hS hC);simp only[Zr,Zq] at hC));have hm:=hS.sm;have hs:=hS.sum;have hs2:Box (World.setCell _ ⟨bs,0,none⟩ (.bool false)) bs 155 #[false]:=hs.set_ 0 (.bool false);have hm2:=hm.trans (SmO.set hs 0 (.bool false));refine Zu ?_ rfl ⟨rfl,?_,(show Box _ bs 155 #[false] from ?_)⟩
    ·simp[results,results176,go_sem,hC]
    ·repeat' (with_reducible first
      |exact hm2
      |refine SmO.setNew ?_ (by simp<;>omega) _
      |refine SmO.alloc ?_ _)
    ·repeat' (with_reducible first
      |exact hs2
      |refine Box.far ?_ (by simp<;>omega) _
      |refine Box.alloc ?_ _)
   ·have hS:=Zh.init hb;have hC:=hS.rd;simp only[Zr,Zq] at hC;have hbl:=hb.lt;have m2:w.heap.size≠bs:=Nat.ne_of_gt hb.lt;go_in;go_wp2_with (first|(go_at_call 171;(with_reducible apply Zh.see w;exact K1.out _);clear hS hC;intro wn hS hC;(try simp only[Zy] at hS hC);simp only[Zr,Zq] at hC)|(go_at_call 108;(with_reducible apply Zh.see w;exact K2.out _);clear hS hC;intro wn hS hC;(try simp only[Zy] at hS hC);simp only[Zr,Zq] at hC));have hm:=hS.sm;have hs:=hS.sum;have hs2:Box (World.setCell _ ⟨bs,0,none⟩ (.bool false)) bs 155 #[false]:=hs.set_ 0 (.bool false);have hm2:=hm.trans (SmO.set hs 0 (.bool false));refine Zu ?_ rfl ⟨rfl,?_,(show Box _ bs 155 #[false] from ?_)⟩
    ·simp[results,results176,go_sem,hC]
    ·repeat' (with_reducible first
      |exact hm2
      |refine SmO.setNew ?_ (by simp<;>omega) _
      |refine SmO.alloc ?_ _)
    ·repeat' (with_reducible first
      |exact hs2
      |refine Box.far ?_ (by simp<;>omega) _
      |refine Box.alloc ?_ _)
  ·rcases tk with _|_
   ·have hS:=Zh.init hb;have hC:=hS.rd;simp only[Zr,Zq] at hC;have hbl:=hb.lt;have m2:w.heap.size≠bs:=Nat.ne_of_gt hb.lt;go_in;go_wp2_with (first|(go_at_call 171;(with_reducible apply Zh.see w;exact K1.out _);clear hS hC;intro wn hS hC;(try simp only[Zy] at hS hC);simp only[Zr,Zq] at hC)|(go_at_call 108;(with_reducible apply Zh.see w;exact K2.out _);clear hS hC;intro wn hS hC;(try simp only[Zy] at hS hC);simp only[Zr,Zq] at hC));have hm:=hS.sm;have hs:=hS.sum;have hs2:Box (World.setCell _ ⟨bs,0,none⟩ (.bool false)) bs 155 #[false]:=hs.set_ 0 (.bool false);have hm2:=hm.trans (SmO.set hs 0 (.bool false));refine Zu ?_ rfl ⟨rfl,?_,(show Box _ bs 155 #[false] from ?_)⟩
    ·simp[results,results176,go_sem,hC]
    ·repeat' (with_reducible first
      |exact hm2
      |refine SmO.setNew ?_ (by simp<;>omega) _
      |refine SmO.alloc ?_ _)
    ·repeat' (with_reducible first
      |exact hs2
      |refine Box.far ?_ (by simp<;>omega) _
      |refine Box.alloc ?_ _)
   ·have hS:=Zh.init hb;have hC:=hS.rd;simp only[Zr,Zq] at hC;have hbl:=hb.lt;have m2:w.heap.size≠bs:=Nat.ne_of_gt hb.lt;go_in;go_wp2_with (first|(go_at_call 171;(with_reducible apply Zh.see w;exact K1.out _);clear hS hC;intro wn hS hC;(try simp only[Zy] at hS hC);simp only[Zr,Zq] at hC)|(go_at_call 108;(with_reducible apply Zh.see w;exact K2.out _);clear hS hC;intro wn hS hC;(try simp only[Zy] at hS hC);simp only[Zr,Zq] at hC));have hm:=hS.sm;have hs:=hS.sum;have hs2:Box (World.setCell _ ⟨bs,0,none⟩ (.bool true)) bs 155 #[true]:=hs.set_ 0 (.bool true);have hm2:=hm.trans (SmO.set hs 0 (.bool true));refine Zu ?_ rfl ⟨rfl,?_,(show Box _ bs 155 #[true] from ?_)⟩
    ·simp[results,results176,go_sem,hC]
    ·repeat' (with_reducible first
      |exact hm2
      |refine SmO.setNew ?_ (by simp<;>omega) _
      |refine SmO.alloc ?_ _)
    ·repeat' (with_reducible first
      |exact hs2
      |refine Box.far ?_ (by simp<;>omega) _
      |refine Box.alloc ?_ _)
theorem Zpu(bs:Nat)(ok:Bool)(a:Fr)(s:Int)(b:Fr)(w:World)(hb:Box w bs 155 #[ok])(hsg:s=1∨s= -1):
  Calls prog 177 #[.pointer (some ⟨bs,0,none⟩),a.v,s,b.v] w (Vw bs ok w (Xr s a b)):=by
 have k1:=fun w=>Yc.opn (Zqe a b s hsg w)
 rcases ht:Xr s a b with⟨⟨t1,t2,t3⟩,tk⟩;rw[ht] at k1;obtain⟨a1,a2,a3⟩:=a;obtain⟨b1,b2,b3⟩:=b;unfold Vw;simp only[frv,Fr.v] at k1 ⊢;clear ht;have K1:=Zz k1;clear k1;rcases ok with _|_
 ·rcases tk with _|_
  ·have hS:=Zh.init hb;have hC:=hS.rd;simp only[Zr,Zq] at hC;have hbl:=hb.lt;have m2:w.heap.size≠bs:=Nat.ne_of_gt hb.lt;go_in;go_wp2_with (first|(go_at_call 229;(with_reducible apply Zh.see w;exact K1.out _);clear hS hC;intro wn hS hC;(try simp only[Zy] at hS hC);simp only[Zr,Zq] at hC));have hm:=hS.sm;have hs:=hS.sum;have hs2:Box (World.setCell _ ⟨bs,0,none⟩ (.bool false)) bs 155 #[false]:=hs.set_ 0 (.bool false);have hm2:=hm.trans (SmO.set hs 0 (.bool false));refine Zu ?_ rfl ⟨rfl,?_,(show Box _ bs 155 #[false] from ?_)⟩
   ·simp[results,results177,go_sem,hC]
   ·repeat' (with_reducible first
     |exact hm2
     |refine SmO.setNew ?_ (by simp<;>omega) _
     |refine SmO.alloc ?_ _)
   ·repeat' (with_reducible first
     |exact hs2
     |refine Box.far ?_ (by simp<;>omega) _
     |refine Box.alloc ?_ _)
  ·have hS:=Zh.init hb;have hC:=hS.rd;simp only[Zr,Zq] at hC;have hbl:=hb.lt;have m2:w.heap.size≠bs:=Nat.ne_of_gt hb.lt;go_in;go_wp2_with (first|(go_at_call 229;(with_reducible apply Zh.see w;exact K1.out _);clear hS hC;intro wn hS hC;(try simp only[Zy] at hS hC);simp only[Zr,Zq] at hC));have hm:=hS.sm;have hs:=hS.sum;have hs2:Box (World.setCell _ ⟨bs,0,none⟩ (.bool false)) bs 155 #[false]:=hs.set_ 0 (.bool false);have hm2:=hm.trans (SmO.set hs 0 (.bool false));refine Zu ?_ rfl ⟨rfl,?_,(show Box _ bs 155 #[false] from ?_)⟩
   ·simp[results,results177,go_sem,hC]
   ·repeat' (with_reducible first
     |exact hm2
     |refine SmO.setNew ?_ (by simp<;>omega) _
     |refine SmO.alloc ?_ _)
   ·repeat' (with_reducible first
     |exact hs2
     |refine Box.far ?_ (by simp<;>omega) _
     |refine Box.alloc ?_ _)
 ·rcases tk with _|_
  ·have hS:=Zh.init hb;have hC:=hS.rd;simp only[Zr,Zq] at hC;have hbl:=hb.lt;have m2:w.heap.size≠bs:=Nat.ne_of_gt hb.lt;go_in;go_wp2_with (first|(go_at_call 229;(with_reducible apply Zh.see w;exact K1.out _);clear hS hC;intro wn hS hC;(try simp only[Zy] at hS hC);simp only[Zr,Zq] at hC));have hm:=hS.sm;have hs:=hS.sum;have hs2:Box (World.setCell _ ⟨bs,0,none⟩ (.bool false)) bs 155 #[false]:=hs.set_ 0 (.bool false);have hm2:=hm.trans (SmO.set hs 0 (.bool false));refine Zu ?_ rfl ⟨rfl,?_,(show Box _ bs 155 #[false] from ?_)⟩
   ·simp[results,results177,go_sem,hC]
   ·repeat' (with_reducible first
     |exact hm2
     |refine SmO.setNew ?_ (by simp<;>omega) _
     |refine SmO.alloc ?_ _)
   ·repeat' (with_reducible first
     |exact hs2
     |refine Box.far ?_ (by simp<;>omega) _
     |refine Box.alloc ?_ _)
  ·have hS:=Zh.init hb;have hC:=hS.rd;simp only[Zr,Zq] at hC;have hbl:=hb.lt;have m2:w.heap.size≠bs:=Nat.ne_of_gt hb.lt;go_in;go_wp2_with (first|(go_at_call 229;(with_reducible apply Zh.see w;exact K1.out _);clear hS hC;intro wn hS hC;(try simp only[Zy] at hS hC);simp only[Zr,Zq] at hC));have hm:=hS.sm;have hs:=hS.sum;have hs2:Box (World.setCell _ ⟨bs,0,none⟩ (.bool true)) bs 155 #[true]:=hs.set_ 0 (.bool true);have hm2:=hm.trans (SmO.set hs 0 (.bool true));refine Zu ?_ rfl ⟨rfl,?_,(show Box _ bs 155 #[true] from ?_)⟩
   ·simp[results,results177,go_sem,hC]
   ·repeat' (with_reducible first
     |exact hm2
     |refine SmO.setNew ?_ (by simp<;>omega) _
     |refine SmO.alloc ?_ _)
   ·repeat' (with_reducible first
     |exact hs2
     |refine Box.far ?_ (by simp<;>omega) _
     |refine Box.alloc ?_ _)
theorem Zud(bs:Nat)(ok:Bool)(a:Fr)(w:World)(hb:Box w bs 155 #[ok])(hbd: -2000000000≤a.re∧a.re≤2000000000∧ -2000000000≤a.im∧a.im≤2000000000∧0≤a.den∧a.den≤2000000000):
  Calls prog 178 #[.pointer (some ⟨bs,0,none⟩),a.v, .int .i64 2,false] w (Vw bs ok w (Ua a 2 false)):=by
 obtain⟨h1,h2,h3,h4,h5,h6⟩:=hbd;obtain⟨a1,a2,a3⟩:=a;simp only at h1 h2 h3 h4 h5 h6;obtain⟨M,eM,l1,u1⟩:∃M,(if 1<a3 then a3 else 1)=M∧1≤M∧M≤2000000000:=⟨_,rfl,by split<;>omega,by split<;>omega⟩
 have eN:max 1 a3=M:=by rw[←eM];split<;>omega
 unfold Ua;simp only;rw[eN];have w1:=Zt (M*1) (by omega);have w2:=Zt (M*2) (by omega);have w3:=Zt M (by omega);simp only[Bool.false_eq_true,if_true,if_false];have k1:=fun w=>Yc.opn (Qs a1 0 (M*2) w (by omega) (by omega) (by omega))
 rcases ht:flow a1 0 (M*2) with⟨⟨t1,t2,t3⟩,tk⟩;rw[ht] at k1;unfold Vw;simp only[frv,Fr.v] at k1 ⊢;try simp only[Int.mul_one] at k1
 clear ht h1 h2 h3 h4 h5 h6 eN;have K1:=Zz k1;clear k1;rcases ok with _|_
 ·rcases tk with _|_
  ·have hS:=Zh.init hb;have hC:=hS.rd;simp only[Zr,Zq] at hC;have hbl:=hb.lt;have m2:w.heap.size≠bs:=Nat.ne_of_gt hb.lt;go_in;go_wp2_with (first|(go_at_call 173;(with_reducible apply Zh.see w;exact K1.out _);clear hS hC;intro wn hS hC;(try simp only[Zy] at hS hC);simp only[Zr,Zq] at hC));have hm:=hS.sm;have hs:=hS.sum;have hs2:Box (World.setCell _ ⟨bs,0,none⟩ (.bool false)) bs 155 #[false]:=hs.set_ 0 (.bool false);have hm2:=hm.trans (SmO.set hs 0 (.bool false));refine Zu ?_ rfl ⟨rfl,?_,(show Box _ bs 155 #[false] from ?_)⟩
   ·simp[results,results178,go_sem,hC]
   ·repeat' (with_reducible first
     |exact hm2
     |refine SmO.setNew ?_ (by simp<;>omega) _
     |refine SmO.alloc ?_ _)
   ·repeat' (with_reducible first
     |exact hs2
     |refine Box.far ?_ (by simp<;>omega) _
     |refine Box.alloc ?_ _)
  ·have hS:=Zh.init hb;have hC:=hS.rd;simp only[Zr,Zq] at hC;have hbl:=hb.lt;have m2:w.heap.size≠bs:=Nat.ne_of_gt hb.lt;go_in;go_wp2_with (first|(go_at_call 173;(with_reducible apply Zh.see w;exact K1.out _);clear hS hC;intro wn hS hC;(try simp only[Zy] at hS hC);simp only[Zr,Zq] at hC));have hm:=hS.sm;have hs:=hS.sum;have hs2:Box (World.setCell _ ⟨bs,0,none⟩ (.bool false)) bs 155 #[false]:=hs.set_ 0 (.bool false);have hm2:=hm.trans (SmO.set hs 0 (.bool false));refine Zu ?_ rfl ⟨rfl,?_,(show Box _ bs 155 #[false] from ?_)⟩
   ·simp[results,results178,go_sem,hC]
   ·repeat' (with_reducible first
     |exact hm2
     |refine SmO.setNew ?_ (by simp<;>omega) _
     |refine SmO.alloc ?_ _)
   ·repeat' (with_reducible first
     |exact hs2
     |refine Box.far ?_ (by simp<;>omega) _
     |refine Box.alloc ?_ _)
 ·rcases tk with _|_
  ·have hS:=Zh.init hb;have hC:=hS.rd;simp only[Zr,Zq] at hC;have hbl:=hb.lt;have m2:w.heap.size≠bs:=Nat.ne_of_gt hb.lt;go_in;go_wp2_with (first|(go_at_call 173;(with_reducible apply Zh.see w;exact K1.out _);clear hS hC;intro wn hS hC;(try simp only[Zy] at hS hC);simp only[Zr,Zq] at hC));have hm:=hS.sm;have hs:=hS.sum;have hs2:Box (World.setCell _ ⟨bs,0,none⟩ (.bool false)) bs 155 #[false]:=hs.set_ 0 (.bool false);have hm2:=hm.trans (SmO.set hs 0 (.bool false));refine Zu ?_ rfl ⟨rfl,?_,(show Box _ bs 155 #[false] from ?_)⟩
   ·simp[results,results178,go_sem,hC]
   ·repeat' (with_reducible first
     |exact hm2
     |refine SmO.setNew ?_ (by simp<;>omega) _
     |refine SmO.alloc ?_ _)
   ·repeat' (with_reducible first
     |exact hs2
     |refine Box.far ?_ (by simp<;>omega) _
     |refine Box.alloc ?_ _)
  ·have hS:=Zh.init hb;have hC:=hS.rd;simp only[Zr,Zq] at hC;have hbl:=hb.lt;have m2:w.heap.size≠bs:=Nat.ne_of_gt hb.lt;go_in;go_wp2_with (first|(go_at_call 173;(with_reducible apply Zh.see w;exact K1.out _);clear hS hC;intro wn hS hC;(try simp only[Zy] at hS hC);simp only[Zr,Zq] at hC));have hm:=hS.sm;have hs:=hS.sum;have hs2:Box (World.setCell _ ⟨bs,0,none⟩ (.bool true)) bs 155 #[true]:=hs.set_ 0 (.bool true);have hm2:=hm.trans (SmO.set hs 0 (.bool true));refine Zu ?_ rfl ⟨rfl,?_,(show Box _ bs 155 #[true] from ?_)⟩
   ·simp[results,results178,go_sem,hC]
   ·repeat' (with_reducible first
     |exact hm2
     |refine SmO.setNew ?_ (by simp<;>omega) _
     |refine SmO.alloc ?_ _)
   ·repeat' (with_reducible first
     |exact hs2
     |refine Box.far ?_ (by simp<;>omega) _
     |refine Box.alloc ?_ _)
theorem Zuc(bs:Nat)(ok:Bool)(a:Fr)(w:World)(hb:Box w bs 155 #[ok])(hbd: -2000000000≤a.re∧a.re≤2000000000∧ -2000000000≤a.im∧a.im≤2000000000∧0≤a.den∧a.den≤2000000000):
  Calls prog 178 #[.pointer (some ⟨bs,0,none⟩),a.v, .int .i64 1,false] w (Vw bs ok w (Ua a 1 false)):=by
 obtain⟨h1,h2,h3,h4,h5,h6⟩:=hbd;obtain⟨a1,a2,a3⟩:=a;simp only at h1 h2 h3 h4 h5 h6;obtain⟨M,eM,l1,u1⟩:∃M,(if 1<a3 then a3 else 1)=M∧1≤M∧M≤2000000000:=⟨_,rfl,by split<;>omega,by split<;>omega⟩
 have eN:max 1 a3=M:=by rw[←eM];split<;>omega
 unfold Ua;simp only;rw[eN];have w1:=Zt (M*1) (by omega);have w2:=Zt (M*2) (by omega);have w3:=Zt M (by omega);simp only[Bool.false_eq_true,if_true,if_false];have k1:=fun w=>Yc.opn (Qs a1 0 (M*1) w (by omega) (by omega) (by omega))
 rcases ht:flow a1 0 (M*1) with⟨⟨t1,t2,t3⟩,tk⟩;rw[ht] at k1;unfold Vw;simp only[frv,Fr.v] at k1 ⊢;try simp only[Int.mul_one] at k1
 clear ht h1 h2 h3 h4 h5 h6 eN;have K1:=Zz k1;clear k1;rcases ok with _|_
 ·rcases tk with _|_
  ·have hS:=Zh.init hb;have hC:=hS.rd;simp only[Zr,Zq] at hC;have hbl:=hb.lt;have m2:w.heap.size≠bs:=Nat.ne_of_gt hb.lt;go_in;go_wp2_with (first|(go_at_call 173;(with_reducible apply Zh.see w;exact K1.out _);clear hS hC;intro wn hS hC;(try simp only[Zy] at hS hC);simp only[Zr,Zq] at hC));have hm:=hS.sm;have hs:=hS.sum;have hs2:Box (World.setCell _ ⟨bs,0,none⟩ (.bool false)) bs 155 #[false]:=hs.set_ 0 (.bool false);have hm2:=hm.trans (SmO.set hs 0 (.bool false));refine Zu ?_ rfl ⟨rfl,?_,(show Box _ bs 155 #[false] from ?_)⟩
   ·simp[results,results178,go_sem,hC]
   ·repeat' (with_reducible first
     |exact hm2
     |refine SmO.setNew ?_ (by simp<;>omega) _
     |refine SmO.alloc ?_ _)
   ·repeat' (with_reducible first
     |exact hs2
     |refine Box.far ?_ (by simp<;>omega) _
     |refine Box.alloc ?_ _)
  ·have hS:=Zh.init hb;have hC:=hS.rd;simp only[Zr,Zq] at hC;have hbl:=hb.lt;have m2:w.heap.size≠bs:=Nat.ne_of_gt hb.lt;go_in;go_wp2_with (first|(go_at_call 173;(with_reducible apply Zh.see w;exact K1.out _);clear hS hC;intro wn hS hC;(try simp only[Zy] at hS hC);simp only[Zr,Zq] at hC));have hm:=hS.sm;have hs:=hS.sum;have hs2:Box (World.setCell _ ⟨bs,0,none⟩ (.bool false)) bs 155 #[false]:=hs.set_ 0 (.bool false);have hm2:=hm.trans (SmO.set hs 0 (.bool false));refine Zu ?_ rfl ⟨rfl,?_,(show Box _ bs 155 #[false] from ?_)⟩
   ·simp[results,results178,go_sem,hC]
   ·repeat' (with_reducible first
     |exact hm2
     |refine SmO.setNew ?_ (by simp<;>omega) _
     |refine SmO.alloc ?_ _)
   ·repeat' (with_reducible first
     |exact hs2
     |refine Box.far ?_ (by simp<;>omega) _
     |refine Box.alloc ?_ _)
 ·rcases tk with _|_
  ·have hS:=Zh.init hb;have hC:=hS.rd;simp only[Zr,Zq] at hC;have hbl:=hb.lt;have m2:w.heap.size≠bs:=Nat.ne_of_gt hb.lt;go_in;go_wp2_with (first|(go_at_call 173;(with_reducible apply Zh.see w;exact K1.out _);clear hS hC;intro wn hS hC;(try simp only[Zy] at hS hC);simp only[Zr,Zq] at hC));have hm:=hS.sm;have hs:=hS.sum;have hs2:Box (World.setCell _ ⟨bs,0,none⟩ (.bool false)) bs 155 #[false]:=hs.set_ 0 (.bool false);have hm2:=hm.trans (SmO.set hs 0 (.bool false));refine Zu ?_ rfl ⟨rfl,?_,(show Box _ bs 155 #[false] from ?_)⟩
   ·simp[results,results178,go_sem,hC]
   ·repeat' (with_reducible first
     |exact hm2
     |refine SmO.setNew ?_ (by simp<;>omega) _
     |refine SmO.alloc ?_ _)
   ·repeat' (with_reducible first
     |exact hs2
     |refine Box.far ?_ (by simp<;>omega) _
     |refine Box.alloc ?_ _)
  ·have hS:=Zh.init hb;have hC:=hS.rd;simp only[Zr,Zq] at hC;have hbl:=hb.lt;have m2:w.heap.size≠bs:=Nat.ne_of_gt hb.lt;go_in;go_wp2_with (first|(go_at_call 173;(with_reducible apply Zh.see w;exact K1.out _);clear hS hC;intro wn hS hC;(try simp only[Zy] at hS hC);simp only[Zr,Zq] at hC));have hm:=hS.sm;have hs:=hS.sum;have hs2:Box (World.setCell _ ⟨bs,0,none⟩ (.bool true)) bs 155 #[true]:=hs.set_ 0 (.bool true);have hm2:=hm.trans (SmO.set hs 0 (.bool true));refine Zu ?_ rfl ⟨rfl,?_,(show Box _ bs 155 #[true] from ?_)⟩
   ·simp[results,results178,go_sem,hC]
   ·repeat' (with_reducible first
     |exact hm2
     |refine SmO.setNew ?_ (by simp<;>omega) _
     |refine SmO.alloc ?_ _)
   ·repeat' (with_reducible first
     |exact hs2
     |refine Box.far ?_ (by simp<;>omega) _
     |refine Box.alloc ?_ _)
theorem Zub(bs:Nat)(ok:Bool)(a:Fr)(w:World)(hb:Box w bs 155 #[ok])(hbd: -2000000000≤a.re∧a.re≤2000000000∧ -2000000000≤a.im∧a.im≤2000000000∧0≤a.den∧a.den≤2000000000):
  Calls prog 178 #[.pointer (some ⟨bs,0,none⟩),a.v, .int .i64 1,true] w (Vw bs ok w (Ua a 1 true)):=by
 obtain⟨h1,h2,h3,h4,h5,h6⟩:=hbd;obtain⟨a1,a2,a3⟩:=a;simp only at h1 h2 h3 h4 h5 h6;obtain⟨M,eM,l1,u1⟩:∃M,(if 1<a3 then a3 else 1)=M∧1≤M∧M≤2000000000:=⟨_,rfl,by split<;>omega,by split<;>omega⟩
 have eN:max 1 a3=M:=by rw[←eM];split<;>omega
 unfold Ua;simp only;rw[eN];have w1:=Zt (M*1) (by omega);have w2:=Zt (M*2) (by omega);have w3:=Zt M (by omega);simp only[if_true];have k1:=fun w=>Yc.opn (Qs a2 0 (M*1) w (by omega) (by omega) (by omega))
 rcases ht:flow a2 0 (M*1) with⟨⟨t1,t2,t3⟩,tk⟩;rw[ht] at k1;unfold Vw;simp only[frv,Fr.v] at k1 ⊢;try simp only[Int.mul_one] at k1
 clear ht h1 h2 h3 h4 h5 h6 eN;have K1:=Zz k1;clear k1;rcases ok with _|_
 ·rcases tk with _|_
  ·have hS:=Zh.init hb;have hC:=hS.rd;simp only[Zr,Zq] at hC;have hbl:=hb.lt;have m2:w.heap.size≠bs:=Nat.ne_of_gt hb.lt;go_in;go_wp2_with (first|(go_at_call 173;(with_reducible apply Zh.see w;exact K1.out _);clear hS hC;intro wn hS hC;(try simp only[Zy] at hS hC);simp only[Zr,Zq] at hC));have hm:=hS.sm;have hs:=hS.sum;have hs2:Box (World.setCell _ ⟨bs,0,none⟩ (.bool false)) bs 155 #[false]:=hs.set_ 0 (.bool false);have hm2:=hm.trans (SmO.set hs 0 (.bool false));refine Zu ?_ rfl ⟨rfl,?_,(show Box _ bs 155 #[false] from ?_)⟩
   ·simp[results,results178,go_sem,hC]
   ·repeat' (with_reducible first
     |exact hm2
     |refine SmO.setNew ?_ (by simp<;>omega) _
     |refine SmO.alloc ?_ _)
   ·repeat' (with_reducible first
     |exact hs2
     |refine Box.far ?_ (by simp<;>omega) _
     |refine Box.alloc ?_ _)
  ·have hS:=Zh.init hb;have hC:=hS.rd;simp only[Zr,Zq] at hC;have hbl:=hb.lt;have m2:w.heap.size≠bs:=Nat.ne_of_gt hb.lt;go_in;go_wp2_with (first|(go_at_call 173;(with_reducible apply Zh.see w;exact K1.out _);clear hS hC;intro wn hS hC;(try simp only[Zy] at hS hC);simp only[Zr,Zq] at hC));have hm:=hS.sm;have hs:=hS.sum;have hs2:Box (World.setCell _ ⟨bs,0,none⟩ (.bool false)) bs 155 #[false]:=hs.set_ 0 (.bool false);have hm2:=hm.trans (SmO.set hs 0 (.bool false));refine Zu ?_ rfl ⟨rfl,?_,(show Box _ bs 155 #[false] from ?_)⟩
   ·simp[results,results178,go_sem,hC]
   ·repeat' (with_reducible first
     |exact hm2
     |refine SmO.setNew ?_ (by simp<;>omega) _
     |refine SmO.alloc ?_ _)
   ·repeat' (with_reducible first
     |exact hs2
     |refine Box.far ?_ (by simp<;>omega) _
     |refine Box.alloc ?_ _)
 ·rcases tk with _|_
  ·have hS:=Zh.init hb;have hC:=hS.rd;simp only[Zr,Zq] at hC;have hbl:=hb.lt;have m2:w.heap.size≠bs:=Nat.ne_of_gt hb.lt;go_in;go_wp2_with (first|(go_at_call 173;(with_reducible apply Zh.see w;exact K1.out _);clear hS hC;intro wn hS hC;(try simp only[Zy] at hS hC);simp only[Zr,Zq] at hC));have hm:=hS.sm;have hs:=hS.sum;have hs2:Box (World.setCell _ ⟨bs,0,none⟩ (.bool false)) bs 155 #[false]:=hs.set_ 0 (.bool false);have hm2:=hm.trans (SmO.set hs 0 (.bool false));refine Zu ?_ rfl ⟨rfl,?_,(show Box _ bs 155 #[false] from ?_)⟩
   ·simp[results,results178,go_sem,hC]
   ·repeat' (with_reducible first
     |exact hm2
     |refine SmO.setNew ?_ (by simp<;>omega) _
     |refine SmO.alloc ?_ _)
   ·repeat' (with_reducible first
     |exact hs2
     |refine Box.far ?_ (by simp<;>omega) _
     |refine Box.alloc ?_ _)
  ·have hS:=Zh.init hb;have hC:=hS.rd;simp only[Zr,Zq] at hC;have hbl:=hb.lt;have m2:w.heap.size≠bs:=Nat.ne_of_gt hb.lt;go_in;go_wp2_with (first|(go_at_call 173;(with_reducible apply Zh.see w;exact K1.out _);clear hS hC;intro wn hS hC;(try simp only[Zy] at hS hC);simp only[Zr,Zq] at hC));have hm:=hS.sm;have hs:=hS.sum;have hs2:Box (World.setCell _ ⟨bs,0,none⟩ (.bool true)) bs 155 #[true]:=hs.set_ 0 (.bool true);have hm2:=hm.trans (SmO.set hs 0 (.bool true));refine Zu ?_ rfl ⟨rfl,?_,(show Box _ bs 155 #[true] from ?_)⟩
   ·simp[results,results178,go_sem,hC]
   ·repeat' (with_reducible first
     |exact hm2
     |refine SmO.setNew ?_ (by simp<;>omega) _
     |refine SmO.alloc ?_ _)
   ·repeat' (with_reducible first
     |exact hs2
     |refine Box.far ?_ (by simp<;>omega) _
     |refine Box.alloc ?_ _)
end
section
open Go.RowKit

def Nm(a:Fr):Bool:=a.valid&&decide (a.im=0)
def Zoo(w:World)(r:Int×Bool):Ending→World→Prop:=fun e w'=>e= .returned (.tuple #[r.1,r.2])∧Ex w w'
theorem Zgu{a b:Fr}(h:Nm a=false):Of a b=(0,false):=by
  unfold Of;rw[if_neg];simp only[Nm,Bool.and_eq_false_iff] at h;intro hc;simp only[Bool.and_eq_true] at hc;rcases h with h|h
  · rw[h] at hc;simp at hc
  · rw[h] at hc;simp at hc
theorem Zgt{a b:Fr}(h:Nm b=false):Of a b=(0,false):=by
  unfold Of;rw[if_neg];simp only[Nm,Bool.and_eq_false_iff] at h;intro hc;simp only[Bool.and_eq_true] at hc;rcases h with h|h
  · rw[h] at hc;simp at hc
  · rw[h] at hc;simp at hc
theorem Zda{a b:Fr}(h1:Nm a=true)(h2:Nm b=true):Of a b=(Nh (a.re*b.den-b.re*a.den),true):=by
  unfold Of;simp only[Nm,Bool.and_eq_true] at h1 h2;rw[h1.1,h1.2,h2.1,h2.2];rfl
theorem Zwg(a1 a2 a3:Int)(w:World):Calls prog 122 #[.agg #[a1,a2,a3]] w fun e w'=>e= .returned (.bool (Nm ⟨a1,a2,a3⟩))∧Ex w w':=by
  have k1:=fun w=>Xj a1 a2 a3 w
  rcases h1:Yx a1 a2 a3 with _|_
  · have hr:Nm ⟨a1,a2,a3⟩=false:=by simp[Nm,Fr.valid,h1]
    simp only[h1] at k1;rw[hr];clear hr h1;go_in;go_wp2_with fail;refine(k1 _).mono ?_;rintro e w1 ⟨rfl,hx⟩;go_wp2;go_ret;exact⟨rfl,((Ex.refl _).alloc _).trans hx⟩
  · have hr:Nm ⟨a1,a2,a3⟩=decide (a2=0):=by simp[Nm,Fr.valid,h1]
    simp only[h1] at k1;rw[hr];clear hr h1;go_in;go_wp2_with fail;refine(k1 _).mono ?_;rintro e w1 ⟨rfl,hx⟩;have b:=(Box.new _ _ _).ex hx;have c:=b.cell;go_wp2;go_ret;exact⟨Wv (by rfl),((Ex.refl _).alloc _).trans hx⟩
theorem Zsv(n:Int):(Nh n= -1∧n<0)∨(Nh n=1∧0<n)∨(Nh n=0∧n=0):=by
  unfold Nh;split
  · exact .inl ⟨rfl,by assumption⟩
  · split
    · exact .inr (.inl ⟨rfl,by assumption⟩)
    · exact .inr (.inr ⟨rfl,by omega⟩)
theorem Zon(n:Int)(w:World):Calls prog 276 #[n] w fun e w'=>e= .returned (.int .i64 (Nh n))∧w'=w:=by
  go_in;go_wp2;all_goals
    go_ret;refine⟨Zxs ?_,rfl⟩;unfold Nh;split
    · omega
    · split<;>omega

theorem Zwf(a b:Fr)(w:World):Calls prog 245 #[a.v,b.v] w (Zoo w (Of a b)):=by
  obtain⟨a1,a2,a3⟩:=a;obtain⟨b1,b2,b3⟩:=b;show Calls _ _ #[.agg #[a1,a2,a3], .agg #[b1,b2,b3]] _ _;have k1:=fun w=>Zwg a1 a2 a3 w
  have k2:=fun w=>Zwg b1 b2 b3 w
  rcases h1:Nm ⟨a1,a2,a3⟩ with _|_
  · rw[Zgu h1];simp only[h1] at k1;clear h1;go_in;go_wp2_with fail;refine(k1 _).mono ?_;rintro e w1 ⟨rfl,hx⟩;have bA:=((Box.new _ _ _).alloc _).ex hx;have bB:=(Box.new _ _ _).ex hx;simp only[Zy] at bB;replace hx:=(((Ex.refl w).alloc _).alloc _).trans hx;have hE:=hx;have cbA:=bA.cell;have fbA:=bA.frozen;have zbA:=bA.lt;have cbB:=bB.cell;have fbB:=bB.frozen;have zbB:=bB.lt;clear hx;go_wp2;refine Zu (v:= .tuple #[oo,false]) ?_ rfl ⟨rfl,?_⟩
    · simp[results,results245,go_sem]
    · (first|exact Exi.out|(have:=Exi.mk ‹Ex _ _›;exact Exi.out))
  rcases h2:Nm ⟨b1,b2,b3⟩ with _|_
  · rw[Zgt h2];simp only[h1] at k1;simp only[h2] at k2;clear h1 h2;go_in;go_wp2_with fail;refine(k1 _).mono ?_;rintro e w1 ⟨rfl,hx⟩;have bA:=((Box.new _ _ _).alloc _).ex hx;have bB:=(Box.new _ _ _).ex hx;simp only[Zy] at bB;replace hx:=(((Ex.refl w).alloc _).alloc _).trans hx;have hE:=hx;have cbA:=bA.cell;have fbA:=bA.frozen;have zbA:=bA.lt;have cbB:=bB.cell;have fbB:=bB.frozen;have zbB:=bB.lt;clear hx;go_wp2_with fail;refine(k2 _).mono ?_;rintro e w2 ⟨rfl,hx⟩;replace hE:=hE.trans hx;replace bA:=bA.ex hx;replace cbA:=bA.cell;replace fbA:=bA.frozen;replace zbA:=bA.lt;replace bB:=bB.ex hx;replace cbB:=bB.cell;replace fbB:=bB.frozen;replace zbB:=bB.lt;clear hx;go_wp2;refine Zu (v:= .tuple #[oo,false]) ?_ rfl ⟨rfl,?_⟩
    · simp[results,results245,go_sem]
    · (first|exact Exi.out|(have:=Exi.mk ‹Ex _ _›;exact Exi.out))
  rw[Zda h1 h2];have hv1:Yx a1 a2 a3=true:=by unfold Nm at h1;simp only[Bool.and_eq_true] at h1;exact h1.1
  have hv2:Yx b1 b2 b3=true:=by unfold Nm at h2;simp only[Bool.and_eq_true] at h2;exact h2.1
  obtain⟨ap1, -,ap3, -⟩:=Xe hv1;obtain⟨bp1, -,bp3, -⟩:=Xe hv2;have m1:=Wm (a:=a1) (b:=b3) (by omega) (by omega);have m2:=Wm (a:=b1) (b:=a3) (by omega) (by omega);show Calls _ _ _ _ (Zoo w (Nh (a1*b3-b1*a3),true));generalize ex1:a1*b3=x1 at m1 ⊢;generalize ex2:b1*a3=x2 at m2 ⊢;simp only[h1] at k1;simp only[h2] at k2;clear h1 h2 hv1 hv2;go_in;go_wp2_with fail;refine(k1 _).mono ?_;rintro e w1 ⟨rfl,hx⟩;have bA:=((Box.new _ _ _).alloc _).ex hx;have bB:=(Box.new _ _ _).ex hx;simp only[Zy] at bB;replace hx:=(((Ex.refl w).alloc _).alloc _).trans hx;have hE:=hx;have cbA:=bA.cell;have fbA:=bA.frozen;have zbA:=bA.lt;have cbB:=bB.cell;have fbB:=bB.frozen;have zbB:=bB.lt;clear hx;go_wp2_with fail;refine(k2 _).mono ?_;rintro e w2 ⟨rfl,hx⟩;replace hE:=hE.trans hx;replace bA:=bA.ex hx;replace cbA:=bA.cell;replace fbA:=bA.frozen;replace zbA:=bA.lt;replace bB:=bB.ex hx;replace cbB:=bB.cell;replace fbB:=bB.frozen;replace zbB:=bB.lt;clear hx;go_wp2;all_goals
    rcases Zsv (x1-x2) with⟨hs,hn⟩|⟨hs,hn⟩|⟨hs,hn⟩
    all_goals
      first
        |(exfalso;omega)
        | (refine Zu (v := .tuple #[(Nh (x1 - x2) : Int), true]) ?_ rfl ⟨rfl, ?_⟩
           · simp[results,results245,go_sem,hs]
           · (first|exact Exi.out|(have:=Exi.mk ‹Ex _ _›;exact Exi.out)))
theorem Zwe(a b:Fr)(w:World):Calls prog 275 #[a.v,b.v] w (Zoo w (Of a b)):=by
  obtain⟨a1,a2,a3⟩:=a;obtain⟨b1,b2,b3⟩:=b;show Calls _ _ #[.agg #[a1,a2,a3], .agg #[b1,b2,b3]] _ _;have k1:=fun w=>Xc a1 a2 a3 w
  have k2:=fun w=>Xc b1 b2 b3 w
  rcases h1:Yx a1 a2 a3 with _|_
  · have hr:Of ⟨a1,a2,a3⟩ ⟨b1,b2,b3⟩=(0,false):=by simp[Of,Fr.valid,h1]
    rw[hr];simp only[h1] at k1;clear hr h1;go_in;go_wp2_with fail;refine(k1 _).mono ?_;rintro e w1 ⟨rfl,hx⟩;have bA:=((Box.new _ _ _).alloc _).ex hx;have bB:=(Box.new _ _ _).ex hx;simp only[Zy] at bB;replace hx:=(((Ex.refl w).alloc _).alloc _).trans hx;have hE:=hx;have cbA:=bA.cell;have fbA:=bA.frozen;have zbA:=bA.lt;have cbB:=bB.cell;have fbB:=bB.frozen;have zbB:=bB.lt;clear hx;go_wp2;refine Zu (v:= .tuple #[oo,false]) ?_ rfl ⟨rfl,?_⟩
    · simp[results,results275,go_sem]
    · (first|exact Exi.out|(have:=Exi.mk ‹Ex _ _›;exact Exi.out))
  rcases h2:Yx b1 b2 b3 with _|_
  · have hr:Of ⟨a1,a2,a3⟩ ⟨b1,b2,b3⟩=(0,false):=by simp[Of,Fr.valid,h1,h2]
    rw[hr];simp only[h1] at k1;simp only[h2] at k2;clear hr h1 h2;go_in;go_wp2_with fail;refine(k1 _).mono ?_;rintro e w1 ⟨rfl,hx⟩;have bA:=((Box.new _ _ _).alloc _).ex hx;have bB:=(Box.new _ _ _).ex hx;simp only[Zy] at bB;replace hx:=(((Ex.refl w).alloc _).alloc _).trans hx;have hE:=hx;have cbA:=bA.cell;have fbA:=bA.frozen;have zbA:=bA.lt;have cbB:=bB.cell;have fbB:=bB.frozen;have zbB:=bB.lt;clear hx;go_wp2_with fail;refine(k2 _).mono ?_;rintro e w2 ⟨rfl,hx⟩;replace hE:=hE.trans hx;replace bA:=bA.ex hx;replace cbA:=bA.cell;replace fbA:=bA.frozen;replace zbA:=bA.lt;replace bB:=bB.ex hx;replace cbB:=bB.cell;replace fbB:=bB.frozen;replace zbB:=bB.lt;clear hx;go_wp2;refine Zu (v:= .tuple #[oo,false]) ?_ rfl ⟨rfl,?_⟩
    · simp[results,results275,go_sem]
    · (first|exact Exi.out|(have:=Exi.mk ‹Ex _ _›;exact Exi.out))
  rcases h3:(a2 !=0) with _|_
  case true=>
    have hr:Of ⟨a1,a2,a3⟩ ⟨b1,b2,b3⟩=(0,false):=by simp[Of,Fr.valid,h1,h2,show ¬a2=0 by simpa using h3]
    rw[hr];simp only[h1] at k1;simp only[h2] at k2;clear hr h1 h2;go_in;go_wp2_with fail;refine(k1 _).mono ?_;rintro e w1 ⟨rfl,hx⟩;have bA:=((Box.new _ _ _).alloc _).ex hx;have bB:=(Box.new _ _ _).ex hx;simp only[Zy] at bB;replace hx:=(((Ex.refl w).alloc _).alloc _).trans hx;have hE:=hx;have cbA:=bA.cell;have fbA:=bA.frozen;have zbA:=bA.lt;have cbB:=bB.cell;have fbB:=bB.frozen;have zbB:=bB.lt;clear hx;go_wp2_with fail;refine(k2 _).mono ?_;rintro e w2 ⟨rfl,hx⟩;replace hE:=hE.trans hx;replace bA:=bA.ex hx;replace cbA:=bA.cell;replace fbA:=bA.frozen;replace zbA:=bA.lt;replace bB:=bB.ex hx;replace cbB:=bB.cell;replace fbB:=bB.frozen;replace zbB:=bB.lt;clear hx;go_wp2;refine Zu (v:= .tuple #[oo,false]) ?_ rfl ⟨rfl,?_⟩
    · simp[results,results275,go_sem]
    · (first|exact Exi.out|(have:=Exi.mk ‹Ex _ _›;exact Exi.out))
  rcases h4:(b2 !=0) with _|_
  case true=>
    have hr:Of ⟨a1,a2,a3⟩ ⟨b1,b2,b3⟩=(0,false):=by simp[Of,Fr.valid,h1,h2,show ¬b2=0 by simpa using h4]
    rw[hr];simp only[h1] at k1;simp only[h2] at k2;clear hr h1 h2;go_in;go_wp2_with fail;refine(k1 _).mono ?_;rintro e w1 ⟨rfl,hx⟩;have bA:=((Box.new _ _ _).alloc _).ex hx;have bB:=(Box.new _ _ _).ex hx;simp only[Zy] at bB;replace hx:=(((Ex.refl w).alloc _).alloc _).trans hx;have hE:=hx;have cbA:=bA.cell;have fbA:=bA.frozen;have zbA:=bA.lt;have cbB:=bB.cell;have fbB:=bB.frozen;have zbB:=bB.lt;clear hx;go_wp2_with fail;refine(k2 _).mono ?_;rintro e w2 ⟨rfl,hx⟩;replace hE:=hE.trans hx;replace bA:=bA.ex hx;replace cbA:=bA.cell;replace fbA:=bA.frozen;replace zbA:=bA.lt;replace bB:=bB.ex hx;replace cbB:=bB.cell;replace fbB:=bB.frozen;replace zbB:=bB.lt;clear hx;go_wp2;refine Zu (v:= .tuple #[oo,false]) ?_ rfl ⟨rfl,?_⟩
    · simp[results,results275,go_sem]
    · (first|exact Exi.out|(have:=Exi.mk ‹Ex _ _›;exact Exi.out))
  have hr:Of ⟨a1,a2,a3⟩ ⟨b1,b2,b3⟩=(Nh (a1*b3-b1*a3),true):=by unfold Of;rw[if_pos (by simp[Fr.valid,h1,h2];exact⟨by simpa using h3,by simpa using h4⟩)]
  rw[hr];obtain⟨ap1, -,ap3, -⟩:=Xe h1;obtain⟨bp1, -,bp3, -⟩:=Xe h2;have m1:=Wm (a:=a1) (b:=b3) (by omega) (by omega);have m2:=Wm (a:=b1) (b:=a3) (by omega) (by omega);generalize ex1:a1*b3=x1 at m1 ⊢;generalize ex2:b1*a3=x2 at m2 ⊢;have l1:=fun w=>Zon (x1-x2) w
  generalize Nh (x1-x2)=n at l1 ⊢;simp only[h1] at k1;simp only[h2] at k2;clear hr h1 h2;go_in;go_wp2_with fail;refine(k1 _).mono ?_;rintro e w1 ⟨rfl,hx⟩;have bA:=((Box.new _ _ _).alloc _).ex hx;have bB:=(Box.new _ _ _).ex hx;simp only[Zy] at bB;replace hx:=(((Ex.refl w).alloc _).alloc _).trans hx;have hE:=hx;have cbA:=bA.cell;have fbA:=bA.frozen;have zbA:=bA.lt;have cbB:=bB.cell;have fbB:=bB.frozen;have zbB:=bB.lt;clear hx;go_wp2_with fail;refine(k2 _).mono ?_;rintro e w2 ⟨rfl,hx⟩;replace hE:=hE.trans hx;replace bA:=bA.ex hx;replace cbA:=bA.cell;replace fbA:=bA.frozen;replace zbA:=bA.lt;replace bB:=bB.ex hx;replace cbB:=bB.cell;replace fbB:=bB.frozen;replace zbB:=bB.lt;clear hx;go_wp2_with fail;refine(l1 _).mono ?_;rintro e w3 ⟨rfl,rfl⟩;go_wp2;refine Zu (v:= .tuple #[n,true]) ?_ rfl ⟨rfl,?_⟩
  · simp[results,results275,go_sem]
  · (first|exact Exi.out|(have:=Exi.mk ‹Ex _ _›;exact Exi.out))
end
end Go.Proofs.YtiommfmaleeibaaGreatDoor
