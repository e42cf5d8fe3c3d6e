/-
  Proved:what functions compute,part 12. No condition.
-/
import Derived.Test.YtiommfmaleeibaaGreatDoorB11
import Derived.Deep.RegionHeld3
set_option linter.unusedSimpArgs false
set_option linter.unusedVariables false
set_option maxRecDepth 20000
set_option maxHeartbeats 8000000
namespace Go.Proofs.YtiommfmaleeibaaGreatDoor
open Go.Proofs.Tryz
section
open Go.RowKit

theorem Zhp{p q:Int}(h:Wl p q=true):(Tm p q).valid=true∧(Tl p q).valid=true∧(Tm p q).im=0∧(Tl p q).im=0:=by
 unfold Wl at h;simp only[Bool.and_eq_true] at h;obtain⟨b1,b2,b3⟩:=Zpv h.1.1 h.1.2;have hn:=Zxj (p:=p) (q:=q) (by
  have h2:=h.2;rcases hh:(decide (p=0)&&decide (q=0)) with _|_
  ·rfl
  ·rw[hh] at h2;cases h2)
 have e4:2*p*q=2*(p*q):=Int.mul_assoc _ _ _;refine⟨Nk hn (Hu (by omega) (by omega) (by omega)),Nk hn (Hu (by rw[e4];omega) (by omega) (by omega)),Mp,Mp⟩
theorem Oo(p q:Int):(Xu p q).2=Wl p q:=by
 unfold Xu;split
 ·rename_i h;exact h.symm
 ·rename_i h;simp only[Bool.not_eq_true] at h;exact h.symm

theorem En(x y:Fr)(w:World):Calls prog 211 #[jvv x y] w (fun e w'=>e= .returned (.bool (x.valid&&y.valid))∧Ex w w'):=by
 obtain⟨x1,x2,x3⟩:=x;obtain⟨y1,y2,y3⟩:=y;show Calls _ _ #[.agg #[x1,x2,x3,y1,y2,y3]] _ fun e w'=>e= .returned (.bool (Yx x1 x2 x3&&Yx y1 y2 y3))∧Ex w w'
 have k1:=fun w=>Xc x1 x2 x3 w
 have k2:=fun w=>Xc y1 y2 y3 w
 generalize Yx x1 x2 x3=vx at*;generalize Yx y1 y2 y3=vy at*;rcases vx with _|_
 ·have K1:=Zz k1;have K2:=Zz k2;clear k1 k2;obtain⟨hS,hC⟩:=s0 w;go_in;go_wp2_with ((with_reducible apply Zo.see w;first|exact K1.out _|exact K2.out _);clear hS hC;intro wn hS hC;simp only[Zr,Zq,Zy] at hC);go_ret;refine⟨Wv (by simp),?_⟩;exact Exi.out
 ·have K1:=Zz k1;have K2:=Zz k2;clear k1 k2;obtain⟨hS,hC⟩:=s0 w;go_in;go_wp2_with ((with_reducible apply Zo.see w;first|exact K1.out _|exact K2.out _);clear hS hC;intro wn hS hC;simp only[Zr,Zq,Zy] at hC);go_ret;refine⟨Wv (by simp),?_⟩;exact Exi.out
theorem Qa(x y:Fr)(w:World):Calls prog 47 #[jvv x y] w (fun e w'=>e= .returned (.bool (x.valid&&y.valid))∧Ex w w'):=by
 obtain⟨x1,x2,x3⟩:=x;obtain⟨y1,y2,y3⟩:=y;show Calls _ _ #[.agg #[x1,x2,x3,y1,y2,y3]] _ fun e w'=>e= .returned (.bool (Yx x1 x2 x3&&Yx y1 y2 y3))∧Ex w w'
 have k1:=fun w=>Xj x1 x2 x3 w
 have k2:=fun w=>Xj y1 y2 y3 w
 generalize Yx x1 x2 x3=vx at*;generalize Yx y1 y2 y3=vy at*;rcases vx with _|_
 ·have K1:=Zz k1;have K2:=Zz k2;clear k1 k2;obtain⟨hS,hC⟩:=s0 w;go_in;go_wp2_with ((with_reducible apply Zo.see w;first|exact K1.out _|exact K2.out _);clear hS hC;intro wn hS hC;simp only[Zr,Zq,Zy] at hC);go_ret;refine⟨Wv (by simp),?_⟩;exact Exi.out
 ·have K1:=Zz k1;have K2:=Zz k2;clear k1 k2;obtain⟨hS,hC⟩:=s0 w;go_in;go_wp2_with ((with_reducible apply Zo.see w;first|exact K1.out _|exact K2.out _);clear hS hC;intro wn hS hC;simp only[Zr,Zq,Zy] at hC);go_ret;refine⟨Wv (by simp),?_⟩;exact Exi.out
theorem Zxi(a b:Fr)(w:World):Calls prog 106 #[a.v,b.v] w (fun e w'=>e= .returned (M4.v ⟨a,Fr.nul,Fr.nul,b⟩)∧Ex w w'):=by
 obtain⟨a1,a2,a3⟩:=a;obtain⟨b1,b2,b3⟩:=b;simp only[Fr.v,M4.v,Fr.nul];obtain⟨hS,hC⟩:=s0 w;go_in;go_wp2;exact Yp (by simp[results,results106,go_sem,hC]) rfl
theorem Kf(k:Int)(h0:0≤k)(h3:k≤3)(w:World):Calls prog 32 #[k] w (fun e w'=>e= .returned ((Yd k).v)∧Ex w w'):=by
 obtain rfl|rfl|rfl|rfl:k=0∨k=1∨k=2∨k=3:=by omega
 all_goals
  simp only[Yd,Fr.v];try simp only[if_true,Int.one_ne_zero,if_false,show ¬((2:Int)=0) by decide,show ¬((2:Int)=1) by decide,show ¬((3:Int)=0) by decide,show ¬((3:Int)=1) by decide,show ¬((3:Int)=2) by decide]
  obtain⟨hS,hC⟩:=s0 w;go_in;go_wp2;exact Yp (by simp[results,results32,go_sem,hC]) rfl
theorem Em(p q:Int)(w:World):Calls prog 102 #[p,q] w (fun e w'=>e= .returned (m4v (Xu p q))∧Ex w w'):=by
 have kd:=fun w=>Rh p q w
 rcases h:Wl p q with _|_
 ·have e:Xu p q=(M4.none,false):=by simp[Xu,h]
  rw[e];simp only[Rf,h,Bool.false_eq_true,if_false,Fr.none,Fr.v] at kd;simp only[m4v,M4.v,M4.none,Fr.none];clear e h;have KD:=Zz kd;clear kd;obtain⟨hS,hC⟩:=s0 w;go_in;go_wp2_with ((with_reducible apply Zo.see w;first|exact KD.out _|exact Vk _ _ _ _ _ _ _ _ _ _ _ _ _|exact Vt _ _ _ _ _ _ _ _ _ _ _ _ _);clear hS hC;intro wn hS hC;simp only[Zr,Zq,Zy] at hC);exact Yp (by simp[results,results102,go_sem,hC]) rfl
 ·have e:Xu p q=(⟨Tm p q,Kp (Tl p q),Tl p q,Tm p q⟩,true):=by simp[Xu,h]
  rw[e];simp only[Rf,h,if_true] at kd;obtain⟨-,v2, -,i2⟩:=Zhp h;generalize Tm p q=c at*;generalize Tl p q=s at*;obtain⟨c1,c2,c3⟩:=c;obtain⟨s1,s2,s3⟩:=s;simp only at i2;subst i2;obtain⟨q1, -, -, -⟩:=Fr.valid_out v2;simp only at q1;have w1:=Zt (-s1) (by omega);simp only[Fr.v] at kd;simp only[m4v,M4.v,Kp,Int.neg_zero];clear e h v2;have KD:=Zz kd;clear kd;obtain⟨hS,hC⟩:=s0 w;go_in;go_wp2_with ((with_reducible apply Zo.see w;first|exact KD.out _|exact Vk _ _ _ _ _ _ _ _ _ _ _ _ _|exact Vt _ _ _ _ _ _ _ _ _ _ _ _ _);clear hS hC;intro wn hS hC;simp only[Zr,Zq,Zy] at hC);exact Yp (by simp[results,results102,go_sem,hC]) rfl
theorem Cm(p q:Int)(w:World):Calls prog 42 #[p,q] w (fun e w'=>e= .returned (m4v (Ww p q))∧Ex w w'):=by
 have kd:=fun w=>Rh p q w
 rcases h:Wl p q with _|_
 ·have e:Ww p q=(M4.none,false):=by simp[Ww,h]
  rw[e];simp only[Rf,h,Bool.false_eq_true,if_false,Fr.none,Fr.v] at kd;simp only[m4v,M4.v,M4.none,Fr.none];clear e h;have KD:=Zz kd;clear kd;obtain⟨hS,hC⟩:=s0 w;go_in;go_wp2_with ((with_reducible apply Zo.see w;exact KD.out _);clear hS hC;intro wn hS hC;simp only[Zr,Zq,Zy] at hC);exact Yp (by simp[results,results42,go_sem,hC]) rfl
 ·have e:Ww p q=Nn (Zk (Tm p q) (Tm p q)) (Zk (Tm p q) (Tl p q)) (Zk (Tm p q) (Tl p q)) (Zk (Tl p q) (Tl p q)) true:=by simp[Ww,h]
  rw[e];unfold Nn;simp only[Rf,h,if_true] at kd;clear e h;have k1:=fun w=>Yc.opn (Vy (Tm p q) (Tm p q) w)
  have k2:=fun w=>Yc.opn (Vy (Tm p q) (Tl p q) w)
  have k3:=fun w=>Yc.opn (Vy (Tl p q) (Tl p q) w)
  generalize Zk (Tm p q) (Tm p q)=a at*;generalize Zk (Tm p q) (Tl p q)=b at*;generalize Zk (Tl p q) (Tl p q)=d at*;generalize Tm p q=c at*;generalize Tl p q=s at*;obtain⟨c1,c2,c3⟩:=c;obtain⟨s1,s2,s3⟩:=s;obtain⟨⟨a1,a2,a3⟩,ak⟩:=a;obtain⟨⟨b1,b2,b3⟩,bk⟩:=b;obtain⟨⟨d1,d2,d3⟩,dk⟩:=d;simp only[frv,Fr.v] at kd k1 k2 k3;simp only[m4v,M4.v,M4.none,Fr.none];rcases dk with _|_
  ·try simp only[Bool.and_false,Bool.and_true,Bool.true_and,Bool.false_eq_true,if_false]
   have KD:=Zz kd;have K1:=Zz k1;have K2:=Zz k2;have K3:=Zz k3;clear kd k1 k2 k3;obtain⟨hS,hC⟩:=s0 w;go_in;go_wp2_with ((with_reducible apply Zo.see w;first|exact KD.out _|exact K1.out _|exact K2.out _|exact K3.out _|exact Vk _ _ _ _ _ _ _ _ _ _ _ _ _|exact Vt _ _ _ _ _ _ _ _ _ _ _ _ _);clear hS hC;intro wn hS hC;simp only[Zr,Zq,Zy] at hC);all_goals
    exact Yp (by simp[results,results42,go_sem,hC, *]) rfl
  ·try simp only[Bool.and_false,Bool.and_true,Bool.true_and,Bool.false_eq_true,if_false]
   have KD:=Zz kd;have K1:=Zz k1;have K2:=Zz k2;have K3:=Zz k3;clear kd k1 k2 k3;obtain⟨hS,hC⟩:=s0 w;go_in;go_wp2_with ((with_reducible apply Zo.see w;first|exact KD.out _|exact K1.out _|exact K2.out _|exact K3.out _|exact Vk _ _ _ _ _ _ _ _ _ _ _ _ _|exact Vt _ _ _ _ _ _ _ _ _ _ _ _ _);clear hS hC;intro wn hS hC;simp only[Zr,Zq,Zy] at hC);all_goals
    exact Yp (by simp[results,results42,go_sem,hC, *]) rfl
end
section
open Go.RowKit

theorem Zua(x y:Fr):((((false|| !(x.valid&&y.valid))|| !(Zc x).2)|| !(Zc y).2)|| !(Vm x y).2)= !(Vm x y).2:=by
  rcases h:(Vm x y).2 with _|_
  · simp
  · have h0:=h;unfold Vm Yo at h;split at h
    · rename_i hv;rw[Bool.and_eq_true] at hv;have hx:(Zc x).2=true:=by
        rcases hh:(Zc x).2 with _|_
        · rw[Uk hh] at hv;exact absurd hv.1 (by decide)
        · rfl
      have hy:(Zc y).2=true:=by
        rcases hh:(Zc y).2 with _|_
        · rw[Uk hh] at hv;exact absurd hv.2 (by decide)
        · rfl
      have vx:x.valid=true:=by
        rcases hh:x.valid with _|_
        · unfold Zc at hx;rw[hh] at hx;cases hx
        · rfl
      have vy:y.valid=true:=by
        rcases hh:y.valid with _|_
        · unfold Zc at hy;rw[hh] at hy;cases hy
        · rfl
      rw[hx,hy,vx,vy];rfl
    · cases h
theorem Zxh(x y:Fr):(Vm x y).2=false→(Vm x y).1=Fr.none:=fun h=>Uu h
theorem Ke(x y:Fr)(w:World):Calls prog 78 #[jvv x y] w (fun e w'=>e= .returned (frv (Vm x y))∧Ex w w'):=by
  have k1:=fun w=>Qa x y w
  obtain⟨x1,x2,x3⟩:=x;obtain⟨y1,y2,y3⟩:=y;rcases hp:Zc ⟨x1,x2,x3⟩ with⟨⟨p1,p2,p3⟩,pk⟩;rcases hq:Zc ⟨y1,y2,y3⟩ with⟨⟨q1,q2,q3⟩,qk⟩;rcases hr:Yo ⟨p1,p2,p3⟩ ⟨q1,q2,q3⟩ with⟨⟨r1,r2,r3⟩,rk⟩;have e0:Vm ⟨x1,x2,x3⟩ ⟨y1,y2,y3⟩=(⟨r1,r2,r3⟩,rk):=by simp only[Vm,hp,hq,hr]
  rw[e0];have hf:=Zua ⟨x1,x2,x3⟩ ⟨y1,y2,y3⟩;rw[hp,hq,e0] at hf;simp only at hf;have hn:=Zxh ⟨x1,x2,x3⟩ ⟨y1,y2,y3⟩;rw[e0] at hn;simp only at hn;simp only[jvv,frv,Fr.v] at k1 ⊢;generalize ((⟨x1,x2,x3⟩:Fr).valid&&(⟨y1,y2,y3⟩:Fr).valid)=v at*;have HP:=Zz hp;have HQ:=Zz hq;have HR:=Zz hr;have HF:=Zz hf;have HN:=Zz hn;clear e0 hp hq hr hf hn;have K1:=Zz k1;clear k1;obtain⟨hS,hC⟩:=s0 w;go_in;go_wp2_with (first|((with_reducible apply Zl.see w;exact K1.out _);clear hS hC;intro wn hS hC;(try simp only[Zy] at hS hC);simp only[Zr,Zq] at hC)|(go_at_call 46;(with_reducible refine(Uc w).mono ?_);rintro e wn ⟨rfl,hS⟩;have hC:=hS.rd;simp only[Zr,Zq] at hC));refine Ux (fun b w'=>Zl w w' _ b _) 11 _ (by kernel_rfl) (hS.drewW) (by exact fun _ _ _ _ _ h=>h) ?_;repeat (first
    | (apply Zp
       · rfl
       · intro b wb hB Q1 hQ1;have hS:=hB;have hC:=hS.rd;simp only[Zr,Zq] at hC;go_wp2_with fail;exact hQ1 _ trivial hB
       · exact⟨_,rfl⟩)
    | (apply Zi
       · rfl
       · intro b wb hB Q1 hQ1;have hS:=hB;have hC:=hS.rd;simp only[Zr,Zq] at hC;go_wp2_with (first|((with_reducible refine(Ry hB HP.out).mono ?_);rintro e wn ⟨rfl,hN,hM⟩)|((with_reducible refine(Ry hB HQ.out).mono ?_);rintro e wn ⟨rfl,hN,hM⟩)|((with_reducible refine(Rj hB HR.out).mono ?_);rintro e wn ⟨rfl,hN,hM⟩));exact hQ1 _ trivial hN
       · exact⟨_,rfl⟩))
  refine Zn ?_;intro wz hz;rw[HF.out] at hz;rcases rk with _|_
  · have hq:=HN.out rfl;simp only[Fr.none,Fr.mk.injEq] at hq;obtain⟨rfl,rfl,rfl⟩:=hq;go_wp2_with ((with_reducible refine(Gs _ _ _ _ _ hz.sum).mono ?_);rintro e wn ⟨rfl,hx⟩;have hS:=Zl.ex hz hx;have hC:=hS.rd;simp only[Zr,Zq] at hC;have hE:=hS.rel (by omega));have:=Exi.mk hE
    exact Yp (by simp[results,results78,go_sem,hC]) rfl
  · go_wp2_with ((with_reducible refine(In _ _ _ _ _ hz.sum).mono ?_);rintro e wn ⟨rfl,hx⟩;have hS:=Zl.ex hz hx;have hC:=hS.rd;simp only[Zr,Zq] at hC;have hE:=hS.rel (by omega));have:=Exi.mk hE
    exact Yp (by simp[results,results78,go_sem,hC]) rfl
end
end Go.Proofs.YtiommfmaleeibaaGreatDoor
