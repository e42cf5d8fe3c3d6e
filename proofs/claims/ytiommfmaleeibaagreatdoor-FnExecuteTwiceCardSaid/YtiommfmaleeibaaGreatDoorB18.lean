/-
  Proved:what functions compute,part 18. No condition.
-/
import Derived.WalkLawsBesides
set_option linter.unusedSimpArgs false
set_option linter.unusedVariables false
set_option maxRecDepth 20000
set_option maxHeartbeats 8000000
namespace Go.Proofs.YtiommfmaleeibaaGreatDoor
section
open Ieee

def Ej(f:Format)(x:Nat)(k:Int):Prop:=∃s m e,f.read x= .number s m e∧(m≠0→e+m.log2≤k)

section
variable {f:Format}
theorem Br(f:Format):0<f.binade:=Nat.two_pow_pos _
theorem Zzr(f:Format):f.signWeight=2 ^ f.exponentBits*f.binade:=by
 unfold Format.signWeight Format.binade;exact Nat.pow_add _ _ _
theorem Zyw(s:Bool)(r:Nat)(h:r<f.signWeight):f.read (f.word s r)=
  if r<f.binade then .number s r f.leastPlace
  else if r<f.infRung then .number s (f.binade+r % f.binade) (f.leastPlace+(r / f.binade-1:Nat))
  else if r=f.infRung then .infinity s else .nan s (r-f.infRung):=by
 have h1:(f.word s r / f.signWeight % 2==1)=s:=by
  cases s
  ·simp[Format.word,Nat.div_eq_of_lt h]
  ·have:(f.signWeight+r) / f.signWeight=1:=by
    rw[Nat.add_div_left _ (by omega),Nat.div_eq_of_lt h]
   simp[Format.word,this]
 have h2:f.word s r % f.signWeight=r:=by
  cases s
  ·simp[Format.word,Nat.mod_eq_of_lt h]
  ·simp[Format.word,Nat.mod_eq_of_lt h]
 unfold Format.read;simp only[h1,h2]

theorem Dc{m:Nat}(h:m≠0):2 ^ m.log2≤m∧m<2 ^ (m.log2+1):=⟨Nat.log2_self_le h,Nat.lt_log2_self⟩
theorem Lh{m k:Nat}(h0:m≠0)(h:m<2 ^ (k+1)):m.log2≤k:=by
 have:=(Nat.log2_lt h0).2 h
 omega

theorem Ztk(s:Bool)(n:Nat):Toward.even.cut s n 0=n:=by
 simp[Toward.cut,Nat.mod_one]
theorem Zbe(s:Bool)(n d:Nat):Toward.even.cut s n d≤n / 2 ^ (min d (n.log2+2))+1:=by
 unfold Toward.cut;simp only[Nat.shiftLeft_eq,Nat.one_mul];have:∀b:Bool,b.toNat≤1:=by decide
 exact Nat.add_le_add_left (this _) _

theorem Zdj(s:Bool)(m:Nat)(e last:Int)(fb:Nat)(h0:m≠0)(hl:e+m.log2-fb≤last):
  Toward.even.cut s (m<<<(e-last).toNat) (last-e).toNat≤2 ^ (fb+1):=by
 have hb:=Dc h0;by_cases h:last≤e
 ·have e1:(last-e).toNat=0:=by omega
  rw[e1,Ztk,Nat.shiftLeft_eq];have:m*2 ^ (e-last).toNat≤2 ^ (m.log2+1)*2 ^ (e-last).toNat:=Nat.mul_le_mul_right _ (Nat.le_of_lt hb.2)
  rw[←Nat.pow_add] at this;exact Nat.le_trans this (Nat.pow_le_pow_right (by omega) (by omega))
 ·have e1:(e-last).toNat=0:=by omega
  rw[e1,Nat.shiftLeft_zero];refine Nat.le_trans (Zbe s m _) ?_;obtain⟨d,hd⟩:∃d,d=min (last-e).toNat (m.log2+2):=⟨_,rfl⟩
  rw[←hd];have:m / 2 ^ d<2 ^ (fb+1):=by
   rw[Nat.div_lt_iff_lt_mul (Nat.two_pow_pos _),←Nat.pow_add];exact Nat.lt_of_lt_of_le hb.2 (Nat.pow_le_pow_right (by omega) (by omega))
  omega

theorem Dp(s:Bool)(m:Nat)(e k:Int)(h0:m≠0)(hk:e+m.log2≤k)(hl:f.leastPlace≤k-f.fractionBits):
  ∃r,f.nearest s m e=f.word s r∧r≤f.infRung∧r≤(k-f.fractionBits-f.leastPlace+2).toNat*f.binade:=by
 refine⟨_,by unfold Format.nearest;rw[if_neg h0],Nat.min_le_right _ _,?_⟩;refine Nat.le_trans (Nat.min_le_left _ _) ?_;have hkept:=Zdj s m e (max (e+m.log2-f.fractionBits) f.leastPlace) f.fractionBits h0 (by omega);have h2:2 ^ (f.fractionBits+1)=2*f.binade:=by unfold Format.binade;rw[Nat.pow_succ];omega
 rw[h2] at hkept;have h3:(max (e+m.log2-f.fractionBits) f.leastPlace-f.leastPlace).toNat*f.binade≤(k-f.fractionBits-f.leastPlace).toNat*f.binade:=Nat.mul_le_mul_right _ (by omega);have h4:(k-f.fractionBits-f.leastPlace+2).toNat=(k-f.fractionBits-f.leastPlace).toNat+2:=by omega
 rw[h4,Nat.add_mul];omega

theorem Ztj(f:Format):f.infRung<f.signWeight:=by
 rw[Zzr];unfold Format.infRung;exact Nat.mul_lt_mul_of_pos_right (by have:=Nat.two_pow_pos f.exponentBits;omega) (Br f)

theorem Bq(s:Bool)(r K:Nat)(hr:r≤K*f.binade)(hK:K<2 ^ f.exponentBits-1):
  Ej f (f.word s r) (f.leastPlace+K-1+f.fractionBits):=by
 have hB:=Br f;have hi:r<f.infRung:=by
  refine Nat.lt_of_le_of_lt hr ?_;unfold Format.infRung;exact Nat.mul_lt_mul_of_pos_right hK hB
 have hs:=Ztj f;unfold Ej;rw[Zyw s r (by omega)];by_cases h:r<f.binade
 ·rw[if_pos h];refine⟨_,_,_,rfl,fun h0=>?_⟩;have h1:r.log2<f.fractionBits:=(Nat.log2_lt h0).2 h;omega
 ·rw[if_neg h,if_pos hi];refine⟨_,_,_,rfl,fun h0=>?_⟩;have hm:r % f.binade<f.binade:=Nat.mod_lt _ hB;have h1:(f.binade+r % f.binade).log2≤f.fractionBits:=by
   refine Lh h0 ?_;have:2 ^ (f.fractionBits+1)=2*f.binade:=by unfold Format.binade;rw[Nat.pow_succ];omega
   omega
  have h2:r / f.binade≤K:=by
   rw[Nat.div_le_iff_le_mul hB];omega
  have h3:1≤r / f.binade:=(Nat.le_div_iff_mul_le hB).2 (by omega);omega

theorem Js(s:Bool)(m:Nat)(e k:Int)(hk:m≠0→e+m.log2≤k)(hl:f.leastPlace≤k-f.fractionBits)
  (hi:k-f.fractionBits-f.leastPlace+2<((2 ^ f.exponentBits-1:Nat):Int)):Ej f (f.nearest s m e) (k+1):=by
 by_cases h0:m=0
 ·have hw:f.nearest s m e=f.word s 0:=by unfold Format.nearest;rw[if_pos h0]
  rw[hw];obtain⟨s',m',e',h1,h2⟩:=Bq (f:=f) s 0 0 (by omega) (by omega);exact⟨s',m',e',h1,fun h=>by have:=h2 h;omega⟩
 ·obtain⟨r,hw, -,hr⟩:=Dp (f:=f) s m e k h0 (hk h0) hl;rw[hw];obtain⟨s',m',e',h1,h2⟩:=Bq (f:=f) s r _ hr (by omega);exact⟨s',m',e',h1,fun h=>by have:=h2 h;omega⟩

theorem Ej.wide{x:Nat}{k k':Int}(h:Ej f x k)(hk:k≤k'):Ej f x k':=by
 obtain⟨s,m,e,h1,h2⟩:=h;exact⟨s,m,e,h1,fun h=>by have:=h2 h;omega⟩

theorem Zwv(digits:Nat)(s t:Bool)(m n:Nat)(i j k:Int)(hm:m≠0→i+m.log2≤k)(hn:n≠0)(hj:0≤j+n.log2):
  ∃s' M P,Datum.quotient digits (.number s m i) (.number t n j)=some (.number s' M P)∧(M≠0→P+M.log2≤k):=by
 refine⟨s ^^ t,_,_,by simp only[Datum.quotient,if_neg hn];rfl,fun hM=>?_⟩;by_cases h0:m=0
 ·subst h0;simp at hM
 ·have bm:=Dc h0;have bn:=Dc hn;have hk:=hm h0;obtain⟨more,hmore⟩:∃x,x=digits+n.log2-m.log2:=⟨_,rfl⟩
  rw[←hmore] at hM ⊢;rw[Nat.shiftLeft_eq] at hM ⊢;obtain⟨D,hD⟩:∃D,D=m.log2+more-n.log2:=⟨_,rfl⟩
  have hDe:m.log2+more=D+n.log2:=by omega
  have hq:m*2 ^ more / n<2 ^ (D+1):=by
   rw[Nat.div_lt_iff_lt_mul (by omega)];have h1:m*2 ^ more<2 ^ (m.log2+1)*2 ^ more:=Nat.mul_lt_mul_of_pos_right bm.2 (Nat.two_pow_pos _);rw[←Nat.pow_add] at h1;have h2:2 ^ (D+1)*2 ^ n.log2≤2 ^ (D+1)*n:=Nat.mul_le_mul_left _ bn.1;rw[←Nat.pow_add] at h2;have h3:m.log2+1+more=D+1+n.log2:=by omega
   rw[h3] at h1;omega
  have hM2:2*(m*2 ^ more / n)+(m*2 ^ more % n !=0).toNat<2 ^ (D+1+1):=by
   have:∀b:Bool,b.toNat≤1:=by decide
   have:=this (m*2 ^ more % n !=0)
   rw[Nat.pow_succ];omega
  have:=Lh hM hM2
  omega
end

theorem Zti(B q n:Nat)(hB:0<B)(h1:B≤n)(h2:n<2*B):(q*B+n) % B=n-B∧(q*B+n) / B=q+1:=by
 obtain⟨r,rfl⟩:∃r,n=B+r:=⟨n-B,by omega⟩
 have e:q*B+(B+r)=B*(q+1)+r:=by rw[Nat.mul_succ,Nat.mul_comm q B];omega
 have hr:r<B:=by omega
 rw[e,Nat.mul_add_mod,Nat.mul_add_div hB,Nat.mod_eq_of_lt hr,Nat.div_eq_of_lt hr];omega
theorem Zpb(d:Nat)(h0:d≠0)(h1:d<2 ^ 31):∃n j,double.read (double.nearest false d 0)= .number false n j∧n≠0∧0≤j+n.log2:=by
 have bd:=Dc h0;have hl:d.log2<31:=(Nat.log2_lt h0).2 h1;obtain⟨l,hld⟩:∃l,l=d.log2:=⟨_,rfl⟩
 rw[←hld] at bd hl;have e1:double.nearest false d 0=double.word false (min (((l:Int)-52+1074).toNat*2 ^ 52+d*2 ^ (52-l)) double.infRung):=by
  unfold Format.nearest;rw[if_neg h0,←hld];have hlast:max ((0:Int)+l-(double.fractionBits:Nat)) double.leastPlace=(l:Int)-52:=by
   show max ((0:Int)+l-((52:Nat):Int)) (-1074)=_;omega
  dsimp only
  rw[hlast];have e2:(0-((l:Int)-52)).toNat=52-l:=by omega
  have e3:((l:Int)-52-0).toNat=0:=by omega
  rw[e2,e3,Ztk,Nat.shiftLeft_eq];rfl
 have hn1:2 ^ 52≤d*2 ^ (52-l):=by
  have:2 ^ l*2 ^ (52-l)≤d*2 ^ (52-l):=Nat.mul_le_mul_right _ bd.1
  rw[←Nat.pow_add,show l+(52-l)=52 by omega] at this;exact this
 have hn2:d*2 ^ (52-l)<2 ^ 53:=by
  have:d*2 ^ (52-l)<2 ^ (l+1)*2 ^ (52-l):=Nat.mul_lt_mul_of_pos_right bd.2 (Nat.two_pow_pos _)
  rw[←Nat.pow_add,show l+1+(52-l)=53 by omega] at this;exact this
 obtain⟨n,hn⟩:∃n,n=d*2 ^ (52-l):=⟨_,rfl⟩
 rw[←hn] at e1 hn1 hn2;have e4:((l:Int)-52+1074).toNat=l+1022:=by omega
 rw[e4] at e1;have hinf:double.infRung=2047*2 ^ 52:=by decide+kernel
 have hsw:double.signWeight=2048*2 ^ 52:=by decide+kernel
 have hbn:double.binade=2 ^ 52:=rfl;obtain⟨B,hB⟩:∃B,B=2 ^ 52:=⟨_,rfl⟩
 have hB0:0<B:=by rw[hB];exact Nat.two_pow_pos _
 have hn2':n<2*B:=by rw[hB];exact hn2
 have a2:52≤n.log2:=(Nat.le_log2 (n:=n) (k:=52) (by rw[←hB] at hn1;omega)).2 hn1;have a1:n.log2≤52:=Lh (m:=n) (k:=52) (by rw[←hB] at hn1;omega) hn2;rw[←hB] at e1 hn1 hinf hsw hbn;have hle:(l+1022)*B+n<(l+1024)*B:=by rw[Nat.add_mul,Nat.add_mul];omega
 have hle2:(l+1024)*B≤2047*B:=Nat.mul_le_mul_right _ (by omega);have hle3:2047*B<2048*B:=Nat.mul_lt_mul_of_pos_right (by omega) hB0;obtain⟨q1,q2⟩:=Zti B (l+1022) n hB0 hn1 hn2';have e5:min ((l+1022)*B+n) double.infRung=(l+1022)*B+n:=by
  rw[hinf];exact Nat.min_eq_left (by omega)
 rw[e5] at e1;have e9:B≤(l+1022)*B+n:=by omega
 rw[e1,Zyw (f:=double) false _ (by rw[hsw];omega),hbn,hinf,if_neg (by omega),if_pos (by omega),q1,q2];have hx:B+(n-B)=n:=by omega
 rw[hx];refine⟨_,_,rfl,by omega,?_⟩;have hlp:double.leastPlace= -1074:=rfl;rw[hlp];omega
end
section
open Ieee

def key(f:Format)(r:Nat):Nat:=
 if r<f.binade then r else if r<f.infRung then (f.binade+r % f.binade)*2 ^ (r / f.binade-1) else 2 ^ (f.fractionBits+2 ^ f.exponentBits)

def Sgl(p:Nat):Prop:=Ej single p 33

theorem Zdi(n d:Int)(h1: -2000000000≤n)(h2:n≤2000000000)(h3:1≤d)(h4:d≤2000000000):
  ∃r r',floatBits .quo .f64 (floatOfInt .f64 n) (floatOfInt .f64 d)=some r∧floatToFloatBits .f64 r .f32=some r'∧Sgl r':=by
 obtain⟨D,rfl⟩:=Int.eq_ofNat_of_zero_le (show 0≤d by omega);obtain⟨dn,dj,hd,hd1,hd2⟩:=Zpb D (by omega) (by omega);have hn:Ej double (floatOfInt .f64 n) 31:=by
  refine Js (f:=double) (decide (n<0)) n.natAbs 0 30 (fun h=>?_) (by decide+kernel) (by decide+kernel);have:n.natAbs.log2≤30:=Lh h (by omega)
  omega
 obtain⟨s,m,e,hr,hm⟩:=hn;obtain⟨s',M,P,hq,hM⟩:=Zwv (double.fractionBits+2) s false m dn e dj 31 hm hd1 hd2;have e1:floatBits .quo .f64 (floatOfInt .f64 n) (floatOfInt .f64 (D:Int))=some (double.nearest s' M P):=by
  show double.div (floatOfInt .f64 n) (double.nearest (decide ((D:Int)<0)) D 0)=_;have:decide ((D:Int)<0)=false:=by simp
  rw[this];unfold Format.div;rw[hr,hd,hq];rfl
 obtain⟨t,M2,P2,hr2,hM2⟩:=Js (f:=double) s' M P 31 hM (by decide+kernel) (by decide+kernel);obtain⟨u,M3,P3,hr3,hM3⟩:=Js (f:=single) t M2 P2 32 hM2 (by decide+kernel) (by decide+kernel);refine⟨_,single.nearest t M2 P2,e1,?_,⟨u,M3,P3,hr3,hM3⟩⟩;have e2:(FloatKind.f64.decode (double.nearest s' M P))= .number t M2 P2:=hr2;have e3:(FloatKind.f32.decode (FloatKind.f32.encode (.number t M2 P2))).isInfinity=false:=by
  show(single.read (single.nearest t M2 P2)).isInfinity=false;rw[hr3];rfl
 unfold floatToFloatBits;rw[if_neg (by decide),e2];simp only[e3];rfl

def Sp(n d:Int):Nat:=(floatBits .quo .f64 (floatOfInt .f64 n) (floatOfInt .f64 d)).getD 0
def Rr(n d:Int):Nat:=(floatToFloatBits .f64 (Sp n d) .f32).getD 0
theorem Zwu(n d:Int)(h1: -2000000000≤n)(h2:n≤2000000000)(h3:1≤d)(h4:d≤2000000000):
  floatBits .quo .f64 (floatOfInt .f64 n) (floatOfInt .f64 d)=some (Sp n d)∧floatToFloatBits .f64 (Sp n d) .f32=some (Rr n d)∧Sgl (Rr n d):=by
 obtain⟨r,r',e1,e2,e3⟩:=Zdi n d h1 h2 h3 h4;have w1:Sp n d=r:=by unfold Sp;rw[e1];rfl
 have w2:Rr n d=r':=by unfold Rr;rw[w1,e2];rfl
 rw[w1,w2];exact⟨e1,e2,e3⟩
def fsub(p q:Nat):Nat:=(floatBits .sub .f32 p q).getD 0
def fsq(x:Nat):Nat:=(floatBits .mul .f32 x x).getD 0
def fadd(x y:Nat):Nat:=(floatBits .add .f32 x y).getD 0
def sfar(p p' q q':Nat):Nat:=fadd (fsq (fsub p q)) (fsq (fsub p' q'))
def skey(r:Nat):Nat:=key single r
end
end Go.Proofs.YtiommfmaleeibaaGreatDoor
