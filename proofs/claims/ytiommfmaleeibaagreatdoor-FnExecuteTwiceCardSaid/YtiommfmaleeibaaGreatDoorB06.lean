/-
  Proved:what functions compute,part 6. No condition.
-/
import Derived.Test.YtiommfmaleeibaaGreatDoorB01
import Derived.Test.YtiommfmaleeibaaGreatDoorB05
import Derived.Laws.CopyOwn
set_option linter.unusedSimpArgs false
set_option linter.unusedVariables false
set_option maxRecDepth 20000
set_option maxHeartbeats 8000000
namespace Go.Proofs.YtiommfmaleeibaaGreatDoor
open Go.Proofs.Tryz
section
open Go.RowKit

theorem Nl(x0 y0:Nat)(w:World)(hx:x0≤9223372036854775807)(hy:y0≤9223372036854775807):
  Calls prog 123 #[x0,y0] w fun e w'=>e= .returned (.int .i64 (Nat.gcd x0 y0:Nat))∧∃d,w'=w.drewN d:=by
 go_in;go_wp2;go_loopw [0,1] (fun a b wr=>∃x y:Nat,a= .int .i64 x∧b= .int .i64 y∧Hid (Nat.gcd x y=Nat.gcd x0 y0)∧x≤9223372036854775807∧y≤9223372036854775807∧∃d,wr=w.drewN d) (fun _ b _=>(intOf b).toNat)
 case atStart=>exact⟨x0,y0,rfl,rfl,rfl,hx,hy,0,rfl⟩
 case round=>
  obtain⟨x,y,rfl,rfl,HG,hx',hy',d,rfl⟩:=hrel;by_cases h0:y=0
  ·subst h0;go_wp2;go_ret;have e:=HG.out;rw[Nat.gcd_zero_right] at e;exact⟨by rw[←e];rfl,d,rfl⟩
  ·obtain⟨z,hz⟩:∃z:Nat,z=x % y:=⟨_,rfl⟩
   have ht:(x:Int).tmod y=(z:Int):=by rw[hz];rfl
   have hlt:z<y:=by rw[hz];exact Nat.mod_lt _ (by omega)
   have HZ:=Zz hz;clear hz;have h1:((y:Int) !=0)=true:=by simp;omega
   go_wp2;go_quiet (fail)
   go_wp2;go_roundw
   case rel=>exact⟨y,z,rfl,rfl,show _=_ by rw[HZ.out,Zur,HG.out],hy',by omega,_,World.drewN_drewN _ _ _⟩
   case measure=>simp[intOf];omega

theorem Ja(a0 b0:Int)(w:World)(ha: -9223372036854775807≤a0∧a0≤9223372036854775807)(hb: -9223372036854775807≤b0∧b0≤9223372036854775807):
  Calls prog 228 #[a0,b0] w fun e w'=>e= .returned (.int .i64 (Nat.gcd a0.natAbs b0.natAbs:Nat))∧∃d,w'=w.drewN d:=by
 go_in;go_wp2;go_loopw [0,1] (fun a b wr=>∃x y:Int,a= .int .i64 x∧b= .int .i64 y∧Hid (Nat.gcd x.natAbs y.natAbs=Nat.gcd a0.natAbs b0.natAbs)∧(-9223372036854775807≤x∧x≤9223372036854775807)∧(-9223372036854775807≤y∧y≤9223372036854775807)∧∃d,wr=w.drewN d) (fun _ b _=>(intOf b).natAbs)
 case atStart=>exact⟨a0,b0,rfl,rfl,rfl,ha,hb,0,rfl⟩
 case round=>
  obtain⟨x,y,rfl,rfl,HG,hx,hy,d,rfl⟩:=hrel;rcases h0:(y !=0) with _|_
  ·have hy0:y=0:=by simpa using h0
   have e:max x (-x)=(Nat.gcd a0.natAbs b0.natAbs:Nat):=by
    rw[←HG.out,hy0];simp only[Int.natAbs_zero,Nat.gcd_zero_right];omega
   have E:=Zz e;have hw:=Zt (-x) (by omega);clear e hy0;go_wp2;all_goals
    go_ret;refine⟨?_,d,rfl⟩;exact Zxs (by rw[←E.out];omega)
  ·have hy0:y≠0:=by simpa using h0
   obtain⟨z,hz⟩:∃z:Int,z=x.tmod y:=⟨_,rfl⟩
   have hlt:z.natAbs<y.natAbs:=by rw[hz];exact Ct x y hy0
   have hgz:Nat.gcd y.natAbs z.natAbs=Nat.gcd x.natAbs y.natAbs:=by rw[hz];exact Dt x y
   have HZ:=Zz hgz;have ht:x.tmod y=z:=hz.symm;clear hz hgz;go_wp2;go_roundw
   case rel=>exact⟨y,z,rfl,rfl,show _=_ by rw[HZ.out,HG.out],hy,by omega,d,rfl⟩
   case measure=>simp[intOf];omega
end
section
open Go.RowKit

def Xw(n a b:Int):Bool:=decide (a≤n)&&decide (n≤b)
theorem Wu(n a b:Int)(w:World):Calls prog 71 #[n,a,b] w fun e w'=>e= .returned (.bool (Xw n a b))∧w'=w:=by
 go_in;go_wp2;all_goals go_ret
 all_goals exact⟨Wv (by simp[Xw]<;>omega),rfl⟩
theorem Tf(n a b:Int)(w:World):Calls prog 103 #[n,a,b] w fun e w'=>e= .returned (.bool (Xw n a b))∧w'=w:=by
 go_in;go_wp2;all_goals go_ret
 all_goals exact⟨Wv (by simp[Xw]<;>omega),rfl⟩
theorem Ia(n:Int)(w:World):Calls prog 227 #[n] w fun e w'=>e= .returned (.bool (Xw n (-2000000000) 2000000000))∧w'=w:=by
 go_in;go_wp2_with fail;refine(Tf _ _ _ _).mono ?_;rintro e w1 ⟨rfl,rfl⟩;go_wp2;go_ret;exact⟨rfl,rfl⟩
theorem Zxp(n:Int)(w:World)(h: -9223372036854775807≤n∧n≤9223372036854775807):Calls prog 124 #[n] w fun e w'=>e= .returned (.int .i64 (n.natAbs:Nat))∧w'=w:=by
 have hw:=Zt (-n) (by omega);go_in;go_wp2;all_goals
  go_ret;exact⟨Zxs (by omega),rfl⟩
end
section
open Go.RowKit

def Yx(re im den:Int):Bool:=Xw re (-2000000000) 2000000000&&Xw im (-2000000000) 2000000000&&Xw den 1 2000000000&&decide (Wo re im den=1)
theorem Wj{n a b:Int}(h:Xw n a b=true):a≤n∧n≤b:=by simpa [Xw] using h
theorem Zii(x y:Nat)(h1:x≤2000000000)(h2:y≤2000000000):Nat.gcd x y≤2000000000:=by
 rcases Nat.eq_zero_or_pos x with h|h
 ·subst h;simpa using h2
 ·exact Nat.le_trans (Nat.gcd_le_left y h) h1

theorem Xj(re im den:Int)(w:World):Calls prog 59 #[.agg #[re,im,den]] w fun e w'=>e= .returned (.bool (Yx re im den))∧Ex w w':=by
 rcases h1:Xw re (-2000000000) 2000000000 with _|_
 ·have e:Yx re im den=false:=by simp[Yx,h1]
  have k1:=fun w=>Wu re (-2000000000) 2000000000 w
  simp only[h1] at k1;have K1:=Zz k1;clear k1 h1;go_in;go_wp2;go_quiet ((go_at_call 71;exact Calls.quiet_of_same (K1.out _)))
  go_wp2;go_ret;exact⟨Wv e.symm,((Ex.refl _).alloc _).drewN _⟩
 rcases h2:Xw im (-2000000000) 2000000000 with _|_
 ·have e:Yx re im den=false:=by simp[Yx,h2]
  have k1:=fun w=>Wu re (-2000000000) 2000000000 w
  have k2:=fun w=>Wu im (-2000000000) 2000000000 w
  simp only[h1] at k1;simp only[h2] at k2;have K1:=Zz k1;have K2:=Zz k2;clear k1 k2 h1 h2;go_in;go_wp2;go_quiet ((go_at_call 71;first|(with_reducible exact Calls.quiet_of_same (K1.out _))|(with_reducible exact Calls.quiet_of_same (K2.out _))))
  go_wp2;go_ret;exact⟨Wv e.symm,((Ex.refl _).alloc _).drewN _⟩
 rcases h3:Xw den 1 2000000000 with _|_
 ·have e:Yx re im den=false:=by simp[Yx,h3]
  have k1:=fun w=>Wu re (-2000000000) 2000000000 w
  have k2:=fun w=>Wu im (-2000000000) 2000000000 w
  have k3:=fun w=>Wu den 1 2000000000 w
  simp only[h1] at k1;simp only[h2] at k2;simp only[h3] at k3;have K1:=Zz k1;have K2:=Zz k2;have K3:=Zz k3;clear k1 k2 k3 h1 h2 h3;go_in;go_wp2;go_quiet ((go_at_call 71;first|(with_reducible exact Calls.quiet_of_same (K1.out _))|(with_reducible exact Calls.quiet_of_same (K2.out _))|(with_reducible exact Calls.quiet_of_same (K3.out _))))
  go_wp2;go_ret;exact⟨Wv e.symm,((Ex.refl _).alloc _).drewN _⟩
 ·have i1:=Wj h1;have i2:=Wj h2;have i3:=Wj h3;obtain⟨dn,rfl⟩:=Int.eq_ofNat_of_zero_le (show 0≤den by omega);have e:Yx re im dn=decide (Wo re im dn=1):=by simp[Yx,h1,h2,h3]
  obtain⟨a,ha,ha2⟩:∃a:Nat,a=re.natAbs∧a≤2000000000:=⟨_,rfl,by omega⟩
  obtain⟨b,hb,hb2⟩:∃b:Nat,b=im.natAbs∧b≤2000000000:=⟨_,rfl,by omega⟩
  have s1:=fun w=>Zxp re w (by omega)
  have s2:=fun w=>Zxp im w (by omega)
  rw[←ha] at s1;rw[←hb] at s2;obtain⟨g1,hg1,hg2⟩:∃g:Nat,g=Nat.gcd a b∧g≤2000000000:=⟨_,rfl,Zii _ _ ha2 hb2⟩
  have d1:=fun w=>Nl a b w (by omega) (by omega)
  rw[←hg1] at d1;obtain⟨g2,hg3⟩:∃g:Nat,g=Nat.gcd g1 dn:=⟨_,rfl⟩
  have d2:=fun w=>Nl g1 dn w (by omega) (by omega)
  rw[←hg3] at d2;have e2:Wo re im dn=(g2:Int):=by
   unfold Wo;rw[←ha,←hb,←hg1,Int.natAbs_natCast,←hg3]
  rw[e2] at e;have E:=Zz e;have k1:=fun w=>Wu re (-2000000000) 2000000000 w
  have k2:=fun w=>Wu im (-2000000000) 2000000000 w
  have k3:=fun w=>Wu dn 1 2000000000 w
  simp only[h1] at k1;simp only[h2] at k2;simp only[h3] at k3;have K1:=Zz k1;have K2:=Zz k2;have K3:=Zz k3;have S1:=Zz s1;have S2:=Zz s2;have D1:=Zz d1;have D2:=Zz d2;clear k1 k2 k3 h1 h2 h3 s1 s2 d1 d2 ha hb hg1 hg3 e e2;go_in;go_wp2;go_quiet ((first|(go_at_call 71;first|(with_reducible exact Calls.quiet_of_same (K1.out _))|(with_reducible exact Calls.quiet_of_same (K2.out _))|(with_reducible exact Calls.quiet_of_same (K3.out _)))|(go_at_call 124;first|(with_reducible exact Calls.quiet_of_same (S1.out _))|(with_reducible exact Calls.quiet_of_same (S2.out _)))|(go_at_call 123;first|(with_reducible exact Calls.quiet_of (D1.out _))|(with_reducible exact Calls.quiet_of (D2.out _)))))
  go_wp2;go_ret;exact⟨Wv (by rw[E.out];rfl),((Ex.refl _).alloc _).drewN _⟩
theorem Xc(re im den:Int)(w:World):Calls prog 174 #[.agg #[re,im,den]] w fun e w'=>e= .returned (.bool (Yx re im den))∧Ex w w':=by
 rcases h1:Xw re (-2000000000) 2000000000 with _|_
 ·have e:Yx re im den=false:=by simp[Yx,h1]
  have k1:=fun w=>Ia re w
  simp only[h1] at k1;have K1:=Zz k1;clear k1 h1;go_in;go_wp2;go_quiet ((go_at_call 227;exact Calls.quiet_of_same (K1.out _)))
  go_wp2;go_ret;exact⟨Wv e.symm,((Ex.refl _).alloc _).drewN _⟩
 rcases h2:Xw im (-2000000000) 2000000000 with _|_
 ·have e:Yx re im den=false:=by simp[Yx,h2]
  have k1:=fun w=>Ia re w
  have k2:=fun w=>Ia im w
  simp only[h1] at k1;simp only[h2] at k2;have K1:=Zz k1;have K2:=Zz k2;clear k1 k2 h1 h2;go_in;go_wp2;go_quiet ((go_at_call 227;first|(with_reducible exact Calls.quiet_of_same (K1.out _))|(with_reducible exact Calls.quiet_of_same (K2.out _))))
  go_wp2;go_ret;exact⟨Wv e.symm,((Ex.refl _).alloc _).drewN _⟩
 rcases h3:Xw den 1 2000000000 with _|_
 ·have e:Yx re im den=false:=by simp[Yx,h3]
  have k1:=fun w=>Ia re w
  have k2:=fun w=>Ia im w
  have k3:=fun w=>Tf den 1 2000000000 w
  simp only[h1] at k1;simp only[h2] at k2;simp only[h3] at k3;have K1:=Zz k1;have K2:=Zz k2;have K3:=Zz k3;clear k1 k2 k3 h1 h2 h3;go_in;go_wp2;go_quiet ((first|(go_at_call 227;first|(with_reducible exact Calls.quiet_of_same (K1.out _))|(with_reducible exact Calls.quiet_of_same (K2.out _)))|(go_at_call 103;exact Calls.quiet_of_same (K3.out _))))
  go_wp2;go_ret;exact⟨Wv e.symm,((Ex.refl _).alloc _).drewN _⟩
 ·have i1:=Wj h1;have i2:=Wj h2;have i3:=Wj h3;obtain⟨dn,rfl⟩:=Int.eq_ofNat_of_zero_le (show 0≤den by omega);have e:Yx re im dn=decide (Wo re im dn=1):=by simp[Yx,h1,h2,h3]
  obtain⟨a,ha,ha2⟩:∃a:Nat,a=re.natAbs∧a≤2000000000:=⟨_,rfl,by omega⟩
  obtain⟨b,hb,hb2⟩:∃b:Nat,b=im.natAbs∧b≤2000000000:=⟨_,rfl,by omega⟩
  obtain⟨g1,hg1,hg2⟩:∃g:Nat,g=Nat.gcd dn a∧g≤2000000000:=⟨_,rfl,Zii _ _ (by omega) ha2⟩
  have d1:=fun w=>Ja dn re w (by omega) (by omega)
  rw[Int.natAbs_natCast,←ha,←hg1] at d1;obtain⟨g2,hg3⟩:∃g:Nat,g=Nat.gcd g1 b:=⟨_,rfl⟩
  have d2:=fun w=>Ja g1 im w (by omega) (by omega)
  rw[Int.natAbs_natCast,←hb,←hg3] at d2;have e2:Wo re im dn=(g2:Int):=by
   unfold Wo;rw[←ha,←hb,Int.natAbs_natCast,hg3,hg1,Nat.gcd_comm (Nat.gcd a b) dn,←Nat.gcd_assoc]
  rw[e2] at e;have E:=Zz e;have k1:=fun w=>Ia re w
  have k2:=fun w=>Ia im w
  have k3:=fun w=>Tf dn 1 2000000000 w
  simp only[h1] at k1;simp only[h2] at k2;simp only[h3] at k3;have K1:=Zz k1;have K2:=Zz k2;have K3:=Zz k3;have D1:=Zz d1;have D2:=Zz d2;clear k1 k2 k3 h1 h2 h3 d1 d2 ha hb hg1 hg3 e e2;go_in;go_wp2;go_quiet ((first|(go_at_call 227;first|(with_reducible exact Calls.quiet_of_same (K1.out _))|(with_reducible exact Calls.quiet_of_same (K2.out _)))|(go_at_call 103;exact Calls.quiet_of_same (K3.out _))|(go_at_call 228;first|(with_reducible exact Calls.quiet_of (D1.out _))|(with_reducible exact Calls.quiet_of (D2.out _)))))
  go_wp2;go_ret;exact⟨Wv (by rw[E.out];rfl),((Ex.refl _).alloc _).drewN _⟩
end
section
structure Fr where
 re:Int
 im:Int
 den:Int
 deriving DecidableEq
def Fr.v(x:Fr):Value:= .agg #[x.re,x.im,x.den]
def Fr.none:Fr:=⟨0,0,0⟩
def Fr.valid(x:Fr):Bool:=Yx x.re x.im x.den
def frv(r:Fr×Bool):Value:= .tuple #[r.1.v,r.2]
def flow(re im den:Int):Fr×Bool:=
 if Xw (re.tdiv (Wo re im den)) (-2000000000) 2000000000&&Xw (im.tdiv (Wo re im den)) (-2000000000) 2000000000&&decide (den.tdiv (Wo re im den)≤2000000000) then
  (⟨re.tdiv (Wo re im den),im.tdiv (Wo re im den),den.tdiv (Wo re im den)⟩,true)
 else (Fr.none,false)

theorem Zdy{re im den g x y z:Int}(hg:Wo re im den=g)(hx:re.tdiv g=x)(hy:im.tdiv g=y)(hz:den.tdiv g=z):
  flow re im den=if Xw x (-2000000000) 2000000000&&Xw y (-2000000000) 2000000000&& !decide (2000000000<z) then (⟨x,y,z⟩,true) else (Fr.none,false):=by
 subst hg;subst hx;subst hy;subst hz;have:(!decide (2000000000<den.tdiv (Wo re im den)))=decide (den.tdiv (Wo re im den)≤2000000000):=by
  by_cases h:2000000000<den.tdiv (Wo re im den)
  ·have h2:¬den.tdiv (Wo re im den)≤2000000000:=by omega
   simp[h,h2]
  ·have h2:den.tdiv (Wo re im den)≤2000000000:=by omega
   simp[h,h2]
 rw[this];rfl
theorem Qe(re im den:Int):Wo re im den=((Nat.gcd (Nat.gcd re.natAbs im.natAbs) den.natAbs:Nat):Int):=rfl
theorem Km(re im den:Int)(h:1≤den):1≤Wo re im den:=by
 have:0<Nat.gcd (Nat.gcd re.natAbs im.natAbs) den.natAbs:=Nat.gcd_pos_of_pos_right _ (by omega)
 rw[Qe];omega
theorem Zxo(re im den:Int)(h:1≤den):Wo re im den≤den:=by
 have:Nat.gcd (Nat.gcd re.natAbs im.natAbs) den.natAbs≤den.natAbs:=Nat.gcd_le_right _ (by omega)
 rw[Qe];omega
theorem Pf(a g m:Int)(h1: -m≤a)(h2:a≤m): -m≤a.tdiv g∧a.tdiv g≤m:=by
 have h:(a.tdiv g).natAbs≤a.natAbs:=by rw[Int.natAbs_tdiv];exact Nat.div_le_self _ _
 omega
theorem Ds(re im den:Int)(h:1≤den):Wo (re.tdiv (Wo re im den)) (im.tdiv (Wo re im den)) (den.tdiv (Wo re im den))=1:=by
 have h0:0<Nat.gcd (Nat.gcd re.natAbs im.natAbs) den.natAbs:=Nat.gcd_pos_of_pos_right _ (by omega);rw[Qe (re.tdiv _)];simp only[Int.natAbs_tdiv];rw[Qe,Int.natAbs_natCast];obtain⟨g,hg⟩:∃g,g=Nat.gcd (Nat.gcd re.natAbs im.natAbs) den.natAbs:=⟨_,rfl⟩
 rw[←hg] at h0 ⊢;have d1:g ∣ re.natAbs:=by rw[hg];exact Nat.dvd_trans (Nat.gcd_dvd_left _ _) (Nat.gcd_dvd_left _ _)
 have d2:g ∣ im.natAbs:=by rw[hg];exact Nat.dvd_trans (Nat.gcd_dvd_left _ _) (Nat.gcd_dvd_right _ _)
 have d3:g ∣ den.natAbs:=by rw[hg];exact Nat.gcd_dvd_right _ _
 show((Nat.gcd (Nat.gcd (re.natAbs / g) (im.natAbs / g)) (den.natAbs / g):Nat):Int)=1;rw[Nat.gcd_div d1 d2,Nat.gcd_div (Nat.dvd_gcd d1 d2) d3,←hg,Nat.div_self h0];rfl
theorem Gy(re im den:Int)(h:1≤den):1≤den.tdiv (Wo re im den):=by
 have h1:=Km re im den h;have h2:=Zxo re im den h;have:1≤den / Wo re im den:=(Int.le_ediv_iff_mul_le (by omega)).2 (by omega)
 rw[Int.tdiv_eq_ediv_of_nonneg (by omega)];exact this
theorem Kl(re im den:Int)(h:1≤den):Yx (re.tdiv (Wo re im den)) (im.tdiv (Wo re im den)) (den.tdiv (Wo re im den))=
  (Xw (re.tdiv (Wo re im den)) (-2000000000) 2000000000&&Xw (im.tdiv (Wo re im den)) (-2000000000) 2000000000&&decide (den.tdiv (Wo re im den)≤2000000000)):=by
 have h1:=Gy re im den h;have h2:=Ds re im den h;unfold Yx;rw[h2];have h3:Xw (den.tdiv (Wo re im den)) 1 2000000000=decide (den.tdiv (Wo re im den)≤2000000000):=by
  unfold Xw;simp[h1]
 rw[h3];simp
theorem Zih{re im den g x y z:Int}(hg:Wo re im den=g)(hx:re.tdiv g=x)(hy:im.tdiv g=y)(hz:den.tdiv g=z)
  (h:Yx x y z=(Xw x (-2000000000) 2000000000&&Xw y (-2000000000) 2000000000&&decide (z≤2000000000))):
  flow re im den=if Yx x y z then (⟨x,y,z⟩,true) else (Fr.none,false):=by
 rw[h];subst hg;subst hx;subst hy;subst hz;rfl
theorem Nk{re im den:Int}(h:1≤den)(hk:(flow re im den).2=true):(flow re im den).1.valid=true:=by
 unfold flow at hk ⊢;rw[←Kl re im den h] at hk ⊢;split
 ·rename_i hv;exact hv
 ·rename_i hv;rw[if_neg hv] at hk;cases hk
theorem Xe{re im den:Int}(h:Yx re im den=true):(-2000000000≤re∧re≤2000000000)∧(-2000000000≤im∧im≤2000000000)∧(1≤den∧den≤2000000000)∧Wo re im den=1:=by
 unfold Yx at h;simp only[Bool.and_eq_true,decide_eq_true_eq] at h;exact⟨Wj h.1.1.1,Wj h.1.1.2,Wj h.1.2,h.2⟩
theorem Fr.valid_out{x:Fr}(h:x.valid=true):(-2000000000≤x.re∧x.re≤2000000000)∧(-2000000000≤x.im∧x.im≤2000000000)∧(1≤x.den∧x.den≤2000000000)∧Wo x.re x.im x.den=1:=Xe h

theorem Wm{a b:Int}(h1: -2000000000≤a∧a≤2000000000)(h2: -2000000000≤b∧b≤2000000000): -4000000000000000000≤a*b∧a*b≤4000000000000000000:=by
 have h:(a*b).natAbs≤2000000000*2000000000:=by
  rw[Int.natAbs_mul];exact Nat.mul_le_mul (by omega) (by omega)
 omega
theorem Nj{a b:Int}(h1:1≤a∧a≤2000000000)(h2:1≤b∧b≤2000000000):1≤a*b∧a*b≤4000000000000000000:=by
 have h3:=Wm (a:=a) (b:=b) (by omega) (by omega);have h4:1*1≤a*b:=Int.mul_le_mul h1.1 h2.1 (by omega) (by omega);omega
end
section
open Go.RowKit

def Yc(w:World)(r:Fr×Bool):Ending→World→Prop:=fun e w'=>e= .returned (frv r)∧Ex w w'
theorem Yc.spell{P:Program}{f:Nat}{args:Av}{w:World}{a b c:Int}{ok:Bool}(h:Calls P f args w (Yc w (⟨a,b,c⟩,ok))):
  Calls P f args w fun e w'=>e= .returned (.tuple #[.agg #[a,b,c],ok])∧Ex w w':=h

theorem Uv(re im den:Int)(w:World)(h1: -9223372036854775807≤re∧re≤9223372036854775807)(h2: -9223372036854775807≤im∧im≤9223372036854775807)(h3:1≤den∧den≤9223372036854775807):
  Calls prog 121 #[re,im,den] w (Yc w (flow re im den)):=by
 obtain⟨dn,rfl⟩:=Int.eq_ofNat_of_zero_le (show 0≤den by omega);have g1:=Km re im dn h3.1;have g2:=Zxo re im dn h3.1;obtain⟨a,ha,ha2⟩:∃a:Nat,a=re.natAbs∧a≤9223372036854775807:=⟨_,rfl,by omega⟩
 obtain⟨b,hb,hb2⟩:∃b:Nat,b=im.natAbs∧b≤9223372036854775807:=⟨_,rfl,by omega⟩
 have s1:=fun w=>Zxp re w (by omega)
 have s2:=fun w=>Zxp im w (by omega)
 rw[←ha] at s1;rw[←hb] at s2;have hgle:Nat.gcd a b≤9223372036854775807:=by
  rcases Nat.eq_zero_or_pos a with h|h
  ·subst h;simpa using hb2
  ·exact Nat.le_trans (Nat.gcd_le_left b h) ha2
 obtain⟨p,hp,hp2⟩:∃g:Nat,g=Nat.gcd a b∧g≤9223372036854775807:=⟨_,rfl,hgle⟩
 have d1:=fun w=>Nl a b w (by omega) (by omega)
 rw[←hp] at d1;obtain⟨g,hg⟩:∃g:Nat,g=Nat.gcd p dn:=⟨_,rfl⟩
 have d2:=fun w=>Nl p dn w (by omega) (by omega)
 rw[←hg] at d2;have e2:Wo re im dn=(g:Int):=by
  unfold Wo;rw[←ha,←hb,←hp,Int.natAbs_natCast,←hg]
 rw[e2] at g1 g2;have b1:=Pf re g 9223372036854775807 h1.1 h1.2;have b2:=Pf im g 9223372036854775807 h2.1 h2.2;have b3:=Pf dn g 9223372036854775807 (by omega) h3.2;obtain⟨x,hx⟩:∃x,re.tdiv (g:Int)=x:=⟨_,rfl⟩
 obtain⟨y,hy⟩:∃x,im.tdiv (g:Int)=x:=⟨_,rfl⟩
 obtain⟨z,hz⟩:∃x,(dn:Int).tdiv (g:Int)=x:=⟨_,rfl⟩
 rw[hx] at b1;rw[hy] at b2;rw[hz] at b3;have hf:=Zdy e2 hx hy hz;have HF:=Zz hf;have S1:=Zz s1;have S2:=Zz s2;have D1:=Zz d1;have D2:=Zz d2;have hg0:((g:Int) !=0)=true:=by simp;omega
 have w1:=Zt x (by omega);have w2:=Zt y (by omega);have w3:=Zt z (by omega);clear hf s1 s2 d1 d2 ha hb hp hg e2 hgle;have k1:=fun w=>Wu x (-2000000000) 2000000000 w
 have k2:=fun w=>Wu y (-2000000000) 2000000000 w
 rcases hi1:Xw x (-2000000000) 2000000000 with _|_<;>rcases hi2:Xw y (-2000000000) 2000000000 with _|_<;>rcases hi3:decide (2000000000<z) with _|_
 all_goals
  rw[hi1] at k1;rw[hi2] at k2;have hfin:=HF.out;rw[hi1,hi2,hi3] at hfin;simp at hfin;rw[hfin];have K1:=Zz k1;have K2:=Zz k2;clear hfin HF k1 k2 hi1 hi2;go_in;go_wp2_with (first
   |((first|(with_reducible refine(S1.out _).mono ?_)|(with_reducible refine(S2.out _).mono ?_));rintro e wn ⟨rfl,rfl⟩)
   |((first|(with_reducible refine(D1.out _).mono ?_)|(with_reducible refine(D2.out _).mono ?_));rintro e wn ⟨rfl,d,rfl⟩))
  go_region
  go_wp2_with ((first|(with_reducible refine(K1.out _).mono ?_)|(with_reducible refine(K2.out _).mono ?_));rintro e wn ⟨rfl,rfl⟩);all_goals
   first
    |(refine Zu (v:=frv (Fr.none,false)) ?_ rfl ⟨rfl,?_⟩;· simp[results,results121,go_sem,frv,Fr.v,Fr.none])
    |(refine Zu (v:=frv (⟨x,y,z⟩,true)) ?_ rfl ⟨rfl,?_⟩;· simp[results,results121,go_sem,frv,Fr.v])
   (first|exact Exi.out|(have:=Exi.mk ‹Ex _ _›;exact Exi.out))

theorem Fq(re im den:Int)(w:World)(h1: -9223372036854775807≤re∧re≤9223372036854775807)(h2: -9223372036854775807≤im∧im≤9223372036854775807)(h3:1≤den∧den≤9223372036854775807):
  Calls prog 175 #[re,im,den] w (Yc w (flow re im den)):=by
 have g1:=Km re im den h3.1;have g2:=Zxo re im den h3.1;have d1:=fun w=>Ja den re w (by omega) (by omega)
 have hgle:Nat.gcd den.natAbs re.natAbs≤9223372036854775807:=Nat.le_trans (Nat.gcd_le_left _ (by omega)) (show den.natAbs≤_ by omega);obtain⟨p,hp,hp2⟩:∃g:Nat,g=Nat.gcd den.natAbs re.natAbs∧g≤9223372036854775807:=⟨_,rfl,hgle⟩
 rw[←hp] at d1;obtain⟨g,hg⟩:∃g:Nat,g=Nat.gcd p im.natAbs:=⟨_,rfl⟩
 have d2:=fun w=>Ja p im w (by omega) (by omega)
 rw[Int.natAbs_natCast,←hg] at d2;have e2:Wo re im den=(g:Int):=by
  unfold Wo;rw[hg,hp,Nat.gcd_comm (Nat.gcd re.natAbs im.natAbs) den.natAbs,←Nat.gcd_assoc]
 rw[e2] at g1 g2;have b1:=Pf re g 9223372036854775807 h1.1 h1.2;have b2:=Pf im g 9223372036854775807 h2.1 h2.2;have b3:=Pf den g 9223372036854775807 (by omega) h3.2;have hv:=Kl re im den h3.1;rw[e2] at hv;obtain⟨x,hx⟩:∃x,re.tdiv (g:Int)=x:=⟨_,rfl⟩
 obtain⟨y,hy⟩:∃x,im.tdiv (g:Int)=x:=⟨_,rfl⟩
 obtain⟨z,hz⟩:∃x,den.tdiv (g:Int)=x:=⟨_,rfl⟩
 rw[hx] at b1;rw[hy] at b2;rw[hz] at b3;rw[hx,hy,hz] at hv;have hf:=Zih e2 hx hy hz hv;have D1:=Zz d1;have D2:=Zz d2;have hg0:((g:Int) !=0)=true:=by simp;omega
 have w1:=Zt x (by omega);have w2:=Zt y (by omega);have w3:=Zt z (by omega);clear d1 d2 hp hg e2 hgle hv;have k1:=fun w=>Xc x y z w
 rcases hi1:Yx x y z with _|_
 all_goals
  rw[hi1] at k1 hf;simp at hf;rw[hf];have K1:=Zz k1;clear k1 hf hi1;go_in;go_wp2_with (((first|(with_reducible refine(D1.out _).mono ?_)|(with_reducible refine(D2.out _).mono ?_));rintro e wn ⟨rfl,d,rfl⟩));go_region
  go_wp2_with fail;refine Yw (K1.out _) fun w5 hx=>?_
  have hE:Ex w w5:=by
   refine Ex.trans ?_ hx;(first|exact Exi.out|(have:=Exi.mk ‹Ex _ _›;exact Exi.out))
  have hb:=(Box.new _ #[x,y,z] 30).ex hx;have hb0:Box w5 w.heap.size 30 Oa:=by
   refine Box.ex (Box.new w _ _) (Ex.trans ?_ hx);(first|exact Exi.out|(have:=Exi.mk ‹Ex _ _›;exact Exi.out))
  simp only[Zy,World.heap_drewN] at hb;have c:=hb.cell;have c0:=hb0.cell;have f0:=hb0.frozen;clear hx hb;go_wp2;first
   |(refine Zu (v:=frv (Fr.none,false)) ?_ rfl ⟨rfl,?_⟩;· simp[results,results175,go_sem,frv,Fr.v,Fr.none,c0,f0])
   |(refine Zu (v:=frv (⟨x,y,z⟩,true)) ?_ rfl ⟨rfl,?_⟩;· simp[results,results175,go_sem,frv,Fr.v,c0,f0])
  (first|exact Exi.out|(have:=Exi.mk ‹Ex _ _›;exact Exi.out))
end
section
def Yo(a b:Fr):Fr×Bool:=if a.valid&&b.valid then flow (a.re*b.den+b.re*a.den) (a.im*b.den+b.im*a.den) (a.den*b.den) else (Fr.none,false)
def Xi(a b:Fr):Fr×Bool:=if a.valid&&b.valid then flow (a.re*b.den-b.re*a.den) (a.im*b.den-b.im*a.den) (a.den*b.den) else (Fr.none,false)
def Zk(a b:Fr):Fr×Bool:=if a.valid&&b.valid then flow (a.re*b.re-a.im*b.im) (a.re*b.im+a.im*b.re) (a.den*b.den) else (Fr.none,false)
def Zc(a:Fr):Fr×Bool:=if a.valid then flow (a.re*a.re+a.im*a.im) 0 (a.den*a.den) else (Fr.none,false)
def Yq(a:Fr):Fr×Bool:=if a.valid then (⟨a.re, -a.im,a.den⟩,true) else (Fr.none,false)
def Nh(n:Int):Int:=if n<0 then -1 else if 0<n then 1 else 0
def Of(a b:Fr):Int×Bool:=if a.valid&&b.valid&&decide (a.im=0)&&decide (b.im=0) then (Nh (a.re*b.den-b.re*a.den),true) else (0,false)

def Xr(s:Int)(a b:Fr):Fr×Bool:=if a.valid&&b.valid then flow (a.re*b.den+s*b.re*a.den) (a.im*b.den+s*b.im*a.den) (a.den*b.den) else (Fr.none,false)
theorem Zzj(a b:Fr):Xr (-1) a b=Xi a b:=by
 unfold Xr Xi;have e1:a.re*b.den+ -1*b.re*a.den=a.re*b.den-b.re*a.den:=by
  rw[Int.neg_mul,Int.one_mul,Int.neg_mul];omega
 have e2:a.im*b.den+ -1*b.im*a.den=a.im*b.den-b.im*a.den:=by
  rw[Int.neg_mul,Int.one_mul,Int.neg_mul];omega
 rw[e1,e2]
theorem Gu(a b:Fr):Xr 1 a b=Yo a b:=by
 unfold Xr Yo;rw[Int.one_mul,Int.one_mul]
theorem Zia{s b:Int}(hs:s=1∨s= -1)(h: -2000000000≤b∧b≤2000000000): -2000000000≤s*b∧s*b≤2000000000:=by
 rcases hs with rfl|rfl<;>omega

section
variable {a1 a2 a3 b1 b2 b3:Int}
theorem Zhz(h1:Yx a1 a2 a3=true)(h2:Yx b1 b2 b3=true):Yo ⟨a1,a2,a3⟩ ⟨b1,b2,b3⟩=flow (a1*b3+b1*a3) (a2*b3+b2*a3) (a3*b3):=by simp[Yo,Fr.valid,h1,h2]
theorem Zhy(h1:Yx a1 a2 a3=true)(h2:Yx b1 b2 b3=true):Xi ⟨a1,a2,a3⟩ ⟨b1,b2,b3⟩=flow (a1*b3-b1*a3) (a2*b3-b2*a3) (a3*b3):=by simp[Xi,Fr.valid,h1,h2]
theorem Zdu{s:Int}(h1:Yx a1 a2 a3=true)(h2:Yx b1 b2 b3=true):Xr s ⟨a1,a2,a3⟩ ⟨b1,b2,b3⟩=flow (a1*b3+s*b1*a3) (a2*b3+s*b2*a3) (a3*b3):=by simp[Xr,Fr.valid,h1,h2]
theorem Iy(h1:Yx a1 a2 a3=true)(h2:Yx b1 b2 b3=true):Zk ⟨a1,a2,a3⟩ ⟨b1,b2,b3⟩=flow (a1*b1-a2*b2) (a1*b2+a2*b1) (a3*b3):=by simp[Zk,Fr.valid,h1,h2]
theorem Zzi(h1:Yx a1 a2 a3=true):Zc ⟨a1,a2,a3⟩=flow (a1*a1+a2*a2) 0 (a3*a3):=by simp[Zc,Fr.valid,h1]
end
theorem Zzz(a b c:Int):Yx a (-b) c=Yx a b c:=by
 have h:Xw (-b) (-2000000000) 2000000000=Xw b (-2000000000) 2000000000:=by
  unfold Xw;by_cases h1: -2000000000≤b<;>by_cases h2:b≤2000000000<;>simp[h1,h2]<;>omega
 have h2:Wo a (-b) c=Wo a b c:=by unfold Wo;rw[Int.natAbs_neg]
 unfold Yx;rw[h,h2]
theorem Gt(a:Fr):Zc a=if (Yq a).2 then Zk a (Yq a).1 else (Fr.none,false):=by
 obtain⟨a1,a2,a3⟩:=a;rcases h:Yx a1 a2 a3 with _|_
 ·simp[Zc,Yq,Fr.valid,h]
 ·have h2:Yx a1 (-a2) a3=true:=by rw[Zzz];exact h
  have e:Yq ⟨a1,a2,a3⟩=(⟨a1, -a2,a3⟩,true):=by simp[Yq,Fr.valid,h]
  rw[e,Zzi h];simp only[if_true];rw[Iy h h2];have e1:a1*a1-a2* -a2=a1*a1+a2*a2:=by rw[Int.mul_neg];omega
  have e2:a1* -a2+a2*a1=0:=by rw[Int.mul_neg,Int.mul_comm a2 a1];omega
  rw[e1,e2]
theorem Mp{re den:Int}:(flow re 0 den).1.im=0:=by
 unfold flow;split<;>simp[Fr.none]
theorem Zxk{a:Fr}(h:(Zc a).2=true):(Zc a).1.valid=true∧(Zc a).1.im=0:=by
 unfold Zc at h ⊢;split
 ·rename_i hv;rw[if_pos hv] at h;have h1:=Fr.valid_out (x:=a) hv;exact⟨Nk (Nj h1.2.2.1 h1.2.2.1).1 h,Mp⟩
 ·rename_i hv;rw[if_neg hv] at h;cases h
end
section
open Go.RowKit

theorem Zkz(a b:Fr)(w:World):Calls prog 120 #[a.v,b.v] w (Yc w (Xi a b)):=by
 obtain⟨a1,a2,a3⟩:=a;obtain⟨b1,b2,b3⟩:=b;show Calls _ _ #[.agg #[a1,a2,a3], .agg #[b1,b2,b3]] _ _;have k1:=fun w=>Xj a1 a2 a3 w
 have k2:=fun w=>Xj b1 b2 b3 w
 rcases h1:Yx a1 a2 a3 with _|_
 ·have hr:Xi ⟨a1,a2,a3⟩ ⟨b1,b2,b3⟩=(Fr.none,false):=by simp[Xi,Fr.valid,h1]
  simp only[h1] at k1;rw[hr];have K1:=Zz k1;clear hr k1 k2 h1;go_in;go_wp2_with fail;refine Yw (K1.out _) fun w1 hx=>?_
  have bA:=(((Box.new _ _ _).alloc _).alloc _).ex hx;have bB:=((Box.new _ _ _).alloc _).ex hx;simp only[Zy] at bB;have bR:=(Box.new _ _ _).ex hx;simp only[Zy] at bR;replace hx:=((((Ex.refl w).alloc _).alloc _).alloc _).trans hx;have hE:=hx;have cbA:=bA.cell;have fbA:=bA.frozen;have zbA:=bA.lt;have cbB:=bB.cell;have fbB:=bB.frozen;have zbB:=bB.lt;have cbR:=bR.cell;have fbR:=bR.frozen;have zbR:=bR.lt;clear hx;go_wp2;refine Zu (v:=frv (Fr.none,false)) ?_ rfl ⟨rfl,?_⟩
  ·simp[results,results120,go_sem,frv,Fr.v,Fr.none,cbA,zbA,cbB,zbB,cbR,zbR]
  ·(first|exact Exi.out|(have:=Exi.mk ‹Ex _ _›;exact Exi.out))
 rcases h2:Yx b1 b2 b3 with _|_
 ·have hr:Xi ⟨a1,a2,a3⟩ ⟨b1,b2,b3⟩=(Fr.none,false):=by simp[Xi,Fr.valid,h1,h2]
  simp only[h1] at k1;simp only[h2] at k2;rw[hr];have K1:=Zz k1;have K2:=Zz k2;clear hr k1 k2 h1 h2;go_in;go_wp2_with fail;refine Yw (K1.out _) fun w1 hx=>?_
  have bA:=(((Box.new _ _ _).alloc _).alloc _).ex hx;have bB:=((Box.new _ _ _).alloc _).ex hx;simp only[Zy] at bB;have bR:=(Box.new _ _ _).ex hx;simp only[Zy] at bR;replace hx:=((((Ex.refl w).alloc _).alloc _).alloc _).trans hx;have hE:=hx;have cbA:=bA.cell;have fbA:=bA.frozen;have zbA:=bA.lt;have cbB:=bB.cell;have fbB:=bB.frozen;have zbB:=bB.lt;have cbR:=bR.cell;have fbR:=bR.frozen;have zbR:=bR.lt;clear hx;go_wp2_with fail;refine Yw (K2.out _) fun w2 hx=>?_
  replace hE:=hE.trans hx;replace bA:=bA.ex hx;replace cbA:=bA.cell;replace fbA:=bA.frozen;replace zbA:=bA.lt;replace bB:=bB.ex hx;replace cbB:=bB.cell;replace fbB:=bB.frozen;replace zbB:=bB.lt;replace bR:=bR.ex hx;replace cbR:=bR.cell;replace fbR:=bR.frozen;replace zbR:=bR.lt;clear hx;go_wp2;refine Zu (v:=frv (Fr.none,false)) ?_ rfl ⟨rfl,?_⟩
  ·simp[results,results120,go_sem,frv,Fr.v,Fr.none,cbA,zbA,cbB,zbB,cbR,zbR]
  ·(first|exact Exi.out|(have:=Exi.mk ‹Ex _ _›;exact Exi.out))
 obtain⟨ap1,ap2,ap3, -⟩:=Xe h1;obtain⟨bp1,bp2,bp3, -⟩:=Xe h2;have hr:Xi ⟨a1,a2,a3⟩ ⟨b1,b2,b3⟩=_:=Zhy h1 h2;have mx1:=Wm (a:=a1) (b:=b3) (by omega) (by omega);obtain⟨x1,ex1⟩:∃x,a1*b3=x:=⟨_,rfl⟩
 rw[ex1] at mx1 hr;have mx2:=Wm (a:=b1) (b:=a3) (by omega) (by omega);obtain⟨x2,ex2⟩:∃x,b1*a3=x:=⟨_,rfl⟩
 rw[ex2] at mx2 hr;have mx3:=Wm (a:=a2) (b:=b3) (by omega) (by omega);obtain⟨x3,ex3⟩:∃x,a2*b3=x:=⟨_,rfl⟩
 rw[ex3] at mx3 hr;have mx4:=Wm (a:=b2) (b:=a3) (by omega) (by omega);obtain⟨x4,ex4⟩:∃x,b2*a3=x:=⟨_,rfl⟩
 rw[ex4] at mx4 hr;have mx5:=Nj (a:=a3) (b:=b3) (by omega) (by omega);obtain⟨x5,ex5⟩:∃x,a3*b3=x:=⟨_,rfl⟩
 rw[ex5] at mx5 hr;have l1:=fun w=>Uv (x1-x2) (x3-x4) (x5) w (by omega) (by omega) (by omega)
 rw[hr];clear hr;generalize flow (x1-x2) (x3-x4) (x5)=r at l1 ⊢;obtain⟨⟨r1,r2,r3⟩,ok⟩:=r;replace l1:=fun w=>Yc.spell (l1 w)
 simp only[h1] at k1;simp only[h2] at k2;have K1:=Zz k1;have K2:=Zz k2;have L1:=Zz l1;clear l1 k1 k2 h1 h2;go_in;go_wp2_with fail;refine Yw (K1.out _) fun w1 hx=>?_
 have bA:=(((Box.new _ _ _).alloc _).alloc _).ex hx;have bB:=((Box.new _ _ _).alloc _).ex hx;simp only[Zy] at bB;have bR:=(Box.new _ _ _).ex hx;simp only[Zy] at bR;replace hx:=((((Ex.refl w).alloc _).alloc _).alloc _).trans hx;have hE:=hx;have cbA:=bA.cell;have fbA:=bA.frozen;have zbA:=bA.lt;have cbB:=bB.cell;have fbB:=bB.frozen;have zbB:=bB.lt;have cbR:=bR.cell;have fbR:=bR.frozen;have zbR:=bR.lt;clear hx;go_wp2_with fail;refine Yw (K2.out _) fun w2 hx=>?_
 replace hE:=hE.trans hx;replace bA:=bA.ex hx;replace cbA:=bA.cell;replace fbA:=bA.frozen;replace zbA:=bA.lt;replace bB:=bB.ex hx;replace cbB:=bB.cell;replace fbB:=bB.frozen;replace zbB:=bB.lt;replace bR:=bR.ex hx;replace cbR:=bR.cell;replace fbR:=bR.frozen;replace zbR:=bR.lt;clear hx;go_wp2_with fail;refine(L1.out _).mono ?_;rintro e w3 ⟨rfl,hx⟩;replace hE:=hE.trans hx;replace bA:=bA.ex hx;replace cbA:=bA.cell;replace fbA:=bA.frozen;replace zbA:=bA.lt;replace bB:=bB.ex hx;replace cbB:=bB.cell;replace fbB:=bB.frozen;replace zbB:=bB.lt;replace bR:=bR.ex hx;replace cbR:=bR.cell;replace fbR:=bR.frozen;replace zbR:=bR.lt;clear hx;go_wp2;refine Zu (v:=frv (⟨r1,r2,r3⟩,ok)) ?_ rfl ⟨rfl,?_⟩
 ·simp[results,results120,go_sem,frv,Fr.v,Fr.none,cbA,zbA,cbB,zbB,cbR,zbR]
 ·(first|exact Exi.out|(have:=Exi.mk ‹Ex _ _›;exact Exi.out))
theorem Zqf(a:Fr)(w:World):Calls prog 116 #[a.v] w (Yc w (Zc a)):=by
 obtain⟨a1,a2,a3⟩:=a;show Calls _ _ #[.agg #[a1,a2,a3]] _ _;have k1:=fun w=>Xj a1 a2 a3 w
 rcases h1:Yx a1 a2 a3 with _|_
 ·have hr:Zc ⟨a1,a2,a3⟩=(Fr.none,false):=by simp[Zc,Fr.valid,h1]
  simp only[h1] at k1;rw[hr];have K1:=Zz k1;clear hr k1 h1;go_in;go_wp2_with fail;refine Yw (K1.out _) fun w1 hx=>?_
  have bA:=((Box.new _ _ _).alloc _).ex hx;have bR:=(Box.new _ _ _).ex hx;simp only[Zy] at bR;replace hx:=(((Ex.refl w).alloc _).alloc _).trans hx;have hE:=hx;have cbA:=bA.cell;have fbA:=bA.frozen;have zbA:=bA.lt;have cbR:=bR.cell;have fbR:=bR.frozen;have zbR:=bR.lt;clear hx;go_wp2;refine Zu (v:=frv (Fr.none,false)) ?_ rfl ⟨rfl,?_⟩
  ·simp[results,results116,go_sem,frv,Fr.v,Fr.none,cbA,zbA,cbR,zbR]
  ·(first|exact Exi.out|(have:=Exi.mk ‹Ex _ _›;exact Exi.out))
 obtain⟨ap1,ap2,ap3, -⟩:=Xe h1;have hr:Zc ⟨a1,a2,a3⟩=_:=Zzi h1;have mx1:=Wm (a:=a1) (b:=a1) (by omega) (by omega);obtain⟨x1,ex1⟩:∃x,a1*a1=x:=⟨_,rfl⟩
 rw[ex1] at mx1 hr;have mx2:=Wm (a:=a2) (b:=a2) (by omega) (by omega);obtain⟨x2,ex2⟩:∃x,a2*a2=x:=⟨_,rfl⟩
 rw[ex2] at mx2 hr;have mx5:=Nj (a:=a3) (b:=a3) (by omega) (by omega);obtain⟨x5,ex5⟩:∃x,a3*a3=x:=⟨_,rfl⟩
 rw[ex5] at mx5 hr;have l1:=fun w=>Uv (x1+x2) (0) (x5) w (by omega) (by omega) (by omega)
 rw[hr];clear hr;generalize flow (x1+x2) (0) (x5)=r at l1 ⊢;obtain⟨⟨r1,r2,r3⟩,ok⟩:=r;replace l1:=fun w=>Yc.spell (l1 w)
 simp only[h1] at k1;have K1:=Zz k1;have L1:=Zz l1;clear l1 k1 h1;go_in;go_wp2_with fail;refine Yw (K1.out _) fun w1 hx=>?_
 have bA:=((Box.new _ _ _).alloc _).ex hx;have bR:=(Box.new _ _ _).ex hx;simp only[Zy] at bR;replace hx:=(((Ex.refl w).alloc _).alloc _).trans hx;have hE:=hx;have cbA:=bA.cell;have fbA:=bA.frozen;have zbA:=bA.lt;have cbR:=bR.cell;have fbR:=bR.frozen;have zbR:=bR.lt;clear hx;go_wp2_with fail;refine(L1.out _).mono ?_;rintro e w2 ⟨rfl,hx⟩;replace hE:=hE.trans hx;replace bA:=bA.ex hx;replace cbA:=bA.cell;replace fbA:=bA.frozen;replace zbA:=bA.lt;replace bR:=bR.ex hx;replace cbR:=bR.cell;replace fbR:=bR.frozen;replace zbR:=bR.lt;clear hx;go_wp2;refine Zu (v:=frv (⟨r1,r2,r3⟩,ok)) ?_ rfl ⟨rfl,?_⟩
 ·simp[results,results116,go_sem,frv,Fr.v,Fr.none,cbA,zbA,cbR,zbR]
 ·(first|exact Exi.out|(have:=Exi.mk ‹Ex _ _›;exact Exi.out))
theorem Vy(a b:Fr)(w:World):Calls prog 108 #[a.v,b.v] w (Yc w (Zk a b)):=by
 obtain⟨a1,a2,a3⟩:=a;obtain⟨b1,b2,b3⟩:=b;show Calls _ _ #[.agg #[a1,a2,a3], .agg #[b1,b2,b3]] _ _;have k1:=fun w=>Xc a1 a2 a3 w
 have k2:=fun w=>Xc b1 b2 b3 w
 rcases h1:Yx a1 a2 a3 with _|_
 ·have hr:Zk ⟨a1,a2,a3⟩ ⟨b1,b2,b3⟩=(Fr.none,false):=by simp[Zk,Fr.valid,h1]
  simp only[h1] at k1;rw[hr];have K1:=Zz k1;clear hr k1 k2 h1;go_in;go_wp2_with fail;refine Yw (K1.out _) fun w1 hx=>?_
  have bA:=(((Box.new _ _ _).alloc _).alloc _).ex hx;have bB:=((Box.new _ _ _).alloc _).ex hx;simp only[Zy] at bB;have bR:=(Box.new _ _ _).ex hx;simp only[Zy] at bR;replace hx:=((((Ex.refl w).alloc _).alloc _).alloc _).trans hx;have hE:=hx;have cbA:=bA.cell;have fbA:=bA.frozen;have zbA:=bA.lt;have cbB:=bB.cell;have fbB:=bB.frozen;have zbB:=bB.lt;have cbR:=bR.cell;have fbR:=bR.frozen;have zbR:=bR.lt;clear hx;go_wp2;refine Zu (v:=frv (Fr.none,false)) ?_ rfl ⟨rfl,?_⟩
  ·simp[results,results108,go_sem,frv,Fr.v,Fr.none,cbA,zbA,cbB,zbB,cbR,zbR]
  ·(first|exact Exi.out|(have:=Exi.mk ‹Ex _ _›;exact Exi.out))
 rcases h2:Yx b1 b2 b3 with _|_
 ·have hr:Zk ⟨a1,a2,a3⟩ ⟨b1,b2,b3⟩=(Fr.none,false):=by simp[Zk,Fr.valid,h1,h2]
  simp only[h1] at k1;simp only[h2] at k2;rw[hr];have K1:=Zz k1;have K2:=Zz k2;clear hr k1 k2 h1 h2;go_in;go_wp2_with fail;refine Yw (K1.out _) fun w1 hx=>?_
  have bA:=(((Box.new _ _ _).alloc _).alloc _).ex hx;have bB:=((Box.new _ _ _).alloc _).ex hx;simp only[Zy] at bB;have bR:=(Box.new _ _ _).ex hx;simp only[Zy] at bR;replace hx:=((((Ex.refl w).alloc _).alloc _).alloc _).trans hx;have hE:=hx;have cbA:=bA.cell;have fbA:=bA.frozen;have zbA:=bA.lt;have cbB:=bB.cell;have fbB:=bB.frozen;have zbB:=bB.lt;have cbR:=bR.cell;have fbR:=bR.frozen;have zbR:=bR.lt;clear hx;go_wp2_with fail;refine Yw (K2.out _) fun w2 hx=>?_
  replace hE:=hE.trans hx;replace bA:=bA.ex hx;replace cbA:=bA.cell;replace fbA:=bA.frozen;replace zbA:=bA.lt;replace bB:=bB.ex hx;replace cbB:=bB.cell;replace fbB:=bB.frozen;replace zbB:=bB.lt;replace bR:=bR.ex hx;replace cbR:=bR.cell;replace fbR:=bR.frozen;replace zbR:=bR.lt;clear hx;go_wp2;refine Zu (v:=frv (Fr.none,false)) ?_ rfl ⟨rfl,?_⟩
  ·simp[results,results108,go_sem,frv,Fr.v,Fr.none,cbA,zbA,cbB,zbB,cbR,zbR]
  ·(first|exact Exi.out|(have:=Exi.mk ‹Ex _ _›;exact Exi.out))
 obtain⟨ap1,ap2,ap3, -⟩:=Xe h1;obtain⟨bp1,bp2,bp3, -⟩:=Xe h2;have hr:Zk ⟨a1,a2,a3⟩ ⟨b1,b2,b3⟩=_:=Iy h1 h2;have mx1:=Wm (a:=a1) (b:=b1) (by omega) (by omega);obtain⟨x1,ex1⟩:∃x,a1*b1=x:=⟨_,rfl⟩
 rw[ex1] at mx1 hr;have mx2:=Wm (a:=a2) (b:=b2) (by omega) (by omega);obtain⟨x2,ex2⟩:∃x,a2*b2=x:=⟨_,rfl⟩
 rw[ex2] at mx2 hr;have mx3:=Wm (a:=a1) (b:=b2) (by omega) (by omega);obtain⟨x3,ex3⟩:∃x,a1*b2=x:=⟨_,rfl⟩
 rw[ex3] at mx3 hr;have mx4:=Wm (a:=a2) (b:=b1) (by omega) (by omega);obtain⟨x4,ex4⟩:∃x,a2*b1=x:=⟨_,rfl⟩
 rw[ex4] at mx4 hr;have mx5:=Nj (a:=a3) (b:=b3) (by omega) (by omega);obtain⟨x5,ex5⟩:∃x,a3*b3=x:=⟨_,rfl⟩
 rw[ex5] at mx5 hr;have l1:=fun w=>Fq (x1-x2) (x3+x4) (x5) w (by omega) (by omega) (by omega)
 rw[hr];clear hr;generalize flow (x1-x2) (x3+x4) (x5)=r at l1 ⊢;obtain⟨⟨r1,r2,r3⟩,ok⟩:=r;replace l1:=fun w=>Yc.spell (l1 w)
 simp only[h1] at k1;simp only[h2] at k2;have K1:=Zz k1;have K2:=Zz k2;have L1:=Zz l1;clear l1 k1 k2 h1 h2;go_in;go_wp2_with fail;refine Yw (K1.out _) fun w1 hx=>?_
 have bA:=(((Box.new _ _ _).alloc _).alloc _).ex hx;have bB:=((Box.new _ _ _).alloc _).ex hx;simp only[Zy] at bB;have bR:=(Box.new _ _ _).ex hx;simp only[Zy] at bR;replace hx:=((((Ex.refl w).alloc _).alloc _).alloc _).trans hx;have hE:=hx;have cbA:=bA.cell;have fbA:=bA.frozen;have zbA:=bA.lt;have cbB:=bB.cell;have fbB:=bB.frozen;have zbB:=bB.lt;have cbR:=bR.cell;have fbR:=bR.frozen;have zbR:=bR.lt;clear hx;go_wp2_with fail;refine Yw (K2.out _) fun w2 hx=>?_
 replace hE:=hE.trans hx;replace bA:=bA.ex hx;replace cbA:=bA.cell;replace fbA:=bA.frozen;replace zbA:=bA.lt;replace bB:=bB.ex hx;replace cbB:=bB.cell;replace fbB:=bB.frozen;replace zbB:=bB.lt;replace bR:=bR.ex hx;replace cbR:=bR.cell;replace fbR:=bR.frozen;replace zbR:=bR.lt;clear hx;go_wp2_with fail;refine(L1.out _).mono ?_;rintro e w3 ⟨rfl,hx⟩;replace hE:=hE.trans hx;replace bA:=bA.ex hx;replace cbA:=bA.cell;replace fbA:=bA.frozen;replace zbA:=bA.lt;replace bB:=bB.ex hx;replace cbB:=bB.cell;replace fbB:=bB.frozen;replace zbB:=bB.lt;replace bR:=bR.ex hx;replace cbR:=bR.cell;replace fbR:=bR.frozen;replace zbR:=bR.lt;clear hx;go_wp2;refine Zu (v:=frv (⟨r1,r2,r3⟩,ok)) ?_ rfl ⟨rfl,?_⟩
 ·simp[results,results108,go_sem,frv,Fr.v,Fr.none,cbA,zbA,cbB,zbB,cbR,zbR]
 ·(first|exact Exi.out|(have:=Exi.mk ‹Ex _ _›;exact Exi.out))
theorem Zqe(a b:Fr)(s:Int)(hs:s=1∨s= -1)(w:World):Calls prog 229 #[a.v,s,b.v] w (Yc w (Xr s a b)):=by
 obtain⟨a1,a2,a3⟩:=a;obtain⟨b1,b2,b3⟩:=b;show Calls _ _ #[.agg #[a1,a2,a3],s, .agg #[b1,b2,b3]] _ _;have k1:=fun w=>Xc a1 a2 a3 w
 have k2:=fun w=>Xc b1 b2 b3 w
 rcases h1:Yx a1 a2 a3 with _|_
 ·have hr:Xr s ⟨a1,a2,a3⟩ ⟨b1,b2,b3⟩=(Fr.none,false):=by simp[Xr,Fr.valid,h1]
  simp only[h1] at k1;rw[hr];have K1:=Zz k1;clear hr k1 k2 h1;go_in;go_wp2_with fail;refine Yw (K1.out _) fun w1 hx=>?_
  have bA:=(((Box.new _ _ _).alloc _).alloc _).ex hx;have bB:=((Box.new _ _ _).alloc _).ex hx;simp only[Zy] at bB;have bR:=(Box.new _ _ _).ex hx;simp only[Zy] at bR;replace hx:=((((Ex.refl w).alloc _).alloc _).alloc _).trans hx;have hE:=hx;have cbA:=bA.cell;have fbA:=bA.frozen;have zbA:=bA.lt;have cbB:=bB.cell;have fbB:=bB.frozen;have zbB:=bB.lt;have cbR:=bR.cell;have fbR:=bR.frozen;have zbR:=bR.lt;clear hx;go_wp2;refine Zu (v:=frv (Fr.none,false)) ?_ rfl ⟨rfl,?_⟩
  ·simp[results,results229,go_sem,frv,Fr.v,Fr.none,cbA,zbA,cbB,zbB,cbR,zbR]
  ·(first|exact Exi.out|(have:=Exi.mk ‹Ex _ _›;exact Exi.out))
 rcases h2:Yx b1 b2 b3 with _|_
 ·have hr:Xr s ⟨a1,a2,a3⟩ ⟨b1,b2,b3⟩=(Fr.none,false):=by simp[Xr,Fr.valid,h1,h2]
  simp only[h1] at k1;simp only[h2] at k2;rw[hr];have K1:=Zz k1;have K2:=Zz k2;clear hr k1 k2 h1 h2;go_in;go_wp2_with fail;refine Yw (K1.out _) fun w1 hx=>?_
  have bA:=(((Box.new _ _ _).alloc _).alloc _).ex hx;have bB:=((Box.new _ _ _).alloc _).ex hx;simp only[Zy] at bB;have bR:=(Box.new _ _ _).ex hx;simp only[Zy] at bR;replace hx:=((((Ex.refl w).alloc _).alloc _).alloc _).trans hx;have hE:=hx;have cbA:=bA.cell;have fbA:=bA.frozen;have zbA:=bA.lt;have cbB:=bB.cell;have fbB:=bB.frozen;have zbB:=bB.lt;have cbR:=bR.cell;have fbR:=bR.frozen;have zbR:=bR.lt;clear hx;go_wp2_with fail;refine Yw (K2.out _) fun w2 hx=>?_
  replace hE:=hE.trans hx;replace bA:=bA.ex hx;replace cbA:=bA.cell;replace fbA:=bA.frozen;replace zbA:=bA.lt;replace bB:=bB.ex hx;replace cbB:=bB.cell;replace fbB:=bB.frozen;replace zbB:=bB.lt;replace bR:=bR.ex hx;replace cbR:=bR.cell;replace fbR:=bR.frozen;replace zbR:=bR.lt;clear hx;go_wp2;refine Zu (v:=frv (Fr.none,false)) ?_ rfl ⟨rfl,?_⟩
  ·simp[results,results229,go_sem,frv,Fr.v,Fr.none,cbA,zbA,cbB,zbB,cbR,zbR]
  ·(first|exact Exi.out|(have:=Exi.mk ‹Ex _ _›;exact Exi.out))
 obtain⟨ap1,ap2,ap3, -⟩:=Xe h1;obtain⟨bp1,bp2,bp3, -⟩:=Xe h2;have hr:Xr s ⟨a1,a2,a3⟩ ⟨b1,b2,b3⟩=_:=Zdu h1 h2;have mu:=Zia hs bp1;obtain⟨u,eu⟩:∃x,s*b1=x:=⟨_,rfl⟩
 rw[eu] at mu hr;have mv:=Zia hs bp2;obtain⟨v,ev⟩:∃x,s*b2=x:=⟨_,rfl⟩
 rw[ev] at mv hr;have mx1:=Wm (a:=a1) (b:=b3) (by omega) (by omega);obtain⟨x1,ex1⟩:∃x,a1*b3=x:=⟨_,rfl⟩
 rw[ex1] at mx1 hr;have mx2:=Wm (a:=u) (b:=a3) (by omega) (by omega);obtain⟨x2,ex2⟩:∃x,u*a3=x:=⟨_,rfl⟩
 rw[ex2] at mx2 hr;have mx3:=Wm (a:=a2) (b:=b3) (by omega) (by omega);obtain⟨x3,ex3⟩:∃x,a2*b3=x:=⟨_,rfl⟩
 rw[ex3] at mx3 hr;have mx4:=Wm (a:=v) (b:=a3) (by omega) (by omega);obtain⟨x4,ex4⟩:∃x,v*a3=x:=⟨_,rfl⟩
 rw[ex4] at mx4 hr;have mx5:=Nj (a:=a3) (b:=b3) (by omega) (by omega);obtain⟨x5,ex5⟩:∃x,a3*b3=x:=⟨_,rfl⟩
 rw[ex5] at mx5 hr;have l1:=fun w=>Fq (x1+x2) (x3+x4) (x5) w (by omega) (by omega) (by omega)
 rw[hr];clear hr;generalize flow (x1+x2) (x3+x4) (x5)=r at l1 ⊢;obtain⟨⟨r1,r2,r3⟩,ok⟩:=r;replace l1:=fun w=>Yc.spell (l1 w)
 simp only[h1] at k1;simp only[h2] at k2;have K1:=Zz k1;have K2:=Zz k2;have L1:=Zz l1;clear l1 k1 k2 h1 h2;go_in;go_wp2_with fail;refine Yw (K1.out _) fun w1 hx=>?_
 have bA:=(((Box.new _ _ _).alloc _).alloc _).ex hx;have bB:=((Box.new _ _ _).alloc _).ex hx;simp only[Zy] at bB;have bR:=(Box.new _ _ _).ex hx;simp only[Zy] at bR;replace hx:=((((Ex.refl w).alloc _).alloc _).alloc _).trans hx;have hE:=hx;have cbA:=bA.cell;have fbA:=bA.frozen;have zbA:=bA.lt;have cbB:=bB.cell;have fbB:=bB.frozen;have zbB:=bB.lt;have cbR:=bR.cell;have fbR:=bR.frozen;have zbR:=bR.lt;clear hx;go_wp2_with fail;refine Yw (K2.out _) fun w2 hx=>?_
 replace hE:=hE.trans hx;replace bA:=bA.ex hx;replace cbA:=bA.cell;replace fbA:=bA.frozen;replace zbA:=bA.lt;replace bB:=bB.ex hx;replace cbB:=bB.cell;replace fbB:=bB.frozen;replace zbB:=bB.lt;replace bR:=bR.ex hx;replace cbR:=bR.cell;replace fbR:=bR.frozen;replace zbR:=bR.lt;clear hx;go_wp2_with fail;refine(L1.out _).mono ?_;rintro e w3 ⟨rfl,hx⟩;replace hE:=hE.trans hx;replace bA:=bA.ex hx;replace cbA:=bA.cell;replace fbA:=bA.frozen;replace zbA:=bA.lt;replace bB:=bB.ex hx;replace cbB:=bB.cell;replace fbB:=bB.frozen;replace zbB:=bB.lt;replace bR:=bR.ex hx;replace cbR:=bR.cell;replace fbR:=bR.frozen;replace zbR:=bR.lt;clear hx;go_wp2;refine Zu (v:=frv (⟨r1,r2,r3⟩,ok)) ?_ rfl ⟨rfl,?_⟩
 ·simp[results,results229,go_sem,frv,Fr.v,Fr.none,cbA,zbA,cbB,zbB,cbR,zbR]
 ·(first|exact Exi.out|(have:=Exi.mk ‹Ex _ _›;exact Exi.out))
theorem Zky(a b:Fr)(w:World):Calls prog 218 #[a.v,b.v] w (Yc w (Xi a b)):=by
 have l1:=fun w=>Zqe a b (-1) (.inr rfl) w
 simp only[Zzj] at l1;generalize Xi a b=r at l1 ⊢;obtain⟨a1,a2,a3⟩:=a;obtain⟨b1,b2,b3⟩:=b;obtain⟨⟨r1,r2,r3⟩,ok⟩:=r;replace l1:=fun w=>Yc.spell (l1 w)
 show Calls _ _ #[.agg #[a1,a2,a3], .agg #[b1,b2,b3]] _ _;go_in;go_wp2_with fail;refine(l1 _).mono ?_;rintro e w1 ⟨rfl,hx⟩;have bA:=(((Box.new _ _ _).alloc _).alloc _).ex hx;have bB:=((Box.new _ _ _).alloc _).ex hx;simp only[Zy] at bB;have bR:=(Box.new _ _ _).ex hx;simp only[Zy] at bR;replace hx:=((((Ex.refl w).alloc _).alloc _).alloc _).trans hx;have hE:=hx;have cbA:=bA.cell;have fbA:=bA.frozen;have zbA:=bA.lt;have cbB:=bB.cell;have fbB:=bB.frozen;have zbB:=bB.lt;have cbR:=bR.cell;have fbR:=bR.frozen;have zbR:=bR.lt;clear hx;go_wp2;refine Zu (v:=frv (⟨r1,r2,r3⟩,ok)) ?_ rfl ⟨rfl,?_⟩
 ·simp[results,results218,go_sem,frv,Fr.v,Fr.none,cbA,zbA,cbB,zbB,cbR,zbR]
 ·(first|exact Exi.out|(have:=Exi.mk ‹Ex _ _›;exact Exi.out))
theorem Td(a:Fr)(w:World):Calls prog 171 #[a.v] w (Yc w (Yq a)):=by
 obtain⟨a1,a2,a3⟩:=a;show Calls _ _ #[.agg #[a1,a2,a3]] _ _;have k1:=fun w=>Xc a1 a2 a3 w
 rcases h1:Yx a1 a2 a3 with _|_
 ·have hr:Yq ⟨a1,a2,a3⟩=(Fr.none,false):=by simp[Yq,Fr.valid,h1]
  simp only[h1] at k1;rw[hr];have K1:=Zz k1;clear k1 hr h1;go_in;go_wp2_with fail;refine Yw (K1.out _) fun w1 hx=>?_
  have bA:=((Box.new _ _ _).alloc _).ex hx;have bR:=(Box.new _ _ _).ex hx;simp only[Zy] at bR;replace hx:=(((Ex.refl w).alloc _).alloc _).trans hx;have hE:=hx;have cbA:=bA.cell;have fbA:=bA.frozen;have zbA:=bA.lt;have cbR:=bR.cell;have fbR:=bR.frozen;have zbR:=bR.lt;clear hx;go_wp2;refine Zu (v:=frv (Fr.none,false)) ?_ rfl ⟨rfl,?_⟩
  ·simp[results,results171,go_sem,frv,Fr.v,Fr.none,cbA,zbA,cbR,zbR]
  ·(first|exact Exi.out|(have:=Exi.mk ‹Ex _ _›;exact Exi.out))
 ·have hr:Yq ⟨a1,a2,a3⟩=(⟨a1, -a2,a3⟩,true):=by simp[Yq,Fr.valid,h1]
  obtain⟨-,p2, -, -⟩:=Xe h1;have hw:=Zt (0-a2) (by omega);simp only[h1] at k1;rw[hr];have K1:=Zz k1;clear k1 hr h1;go_in;go_wp2_with fail;refine Yw (K1.out _) fun w1 hx=>?_
  have bA:=((Box.new _ _ _).alloc _).ex hx;have bR:=(Box.new _ _ _).ex hx;simp only[Zy] at bR;replace hx:=(((Ex.refl w).alloc _).alloc _).trans hx;have hE:=hx;have cbA:=bA.cell;have fbA:=bA.frozen;have zbA:=bA.lt;have cbR:=bR.cell;have fbR:=bR.frozen;have zbR:=bR.lt;clear hx;go_wp2;refine Zu (v:=frv (⟨a1, -a2,a3⟩,true)) ?_ rfl ⟨rfl,?_⟩
  ·simp[results,results171,go_sem,frv,Fr.v,Fr.none,cbA,zbA,cbR,zbR]
  ·(first|exact Exi.out|(have:=Exi.mk ‹Ex _ _›;exact Exi.out))
theorem Lu(a:Fr)(w:World):Calls prog 216 #[a.v] w (Yc w (Zc a)):=by
 rw[Gt];have l1:=fun w=>Td a w
 have l2:=fun w=>Vy a (Yq a).1 w
 generalize Zk a (Yq a).1=t at l2 ⊢;generalize Yq a=m at l1 l2 ⊢;obtain⟨a1,a2,a3⟩:=a;obtain⟨⟨m1,m2,m3⟩,ok⟩:=m;obtain⟨⟨t1,t2,t3⟩,tk⟩:=t;show Calls _ _ #[.agg #[a1,a2,a3]] _ _;replace l1:=fun w=>Yc.spell (l1 w)
 have l3:∀w,Calls prog 108 #[.agg #[a1,a2,a3], .agg #[m1,m2,m3]] w _:=fun w=>Yc.spell (l2 w)
 clear l2;rcases ok with _|_
 ·go_in;go_wp2_with fail;refine(l1 _).mono ?_;rintro e w1 ⟨rfl,hx⟩;have bA:=((Box.new _ _ _).alloc _).ex hx;have bR:=(Box.new _ _ _).ex hx;simp only[Zy] at bR;replace hx:=(((Ex.refl w).alloc _).alloc _).trans hx;have hE:=hx;have cbA:=bA.cell;have fbA:=bA.frozen;have zbA:=bA.lt;have cbR:=bR.cell;have fbR:=bR.frozen;have zbR:=bR.lt;clear hx;go_wp2;refine Zu (v:=frv (Fr.none,false)) ?_ rfl ⟨rfl,?_⟩
  ·simp[results,results216,go_sem,frv,Fr.v,Fr.none,cbA,zbA,cbR,zbR]
  ·(first|exact Exi.out|(have:=Exi.mk ‹Ex _ _›;exact Exi.out))
 ·go_in;go_wp2_with fail;refine(l1 _).mono ?_;rintro e w1 ⟨rfl,hx⟩;have bA:=((Box.new _ _ _).alloc _).ex hx;have bR:=(Box.new _ _ _).ex hx;simp only[Zy] at bR;replace hx:=(((Ex.refl w).alloc _).alloc _).trans hx;have hE:=hx;have cbA:=bA.cell;have fbA:=bA.frozen;have zbA:=bA.lt;have cbR:=bR.cell;have fbR:=bR.frozen;have zbR:=bR.lt;clear hx;go_wp2_with fail;refine(l3 _).mono ?_;rintro e w2 ⟨rfl,hx⟩;have bM:=(Box.new _ _ _).ex hx;replace hx:=((Ex.refl w1).alloc _).trans hx;replace hE:=hE.trans hx;replace bA:=bA.ex hx;replace cbA:=bA.cell;replace fbA:=bA.frozen;replace zbA:=bA.lt;replace bR:=bR.ex hx;replace cbR:=bR.cell;replace fbR:=bR.frozen;replace zbR:=bR.lt;have cbM:=bM.cell;have fbM:=bM.frozen;have zbM:=bM.lt;clear hx;go_wp2;refine Zu (v:=frv (⟨t1,t2,t3⟩,tk)) ?_ rfl ⟨rfl,?_⟩
  ·simp[results,results216,go_sem,frv,Fr.v,Fr.none,cbA,zbA,cbR,zbR,cbM,zbM]
  ·(first|exact Exi.out|(have:=Exi.mk ‹Ex _ _›;exact Exi.out))
end
section
open Go.RowKit

theorem Hz(a b:Fr)(w:World):Calls prog 117 #[a.v,b.v] w (Yc w (Zk a b)):=by
 obtain⟨a1,a2,a3⟩:=a;obtain⟨b1,b2,b3⟩:=b;show Calls _ _ #[.agg #[a1,a2,a3], .agg #[b1,b2,b3]] _ _;have k1:=fun w=>Xj a1 a2 a3 w
 have k2:=fun w=>Xj b1 b2 b3 w
 rcases h1:Yx a1 a2 a3 with _|_
 ·have hr:Zk ⟨a1,a2,a3⟩ ⟨b1,b2,b3⟩=(Fr.none,false):=by simp[Zk,Fr.valid,h1]
  simp only[h1] at k1;rw[hr];have K1:=Zz k1;clear hr k1 k2 h1;go_in;go_wp2_with fail;refine Yw (K1.out _) fun w1 hx=>?_
  have bA:=(((Box.new _ _ _).alloc _).alloc _).ex hx;have bB:=((Box.new _ _ _).alloc _).ex hx;simp only[Zy] at bB;have bR:=(Box.new _ _ _).ex hx;simp only[Zy] at bR;replace hx:=((((Ex.refl w).alloc _).alloc _).alloc _).trans hx;have hE:=hx;have cbA:=bA.cell;have fbA:=bA.frozen;have zbA:=bA.lt;have cbB:=bB.cell;have fbB:=bB.frozen;have zbB:=bB.lt;have cbR:=bR.cell;have fbR:=bR.frozen;have zbR:=bR.lt;clear hx;go_wp2;refine Zu (v:=frv (Fr.none,false)) ?_ rfl ⟨rfl,?_⟩
  ·simp[results,results117,go_sem,frv,Fr.v,Fr.none,cbA,zbA,cbB,zbB,cbR,zbR]
  ·(first|exact Exi.out|(have:=Exi.mk ‹Ex _ _›;exact Exi.out))
 rcases h2:Yx b1 b2 b3 with _|_
 ·have hr:Zk ⟨a1,a2,a3⟩ ⟨b1,b2,b3⟩=(Fr.none,false):=by simp[Zk,Fr.valid,h1,h2]
  simp only[h1] at k1;simp only[h2] at k2;rw[hr];have K1:=Zz k1;have K2:=Zz k2;clear hr k1 k2 h1 h2;go_in;go_wp2_with fail;refine Yw (K1.out _) fun w1 hx=>?_
  have bA:=(((Box.new _ _ _).alloc _).alloc _).ex hx;have bB:=((Box.new _ _ _).alloc _).ex hx;simp only[Zy] at bB;have bR:=(Box.new _ _ _).ex hx;simp only[Zy] at bR;replace hx:=((((Ex.refl w).alloc _).alloc _).alloc _).trans hx;have hE:=hx;have cbA:=bA.cell;have fbA:=bA.frozen;have zbA:=bA.lt;have cbB:=bB.cell;have fbB:=bB.frozen;have zbB:=bB.lt;have cbR:=bR.cell;have fbR:=bR.frozen;have zbR:=bR.lt;clear hx;go_wp2_with fail;refine Yw (K2.out _) fun w2 hx=>?_
  replace hE:=hE.trans hx;replace bA:=bA.ex hx;replace cbA:=bA.cell;replace fbA:=bA.frozen;replace zbA:=bA.lt;replace bB:=bB.ex hx;replace cbB:=bB.cell;replace fbB:=bB.frozen;replace zbB:=bB.lt;replace bR:=bR.ex hx;replace cbR:=bR.cell;replace fbR:=bR.frozen;replace zbR:=bR.lt;clear hx;go_wp2;refine Zu (v:=frv (Fr.none,false)) ?_ rfl ⟨rfl,?_⟩
  ·simp[results,results117,go_sem,frv,Fr.v,Fr.none,cbA,zbA,cbB,zbB,cbR,zbR]
  ·(first|exact Exi.out|(have:=Exi.mk ‹Ex _ _›;exact Exi.out))
 obtain⟨ap1,ap2,ap3, -⟩:=Xe h1;obtain⟨bp1,bp2,bp3, -⟩:=Xe h2;have hr:Zk ⟨a1,a2,a3⟩ ⟨b1,b2,b3⟩=_:=Iy h1 h2;have mx1:=Wm (a:=a1) (b:=b1) (by omega) (by omega);obtain⟨x1,ex1⟩:∃x,a1*b1=x:=⟨_,rfl⟩
 rw[ex1] at mx1 hr;have mx2:=Wm (a:=a2) (b:=b2) (by omega) (by omega);obtain⟨x2,ex2⟩:∃x,a2*b2=x:=⟨_,rfl⟩
 rw[ex2] at mx2 hr;have mx3:=Wm (a:=a1) (b:=b2) (by omega) (by omega);obtain⟨x3,ex3⟩:∃x,a1*b2=x:=⟨_,rfl⟩
 rw[ex3] at mx3 hr;have mx4:=Wm (a:=a2) (b:=b1) (by omega) (by omega);obtain⟨x4,ex4⟩:∃x,a2*b1=x:=⟨_,rfl⟩
 rw[ex4] at mx4 hr;have mx5:=Nj (a:=a3) (b:=b3) (by omega) (by omega);obtain⟨x5,ex5⟩:∃x,a3*b3=x:=⟨_,rfl⟩
 rw[ex5] at mx5 hr;have l1:=fun w=>Uv (x1-x2) (x3+x4) (x5) w (by omega) (by omega) (by omega)
 rw[hr];clear hr;generalize flow (x1-x2) (x3+x4) (x5)=r at l1 ⊢;obtain⟨⟨r1,r2,r3⟩,ok⟩:=r;replace l1:=fun w=>Yc.spell (l1 w)
 simp only[h1] at k1;simp only[h2] at k2;have K1:=Zz k1;have K2:=Zz k2;have L1:=Zz l1;clear l1 k1 k2 h1 h2;go_in;go_wp2_with fail;refine Yw (K1.out _) fun w1 hx=>?_
 have bA:=(((Box.new _ _ _).alloc _).alloc _).ex hx;have bB:=((Box.new _ _ _).alloc _).ex hx;simp only[Zy] at bB;have bR:=(Box.new _ _ _).ex hx;simp only[Zy] at bR;replace hx:=((((Ex.refl w).alloc _).alloc _).alloc _).trans hx;have hE:=hx;have cbA:=bA.cell;have fbA:=bA.frozen;have zbA:=bA.lt;have cbB:=bB.cell;have fbB:=bB.frozen;have zbB:=bB.lt;have cbR:=bR.cell;have fbR:=bR.frozen;have zbR:=bR.lt;clear hx;go_wp2_with fail;refine Yw (K2.out _) fun w2 hx=>?_
 replace hE:=hE.trans hx;replace bA:=bA.ex hx;replace cbA:=bA.cell;replace fbA:=bA.frozen;replace zbA:=bA.lt;replace bB:=bB.ex hx;replace cbB:=bB.cell;replace fbB:=bB.frozen;replace zbB:=bB.lt;replace bR:=bR.ex hx;replace cbR:=bR.cell;replace fbR:=bR.frozen;replace zbR:=bR.lt;clear hx;go_wp2_with fail;refine(L1.out _).mono ?_;rintro e w3 ⟨rfl,hx⟩;replace hE:=hE.trans hx;replace bA:=bA.ex hx;replace cbA:=bA.cell;replace fbA:=bA.frozen;replace zbA:=bA.lt;replace bB:=bB.ex hx;replace cbB:=bB.cell;replace fbB:=bB.frozen;replace zbB:=bB.lt;replace bR:=bR.ex hx;replace cbR:=bR.cell;replace fbR:=bR.frozen;replace zbR:=bR.lt;clear hx;go_wp2;refine Zu (v:=frv (⟨r1,r2,r3⟩,ok)) ?_ rfl ⟨rfl,?_⟩
 ·simp[results,results117,go_sem,frv,Fr.v,Fr.none,cbA,zbA,cbB,zbB,cbR,zbR]
 ·(first|exact Exi.out|(have:=Exi.mk ‹Ex _ _›;exact Exi.out))
theorem Zhx(a b:Fr)(w:World):Calls prog 119 #[a.v,b.v] w (Yc w (Yo a b)):=by
 obtain⟨a1,a2,a3⟩:=a;obtain⟨b1,b2,b3⟩:=b;show Calls _ _ #[.agg #[a1,a2,a3], .agg #[b1,b2,b3]] _ _;have k1:=fun w=>Xj a1 a2 a3 w
 have k2:=fun w=>Xj b1 b2 b3 w
 rcases h1:Yx a1 a2 a3 with _|_
 ·have hr:Yo ⟨a1,a2,a3⟩ ⟨b1,b2,b3⟩=(Fr.none,false):=by simp[Yo,Fr.valid,h1]
  simp only[h1] at k1;rw[hr];have K1:=Zz k1;clear hr k1 k2 h1;go_in;go_wp2_with fail;refine Yw (K1.out _) fun w1 hx=>?_
  have bA:=(((Box.new _ _ _).alloc _).alloc _).ex hx;have bB:=((Box.new _ _ _).alloc _).ex hx;simp only[Zy] at bB;have bR:=(Box.new _ _ _).ex hx;simp only[Zy] at bR;replace hx:=((((Ex.refl w).alloc _).alloc _).alloc _).trans hx;have hE:=hx;have cbA:=bA.cell;have fbA:=bA.frozen;have zbA:=bA.lt;have cbB:=bB.cell;have fbB:=bB.frozen;have zbB:=bB.lt;have cbR:=bR.cell;have fbR:=bR.frozen;have zbR:=bR.lt;clear hx;go_wp2;refine Zu (v:=frv (Fr.none,false)) ?_ rfl ⟨rfl,?_⟩
  ·simp[results,results119,go_sem,frv,Fr.v,Fr.none,cbA,zbA,cbB,zbB,cbR,zbR]
  ·(first|exact Exi.out|(have:=Exi.mk ‹Ex _ _›;exact Exi.out))
 rcases h2:Yx b1 b2 b3 with _|_
 ·have hr:Yo ⟨a1,a2,a3⟩ ⟨b1,b2,b3⟩=(Fr.none,false):=by simp[Yo,Fr.valid,h1,h2]
  simp only[h1] at k1;simp only[h2] at k2;rw[hr];have K1:=Zz k1;have K2:=Zz k2;clear hr k1 k2 h1 h2;go_in;go_wp2_with fail;refine Yw (K1.out _) fun w1 hx=>?_
  have bA:=(((Box.new _ _ _).alloc _).alloc _).ex hx;have bB:=((Box.new _ _ _).alloc _).ex hx;simp only[Zy] at bB;have bR:=(Box.new _ _ _).ex hx;simp only[Zy] at bR;replace hx:=((((Ex.refl w).alloc _).alloc _).alloc _).trans hx;have hE:=hx;have cbA:=bA.cell;have fbA:=bA.frozen;have zbA:=bA.lt;have cbB:=bB.cell;have fbB:=bB.frozen;have zbB:=bB.lt;have cbR:=bR.cell;have fbR:=bR.frozen;have zbR:=bR.lt;clear hx;go_wp2_with fail;refine Yw (K2.out _) fun w2 hx=>?_
  replace hE:=hE.trans hx;replace bA:=bA.ex hx;replace cbA:=bA.cell;replace fbA:=bA.frozen;replace zbA:=bA.lt;replace bB:=bB.ex hx;replace cbB:=bB.cell;replace fbB:=bB.frozen;replace zbB:=bB.lt;replace bR:=bR.ex hx;replace cbR:=bR.cell;replace fbR:=bR.frozen;replace zbR:=bR.lt;clear hx;go_wp2;refine Zu (v:=frv (Fr.none,false)) ?_ rfl ⟨rfl,?_⟩
  ·simp[results,results119,go_sem,frv,Fr.v,Fr.none,cbA,zbA,cbB,zbB,cbR,zbR]
  ·(first|exact Exi.out|(have:=Exi.mk ‹Ex _ _›;exact Exi.out))
 obtain⟨ap1,ap2,ap3, -⟩:=Xe h1;obtain⟨bp1,bp2,bp3, -⟩:=Xe h2;have hr:Yo ⟨a1,a2,a3⟩ ⟨b1,b2,b3⟩=_:=Zhz h1 h2;have mx1:=Wm (a:=a1) (b:=b3) (by omega) (by omega);obtain⟨x1,ex1⟩:∃x,a1*b3=x:=⟨_,rfl⟩
 rw[ex1] at mx1 hr;have mx2:=Wm (a:=b1) (b:=a3) (by omega) (by omega);obtain⟨x2,ex2⟩:∃x,b1*a3=x:=⟨_,rfl⟩
 rw[ex2] at mx2 hr;have mx3:=Wm (a:=a2) (b:=b3) (by omega) (by omega);obtain⟨x3,ex3⟩:∃x,a2*b3=x:=⟨_,rfl⟩
 rw[ex3] at mx3 hr;have mx4:=Wm (a:=b2) (b:=a3) (by omega) (by omega);obtain⟨x4,ex4⟩:∃x,b2*a3=x:=⟨_,rfl⟩
 rw[ex4] at mx4 hr;have mx5:=Nj (a:=a3) (b:=b3) (by omega) (by omega);obtain⟨x5,ex5⟩:∃x,a3*b3=x:=⟨_,rfl⟩
 rw[ex5] at mx5 hr;have l1:=fun w=>Uv (x1+x2) (x3+x4) (x5) w (by omega) (by omega) (by omega)
 rw[hr];clear hr;generalize flow (x1+x2) (x3+x4) (x5)=r at l1 ⊢;obtain⟨⟨r1,r2,r3⟩,ok⟩:=r;replace l1:=fun w=>Yc.spell (l1 w)
 simp only[h1] at k1;simp only[h2] at k2;have K1:=Zz k1;have K2:=Zz k2;have L1:=Zz l1;clear l1 k1 k2 h1 h2;go_in;go_wp2_with fail;refine Yw (K1.out _) fun w1 hx=>?_
 have bA:=(((Box.new _ _ _).alloc _).alloc _).ex hx;have bB:=((Box.new _ _ _).alloc _).ex hx;simp only[Zy] at bB;have bR:=(Box.new _ _ _).ex hx;simp only[Zy] at bR;replace hx:=((((Ex.refl w).alloc _).alloc _).alloc _).trans hx;have hE:=hx;have cbA:=bA.cell;have fbA:=bA.frozen;have zbA:=bA.lt;have cbB:=bB.cell;have fbB:=bB.frozen;have zbB:=bB.lt;have cbR:=bR.cell;have fbR:=bR.frozen;have zbR:=bR.lt;clear hx;go_wp2_with fail;refine Yw (K2.out _) fun w2 hx=>?_
 replace hE:=hE.trans hx;replace bA:=bA.ex hx;replace cbA:=bA.cell;replace fbA:=bA.frozen;replace zbA:=bA.lt;replace bB:=bB.ex hx;replace cbB:=bB.cell;replace fbB:=bB.frozen;replace zbB:=bB.lt;replace bR:=bR.ex hx;replace cbR:=bR.cell;replace fbR:=bR.frozen;replace zbR:=bR.lt;clear hx;go_wp2_with fail;refine(L1.out _).mono ?_;rintro e w3 ⟨rfl,hx⟩;replace hE:=hE.trans hx;replace bA:=bA.ex hx;replace cbA:=bA.cell;replace fbA:=bA.frozen;replace zbA:=bA.lt;replace bB:=bB.ex hx;replace cbB:=bB.cell;replace fbB:=bB.frozen;replace zbB:=bB.lt;replace bR:=bR.ex hx;replace cbR:=bR.cell;replace fbR:=bR.frozen;replace zbR:=bR.lt;clear hx;go_wp2;refine Zu (v:=frv (⟨r1,r2,r3⟩,ok)) ?_ rfl ⟨rfl,?_⟩
 ·simp[results,results119,go_sem,frv,Fr.v,Fr.none,cbA,zbA,cbB,zbB,cbR,zbR]
 ·(first|exact Exi.out|(have:=Exi.mk ‹Ex _ _›;exact Exi.out))
theorem Qd(a b:Fr)(w:World):Calls prog 217 #[a.v,b.v] w (Yc w (Yo a b)):=by
 have l1:=fun w=>Zqe a b 1 (.inl rfl) w
 simp only[Gu] at l1;generalize Yo a b=r at l1 ⊢;obtain⟨a1,a2,a3⟩:=a;obtain⟨b1,b2,b3⟩:=b;obtain⟨⟨r1,r2,r3⟩,ok⟩:=r;replace l1:=fun w=>Yc.spell (l1 w)
 show Calls _ _ #[.agg #[a1,a2,a3], .agg #[b1,b2,b3]] _ _;go_in;go_wp2_with fail;refine(l1 _).mono ?_;rintro e w1 ⟨rfl,hx⟩;have bA:=(((Box.new _ _ _).alloc _).alloc _).ex hx;have bB:=((Box.new _ _ _).alloc _).ex hx;simp only[Zy] at bB;have bR:=(Box.new _ _ _).ex hx;simp only[Zy] at bR;replace hx:=((((Ex.refl w).alloc _).alloc _).alloc _).trans hx;have hE:=hx;have cbA:=bA.cell;have fbA:=bA.frozen;have zbA:=bA.lt;have cbB:=bB.cell;have fbB:=bB.frozen;have zbB:=bB.lt;have cbR:=bR.cell;have fbR:=bR.frozen;have zbR:=bR.lt;clear hx;go_wp2;refine Zu (v:=frv (⟨r1,r2,r3⟩,ok)) ?_ rfl ⟨rfl,?_⟩
 ·simp[results,results217,go_sem,frv,Fr.v,Fr.none,cbA,zbA,cbB,zbB,cbR,zbR]
 ·(first|exact Exi.out|(have:=Exi.mk ‹Ex _ _›;exact Exi.out))
theorem Zuk(a:Fr)(w:World):Calls prog 118 #[a.v] w (Yc w (Yq a)):=by
 obtain⟨a1,a2,a3⟩:=a;show Calls _ _ #[.agg #[a1,a2,a3]] _ _;have k1:=fun w=>Xj a1 a2 a3 w
 rcases h1:Yx a1 a2 a3 with _|_
 ·have hr:Yq ⟨a1,a2,a3⟩=(Fr.none,false):=by simp[Yq,Fr.valid,h1]
  simp only[h1] at k1;rw[hr];have K1:=Zz k1;clear k1 hr h1;go_in;go_wp2_with fail;refine Yw (K1.out _) fun w1 hx=>?_
  have bA:=((Box.new _ _ _).alloc _).ex hx;have bR:=(Box.new _ _ _).ex hx;simp only[Zy] at bR;replace hx:=(((Ex.refl w).alloc _).alloc _).trans hx;have hE:=hx;have cbA:=bA.cell;have fbA:=bA.frozen;have zbA:=bA.lt;have cbR:=bR.cell;have fbR:=bR.frozen;have zbR:=bR.lt;clear hx;go_wp2;refine Zu (v:=frv (Fr.none,false)) ?_ rfl ⟨rfl,?_⟩
  ·simp[results,results118,go_sem,frv,Fr.v,Fr.none,cbA,zbA,cbR,zbR]
  ·(first|exact Exi.out|(have:=Exi.mk ‹Ex _ _›;exact Exi.out))
 ·have hr:Yq ⟨a1,a2,a3⟩=(⟨a1, -a2,a3⟩,true):=by simp[Yq,Fr.valid,h1]
  obtain⟨-,p2, -, -⟩:=Xe h1;have hw:=Zt (-a2) (by omega);simp only[h1] at k1;rw[hr];have K1:=Zz k1;clear k1 hr h1;go_in;go_wp2_with fail;refine Yw (K1.out _) fun w1 hx=>?_
  have bA:=((Box.new _ _ _).alloc _).ex hx;have bR:=(Box.new _ _ _).ex hx;simp only[Zy] at bR;replace hx:=(((Ex.refl w).alloc _).alloc _).trans hx;have hE:=hx;have cbA:=bA.cell;have fbA:=bA.frozen;have zbA:=bA.lt;have cbR:=bR.cell;have fbR:=bR.frozen;have zbR:=bR.lt;clear hx;go_wp2;refine Zu (v:=frv (⟨a1, -a2,a3⟩,true)) ?_ rfl ⟨rfl,?_⟩
  ·simp[results,results118,go_sem,frv,Fr.v,Fr.none,cbA,zbA,cbR,zbR]
  ·(first|exact Exi.out|(have:=Exi.mk ‹Ex _ _›;exact Exi.out))
end
section
theorem Zqd(k x y z:Int)(hk:1≤k):Wo (k*x) (k*y) (k*z)=k*Wo x y z:=by
 rw[Qe,Qe,Int.natAbs_mul,Int.natAbs_mul,Int.natAbs_mul,Nat.gcd_mul_left,Nat.gcd_mul_left];rw[Int.natCast_mul];congr 1
 omega
theorem Zqc(k x y z:Int)(hk:1≤k):flow (k*x) (k*y) (k*z)=flow x y z:=by
 have e:=Zqd k x y z hk;unfold flow;rw[e,Int.mul_tdiv_mul_of_pos _ _ (by omega),Int.mul_tdiv_mul_of_pos _ _ (by omega),Int.mul_tdiv_mul_of_pos _ _ (by omega)]
theorem Zhw{re im den:Int}(h:1≤den)(hk:(flow re im den).2=true):
  (flow re im den).1.re*den=re*(flow re im den).1.den∧(flow re im den).1.im*den=im*(flow re im den).1.den∧1≤(flow re im den).1.den:=by
 have hg:=Km re im den h;have hd:∀x:Int,((Wo re im den).natAbs ∣ x.natAbs)→x.tdiv (Wo re im den)*Wo re im den=x:=fun x hx=>Int.tdiv_mul_cancel (Int.natAbs_dvd_natAbs.1 hx)
 have e:(Wo re im den).natAbs=Nat.gcd (Nat.gcd re.natAbs im.natAbs) den.natAbs:=by rw[Qe,Int.natAbs_natCast]
 have d1:=hd re (by rw[e];exact Nat.dvd_trans (Nat.gcd_dvd_left _ _) (Nat.gcd_dvd_left _ _));have d2:=hd im (by rw[e];exact Nat.dvd_trans (Nat.gcd_dvd_left _ _) (Nat.gcd_dvd_right _ _));have d3:=hd den (by rw[e];exact Nat.gcd_dvd_right _ _);have hp:=Gy re im den h;unfold flow at hk ⊢;split
 ·dsimp only
  generalize re.tdiv (Wo re im den)=a at d1 hp ⊢;generalize im.tdiv (Wo re im den)=b at d2 hp ⊢;generalize den.tdiv (Wo re im den)=c at d3 hp ⊢;generalize Wo re im den=g at d1 d2 d3;rw[←d1,←d2,←d3];refine⟨?_,?_,hp⟩
  ·rw[Int.mul_comm c g,←Int.mul_assoc]
  ·rw[Int.mul_comm c g,←Int.mul_assoc]
 ·rename_i hn;rw[if_neg hn] at hk;cases hk
def Mo(b:Fr):Fr×Bool:=flow (b.den*b.re) (-b.den*b.im) (b.re*b.re+b.im*b.im)
def Fp(b:Fr):Bool:=decide (b.re=0)&&decide (b.im=0)
def Sa(a b:Fr):Fr×Bool:=
 if a.valid&&b.valid&& !Fp b then
  if (Mo b).2 then Zk a (Mo b).1 else (Fr.none,false)
 else (Fr.none,false)
theorem Qw(a:Int):0≤a*a:=by
 rcases Int.le_total 0 a with h|h
 ·exact Int.mul_nonneg h h
 ·have:=Int.mul_nonneg (a:= -a) (b:= -a) (by omega) (by omega)
  rwa[Int.neg_mul_neg] at this
theorem Pe{a b:Int}(h1:1≤a)(h2:1≤b):1≤a*b:=by
 have:=Int.mul_pos (a:=a) (b:=b) (by omega) (by omega)
 omega
theorem Zhv{b:Fr}(h:Fp b=false):1≤b.re*b.re+b.im*b.im:=by
 have h1:0≤b.re*b.re:=Qw _;have h2:0≤b.im*b.im:=Qw _;by_cases e:b.re=0
 ·have e2:b.im≠0:=by
   intro h3;rw[Fp,decide_eq_true e,decide_eq_true h3] at h;cases h
  have h3:b.im*b.im≠0:=Int.mul_ne_zero e2 e2;omega
 ·have h3:b.re*b.re≠0:=Int.mul_ne_zero e e;omega
theorem Zqb{a b:Fr}(h:(Sa a b).2=false):(Sa a b).1=Fr.none:=by
 unfold Sa at h ⊢;split
 ·rename_i h1;rw[if_pos h1] at h;split
  ·rename_i h2;rw[if_pos h2] at h;unfold Zk at h ⊢;split
   ·rename_i h3;rw[if_pos h3] at h;unfold flow at h ⊢;split
    ·rename_i h4;rw[if_pos h4] at h;cases h
    ·rfl
   ·rfl
  ·rfl
 ·rfl
end
section
open Go.RowKit

structure Sm(bs:Nat)(w w':World):Prop where
  ex:∀W,Ex W w→W.heap.size≤bs→Ex W w'
  box:∀b t cs,b≠bs→Box w b t cs→Box w' b t cs
  own:∀lo T k v n cs,T≠92→Own w lo T k v n cs→Own w' lo T k v n cs
  size:w.heap.size≤w'.heap.size
theorem Sm.of_ex{bs:Nat}{w w':World}(h:Ex w w'):Sm bs w w':=⟨fun _ hW _=>hW.trans h,fun _ _ _ _ hb=>hb.ex h,fun _ _ _ _ _ _ _ ho=>Own.ex ho h,h.size⟩
theorem Sm.refl(bs:Nat)(w:World):Sm bs w w:=Sm.of_ex (Ex.refl w)
theorem Sm.trans{bs:Nat}{w w1 w2:World}(h:Sm bs w w1)(k:Sm bs w1 w2):Sm bs w w2:=
  ⟨fun W hW hl=>k.ex W (h.ex W hW hl) hl,fun b t cs hne hb=>k.box b t cs hne (h.box b t cs hne hb),fun _ _ _ _ _ _ hT ho=>k.own _ _ _ _ _ _ hT (h.own _ _ _ _ _ _ hT ho),Nat.le_trans h.size k.size⟩
theorem Sm.set{bs:Nat}{w:World}{cs:Av}(hb:Box w bs 92 cs)(i:Nat)(u:Value):Sm bs w (w.setCell ⟨bs,i,none⟩ u):=
  ⟨fun W hW hl=>hW.setCell (p:=⟨bs,i,none⟩) hl u,fun b t cs hne hb'=>hb'.far (p:=⟨bs,i,none⟩) hne u,
   fun lo T k v n cs hT ho=>Own.setCell (p:=⟨bs,i,none⟩) ho (fun g hg e=>by subst e;exact Own.ne ho hb hT hg.symm) u,by simp⟩
theorem Sm.setNew{bs:Nat}{w w':World}(h:Sm bs w w'){p:Addr}(hp:w.heap.size≤p.block)(u:Value):Sm bs w (w'.setCell p u):=
  ⟨fun W hW hl=>(h.ex W hW hl).setCell (Nat.le_trans hW.size hp) u,fun b t cs hne hb=>(h.box b t cs hne hb).far (by have:=hb.lt;omega) u,
   fun lo T k v n cs hT ho=>Own.setCell (h.own lo T k v n cs hT ho) (fun g hg e=>by have:=(Own.lt ho g hg).2;omega) u,by have:=h.size;simpa using this⟩
theorem Sm.alloc{bs:Nat}{w w':World}(h:Sm bs w w')(o:Obj):Sm bs w (w'.alloc o):=h.trans (Sm.of_ex ((Ex.refl _).alloc o))

theorem Or{x y z:Int}(h:(flow x y z).2=false):(flow x y z).1=Fr.none:=by
  unfold flow at h ⊢;split
  · rename_i h2;rw[if_pos h2] at h;cases h
  · rfl
def Vn(bs:Nat)(bad:Bool)(w:World)(r:Fr×Bool):Ending→World→Prop:=fun e w'=>e= .returned r.1.v∧Sm bs w w'∧Box w' bs 92 #[.bool (bad|| !r.2)]
theorem Qc(bs:Nat)(bad:Bool)(r:Fr×Bool)(w:World)(hb:Box w bs 92 #[bad])(hn:r.2=false→r.1=Fr.none):
    Calls prog 115 #[.pointer (some ⟨bs,0,none⟩),r.1.v,r.2] w (Vn bs bad w r):=by
  obtain⟨⟨r1,r2,r3⟩,ok⟩:=r;show Calls _ _ #[_, .agg #[r1,r2,r3],ok] _ _;have c:=hb.cell;have f:=hb.frozen;have z:=hb.lt;rcases ok with _|_
  · have hn':=hn rfl;simp only[Fr.none,Fr.mk.injEq] at hn';obtain⟨rfl,rfl,rfl⟩:=hn';clear hn;go_in;go_wp2;refine Zu (v:= .agg Oa) ?_ rfl ⟨rfl,?_,?_⟩
    · simp[results,results115,go_sem]
    · exact((Sm.set hb 0 _).alloc _).alloc _
    · have hs:Box _ bs 92 #[true]:=hb.set_ 0 (.bool true);have:(bad|| !false)=true:=by simp
      rw[this];exact(hs.alloc _).alloc _
  · clear hn;go_in;go_wp2;refine Zu (v:= .agg #[r1,r2,r3]) ?_ rfl ⟨rfl,?_,?_⟩
    · simp[results,results115,go_sem]
    · exact Sm.of_ex (by(first|exact Exi.out|(have:=Exi.mk ‹Ex _ _›;exact Exi.out)))
    · have:(bad|| !true)=bad:=by simp
      rw[this];exact hb.ex (by(first|exact Exi.out|(have:=Exi.mk ‹Ex _ _›;exact Exi.out)))
theorem Uu{a b:Fr}(h:(Yo a b).2=false):(Yo a b).1=Fr.none:=by
  unfold Yo at h ⊢;split
  · rename_i hv;rw[if_pos hv] at h;exact Or h
  · rfl
theorem Ti(bs:Nat)(bad:Bool)(a b:Fr)(w:World)(hb:Box w bs 92 #[bad]):
    Calls prog 53 #[.pointer (some ⟨bs,0,none⟩),a.v,b.v] w (Vn bs bad w (Yo a b)):=by
  have l1:=fun w=>Zhx a b w
  have l2:=fun w hb=>Qc bs bad (Yo a b) w hb Uu
  generalize Yo a b=r at l1 l2 ⊢;obtain⟨a1,a2,a3⟩:=a;obtain⟨b1,b2,b3⟩:=b;obtain⟨⟨r1,r2,r3⟩,ok⟩:=r;show Calls _ _ #[_, .agg #[a1,a2,a3], .agg #[b1,b2,b3]] _ _;have k1:∀w,Calls prog 119 #[.agg #[a1,a2,a3], .agg #[b1,b2,b3]] w _:=fun w=>Yc.spell (l1 w)
  have k2:∀w,Box w bs 92 #[bad]→Calls prog 115 #[.pointer (some ⟨bs,0,none⟩), .agg #[r1,r2,r3],ok] w fun e w'=>e= .returned (.agg #[r1,r2,r3])∧Sm bs w w'∧Box w' bs 92 #[.bool (bad|| !ok)]:=l2
  clear l1 l2;have hbs:=hb.lt;go_in;go_wp2_with fail;refine(k1 _).mono ?_;rintro e w1 ⟨rfl,hx⟩;have bR:=(Box.new _ _ _).ex hx;simp only[Zy] at bR;replace hx:=(((Ex.refl w).alloc _).alloc _|>.alloc _).trans hx;have zR:=bR.lt;go_wp2_with fail;refine(k2 _ (hb.ex hx)).mono ?_;rintro e w2 ⟨rfl,hsm,hb2⟩;have bR2:=hsm.box _ _ _ (by omega) bR;have cR:=bR2.cell;have fR:=bR2.frozen;clear bR hb;go_wp2;refine Zu (v:= .agg #[r1,r2,r3]) ?_ rfl ⟨rfl,?_,?_⟩
  · simp[results,results53,go_sem,cR]
  · repeat' (first
      |exact(Sm.of_ex hx).trans hsm
      |refine Sm.setNew ?_ (by simp<;>omega) _)
  · repeat' (first
      |exact hb2
      |refine Box.far ?_ (by simp<;>omega) _)
theorem Ut{a b:Fr}(h:(Xi a b).2=false):(Xi a b).1=Fr.none:=by
  unfold Xi at h ⊢;split
  · rename_i hv;rw[if_pos hv] at h;exact Or h
  · rfl
theorem Ue(bs:Nat)(bad:Bool)(a b:Fr)(w:World)(hb:Box w bs 92 #[bad]):
    Calls prog 54 #[.pointer (some ⟨bs,0,none⟩),a.v,b.v] w (Vn bs bad w (Xi a b)):=by
  have l1:=fun w=>Zkz a b w
  have l2:=fun w hb=>Qc bs bad (Xi a b) w hb Ut
  generalize Xi a b=r at l1 l2 ⊢;obtain⟨a1,a2,a3⟩:=a;obtain⟨b1,b2,b3⟩:=b;obtain⟨⟨r1,r2,r3⟩,ok⟩:=r;show Calls _ _ #[_, .agg #[a1,a2,a3], .agg #[b1,b2,b3]] _ _;have k1:∀w,Calls prog 120 #[.agg #[a1,a2,a3], .agg #[b1,b2,b3]] w _:=fun w=>Yc.spell (l1 w)
  have k2:∀w,Box w bs 92 #[bad]→Calls prog 115 #[.pointer (some ⟨bs,0,none⟩), .agg #[r1,r2,r3],ok] w fun e w'=>e= .returned (.agg #[r1,r2,r3])∧Sm bs w w'∧Box w' bs 92 #[.bool (bad|| !ok)]:=l2
  clear l1 l2;have hbs:=hb.lt;go_in;go_wp2_with fail;refine(k1 _).mono ?_;rintro e w1 ⟨rfl,hx⟩;have bR:=(Box.new _ _ _).ex hx;simp only[Zy] at bR;replace hx:=(((Ex.refl w).alloc _).alloc _|>.alloc _).trans hx;have zR:=bR.lt;go_wp2_with fail;refine(k2 _ (hb.ex hx)).mono ?_;rintro e w2 ⟨rfl,hsm,hb2⟩;have bR2:=hsm.box _ _ _ (by omega) bR;have cR:=bR2.cell;have fR:=bR2.frozen;clear bR hb;go_wp2;refine Zu (v:= .agg #[r1,r2,r3]) ?_ rfl ⟨rfl,?_,?_⟩
  · simp[results,results54,go_sem,cR]
  · repeat' (first
      |exact(Sm.of_ex hx).trans hsm
      |refine Sm.setNew ?_ (by simp<;>omega) _)
  · repeat' (first
      |exact hb2
      |refine Box.far ?_ (by simp<;>omega) _)
theorem Eq{a b:Fr}(h:(Zk a b).2=false):(Zk a b).1=Fr.none:=by
  unfold Zk at h ⊢;split
  · rename_i hv;rw[if_pos hv] at h;exact Or h
  · rfl
theorem Zzh(bs:Nat)(bad:Bool)(a b:Fr)(w:World)(hb:Box w bs 92 #[bad]):
    Calls prog 49 #[.pointer (some ⟨bs,0,none⟩),a.v,b.v] w (Vn bs bad w (Zk a b)):=by
  have l1:=fun w=>Hz a b w
  have l2:=fun w hb=>Qc bs bad (Zk a b) w hb Eq
  generalize Zk a b=r at l1 l2 ⊢;obtain⟨a1,a2,a3⟩:=a;obtain⟨b1,b2,b3⟩:=b;obtain⟨⟨r1,r2,r3⟩,ok⟩:=r;show Calls _ _ #[_, .agg #[a1,a2,a3], .agg #[b1,b2,b3]] _ _;have k1:∀w,Calls prog 117 #[.agg #[a1,a2,a3], .agg #[b1,b2,b3]] w _:=fun w=>Yc.spell (l1 w)
  have k2:∀w,Box w bs 92 #[bad]→Calls prog 115 #[.pointer (some ⟨bs,0,none⟩), .agg #[r1,r2,r3],ok] w fun e w'=>e= .returned (.agg #[r1,r2,r3])∧Sm bs w w'∧Box w' bs 92 #[.bool (bad|| !ok)]:=l2
  clear l1 l2;have hbs:=hb.lt;go_in;go_wp2_with fail;refine(k1 _).mono ?_;rintro e w1 ⟨rfl,hx⟩;have bR:=(Box.new _ _ _).ex hx;simp only[Zy] at bR;replace hx:=(((Ex.refl w).alloc _).alloc _|>.alloc _).trans hx;have zR:=bR.lt;go_wp2_with fail;refine(k2 _ (hb.ex hx)).mono ?_;rintro e w2 ⟨rfl,hsm,hb2⟩;have bR2:=hsm.box _ _ _ (by omega) bR;have cR:=bR2.cell;have fR:=bR2.frozen;clear bR hb;go_wp2;refine Zu (v:= .agg #[r1,r2,r3]) ?_ rfl ⟨rfl,?_,?_⟩
  · simp[results,results49,go_sem,cR]
  · repeat' (first
      |exact(Sm.of_ex hx).trans hsm
      |refine Sm.setNew ?_ (by simp<;>omega) _)
  · repeat' (first
      |exact hb2
      |refine Box.far ?_ (by simp<;>omega) _)
theorem Lt{a:Fr}(h:(Yq a).2=false):(Yq a).1=Fr.none:=by
  unfold Yq at h ⊢;split
  · rename_i hv;rw[if_pos hv] at h;cases h
  · rfl
theorem Zqa(bs:Nat)(bad:Bool)(a:Fr)(w:World)(hb:Box w bs 92 #[bad]):
    Calls prog 50 #[.pointer (some ⟨bs,0,none⟩),a.v] w (Vn bs bad w (Yq a)):=by
  have l1:=fun w=>Zuk a w
  have l2:=fun w hb=>Qc bs bad (Yq a) w hb Lt
  generalize Yq a=r at l1 l2 ⊢;obtain⟨a1,a2,a3⟩:=a;obtain⟨⟨r1,r2,r3⟩,ok⟩:=r;show Calls _ _ #[_, .agg #[a1,a2,a3]] _ _;have k1:∀w,Calls prog 118 #[.agg #[a1,a2,a3]] w _:=fun w=>Yc.spell (l1 w)
  have k2:∀w,Box w bs 92 #[bad]→Calls prog 115 #[.pointer (some ⟨bs,0,none⟩), .agg #[r1,r2,r3],ok] w fun e w'=>e= .returned (.agg #[r1,r2,r3])∧Sm bs w w'∧Box w' bs 92 #[.bool (bad|| !ok)]:=l2
  clear l1 l2;have hbs:=hb.lt;go_in;go_wp2_with fail;refine(k1 _).mono ?_;rintro e w1 ⟨rfl,hx⟩;have bR:=(Box.new _ _ _).ex hx;simp only[Zy] at bR;replace hx:=(((Ex.refl w).alloc _).alloc _).trans hx;have zR:=bR.lt;go_wp2_with fail;refine(k2 _ (hb.ex hx)).mono ?_;rintro e w2 ⟨rfl,hsm,hb2⟩;have bR2:=hsm.box _ _ _ (by omega) bR;have cR:=bR2.cell;have fR:=bR2.frozen;clear bR hb;go_wp2;refine Zu (v:= .agg #[r1,r2,r3]) ?_ rfl ⟨rfl,?_,?_⟩
  · simp[results,results50,go_sem,cR]
  · repeat' (first
      |exact(Sm.of_ex hx).trans hsm
      |refine Sm.setNew ?_ (by simp<;>omega) _)
  · repeat' (first
      |exact hb2
      |refine Box.far ?_ (by simp<;>omega) _)
theorem Uk{a:Fr}(h:(Zc a).2=false):(Zc a).1=Fr.none:=by
  unfold Zc at h ⊢;split
  · rename_i hv;rw[if_pos hv] at h;exact Or h
  · rfl
theorem Zkx(bs:Nat)(bad:Bool)(a:Fr)(w:World)(hb:Box w bs 92 #[bad]):
    Calls prog 48 #[.pointer (some ⟨bs,0,none⟩),a.v] w (Vn bs bad w (Zc a)):=by
  have l1:=fun w=>Zqf a w
  have l2:=fun w hb=>Qc bs bad (Zc a) w hb Uk
  generalize Zc a=r at l1 l2 ⊢;obtain⟨a1,a2,a3⟩:=a;obtain⟨⟨r1,r2,r3⟩,ok⟩:=r;show Calls _ _ #[_, .agg #[a1,a2,a3]] _ _;have k1:∀w,Calls prog 116 #[.agg #[a1,a2,a3]] w _:=fun w=>Yc.spell (l1 w)
  have k2:∀w,Box w bs 92 #[bad]→Calls prog 115 #[.pointer (some ⟨bs,0,none⟩), .agg #[r1,r2,r3],ok] w fun e w'=>e= .returned (.agg #[r1,r2,r3])∧Sm bs w w'∧Box w' bs 92 #[.bool (bad|| !ok)]:=l2
  clear l1 l2;have hbs:=hb.lt;go_in;go_wp2_with fail;refine(k1 _).mono ?_;rintro e w1 ⟨rfl,hx⟩;have bR:=(Box.new _ _ _).ex hx;simp only[Zy] at bR;replace hx:=(((Ex.refl w).alloc _).alloc _).trans hx;have zR:=bR.lt;go_wp2_with fail;refine(k2 _ (hb.ex hx)).mono ?_;rintro e w2 ⟨rfl,hsm,hb2⟩;have bR2:=hsm.box _ _ _ (by omega) bR;have cR:=bR2.cell;have fR:=bR2.frozen;clear bR hb;go_wp2;refine Zu (v:= .agg #[r1,r2,r3]) ?_ rfl ⟨rfl,?_,?_⟩
  · simp[results,results48,go_sem,cR]
  · repeat' (first
      |exact(Sm.of_ex hx).trans hsm
      |refine Sm.setNew ?_ (by simp<;>omega) _)
  · repeat' (first
      |exact hb2
      |refine Box.far ?_ (by simp<;>omega) _)
end
section
open Go.RowKit

class Zl(W w:World)(bs:outParam Nat)(bad:outParam Bool)(L:outParam (Xx)):Prop where
 sm:Sm bs W w
 sum:Box w bs 92 #[bad]
 boxes:Xy w L
 far:∀x∈L,x.1≠bs
theorem Xy.sm{bs:Nat}{w w1:World}(hs:Sm bs w w1):∀{L:Xx},(∀x∈L,x.1≠bs)→Xy w L→Xy w1 L
 |[],_,_=>trivial
 |_::_,hf,h=>⟨hs.box _ _ _ (hf _ (.head _)) h.1,Xy.sm hs (fun x hx=>hf x (.tail _ hx)) h.2⟩
theorem Xy.old{w:World}:∀{L:Xx},Xy w L→∀x∈L,x.1<w.heap.size
 |[],_,_,hx=>by cases hx
 |_::_,h,x,hx=>by
  rcases List.mem_cons.1 hx with rfl|hx
  ·exact h.1.lt
  ·exact Xy.old h.2 x hx
section
variable {W w w1:World} {bs n:Nat} {bad:Bool} {L:Xx} {cs:Av} {t:TypeId}
instance Zl.start{b:Bool}[h:Zo W w L]:Zl W (w.alloc (.cells #[b] 92)) w.heap.size b L:=
 ⟨Sm.of_ex (h.ex.alloc _),Box.new w _ _,Xy.ex ((Ex.refl w).alloc _) h.boxes,fun x hx=>Nat.ne_of_lt (Xy.old h.boxes x hx)⟩
instance Zl.alloc[h:Zl W w bs bad L]:Zl W (w.alloc (.cells cs t)) bs bad ((w.heap.size,t,cs)::L):=
 ⟨h.sm.alloc _,h.sum.alloc _,⟨Box.new w cs t,Xy.ex ((Ex.refl w).alloc _) h.boxes⟩,fun x hx=>by
  rcases List.mem_cons.1 hx with rfl|hx
  ·exact(Nat.ne_of_lt h.sum.lt).symm
  ·exact h.far x hx⟩
instance Zl.drew[h:Zl W w bs bad L]:Zl W w.drew bs bad L:=⟨h.sm.trans (Sm.of_ex (Ex.refl w).drew),h.sum.drew,Xy.ex (Ex.refl w).drew h.boxes,h.far⟩
instance Zl.drewN[h:Zl W w bs bad L]:Zl W (w.drewN n) bs bad L:=⟨h.sm.trans (Sm.of_ex ((Ex.refl w).drewN n)),h.sum.ex ((Ex.refl w).drewN n),Xy.ex ((Ex.refl w).drewN n) h.boxes,h.far⟩
theorem Zl.rel(h:Zl W w bs bad L)(hl:W.heap.size≤bs):Ex W w:=h.sm.ex W (Ex.refl W) hl
theorem Zl.init(hb:Box w bs 92 #[bad]):Zl w w bs bad []:=⟨Sm.refl _ _,hb,trivial,fun x hx=>by cases hx⟩
theorem Zl.put{b:Nat}(h:Zl W w bs bad L)(hb:Box w b t cs)(hne:b≠bs):Zl W w bs bad ((b,t,cs)::L):=⟨h.sm,h.sum,⟨hb,h.boxes⟩,fun x hx=>by
 rcases List.mem_cons.1 hx with rfl|hx
 ·exact hne
 ·exact h.far x hx⟩
theorem Zl.after[h:Zl W w bs bad L](hx:Ex w w1):Zl W w1 bs bad L:=
 ⟨h.sm.trans (Sm.of_ex hx),h.sum.ex hx,Xy.ex hx h.boxes,h.far⟩
theorem Zl.call{bad':Bool}(h:Zl W w bs bad L)(hs:Sm bs w w1)(hb:Box w1 bs 92 #[bad']):Zl W w1 bs bad' L:=
 ⟨h.sm.trans hs,hb,Xy.sm hs h.far h.boxes,h.far⟩
theorem Zl.rd(h:Zl W w bs bad L):Kw w ((bs,92,#[bad])::L):=⟨h.sum.cell,h.sum.frozen,h.sum.lt,h.boxes.rd⟩
theorem Zl.see{P:Program}{f:FuncId}{args:Av}{V:Value}{Q:Ending→World→Prop}(W:World)[h:Zl W w bs bad L]
  (K:Calls P f args w (fun e w'=>e= .returned V∧Ex w w')) (hk:∀wn,Zl W wn bs bad L→Kw wn ((bs,92,#[bad])::L)→Q (.returned V) wn):Calls P f args w Q:=
 K.mono (by
  rintro e wn ⟨rfl,hx⟩
  have h2:=Zl.after (h:=h) hx
  exact hk wn h2 h2.rd)
end

def Zuj(W:World)(bs:Nat)(bad:Bool)(L:Xx)(r:Fr×Bool):Ending→World→Prop:=fun e w'=>
 ∃(x y z:Int) (ok:Bool),Hid ((⟨x,y,z⟩,ok)=r)∧e= .returned (.agg #[x,y,z])∧Zl W w' bs (bad|| !ok) L
theorem Zuj.of{W w:World}{bs:Nat}{bad:Bool}{L:Xx}(h:Zl W w bs bad L){r:Fr×Bool}{f:FuncId}{args:Av}(hc:Calls prog f args w (Vn bs bad w r)):Calls prog f args w (Zuj W bs bad L r):=by
 obtain⟨⟨x,y,z⟩,ok⟩:=r;refine hc.mono ?_;rintro e w' ⟨rfl,hs,hb⟩;exact⟨x,y,z,ok,rfl,rfl,h.call hs hb⟩
section
variable (W:World) {w:World} {bs:Nat} {bad:Bool} {L:Xx} [h:Zl W w bs bad L] {a1 a2 a3 b1 b2 b3:Int}
theorem Df:Calls prog 53 #[.pointer (some ⟨bs,0,none⟩), .agg #[a1,a2,a3], .agg #[b1,b2,b3]] w (Zuj W bs bad L (Yo ⟨a1,a2,a3⟩ ⟨b1,b2,b3⟩)):=Zuj.of h (Ti bs bad ⟨a1,a2,a3⟩ ⟨b1,b2,b3⟩ w h.sum)
theorem Rz:Calls prog 49 #[.pointer (some ⟨bs,0,none⟩), .agg #[a1,a2,a3], .agg #[b1,b2,b3]] w (Zuj W bs bad L (Zk ⟨a1,a2,a3⟩ ⟨b1,b2,b3⟩)):=Zuj.of h (Zzh bs bad ⟨a1,a2,a3⟩ ⟨b1,b2,b3⟩ w h.sum)
end
theorem Ud(bs:Nat)(bad ok:Bool)(w:World)(hb:Box w bs 92 #[bad]):
  Calls prog 46 #[.pointer (some ⟨bs,0,none⟩),ok] w fun e w'=>e= .returned (.pointer (some ⟨bs,0,none⟩))∧Sm bs w w'∧Box w' bs 92 #[.bool (bad|| !ok)]:=by
 have c:=hb.cell;have f:=hb.frozen;have z:=hb.lt;rcases ok with _|_
 ·go_in;go_wp2;go_ret;refine⟨rfl,Sm.set hb 0 _,?_⟩;have hs:Box _ bs 92 #[true]:=hb.set_ 0 (.bool true);have:(bad|| !false)=true:=by simp
  rw[this];exact hs
 ·go_in;go_wp2;go_ret;refine⟨rfl,Sm.refl _ _,?_⟩;have:(bad|| !true)=bad:=by simp
  rw[this];exact hb
def NeedR(W:World)(bs:Nat)(bad ok:Bool)(L:Xx):Ending→World→Prop:=fun e w'=>e= .returned (.pointer (some ⟨bs,0,none⟩))∧Zl W w' bs (bad|| !ok) L
theorem Uc(W:World){w:World}{bs:Nat}{bad ok:Bool}{L:Xx}[h:Zl W w bs bad L]:
  Calls prog 46 #[.pointer (some ⟨bs,0,none⟩),ok] w (NeedR W bs bad ok L):=by
 refine(Ud bs bad ok w h.sum).mono ?_;rintro e w' ⟨rfl,hs,hb⟩;exact⟨rfl,h.call hs hb⟩
theorem Zuj.known{W w':World}{bs:Nat}{bad:Bool}{L:Xx}{r:Fr×Bool}{x y z:Int}{e:Ending}(h:Zuj W bs bad L r e w')(hr:r=(⟨x,y,z⟩,true)):
  e= .returned (.agg #[x,y,z])∧Zl W w' bs bad L:=by
 obtain⟨a,b,c,ok,H,rfl,hs⟩:=h;have e1:=H.out;rw[hr] at e1;simp only[Prod.mk.injEq,Fr.mk.injEq] at e1;obtain⟨⟨rfl,rfl,rfl⟩,rfl⟩:=e1;refine⟨rfl,?_⟩;have:(bad|| !true)=bad:=by simp
 rw[this] at hs;exact hs
end
section
open Go.RowKit

section
variable {W w:World} {bs:Nat} {b:Bool} {L:Xx} {a1 a2 a3 b1 b2 b3 x y z:Int} {k:Bool}
theorem Nz{r:Fr×Bool}{f:FuncId}{args:Av}(hB:Zl W w bs b L)(hc:Calls prog f args w (Vn bs b w r))(hr:r=(⟨x,y,z⟩,k)):
  Calls prog f args w fun e w'=>e= .returned (.agg #[x,y,z])∧Zl W w' bs (b|| !k) L∧Sm bs w w':=by
 subst hr;refine hc.mono ?_;rintro e w' ⟨rfl,hs,hb⟩;exact⟨rfl,hB.call hs hb,hs⟩
theorem Rj(hB:Zl W w bs b L)(hr:Yo ⟨a1,a2,a3⟩ ⟨b1,b2,b3⟩=(⟨x,y,z⟩,k)):Calls prog 53 #[.pointer (some ⟨bs,0,none⟩), .agg #[a1,a2,a3], .agg #[b1,b2,b3]] w fun e w'=>e= .returned (.agg #[x,y,z])∧Zl W w' bs (b|| !k) L∧Sm bs w w':=Nz hB (Ti bs b ⟨a1,a2,a3⟩ ⟨b1,b2,b3⟩ w hB.sum) hr
theorem Cr(hB:Zl W w bs b L)(hr:Xi ⟨a1,a2,a3⟩ ⟨b1,b2,b3⟩=(⟨x,y,z⟩,k)):Calls prog 54 #[.pointer (some ⟨bs,0,none⟩), .agg #[a1,a2,a3], .agg #[b1,b2,b3]] w fun e w'=>e= .returned (.agg #[x,y,z])∧Zl W w' bs (b|| !k) L∧Sm bs w w':=Nz hB (Ue bs b ⟨a1,a2,a3⟩ ⟨b1,b2,b3⟩ w hB.sum) hr
theorem Ye(hB:Zl W w bs b L)(hr:Zk ⟨a1,a2,a3⟩ ⟨b1,b2,b3⟩=(⟨x,y,z⟩,k)):Calls prog 49 #[.pointer (some ⟨bs,0,none⟩), .agg #[a1,a2,a3], .agg #[b1,b2,b3]] w fun e w'=>e= .returned (.agg #[x,y,z])∧Zl W w' bs (b|| !k) L∧Sm bs w w':=Nz hB (Zzh bs b ⟨a1,a2,a3⟩ ⟨b1,b2,b3⟩ w hB.sum) hr
theorem Qv(hB:Zl W w bs b L)(hr:Yq ⟨a1,a2,a3⟩=(⟨x,y,z⟩,k)):Calls prog 50 #[.pointer (some ⟨bs,0,none⟩), .agg #[a1,a2,a3]] w fun e w'=>e= .returned (.agg #[x,y,z])∧Zl W w' bs (b|| !k) L∧Sm bs w w':=Nz hB (Zqa bs b ⟨a1,a2,a3⟩ w hB.sum) hr
theorem Ry(hB:Zl W w bs b L)(hr:Zc ⟨a1,a2,a3⟩=(⟨x,y,z⟩,k)):Calls prog 48 #[.pointer (some ⟨bs,0,none⟩), .agg #[a1,a2,a3]] w fun e w'=>e= .returned (.agg #[x,y,z])∧Zl W w' bs (b|| !k) L∧Sm bs w w':=Nz hB (Zkx bs b ⟨a1,a2,a3⟩ w hB.sum) hr
end
theorem Zl.cast{W w:World}{bs bs':Nat}{b:Bool}{L L':Xx}[h:Zl W w bs b L](e1:bs=bs')(e2:L=L'):Zl W w bs' b L':=by
 subst e1 e2;exact h
theorem Zo.cast{W w:World}{L L':Xx}[h:Zo W w L](e2:L=L'):Zo W w L':=by
 subst e2;exact h
theorem Zo.drewW{W w:World}{L:Xx}(h:Zo W w L):Zo W {w with drawn:=w.drawn+1} L:=Zo.drew (h:=h)
theorem Zo.go{W w w1:World}{L:Xx}(h:Zo W w L)(hx:Ex w w1):Zo W w1 L:=Zo.after (h:=h) hx
theorem Zl.drewW{W w:World}{bs:Nat}{b:Bool}{L:Xx}(h:Zl W w bs b L):Zl W {w with drawn:=w.drawn+1} bs b L:=Zl.drew (h:=h)
theorem Zl.ex{W w w1:World}{bs:Nat}{b:Bool}{L:Xx}(h:Zl W w bs b L)(hx:Ex w w1):Zl W w1 bs b L:=Zl.after (h:=h) hx
theorem Gs(bs:Nat)(v0 v1 v2:Int)(w:World)(hb:Box w bs 92 #[true]):Calls prog 142 #[.pointer (some ⟨bs,0,none⟩), .agg #[v0,v1,v2]] w fun e w'=>e= .returned (.tuple #[.agg Oa,false])∧Ex w w':=by
 have c:=hb.cell;have z:=hb.lt;have ne1:w.heap.size≠bs:=Nat.ne_of_gt z;obtain⟨hS,hC⟩:=s0 w;go_in;go_wp2;exact Yp (by simp[results,results142,go_sem,hC]) rfl
theorem In(bs:Nat)(v0 v1 v2:Int)(w:World)(hb:Box w bs 92 #[false]):Calls prog 142 #[.pointer (some ⟨bs,0,none⟩), .agg #[v0,v1,v2]] w fun e w'=>e= .returned (.tuple #[.agg #[v0,v1,v2],true])∧Ex w w':=by
 have c:=hb.cell;have z:=hb.lt;have ne1:w.heap.size≠bs:=Nat.ne_of_gt z;obtain⟨hS,hC⟩:=s0 w;go_in;go_wp2;exact Yp (by simp[results,results142,go_sem,hC]) rfl
theorem Rx(bs:Nat)(v0 v1 v2 v3 v4 v5 v6 v7 v8 v9 v10 v11:Int)(w:World)(hb:Box w bs 92 #[true]):Calls prog 95 #[.pointer (some ⟨bs,0,none⟩), .agg #[v0,v1,v2,v3,v4,v5,v6,v7,v8,v9,v10,v11]] w fun e w'=>e= .returned (.tuple #[.agg Oc,false])∧Ex w w':=by
 have c:=hb.cell;have z:=hb.lt;have ne1:w.heap.size≠bs:=Nat.ne_of_gt z;obtain⟨hS,hC⟩:=s0 w;go_in;go_wp2;exact Yp (by simp[results,results95,go_sem,hC]) rfl
theorem Lp(bs:Nat)(v0 v1 v2 v3 v4 v5 v6 v7 v8 v9 v10 v11:Int)(w:World)(hb:Box w bs 92 #[false]):Calls prog 95 #[.pointer (some ⟨bs,0,none⟩), .agg #[v0,v1,v2,v3,v4,v5,v6,v7,v8,v9,v10,v11]] w fun e w'=>e= .returned (.tuple #[.agg #[v0,v1,v2,v3,v4,v5,v6,v7,v8,v9,v10,v11],true])∧Ex w w':=by
 have c:=hb.cell;have z:=hb.lt;have ne1:w.heap.size≠bs:=Nat.ne_of_gt z;obtain⟨hS,hC⟩:=s0 w;go_in;go_wp2;exact Yp (by simp[results,results95,go_sem,hC]) rfl
theorem Va(bs:Nat)(v0 v1 v2 v3 v4 v5:Int)(w:World)(hb:Box w bs 92 #[true]):Calls prog 201 #[.pointer (some ⟨bs,0,none⟩), .agg #[v0,v1,v2,v3,v4,v5]] w fun e w'=>e= .returned (.tuple #[.agg Ob,false])∧Ex w w':=by
 have c:=hb.cell;have z:=hb.lt;have ne1:w.heap.size≠bs:=Nat.ne_of_gt z;obtain⟨hS,hC⟩:=s0 w;go_in;go_wp2;exact Yp (by simp[results,results201,go_sem,hC]) rfl
theorem Ri(bs:Nat)(v0 v1 v2 v3 v4 v5:Int)(w:World)(hb:Box w bs 92 #[false]):Calls prog 201 #[.pointer (some ⟨bs,0,none⟩), .agg #[v0,v1,v2,v3,v4,v5]] w fun e w'=>e= .returned (.tuple #[.agg #[v0,v1,v2,v3,v4,v5],true])∧Ex w w':=by
 have c:=hb.cell;have z:=hb.lt;have ne1:w.heap.size≠bs:=Nat.ne_of_gt z;obtain⟨hS,hC⟩:=s0 w;go_in;go_wp2;exact Yp (by simp[results,results201,go_sem,hC]) rfl
theorem Kj(bs:Nat)(v0 v1 v2 v3 v4 v5 v6 v7 v8 v9 v10 v11:Int)(w:World)(hb:Box w bs 92 #[true]):Calls prog 52 #[.pointer (some ⟨bs,0,none⟩), .agg #[v0,v1,v2,v3,v4,v5,v6,v7,v8,v9,v10,v11]] w fun e w'=>e= .returned (.tuple #[.agg Oc,false])∧Ex w w':=by
 have c:=hb.cell;have z:=hb.lt;have ne1:w.heap.size≠bs:=Nat.ne_of_gt z;obtain⟨hS,hC⟩:=s0 w;go_in;go_wp2;exact Yp (by simp[results,results52,go_sem,hC]) rfl
theorem Kv(bs:Nat)(v0 v1 v2 v3 v4 v5 v6 v7 v8 v9 v10 v11:Int)(w:World)(hb:Box w bs 92 #[false]):Calls prog 52 #[.pointer (some ⟨bs,0,none⟩), .agg #[v0,v1,v2,v3,v4,v5,v6,v7,v8,v9,v10,v11]] w fun e w'=>e= .returned (.tuple #[.agg #[v0,v1,v2,v3,v4,v5,v6,v7,v8,v9,v10,v11],true])∧Ex w w':=by
 have c:=hb.cell;have z:=hb.lt;have ne1:w.heap.size≠bs:=Nat.ne_of_gt z;obtain⟨hS,hC⟩:=s0 w;go_in;go_wp2;exact Yp (by simp[results,results52,go_sem,hC]) rfl
end
section
open Go.RowKit

theorem Box.setRow{w:World}{g:Nat}{t:TypeId}{cs:Av}(h:Box w g t cs)(x:Av):Box (w.setRow g x) g t x:=setRow_heap w g cs x t (0,0) h
theorem Box.setRow_far{w:World}{b g:Nat}{t:TypeId}{cs:Av}(h:Box w b t cs)(hne:b≠g)(x:Av):Box (w.setRow g x) b t cs:=(setRow_other w g b x hne).trans h
theorem Ex.setRow{W w:World}(h:Ex W w){g:Nat}(hg:W.heap.size≤g)(x:Av):Ex W (w.setRow g x):=below_setRow h hg x
theorem Sm.setRow{bs:Nat}{w w':World}(h:Sm bs w w'){g:Nat}(hg:w.heap.size≤g)(x:Av):Sm bs w (w'.setRow g x):=
  ⟨fun W hW hl=>(h.ex W hW hl).setRow (Nat.le_trans hW.size hg) x,fun b t cs hne hb=>(h.box b t cs hne hb).setRow_far (by have:=hb.lt;omega) x,
   fun lo T k v n cs hT ho=>by
    have ho':=h.own lo T k v n cs hT ho
    refine⟨ho'.1,?_⟩
    rcases ho'.2 with h0|⟨g',cap,cur,rfl,hg',hh,hr⟩
    · exact .inl h0
    · refine .inr ⟨g',cap,cur,rfl,hg',?_,hr⟩
      have:g'≠g:=by have:=(Own.lt ho g' rfl).2;omega
      exact(setRow_other w' g g' x this).trans hh,by have:=h.size;simpa using this⟩
section
variable {W w w2:World} {bs:Nat} {b b2:Bool} {L:Xx} {g:Nat}
theorem Xy.setRow_far:∀{L:Xx},(∀x∈L,x.1<g)→Xy w L→∀x,Xy (w.setRow g x) L
  |[],_,_,_=>trivial
  |_::_,hl,h,x=>⟨h.1.setRow_far (Nat.ne_of_lt (hl _ (.head _))) x,Xy.setRow_far (fun y hy=>hl y (.tail _ hy)) h.2 x⟩
structure InS(W:World)(bs:Nat)(L:Xx)(b:Bool)(w:World):Prop where
  sees:Zl W w bs b L
  old:∀x∈L,x.1<W.heap.size
  olds:bs<W.heap.size
theorem InS.start(h:Zl W w bs b L):InS w bs L b w:=⟨⟨Sm.refl _ _,h.sum,h.boxes,h.far⟩,Xy.old h.boxes,h.sum.lt⟩
theorem InS.drew(h:InS W bs L b w):InS W bs L b {w with drawn:=w.drawn+1}:=⟨h.sees.drewW,h.old,h.olds⟩
theorem InS.alloc(h:InS W bs L b w)(o:Obj):InS W bs L b (w.alloc o):=⟨h.sees.ex ((Ex.refl w).alloc o),h.old,h.olds⟩
theorem InS.size(h:InS W bs L b w):W.heap.size≤w.heap.size:=h.sees.sm.size
theorem InS.setRow(h:InS W bs L b w)(hg:W.heap.size≤g)(x:Av):InS W bs L b (w.setRow g x):=
  ⟨⟨h.sees.sm.setRow hg x,h.sees.sum.setRow_far (by have:=h.olds;omega) x,Xy.setRow_far (fun y hy=>Nat.lt_of_lt_of_le (h.old y hy) hg) h.sees.boxes x,h.sees.far⟩,h.old,h.olds⟩
theorem InS.call(h:InS W bs L b w)(hN:Zl W w2 bs b2 L):InS W bs L b2 w2:=⟨hN,h.old,h.olds⟩
theorem InS.join(h0:Zl W w bs b L)(h:InS w bs L b2 w2):Zl W w2 bs b2 L:=⟨h0.sm.trans h.sees.sm,h.sees.sum,h.sees.boxes,h.sees.far⟩
structure InE(W:World)(L:Xx)(w:World):Prop where
  sees:Zo W w L
  old:∀x∈L,x.1<W.heap.size
theorem InE.start(h:Zo W w L):InE w L w:=⟨⟨Ex.refl _,h.boxes⟩,Xy.old h.boxes⟩
theorem InE.drew(h:InE W L w):InE W L {w with drawn:=w.drawn+1}:=⟨h.sees.drewW,h.old⟩
theorem InE.alloc(h:InE W L w)(o:Obj):InE W L (w.alloc o):=⟨h.sees.go ((Ex.refl w).alloc o),h.old⟩
theorem InE.size(h:InE W L w):W.heap.size≤w.heap.size:=h.sees.ex.size
theorem InE.setRow(h:InE W L w)(hg:W.heap.size≤g)(x:Av):InE W L (w.setRow g x):=
  ⟨⟨h.sees.ex.setRow hg x,Xy.setRow_far (fun y hy=>Nat.lt_of_lt_of_le (h.old y hy) hg) h.sees.boxes x⟩,h.old⟩
theorem InE.go(h:InE W L w)(hx:Ex w w2):InE W L w2:=⟨h.sees.go hx,h.old⟩
theorem InE.join(h0:Zo W w L)(h:InE w L w2):Zo W w2 L:=⟨h0.ex.trans h.sees.ex,h.sees.boxes⟩
end
theorem Xh{B:Bool→World→Prop}{N0:Nat}{t ty ty':TypeId}{pos:String}{after:Array Edge}{p q:Nat}{z x:Av}(hi:(Tryz.prog.info? t).map (·.size)=some x.size)(hz:z.size=x.size)(h1:x.all (·.oneCell')=true)
    (hB:∀b w g,N0≤g→B b w→B b (w.setRow g x)):Hv prog N0 B ty {dst:=none,op:= .store t (.tmp p) (.tmp q),type:=ty',pos:=pos,after:=after,guard:=none} p q (.agg x) z x:=by
  refine⟨rfl,rfl,fun a g w hp hq hb=>⟨w.setRow g x,?_,hb.setRow x,fun b t' cs hne h=>h.setRow_far hne x,fun hg b h=>hB b w g hg h⟩⟩;unfold execOp;simp only[hp,hq,Instr.storeAt,Instr.sureAddr,Sem.run_bind,Sem.run_pure,Result.andThen_ok,run_storeVar_row w g ty t z x hb hi hz h1]
theorem Yt{p:Nat}{ty':TypeId}{pos:String}{after:Array Edge}:Qu prog 30 {dst:=some p,op:= .alloc 30,type:=ty',pos:=pos,after:=after,guard:=none} p Oa:=⟨rfl,rfl,fun ρ w=>by simp[execOp,go_sem]⟩
theorem Mn{p:Nat}{ty':TypeId}{pos:String}{after:Array Edge}:Qu prog 79 {dst:=some p,op:= .alloc 79,type:=ty',pos:=pos,after:=after,guard:=none} p Oc:=⟨rfl,rfl,fun ρ w=>by simp[execOp,go_sem]⟩
theorem Rw{p:Nat}{ty':TypeId}{pos:String}{after:Array Edge}:Qu prog 39 {dst:=some p,op:= .alloc 39,type:=ty',pos:=pos,after:=after,guard:=none} p Ob:=⟨rfl,rfl,fun ρ w=>by simp[execOp,go_sem]⟩
theorem Ym:(Tryz.prog.info? 30).map (·.size)=some 3:=by kernel_rfl
theorem Kh:(Tryz.prog.info? 79).map (·.size)=some 12:=by kernel_rfl
theorem Qt:(Tryz.prog.info? 39).map (·.size)=some 6:=by kernel_rfl
theorem Zo.put{W w:World}{L:Xx}{g:Nat}{t:TypeId}{cs:Av}(h:Zo W w L)(hb:Box w g t cs):Zo W w ((g,t,cs)::L):=⟨h.ex,hb,h.boxes⟩
theorem Wy{W:World}{L:Xx}{t ty ty':TypeId}{pos:String}{after:Array Edge}{p q:Nat}{z x:Av}(hi:(Tryz.prog.info? t).map (·.size)=some x.size)(hz:z.size=x.size)(h1:x.all (·.oneCell')=true):
    Hv prog W.heap.size (fun _ w'=>InE W L w') ty {dst:=none,op:= .store t (.tmp p) (.tmp q),type:=ty',pos:=pos,after:=after,guard:=none} p q (.agg x) z x:=Xh hi hz h1 (fun _ _ _ hg h=>h.setRow hg _)
theorem Rv{W w:World}{L:Xx}(hS0:Zo W w L)(n g:Nat)(t:TypeId)(p q:Nat)(zs xs:Av){id:Nat}{Q:Exit→Act→World→Prop}{a:Act}{l:List Oper}
    (hB:Zzu .any l n 1 g=true) (hpq:p≠q)
    (h:Wf prog l.toArray (fun _ w'=>InE w L w') Ex (fun l' a' _=>(∃o,l'[0]? =some o∧Qu prog t o p zs)∧(∃o,l'[1]? =some o∧Hv prog w.heap.size (fun _ w'=>InE w L w') t o p q (a'.eval (.tmp q)) zs xs)∧
      p<a'.tmps.size∧∀g0 wz,w.heap.size≤g0→Zo W wz ((g0,t,xs)::L)→wpList prog l.toArray Q (l.drop (n+2)) (a'.put (some p) (.pointer (some ⟨g0,0,none⟩))) wz) n l a false):(Code.region id l.toArray true).wp prog Q a w:=by
  refine Yh (St:=Ex) (B:=fun _ w'=>InE w L w') n 1 g w.heap.size t (fun _=>p) (fun _=>q) (fun _=>zs) (fun _=>xs) false Zdt hB (InE.drew (InE.start hS0)) (fun x y h1 h2 _=>by omega) (fun x y _ _=>hpq) (fun _ _ h g cs _ hb=>hb.ex h) (fun _ _ cs h=>h.alloc _) (fun _ _ h=>h.size) (Hy (fun l' a' e' h'=>?_) h);obtain⟨h1,h2,h3,h4⟩:=h';refine⟨fun i hi=>?_,fun i hi=>?_,fun _ _=>h3,fun gg wz hz hbx _=>?_⟩
  · obtain rfl:i=0:=by omega
    exact h1
  · obtain rfl:i=0:=by omega
    exact h2
  · obtain⟨hg0,hb0⟩:=hbx 0 (by omega);exact h4 _ _ hg0 (Zo.put (InE.join hS0 hz) hb0)
theorem Kg{W w:World}{L:Xx}(hS0:Zo W w L)(n g:Nat)(t:TypeId)(p p2 q q2:Nat)(zs zs2 xs xs2:Av){id:Nat}{Q:Exit→Act→World→Prop}{a:Act}{l:List Oper}
    (hB:Zzu .any l n 2 g=true) (hc:(p !=p2&&p !=q&&p !=q2&&p2 !=q&&p2 !=q2)=true)
    (h:Wf prog l.toArray (fun _ w'=>InE w L w') Ex (fun l' a' _=>(∃o,l'[0]? =some o∧Qu prog t o p zs)∧(∃o,l'[1]? =some o∧Qu prog t o p2 zs2)∧(∃o,l'[2]? =some o∧Hv prog w.heap.size (fun _ w'=>InE w L w') t o p q (a'.eval (.tmp q)) zs xs)∧
      (∃o,l'[3]? =some o∧Hv prog w.heap.size (fun _ w'=>InE w L w') t o p2 q2 (a'.eval (.tmp q2)) zs2 xs2)∧p<a'.tmps.size∧p2<a'.tmps.size∧
      ∀g0 g1 wz,w.heap.size≤g0→w.heap.size≤g1→Zo W wz ((g1,t,xs2)::(g0,t,xs)::L)→wpList prog l.toArray Q (l.drop (n+4)) ((a'.put (some p) (.pointer (some ⟨g0,0,none⟩))).put (some p2) (.pointer (some ⟨g1,0,none⟩))) wz) n l a false):(Code.region id l.toArray true).wp prog Q a w:=by
  simp only[Bool.and_eq_true,bne_iff_ne] at hc;obtain⟨⟨⟨⟨hpp,h1⟩,h2⟩,h3⟩,h4⟩:=hc;refine Yh (St:=Ex) (B:=fun _ w'=>InE w L w') n 2 g w.heap.size t (fun i=>if i=0 then p else p2) (fun i=>if i=0 then q else q2) (fun i=>if i=0 then zs else zs2) (fun i=>if i=0 then xs else xs2) false Zdt hB (InE.drew (InE.start hS0)) (fun x y hx hy hxy=>?_) (fun x y hx hy=>?_) (fun _ _ h g cs _ hb=>hb.ex h) (fun _ _ cs h=>h.alloc _) (fun _ _ h=>h.size) (Hy (fun l' a' e' h'=>?_) h)
  · obtain rfl|rfl:x=0∨x=1:=by omega
    all_goals (obtain rfl|rfl:y=0∨y=1:=by omega)
    · rfl
    · exact absurd hxy hpp
    · exact absurd hxy.symm hpp
    · rfl
  · obtain rfl|rfl:x=0∨x=1:=by omega
    all_goals (obtain rfl|rfl:y=0∨y=1:=by omega)
    · exact h1
    · exact h2
    · exact h3
    · exact h4
  · obtain⟨m1,m2,f1,f2,z1,z2,hk⟩:=h';refine⟨fun i hi=>?_,fun i hi=>?_,fun i hi=>?_,fun gg wz hz hbx _=>?_⟩
    · obtain rfl|rfl:i=0∨i=1:=by omega
      · exact m1
      · exact m2
    · obtain rfl|rfl:i=0∨i=1:=by omega
      · exact f1
      · exact f2
    · obtain rfl|rfl:i=0∨i=1:=by omega
      · exact z1
      · exact z2
    · obtain⟨hg0,hb0⟩:=hbx 0 (by omega);obtain⟨hg1,hb1⟩:=hbx 1 (by omega);exact hk _ _ _ hg0 hg1 (Zo.put (Zo.put (InE.join hS0 hz) hb0) hb1)
end
section
open Go.RowKit

theorem Fk{a b:Fr}(h:a.valid=false):Sa a b=(Fr.none,false):=by simp[Sa,h]
theorem Zkv{a b:Fr}(h:b.valid=false):Sa a b=(Fr.none,false):=by simp[Sa,h]
theorem Zku{a b:Fr}(h:Fp b=true):Sa a b=(Fr.none,false):=by simp[Sa,h]
theorem Zkt{a b:Fr}(h:(Mo b).2=false):Sa a b=(Fr.none,false):=by
 unfold Sa;split
 ·rw[h];rfl
 ·rfl
theorem Zhr{a b:Fr}(h1:a.valid=true)(h2:b.valid=true)(h3:Fp b=false)(h4:(Mo b).2=true):Sa a b=Zk a (Mo b).1:=by simp[Sa,h1,h2,h3,h4]
theorem Zdr{b:Fr}(h:b.valid=true)(h3:Fp b=true):b=⟨0,0,1⟩:=by
 obtain⟨-, -,h4,h5⟩:=Fr.valid_out h;obtain⟨b1,b2,b3⟩:=b;simp only[Fp,Bool.and_eq_true,decide_eq_true_eq] at h3;obtain⟨rfl,rfl⟩:=h3;simp only at h4 h5;unfold Wo at h5;simp at h5;have:b3=1:=by omega
 rw[this]
def JvGot(w:World)(r:(Fr×Fr)×Bool):Ending→World→Prop:=fun e w'=>e= .returned (.tuple #[.agg #[r.1.1.re,r.1.1.im,r.1.1.den,r.1.2.re,r.1.2.im,r.1.2.den],r.2])∧Ex w w'
theorem Zks(a b:Fr)(w:World)[hG:Xz w]:Calls prog 170 #[a.v,b.v] w (Yc w (Sa a b)):=by
 have k1:=fun w=>Xj a.re a.im a.den w
 have k2:=fun w=>Xj b.re b.im b.den w
 rcases h1:a.valid with _|_
 ·rw[Fk h1];unfold Fr.valid at h1;simp only[h1] at k1;clear h1 k2;have K1:=Zz k1;clear k1;obtain⟨a1,a2,a3⟩:=a;obtain⟨b1,b2,b3⟩:=b;show Calls _ _ #[.agg #[a1,a2,a3], .agg #[b1,b2,b3]] _ _;obtain⟨hS,hC⟩:=s0 w;have hg:=hG.rd;go_in;go_wp2_with ((with_reducible apply Zo.seeG w;exact K1.out _);clear hS hC hG;intro wn hS hC hG;simp only[Zr,Zq,Zy] at hC;replace hg:=hG.rd);exact Yp (v:=frv (Fr.none,false)) (by simp[results,results170,go_sem,hC,frv,Fr.v,Fr.none]) rfl
 ·rcases h2:b.valid with _|_
  ·rw[Zkv h2];unfold Fr.valid at h1 h2;simp only[h1] at k1;simp only[h2] at k2;clear h1 h2;have K1:=Zz k1;have K2:=Zz k2;clear k1 k2;obtain⟨a1,a2,a3⟩:=a;obtain⟨b1,b2,b3⟩:=b;show Calls _ _ #[.agg #[a1,a2,a3], .agg #[b1,b2,b3]] _ _;obtain⟨hS,hC⟩:=s0 w;have hg:=hG.rd;go_in;go_wp2_with ((with_reducible apply Zo.seeG w;first|exact K1.out _|exact K2.out _);clear hS hC hG;intro wn hS hC hG;simp only[Zr,Zq,Zy] at hC;replace hg:=hG.rd);exact Yp (v:=frv (Fr.none,false)) (by simp[results,results170,go_sem,hC,frv,Fr.v,Fr.none]) rfl
  ·rcases h3:Fp b with _|_
   ·rcases h4:(Mo b).2 with _|_
    ·rw[Zkt h4];have hn:=Zhv h3;obtain⟨⟨p1,p2⟩,⟨p3,p4⟩,⟨p5,p6⟩, -⟩:=Fr.valid_out h2;have m1:=Wm (a:=b.den) (b:=b.re) (by omega) (by omega);have m2:=Wm (a:= -b.den) (b:=b.im) (by omega) (by omega);have m3:=Wm (a:=b.re) (b:=b.re) (by omega) (by omega);have m4:=Wm (a:=b.im) (b:=b.im) (by omega) (by omega);have kl:=fun w=>Uv (b.den*b.re) (-b.den*b.im) (b.re*b.re+b.im*b.im) w (by omega) (by omega) (by omega)
     change ∀w,Calls _ _ _ w (Yc w (Mo b)) at kl;have w1:=Zt (-b.den) (by omega);have hne:(b.re==0&&b.im==0)=false:=by unfold Fp at h3;simpa using h3
     generalize Mo b=t at kl h4;obtain⟨⟨t1,t2,t3⟩,tk⟩:=t;simp only at h4;subst h4;replace kl:=fun w=>Yc.spell (kl w)
     unfold Fr.valid at h1 h2;simp only[h1] at k1;simp only[h2] at k2;unfold Fp at h3;clear h1 h2 hn hne;obtain⟨a1,a2,a3⟩:=a;obtain⟨b1,b2,b3⟩:=b;simp only at*;show Calls _ _ #[.agg #[a1,a2,a3], .agg #[b1,b2,b3]] _ _;by_cases hb:b1=0
     ·subst hb;have hb2:(b2==0)=false:=by simpa using h3
      clear h3 m3;simp only[Int.mul_zero,Int.zero_add] at kl m1;generalize ex2: -b3*b2=x2 at*;generalize ex4:b2*b2=x4 at*;have K1:=Zz k1;have K2:=Zz k2;have KL:=Zz kl;clear k1 k2 kl;obtain⟨hS,hC⟩:=s0 w;have hg:=hG.rd;go_in;go_wp2_with ((with_reducible apply Zo.seeG w;first|exact K1.out _|exact K2.out _|exact KL.out _);clear hS hC hG;intro wn hS hC hG;simp only[Zr,Zq,Zy] at hC;replace hg:=hG.rd);exact Yp (v:=frv (Fr.none,false)) (by simp[results,results170,go_sem,hC,frv,Fr.v,Fr.none]) rfl
     ·have hb2:(b1==0)=false:=by simpa using hb
      clear h3 hb;generalize ex1:b3*b1=x1 at*;generalize ex2: -b3*b2=x2 at*;generalize ex3:b1*b1=x3 at*;generalize ex4:b2*b2=x4 at*;have K1:=Zz k1;have K2:=Zz k2;have KL:=Zz kl;clear k1 k2 kl;obtain⟨hS,hC⟩:=s0 w;have hg:=hG.rd;go_in;go_wp2_with ((with_reducible apply Zo.seeG w;first|exact K1.out _|exact K2.out _|exact KL.out _);clear hS hC hG;intro wn hS hC hG;simp only[Zr,Zq,Zy] at hC;replace hg:=hG.rd);exact Yp (v:=frv (Fr.none,false)) (by simp[results,results170,go_sem,hC,frv,Fr.v,Fr.none]) rfl
    ·rw[Zhr h1 h2 h3 h4];have hn:=Zhv h3;obtain⟨⟨p1,p2⟩,⟨p3,p4⟩,⟨p5,p6⟩, -⟩:=Fr.valid_out h2;have m1:=Wm (a:=b.den) (b:=b.re) (by omega) (by omega);have m2:=Wm (a:= -b.den) (b:=b.im) (by omega) (by omega);have m3:=Wm (a:=b.re) (b:=b.re) (by omega) (by omega);have m4:=Wm (a:=b.im) (b:=b.im) (by omega) (by omega);have kl:=fun w=>Uv (b.den*b.re) (-b.den*b.im) (b.re*b.re+b.im*b.im) w (by omega) (by omega) (by omega)
     change ∀w,Calls _ _ _ w (Yc w (Mo b)) at kl;have w1:=Zt (-b.den) (by omega);have hne:(b.re==0&&b.im==0)=false:=by unfold Fp at h3;simpa using h3
     have kt:=fun w=>Hz a (Mo b).1 w
     generalize Zk a (Mo b).1=u at kt ⊢;generalize Mo b=t at kl h4 kt;obtain⟨⟨t1,t2,t3⟩,tk⟩:=t;simp only at h4;subst h4;replace kl:=fun w=>Yc.spell (kl w)
     obtain⟨⟨u1,u2,u3⟩,uk⟩:=u;replace kt:=fun w=>Yc.spell (kt w)
     unfold Fr.valid at h1 h2;simp only[h1] at k1;simp only[h2] at k2;unfold Fp at h3;clear h1 h2 hn hne;obtain⟨a1,a2,a3⟩:=a;obtain⟨b1,b2,b3⟩:=b;simp only at*;show Calls _ _ #[.agg #[a1,a2,a3], .agg #[b1,b2,b3]] _ _;have KT:Hid (∀w,Calls prog 117 #[.agg #[a1,a2,a3], .agg #[t1,t2,t3]] w fun e w'=>e= .returned (.tuple #[.agg #[u1,u2,u3],uk])∧Ex w w'):=kt;clear kt;by_cases hb:b1=0
     ·subst hb;have hb2:(b2==0)=false:=by simpa using h3
      clear h3 m3;simp only[Int.mul_zero,Int.zero_add] at kl m1;generalize ex2: -b3*b2=x2 at*;generalize ex4:b2*b2=x4 at*;have K1:=Zz k1;have K2:=Zz k2;have KL:=Zz kl;clear k1 k2 kl;obtain⟨hS,hC⟩:=s0 w;have hg:=hG.rd;go_in;go_wp2_with ((with_reducible apply Zo.seeG w;first|exact K1.out _|exact K2.out _|exact KL.out _|exact KT.out _);clear hS hC hG;intro wn hS hC hG;simp only[Zr,Zq,Zy] at hC;replace hg:=hG.rd);exact Yp (v:=frv (⟨u1,u2,u3⟩,uk)) (by simp[results,results170,go_sem,hC,frv,Fr.v,Fr.none]) rfl
     ·have hb2:(b1==0)=false:=by simpa using hb
      clear h3 hb;generalize ex1:b3*b1=x1 at*;generalize ex2: -b3*b2=x2 at*;generalize ex3:b1*b1=x3 at*;generalize ex4:b2*b2=x4 at*;have K1:=Zz k1;have K2:=Zz k2;have KL:=Zz kl;clear k1 k2 kl;obtain⟨hS,hC⟩:=s0 w;have hg:=hG.rd;go_in;go_wp2_with ((with_reducible apply Zo.seeG w;first|exact K1.out _|exact K2.out _|exact KL.out _|exact KT.out _);clear hS hC hG;intro wn hS hC hG;simp only[Zr,Zq,Zy] at hC;replace hg:=hG.rd);exact Yp (v:=frv (⟨u1,u2,u3⟩,uk)) (by simp[results,results170,go_sem,hC,frv,Fr.v,Fr.none]) rfl
   ·rw[Zku h3];obtain rfl:=Zdr h2 h3;unfold Fr.valid at h1;have e2:Yx 0 0 1=true:=h2;simp only[h1] at k1;simp only[e2] at k2;clear h1 h2 h3 e2;have K1:=Zz k1;have K2:=Zz k2;clear k1 k2;obtain⟨a1,a2,a3⟩:=a;show Calls _ _ #[.agg #[a1,a2,a3], .agg #[oo,oo, .int .i64 1]] _ _;obtain⟨hS,hC⟩:=s0 w;have hg:=hG.rd;go_in;go_wp2_with ((with_reducible apply Zo.seeG w;first|exact K1.out _|exact K2.out _);clear hS hC hG;intro wn hS hC hG;simp only[Zr,Zq,Zy] at hC;replace hg:=hG.rd);exact Yp (v:=frv (Fr.none,false)) (by simp[results,results170,go_sem,hC,frv,Fr.v,Fr.none]) rfl
end
section
theorem De{x y z:Int}(h:(flow x y z).2=false):(flow x y z).1=Fr.none:=by
 unfold flow at h ⊢;split
 ·rename_i h2;rw[if_pos h2] at h;cases h
 ·rfl
theorem Vc:Fr.none.valid=false:=by decide
theorem Cn{a b:Fr}(h:b.valid=false):Zk a b=(Fr.none,false):=by simp[Zk,h]
theorem Fj{a b:Fr}(h:a.valid=false):Yo a b=(Fr.none,false):=by simp[Yo,h]
theorem Fi{a b:Fr}(h:b.valid=false):Yo a b=(Fr.none,false):=by simp[Yo,h]
theorem Zze{a b:Fr}(h:(Zk a b).2=false):(Zk a b).1=Fr.none:=by
 unfold Zk at h ⊢;split
 ·rename_i h2;rw[if_pos h2] at h;exact De h
 ·rfl
def Xd(a b c d:Fr):Fr×Bool:=Yo (Zk a b).1 (Zk c d).1
theorem Zzd(a b c d:Fr):(if (Zk a b).2&&(Zk c d).2 then Yo (Zk a b).1 (Zk c d).1 else (Fr.none,false))=Xd a b c d:=by
 unfold Xd;rcases h1:(Zk a b).2 with _|_
 ·rw[Zze h1,Fj Vc];rfl
 rcases h2:(Zk c d).2 with _|_
 ·rw[Zze h2,Fi Vc];rfl
 rfl
theorem Oq(a b c d:Fr)(x:Bool):(((x|| !(Zk a b).2)|| !(Zk c d).2)|| !(Xd a b c d).2)=(x|| !(Xd a b c d).2):=by
 have:=Zzd a b c d
 rcases h1:(Zk a b).2 with _|_
 ·rw[h1] at this;simp only[Bool.false_and,Bool.false_eq_true,if_false] at this;rw[←this];simp
 rcases h2:(Zk c d).2 with _|_
 ·rw[h1,h2] at this;simp only[Bool.and_false,Bool.false_eq_true,if_false] at this;rw[←this];simp
 simp

structure M4 where
 a:Fr
 b:Fr
 c:Fr
 d:Fr
 deriving DecidableEq
def M4.none:M4:=⟨Fr.none,Fr.none,Fr.none,Fr.none⟩
def M4.valid(m:M4):Bool:=m.a.valid&&m.b.valid&&m.c.valid&&m.d.valid
def M4.v(m:M4):Value:= .agg #[m.a.re,m.a.im,m.a.den,m.b.re,m.b.im,m.b.den,m.c.re,m.c.im,m.c.den,m.d.re,m.d.im,m.d.den]
def Nn(a b c d:Fr×Bool)(ok:Bool):M4×Bool:=if ok&&a.2&&b.2&&c.2&&d.2 then (⟨a.1,b.1,c.1,d.1⟩,true) else (M4.none,false)
def Yi(x y:M4):M4×Bool:=Nn (Xd x.a y.a x.b y.c) (Xd x.a y.b x.b y.d) (Xd x.c y.a x.d y.c) (Xd x.c y.b x.d y.d) (x.valid&&y.valid)
def Tx(x:M4):M4×Bool:=Nn (Yq x.a) (Yq x.c) (Yq x.b) (Yq x.d) true
def Fr.one:Fr:=⟨1,0,1⟩
def Fr.nul:Fr:=⟨0,0,1⟩
def two(a b:Fr×Bool)(ok:Bool):(Fr×Fr)×Bool:=if ok&&a.2&&b.2 then ((a.1,b.1),true) else ((Fr.none,Fr.none),false)
def Ul(m:M4)(x y:Fr):(Fr×Fr)×Bool:=two (Xd m.a x m.b y) (Xd m.c x m.d y) (m.valid&&(x.valid&&y.valid))
def Vm(x y:Fr):Fr×Bool:=Yo (Zc x).1 (Zc y).1
def Wl(p q:Int):Bool:=Xw p (-100) 100&&Xw q (-100) 100&& !(decide (p=0)&&decide (q=0))
def Tm(p q:Int):Fr:=(flow (p*p-q*q) 0 (p*p+q*q)).1
def Tl(p q:Int):Fr:=(flow (2*p*q) 0 (p*p+q*q)).1
def Kp(a:Fr):Fr:=⟨-a.re, -a.im,a.den⟩
def Xu(p q:Int):M4×Bool:=if Wl p q then (⟨Tm p q,Kp (Tl p q),Tl p q,Tm p q⟩,true) else (M4.none,false)
def Yd(k:Int):Fr:=if k=0 then ⟨1,0,1⟩ else if k=1 then ⟨0,1,1⟩ else if k=2 then ⟨-1,0,1⟩ else ⟨0, -1,1⟩
def Xq(p q k:Int):M4×Bool:=
 if Wl p q&&Xw k 0 3 then
  (if (Yi (Xu p q).1 ⟨Fr.one, Fr.nul, Fr.nul, Yd k⟩).2 && (Yi (Yi (Xu p q).1 ⟨Fr.one, Fr.nul, Fr.nul, Yd k⟩).1 (Tx (Xu p q).1).1).2 then
   Yi (Yi (Xu p q).1 ⟨Fr.one,Fr.nul,Fr.nul,Yd k⟩).1 (Tx (Xu p q).1).1 else (M4.none,false))
 else (M4.none,false)
def Ww(p q:Int):M4×Bool:=
 if Wl p q then Nn (Zk (Tm p q) (Tm p q)) (Zk (Tm p q) (Tl p q)) (Zk (Tm p q) (Tl p q)) (Zk (Tl p q) (Tl p q)) true else (M4.none,false)
theorem Hu{re im den:Int}(h1: -2000000000≤re∧re≤2000000000)(h2: -2000000000≤im∧im≤2000000000)(h3:1≤den∧den≤2000000000):(flow re im den).2=true:=by
 have b1:=Pf re (Wo re im den) 2000000000 h1.1 h1.2;have b2:=Pf im (Wo re im den) 2000000000 h2.1 h2.2;have b3:=Pf den (Wo re im den) 2000000000 (by omega) h3.2;unfold flow Xw;rw[if_pos];simp only[Bool.and_eq_true,decide_eq_true_eq];exact⟨⟨⟨b1.1,b1.2⟩,⟨b2.1,b2.2⟩⟩,b3.2⟩
end
section
open Go.RowKit

def Vh(a:Fr):Fr×Bool:=if a.valid then flow a.re 0 a.den else (Fr.none,false)
def Vg(a:Fr):Fr×Bool:=if a.valid then flow a.im 0 a.den else (Fr.none,false)
def Qb(a:Fr):Fr×Bool:=Sa a ⟨2,0,1⟩
def Yr(a b:Fr):Fr×Bool:=Zk a (Yq b).1
theorem Zuf(a b:Fr)(x:Bool):((x|| !(Yq b).2)|| !(Yr a b).2)=(x|| !(Yr a b).2):=by
 unfold Yr;rcases h:(Yq b).2 with _|_
 ·rw[Lt h,Cn Vc];simp
 ·simp
theorem Zhq(bs:Nat)(bad:Bool)(a b:Fr)(w:World)(hG:Xz w)(hb:Box w bs 92 #[bad]):
  Calls prog 99 #[.pointer (some ⟨bs,0,none⟩),a.v,b.v] w (Vn bs bad w (Sa a b)):=by
 have l1:=fun w (hG:Xz w)=>Zks a b w
 have l2:=fun w hb=>Qc bs bad (Sa a b) w hb Zqb
 generalize Sa a b=r at l1 l2 ⊢;obtain⟨a1,a2,a3⟩:=a;obtain⟨b1,b2,b3⟩:=b;obtain⟨⟨r1,r2,r3⟩,ok⟩:=r;show Calls _ _ #[_, .agg #[a1,a2,a3], .agg #[b1,b2,b3]] _ _;have k1:∀w,Xz w→Calls prog 170 #[.agg #[a1,a2,a3], .agg #[b1,b2,b3]] w _:=fun w hG=>Yc.spell (l1 w hG)
 have k2:∀w,Box w bs 92 #[bad]→Calls prog 115 #[.pointer (some ⟨bs,0,none⟩), .agg #[r1,r2,r3],ok] w fun e w'=>e= .returned (.agg #[r1,r2,r3])∧Sm bs w w'∧Box w' bs 92 #[.bool (bad|| !ok)]:=l2
 clear l1 l2;have hbs:=hb.lt;go_in;go_wp2_with fail;refine(k1 _ (hG.ex (((Ex.refl w).alloc _).alloc _|>.alloc _))).mono ?_;rintro e w1 ⟨rfl,hx⟩;have bR:=(Box.new _ _ _).ex hx;simp only[Zy] at bR;replace hx:=(((Ex.refl w).alloc _).alloc _|>.alloc _).trans hx;have zR:=bR.lt;go_wp2_with fail;refine(k2 _ (hb.ex hx)).mono ?_;rintro e w2 ⟨rfl,hsm,hb2⟩;have bR2:=hsm.box _ _ _ (by omega) bR;have cR:=bR2.cell;have fR:=bR2.frozen;clear bR hb;go_wp2;refine Zu (v:= .agg #[r1,r2,r3]) ?_ rfl ⟨rfl,?_,?_⟩
 ·simp[results,results99,go_sem,cR]
 ·repeat' (first
   |exact(Sm.of_ex hx).trans hsm
   |refine Sm.setNew ?_ (by simp<;>omega) _)
 ·repeat' (first
   |exact hb2
   |refine Box.far ?_ (by simp<;>omega) _)
theorem Zpx{a:Fr}(h:(Vh a).2=false):(Vh a).1=Fr.none:=by
 unfold Vh at h ⊢;split
 ·rename_i hv;rw[if_pos hv] at h;exact Or h
 ·rfl
theorem Ny(bs:Nat)(bad:Bool)(a:Fr)(w:World)(hb:Box w bs 92 #[bad]):
  Calls prog 55 #[.pointer (some ⟨bs,0,none⟩),a.v] w (Vn bs bad w (Vh a)):=by
 have kv:=fun w=>Xj a.re a.im a.den w
 have l2:=fun w hb=>Qc bs bad (Vh a) w hb Zpx
 have hbs:=hb.lt;have ne1:=Nat.ne_of_gt hb.lt;have hfr:=hb.frozen;have hc:=hb.cell;rcases hv:a.valid with _|_
 ·have e:Vh a=(Fr.none,false):=by simp[Vh,hv]
  rw[e];obtain⟨a1,a2,a3⟩:=a;have hv':Yx a1 a2 a3=false:=hv;simp only[hv'] at kv;unfold Vn;simp only[Fr.v,Fr.none];clear e hv l2 hv';have KV:=Zz kv;clear kv;have hS:=Zl.init hb;have hC:=hS.rd;simp only[Zr,Zq] at hC;go_in;go_wp2_with ((with_reducible refine(KV.out _).mono ?_);rintro e wn ⟨rfl,hx⟩;replace hS:=Zl.after (W:=w) hx;(try simp only[Zy] at hS);replace hC:=hS.rd;simp only[Zr,Zq] at hC);have hm:=hS.sm;have hs:=hS.sum;have:(bad|| !false)=true:=by simp
  rw[this];refine Zu ?_ rfl ⟨rfl,?_,?_⟩
  ·simp[results,results55,go_sem,hC]
  ·repeat' (first
    |exact hm.trans (Sm.set hs 0 _)
    |refine Sm.setNew ?_ (by simp<;>omega) _)
  ·repeat' (first
    |exact hs.set_ 0 (.bool true)
    |refine Box.far ?_ (by simp<;>omega) _)
 ·have e:Vh a=flow a.re 0 a.den:=by simp[Vh,hv]
  rw[e] at l2 ⊢;obtain⟨a1,a2,a3⟩:=a;have hv':Yx a1 a2 a3=true:=hv;obtain⟨⟨p1,p2⟩,⟨p3,p4⟩,⟨p5,p6⟩, -⟩:=Fr.valid_out hv;simp only[hv'] at kv;simp only at p1 p2 p3 p4 p5 p6;have kl:=fun w=>Uv a1 0 a3 w (by omega) (by omega) (by omega)
  simp only at l2 ⊢;generalize flow a1 0 a3=r at l2 kl ⊢;obtain⟨⟨r1,r2,r3⟩,ok⟩:=r;have k1:=fun w=>Yc.spell (kl w)
  unfold Vn at l2 ⊢;simp only[Fr.v] at l2 k1 ⊢;clear e hv hv' p1 p2 p3 p4 p5 p6 kl;have KV:=Zz kv;have KL:=Zz k1;have KK:=Zz l2;clear kv k1 l2;have hS:=Zl.init hb;have hC:=hS.rd;simp only[Zr,Zq] at hC;go_in;go_wp2_with (first|((with_reducible apply Zl.see w;exact KV.out _);clear hS hC;intro wn hS hC;(try simp only[Zy] at hS hC);simp only[Zr,Zq] at hC)|((with_reducible apply Zl.see w;exact KL.out _);clear hS hC;intro wn hS hC;simp only[Zr,Zq] at hC)|((with_reducible refine(KK.out _ hS.sum).mono ?_);rintro e wn ⟨rfl,hs2,hb2⟩;replace hS:=Zl.call hS hs2 hb2;replace hC:=hS.rd;simp only[Zr,Zq] at hC));have hm:=hS.sm;have hs:=hS.sum;refine Zu ?_ rfl ⟨rfl,?_,?_⟩
  ·simp[results,results55,go_sem,hC]
  ·repeat' (first
    |exact hm
    |refine Sm.setNew ?_ (by simp<;>omega) _)
  ·repeat' (first
    |exact hs
    |refine Box.far ?_ (by simp<;>omega) _)
theorem Zpw{a:Fr}(h:(Vg a).2=false):(Vg a).1=Fr.none:=by
 unfold Vg at h ⊢;split
 ·rename_i hv;rw[if_pos hv] at h;exact Or h
 ·rfl
theorem Nx(bs:Nat)(bad:Bool)(a:Fr)(w:World)(hb:Box w bs 92 #[bad]):
  Calls prog 56 #[.pointer (some ⟨bs,0,none⟩),a.v] w (Vn bs bad w (Vg a)):=by
 have kv:=fun w=>Xj a.re a.im a.den w
 have l2:=fun w hb=>Qc bs bad (Vg a) w hb Zpw
 have hbs:=hb.lt;have ne1:=Nat.ne_of_gt hb.lt;have hfr:=hb.frozen;have hc:=hb.cell;rcases hv:a.valid with _|_
 ·have e:Vg a=(Fr.none,false):=by simp[Vg,hv]
  rw[e];obtain⟨a1,a2,a3⟩:=a;have hv':Yx a1 a2 a3=false:=hv;simp only[hv'] at kv;unfold Vn;simp only[Fr.v,Fr.none];clear e hv l2 hv';have KV:=Zz kv;clear kv;have hS:=Zl.init hb;have hC:=hS.rd;simp only[Zr,Zq] at hC;go_in;go_wp2_with ((with_reducible refine(KV.out _).mono ?_);rintro e wn ⟨rfl,hx⟩;replace hS:=Zl.after (W:=w) hx;(try simp only[Zy] at hS);replace hC:=hS.rd;simp only[Zr,Zq] at hC);have hm:=hS.sm;have hs:=hS.sum;have:(bad|| !false)=true:=by simp
  rw[this];refine Zu ?_ rfl ⟨rfl,?_,?_⟩
  ·simp[results,results56,go_sem,hC]
  ·repeat' (first
    |exact hm.trans (Sm.set hs 0 _)
    |refine Sm.setNew ?_ (by simp<;>omega) _)
  ·repeat' (first
    |exact hs.set_ 0 (.bool true)
    |refine Box.far ?_ (by simp<;>omega) _)
 ·have e:Vg a=flow a.im 0 a.den:=by simp[Vg,hv]
  rw[e] at l2 ⊢;obtain⟨a1,a2,a3⟩:=a;have hv':Yx a1 a2 a3=true:=hv;obtain⟨⟨p1,p2⟩,⟨p3,p4⟩,⟨p5,p6⟩, -⟩:=Fr.valid_out hv;simp only[hv'] at kv;simp only at p1 p2 p3 p4 p5 p6;have kl:=fun w=>Uv a2 0 a3 w (by omega) (by omega) (by omega)
  simp only at l2 ⊢;generalize flow a2 0 a3=r at l2 kl ⊢;obtain⟨⟨r1,r2,r3⟩,ok⟩:=r;have k1:=fun w=>Yc.spell (kl w)
  unfold Vn at l2 ⊢;simp only[Fr.v] at l2 k1 ⊢;clear e hv hv' p1 p2 p3 p4 p5 p6 kl;have KV:=Zz kv;have KL:=Zz k1;have KK:=Zz l2;clear kv k1 l2;have hS:=Zl.init hb;have hC:=hS.rd;simp only[Zr,Zq] at hC;go_in;go_wp2_with (first|((with_reducible apply Zl.see w;exact KV.out _);clear hS hC;intro wn hS hC;(try simp only[Zy] at hS hC);simp only[Zr,Zq] at hC)|((with_reducible apply Zl.see w;exact KL.out _);clear hS hC;intro wn hS hC;simp only[Zr,Zq] at hC)|((with_reducible refine(KK.out _ hS.sum).mono ?_);rintro e wn ⟨rfl,hs2,hb2⟩;replace hS:=Zl.call hS hs2 hb2;replace hC:=hS.rd;simp only[Zr,Zq] at hC));have hm:=hS.sm;have hs:=hS.sum;refine Zu ?_ rfl ⟨rfl,?_,?_⟩
  ·simp[results,results56,go_sem,hC]
  ·repeat' (first
    |exact hm
    |refine Sm.setNew ?_ (by simp<;>omega) _)
  ·repeat' (first
    |exact hs
    |refine Box.far ?_ (by simp<;>omega) _)
end
section
open Go.RowKit

structure SmO(bs:Nat)(w w':World):Prop where
  ex:∀W,Ex W w→W.heap.size≤bs→Ex W w'
  box:∀b t cs,b≠bs→Box w b t cs→Box w' b t cs
  own:∀lo T k v n cs,T≠155→Own w lo T k v n cs→Own w' lo T k v n cs
  size:w.heap.size≤w'.heap.size
theorem SmO.of_ex{bs:Nat}{w w':World}(h:Ex w w'):SmO bs w w':=⟨fun _ hW _=>hW.trans h,fun _ _ _ _ hb=>hb.ex h,fun _ _ _ _ _ _ _ ho=>Own.ex ho h,h.size⟩
theorem SmO.refl(bs:Nat)(w:World):SmO bs w w:=SmO.of_ex (Ex.refl w)
theorem SmO.trans{bs:Nat}{w w1 w2:World}(h:SmO bs w w1)(k:SmO bs w1 w2):SmO bs w w2:=
  ⟨fun W hW hl=>k.ex W (h.ex W hW hl) hl,fun b t cs hne hb=>k.box b t cs hne (h.box b t cs hne hb),fun _ _ _ _ _ _ hT ho=>k.own _ _ _ _ _ _ hT (h.own _ _ _ _ _ _ hT ho),Nat.le_trans h.size k.size⟩
theorem SmO.set{bs:Nat}{w:World}{cs:Av}(hb:Box w bs 155 cs)(i:Nat)(u:Value):SmO bs w (w.setCell ⟨bs,i,none⟩ u):=
  ⟨fun W hW hl=>hW.setCell (p:=⟨bs,i,none⟩) hl u,fun b t cs hne hb'=>hb'.far (p:=⟨bs,i,none⟩) hne u,
   fun lo T k v n cs hT ho=>Own.setCell (p:=⟨bs,i,none⟩) ho (fun g hg e=>by subst e;exact Own.ne ho hb hT hg.symm) u,by simp⟩
theorem SmO.setNew{bs:Nat}{w w':World}(h:SmO bs w w'){p:Addr}(hp:w.heap.size≤p.block)(u:Value):SmO bs w (w'.setCell p u):=
  ⟨fun W hW hl=>(h.ex W hW hl).setCell (Nat.le_trans hW.size hp) u,fun b t cs hne hb=>(h.box b t cs hne hb).far (by have:=hb.lt;omega) u,
   fun lo T k v n cs hT ho=>Own.setCell (h.own lo T k v n cs hT ho) (fun g hg e=>by have:=(Own.lt ho g hg).2;omega) u,by have:=h.size;simpa using this⟩
theorem SmO.alloc{bs:Nat}{w w':World}(h:SmO bs w w')(o:Obj):SmO bs w (w'.alloc o):=h.trans (SmO.of_ex ((Ex.refl _).alloc o))

class Zh(W w:World)(bs:outParam Nat)(bad:outParam Bool)(L:outParam (Xx)):Prop where
  sm:SmO bs W w
  sum:Box w bs 155 #[bad]
  boxes:Xy w L
  far:∀x∈L,x.1≠bs
theorem Xy.smO{bs:Nat}{w w1:World}(hs:SmO bs w w1):∀{L:Xx},(∀x∈L,x.1≠bs)→Xy w L→Xy w1 L
  |[],_,_=>trivial
  |_::_,hf,h=>⟨hs.box _ _ _ (hf _ (.head _)) h.1,Xy.smO hs (fun x hx=>hf x (.tail _ hx)) h.2⟩
section
variable {W w w1:World} {bs n:Nat} {bad:Bool} {L:Xx} {cs:Av} {t:TypeId}
instance Zh.start{b:Bool}[h:Zo W w L]:Zh W (w.alloc (.cells #[b] 155)) w.heap.size b L:=
  ⟨SmO.of_ex (h.ex.alloc _),Box.new w _ _,Xy.ex ((Ex.refl w).alloc _) h.boxes,fun x hx=>Nat.ne_of_lt (Xy.old h.boxes x hx)⟩
instance Zh.alloc[h:Zh W w bs bad L]:Zh W (w.alloc (.cells cs t)) bs bad ((w.heap.size,t,cs)::L):=
  ⟨h.sm.alloc _,h.sum.alloc _,⟨Box.new w cs t,Xy.ex ((Ex.refl w).alloc _) h.boxes⟩,fun x hx=>by
    rcases List.mem_cons.1 hx with rfl|hx
    · exact(Nat.ne_of_lt h.sum.lt).symm
    · exact h.far x hx⟩
instance Zh.drew[h:Zh W w bs bad L]:Zh W w.drew bs bad L:=⟨h.sm.trans (SmO.of_ex (Ex.refl w).drew),h.sum.drew,Xy.ex (Ex.refl w).drew h.boxes,h.far⟩
instance Zh.drewN[h:Zh W w bs bad L]:Zh W (w.drewN n) bs bad L:=⟨h.sm.trans (SmO.of_ex ((Ex.refl w).drewN n)),h.sum.ex ((Ex.refl w).drewN n),Xy.ex ((Ex.refl w).drewN n) h.boxes,h.far⟩
theorem Zh.rel(h:Zh W w bs bad L)(hl:W.heap.size≤bs):Ex W w:=h.sm.ex W (Ex.refl W) hl
theorem Zh.init(hb:Box w bs 155 #[bad]):Zh w w bs bad []:=⟨SmO.refl _ _,hb,trivial,fun x hx=>by cases hx⟩
theorem Zh.put{b:Nat}(h:Zh W w bs bad L)(hb:Box w b t cs)(hne:b≠bs):Zh W w bs bad ((b,t,cs)::L):=⟨h.sm,h.sum,⟨hb,h.boxes⟩,fun x hx=>by
  rcases List.mem_cons.1 hx with rfl|hx
  · exact hne
  · exact h.far x hx⟩
theorem Zh.after[h:Zh W w bs bad L](hx:Ex w w1):Zh W w1 bs bad L:=
  ⟨h.sm.trans (SmO.of_ex hx),h.sum.ex hx,Xy.ex hx h.boxes,h.far⟩
theorem Zh.call{bad':Bool}(h:Zh W w bs bad L)(hs:SmO bs w w1)(hb:Box w1 bs 155 #[bad']):Zh W w1 bs bad' L:=
  ⟨h.sm.trans hs,hb,Xy.smO hs h.far h.boxes,h.far⟩
theorem Zh.rd(h:Zh W w bs bad L):Kw w ((bs,155,#[bad])::L):=⟨h.sum.cell,h.sum.frozen,h.sum.lt,h.boxes.rd⟩
theorem Zh.see{P:Program}{f:FuncId}{args:Av}{V:Value}{Q:Ending→World→Prop}(W:World)[h:Zh W w bs bad L]
    (K:Calls P f args w (fun e w'=>e= .returned V∧Ex w w')) (hk:∀wn,Zh W wn bs bad L→Kw wn ((bs,155,#[bad])::L)→Q (.returned V) wn):Calls P f args w Q:=
  K.mono (by
    rintro e wn ⟨rfl,hx⟩
    have h2:=Zh.after (h:=h) hx
    exact hk wn h2 h2.rd)
end

theorem SmO.setRow{bs:Nat}{w w':World}(h:SmO bs w w'){g:Nat}(hg:w.heap.size≤g)(x:Av):SmO bs w (w'.setRow g x):=
  ⟨fun W hW hl=>(h.ex W hW hl).setRow (Nat.le_trans hW.size hg) x,fun b t cs hne hb=>(h.box b t cs hne hb).setRow_far (by have:=hb.lt;omega) x,
   fun lo T k v n cs hT ho=>by
    have ho':=h.own lo T k v n cs hT ho
    refine⟨ho'.1,?_⟩
    rcases ho'.2 with h0|⟨g',cap,cur,rfl,hg',hh,hr⟩
    · exact .inl h0
    · refine .inr ⟨g',cap,cur,rfl,hg',?_,hr⟩
      have:g'≠g:=by have:=(Own.lt ho g' rfl).2;omega
      exact(setRow_other w' g g' x this).trans hh,by have:=h.size;simpa using this⟩
theorem Zh.drewW{W w:World}{bs:Nat}{b:Bool}{L:Xx}(h:Zh W w bs b L):Zh W {w with drawn:=w.drawn+1} bs b L:=Zh.drew (h:=h)
theorem Zh.ex{W w w1:World}{bs:Nat}{b:Bool}{L:Xx}(h:Zh W w bs b L)(hx:Ex w w1):Zh W w1 bs b L:=Zh.after (h:=h) hx
theorem Zh.cast{W w:World}{bs bs':Nat}{b:Bool}{L L':Xx}[h:Zh W w bs b L](e1:bs=bs')(e2:L=L'):Zh W w bs' b L':=by
  subst e1 e2;exact h
section
variable {W w w2:World} {bs:Nat} {b b2:Bool} {L:Xx} {g:Nat}
structure InO(W:World)(bs:Nat)(L:Xx)(b:Bool)(w:World):Prop where
  sees:Zh W w bs b L
  old:∀x∈L,x.1<W.heap.size
  olds:bs<W.heap.size
theorem InO.start(h:Zh W w bs b L):InO w bs L b w:=⟨⟨SmO.refl _ _,h.sum,h.boxes,h.far⟩,Xy.old h.boxes,h.sum.lt⟩
theorem InO.drew(h:InO W bs L b w):InO W bs L b {w with drawn:=w.drawn+1}:=⟨h.sees.drewW,h.old,h.olds⟩
theorem InO.alloc(h:InO W bs L b w)(o:Obj):InO W bs L b (w.alloc o):=⟨h.sees.ex ((Ex.refl w).alloc o),h.old,h.olds⟩
theorem InO.size(h:InO W bs L b w):W.heap.size≤w.heap.size:=h.sees.sm.size
theorem InO.setRow(h:InO W bs L b w)(hg:W.heap.size≤g)(x:Av):InO W bs L b (w.setRow g x):=
  ⟨⟨h.sees.sm.setRow hg x,h.sees.sum.setRow_far (by have:=h.olds;omega) x,Xy.setRow_far (fun y hy=>Nat.lt_of_lt_of_le (h.old y hy) hg) h.sees.boxes x,h.sees.far⟩,h.old,h.olds⟩
theorem InO.call(h:InO W bs L b w)(hN:Zh W w2 bs b2 L):InO W bs L b2 w2:=⟨hN,h.old,h.olds⟩
theorem InO.join(h0:Zh W w bs b L)(h:InO w bs L b2 w2):Zh W w2 bs b2 L:=⟨h0.sm.trans h.sees.sm,h.sees.sum,h.sees.boxes,h.sees.far⟩
end
theorem Zh.set3{W w:World}{bs g:Nat}{b:Bool}{t:TypeId}{p q r:Value}{L:Xx}(h:Zh W w bs b ((g,t,#[p,q,r])::L))(hg:W.heap.size≤g)(hne:∀x∈L,x.1≠g)(x y z:Value):
    Zh W (((w.setCell ⟨g,0,none⟩ x).setCell ⟨g,1,none⟩ y).setCell ⟨g,2,none⟩ z) bs b ((g,t,#[x,y,z])::L):=by
  have hb:g≠bs:=h.far _ (.head _);refine⟨((h.sm.setNew (p:=⟨g,0,none⟩) hg x).setNew (p:=⟨g,1,none⟩) hg y).setNew (p:=⟨g,2,none⟩) hg z,((h.sum.far (p:=⟨g,0,none⟩) (Ne.symm hb) x).far (p:=⟨g,1,none⟩) (Ne.symm hb) y).far (p:=⟨g,2,none⟩) (Ne.symm hb) z,⟨?_,?_⟩,fun v hv=>?_⟩
  · have h2:=((h.boxes.1.set_ 0 x).set_ 1 y).set_ 2 z;simpa using h2
  · have:∀{M:Xx},(∀v∈M,v.1≠g)→Xy w M→Xy (((w.setCell ⟨g,0,none⟩ x).setCell ⟨g,1,none⟩ y).setCell ⟨g,2,none⟩ z) M:=by
      intro M;induction M with
      |nil=>exact fun _ _=>trivial
      |cons v M ih=>exact fun hv hB=>⟨((hB.1.far (p:=⟨g,0,none⟩) (hv _ (.head _)) x).far (p:=⟨g,1,none⟩) (hv _ (.head _)) y).far (p:=⟨g,2,none⟩) (hv _ (.head _)) z,ih (fun u hu=>hv u (.tail _ hu)) hB.2⟩
    exact this hne h.boxes.2
  · rcases List.mem_cons.1 hv with rfl|hv
    · exact hb
    · exact h.far v (.tail _ hv)
def Vw(bs:Nat)(ok:Bool)(w:World)(r:Fr×Bool):Ending→World→Prop:=fun e w'=>e= .returned r.1.v∧SmO bs w w'∧Box w' bs 155 #[.bool (ok&&r.2)]
end
section
structure Rp(f:Fr)(X Y D:Int):Prop where
 re:f.re*D=X*f.den
 im:f.im*D=Y*f.den
 pos:1≤D
 den:1≤f.den
theorem Rp.own{f:Fr}(h:f.valid=true):Rp f f.re f.im f.den:=by
 obtain⟨-, -,⟨hd, -⟩, -⟩:=Fr.valid_out h;exact⟨rfl,rfl,hd,hd⟩
theorem Rp.cast{f:Fr}{X Y D X' Y' D':Int}(h:Rp f X Y D)(h1:X=X')(h2:Y=Y')(h3:D=D'):Rp f X' Y' D':=by
 subst h1 h2 h3;exact h
theorem Rp.flow{X Y D:Int}{f:Fr}(hD:1≤D)(h:flow X Y D=(f,true)):Rp f X Y D:=by
 have:=Zhw (re:=X) (im:=Y) hD (by rw[h])
 rw[h] at this;exact⟨this.1,this.2.1,hD,this.2.2⟩
theorem Rp.times{f g h:Fr}{X Y D X' Y' D':Int}(hf:Rp f X Y D)(hg:Rp g X' Y' D')(ht:Zk f g=(h,true)):Rp h (X*X'-Y*Y') (X*Y'+Y*X') (D*D'):=by
 unfold Zk at ht;split at ht
 ·have hp:=Pe hf.den hg.den;obtain⟨k1,k2, -,k4⟩:=Rp.flow hp ht;obtain⟨f1,f2,f3, -⟩:=hf;obtain⟨g1,g2,g3, -⟩:=hg;have hne:f.den*g.den≠0:=by omega
  refine⟨Int.eq_of_mul_eq_mul_right hne ?_,Int.eq_of_mul_eq_mul_right hne ?_,Pe f3 g3,k4⟩
  ·have e:h.re*(D*D')*(f.den*g.den)=((f.re*D)*(g.re*D')-(f.im*D)*(g.im*D'))*h.den:=by grind
   rw[e,f1,f2,g1,g2];grind
  ·have e:h.im*(D*D')*(f.den*g.den)=((f.re*D)*(g.im*D')+(f.im*D)*(g.re*D'))*h.den:=by grind
   rw[e,f1,f2,g1,g2];grind
 ·cases ht
theorem Rp.add{f g h:Fr}{X Y D X' Y' D':Int}(hf:Rp f X Y D)(hg:Rp g X' Y' D')(ht:Yo f g=(h,true)):Rp h (X*D'+X'*D) (Y*D'+Y'*D) (D*D'):=by
 unfold Yo at ht;split at ht
 ·have hp:=Pe hf.den hg.den;obtain⟨k1,k2, -,k4⟩:=Rp.flow hp ht;obtain⟨f1,f2,f3, -⟩:=hf;obtain⟨g1,g2,g3, -⟩:=hg;have hne:f.den*g.den≠0:=by omega
  refine⟨Int.eq_of_mul_eq_mul_right hne ?_,Int.eq_of_mul_eq_mul_right hne ?_,Pe f3 g3,k4⟩
  ·have e:h.re*(D*D')*(f.den*g.den)=((f.re*D)*(g.den*D')+(g.re*D')*(f.den*D))*h.den:=by grind
   rw[e,f1,g1];grind
  ·have e:h.im*(D*D')*(f.den*g.den)=((f.im*D)*(g.den*D')+(g.im*D')*(f.den*D))*h.den:=by grind
   rw[e,f2,g2];grind
 ·cases ht
theorem Rp.power{f h:Fr}{X Y D:Int}(hf:Rp f X Y D)(ht:Zc f=(h,true)):Rp h (X*X+Y*Y) 0 (D*D):=by
 unfold Zc at ht;split at ht
 ·have hp:=Pe hf.den hf.den;obtain⟨k1,k2, -,k4⟩:=Rp.flow hp ht;obtain⟨f1,f2,f3, -⟩:=hf;have hne:f.den*f.den≠0:=by omega
  refine⟨Int.eq_of_mul_eq_mul_right hne ?_,Int.eq_of_mul_eq_mul_right hne ?_,Pe f3 f3,k4⟩
  ·have e:h.re*(D*D)*(f.den*f.den)=((f.re*D)*(f.re*D)+(f.im*D)*(f.im*D))*h.den:=by grind
   rw[e,f1,f2];grind
  ·have e:h.im*(D*D)*(f.den*f.den)=(h.im*(f.den*f.den))*(D*D):=by grind
   rw[e,k2];grind
 ·cases ht
theorem M4.valid_out{m:M4}(h:m.valid=true):m.a.valid=true∧m.b.valid=true∧m.c.valid=true∧m.d.valid=true:=by
 unfold M4.valid at h;simp only[Bool.and_eq_true] at h;exact⟨h.1.1.1,h.1.1.2,h.1.2,h.2⟩

def Zbq:M4:=⟨Fr.nul,Fr.nul,Fr.nul,Fr.one⟩
def fcell(p q k:Int):Fr×Bool:=
 Vm (Ul Zbq (Ul (Xq p q k).1 Fr.one Fr.nul).1.1 (Ul (Xq p q k).1 Fr.one Fr.nul).1.2).1.1 (Ul Zbq (Ul (Xq p q k).1 Fr.one Fr.nul).1.1 (Ul (Xq p q k).1 Fr.one Fr.nul).1.2).1.2
end
section
open Go.RowKit

def Fr.cs(x:Fr):List Value:=[.int .i64 x.re, .int .i64 x.im, .int .i64 x.den]
def Tg(xs:List Fr):List Value:=xs.flatMap Fr.cs
theorem Zse(xs:List Fr):(Tg xs).length=xs.length*3:=by
 induction xs with
 |nil=>rfl
 |cons x xs ih=>simp[Tg,Fr.cs] at*;omega
def Fr.zero:Fr:=⟨0,0,0⟩
theorem Zoa(xs:List Fr)(k:Nat)(hk:k<xs.length):
  (Tg xs)[k*3]? =some (.int .i64 (xs.getD k .zero).re)∧(Tg xs)[k*3+1]? =some (.int .i64 (xs.getD k .zero).im)∧(Tg xs)[k*3+2]? =some (.int .i64 (xs.getD k .zero).den):=by
 induction xs generalizing k with
 |nil=>simp at hk
 |cons x xs ih=>
  match k with
  |0=>simp[Tg,Fr.cs]
  |k+1=>
   have h:=ih k (by simpa using hk);have e:Tg (x::xs)=Value.int .i64 x.re:: .int .i64 x.im:: .int .i64 x.den::Tg xs:=rfl;rw[e];have e1:(k+1)*3=k*3+1+1+1:=by omega
   rw[e1];simpa using h
def Uq(w:World)(A:Option Addr)(xs:List Fr):Prop:=Slc w A (Tg xs)
section
variable {w w1:World} {A:Option Addr} {xs:List Fr}
theorem Uq.ex(h:Uq w A xs)(he:Ex w w1):Uq w1 A xs:=Slc.ex h he
theorem Uq.alloc(h:Uq w A xs)(o:Obj):Uq (w.alloc o) A xs:=Slc.alloc h o
theorem Uq.drew(h:Uq w A xs):Uq w.drew A xs:=h
theorem Uq.at(h:Uq w A xs)(hp:0<xs.length):∃b off,A=some ⟨b,off,none⟩∧∀k,k<xs.length→
  w.cell? ⟨b,off+k*3,none⟩=some (.int .i64 (xs.getD k .zero).re)∧w.cell? ⟨b,off+k*3+1,none⟩=some (.int .i64 (xs.getD k .zero).im)∧w.cell? ⟨b,off+k*3+2,none⟩=some (.int .i64 (xs.getD k .zero).den):=by
 have hl:=Zse xs;obtain⟨b,off,rfl,hc⟩:=h (by omega);refine⟨b,off,rfl,fun k hk=>?_⟩;obtain⟨h1,h2,h3⟩:=Zoa xs k hk;have c1:=hc (k*3) (by omega);have c2:=hc (k*3+1) (by omega);have c3:=hc (k*3+2) (by omega);rw[h1] at c1;rw[h2] at c2;rw[h3] at c3;exact⟨c1,c2,c3⟩
end
def gok(xs:List Fr):Bool:=xs.all Fr.valid&&Xw xs.length 1 40
end
end Go.Proofs.YtiommfmaleeibaaGreatDoor
