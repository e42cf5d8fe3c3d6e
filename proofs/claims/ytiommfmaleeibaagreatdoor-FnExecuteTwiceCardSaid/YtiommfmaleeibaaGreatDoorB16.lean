/-
  Proved:what functions compute,part 16. No condition.
-/
import Derived.Test.YtiommfmaleeibaaGreatDoorB08
import Derived.Deep.RegionHeld3
import Derived.Deep.DeepCutAuto
import Derived.Test.YtiommfmaleeibaaGreatDoorB11
set_option linter.unusedSimpArgs false
set_option linter.unusedVariables false
set_option maxRecDepth 20000
set_option maxHeartbeats 8000000
namespace Go.Proofs.YtiommfmaleeibaaGreatDoor
open Go.Proofs.Tryz
section
open Go.RowKit

theorem Pr{u:Nat}(h:u<10):Lib.decDigits u=[UInt8.ofNat (48+u)]:=by
 unfold Lib.decDigits;rw[dif_pos h]
theorem Ij{u:Nat}(h:¬u<10):Lib.decDigits u=Lib.decDigits (u / 10)++[UInt8.ofNat (48+u % 10)]:=by
 conv=>lhs;unfold Lib.decDigits
 rw[dif_neg h]
theorem Zmj(m:Nat)(h:m<9223372036854775808):(Lib.decDigits m).length≤21:=by
 have:=Lib.itoa_length_le (m:Int) (by omega) (by omega)
 rw[Lib.itoa_nonneg] at this;exact this

theorem Zmi{w:World}{b:Nat}{n:Int}{t:TypeId}(h:Box w b t #[.int .u8 n])(h0:0≤n)(h1:n<256):(convert 22 9 (.slice (some ⟨b,0,none⟩) 1 1)).run prog w= .ok (.string (Bs [UInt8.ofNat n.toNat])) w:=by
 refine run_convert_bytes_back _ _ _ 5 ⟨b,0,none⟩ 1 [UInt8.ofNat n.toNat] underlying22 underlying5 underlying9 ?_;intro j hj;have hj0:j=0:=by simpa using hj
 subst hj0;have e:((⟨b,0,none⟩:Addr).add 0)=⟨b,0,none⟩:=rfl;rw[e,h.cell 0];have e2:((UInt8.ofNat n.toNat).toNat:Int)=n:=by
  have:(UInt8.ofNat n.toNat).toNat=n.toNat % 256:=UInt8.toNat_ofNat'
  omega
 simp only[List.getElem_cons_zero];rw[e2];rfl
theorem Zmh(m:Nat):m<9223372036854775808→∀w,Calls prog 34 #[m] w fun e w'=>e= .returned (.string (Bs (Lib.decDigits m)))∧Ex w w':=by
 induction m using Nat.strongRecOn with
 |_ m ih=>
  intro hm w;by_cases h10:m<10
  ·rw[Pr h10];have h10i:(m:Int)<10:=by omega
   have hw1:IntKind.i64.wrap (48+(m:Int))=48+(m:Int):=Zt _ (by omega);have hcv:=Zmi (Box.new w #[.int .u8 (48+(m:Int))] 5) (by omega) (by omega);have htn:(48+(m:Int)).toNat=48+m:=by omega
   rw[htn] at hcv;clear htn;generalize Bs [UInt8.ofNat (48+m)]=S1 at hcv ⊢;go_in;go_wp2;go_ret;exact⟨rfl,(Ex.refl _).alloc _⟩
  ·rw[Ij h10];have h10i:¬(m:Int)<10:=by omega
   have hih:=ih (m / 10) (by omega) (by omega);have hl1:(Lib.decDigits (m / 10)).length≤21:=Zmj _ (by omega);obtain⟨q,hq⟩:∃q,q=m / 10:=⟨_,rfl⟩
   obtain⟨r,hr⟩:∃r,r=m % 10:=⟨_,rfl⟩
   have hqm:q≤922337203685477581:=by omega
   have hq2:(m:Int).tdiv 10=(q:Int):=by rw[hq];exact(Int.ofNat_tdiv m 10).symm
   have hr2:(m:Int).tmod 10=(r:Int):=by rw[hr];exact(Int.ofNat_tmod m 10).symm
   have hr3:r<10:=by omega
   rw[←hq] at hih hl1 ⊢;rw[←hr];clear hq hr ih;have hw1:IntKind.i64.wrap (48+(r:Int))=48+(r:Int):=Zt _ (by omega);have hw2:IntKind.i64.wrap (q:Int)=(q:Int):=Zt _ (by omega);have hw3:IntKind.u8.wrap (48+(r:Int))=48+(r:Int):=by
    show(48+(r:Int)) % 256=_;omega
   obtain⟨hz,hcat⟩:=Mr (Lib.decDigits q) [UInt8.ofNat (48+r)] (by simp;omega);have hone:∀W b,Box W b 5 #[.int .u8 (48+(r:Int))]→(convert 22 9 (.slice (some ⟨b,0,none⟩) 1 1)).run prog W= .ok (.string (Bs [UInt8.ofNat (48+r)])) W:=fun W b hb=>by
    have h:=Zmi hb (by omega) (by omega);have htn:(48+(r:Int)).toNat=48+r:=by omega
    rw[htn] at h;exact h
   generalize Bs (Lib.decDigits q++[UInt8.ofNat (48+r)])=S3 at hcat ⊢;generalize Bs [UInt8.ofNat (48+r)]=S2 at hcat hz hone;generalize Bs (Lib.decDigits q)=S1 at hcat hz hih;have HO:=Zz hone;have HI:=Zz hih;clear hone hih hl1;go_in;go_wp2_with fail;have hcv0:=HO.out _ _ (Box.new w #[.int .u8 (48+(r:Int))] 5);have hcv1:=HO.out (w.alloc (.cells #[.int .u8 (48+(r:Int))] 5)).drew _ (Box.drew (Box.new w #[.int .u8 (48+(r:Int))] 5));go_region_law (first
    |(go_simp;go_at_call 34;refine(HI.out w.drew).mono ?_;rintro e w3 ⟨rfl,hx3⟩;have hx4:Ex w w3:=Ex.trans (Ex.refl _).drew hx3;have hcv2:=HO.out (w3.alloc (.cells #[.int .u8 (48+(r:Int))] 5)) w3.heap.size (Box.new w3 _ _))
    |(go_simp;go_at_call 34;refine(HI.out (w.alloc (.cells #[.int .u8 (48+(r:Int))] 5)).drew).mono ?_;rintro e w3 ⟨rfl,hx3⟩;have hx4:Ex w w3:=Ex.trans ((Ex.refl _).alloc _).drew hx3;have hcv2:=HO.out w3 w.heap.size ((Box.drew (Box.new w _ _)).ex hx3)))
   all_goals
    go_wp2;go_ret;exact⟨rfl,by(first|exact Exi.out|(have:=Exi.mk ‹Ex _ _›;exact Exi.out))⟩
theorem Zdn(m:Nat)(h1:1≤m)(h:m<9223372036854775808)(w:World):Calls prog 34 #[(-(m:Int):Int)] w fun e w'=>e= .returned (.string (Bs (45::Lib.decDigits m)))∧Ex w w':=by
 have hih:=Zmh m h;have hl1:(Lib.decDigits m).length≤21:=Zmj _ h;obtain⟨hz,hcat⟩:=Iz 45 (Lib.decDigits m) (by omega);generalize Bs (45::Lib.decDigits m)=S3 at hcat ⊢;generalize Bs (Lib.decDigits m)=S1 at hcat hz hih;clear hl1;have HI:=Zz hih;clear hih;have hlo:¬(-(m:Int))< -9223372036854775807:=by omega
 have hlo2:(-(m:Int))<0:=by omega
 have hng:IntKind.i64.wrap (- -(m:Int))=(m:Int):=by rw[Int.neg_neg];exact Zt _ (by omega)
 have hng2:IntKind.i64.wrap (m:Int)=(m:Int):=Zt _ (by omega);go_in;go_wp2_with fail;refine(HI.out _).mono ?_;rintro e w1 ⟨rfl,hx⟩;go_wp2;go_ret;exact⟨rfl,hx⟩
theorem Uo(n:Int)(h0: -9223372036854775807≤n)(h1:n≤9223372036854775807)(w:World):Calls prog 34 #[n] w fun e w'=>e= .returned (.string (Bs (Lib.itoa n)))∧Ex w w':=by
 by_cases hn:n<0
 ·obtain⟨m,rfl⟩:∃m:Nat,n= -(m:Int):=⟨n.natAbs,by omega⟩
  rw[Lib.itoa_neg m (by omega)];exact Zdn m (by omega) (by omega) w
 ·obtain⟨m,rfl⟩:∃m:Nat,n=(m:Int):=⟨n.toNat,by omega⟩
  rw[Lib.itoa_nonneg];exact Zmh m (by omega) w
theorem By(n:Int)(h0: -9223372036854775807≤n)(h1:n≤9223372036854775807)(w:World)(ht:Tab w):Calls prog 60 #[n] w fun e w'=>e= .returned (.string (Bs (sgn n)))∧Ex w w':=by
 have hk:=fun w ht=>Oh n (by omega) (by omega) w ht
 have hl:=Vi n (by omega) (by omega);obtain⟨hz,hcat⟩:=Iz 43 (Lib.itoa n) (by omega);by_cases hn:n<0
 ·have e:sgn n=Lib.itoa n:=if_pos hn;rw[e];clear e hz hcat hl;generalize Bs (Lib.itoa n)=S1 at hk ⊢;have HK:=Zz hk;have HT:=Zz ht;clear hk ht;go_in;go_wp2_with fail;refine Yw (HK.out _ HT.out) fun w1 hx=>?_
  go_wp2;go_ret;exact⟨rfl,hx⟩
 ·have e:sgn n=43::Lib.itoa n:=if_neg hn;rw[e];clear e hl;generalize Bs (43::Lib.itoa n)=S2 at hcat ⊢;generalize Bs (Lib.itoa n)=S1 at hk hz hcat;have HK:=Zz hk;have HT:=Zz ht;clear hk ht;go_in;go_wp2_with fail;refine Yw (HK.out _ HT.out) fun w1 hx=>?_
  go_wp2;go_ret;exact⟨rfl,hx⟩
theorem Ii(n:Int)(h0: -9223372036854775807≤n)(h1:n≤9223372036854775807)(w:World):Calls prog 252 #[n] w fun e w'=>e= .returned (.string (Bs (sgn n)))∧Ex w w':=by
 have hk:=fun w=>Uo n h0 h1 w
 have hl:=Vi n (by omega) (by omega);obtain⟨hz,hcat⟩:=Iz 43 (Lib.itoa n) (by omega);by_cases hn:n<0
 ·have e:sgn n=Lib.itoa n:=if_pos hn;rw[e];clear e hz hcat hl;generalize Bs (Lib.itoa n)=S1 at hk ⊢;have HK:=Zz hk;clear hk;go_in;go_wp2_with fail;refine Yw (HK.out _) fun w1 hx=>?_
  go_wp2;go_ret;exact⟨rfl,hx⟩
 ·have e:sgn n=43::Lib.itoa n:=if_neg hn;rw[e];clear e hl;generalize Bs (43::Lib.itoa n)=S2 at hcat ⊢;generalize Bs (Lib.itoa n)=S1 at hk hz hcat;have HK:=Zz hk;clear hk;go_in;go_wp2_with fail;refine Yw (HK.out _) fun w1 hx=>?_
  go_wp2;go_ret;exact⟨rfl,hx⟩

def Zkn(w:World)(r:Ub×Bool):Ending→World→Prop:=fun e w'=>e= .returned (.tuple #[(Bs r.1),r.2])∧Ex w w'
def Mk(x:Fr):Ub:=sgn x.re++sgn x.im++[105]
theorem Zxb{x:Fr}(h:x.den=1):txt x=Mk x:=by simp[txt,Mk,h]
theorem Bx{x:Fr}(h:¬x.den=1):txt x=Mk x++47::Lib.itoa x.den:=by simp[txt,Mk,h]
theorem Rt{x:Fr}(h:x.valid=true):(sgn x.re).length≤22∧(sgn x.im).length≤22∧(Lib.itoa x.den).length≤21∧(Mk x).length≤45∧(txt x).length≤67:=by
 obtain⟨p1,p2,p3, -⟩:=Fr.valid_out h;have l1:=Zmp x.re (by omega) (by omega);have l2:=Zmp x.im (by omega) (by omega);have l3:=Vi x.den (by omega) (by omega);have l4:(Mk x).length≤45:=by simp[Mk];omega
 refine⟨l1,l2,l3,l4,?_⟩;by_cases h1:x.den=1
 ·rw[Zxb h1];omega
 ·rw[Bx h1];simp;omega

theorem Zza(x:Fr)(w:World)(ht:Tab w):Calls prog 18 #[x.v] w (Zkn w (Ms x)):=by
 have kv:=fun w=>Xj x.re x.im x.den w
 have hvv:Yx x.re x.im x.den=x.valid:=rfl;simp only[hvv] at kv;rcases hv:x.valid with _|_
 ·have e:Ms x=([],false):=by simp[Ms,hv]
  rw[e];rw[hv] at kv;clear e hv hvv;obtain⟨a1,a2,a3⟩:=x;show Calls _ _ #[.agg #[a1,a2,a3]] _ _;have KV:=Zz kv;clear kv;go_in;go_wp2_with fail;refine Yw (KV.out _) fun w1 hx=>?_
  go_wp2;refine Zu (v:= .tuple #[.string ⟨#[]⟩,false]) ?_ rfl ⟨rfl,?_⟩
  ·simp[results,results18,go_sem]
  ·exact((Ex.refl _).alloc _).trans hx
 ·have e:Ms x=(txt x,true):=by simp[Ms,hv]
  rw[e];rw[hv] at kv;obtain⟨p1,p2,p3, -⟩:=Fr.valid_out hv;obtain⟨l1,l2,l3,l4,l5⟩:=Rt hv;have k1:=fun w ht=>By x.re (by omega) (by omega) w ht
  have k2:=fun w ht=>By x.im (by omega) (by omega) w ht
  have k3:=fun w ht=>Oh x.den (by omega) (by omega) w ht
  obtain⟨z1,t1⟩:=Mr (sgn x.re) (sgn x.im) (by omega);obtain⟨z2,t2⟩:=Cs (sgn x.re++sgn x.im) 105 (by simp;omega);obtain⟨z3,t3⟩:=Iz 47 (Lib.itoa x.den) (by omega);obtain⟨z4,t4⟩:=Mr (Mk x) (47::Lib.itoa x.den) (by simp;omega);have e2:sgn x.re++sgn x.im++[105]=Mk x:=rfl;rw[e2] at t2;have HT:=Zz ht;have HD:Hid (if x.den=1 then txt x=Mk x else txt x=Mk x++47::Lib.itoa x.den):=Zz (by split;exact Zxb ‹_›;exact Bx ‹_›);clear e hv hvv l1 l2 l3 l4 l5 e2 ht p1 p2;obtain⟨a1,a2,a3⟩:=x;simp only at k1 k2 k3 z1 t1 z2 t2 z3 t3 z4 t4 kv HD p3;show Calls _ _ #[.agg #[a1,a2,a3]] _ _;generalize txt ⟨a1,a2,a3⟩=T at HD ⊢;generalize Mk ⟨a1,a2,a3⟩=TI at HD t2 z4 t4;show Calls _ _ _ w fun e w'=>e= .returned (.tuple #[(Bs T),true])∧Ex w w'
  have HDB:Hid (if a3=1 then Bs T=Bs TI else Bs T=Bs (TI++47::Lib.itoa a3)):=Zz (by
   have:=HD.out
   split at this
   ·rw[if_pos (by assumption),this]
   ·rw[if_neg (by assumption),this])
  generalize Bs T=ST at HDB ⊢;generalize Bs (TI++47::Lib.itoa a3)=S6 at t4 HDB;generalize Bs (47::Lib.itoa a3)=S5 at t3 z4 t4;generalize Bs TI=SI at t2 z4 t4 HDB;generalize Bs (sgn a1++sgn a2)=S12 at t1 z2 t2;generalize Bs (sgn a1)=S1 at k1 z1 t1;generalize Bs (sgn a2)=S2 at k2 z1 t1;generalize Bs (Lib.itoa a3)=S4 at k3 z3 t3;clear HD;have KV:=Zz kv;have K1:=Zz k1;have K2:=Zz k2;have K3:=Zz k3;clear kv k1 k2 k3 p3;go_in;go_wp2_with fail;refine Yw (KV.out _) fun w1 hx=>?_
  have bA:=(Box.new _ _ _).ex hx;replace hx:=((Ex.refl _).alloc _).trans hx;have d1:w1.cell? ⟨w.heap.size,0,none⟩=some (.int .i64 a1):=bA.cell 0;have d2:w1.cell? ⟨w.heap.size,1,none⟩=some (.int .i64 a2):=bA.cell 1;have d3:w1.cell? ⟨w.heap.size,2,none⟩=some (.int .i64 a3):=bA.cell 2;have HTr:Hid (∀W,Ex w1 W→Tab W):=Zz (fun W h=>HT.out.ex (hx.trans h));have hE:=Zz hx;clear KV hx;go_upto_region 3 with fail;go_cut [4] (fun s wx=>s= .string SI∧Ex w1 wx)
  case first=>
   clear bA HDB;go_region_held3 (fun w'=>w'.cell? ⟨w.heap.size,0,none⟩=some (.int .i64 a1)∧w'.cell? ⟨w.heap.size,1,none⟩=some (.int .i64 a2)∧w'.cell? ⟨w.heap.size,2,none⟩=some (.int .i64 a3)) (go_keep) (first
    |(go_at_call 60;refine(K2.out wn (HTr.out wn hF)).mono ?_;rintro e wm ⟨rfl,hx⟩;have hG:=Ex.trans hF hx;have d1:=hx.get d1;have d2:=hx.get d2;have d3:=hx.get d3)
    |(go_at_call 60;refine(K1.out w1.drew (HTr.out w1.drew (Ex.refl w1).drew)).mono ?_;rintro e wn ⟨rfl,hx⟩;have hF:=Ex.trans (Ex.refl w1).drew hx;have d1:=hx.get d1;have d2:=hx.get d2;have d3:=hx.get d3))
   all_goals
    go_wp2_with fail;go_meet
    exact⟨rfl,by(first|exact Exi.out|(have:=Exi.mk ‹Ex _ _›;exact Exi.out))⟩
  case rest=>
   obtain⟨rfl,hx⟩:=hcut;have hE2:=hE.out.trans hx;have HT2:=Zz (HTr.out _ hx);have bA2:=bA.ex hx;have cA2:=bA2.cell;clear hx d1 d2 d3 bA K1 K2 hE HTr;by_cases h1:a3=1
   ·have hd:=HDB.out;rw[if_pos h1] at hd;subst h1 hd;go_wp2;refine Zu (v:= .tuple #[ST,true]) ?_ rfl ⟨rfl,hE2⟩;simp[results,results18,go_sem]
   ·have hd:=HDB.out;rw[if_neg h1] at hd;subst hd;have h1b:(a3==1)=false:=by simpa using h1
    go_wp2_with fail;refine Yw (K3.out _ HT2.out) fun w3 hx=>?_
    go_wp2;refine Zu (v:= .tuple #[ST,true]) ?_ rfl ⟨rfl,hE2.trans hx⟩;simp[results,results18,go_sem]
theorem Ztr(x:Fr)(hv:x.valid=true)(w:World):Calls prog 214 #[x.v] w fun e w'=>e= .returned (.string (Bs (txt x)))∧Ex w w':=by
 obtain⟨p1,p2,p3, -⟩:=Fr.valid_out hv;obtain⟨l1,l2,l3,l4,l5⟩:=Rt hv;have k1:=fun w=>Ii x.re (by omega) (by omega) w
 have k2:=fun w=>Ii x.im (by omega) (by omega) w
 have k3:=fun w=>Uo x.den (by omega) (by omega) w
 obtain⟨z1,t1⟩:=Mr (sgn x.re) (sgn x.im) (by omega);obtain⟨z2,t2⟩:=Cs (sgn x.re++sgn x.im) 105 (by simp;omega);obtain⟨z3,t3⟩:=Cs (Mk x) 47 (by omega);obtain⟨z4,t4⟩:=Mr (Mk x++[47]) (Lib.itoa x.den) (by simp;omega);have e3:Mk x++[47]++Lib.itoa x.den=Mk x++47::Lib.itoa x.den:=by simp
 rw[e3] at t4;have e2:sgn x.re++sgn x.im++[105]=Mk x:=rfl;rw[e2] at t2;have HD:Hid (if x.den=1 then txt x=Mk x else txt x=Mk x++47::Lib.itoa x.den):=Zz (by split;exact Zxb ‹_›;exact Bx ‹_›);clear hv l1 l2 l3 l4 l5 e2 e3 p1 p2;obtain⟨a1,a2,a3⟩:=x;simp only at k1 k2 k3 z1 t1 z2 t2 z3 t3 z4 t4 HD p3;show Calls _ _ #[.agg #[a1,a2,a3]] _ _;generalize txt ⟨a1,a2,a3⟩=T at HD ⊢;generalize Mk ⟨a1,a2,a3⟩=TI at HD t2 z3 t3 z4 t4;show Calls _ _ _ w fun e w'=>e= .returned (.string (Bs T))∧Ex w w'
 have HDB:Hid (if a3=1 then Bs T=Bs TI else Bs T=Bs (TI++47::Lib.itoa a3)):=Zz (by
  have:=HD.out
  split at this
  ·rw[if_pos (by assumption),this]
  ·rw[if_neg (by assumption),this])
 generalize Bs T=ST at HDB ⊢;generalize Bs (TI++47::Lib.itoa a3)=S6 at t4 HDB;generalize Bs (TI++[47])=S5 at t3 z4 t4;generalize Bs TI=SI at t2 z3 t3 HDB;generalize Bs (sgn a1++sgn a2)=S12 at t1 z2 t2;generalize Bs (sgn a1)=S1 at k1 z1 t1;generalize Bs (sgn a2)=S2 at k2 z1 t1;generalize Bs (Lib.itoa a3)=S4 at k3 z4 t4;clear HD;have K1:=Zz k1;have K2:=Zz k2;have K3:=Zz k3;clear k1 k2 k3 p3;go_in;go_upto_region 1 with fail;have bA:Box (w.alloc (.cells #[a1,a2,a3] 30)) w.heap.size 30 #[a1,a2,a3]:=Box.new _ _ _;have hE:=Zz ((Ex.refl w).alloc (.cells #[a1,a2,a3] 30));generalize hw1:w.alloc (.cells #[a1,a2,a3] 30)=w1 at*;clear hw1;have d1:w1.cell? ⟨w.heap.size,0,none⟩=some (.int .i64 a1):=bA.cell 0;have d2:w1.cell? ⟨w.heap.size,1,none⟩=some (.int .i64 a2):=bA.cell 1;have d3:w1.cell? ⟨w.heap.size,2,none⟩=some (.int .i64 a3):=bA.cell 2;go_cut [3] (fun s wx=>s= .string SI∧Ex w1 wx)
 case first=>
  clear bA HDB;go_region_held3 (fun w'=>w'.cell? ⟨w.heap.size,0,none⟩=some (.int .i64 a1)∧w'.cell? ⟨w.heap.size,1,none⟩=some (.int .i64 a2)∧w'.cell? ⟨w.heap.size,2,none⟩=some (.int .i64 a3)) (go_keep) (first
   |(go_at_call 252;refine(K2.out wn).mono ?_;rintro e wm ⟨rfl,hx⟩;have hG:=Ex.trans hF hx;have d1:=hx.get d1;have d2:=hx.get d2;have d3:=hx.get d3)
   |(go_at_call 252;refine(K1.out w1.drew).mono ?_;rintro e wn ⟨rfl,hx⟩;have hF:=Ex.trans (Ex.refl w1).drew hx;have d1:=hx.get d1;have d2:=hx.get d2;have d3:=hx.get d3))
  all_goals
   go_wp2_with fail;go_meet
   exact⟨rfl,by(first|exact Exi.out|(have:=Exi.mk ‹Ex _ _›;exact Exi.out))⟩
 case rest=>
  obtain⟨rfl,hx⟩:=hcut;have hE2:=hE.out.trans hx;have bA2:=bA.ex hx;have cA2:=bA2.cell;clear hx d1 d2 d3 bA K1 K2 hE;by_cases h1:a3=1
  ·have hd:=HDB.out;rw[if_pos h1] at hd;subst h1 hd;go_wp2;go_ret;exact⟨rfl,hE2⟩
  ·have hd:=HDB.out;rw[if_neg h1] at hd;subst hd;have h1b:(a3==1)=false:=by simpa using h1
   go_wp2_with fail;refine Yw (K3.out _) fun w3 hx=>?_
   go_wp2;go_ret;exact⟨rfl,hE2.trans hx⟩
end
section
open Go.RowKit

def Sv(a b c d:Fr):Value:= .agg #[a.re,a.im,a.den,b.re,b.im,b.den,c.re,c.im,c.den,d.re,d.im,d.den]
def rok(x:Fr):Bool:=x.valid&&decide (x.im=0)
def Nv(a b c d:Fr):Bool:=rok a&&(rok b&&(rok c&&rok d))
theorem Nu(x:Fr)(w:World):Calls prog 122 #[x.v] w fun e w'=>e= .returned (.bool (rok x))∧Ex w w':=by
 have kv:=fun w=>Xj x.re x.im x.den w
 have hvv:Yx x.re x.im x.den=x.valid:=rfl;simp only[hvv] at kv;have hr:rok x=(x.valid&&decide (x.im=0)):=rfl;rw[hr];generalize x.valid=v at kv ⊢;obtain⟨a1,a2,a3⟩:=x;have KV:=Zz kv;clear kv hvv hr;show Calls _ _ #[.agg #[a1,a2,a3]] _ _;rcases v with _|_
 ·go_in;go_wp2_with fail;refine Yw (KV.out _) fun w1 hx=>?_
  have hE:=((Ex.refl w).alloc _).trans hx;clear hx;go_wp2;go_ret;exact⟨rfl,hE⟩
 ·by_cases h:a2=0
  ·subst h;go_in;go_wp2_with fail;refine Yw (KV.out _) fun w1 hx=>?_
   have bA:=(Box.new w #[a1,oo,a3] 30).ex hx;have cA:=bA.cell;have hE:=((Ex.refl w).alloc _).trans hx;clear hx;go_wp2;go_ret;exact⟨rfl,hE⟩
  ·have h2:(a2==0)=false:=by simpa using h
   go_in;go_wp2_with fail;refine Yw (KV.out _) fun w1 hx=>?_
   have bA:=(Box.new w #[a1,a2,a3] 30).ex hx;have cA:=bA.cell;have hE:=((Ex.refl w).alloc _).trans hx;clear hx;go_wp2;go_ret;exact⟨Wv (by simp[h]),hE⟩

theorem Rg(a b c d:Fr)(w:World):Calls prog 57 #[Sv a b c d] w fun e w'=>e= .returned (.bool (Nv a b c d))∧Ex w w':=by
 have ka:=fun w=>Nu a w
 have kb:=fun w=>Nu b w
 have kc:=fun w=>Nu c w
 have kd:=fun w=>Nu d w
 unfold Nv;generalize rok a=va at ka ⊢;generalize rok b=vb at kb ⊢;generalize rok c=vc at kc ⊢;generalize rok d=vd at kd ⊢;obtain⟨a1,a2,a3⟩:=a;obtain⟨b1,b2,b3⟩:=b;obtain⟨c1,c2,c3⟩:=c;obtain⟨d1,d2,d3⟩:=d;have Ka:Hid (∀w,Calls prog 122 #[.agg #[a1,a2,a3]] w fun e w'=>e= .returned (.bool va)∧Ex w w'):=ka;have Kb:Hid (∀w,Calls prog 122 #[.agg #[b1,b2,b3]] w fun e w'=>e= .returned (.bool vb)∧Ex w w'):=kb;have Kc:Hid (∀w,Calls prog 122 #[.agg #[c1,c2,c3]] w fun e w'=>e= .returned (.bool vc)∧Ex w w'):=kc;have Kd:Hid (∀w,Calls prog 122 #[.agg #[d1,d2,d3]] w fun e w'=>e= .returned (.bool vd)∧Ex w w'):=kd;clear ka kb kc kd;show Calls _ _ #[.agg #[a1,a2,a3,b1,b2,b3,c1,c2,c3,d1,d2,d3]] _ _;rcases va with _|_
 ·go_in;go_wp2;have hE:=(Ex.refl w).alloc (.cells #[a1,a2,a3,b1,b2,b3,c1,c2,c3,d1,d2,d3] 35);have i0:=fun w=>index4_0 a1 a2 a3 b1 b2 b3 c1 c2 c3 d1 d2 d3 w
  have i1:=fun w=>index4_1 a1 a2 a3 b1 b2 b3 c1 c2 c3 d1 d2 d3 w
  have i2:=fun w=>index4_2 a1 a2 a3 b1 b2 b3 c1 c2 c3 d1 d2 d3 w
  have i3:=fun w=>index4_3 a1 a2 a3 b1 b2 b3 c1 c2 c3 d1 d2 d3 w
  refine wp_loop_rounds 5 ?_;rw[rounds_succ];go_wp2_with fail;refine Yw (Ka.out _) fun w1 hx=>?_
  replace hE:=(hE.alloc _).trans hx;clear hx;go_wp2_with fail;go_ret;exact⟨rfl,hE⟩
 rcases vb with _|_
 ·go_in;go_wp2;have hE:=(Ex.refl w).alloc (.cells #[a1,a2,a3,b1,b2,b3,c1,c2,c3,d1,d2,d3] 35);have i0:=fun w=>index4_0 a1 a2 a3 b1 b2 b3 c1 c2 c3 d1 d2 d3 w
  have i1:=fun w=>index4_1 a1 a2 a3 b1 b2 b3 c1 c2 c3 d1 d2 d3 w
  have i2:=fun w=>index4_2 a1 a2 a3 b1 b2 b3 c1 c2 c3 d1 d2 d3 w
  have i3:=fun w=>index4_3 a1 a2 a3 b1 b2 b3 c1 c2 c3 d1 d2 d3 w
  refine wp_loop_rounds 5 ?_;rw[rounds_succ];go_wp2_with fail;refine Yw (Ka.out _) fun w1 hx=>?_
  replace hE:=(hE.alloc _).trans hx;clear hx;go_wp2_with fail;rw[rounds_succ];go_wp2_with fail;refine Yw (Kb.out _) fun w2 hx=>?_
  replace hE:=(hE.alloc _).trans hx;clear hx;go_wp2_with fail;go_ret;exact⟨rfl,hE⟩
 rcases vc with _|_
 ·go_in;go_wp2;have hE:=(Ex.refl w).alloc (.cells #[a1,a2,a3,b1,b2,b3,c1,c2,c3,d1,d2,d3] 35);have i0:=fun w=>index4_0 a1 a2 a3 b1 b2 b3 c1 c2 c3 d1 d2 d3 w
  have i1:=fun w=>index4_1 a1 a2 a3 b1 b2 b3 c1 c2 c3 d1 d2 d3 w
  have i2:=fun w=>index4_2 a1 a2 a3 b1 b2 b3 c1 c2 c3 d1 d2 d3 w
  have i3:=fun w=>index4_3 a1 a2 a3 b1 b2 b3 c1 c2 c3 d1 d2 d3 w
  refine wp_loop_rounds 5 ?_;rw[rounds_succ];go_wp2_with fail;refine Yw (Ka.out _) fun w1 hx=>?_
  replace hE:=(hE.alloc _).trans hx;clear hx;go_wp2_with fail;rw[rounds_succ];go_wp2_with fail;refine Yw (Kb.out _) fun w2 hx=>?_
  replace hE:=(hE.alloc _).trans hx;clear hx;go_wp2_with fail;rw[rounds_succ];go_wp2_with fail;refine Yw (Kc.out _) fun w3 hx=>?_
  replace hE:=(hE.alloc _).trans hx;clear hx;go_wp2_with fail;go_ret;exact⟨rfl,hE⟩
 rcases vd with _|_
 ·go_in;go_wp2;have hE:=(Ex.refl w).alloc (.cells #[a1,a2,a3,b1,b2,b3,c1,c2,c3,d1,d2,d3] 35);have i0:=fun w=>index4_0 a1 a2 a3 b1 b2 b3 c1 c2 c3 d1 d2 d3 w
  have i1:=fun w=>index4_1 a1 a2 a3 b1 b2 b3 c1 c2 c3 d1 d2 d3 w
  have i2:=fun w=>index4_2 a1 a2 a3 b1 b2 b3 c1 c2 c3 d1 d2 d3 w
  have i3:=fun w=>index4_3 a1 a2 a3 b1 b2 b3 c1 c2 c3 d1 d2 d3 w
  refine wp_loop_rounds 5 ?_;rw[rounds_succ];go_wp2_with fail;refine Yw (Ka.out _) fun w1 hx=>?_
  replace hE:=(hE.alloc _).trans hx;clear hx;go_wp2_with fail;rw[rounds_succ];go_wp2_with fail;refine Yw (Kb.out _) fun w2 hx=>?_
  replace hE:=(hE.alloc _).trans hx;clear hx;go_wp2_with fail;rw[rounds_succ];go_wp2_with fail;refine Yw (Kc.out _) fun w3 hx=>?_
  replace hE:=(hE.alloc _).trans hx;clear hx;go_wp2_with fail;rw[rounds_succ];go_wp2_with fail;refine Yw (Kd.out _) fun w4 hx=>?_
  replace hE:=(hE.alloc _).trans hx;clear hx;go_wp2_with fail;go_ret;exact⟨rfl,hE⟩
 ·go_in;go_wp2;have hE:=(Ex.refl w).alloc (.cells #[a1,a2,a3,b1,b2,b3,c1,c2,c3,d1,d2,d3] 35);have i0:=fun w=>index4_0 a1 a2 a3 b1 b2 b3 c1 c2 c3 d1 d2 d3 w
  have i1:=fun w=>index4_1 a1 a2 a3 b1 b2 b3 c1 c2 c3 d1 d2 d3 w
  have i2:=fun w=>index4_2 a1 a2 a3 b1 b2 b3 c1 c2 c3 d1 d2 d3 w
  have i3:=fun w=>index4_3 a1 a2 a3 b1 b2 b3 c1 c2 c3 d1 d2 d3 w
  refine wp_loop_rounds 5 ?_;rw[rounds_succ];go_wp2_with fail;refine Yw (Ka.out _) fun w1 hx=>?_
  replace hE:=(hE.alloc _).trans hx;clear hx;go_wp2_with fail;rw[rounds_succ];go_wp2_with fail;refine Yw (Kb.out _) fun w2 hx=>?_
  replace hE:=(hE.alloc _).trans hx;clear hx;go_wp2_with fail;rw[rounds_succ];go_wp2_with fail;refine Yw (Kc.out _) fun w3 hx=>?_
  replace hE:=(hE.alloc _).trans hx;clear hx;go_wp2_with fail;rw[rounds_succ];go_wp2_with fail;refine Yw (Kd.out _) fun w4 hx=>?_
  replace hE:=(hE.alloc _).trans hx;clear hx;go_wp2_with fail;rw[rounds_succ];go_wp2;go_ret;exact⟨rfl,hE⟩
theorem Pb(a b c d:Fr)(w:World):Calls prog 225 #[Sv a b c d] w fun e w'=>e= .returned (.bool (Nv a b c d))∧Ex w w':=by
 have ka:=fun w=>Xc a.re a.im a.den w
 have ra:rok a=(Yx a.re a.im a.den&&decide (a.im=0)):=rfl;have kb:=fun w=>Xc b.re b.im b.den w
 have rb:rok b=(Yx b.re b.im b.den&&decide (b.im=0)):=rfl;have kc:=fun w=>Xc c.re c.im c.den w
 have rc:rok c=(Yx c.re c.im c.den&&decide (c.im=0)):=rfl;have kd:=fun w=>Xc d.re d.im d.den w
 have rd:rok d=(Yx d.re d.im d.den&&decide (d.im=0)):=rfl;unfold Nv;rw[ra,rb,rc,rd];generalize Yx a.re a.im a.den=va at ka ⊢;generalize Yx b.re b.im b.den=vb at kb ⊢;generalize Yx c.re c.im c.den=vc at kc ⊢;generalize Yx d.re d.im d.den=vd at kd ⊢;clear ra rb rc rd;obtain⟨a1,a2,a3⟩:=a;obtain⟨b1,b2,b3⟩:=b;obtain⟨c1,c2,c3⟩:=c;obtain⟨d1,d2,d3⟩:=d;have Ka:Hid (∀w,Calls prog 174 #[.agg #[a1,a2,a3]] w fun e w'=>e= .returned (.bool va)∧Ex w w'):=Zz ka;have Kb:Hid (∀w,Calls prog 174 #[.agg #[b1,b2,b3]] w fun e w'=>e= .returned (.bool vb)∧Ex w w'):=Zz kb;have Kc:Hid (∀w,Calls prog 174 #[.agg #[c1,c2,c3]] w fun e w'=>e= .returned (.bool vc)∧Ex w w'):=Zz kc;have Kd:Hid (∀w,Calls prog 174 #[.agg #[d1,d2,d3]] w fun e w'=>e= .returned (.bool vd)∧Ex w w'):=Zz kd;clear ka kb kc kd;show Calls _ _ #[.agg #[a1,a2,a3,b1,b2,b3,c1,c2,c3,d1,d2,d3]] _ _;dsimp only
 rcases va with _|_
 ·go_in;go_wp2;have bA:=Box.new w #[a1,a2,a3,b1,b2,b3,c1,c2,c3,d1,d2,d3] 35;have hE:=(Ex.refl w).alloc (.cells #[a1,a2,a3,b1,b2,b3,c1,c2,c3,d1,d2,d3] 35);have cA:=bA.cell;refine wp_loop_rounds 5 ?_;rw[rounds_succ];go_wp2_with fail;refine Yw (Ka.out _) fun w1 hx=>?_
  replace hE:=hE.trans hx;replace bA:=bA.ex hx;replace cA:=bA.cell;clear hx;go_wp2_with fail;go_ret;exact⟨rfl,hE⟩
 ·by_cases ha:a2=0
  ·subst ha;rcases vb with _|_
   ·go_in;go_wp2;have bA:=Box.new w #[a1,oo,a3,b1,b2,b3,c1,c2,c3,d1,d2,d3] 35;have hE:=(Ex.refl w).alloc (.cells #[a1,oo,a3,b1,b2,b3,c1,c2,c3,d1,d2,d3] 35);have cA:=bA.cell;refine wp_loop_rounds 5 ?_;rw[rounds_succ];go_wp2_with fail;refine Yw (Ka.out _) fun w1 hx=>?_
    replace hE:=hE.trans hx;replace bA:=bA.ex hx;replace cA:=bA.cell;clear hx;go_wp2_with fail;rw[rounds_succ];go_wp2_with fail;refine Yw (Kb.out _) fun w2 hx=>?_
    replace hE:=hE.trans hx;replace bA:=bA.ex hx;replace cA:=bA.cell;clear hx;go_wp2_with fail;go_ret;exact⟨rfl,hE⟩
   ·by_cases hb:b2=0
    ·subst hb;rcases vc with _|_
     ·go_in;go_wp2;have bA:=Box.new w #[a1,oo,a3,b1,oo,b3,c1,c2,c3,d1,d2,d3] 35;have hE:=(Ex.refl w).alloc (.cells #[a1,oo,a3,b1,oo,b3,c1,c2,c3,d1,d2,d3] 35);have cA:=bA.cell;refine wp_loop_rounds 5 ?_;rw[rounds_succ];go_wp2_with fail;refine Yw (Ka.out _) fun w1 hx=>?_
      replace hE:=hE.trans hx;replace bA:=bA.ex hx;replace cA:=bA.cell;clear hx;go_wp2_with fail;rw[rounds_succ];go_wp2_with fail;refine Yw (Kb.out _) fun w2 hx=>?_
      replace hE:=hE.trans hx;replace bA:=bA.ex hx;replace cA:=bA.cell;clear hx;go_wp2_with fail;rw[rounds_succ];go_wp2_with fail;refine Yw (Kc.out _) fun w3 hx=>?_
      replace hE:=hE.trans hx;replace bA:=bA.ex hx;replace cA:=bA.cell;clear hx;go_wp2_with fail;go_ret;exact⟨rfl,hE⟩
     ·by_cases hc:c2=0
      ·subst hc;rcases vd with _|_
       ·go_in;go_wp2;have bA:=Box.new w #[a1,oo,a3,b1,oo,b3,c1,oo,c3,d1,d2,d3] 35;have hE:=(Ex.refl w).alloc (.cells #[a1,oo,a3,b1,oo,b3,c1,oo,c3,d1,d2,d3] 35);have cA:=bA.cell;refine wp_loop_rounds 5 ?_;rw[rounds_succ];go_wp2_with fail;refine Yw (Ka.out _) fun w1 hx=>?_
        replace hE:=hE.trans hx;replace bA:=bA.ex hx;replace cA:=bA.cell;clear hx;go_wp2_with fail;rw[rounds_succ];go_wp2_with fail;refine Yw (Kb.out _) fun w2 hx=>?_
        replace hE:=hE.trans hx;replace bA:=bA.ex hx;replace cA:=bA.cell;clear hx;go_wp2_with fail;rw[rounds_succ];go_wp2_with fail;refine Yw (Kc.out _) fun w3 hx=>?_
        replace hE:=hE.trans hx;replace bA:=bA.ex hx;replace cA:=bA.cell;clear hx;go_wp2_with fail;rw[rounds_succ];go_wp2_with fail;refine Yw (Kd.out _) fun w4 hx=>?_
        replace hE:=hE.trans hx;replace bA:=bA.ex hx;replace cA:=bA.cell;clear hx;go_wp2_with fail;go_ret;exact⟨rfl,hE⟩
       ·by_cases hd:d2=0
        ·subst hd;go_in;go_wp2;have bA:=Box.new w #[a1,oo,a3,b1,oo,b3,c1,oo,c3,d1,oo,d3] 35;have hE:=(Ex.refl w).alloc (.cells #[a1,oo,a3,b1,oo,b3,c1,oo,c3,d1,oo,d3] 35);have cA:=bA.cell;refine wp_loop_rounds 5 ?_;rw[rounds_succ];go_wp2_with fail;refine Yw (Ka.out _) fun w1 hx=>?_
         replace hE:=hE.trans hx;replace bA:=bA.ex hx;replace cA:=bA.cell;clear hx;go_wp2_with fail;rw[rounds_succ];go_wp2_with fail;refine Yw (Kb.out _) fun w2 hx=>?_
         replace hE:=hE.trans hx;replace bA:=bA.ex hx;replace cA:=bA.cell;clear hx;go_wp2_with fail;rw[rounds_succ];go_wp2_with fail;refine Yw (Kc.out _) fun w3 hx=>?_
         replace hE:=hE.trans hx;replace bA:=bA.ex hx;replace cA:=bA.cell;clear hx;go_wp2_with fail;rw[rounds_succ];go_wp2_with fail;refine Yw (Kd.out _) fun w4 hx=>?_
         replace hE:=hE.trans hx;replace bA:=bA.ex hx;replace cA:=bA.cell;clear hx;go_wp2_with fail;rw[rounds_succ];go_wp2;go_ret;exact⟨rfl,hE⟩
        ·have qd:(d2==0)=false:=by simpa using hd
         have pd:decide (d2=0)=false:=by simpa using hd
         rw[pd];go_in;go_wp2;have bA:=Box.new w #[a1,oo,a3,b1,oo,b3,c1,oo,c3,d1,d2,d3] 35;have hE:=(Ex.refl w).alloc (.cells #[a1,oo,a3,b1,oo,b3,c1,oo,c3,d1,d2,d3] 35);have cA:=bA.cell;refine wp_loop_rounds 5 ?_;rw[rounds_succ];go_wp2_with fail;refine Yw (Ka.out _) fun w1 hx=>?_
         replace hE:=hE.trans hx;replace bA:=bA.ex hx;replace cA:=bA.cell;clear hx;go_wp2_with fail;rw[rounds_succ];go_wp2_with fail;refine Yw (Kb.out _) fun w2 hx=>?_
         replace hE:=hE.trans hx;replace bA:=bA.ex hx;replace cA:=bA.cell;clear hx;go_wp2_with fail;rw[rounds_succ];go_wp2_with fail;refine Yw (Kc.out _) fun w3 hx=>?_
         replace hE:=hE.trans hx;replace bA:=bA.ex hx;replace cA:=bA.cell;clear hx;go_wp2_with fail;rw[rounds_succ];go_wp2_with fail;refine Yw (Kd.out _) fun w4 hx=>?_
         replace hE:=hE.trans hx;replace bA:=bA.ex hx;replace cA:=bA.cell;clear hx;go_wp2_with fail;go_ret;exact⟨rfl,hE⟩
      ·have qc:(c2==0)=false:=by simpa using hc
       have pc:decide (c2=0)=false:=by simpa using hc
       rw[pc];go_in;go_wp2;have bA:=Box.new w #[a1,oo,a3,b1,oo,b3,c1,c2,c3,d1,d2,d3] 35;have hE:=(Ex.refl w).alloc (.cells #[a1,oo,a3,b1,oo,b3,c1,c2,c3,d1,d2,d3] 35);have cA:=bA.cell;refine wp_loop_rounds 5 ?_;rw[rounds_succ];go_wp2_with fail;refine Yw (Ka.out _) fun w1 hx=>?_
       replace hE:=hE.trans hx;replace bA:=bA.ex hx;replace cA:=bA.cell;clear hx;go_wp2_with fail;rw[rounds_succ];go_wp2_with fail;refine Yw (Kb.out _) fun w2 hx=>?_
       replace hE:=hE.trans hx;replace bA:=bA.ex hx;replace cA:=bA.cell;clear hx;go_wp2_with fail;rw[rounds_succ];go_wp2_with fail;refine Yw (Kc.out _) fun w3 hx=>?_
       replace hE:=hE.trans hx;replace bA:=bA.ex hx;replace cA:=bA.cell;clear hx;go_wp2_with fail;go_ret;exact⟨rfl,hE⟩
    ·have qb:(b2==0)=false:=by simpa using hb
     have pb:decide (b2=0)=false:=by simpa using hb
     rw[pb];go_in;go_wp2;have bA:=Box.new w #[a1,oo,a3,b1,b2,b3,c1,c2,c3,d1,d2,d3] 35;have hE:=(Ex.refl w).alloc (.cells #[a1,oo,a3,b1,b2,b3,c1,c2,c3,d1,d2,d3] 35);have cA:=bA.cell;refine wp_loop_rounds 5 ?_;rw[rounds_succ];go_wp2_with fail;refine Yw (Ka.out _) fun w1 hx=>?_
     replace hE:=hE.trans hx;replace bA:=bA.ex hx;replace cA:=bA.cell;clear hx;go_wp2_with fail;rw[rounds_succ];go_wp2_with fail;refine Yw (Kb.out _) fun w2 hx=>?_
     replace hE:=hE.trans hx;replace bA:=bA.ex hx;replace cA:=bA.cell;clear hx;go_wp2_with fail;go_ret;exact⟨rfl,hE⟩
  ·have qa:(a2==0)=false:=by simpa using ha
   have pa:decide (a2=0)=false:=by simpa using ha
   rw[pa];go_in;go_wp2;have bA:=Box.new w #[a1,a2,a3,b1,b2,b3,c1,c2,c3,d1,d2,d3] 35;have hE:=(Ex.refl w).alloc (.cells #[a1,a2,a3,b1,b2,b3,c1,c2,c3,d1,d2,d3] 35);have cA:=bA.cell;refine wp_loop_rounds 5 ?_;rw[rounds_succ];go_wp2_with fail;refine Yw (Ka.out _) fun w1 hx=>?_
   replace hE:=hE.trans hx;replace bA:=bA.ex hx;replace cA:=bA.cell;clear hx;go_wp2_with fail;go_ret;exact⟨rfl,hE⟩
end
section
theorem Mi{n:Int}(h:0≤n):Lib.itoa n=Lib.decDigits n.natAbs:=by
 by_cases h1:1≤n
 ·exact Zun h1
 ·have:n=0:=by omega
  subst this;rfl
theorem itoa_neg{n:Int}(h:n<0):Lib.itoa n=45::Lib.decDigits n.natAbs:=by
 have:=Zuo n
 unfold sgn Zmo at this;rw[if_pos h,if_pos h] at this;exact this
theorem Zhi(u:Nat):∀t,Lib.decDigits u≠45::t:=by
 intro t h;have:=Mq u 45 (by rw[h];exact List.mem_cons_self)
 revert this;decide
theorem Vl{n:Int}(h0: -100≤n)(h1:n≤100):(Lib.itoa n).length≤4:=by
 have h:(Lib.decDigits n.natAbs).length≤3:=Zlb _ 2 (by omega);by_cases hn:n<0
 ·rw[itoa_neg hn];simp;omega
 ·rw[Mi (by omega)];omega
theorem Zhh(n:Int):1≤(Lib.itoa n).length:=by
 by_cases hn:n<0
 ·rw[itoa_neg hn];simp
 ·rw[Mi (by omega)];have:(Lib.decDigits n.natAbs).length≠0:=fun e=>Zxm _ (List.length_eq_zero_iff.1 e)
  omega

def Vu(n:Nat)(c:UInt8):Nat:=10*n+(c.toNat-48)
theorem Ztn:∀u:Nat,(Lib.decDigits u).foldl Vu 0=u:=by
 intro u;induction u using Nat.strongRecOn with
 |ind u ih=>
  by_cases hu:u<10
  ·rw[Pr hu];show 10*0+((UInt8.ofNat (48+u)).toNat-48)=u;rw[Qy hu];omega
  ·rw[Ij hu,List.foldl_append,ih (u / 10) (by omega)];show 10*(u / 10)+((UInt8.ofNat (48+u % 10)).toNat-48)=u;rw[Qy (Nat.mod_lt _ (by omega))];omega

def Xt(l:Ub):Option Int:=match Lib.atoiAll l with
 | .ok n=>if Lib.itoa n=l then some n else none
 |_=>none
theorem Rs{l:Ub}{n:Int}(h:Xt l=some n):Lib.atoiAll l= .ok n∧Lib.itoa n=l:=by
 unfold Xt at h;rcases ha:Lib.atoiAll l with m|_|_
 ·
  rw[ha] at h;simp only at h;split at h
  ·injection h with h;subst h;exact⟨rfl,by assumption⟩
  ·cases h
 ·rw[ha] at h;cases h
 ·rw[ha] at h;cases h
theorem Bu{l:Ub}{n:Int}(h:Lib.atoiAll l= .ok n):Xt l=if Lib.itoa n=l then some n else none:=by
 unfold Xt;rw[h]
theorem Zpg{n:Int}(h0: -2000000000≤n)(h1:n≤2000000000):Xt (Lib.itoa n)=some n:=by
 have:Lib.atoiAll (Lib.itoa n)= .ok n:=by
  by_cases hn:n<0
  ·have e:Lib.itoa n=sgn n:=by unfold sgn;rw[if_pos hn]
   rw[e];exact Zic h0 h1
  ·by_cases hz:n=0
   ·subst hz;rw[Mi (Int.le_refl 0),show(0:Int).natAbs=0 from rfl,Pr (by omega)];rfl
   ·exact Zib (by omega) h1
 rw[Bu this,if_pos rfl]
theorem Zkl:Xt []=none:=rfl
def Xl:Ub→Ub
 |[]=>[]
 |c::t=>if c=45 then t else c::t
theorem Zpf{l:Ub}{c:UInt8}(h:l=[]→c≠45):Xl (l++[c])=Xl l++[c]:=by
 cases l with
 |nil=>simp[Xl,h rfl]
 |cons d t=>
  simp only[List.cons_append,Xl];split<;>simp
def Zwy(k:Nat)(c:UInt8):Bool:=(decide (k=0)&&decide (c=45))||Wz c
theorem Bt{n:Int}{k:Nat}{c:UInt8}{t:Ub}{p:Ub}(h:Lib.itoa n=p++c::t)(hk:p.length=k):Zwy k c=true:=by
 unfold Zwy;by_cases hn:n<0
 ·rw[itoa_neg hn] at h;cases p with
  |nil=>
   simp only[List.nil_append] at h;injection h with h1 h2;subst h1;simp at hk;subst hk;simp
  |cons d p=>
   injection h with h1 h2;rw[Mq n.natAbs c (by rw[h2];simp)];simp
 ·rw[Mi (by omega)] at h;rw[Mq n.natAbs c (by rw[h];simp)];simp
def sg(l:Ub):Int:=if l.head? =some 45 then -1 else 1
theorem Zpe{n:Int}:sg (Lib.itoa n)*((Xl (Lib.itoa n)).foldl Vu 0:Nat)=n:=by
 by_cases hn:n<0
 ·rw[itoa_neg hn];simp only[Xl,sg,List.head?_cons,if_true];rw[Ztn];omega
 ·rw[Mi (by omega)];have e:Xl (Lib.decDigits n.natAbs)=Lib.decDigits n.natAbs∧sg (Lib.decDigits n.natAbs)=1:=by
   cases hd:Lib.decDigits n.natAbs with
   |nil=>exact absurd hd (Zxm _)
   |cons c t=>
    have hc:c≠45:=fun e=>Zhi n.natAbs t (by rw[hd,e])
    simp[Xl,sg,hc]
  rw[e.1,e.2,Ztn];omega
theorem Zme:∀(l:Ub) (n:Nat),(∀c∈l,Wz c=true)→l.foldl Vu n<(n+1)*10 ^ l.length
 |[],n,_=>by simp
 |c::t,n,h=>by
  have hc:48≤c.toNat∧c.toNat≤57:=by simpa [Wz] using h c List.mem_cons_self
  have ih:=Zme t (Vu n c) fun d hd=>h d (List.mem_cons_of_mem _ hd)
  rw[List.foldl_cons,List.length_cons,Nat.pow_succ]
  have h2:(Vu n c+1)*10 ^ t.length≤((n+1)*10)*10 ^ t.length:=Nat.mul_le_mul_right _ (by unfold Vu;omega)
  rw[Nat.mul_assoc,Nat.mul_comm 10] at h2
  omega
theorem Gl(l:Ub)(h:∀c∈l,Wz c=true):l.foldl Vu 0<10 ^ l.length:=by
 have:=Zme l 0 h
 omega

section
variable {α β:Type} {f:α→Option β}
def Xg(f:α→Option β):List α→Option (List β)
 |[]=>some []
 |a::t=>match f a,Xg f t with
  |some b,some r=>some (b::r)
  |_,_=>none
theorem Ez{a:α}{t:List α}{b:β}{r:List β}(h:f a=some b)(k:Xg f t=some r):Xg f (a::t)=some (b::r):=by
 simp[Xg,h,k]
theorem Qq{a:α}{t:List α}{r:List β}(h:Xg f (a::t)=some r):∃b r',f a=some b∧Xg f t=some r'∧r=b::r':=by
 unfold Xg at h;split at h
 ·rename_i b r' h1 h2;exact⟨b,r',h1,h2,by injection h with h;exact h.symm⟩
 ·cases h
theorem Ve{a:α}{b:β}(ha:f a=some b):∀{l:List α} {r:List β},Xg f l=some r→Xg f (l++[a])=some (r++[b])
 |[],r,h=>by
  simp only[Xg] at h
  injection h with h
  subst h
  exact Ez ha rfl
 |x::t,r,h=>by
  obtain⟨y,r',h1,h2,rfl⟩:=Qq h
  exact Ez h1 (Ve ha h2)
theorem Mh{l:List α}:∀{r:List β},Xg f l=some r→∀a∈l,∃b∈r,f a=some b:=by
 induction l with
 |nil=>intro r _ a ha;cases ha
 |cons x t ih=>
  intro r h a ha;obtain⟨y,r',h1,h2,rfl⟩:=Qq h;rcases List.mem_cons.1 ha with rfl|ha
  ·exact⟨y,by simp,h1⟩
  ·obtain⟨b,hb,he⟩:=ih h2 a ha;exact⟨b,by simp[hb],he⟩
theorem Qp{l:List α}{a:α}(h:f a=none)(ha:a∈l):Xg f l=none:=by
 cases hr:Xg f l with
 |none=>rfl
 |some r=>
  obtain⟨b, -,hb⟩:=Mh hr a ha;rw[h] at hb;cases hb
theorem Wd:∀{l:List α} {r:List β},Xg f l=some r→r.length=l.length
 |[],r,h=>by
  simp only[Xg] at h
  injection h with h
  subst h
  rfl
 |x::t,r,h=>by
  obtain⟨y,r',h1,h2,rfl⟩:=Qq h
  simp[Wd h2]
theorem Xf{l:List α}{k:Nat}(h:k<l.length):l.take (k+1)=l.take k++[l[k]]:=List.take_succ_eq_append_getElem h
end

def Wx(k:UInt8)(ns:List Int):Bool:=
 if k=114∨k=102 then decide (ns.length=2)&&Wl (ns.getD 0 0) (ns.getD 1 0)
 else if k=119 then decide (ns.length=3)&&Wl (ns.getD 0 0) (ns.getD 1 0)&&Xw (ns.getD 2 0) 0 3
 else if k=97∨k=100 then decide (ns.length=2)&&(Xw (ns.getD 1 0) 1 100&&Xw (ns.getD 0 0) 0 (ns.getD 1 0))
 else false
theorem Zyx{p q:Int}(h:Wl p q=true):(-100≤p∧p≤100)∧(-100≤q∧q≤100)∧¬(p=0∧q=0):=by
 unfold Wl at h;simp only[Bool.and_eq_true,Bool.not_eq_true',Bool.and_eq_false_iff,decide_eq_false_iff_not] at h;refine⟨Wj h.1.1,Wj h.1.2,fun e=>?_⟩;rcases h.2 with h2|h2
 ·exact h2 e.1
 ·exact h2 e.2
def Yl:Ub→Option (UInt8×List Int)
 |[]=>none
 |k::t=>match Xg Xt (cds t) with
  |some ns=>if Wx k ns then some (k,ns) else none
  |none=>none
def Ys(l:Ub):Option (List (UInt8×List Int)):=
 if l=[] then some [] else match Xg Yl (wds l) with
  |some ps=>if ps.length≤12 then some ps else none
  |none=>none
theorem Jt{l:Ub}{k:UInt8}{ns:List Int}(h:Yl l=some (k,ns)):∃t,l=k::t∧Xg Xt (cds t)=some ns∧Wx k ns=true:=by
 cases l with
 |nil=>cases h
 |cons c t=>
  rw[Yl] at h;split at h
  ·rename_i ns' hn;split at h
   ·rename_i hv;injection h with h;injection h with h1 h2;subst h1 h2;exact⟨t,rfl,hn,hv⟩
   ·cases h
  ·cases h
theorem Xv{k:UInt8}{t:Ub}{ns:List Int}(h:Xg Xt (cds t)=some ns):Yl (k::t)=if Wx k ns then some (k,ns) else none:=by
 rw[Yl,h]
theorem Qo{k:UInt8}{t:Ub}(h:Xg Xt (cds t)=none):Yl (k::t)=none:=by
 rw[Yl,h]
theorem Sd{k:UInt8}{ns:List Int}(h:Wx k ns=true):
  (ns.length=2∨ns.length=3)∧(∀n∈ns, -100≤n∧n≤100)∧
  (((k = 114 ∨ k = 102) ∧ ∃ p q, ns = [p, q] ∧ Wl p q = true) ∨ (k = 119 ∧ ∃ p q m, ns = [p, q, m] ∧ Wl p q = true ∧ Xw m 0 3 = true) ∨
   ((k=97∨k=100)∧∃p q,ns=[p,q]∧1≤q∧q≤100∧0≤p∧p≤q)):=by
 unfold Wx at h;split at h
 ·rename_i hk;simp only[Bool.and_eq_true,decide_eq_true_eq] at h;obtain⟨h1,h2⟩:=h;match ns,h1 with
  |[p,q],_=>
   simp only[List.getD_cons_zero,List.getD_cons_succ] at h2;obtain⟨b1,b2, -⟩:=Zyx h2;exact⟨.inl rfl,fun n hn=>by rcases List.mem_cons.1 hn with rfl|hn;exact b1;rw[List.mem_singleton.1 hn];exact b2, .inl ⟨hk,p,q,rfl,h2⟩⟩
 ·split at h
  ·rename_i hk;simp only[Bool.and_eq_true,decide_eq_true_eq] at h;obtain⟨⟨h1,h2⟩,h3⟩:=h;match ns,h1 with
   |[p,q,m],_=>
    simp only[List.getD_cons_zero,List.getD_cons_succ] at h2 h3;obtain⟨b1,b2, -⟩:=Zyx h2;have b3:=Wj h3;exact⟨.inr rfl,fun n hn=>by
     rcases List.mem_cons.1 hn with rfl|hn
     ·exact b1
     rcases List.mem_cons.1 hn with rfl|hn
     ·exact b2
     ·rw[List.mem_singleton.1 hn];omega, .inr (.inl ⟨hk,p,q,m,rfl,h2,h3⟩)⟩
  ·split at h
   ·rename_i hk;simp only[Bool.and_eq_true,decide_eq_true_eq] at h;obtain⟨h1,h2,h3⟩:=h;match ns,h1 with
    |[p,q],_=>
     simp only[List.getD_cons_zero,List.getD_cons_succ] at h2 h3;have b2:=Wj h2;have b3:=Wj h3;exact⟨.inl rfl,fun n hn=>by
      rcases List.mem_cons.1 hn with rfl|hn
      ·omega
      ·rw[List.mem_singleton.1 hn];omega, .inr (.inr ⟨hk,p,q,rfl,by omega,by omega,by omega,by omega⟩)⟩
   ·cases h
theorem Ox{k:UInt8}{t x:Ub}(hx:x∈cds t)(h:∀m,Xt x=some m→4<x.length):Yl (k::t)=none:=by
 cases hn:Xg Xt (cds t) with
 |none=>exact Qo hn
 |some ns=>
  rw[Xv hn];split
  ·rename_i hv;obtain⟨-,hb, -⟩:=Sd hv;obtain⟨n,hn1,hn2⟩:=Mh hn x hx;have h1:=h n hn2;have h2:=Vl (hb n hn1).1 (hb n hn1).2;rw[(Rs hn2).2] at h2;omega
  ·rfl
theorem Zzs{l:Ub}(h:l.length<2):Yl l=none:=by
 match l,h with
 |[],_=>rfl
 |[k],_=>exact Qo (Qp (a:=[]) Zkl (by simp[cds]))
def tot(ws:List Ub):Nat:=(ws.map fun x=>x.length+1).sum
theorem Zpd{m:Nat}:∀{ws:List Ub},(∀x∈ws,x.length≤m)→tot ws≤ws.length*(m+1)
 |[],_=>by simp[tot]
 |x::ws,h=>by
  have h1:=h x (by simp)
  have h2:=Zpd (m:=m) (ws:=ws) fun y hy=>h y (by simp[hy])
  simp only[tot,List.map_cons,List.sum_cons,List.length_cons] at h2 ⊢
  rw[Nat.succ_mul]
  omega
theorem Dd:∀l:Ub,tot (wds l)=l.length+1
 |[]=>by simp[wds,tot]
 |b::t=>by
  have ih:=Dd t
  by_cases hb:b=32
  ·subst hb
   rw[Tz]
   simp only[tot,List.map_cons,List.sum_cons,List.length_cons,List.length_nil] at ih ⊢
   omega
  ·rw[To hb]
   cases hw:wds t with
   |nil=>exact absurd hw (Tc t)
   |cons x r=>
    rw[hw] at ih
    simp only[pre,tot,List.headD_cons,List.tail_cons,List.map_cons,List.sum_cons,List.length_cons,List.length_append,List.length_nil] at ih ⊢
    omega
theorem Zwx:∀l:Ub,tot (cds l)=l.length+1
 |[]=>by simp[cds,tot]
 |b::t=>by
  have ih:=Zwx t
  by_cases hb:b=58
  ·subst hb
   rw[On]
   simp only[tot,List.map_cons,List.sum_cons,List.length_cons,List.length_nil] at ih ⊢
   omega
  ·rw[Om hb]
   cases hw:cds t with
   |nil=>exact absurd hw (Jv t)
   |cons x r=>
    rw[hw] at ih
    simp only[pre,tot,List.headD_cons,List.tail_cons,List.map_cons,List.sum_cons,List.length_cons,List.length_append,List.length_nil] at ih ⊢
    omega
theorem Ztm{l:Ub}{p:UInt8×List Int}(h:Yl l=some p):l.length≤15:=by
 obtain⟨k,ns⟩:=p;obtain⟨t,rfl,hn,hv⟩:=Jt h;obtain⟨hl,hb, -⟩:=Sd hv;have h1:tot (cds t)≤(cds t).length*(4+1):=Zpd fun x hx=>by
  obtain⟨n,hn1,hn2⟩:=Mh hn x hx;have h2:=Vl (hb n hn1).1 (hb n hn1).2;rw[(Rs hn2).2] at h2;exact h2
 rw[Zwx] at h1;have h2:=Wd hn;have h3:(cds t).length≤3:=by omega
 have h4:(cds t).length*(4+1)≤3*(4+1):=Nat.mul_le_mul_right _ h3;simp only[List.length_cons];omega
theorem Tb{l:Ub}{ps:List (UInt8×List Int)}(h:Ys l=some ps)(hne:l≠[]):Xg Yl (wds l)=some ps∧ps.length≤12:=by
 unfold Ys at h;rw[if_neg hne] at h;split at h
 ·rename_i qs hq;split at h
  ·injection h with h;subst h;exact⟨hq,by assumption⟩
  ·cases h
 ·cases h
theorem Li{l:Ub}{ps:List (UInt8×List Int)}(hne:l≠[])(h:Xg Yl (wds l)=some ps):Ys l=if ps.length≤12 then some ps else none:=by
 unfold Ys;rw[if_neg hne,h]
theorem Zpc{l:Ub}(hne:l≠[])(h:Xg Yl (wds l)=none):Ys l=none:=by
 unfold Ys;rw[if_neg hne,h]
theorem El:Ys []=some []:=rfl
theorem Ztl{l:Ub}{ps:List (UInt8×List Int)}(h:Ys l=some ps):l.length≤300:=by
 by_cases hne:l=[]
 ·subst hne;simp
 ·obtain⟨h1,h2⟩:=Tb h hne;have h3:tot (wds l)≤(wds l).length*(15+1):=Zpd fun x hx=>by
   obtain⟨p, -,hp⟩:=Mh h1 x hx;exact Ztm hp
  rw[Dd,←Wd h1] at h3;have h4:ps.length*(15+1)≤12*(15+1):=Nat.mul_le_mul_right _ h2;omega
theorem Zww{l:Ub}(hne:l≠[])(h:12<(wds l).length):Ys l=none:=by
 cases hb:Ys l with
 |none=>rfl
 |some ps=>
  obtain⟨h1,h2⟩:=Tb hb hne;rw[Wd h1] at h2;omega
theorem Ek{l x:Ub}(hne:l≠[])(hx:x∈wds l)(h:Yl x=none):Ys l=none:=Zpc hne (Qp h hx)
end
section
open Go.RowKit

theorem Own.box{w:World}{lo:Nat}{e:TypeId}{sz:Nat}{A:Option Addr}{n cap:Nat}{cs:List Value}(h:Own w lo e sz (.slice A n cap) n cs)(hn:0<n):
  ∃g cur,A=some ⟨g,0,none⟩∧lo≤g∧Box w g e cur∧∀k,k<n*sz→cur[k]? =cs[k]? :=by
 have h':=h;rcases h.2 with⟨hv,_⟩|⟨g,cap',cur,hv,hg,hh,hr⟩
 ·injection hv with e1 e2 e3;omega
 ·injection hv with e1 e2 e3;subst e1 e3;refine⟨g,cur,rfl,hg,hh,fun k hk=>?_⟩;rw[←Box.cell (show Box w g e cur from hh) k];exact World.ownsRow.cellAt h' k hk
def BoxW(w:World)(g:Nat)(ls:List Ub):Prop:=∃cur,Box w g 9 cur∧∀k (hk:k<ls.length),cur[k]? =some (.string (Bs ls[k]))
def Zhf(w:World)(ls:List Ub):Ending→World→Prop:=fun e w'=>
 ∃g cap cur,e= .returned (.slice (some ⟨g,0,none⟩) ls.length cap)∧w.heap.size≤g∧Box w' g 9 cur∧Hid (∀k (hk:k<ls.length),cur[k]? =some (.string (Bs ls[k])))∧Ex w w'
theorem Zde(l:Ub)(hl:l.length≤1048576)(w:World)(hm:Wn w):Calls prog 24 #[(Bs l), .string ⟨#[32]⟩] w (Zhf w (wds l)):=by
 obtain⟨m,hm⟩:=hm.max;refine(Tryz.strings_Split (Bs l) ⟨#[32]⟩ m w (by rw[Yu];omega) hm (by decide)).mono ?_;rintro e w' ⟨rfl,rfl⟩;rw[Fb _ l rfl];refine⟨w.heap.size,Lib.countB (Bs l) ⟨#[32]⟩+1,_,by rw[Fa],Nat.le_refl _,Box.new w _ 9,Zz fun k hk=>?_,(Ex.refl _).alloc _⟩;have hk0:=hk;rw[Fa] at hk;simp[Lib.cellsOf,hk];exact⟨_,List.getElem?_eq_getElem hk0,rfl⟩
theorem Db(l:Ub)(hl:l.length≤1048576)(w:World)(hm:Wn w):Calls prog 24 #[(Bs l), .string ⟨#[58]⟩] w (Zhf w (cds l)):=by
 obtain⟨m,hm⟩:=hm.max;refine(Tryz.strings_Split (Bs l) ⟨#[58]⟩ m w (by rw[Yu];omega) hm (by decide)).mono ?_;rintro e w' ⟨rfl,rfl⟩;rw[Zyz _ l rfl];refine⟨w.heap.size,Lib.countB (Bs l) ⟨#[58]⟩+1,_,by rw[Zyy],Nat.le_refl _,Box.new w _ 9,Zz fun k hk=>?_,(Ex.refl _).alloc _⟩;have hk0:=hk;rw[Zyy] at hk;simp[Lib.cellsOf,hk];exact⟨_,List.getElem?_eq_getElem hk0,rfl⟩
theorem Ztf{w:World}{ls:List Ub}(hne:ls≠[]){f:FuncId}{args:Av}(h:Calls prog f args w (Zbd w ls)):Calls prog f args w (Zhf w ls):=by
 refine h.mono ?_;rintro e w' ⟨A,cap,rfl,ho,hx⟩;have hp:0<ls.length:=List.length_pos_iff.2 hne;obtain⟨g,cur,rfl,hg,hb,hc⟩:=Own.box ho hp;refine⟨g,cap,cur,rfl,hg,hb,Zz fun k hk=>?_,hx⟩;rw[hc k (by omega)];simp[Wh,hk]
theorem Zhe(l:Ub)(hl:l.length≤1048576)(w:World):Calls prog 151 #[(Bs l), .int .u8 32] w (Zhf w (wds l)):=Ztf (Tc l) (Zkg l hl w)
theorem Zmc(l:Ub)(hl:l.length≤1048576)(w:World):Calls prog 151 #[(Bs l), .int .u8 58] w (Zhf w (cds l)):=Ztf (Jv l) (Zoy l hl w)
structure Pc where
 k:UInt8
 g:Nat
 cap:Nat
 cur:Av
 ns:List Int
 S:ByteArray
def Pc.ok(w:World)(q:Pc):Prop:=Box w q.g 3 q.cur∧∀j,j<q.ns.length→q.cur[j]? =some (.int .i64 (q.ns.getD j 0))
def Pc.p(q:Pc):UInt8×List Int:=(q.k,q.ns)
def Pc.ci(q:Pc):List Value:=[.int .u8 q.k.toNat, .slice (some ⟨q.g,0,none⟩) q.ns.length q.cap, .string q.S]
def Pc.cs(q:Pc):List Value:=[.int .u8 q.k.toNat, .slice (some ⟨q.g,0,none⟩) q.ns.length q.cap]
theorem Pc.ok.ex{w w':World}{q:Pc}(h:q.ok w)(he:Ex w w'):q.ok w':=⟨h.1.ex he,h.2⟩
def Pcs(w:World)(qs:List Pc):Prop:=∀q∈qs,q.ok w
theorem Pcs.ex{w w':World}{qs:List Pc}(h:Pcs w qs)(he:Ex w w'):Pcs w' qs:=fun q hq=>(h q hq).ex he
theorem Pcs.keeps{w w':World}{qs:List Pc}{lo:Nat}{e:TypeId}(h:Pcs w qs)(hk:Qg lo e w w')(hne:e≠3):Pcs w' qs:=fun q hq=>⟨hk.box _ _ _ (h q hq).1 hne,(h q hq).2⟩
theorem Pcs.snoc{w:World}{qs:List Pc}{q:Pc}(h:Pcs w qs)(hq:q.ok w):Pcs w (qs++[q]):=fun x hx=>by
 rcases List.mem_append.1 hx with hx|hx
 ·exact h x hx
 ·rw[List.mem_singleton.1 hx];exact hq
theorem Pcs.nil(w:World):Pcs w []:=fun q hq=>by cases hq
def Xp(qs:List Pc):List Value:=qs.flatMap Pc.ci
def Vr(qs:List Pc):List Value:=qs.flatMap Pc.cs
theorem Ei(qs:List Pc)(q:Pc):Xp (qs++[q])=Xp qs++q.ci:=by simp[Xp]
theorem Zte(qs:List Pc)(q:Pc):Vr (qs++[q])=Vr qs++q.cs:=by simp[Vr]
theorem Ws(qs:List Pc):(Xp qs).length=3*qs.length:=by
 induction qs with
 |nil=>rfl
 |cons q t ih=>simp only[Xp,List.flatMap_cons,List.length_append,Pc.ci,List.length_cons,List.length_nil] at ih ⊢;omega
theorem Vb(qs:List Pc):(Vr qs).length=2*qs.length:=by
 induction qs with
 |nil=>rfl
 |cons q t ih=>simp only[Vr,List.flatMap_cons,List.length_append,Pc.cs,List.length_cons,List.length_nil] at ih ⊢;omega
theorem Ol:∀(qs:List Pc) (k:Nat) (hk:k<qs.length),(Xp qs)[3*k]? =some (.int .u8 qs[k].k.toNat)∧(Xp qs)[3*k+1]? =some (.slice (some ⟨qs[k].g,0,none⟩) qs[k].ns.length qs[k].cap)∧(Xp qs)[3*k+2]? =some (.string qs[k].S)
 |[],k,hk=>by simp at hk
 |q::t,0,hk=>by simp[Xp,Pc.ci]
 |q::t,k+1,hk=>by
  have ih:=Ol t k (by simpa using hk)
  rw[show 3*(k+1)=3*k+3 by omega,show 3*k+3+1=3*k+1+3 by omega,show 3*k+3+2=3*k+2+3 by omega]
  simpa [Xp,Pc.ci] using ih
theorem Mf:∀(qs:List Pc) (k:Nat) (hk:k<qs.length),(Vr qs)[2*k]? =some (.int .u8 qs[k].k.toNat)∧(Vr qs)[2*k+1]? =some (.slice (some ⟨qs[k].g,0,none⟩) qs[k].ns.length qs[k].cap)
 |[],k,hk=>by simp at hk
 |q::t,0,hk=>by simp[Vr,Pc.cs]
 |q::t,k+1,hk=>by
  have ih:=Mf t k (by simpa using hk)
  rw[show 2*(k+1)=2*k+2 by omega,show 2*k+2+1=2*k+1+2 by omega]
  simpa [Vr,Pc.cs] using ih
def Ey(w:World)(l:Ub):Ending→World→Prop:=fun e w'=>
 (∃q:Pc,Yl l=some q.p∧e= .returned (.tuple #[.agg q.ci.toArray,true])∧Hid (q.S=Bs l)∧q.ok w'∧Ex w w')∨
 (∃(k:Int) (A:Option Addr) (n cap:Nat) (S:ByteArray),Yl l=none∧e= .returned (.tuple #[.agg #[.int .u8 k, .slice A n cap,S],false])∧Ex w w')
def Ho(w:World)(l:Ub):Ending→World→Prop:=fun e w'=>
 (∃q:Pc,Yl l=some q.p∧e= .returned (.tuple #[.agg q.cs.toArray,true])∧q.ok w'∧Ex w w')∨
 (∃(k:Int) (A:Option Addr) (n cap:Nat),Yl l=none∧e= .returned (.tuple #[.agg #[.int .u8 k, .slice A n cap],false])∧Ex w w')
def Zbt(cells:List Pc→List Value)(w:World)(l:Ub):Ending→World→Prop:=fun e w'=>
 (∃(qs:List Pc) (A:Option Addr) (cap:Nat),Ys l=some (qs.map Pc.p)∧e= .returned (.tuple #[.slice A qs.length cap,true])∧Slc w' A (cells qs)∧Pcs w' qs∧Ex w w')∨
 (∃(A:Option Addr) (n cap:Nat),Ys l=none∧e= .returned (.tuple #[.slice A n cap,false])∧Ex w w')
end
section
open Go.RowKit

theorem Zhd{l:Ub}(hl:l.length≤1048576){v:Int}(h:Lib.atoiAll l= .ok v)(w:World):Calls prog 133 #[(Bs l)] w fun e w'=>e= .returned (.tuple #[v, .nilIface])∧Ex w w':=by
 refine(Tryz.strconv_Atoi_ok (Bs l) (by rw[Yu];omega) v h w).mono ?_;rintro e w' ⟨rfl,hw⟩;refine⟨rfl,?_⟩;rcases hw with rfl|⟨t,rfl⟩
 ·exact Ex.refl _
 ·exact Lib.bytesWorld_below _ _ _
theorem Zhc{l:Ub}(hl:l.length≤1048576)(h:∀v,Lib.atoiAll l≠ .ok v)(w:World)(hm:Wn w):Calls prog 133 #[(Bs l)] w fun e w'=>
  ∃(v:Int) (N:Nat),e= .returned (.tuple #[v, .iface 249 (.pointer (some ⟨N,0,none⟩))])∧Ex w w':=by
 rcases hc:Lib.atoiAll l with v|_|_
 ·exact absurd hc (h v)
 ·
  obtain⟨t,p,hp⟩:=hm.syn;refine(Tryz.strconv_Atoi_syntax (Bs l) (by rw[Yu];omega) hc _ w hp (.inr ⟨t,p,rfl⟩)).mono ?_;rintro e w' ⟨N,rfl, -, -,hb⟩;exact⟨0,N,rfl,hb⟩
 ·
  obtain⟨t,p,hp⟩:=hm.rng;refine(Tryz.strconv_Atoi_range (Bs l) (by rw[Yu];omega) hc _ w hp (.inr ⟨t,p,rfl⟩)).mono ?_;rintro e w' ⟨N,rfl, -, -,hb⟩;exact⟨_,N,rfl,hb⟩
theorem Zkf{l:Ub}(h:∀v,Lib.atoiAll l≠ .ok v):Xt l=none:=by
 cases hn:Xt l with
 |none=>rfl
 |some n=>exact absurd (Rs hn).1 (h n)
def NumG(w:World)(l:Ub):Ending→World→Prop:=fun e w'=>∃(n:Int) (ok:Bool),e= .returned (.tuple #[n,ok])∧Ex w w'∧Xt l=if ok then some n else none
theorem It(l:Ub)(hl:l.length≤1048576)(w:World)(hm:Wn w):Calls prog 210 #[(Bs l)] w (NumG w l):=by
 by_cases h:∃v,Lib.atoiAll l= .ok v
 ·obtain⟨v,h⟩:=h;have hb:=Lib.atoiAll_bounds h;have ka:=fun w=>Zhd hl h w
  have ki:=fun w ht=>Oh v hb.1 hb.2 w ht
  have hT:=Zz hm.tab;by_cases he:Lib.itoa v=l
  ·have hn:Xt l=some v:=by rw[Bu h,if_pos he]
   rw[he] at ki;generalize Bs l=S at ka ki ⊢;have KA:=Zz ka;have KI:=Zz ki;have HN:=Zz hn;clear ka ki hn he h hb hm;go_in;go_wp2_with fail;refine Yw (KA.out _) fun w1 hx=>?_
   go_wp2_with fail;refine Yw (KI.out _ (hT.out.ex hx)) fun w2 hx2=>?_
   go_wp2;refine Zu (v:= .tuple #[v,true]) ?_ rfl ⟨v,true,rfl,hx.trans hx2,HN.out⟩;simp[results,results210,go_sem]
  ·have hn:Xt l=none:=by rw[Bu h,if_neg he]
   have hne:¬Bs (Lib.itoa v)=Bs l:=Ih he;have hne2:=Ta hne;generalize Bs l=S at ka hne2 ⊢;generalize Bs (Lib.itoa v)=T at ki hne2;have KA:=Zz ka;have KI:=Zz ki;have HN:=Zz hn;clear ka ki hn he h hb hm hne;go_in;go_wp2_with fail;refine Yw (KA.out _) fun w1 hx=>?_
   go_wp2_with fail;refine Yw (KI.out _ (hT.out.ex hx)) fun w2 hx2=>?_
   go_wp2;refine Zu (v:= .tuple #[v,false]) ?_ rfl ⟨v,false,rfl,hx.trans hx2,HN.out⟩;simp[results,results210,go_sem]
 ·have h2:∀v,Lib.atoiAll l≠ .ok v:=fun v e=>h ⟨v,e⟩
  have ka:=fun w hm=>Zhc hl h2 w hm
  have hn:=Zkf h2;generalize Bs l=S at ka ⊢;have KA:=Zz ka;have HN:=Zz hn;have HM:=Zz hm;clear ka hn h h2 hm;go_in;go_wp2_with fail;refine(KA.out _ HM.out).mono ?_;rintro e w1 ⟨v,N,rfl,hx⟩;go_wp2;refine Zu (v:= .tuple #[v,false]) ?_ rfl ⟨v,false,rfl,hx,HN.out⟩;simp[results,results210,go_sem]
def NumS(w:World)(l:Ub):Ending→World→Prop:=fun e w'=>∃(n:Int) (ok:Bool),e= .returned (.tuple #[n,ok])∧Ex w w'∧if ok then Xt l=some n else ∀m,Xt l=some m→4<l.length
theorem Zox{l:Ub}{k:Nat}(hk:k<l.length)(h:k=0→l[k]≠45):Xl (l.take (k+1))=Xl (l.take k)++[l[k]]:=by
 rw[Xf hk];refine Zpf fun he=>h ?_
 rcases Nat.eq_zero_or_pos k with h0|h0
 ·exact h0
 ·have:=congrArg List.length he
  rw[List.length_take,List.length_nil] at this;omega
def Bm(l:Ub)(k:Nat)(n:Nat)(s:Int):Prop:=n=(Xl (l.take k)).foldl Vu 0∧n<10 ^ k∧s=(if 0<k then sg l else 1)∧∀j (hj:j<l.length),j<k→Zwy j l[j]=true
theorem Zke(l:Ub):Bm l 0 0 1:=⟨by simp[Xl],by decide,by simp,fun j _ h=>by omega⟩
theorem Zow{l:Ub}(hk:0<l.length)(h:l[0]=45){n:Nat}{s:Int}(hi:Bm l 0 n s):Bm l 1 n (-1):=by
 obtain⟨h1,h2,h3,h4⟩:=hi;cases l with
 |nil=>simp at hk
 |cons c t=>
  have hc:c=45:=h;subst hc;refine⟨by rw[h1];simp[Xl],by omega,by simp[sg],fun j hj hj1=>?_⟩;have:j=0:=by omega
  subst this;simp[Zwy]
theorem Zov{l:Ub}{k:Nat}(hk:k<l.length)(h1:48≤l[k].toNat)(h2:l[k].toNat≤57){n:Nat}{s:Int}(hi:Bm l k n s):Bm l (k+1) (10*n+(l[k].toNat-48)) s:=by
 obtain⟨e1,e2,e3,e4⟩:=hi;have hne:l[k]≠45:=fun e=>by rw[e] at h1;exact absurd h1 (by decide)
 refine⟨?_,?_,?_,fun j hj hj1=>?_⟩
 ·rw[Zox hk fun _=>hne,List.foldl_append,←e1];rfl
 ·rw[Nat.pow_succ];omega
 ·rw[e3,if_pos (by omega:0<k+1)];rcases Nat.eq_zero_or_pos k with h0|h0
  ·subst h0;rw[if_neg (by omega)];unfold sg;cases l with
   |nil=>simp at hk
   |cons c t=>
    have:c≠45:=hne
    simp[this]
  ·rw[if_pos h0]
 ·by_cases hjk:j=k
  ·subst hjk;simp[Zwy,Wz,h1,h2]
  ·exact e4 j hj (by omega)
theorem Zhb{l:Ub}{k:Nat}(hk:k<l.length)(h:Zwy k l[k]=false):∀m,Xt l=some m→4<l.length:=by
 intro m hm;have e:=(Rs hm).2;have hs:l=l.take k++l[k]::l.drop (k+1):=by
  conv=>lhs;rw[←List.take_append_drop k l,List.drop_eq_getElem_cons hk]
 rw[Bt (e.trans hs) (by rw[List.length_take];omega)] at h;cases h
theorem Zha{l:Ub}{n:Nat}{s:Int}(hp:0<l.length)(hi:Bm l l.length n s):∀m,Xt l=some m→m=s*n:=by
 intro m hm;obtain⟨e1, -,e3, -⟩:=hi;rw[List.take_length] at e1;rw[if_pos hp] at e3;have:=Zpe (n:=m)
 rw[(Rs hm).2,←e1,←e3] at this;exact this.symm
theorem Ov(l:Ub)(hl:l.length≤1048576)(w:World):Calls prog 226 #[(Bs l)] w (NumS w l):=by
 obtain⟨S,HS⟩:=nm (Bs l);rw[←HS.out];have hsz:S.size=l.length:=by rw[HS.out];rfl
 have ki:=fun w=>Tf (S.size:Int) 1 4 w
 by_cases hr:1≤l.length∧l.length≤4
 ·have e:Xw (S.size:Int) 1 4=true:=by rw[hsz];simp[Xw];omega
  rw[e] at ki;have KI:=Zz ki;have HZ:=Zz hsz;clear ki e hsz;go_in;go_wp2_with ((with_reducible refine(KI.out _).mono ?_);rintro e wn ⟨rfl,rfl⟩);go_loopw [6,4,5] (fun i n s wr=>∃(k m:Nat) (sn:Int),i= .int .i64 k∧n= .int .i64 m∧s= .int .i64 sn∧k≤l.length∧Hid (Bm l k m sn)∧Hid (Ex wn wr)) (fun i _ _ _=>6-(intOf i).toNat)
  case atStart=>exact⟨0,0,1,rfl,rfl,rfl,by omega,Zz (Zke l),Zz (Ex.refl _)⟩
  case round=>
   obtain⟨k,m,sn,rfl,rfl,rfl,hk,HI,HE⟩:=hrel;by_cases hlt:k<l.length
   ·obtain⟨hs,hc⟩:=Rq HS.out hlt;have hkI:(k:Int)<(S.size:Int):=by rw[HZ.out];omega
    have hm:m<10 ^ 4:=Nat.lt_of_lt_of_le HI.out.2.1 (Nat.pow_le_pow_right (by omega) (by omega));have hm2:m<10000:=hm;clear hm;have hw5:=wr1 k (by omega);have HND:Hid (48≤l[k].toNat→l[k].toNat≤57→Bm l (k+1) (10*m+(l[k].toNat-48)) sn):=Zz fun a b=>Zov hlt a b HI.out
    have HBD0:=Zz (Zhb hlt);by_cases hk0:k=0
    ·subst hk0;have HNM:Hid (l[0]=45→Bm l 1 m (-1)):=Zz fun h=>Zow hlt h HI.out
     generalize l[0]=c at hc HND HBD0 HNM;by_cases h45:c=45
     ·have b0:(c.toNat:Int)=45:=by rw[h45];rfl
      have HN:=Zz (HNM.out h45);clear HNM HND HBD0 h45;go_wp2;go_roundw
      case rel=>exact⟨1,m, -1,by go_num,rfl,rfl,by omega,HN,HE⟩
      case measure=>simp[intOf]
     ·have b0:¬(c.toNat:Int)=45:=fun e=>h45 (UInt8.toNat_inj.1 (by show c.toNat=45;omega))
      have b0b:((c.toNat:Int)==45)=false:=by simpa using b0
      have HBD:Hid (Wz c=false→∀m,Xt l=some m→4<l.length):=Zz fun h=>HBD0.out (by simp[Zwy,h,h45])
      clear HNM HBD0 h45;by_cases hd:48≤c.toNat∧c.toNat≤57
      ·have HN:Hid (Bm l (0+1) (10*m+(c.toNat-48)) sn):=Zz (HND.out hd.1 hd.2);have b1:(48:Int)≤(c.toNat:Int):=by omega
       have b2:(c.toNat:Int)≤57:=by omega
       have w1:IntKind.i64.wrap (10*(m:Int))=10*(m:Int):=Zt _ (by omega);have w2:IntKind.u8.wrap ((c.toNat:Int)-48)=(c.toNat:Int)-48:=by
        show((c.toNat:Int)-48) % 256=_;omega
       have w3:IntKind.i64.wrap ((c.toNat:Int)-48)=(c.toNat:Int)-48:=Zt _ (by omega);have w4:IntKind.i64.wrap (10*(m:Int)+((c.toNat:Int)-48))=10*(m:Int)+((c.toNat:Int)-48):=Zt _ (by omega);clear HND;go_wp2;go_roundw
       case rel=>exact⟨0+1,10*m+(c.toNat-48),sn,by go_num,by go_num,rfl,by omega,HN,HE⟩
       case measure=>simp[intOf]<;>omega
      ·have HB:Hid (∀m,Xt l=some m→4<l.length):=Zz (HBD.out (by simp only[Wz,decide_eq_false_iff_not];exact hd));by_cases hd1:48≤c.toNat
       ·have b1:(48:Int)≤(c.toNat:Int):=by omega
        have b2:¬(c.toNat:Int)≤57:=by omega
        clear hd hd1 HND HBD;go_wp2;refine Zu (v:= .tuple #[oo,false]) ?_ rfl ⟨0,false,rfl,HE.out,HB.out⟩;simp[results,results226,go_sem]
       ·have b1:¬(48:Int)≤(c.toNat:Int):=by omega
        clear hd hd1 HND HBD;go_wp2;refine Zu (v:= .tuple #[oo,false]) ?_ rfl ⟨0,false,rfl,HE.out,HB.out⟩;simp[results,results226,go_sem]
    ·have hk0b:((k:Int)==0)=false:=by simp;omega
     have HBD1:Hid (Wz l[k]=false→∀m,Xt l=some m→4<l.length):=Zz fun h=>HBD0.out (by simp[Zwy,h,hk0])
     clear HBD0
     rename Hid (Wz l[k]=false→∀m,Xt l=some m→4<l.length)=>HBD
     generalize l[k]=c at hc HND HBD;by_cases hd:48≤c.toNat∧c.toNat≤57
     ·have HN:Hid (Bm l (k+1) (10*m+(c.toNat-48)) sn):=Zz (HND.out hd.1 hd.2);have b1:(48:Int)≤(c.toNat:Int):=by omega
      have b2:(c.toNat:Int)≤57:=by omega
      have w1:IntKind.i64.wrap (10*(m:Int))=10*(m:Int):=Zt _ (by omega);have w2:IntKind.u8.wrap ((c.toNat:Int)-48)=(c.toNat:Int)-48:=by
       show((c.toNat:Int)-48) % 256=_;omega
      have w3:IntKind.i64.wrap ((c.toNat:Int)-48)=(c.toNat:Int)-48:=Zt _ (by omega);have w4:IntKind.i64.wrap (10*(m:Int)+((c.toNat:Int)-48))=10*(m:Int)+((c.toNat:Int)-48):=Zt _ (by omega);clear HND;go_wp2;go_roundw
      case rel=>exact⟨k+1,10*m+(c.toNat-48),sn,by go_num,by go_num,rfl,by omega,HN,HE⟩
      case measure=>simp[intOf]<;>omega
     ·have HB:Hid (∀m,Xt l=some m→4<l.length):=Zz (HBD.out (by simp only[Wz,decide_eq_false_iff_not];exact hd));by_cases hd1:48≤c.toNat
      ·have b1:(48:Int)≤(c.toNat:Int):=by omega
       have b2:¬(c.toNat:Int)≤57:=by omega
       clear hd hd1 HND HBD;go_wp2;refine Zu (v:= .tuple #[oo,false]) ?_ rfl ⟨0,false,rfl,HE.out,HB.out⟩;simp[results,results226,go_sem]
      ·have b1:¬(48:Int)≤(c.toNat:Int):=by omega
       clear hd hd1 HND HBD;go_wp2;refine Zu (v:= .tuple #[oo,false]) ?_ rfl ⟨0,false,rfl,HE.out,HB.out⟩;simp[results,results226,go_sem]
   ·obtain rfl:k=l.length:=by omega
    have hkI:¬(l.length:Int)<(S.size:Int):=by rw[HZ.out];omega
    have hm:m<10 ^ 4:=Nat.lt_of_lt_of_le HI.out.2.1 (Nat.pow_le_pow_right (by omega) hr.2);have hsn:sn=1∨sn= -1:=by
     rw[HI.out.2.2.1];unfold sg;split
     ·split
      ·exact .inr rfl
      ·exact .inl rfl
     ·exact .inl rfl
    have hb: -10000≤sn*(m:Int)∧sn*(m:Int)≤10000:=by rcases hsn with rfl|rfl<;>omega
    have HE2:=Zz (Zha (by omega) HI.out);clear HI hsn hm;have hwn:IntKind.i64.wrap (sn*(m:Int))=sn*(m:Int):=Zt _ (by omega);obtain⟨n,hn⟩:∃n,sn*(m:Int)=n:=⟨_,rfl⟩
    rw[hn] at hb HE2;conv at hwn=>rhs;rw[hn]
    clear hn;have kd:=fun w=>Uo n (by omega) (by omega) w
    by_cases he:Lib.itoa n=l
    ·have HN:Hid (Xt l=some n):=Zz (by rw[←he];exact Zpg (by omega) (by omega));rw[he,←HS.out] at kd;have KD:=Zz kd;clear kd he hb HE2;go_wp2_with fail;refine Yw (KD.out _) fun w2 hx=>?_
     go_wp2;refine Zu (v:= .tuple #[n,true]) ?_ rfl ⟨n,true,rfl,HE.out.trans hx,HN.out⟩;simp[results,results226,go_sem]
    ·have HN:Hid (∀m,Xt l=some m→4<l.length):=Zz fun m hm=>absurd (by rw[HE2.out m hm] at hm;exact(Rs hm).2) he
     have hne2:=Ta (Ih he);rw[←HS.out] at hne2;generalize Bs (Lib.itoa n)=T at kd hne2;have KD:=Zz kd;clear kd he hb HE2;go_wp2_with fail;refine Yw (KD.out _) fun w2 hx=>?_
     go_wp2;refine Zu (v:= .tuple #[n,false]) ?_ rfl ⟨n,false,rfl,HE.out.trans hx,HN.out⟩;simp[results,results226,go_sem]
 ·have e:Xw (S.size:Int) 1 4=false:=by
   rw[hsz];simp only[Xw,Bool.and_eq_false_iff,decide_eq_false_iff_not];omega
  rw[e] at ki;have KI:=Zz ki;have HN:Hid (∀m,Xt l=some m→4<l.length):=Zz fun m hm=>by
   have h1:=Zhh m;rw[(Rs hm).2] at h1;omega
  clear ki e hsz hr;go_in;go_wp2_with ((with_reducible refine(KI.out _).mono ?_);rintro e wn ⟨rfl,rfl⟩);refine Zu (v:= .tuple #[oo,false]) ?_ rfl ⟨0,false,rfl,Ex.refl _,HN.out⟩;simp[results,results226,go_sem]
end
section
open Go.RowKit

attribute [local go_sem] Zg Zf
theorem Zo.tail{W w:World}{x:Nat×TypeId×Av}{L:Xx}(h:Zo W w (x::L)):Zo W w L:=⟨h.ex,h.boxes.2⟩
section
variable {W w:World} {ga pb rb:Nat} {ti T:TypeId} {ca:Av} {b:Bool} {x y z o1 o2 o3:Value}
theorem Zo.ret3(hg:ga≠W.heap.size)(hp:pb≠W.heap.size)(h:Zo W w [(ga,ti,ca),(pb,T,#[x,y,z]),(W.heap.size,T,if b then #[x,y,z] else #[o1,o2,o3])]):
  Zo W (((w.setCell ⟨W.heap.size,0,none⟩ x).setCell ⟨W.heap.size,1,none⟩ y).setCell ⟨W.heap.size,2,none⟩ z) [(ga,ti,ca),(pb,T,#[x,y,z]),(W.heap.size,T,if (b||true) then #[x,y,z] else #[o1,o2,o3])]:=by
 obtain⟨he,b1,b2,b3, -⟩:=h;refine⟨((he.setCell (p:=⟨W.heap.size,0,none⟩) (Nat.le_refl _) x).setCell (p:=⟨W.heap.size,1,none⟩) (Nat.le_refl _) y).setCell (p:=⟨W.heap.size,2,none⟩) (Nat.le_refl _) z,((b1.far (p:=⟨W.heap.size,0,none⟩) hg x).far (p:=⟨W.heap.size,1,none⟩) hg y).far (p:=⟨W.heap.size,2,none⟩) hg z,((b2.far (p:=⟨W.heap.size,0,none⟩) hp x).far (p:=⟨W.heap.size,1,none⟩) hp y).far (p:=⟨W.heap.size,2,none⟩) hp z,?_,trivial⟩;have h3:=((b3.set_ 0 x).set_ 1 y).set_ 2 z;cases b<;>simpa using h3
theorem Zo.ret2(hg:ga≠W.heap.size)(hp:pb≠W.heap.size)(h:Zo W w [(ga,ti,ca),(pb,T,#[x,y]),(W.heap.size,T,if b then #[x,y] else #[o1,o2])]):
  Zo W ((w.setCell ⟨W.heap.size,0,none⟩ x).setCell ⟨W.heap.size,1,none⟩ y) [(ga,ti,ca),(pb,T,#[x,y]),(W.heap.size,T,if (b||true) then #[x,y] else #[o1,o2])]:=by
 obtain⟨he,b1,b2,b3, -⟩:=h;refine⟨(he.setCell (p:=⟨W.heap.size,0,none⟩) (Nat.le_refl _) x).setCell (p:=⟨W.heap.size,1,none⟩) (Nat.le_refl _) y,(b1.far (p:=⟨W.heap.size,0,none⟩) hg x).far (p:=⟨W.heap.size,1,none⟩) hg y,(b2.far (p:=⟨W.heap.size,0,none⟩) hp x).far (p:=⟨W.heap.size,1,none⟩) hp y,?_,trivial⟩;have h3:=(b3.set_ 0 x).set_ 1 y;cases b<;>simpa using h3
theorem Zo.ret2n(hp:pb≠W.heap.size)(h:Zo W w [(pb,T,#[x,y]),(W.heap.size,T,if b then #[x,y] else #[o1,o2])]):
  Zo W ((w.setCell ⟨W.heap.size,0,none⟩ x).setCell ⟨W.heap.size,1,none⟩ y) [(pb,T,#[x,y]),(W.heap.size,T,if (b||true) then #[x,y] else #[o1,o2])]:=by
 obtain⟨he,b2,b3, -⟩:=h;refine⟨(he.setCell (p:=⟨W.heap.size,0,none⟩) (Nat.le_refl _) x).setCell (p:=⟨W.heap.size,1,none⟩) (Nat.le_refl _) y,(b2.far (p:=⟨W.heap.size,0,none⟩) hp x).far (p:=⟨W.heap.size,1,none⟩) hp y,?_,trivial⟩;have h3:=(b3.set_ 0 x).set_ 1 y;cases b<;>simpa using h3
end
theorem Zgz(p q:Int):∃(c1 c2 c3 e1 e2 e3:Int) (tl:Bool),Rf p q= .tuple #[.agg #[c1,c2,c3], .agg #[e1,e2,e3],tl]:=by
 unfold Rf;split
 ·exact⟨_,_,_,_,_,_,_,rfl⟩
 ·exact⟨_,_,_,_,_,_,_,rfl⟩
theorem Zws(p q:Int):∃c1 c2 c3 e1 e2 e3:Int,Rf p q= .tuple #[.agg #[c1,c2,c3], .agg #[e1,e2,e3],Wl p q]:=by
 unfold Rf;split
 ·rename_i h;rw[h];exact⟨_,_,_,_,_,_,rfl⟩
 ·rename_i h;rw[Bool.not_eq_true] at h;rw[h];exact⟨_,_,_,_,_,_,rfl⟩
theorem Ig{k c:UInt8}(h:k≠c):((k.toNat:Int)==(c.toNat:Int))=false:=by
 rw[beq_eq_false_iff_ne];exact fun e=>h (UInt8.toNat_inj.1 (by omega))
theorem Ztd{α:Type}{l:List α}(h:l.length=2):∃a b,l=[a,b]:=by
 match l,h with
 |[a,b],_=>exact⟨a,b,rfl⟩
theorem Zbs{α:Type}{l:List α}(h:l.length=3):∃a b c,l=[a,b,c]:=by
 match l,h with
 |[a,b,c],_=>exact⟨a,b,c,rfl⟩
theorem Ou(k:UInt8)(t:Ub):(Bs (k::t)).extract 1 (Bs (k::t)).size=Bs t:=by rw[Oy];rfl
theorem Nb(t:Ub):(cds t).length≤t.length+1:=by
 rw[←Zwx t];unfold tot;generalize cds t=ws;induction ws with
 |nil=>simp
 |cons x ws ih=>simp only[List.map_cons,List.sum_cons,List.length_cons];omega
end
section
open Go.RowKit

attribute [local go_sem] Zg Zf
theorem If(c:UInt8)(hc:c=114∨c=102)(k:UInt8)(t:Ub)(hk114:k=c)(hl:(k::t).length≤1048576)(w:World)(hm:Wn w):Calls prog 149 #[(Bs (k::t))] w (Ey w (k::t)):=by
 obtain⟨C,hC⟩:∃C:Int,Hid (C=((c.toNat:Nat):Int)):=⟨_,Zz rfl⟩
 have q119:(C==119)=false:=by rw[hC.out];rcases hc with rfl|rfl<;>rfl
 have q97:(C==97)=false:=by rw[hC.out];rcases hc with rfl|rfl<;>rfl
 have q100:(C==100)=false:=by rw[hC.out];rcases hc with rfl|rfl<;>rfl
 rcases hc with rfl|rfl
 all_goals
  have q1:=congrArg (fun x:Int=>x==114) hC.out;have q2:=congrArg (fun x:Int=>x==102) hC.out;simp only[show(((114:UInt8).toNat:Nat):Int)=114 from rfl,show(((102:UInt8).toNat:Nat):Int)=102 from rfl,Int.reduceBEq] at q1 q2;have HK114:=Zz hk114;clear hk114;have hlt:t.length≤1048576:=by simp at hl;omega
  have hx1:=Ou k t;obtain⟨S,HS⟩:=nm (Bs (k::t));have hsz:S.size=t.length+1:=by rw[HS.out];rfl
  obtain⟨hs0,hk0⟩:∃hs:0<S.size,S[0]'hs=k:=by
   obtain⟨h1,h2⟩:=Rq HS.out (i:=0) (by simp);exact⟨h1,h2⟩
  rw[←HS.out] at hx1 ⊢;have hne:¬S=(⟨#[]⟩:ByteArray):=fun e=>by rw[e] at hs0;exact absurd hs0 (by decide)
  have hne2:S.toList.isEmpty=false:=by simpa using Ta hne
  clear hne;have ks:=fun w hm=>Db t hlt w hm
  have HW:Hid (∀x∈cds t,x.length≤1048576):=Zz fun x hx=>by
   have h1:=Sr t x hx;omega
  have HCL:Hid ((cds t).length≤1048576):=Zz (by have h1:=Nb t;simp only[List.length_cons] at hl;omega);generalize hT:Bs t=T at hx1 ks;have HM:=Zz hm;have KS:=Zz ks;have HX1:=Zz hx1;clear hm ks hT;obtain⟨hS,hC⟩:=s0 w;go_in;go_upto_region 5 with fail;have bR:=(Box.new w #[.int .u8 0, .slice none 0 0, .string ⟨#[]⟩] 169).alloc (.cells #[.int .u8 (k.toNat:Int), .slice none 0 0,S] 169);have bP:=Box.new (w.alloc (.cells #[.int .u8 0, .slice none 0 0, .string ⟨#[]⟩] 169)) #[.int .u8 (k.toNat:Int), .slice none 0 0,S] 169;rw[Zy] at bP;have hE1:Ex w ((w.alloc (.cells #[.int .u8 0, .slice none 0 0, .string ⟨#[]⟩] 169)).alloc (.cells #[.int .u8 (k.toNat:Int), .slice none 0 0,S] 169)):=((Ex.refl w).alloc _).alloc _;have hz1:((w.alloc (.cells #[.int .u8 0, .slice none 0 0, .string ⟨#[]⟩] 169)).alloc (.cells #[.int .u8 (k.toNat:Int), .slice none 0 0,S] 169)).heap.size=w.heap.size+2:=by simp only[Zy]
  generalize (w.alloc (.cells #[.int .u8 0, .slice none 0 0, .string ⟨#[]⟩] 169)).alloc (.cells #[.int .u8 (k.toNat:Int), .slice none 0 0,S] 169)=W1 at*;clear hC hS hk0;have hs1:(1:Int)≤(S.size:Int):=by omega
  clear hsz hl hlt;go_wp2_with fail;refine(KS.out _ (HM.out.ex hE1)).mono ?_;rintro e W2 ⟨g,gc,cur,rfl,hg,bG,HG,hx⟩;replace bR:=bR.ex hx;replace bP:=bP.ex hx;have hE2:=hE1.trans hx;have hz2:=hx.size;clear hx hE1 KS;go_wp2_with fail;have hO0:Un W2 (w.heap.size+2) none 0 []:=⟨by simp, .inl ⟨rfl,rfl⟩⟩
  go_loopw [25,6,7,8] (fun i f n o wr=>∃(j:Nat) (A:Option Addr) (cap:Nat) (ns:List Int),i= .int .i64 j∧j≤(cds t).length∧Hid (Xg Xt ((cds t).take j)=some ns)∧Box wr (w.heap.size+1) 169 #[.int .u8 (k.toNat:Int), .slice A ns.length cap,S]∧
    Box wr w.heap.size 169 #[.int .u8 0, .slice none 0 0, .string ⟨#[]⟩]∧Box wr g 9 cur∧Hid (Un wr (w.heap.size+2) A cap ns)∧Hid (Ex w wr)) (fun i _ _ _ _=>(cds t).length+1-(intOf i).toNat)
  case atStart=>exact⟨0,none,0,[],rfl,by omega,Zz rfl,bP,bR,bG,Zz hO0,Zz hE2⟩
  case round=>
   clear bP bR bG hO0 hE2 hz2;obtain⟨j,A,cap,ns,rfl,hj,HN,bP,bR,bG,HO,HE⟩:=hrel;have hnl:ns.length≤1048576:=by
    have h1:=Wd HN.out;have h2:=List.length_take_le j (cds t);have h3:=HCL.out;omega
   by_cases hlt:j<(cds t).length
   ·have hcell:=HG.out j hlt;have hmem:(cds t)[j]∈cds t:=List.getElem_mem hlt;have hxl:=HW.out _ hmem;have HMs:Hid (Xg Xt ((cds t).take (j+1))=Xg Xt ((cds t).take j++[(cds t)[j]])):=Zz (by rw[Xf hlt]);generalize (cds t)[j]=x at*;have kp:=fun w hm=>It x hxl w hm
    have hlI:(j:Int)<((cds t).length:Int):=by omega
    have hw5:=wr1 j (by have:=HCL.out;omega);obtain⟨X,HX⟩:=nm (Bs x);rw[←HX.out] at hcell kp;have KP:=Zz kp;have HMem:=Zz hmem;have cG:=bG.cell;have zG:=bG.lt;clear kp hmem hxl;go_wp2_with fail;refine(KP.out _ (HM.out.ex HE.out)).mono ?_;rintro e w2 ⟨n,ok,rfl,hx,hn⟩;have HNn:=Zz hn;replace bP:=bP.ex hx;replace bR:=bR.ex hx;replace bG:=bG.ex hx;have HE2:=Zz (HE.out.trans hx);have HO2:=Zz (HO.out.ex hx);clear hx hn cG zG KP hcell;have cP:=bP.cell;have fP:=bP.frozen;have zP:=bP.lt;have cR:=bR.cell;have fR:=bR.frozen;have zR:=bR.lt;rcases ok with _|_
    ·have HNo:Hid (Yl (k::t)=none):=Zz (Qo (Qp HNn.out HMem.out));go_wp2;refine Zu ?_ rfl (.inr ⟨k.toNat,A,ns.length,cap,S,HNo.out,rfl,?_⟩)
     ·simp[results,results149,go_sem,cP,cR]
     ·have hE:=HE2.out;(have:=Exi.mk hE;exact Exi.out)
    ·have hs2:=HE2.out.size;go_wp2_with (at_builtin;refine Vj rfl _ _ w2 rfl (w.heap.size+2) A cap ns n rfl HO2.out rfl hnl (by omega) ?_);intro A' cap' w' hown' hk';have HE3:=Zz (hk'.ex w HE2.out (by omega));replace bP:=hk'.box _ _ _ bP (by decide);replace bR:=hk'.box _ _ _ bR (by decide);replace bG:=hk'.box _ _ _ bG (by decide);have HO3:=Zz hown';have cP:=bP.cell;have fP:=bP.frozen;have zP:=bP.lt;clear hown' hk' HO2 HE2 cR fR zR;have HN3:Hid (Xg Xt ((cds t).take (j+1))=some (ns++[n])):=Zz (by rw[HMs.out];exact Ve HNn.out HN.out);clear HNn HMs;go_wp2;have bP3:Box (w'.setCell ⟨w.heap.size+1,1,none⟩ (.slice A' (ns.length+1) cap')) (w.heap.size+1) 169 #[.int .u8 (k.toNat:Int), .slice A' (ns++[n]).length cap',S]:=by
      have h:=bP.set_ 1 (.slice A' (ns.length+1) cap');simpa using h
     have bR3:=bR.far (p:=⟨w.heap.size+1,1,none⟩) (by simp) (.slice A' (ns.length+1) cap');have bG3:=bG.far (p:=⟨w.heap.size+1,1,none⟩) (by simp;omega) (.slice A' (ns.length+1) cap');have HO4:=Zz (HO3.out.setBelow (p:=⟨w.heap.size+1,1,none⟩) (by simp) (.slice A' (ns.length+1) cap'));have HE4:=Zz (HE3.out.setCell (p:=⟨w.heap.size+1,1,none⟩) (by simp) (.slice A' (ns.length+1) cap'));go_roundw
     case rel=>exact⟨j+1,A',cap',ns++[n],by go_num,by omega,HN3,bP3,bR3,bG3,HO4,HE4⟩
     case measure=>simp[intOf]<;>omega
   ·
    have hk114:=HK114.out;obtain rfl:j=(cds t).length:=by omega
    have hlI:¬((cds t).length:Int)<((cds t).length:Int):=by omega
    have HNN:Hid (Xg Xt (cds t)=some ns):=Zz (by have:=HN.out;rwa[List.take_length] at this);clear HN HG bG hj hnl HM HW HX1;clear hlt;go_upto_region 13 with fail;clear hlI;have ek:((k.toNat:Nat):Int)=C:=by rw[hk114];exact hC.out.symm
    rw[ek] at bP;have EK:=Zz ek;clear ek;by_cases hn:ns.length=2
    ·obtain⟨p,q,rfl⟩:=Ztd hn;clear hn;obtain⟨ga,ca,rfl,hga,bA,hca⟩:=Own.box HO.out (by simp);clear HO;simp only[List.length_cons,List.length_nil,Nat.reduceAdd] at bP;have d0:ca[0]? =some (.int .i64 p):=(hca 0 (by simp)).trans rfl;have d1:ca[1]? =some (.int .i64 q):=(hca 1 (by simp)).trans rfl;have HCA:Hid (∀j,j<[p,q].length→ca[j]? =some (.int .i64 ([p,q].getD j 0))):=Zz fun j hj=>by
      simp only[List.length_cons,List.length_nil,Nat.reduceAdd] at hj;obtain rfl|rfl:j=0∨j=1:=by omega
      ·exact d0
      ·exact d1
     clear hca;have kd:=fun w=>Sf p q w
     obtain⟨c1,c2,c3,e1,e2,e3,hdv⟩:=Zws p q;rw[hdv] at kd;clear hdv;rcases hd:Wl p q with _|_
     all_goals
      rw[hd] at kd;first|(have hq:Wl p q=false:=hd;clear hq;have HP:Hid (Yl (k::t)=none):=Zz (by rw[Xv HNN.out,hk114];simp[Wx,hd]))|(have HP:Hid (Yl (k::t)=some (k,[p,q])):=Zz (by rw[Xv HNN.out,hk114];simp[Wx,hd]))
      clear HNN hd;clear hk114;have KD:=Zz kd;clear kd;have hS:Zo w wr _:=Zo.put (Zo.put (⟨HE.out,trivial⟩:Zo w wr []) bR) bP;replace hS:=Zo.put hS bA;have hC:=hS.rd;simp only[Zr,Zq] at hC;have hE:=hS.ex;go_upto_region 18 with fail;clear hC hE;have hS0:=hS;refine Kg hS0 13 1 30 10 11 63 64 Oa Oa #[c1,c2,c3] #[e1,e2,e3] (by kernel_rfl) rfl ?_;iterate 8 (apply Zp;rfl;intro b u B Q q;have hS:=B.sees;have hC:=hS.rd;simp only[Zr,Zq] at hC;go_wp2;exact q _ (Ex.refl _) B;exact⟨_,rfl⟩)
      (apply Zp;rfl;intro b u B Q q;go_wp2_with (with_reducible refine Yw (KD.out _) fun wn hx=>?_);exact q _ hx (B.go hx);exact⟨_,rfl⟩);iterate 4 (apply Zp;rfl;intro b u B Q q;go_wp2;exact q _ (Ex.refl _) B;exact⟨_,rfl⟩)
      refine Zn ⟨⟨_,rfl,Yt⟩,⟨_,rfl,Yt⟩,⟨_,rfl,Wy Ym rfl (by kernel_rfl)⟩,⟨_,rfl,Wy Ym rfl (by kernel_rfl)⟩,show(10:Nat)<105 by decide,show(11:Nat)<105 by decide,fun g0 g1 wz hg0 hg1 hS=>?_⟩;simp only[Act.put,Zx,Zw,Zv,Nat.reduceAdd,List.drop_succ_cons,List.drop_zero];clear hS0;replace hS:=hS.tail.tail;clear hg0 hg1;have hC:=hS.rd;simp only[Zr,Zq] at hC;have hE:=hS.ex;have hbA:=hS.boxes.1;have hl1:=hS.boxes.2.1.lt;go_wp2_with fail
     ·refine Zu ?_ rfl (.inr ⟨(k.toNat:Int),(some ⟨ga,0,none⟩),2,cap,S,HP.out,rfl,?_⟩)
      ·simp[results,results149,go_sem,hC,EK.out]
      ·(have:=Exi.mk hE;exact Exi.out)
     ·refine Zu ?_ rfl (.inl ⟨⟨k,ga,cap,ca,[p,q],S⟩,HP.out,rfl,HS,⟨?_,?_⟩,?_⟩)
      ·simp[results,results149,go_sem,hC,Pc.ci,Pc.cs,EK.out]
      ·repeat' (with_reducible first|exact hbA|refine Box.far ?_ (by simp<;>omega) _)
      ·exact HCA.out
      ·(have:=Exi.mk hE;exact Exi.out)
    ·have hnI:((ns.length:Int)==2)=false:=by rw[beq_eq_false_iff_ne];omega
     have hnI2:¬(ns.length:Int)=2:=by omega
     have HP:Hid (Yl (k::t)=none):=Zz (by rw[Xv HNN.out,hk114];simp[Wx,hn]);clear hn HNN HO;clear hk114;have hS:Zo w wr _:=Zo.put (Zo.put (⟨HE.out,trivial⟩:Zo w wr []) bR) bP;have hC:=hS.rd;simp only[Zr,Zq] at hC;have hE:=hS.ex;go_wp2_with fail;refine Zu ?_ rfl (.inr ⟨(k.toNat:Int),A,ns.length,cap,S,HP.out,rfl,?_⟩)
     ·simp[results,results149,go_sem,hC,EK.out]
     ·(have:=Exi.mk hE;exact Exi.out)
end
section
open Go.RowKit

attribute [local go_sem] Zg Zf
theorem Bl(k:UInt8)(t:Ub)(hk119:k=119)(hl:(k::t).length≤1048576)(w:World)(hm:Wn w):Calls prog 149 #[(Bs (k::t))] w (Ey w (k::t)):=by
 have HK119:=Zz hk119;clear hk119;have hlt:t.length≤1048576:=by simp at hl;omega
 have hx1:=Ou k t;obtain⟨S,HS⟩:=nm (Bs (k::t));have hsz:S.size=t.length+1:=by rw[HS.out];rfl
 obtain⟨hs0,hk0⟩:∃hs:0<S.size,S[0]'hs=k:=by
  obtain⟨h1,h2⟩:=Rq HS.out (i:=0) (by simp);exact⟨h1,h2⟩
 rw[←HS.out] at hx1 ⊢;have hne:¬S=(⟨#[]⟩:ByteArray):=fun e=>by rw[e] at hs0;exact absurd hs0 (by decide)
 have hne2:S.toList.isEmpty=false:=by simpa using Ta hne
 clear hne;have ks:=fun w hm=>Db t hlt w hm
 have HW:Hid (∀x∈cds t,x.length≤1048576):=Zz fun x hx=>by
  have h1:=Sr t x hx;omega
 have HCL:Hid ((cds t).length≤1048576):=Zz (by have h1:=Nb t;simp only[List.length_cons] at hl;omega);generalize hT:Bs t=T at hx1 ks;have HM:=Zz hm;have KS:=Zz ks;have HX1:=Zz hx1;clear hm ks hT;obtain⟨hS,hC⟩:=s0 w;go_in;go_upto_region 5 with fail;have bR:=(Box.new w #[.int .u8 0, .slice none 0 0, .string ⟨#[]⟩] 169).alloc (.cells #[.int .u8 (k.toNat:Int), .slice none 0 0,S] 169);have bP:=Box.new (w.alloc (.cells #[.int .u8 0, .slice none 0 0, .string ⟨#[]⟩] 169)) #[.int .u8 (k.toNat:Int), .slice none 0 0,S] 169;rw[Zy] at bP;have hE1:Ex w ((w.alloc (.cells #[.int .u8 0, .slice none 0 0, .string ⟨#[]⟩] 169)).alloc (.cells #[.int .u8 (k.toNat:Int), .slice none 0 0,S] 169)):=((Ex.refl w).alloc _).alloc _;have hz1:((w.alloc (.cells #[.int .u8 0, .slice none 0 0, .string ⟨#[]⟩] 169)).alloc (.cells #[.int .u8 (k.toNat:Int), .slice none 0 0,S] 169)).heap.size=w.heap.size+2:=by simp only[Zy]
 generalize (w.alloc (.cells #[.int .u8 0, .slice none 0 0, .string ⟨#[]⟩] 169)).alloc (.cells #[.int .u8 (k.toNat:Int), .slice none 0 0,S] 169)=W1 at*;clear hC hS hk0;have hs1:(1:Int)≤(S.size:Int):=by omega
 clear hsz hl hlt;go_wp2_with fail;refine(KS.out _ (HM.out.ex hE1)).mono ?_;rintro e W2 ⟨g,gc,cur,rfl,hg,bG,HG,hx⟩;replace bR:=bR.ex hx;replace bP:=bP.ex hx;have hE2:=hE1.trans hx;have hz2:=hx.size;clear hx hE1 KS;go_wp2_with fail;have hO0:Un W2 (w.heap.size+2) none 0 []:=⟨by simp, .inl ⟨rfl,rfl⟩⟩
 go_loopw [25,6,7,8] (fun i f n o wr=>∃(j:Nat) (A:Option Addr) (cap:Nat) (ns:List Int),i= .int .i64 j∧j≤(cds t).length∧Hid (Xg Xt ((cds t).take j)=some ns)∧Box wr (w.heap.size+1) 169 #[.int .u8 (k.toNat:Int), .slice A ns.length cap,S]∧
   Box wr w.heap.size 169 #[.int .u8 0, .slice none 0 0, .string ⟨#[]⟩]∧Box wr g 9 cur∧Hid (Un wr (w.heap.size+2) A cap ns)∧Hid (Ex w wr)) (fun i _ _ _ _=>(cds t).length+1-(intOf i).toNat)
 case atStart=>exact⟨0,none,0,[],rfl,by omega,Zz rfl,bP,bR,bG,Zz hO0,Zz hE2⟩
 case round=>
  clear bP bR bG hO0 hE2 hz2;obtain⟨j,A,cap,ns,rfl,hj,HN,bP,bR,bG,HO,HE⟩:=hrel;have hnl:ns.length≤1048576:=by
   have h1:=Wd HN.out;have h2:=List.length_take_le j (cds t);have h3:=HCL.out;omega
  by_cases hlt:j<(cds t).length
  ·have hcell:=HG.out j hlt;have hmem:(cds t)[j]∈cds t:=List.getElem_mem hlt;have hxl:=HW.out _ hmem;have HMs:Hid (Xg Xt ((cds t).take (j+1))=Xg Xt ((cds t).take j++[(cds t)[j]])):=Zz (by rw[Xf hlt]);generalize (cds t)[j]=x at*;have kp:=fun w hm=>It x hxl w hm
   have hlI:(j:Int)<((cds t).length:Int):=by omega
   have hw5:=wr1 j (by have:=HCL.out;omega);obtain⟨X,HX⟩:=nm (Bs x);rw[←HX.out] at hcell kp;have KP:=Zz kp;have HMem:=Zz hmem;have cG:=bG.cell;have zG:=bG.lt;clear kp hmem hxl;go_wp2_with fail;refine(KP.out _ (HM.out.ex HE.out)).mono ?_;rintro e w2 ⟨n,ok,rfl,hx,hn⟩;have HNn:=Zz hn;replace bP:=bP.ex hx;replace bR:=bR.ex hx;replace bG:=bG.ex hx;have HE2:=Zz (HE.out.trans hx);have HO2:=Zz (HO.out.ex hx);clear hx hn cG zG KP hcell;have cP:=bP.cell;have fP:=bP.frozen;have zP:=bP.lt;have cR:=bR.cell;have fR:=bR.frozen;have zR:=bR.lt;rcases ok with _|_
   ·have HNo:Hid (Yl (k::t)=none):=Zz (Qo (Qp HNn.out HMem.out));go_wp2;refine Zu ?_ rfl (.inr ⟨k.toNat,A,ns.length,cap,S,HNo.out,rfl,?_⟩)
    ·simp[results,results149,go_sem,cP,cR]
    ·have hE:=HE2.out;(have:=Exi.mk hE;exact Exi.out)
   ·have hs2:=HE2.out.size;go_wp2_with (at_builtin;refine Vj rfl _ _ w2 rfl (w.heap.size+2) A cap ns n rfl HO2.out rfl hnl (by omega) ?_);intro A' cap' w' hown' hk';have HE3:=Zz (hk'.ex w HE2.out (by omega));replace bP:=hk'.box _ _ _ bP (by decide);replace bR:=hk'.box _ _ _ bR (by decide);replace bG:=hk'.box _ _ _ bG (by decide);have HO3:=Zz hown';have cP:=bP.cell;have fP:=bP.frozen;have zP:=bP.lt;clear hown' hk' HO2 HE2 cR fR zR;have HN3:Hid (Xg Xt ((cds t).take (j+1))=some (ns++[n])):=Zz (by rw[HMs.out];exact Ve HNn.out HN.out);clear HNn HMs;go_wp2;have bP3:Box (w'.setCell ⟨w.heap.size+1,1,none⟩ (.slice A' (ns.length+1) cap')) (w.heap.size+1) 169 #[.int .u8 (k.toNat:Int), .slice A' (ns++[n]).length cap',S]:=by
     have h:=bP.set_ 1 (.slice A' (ns.length+1) cap');simpa using h
    have bR3:=bR.far (p:=⟨w.heap.size+1,1,none⟩) (by simp) (.slice A' (ns.length+1) cap');have bG3:=bG.far (p:=⟨w.heap.size+1,1,none⟩) (by simp;omega) (.slice A' (ns.length+1) cap');have HO4:=Zz (HO3.out.setBelow (p:=⟨w.heap.size+1,1,none⟩) (by simp) (.slice A' (ns.length+1) cap'));have HE4:=Zz (HE3.out.setCell (p:=⟨w.heap.size+1,1,none⟩) (by simp) (.slice A' (ns.length+1) cap'));go_roundw
    case rel=>exact⟨j+1,A',cap',ns++[n],by go_num,by omega,HN3,bP3,bR3,bG3,HO4,HE4⟩
    case measure=>simp[intOf]<;>omega
  ·
   have hk119:=HK119.out;obtain rfl:j=(cds t).length:=by omega
   have hlI:¬((cds t).length:Int)<((cds t).length:Int):=by omega
   have HNN:Hid (Xg Xt (cds t)=some ns):=Zz (by have:=HN.out;rwa[List.take_length] at this);clear HN HG bG hj hnl HM HW HX1;clear hlt;go_upto_region 13 with fail;clear hlI;have ek:((k.toNat:Nat):Int)=119:=by rw[hk119];rfl
   rw[ek] at bP;have EK:=Zz ek;clear ek;by_cases hn:ns.length=3
   ·obtain⟨p,q,m,rfl⟩:=Zbs hn;clear hn;obtain⟨ga,ca,rfl,hga,bA,hca⟩:=Own.box HO.out (by simp);clear HO;simp only[List.length_cons,List.length_nil,Nat.reduceAdd] at bP;have d0:ca[0]? =some (.int .i64 p):=(hca 0 (by simp)).trans rfl;have d1:ca[1]? =some (.int .i64 q):=(hca 1 (by simp)).trans rfl;have d2:ca[2]? =some (.int .i64 m):=(hca 2 (by simp)).trans rfl;have HCA:Hid (∀j,j<[p,q,m].length→ca[j]? =some (.int .i64 ([p,q,m].getD j 0))):=Zz fun j hj=>by
     simp only[List.length_cons,List.length_nil,Nat.reduceAdd] at hj;obtain rfl|rfl|rfl:j=0∨j=1∨j=2:=by omega
     ·exact d0
     ·exact d1
     ·exact d2
    clear hca;have kd:=fun w=>Sf p q w
    rcases hd:Wl p q with _|_
    ·simp only[Rf,hd,Bool.false_eq_true,if_false,Fr.v,Fr.none] at kd;have HP:Hid (Yl (k::t)=none):=Zz (by rw[Xv HNN.out,hk119];simp[Wx,hd]);clear HNN hd;clear hk119;have KD:=Zz kd;clear kd;have hS:Zo w wr _:=Zo.put (Zo.put (⟨HE.out,trivial⟩:Zo w wr []) bR) bP;replace hS:=Zo.put hS bA;have hC:=hS.rd;simp only[Zr,Zq] at hC;have hE:=hS.ex;go_upto_region 18 with fail;clear hC hE;have hS0:=hS;refine Kg hS0 13 1 30 10 11 63 64 Oa Oa Oa Oa (by kernel_rfl) rfl ?_;iterate 8 (apply Zp;rfl;intro b u B Q q;have hS:=B.sees;have hC:=hS.rd;simp only[Zr,Zq] at hC;go_wp2;exact q _ (Ex.refl _) B;exact⟨_,rfl⟩)
     (apply Zp;rfl;intro b u B Q q;go_wp2_with (with_reducible refine Yw (KD.out _) fun wn hx=>?_);exact q _ hx (B.go hx);exact⟨_,rfl⟩);iterate 4 (apply Zp;rfl;intro b u B Q q;go_wp2;exact q _ (Ex.refl _) B;exact⟨_,rfl⟩)
     refine Zn ⟨⟨_,rfl,Yt⟩,⟨_,rfl,Yt⟩,⟨_,rfl,Wy Ym rfl (by kernel_rfl)⟩,⟨_,rfl,Wy Ym rfl (by kernel_rfl)⟩,show(10:Nat)<105 by decide,show(11:Nat)<105 by decide,fun g0 g1 wz hg0 hg1 hS=>?_⟩;simp only[Act.put,Zx,Zw,Zv,Nat.reduceAdd,List.drop_succ_cons,List.drop_zero];clear hS0;replace hS:=hS.tail.tail;clear hg0 hg1;have hC:=hS.rd;simp only[Zr,Zq] at hC;have hE:=hS.ex;have hbA:=hS.boxes.1;have hl1:=hS.boxes.2.1.lt;go_upto_region 24 with fail;clear hC hE hbA hl1;refine Hw (fun b w2=>Zo w w2 [(ga,3,ca),(w.heap.size+1,169,#[.int .u8 119, .slice (some ⟨ga,0,none⟩) 3 cap,S]),(w.heap.size,169,if b then #[.int .u8 119, .slice (some ⟨ga,0,none⟩) 3 cap,S] else #[.int .u8 0, .slice none 0 0, .string ⟨#[]⟩])]) false (by kernel_rfl) (hS.drewW) ?_;iterate 3 (apply Zp;rfl;intro b u B Q q;have hS:=B;have hC:=hS.rd;simp only[Zr,Zq] at hC;go_wp2;exact q _ trivial B;exact⟨_,rfl⟩)
     refine Yv (by rfl) (by simp only[Act.put,Zx,Zw,Zv];rfl) ?_;refine Yv (by rfl) (by simp only[Act.put,Zx,Zw,Zv];rfl) ?_;refine Yv (by rfl) (by simp only[Act.put,Zx,Zw,Zv];rfl) ?_;refine Yv (by rfl) (by simp only[Act.put,Zx,Zw,Zv];rfl) ?_;refine Yv (by rfl) (by simp only[Act.put,Zx,Zw,Zv];rfl) ?_;(apply Zp;rfl;intro b u B Q q;go_wp2;exact q _ trivial B;exact⟨_,rfl⟩);apply Zi (d:=true)
     ·rfl
     ·intro b wb hB Q1 hQ1;have hB2:=Zo.ret3 (by omega) (by omega) hB;have hS:=hB;have hC:=hS.rd;simp only[Zr,Zq] at hC;rcases b with _|_
      ·simp only[Bool.false_eq_true,if_false] at hC;go_wp2_with fail;exact hQ1 _ trivial hB2
      ·simp only[if_true] at hC;go_wp2_with fail;exact hQ1 _ trivial hB2
     ·exact⟨undef,rfl⟩
     (apply Zp;rfl;intro b u B Q q;go_wp2;exact q _ trivial B;exact⟨_,rfl⟩);refine Zn ?_;intro wy hy;simp only[Bool.or_true,Bool.or_false,Bool.false_or,if_true] at hy;have hC:=hy.rd;simp only[Zr,Zq] at hC;have hE:=hy.ex;have hbA:=hy.boxes.1;have hl1:=hy.boxes.2.1.lt;go_wp2_with fail;refine Zu ?_ rfl (.inr ⟨(k.toNat:Int),(some ⟨ga,0,none⟩),3,cap,S,HP.out,rfl,?_⟩)
     ·simp[results,results149,go_sem,hC,EK.out]
     ·(have:=Exi.mk hE;exact Exi.out)
    ·simp only[Rf,hd,if_true,Fr.v] at kd;generalize Tm p q=c at kd;generalize Tl p q=e at kd;obtain⟨c1,c2,c3⟩:=c;obtain⟨e1,e2,e3⟩:=e;simp only at kd;rcases hm:Xw m 0 3 with _|_
     all_goals
      first|(have hq:Xw m 0 3=false:=hm;clear hq;have HP:Hid (Yl (k::t)=none):=Zz (by rw[Xv HNN.out,hk119];simp[Wx,hd,hm]))|(have HP:Hid (Yl (k::t)=some (k,[p,q,m])):=Zz (by rw[Xv HNN.out,hk119];simp[Wx,hd,hm]))
      have kw:=fun w=>Wu m 0 3 w
      rw[hm] at kw;clear hm;have KW:=Zz kw;clear kw;clear HNN hd;clear hk119;have KD:=Zz kd;clear kd;have hS:Zo w wr _:=Zo.put (Zo.put (⟨HE.out,trivial⟩:Zo w wr []) bR) bP;replace hS:=Zo.put hS bA;have hC:=hS.rd;simp only[Zr,Zq] at hC;have hE:=hS.ex;go_upto_region 18 with fail;clear hC hE;have hS0:=hS;refine Kg hS0 13 1 30 10 11 63 64 Oa Oa #[c1,c2,c3] #[e1,e2,e3] (by kernel_rfl) rfl ?_;iterate 8 (apply Zp;rfl;intro b u B Q q;have hS:=B.sees;have hC:=hS.rd;simp only[Zr,Zq] at hC;go_wp2;exact q _ (Ex.refl _) B;exact⟨_,rfl⟩)
      (apply Zp;rfl;intro b u B Q q;go_wp2_with (with_reducible refine Yw (KD.out _) fun wn hx=>?_);exact q _ hx (B.go hx);exact⟨_,rfl⟩);iterate 4 (apply Zp;rfl;intro b u B Q q;go_wp2;exact q _ (Ex.refl _) B;exact⟨_,rfl⟩)
      refine Zn ⟨⟨_,rfl,Yt⟩,⟨_,rfl,Yt⟩,⟨_,rfl,Wy Ym rfl (by kernel_rfl)⟩,⟨_,rfl,Wy Ym rfl (by kernel_rfl)⟩,show(10:Nat)<105 by decide,show(11:Nat)<105 by decide,fun g0 g1 wz hg0 hg1 hS=>?_⟩;simp only[Act.put,Zx,Zw,Zv,Nat.reduceAdd,List.drop_succ_cons,List.drop_zero];clear hS0;replace hS:=hS.tail.tail;clear hg0 hg1;have hC:=hS.rd;simp only[Zr,Zq] at hC;have hE:=hS.ex;have hbA:=hS.boxes.1;have hl1:=hS.boxes.2.1.lt;go_upto_region 24 with fail;clear hC hE hbA hl1;refine Hw (fun b w2=>Zo w w2 [(ga,3,ca),(w.heap.size+1,169,#[.int .u8 119, .slice (some ⟨ga,0,none⟩) 3 cap,S]),(w.heap.size,169,if b then #[.int .u8 119, .slice (some ⟨ga,0,none⟩) 3 cap,S] else #[.int .u8 0, .slice none 0 0, .string ⟨#[]⟩])]) false (by kernel_rfl) (hS.drewW) ?_;iterate 7 (apply Zp;rfl;intro b u B Q q;have hS:=B;have hC:=hS.rd;simp only[Zr,Zq] at hC;go_wp2;exact q _ trivial B;exact⟨_,rfl⟩)
      iterate 2 (apply Zp;rfl;intro b u B Q q;go_wp2_with ((with_reducible refine(KW.out _).mono ?_);rintro e wn ⟨rfl,rfl⟩);exact q _ trivial B;exact⟨_,rfl⟩)
      apply Zi (d:=true)
      ·rfl
      ·intro b wb hB Q1 hQ1;have hB2:=Zo.ret3 (by omega) (by omega) hB;have hS:=hB;have hC:=hS.rd;simp only[Zr,Zq] at hC;rcases b with _|_
       ·simp only[Bool.false_eq_true,if_false] at hC;go_wp2_with fail;exact hQ1 _ trivial hB2
       ·simp only[if_true] at hC;go_wp2_with fail;exact hQ1 _ trivial hB2
      ·exact⟨undef,rfl⟩
      (apply Zp;rfl;intro b u B Q q;go_wp2;exact q _ trivial B;exact⟨_,rfl⟩);refine Zn ?_;intro wy hy;simp only[Bool.or_true,Bool.or_false,Bool.false_or,if_true] at hy;have hC:=hy.rd;simp only[Zr,Zq] at hC;have hE:=hy.ex;have hbA:=hy.boxes.1;have hl1:=hy.boxes.2.1.lt;go_wp2_with fail
     ·refine Zu ?_ rfl (.inr ⟨(k.toNat:Int),(some ⟨ga,0,none⟩),3,cap,S,HP.out,rfl,?_⟩)
      ·simp[results,results149,go_sem,hC,EK.out]
      ·(have:=Exi.mk hE;exact Exi.out)
     ·refine Zu ?_ rfl (.inl ⟨⟨k,ga,cap,ca,[p,q,m],S⟩,HP.out,rfl,HS,⟨?_,?_⟩,?_⟩)
      ·simp[results,results149,go_sem,hC,Pc.ci,Pc.cs,EK.out]
      ·repeat' (with_reducible first|exact hbA|refine Box.far ?_ (by simp<;>omega) _)
      ·exact HCA.out
      ·(have:=Exi.mk hE;exact Exi.out)
   ·have hnI:((ns.length:Int)==3)=false:=by rw[beq_eq_false_iff_ne];omega
    have hnI2:¬(ns.length:Int)=3:=by omega
    have HP:Hid (Yl (k::t)=none):=Zz (by rw[Xv HNN.out,hk119];simp[Wx,hn]);clear hn HNN HO;clear hk119;have hS:Zo w wr _:=Zo.put (Zo.put (⟨HE.out,trivial⟩:Zo w wr []) bR) bP;have hC:=hS.rd;simp only[Zr,Zq] at hC;have hE:=hS.ex;go_wp2_with fail;refine Zu ?_ rfl (.inr ⟨(k.toNat:Int),A,ns.length,cap,S,HP.out,rfl,?_⟩)
    ·simp[results,results149,go_sem,hC,EK.out]
    ·(have:=Exi.mk hE;exact Exi.out)
end
section
open Go.RowKit

attribute [local go_sem] Zg Zf
theorem Ie(c:UInt8)(hc:c=97∨c=100)(k:UInt8)(t:Ub)(hk97:k=c)(hl:(k::t).length≤1048576)(w:World)(hm:Wn w):Calls prog 149 #[(Bs (k::t))] w (Ey w (k::t)):=by
 obtain⟨C,hC⟩:∃C:Int,Hid (C=((c.toNat:Nat):Int)):=⟨_,Zz rfl⟩
 have q119:(C==119)=false:=by rw[hC.out];rcases hc with rfl|rfl<;>rfl
 have q114:(C==114)=false:=by rw[hC.out];rcases hc with rfl|rfl<;>rfl
 have q102:(C==102)=false:=by rw[hC.out];rcases hc with rfl|rfl<;>rfl
 rcases hc with rfl|rfl
 all_goals
  have q1:=congrArg (fun x:Int=>x==97) hC.out;have q2:=congrArg (fun x:Int=>x==100) hC.out;simp only[show(((97:UInt8).toNat:Nat):Int)=97 from rfl,show(((100:UInt8).toNat:Nat):Int)=100 from rfl,Int.reduceBEq] at q1 q2;have HK97:=Zz hk97;clear hk97;have hlt:t.length≤1048576:=by simp at hl;omega
  have hx1:=Ou k t;obtain⟨S,HS⟩:=nm (Bs (k::t));have hsz:S.size=t.length+1:=by rw[HS.out];rfl
  obtain⟨hs0,hk0⟩:∃hs:0<S.size,S[0]'hs=k:=by
   obtain⟨h1,h2⟩:=Rq HS.out (i:=0) (by simp);exact⟨h1,h2⟩
  rw[←HS.out] at hx1 ⊢;have hne:¬S=(⟨#[]⟩:ByteArray):=fun e=>by rw[e] at hs0;exact absurd hs0 (by decide)
  have hne2:S.toList.isEmpty=false:=by simpa using Ta hne
  clear hne;have ks:=fun w hm=>Db t hlt w hm
  have HW:Hid (∀x∈cds t,x.length≤1048576):=Zz fun x hx=>by
   have h1:=Sr t x hx;omega
  have HCL:Hid ((cds t).length≤1048576):=Zz (by have h1:=Nb t;simp only[List.length_cons] at hl;omega);generalize hT:Bs t=T at hx1 ks;have HM:=Zz hm;have KS:=Zz ks;have HX1:=Zz hx1;clear hm ks hT;obtain⟨hS,hC⟩:=s0 w;go_in;go_upto_region 5 with fail;have bR:=(Box.new w #[.int .u8 0, .slice none 0 0, .string ⟨#[]⟩] 169).alloc (.cells #[.int .u8 (k.toNat:Int), .slice none 0 0,S] 169);have bP:=Box.new (w.alloc (.cells #[.int .u8 0, .slice none 0 0, .string ⟨#[]⟩] 169)) #[.int .u8 (k.toNat:Int), .slice none 0 0,S] 169;rw[Zy] at bP;have hE1:Ex w ((w.alloc (.cells #[.int .u8 0, .slice none 0 0, .string ⟨#[]⟩] 169)).alloc (.cells #[.int .u8 (k.toNat:Int), .slice none 0 0,S] 169)):=((Ex.refl w).alloc _).alloc _;have hz1:((w.alloc (.cells #[.int .u8 0, .slice none 0 0, .string ⟨#[]⟩] 169)).alloc (.cells #[.int .u8 (k.toNat:Int), .slice none 0 0,S] 169)).heap.size=w.heap.size+2:=by simp only[Zy]
  generalize (w.alloc (.cells #[.int .u8 0, .slice none 0 0, .string ⟨#[]⟩] 169)).alloc (.cells #[.int .u8 (k.toNat:Int), .slice none 0 0,S] 169)=W1 at*;clear hC hS hk0;have hs1:(1:Int)≤(S.size:Int):=by omega
  clear hsz hl hlt;go_wp2_with fail;refine(KS.out _ (HM.out.ex hE1)).mono ?_;rintro e W2 ⟨g,gc,cur,rfl,hg,bG,HG,hx⟩;replace bR:=bR.ex hx;replace bP:=bP.ex hx;have hE2:=hE1.trans hx;have hz2:=hx.size;clear hx hE1 KS;go_wp2_with fail;have hO0:Un W2 (w.heap.size+2) none 0 []:=⟨by simp, .inl ⟨rfl,rfl⟩⟩
  go_loopw [25,6,7,8] (fun i f n o wr=>∃(j:Nat) (A:Option Addr) (cap:Nat) (ns:List Int),i= .int .i64 j∧j≤(cds t).length∧Hid (Xg Xt ((cds t).take j)=some ns)∧Box wr (w.heap.size+1) 169 #[.int .u8 (k.toNat:Int), .slice A ns.length cap,S]∧
    Box wr w.heap.size 169 #[.int .u8 0, .slice none 0 0, .string ⟨#[]⟩]∧Box wr g 9 cur∧Hid (Un wr (w.heap.size+2) A cap ns)∧Hid (Ex w wr)) (fun i _ _ _ _=>(cds t).length+1-(intOf i).toNat)
  case atStart=>exact⟨0,none,0,[],rfl,by omega,Zz rfl,bP,bR,bG,Zz hO0,Zz hE2⟩
  case round=>
   clear bP bR bG hO0 hE2 hz2;obtain⟨j,A,cap,ns,rfl,hj,HN,bP,bR,bG,HO,HE⟩:=hrel;have hnl:ns.length≤1048576:=by
    have h1:=Wd HN.out;have h2:=List.length_take_le j (cds t);have h3:=HCL.out;omega
   by_cases hlt:j<(cds t).length
   ·have hcell:=HG.out j hlt;have hmem:(cds t)[j]∈cds t:=List.getElem_mem hlt;have hxl:=HW.out _ hmem;have HMs:Hid (Xg Xt ((cds t).take (j+1))=Xg Xt ((cds t).take j++[(cds t)[j]])):=Zz (by rw[Xf hlt]);generalize (cds t)[j]=x at*;have kp:=fun w hm=>It x hxl w hm
    have hlI:(j:Int)<((cds t).length:Int):=by omega
    have hw5:=wr1 j (by have:=HCL.out;omega);obtain⟨X,HX⟩:=nm (Bs x);rw[←HX.out] at hcell kp;have KP:=Zz kp;have HMem:=Zz hmem;have cG:=bG.cell;have zG:=bG.lt;clear kp hmem hxl;go_wp2_with fail;refine(KP.out _ (HM.out.ex HE.out)).mono ?_;rintro e w2 ⟨n,ok,rfl,hx,hn⟩;have HNn:=Zz hn;replace bP:=bP.ex hx;replace bR:=bR.ex hx;replace bG:=bG.ex hx;have HE2:=Zz (HE.out.trans hx);have HO2:=Zz (HO.out.ex hx);clear hx hn cG zG KP hcell;have cP:=bP.cell;have fP:=bP.frozen;have zP:=bP.lt;have cR:=bR.cell;have fR:=bR.frozen;have zR:=bR.lt;rcases ok with _|_
    ·have HNo:Hid (Yl (k::t)=none):=Zz (Qo (Qp HNn.out HMem.out));go_wp2;refine Zu ?_ rfl (.inr ⟨k.toNat,A,ns.length,cap,S,HNo.out,rfl,?_⟩)
     ·simp[results,results149,go_sem,cP,cR]
     ·have hE:=HE2.out;(have:=Exi.mk hE;exact Exi.out)
    ·have hs2:=HE2.out.size;go_wp2_with (at_builtin;refine Vj rfl _ _ w2 rfl (w.heap.size+2) A cap ns n rfl HO2.out rfl hnl (by omega) ?_);intro A' cap' w' hown' hk';have HE3:=Zz (hk'.ex w HE2.out (by omega));replace bP:=hk'.box _ _ _ bP (by decide);replace bR:=hk'.box _ _ _ bR (by decide);replace bG:=hk'.box _ _ _ bG (by decide);have HO3:=Zz hown';have cP:=bP.cell;have fP:=bP.frozen;have zP:=bP.lt;clear hown' hk' HO2 HE2 cR fR zR;have HN3:Hid (Xg Xt ((cds t).take (j+1))=some (ns++[n])):=Zz (by rw[HMs.out];exact Ve HNn.out HN.out);clear HNn HMs;go_wp2;have bP3:Box (w'.setCell ⟨w.heap.size+1,1,none⟩ (.slice A' (ns.length+1) cap')) (w.heap.size+1) 169 #[.int .u8 (k.toNat:Int), .slice A' (ns++[n]).length cap',S]:=by
      have h:=bP.set_ 1 (.slice A' (ns.length+1) cap');simpa using h
     have bR3:=bR.far (p:=⟨w.heap.size+1,1,none⟩) (by simp) (.slice A' (ns.length+1) cap');have bG3:=bG.far (p:=⟨w.heap.size+1,1,none⟩) (by simp;omega) (.slice A' (ns.length+1) cap');have HO4:=Zz (HO3.out.setBelow (p:=⟨w.heap.size+1,1,none⟩) (by simp) (.slice A' (ns.length+1) cap'));have HE4:=Zz (HE3.out.setCell (p:=⟨w.heap.size+1,1,none⟩) (by simp) (.slice A' (ns.length+1) cap'));go_roundw
     case rel=>exact⟨j+1,A',cap',ns++[n],by go_num,by omega,HN3,bP3,bR3,bG3,HO4,HE4⟩
     case measure=>simp[intOf]<;>omega
   ·
    have hk97:=HK97.out;obtain rfl:j=(cds t).length:=by omega
    have hlI:¬((cds t).length:Int)<((cds t).length:Int):=by omega
    have HNN:Hid (Xg Xt (cds t)=some ns):=Zz (by have:=HN.out;rwa[List.take_length] at this);clear HN HG bG hj hnl HM HW HX1;clear hlt;go_upto_region 13 with fail;clear hlI;have ek:((k.toNat:Nat):Int)=C:=by rw[hk97];exact hC.out.symm
    rw[ek] at bP;have EK:=Zz ek;clear ek;by_cases hn:ns.length=2
    ·obtain⟨p,q,rfl⟩:=Ztd hn;clear hn;obtain⟨ga,ca,rfl,hga,bA,hca⟩:=Own.box HO.out (by simp);clear HO;simp only[List.length_cons,List.length_nil,Nat.reduceAdd] at bP;have d0:ca[0]? =some (.int .i64 p):=(hca 0 (by simp)).trans rfl;have d1:ca[1]? =some (.int .i64 q):=(hca 1 (by simp)).trans rfl;have HCA:Hid (∀j,j<[p,q].length→ca[j]? =some (.int .i64 ([p,q].getD j 0))):=Zz fun j hj=>by
      simp only[List.length_cons,List.length_nil,Nat.reduceAdd] at hj;obtain rfl|rfl:j=0∨j=1:=by omega
      ·exact d0
      ·exact d1
     clear hca;have kd:=fun w=>Sf p q w
     obtain⟨c1,c2,c3,e1,e2,e3,tl,hdv⟩:=Zgz p q;rw[hdv] at kd;clear hdv;rcases hw1:Xw q 1 100 with _|_
     ·have HP:Hid (Yl (k::t)=none):=Zz (by rw[Xv HNN.out,hk97];simp[Wx,hw1]);have kw1:=fun w=>Wu q 1 100 w
      rw[hw1] at kw1;clear hw1;have KW1:=Zz kw1;clear kw1;clear HNN;clear hk97;have KD:=Zz kd;clear kd;have hS:Zo w wr _:=Zo.put (Zo.put (⟨HE.out,trivial⟩:Zo w wr []) bR) bP;replace hS:=Zo.put hS bA;have hC:=hS.rd;simp only[Zr,Zq] at hC;have hE:=hS.ex;go_upto_region 18 with fail;clear hC hE;have hS0:=hS;refine Kg hS0 13 1 30 10 11 63 64 Oa Oa #[c1,c2,c3] #[e1,e2,e3] (by kernel_rfl) rfl ?_;iterate 8 (apply Zp;rfl;intro b u B Q q;have hS:=B.sees;have hC:=hS.rd;simp only[Zr,Zq] at hC;go_wp2;exact q _ (Ex.refl _) B;exact⟨_,rfl⟩)
      (apply Zp;rfl;intro b u B Q q;go_wp2_with (with_reducible refine Yw (KD.out _) fun wn hx=>?_);exact q _ hx (B.go hx);exact⟨_,rfl⟩);iterate 4 (apply Zp;rfl;intro b u B Q q;go_wp2;exact q _ (Ex.refl _) B;exact⟨_,rfl⟩)
      refine Zn ⟨⟨_,rfl,Yt⟩,⟨_,rfl,Yt⟩,⟨_,rfl,Wy Ym rfl (by kernel_rfl)⟩,⟨_,rfl,Wy Ym rfl (by kernel_rfl)⟩,show(10:Nat)<105 by decide,show(11:Nat)<105 by decide,fun g0 g1 wz hg0 hg1 hS=>?_⟩;simp only[Act.put,Zx,Zw,Zv,Nat.reduceAdd,List.drop_succ_cons,List.drop_zero];clear hS0;replace hS:=hS.tail.tail;clear hg0 hg1;have hC:=hS.rd;simp only[Zr,Zq] at hC;have hE:=hS.ex;have hbA:=hS.boxes.1;have hl1:=hS.boxes.2.1.lt;go_upto_region 27 with fail;clear hC hE hbA hl1;refine Hw (fun b w2=>Zo w w2 [(ga,3,ca),(w.heap.size+1,169,#[.int .u8 C, .slice (some ⟨ga,0,none⟩) 2 cap,S]),(w.heap.size,169,if b then #[.int .u8 C, .slice (some ⟨ga,0,none⟩) 2 cap,S] else #[.int .u8 0, .slice none 0 0, .string ⟨#[]⟩])]) false (by kernel_rfl) (hS.drewW) ?_;iterate 5 (apply Zp;rfl;intro b u B Q q;have hS:=B;have hC:=hS.rd;simp only[Zr,Zq] at hC;go_wp2;exact q _ trivial B;exact⟨_,rfl⟩)
      iterate 2 (apply Zp;rfl;intro b u B Q q;go_wp2_with ((with_reducible refine(KW1.out _).mono ?_);rintro e wn ⟨rfl,rfl⟩);exact q _ trivial B;exact⟨_,rfl⟩)
      refine Yv (by rfl) (by simp only[Act.put,Zx,Zw,Zv];rfl) ?_;refine Yv (by rfl) (by simp only[Act.put,Zx,Zw,Zv];rfl) ?_;refine Yv (by rfl) (by simp only[Act.put,Zx,Zw,Zv];rfl) ?_;refine Yv (by rfl) (by simp only[Act.put,Zx,Zw,Zv];rfl) ?_;refine Yv (by rfl) (by simp only[Act.put,Zx,Zw,Zv];rfl) ?_;refine Yv (by rfl) (by simp only[Act.put,Zx,Zw,Zv];rfl) ?_;refine Yv (by rfl) (by simp only[Act.put,Zx,Zw,Zv];rfl) ?_;refine Yv (by rfl) (by simp only[Act.put,Zx,Zw,Zv];rfl) ?_;refine Yv (by rfl) (by simp only[Act.put,Zx,Zw,Zv];rfl) ?_;(apply Zp;rfl;intro b u B Q q;go_wp2;exact q _ trivial B;exact⟨_,rfl⟩);apply Zi (d:=true)
      ·rfl
      ·intro b wb hB Q1 hQ1;have hB2:=Zo.ret3 (by omega) (by omega) hB;have hS:=hB;have hC:=hS.rd;simp only[Zr,Zq] at hC;rcases b with _|_
       ·simp only[Bool.false_eq_true,if_false] at hC;go_wp2_with fail;exact hQ1 _ trivial hB2
       ·simp only[if_true] at hC;go_wp2_with fail;exact hQ1 _ trivial hB2
      ·exact⟨undef,rfl⟩
      (apply Zp;rfl;intro b u B Q q;go_wp2;exact q _ trivial B;exact⟨_,rfl⟩);refine Zn ?_;intro wy hy;simp only[Bool.or_true,Bool.or_false,Bool.false_or,if_true] at hy;have hC:=hy.rd;simp only[Zr,Zq] at hC;have hE:=hy.ex;have hbA:=hy.boxes.1;have hl1:=hy.boxes.2.1.lt;go_wp2_with fail;refine Zu ?_ rfl (.inr ⟨(k.toNat:Int),(some ⟨ga,0,none⟩),2,cap,S,HP.out,rfl,?_⟩)
      ·simp[results,results149,go_sem,hC,EK.out]
      ·(have:=Exi.mk hE;exact Exi.out)
     ·rcases hw2:Xw p 0 q with _|_
      all_goals
       first|(have hq:Xw p 0 q=false:=hw2;clear hq;have HP:Hid (Yl (k::t)=none):=Zz (by rw[Xv HNN.out,hk97];simp[Wx,hw1,hw2]))|(have HP:Hid (Yl (k::t)=some (k,[p,q])):=Zz (by rw[Xv HNN.out,hk97];simp[Wx,hw1,hw2]))
       have kw1:=fun w=>Wu q 1 100 w
       rw[hw1] at kw1;have kw2:=fun w=>Wu p 0 q w
       rw[hw2] at kw2;clear hw1 hw2;have KW1:=Zz kw1;have KW2:=Zz kw2;clear kw1 kw2;clear HNN;clear hk97;have KD:=Zz kd;clear kd;have hS:Zo w wr _:=Zo.put (Zo.put (⟨HE.out,trivial⟩:Zo w wr []) bR) bP;replace hS:=Zo.put hS bA;have hC:=hS.rd;simp only[Zr,Zq] at hC;have hE:=hS.ex;go_upto_region 18 with fail;clear hC hE;have hS0:=hS;refine Kg hS0 13 1 30 10 11 63 64 Oa Oa #[c1,c2,c3] #[e1,e2,e3] (by kernel_rfl) rfl ?_;iterate 8 (apply Zp;rfl;intro b u B Q q;have hS:=B.sees;have hC:=hS.rd;simp only[Zr,Zq] at hC;go_wp2;exact q _ (Ex.refl _) B;exact⟨_,rfl⟩)
       (apply Zp;rfl;intro b u B Q q;go_wp2_with (with_reducible refine Yw (KD.out _) fun wn hx=>?_);exact q _ hx (B.go hx);exact⟨_,rfl⟩);iterate 4 (apply Zp;rfl;intro b u B Q q;go_wp2;exact q _ (Ex.refl _) B;exact⟨_,rfl⟩)
       refine Zn ⟨⟨_,rfl,Yt⟩,⟨_,rfl,Yt⟩,⟨_,rfl,Wy Ym rfl (by kernel_rfl)⟩,⟨_,rfl,Wy Ym rfl (by kernel_rfl)⟩,show(10:Nat)<105 by decide,show(11:Nat)<105 by decide,fun g0 g1 wz hg0 hg1 hS=>?_⟩;simp only[Act.put,Zx,Zw,Zv,Nat.reduceAdd,List.drop_succ_cons,List.drop_zero];clear hS0;replace hS:=hS.tail.tail;clear hg0 hg1;have hC:=hS.rd;simp only[Zr,Zq] at hC;have hE:=hS.ex;have hbA:=hS.boxes.1;have hl1:=hS.boxes.2.1.lt;go_upto_region 27 with fail;clear hC hE hbA hl1;refine Hw (fun b w2=>Zo w w2 [(ga,3,ca),(w.heap.size+1,169,#[.int .u8 C, .slice (some ⟨ga,0,none⟩) 2 cap,S]),(w.heap.size,169,if b then #[.int .u8 C, .slice (some ⟨ga,0,none⟩) 2 cap,S] else #[.int .u8 0, .slice none 0 0, .string ⟨#[]⟩])]) false (by kernel_rfl) (hS.drewW) ?_;iterate 5 (apply Zp;rfl;intro b u B Q q;have hS:=B;have hC:=hS.rd;simp only[Zr,Zq] at hC;go_wp2;exact q _ trivial B;exact⟨_,rfl⟩)
       iterate 3 (apply Zp;rfl;intro b u B Q q;go_wp2_with ((with_reducible refine(KW1.out _).mono ?_);rintro e wn ⟨rfl,rfl⟩);exact q _ trivial B;exact⟨_,rfl⟩)
       iterate 7 (apply Zp;rfl;intro b u B Q q;have hS:=B;have hC:=hS.rd;simp only[Zr,Zq] at hC;go_wp2;exact q _ trivial B;exact⟨_,rfl⟩)
       iterate 2 (apply Zp;rfl;intro b u B Q q;go_wp2_with ((with_reducible refine(KW2.out _).mono ?_);rintro e wn ⟨rfl,rfl⟩);exact q _ trivial B;exact⟨_,rfl⟩)
       apply Zi (d:=true)
       ·rfl
       ·intro b wb hB Q1 hQ1;have hB2:=Zo.ret3 (by omega) (by omega) hB;have hS:=hB;have hC:=hS.rd;simp only[Zr,Zq] at hC;rcases b with _|_
        ·simp only[Bool.false_eq_true,if_false] at hC;go_wp2_with fail;exact hQ1 _ trivial hB2
        ·simp only[if_true] at hC;go_wp2_with fail;exact hQ1 _ trivial hB2
       ·exact⟨undef,rfl⟩
       (apply Zp;rfl;intro b u B Q q;go_wp2;exact q _ trivial B;exact⟨_,rfl⟩);refine Zn ?_;intro wy hy;simp only[Bool.or_true,Bool.or_false,Bool.false_or,if_true] at hy;have hC:=hy.rd;simp only[Zr,Zq] at hC;have hE:=hy.ex;have hbA:=hy.boxes.1;have hl1:=hy.boxes.2.1.lt;go_wp2_with fail
      ·refine Zu ?_ rfl (.inr ⟨(k.toNat:Int),(some ⟨ga,0,none⟩),2,cap,S,HP.out,rfl,?_⟩)
       ·simp[results,results149,go_sem,hC,EK.out]
       ·(have:=Exi.mk hE;exact Exi.out)
      ·refine Zu ?_ rfl (.inl ⟨⟨k,ga,cap,ca,[p,q],S⟩,HP.out,rfl,HS,⟨?_,?_⟩,?_⟩)
       ·simp[results,results149,go_sem,hC,Pc.ci,Pc.cs,EK.out]
       ·repeat' (with_reducible first|exact hbA|refine Box.far ?_ (by simp<;>omega) _)
       ·exact HCA.out
       ·(have:=Exi.mk hE;exact Exi.out)
    ·have hnI:((ns.length:Int)==2)=false:=by rw[beq_eq_false_iff_ne];omega
     have hnI2:¬(ns.length:Int)=2:=by omega
     have HP:Hid (Yl (k::t)=none):=Zz (by rw[Xv HNN.out,hk97];simp[Wx,hn]);clear hn HNN HO;clear hk97;have hS:Zo w wr _:=Zo.put (Zo.put (⟨HE.out,trivial⟩:Zo w wr []) bR) bP;have hC:=hS.rd;simp only[Zr,Zq] at hC;have hE:=hS.ex;go_wp2_with fail;refine Zu ?_ rfl (.inr ⟨(k.toNat:Int),A,ns.length,cap,S,HP.out,rfl,?_⟩)
     ·simp[results,results149,go_sem,hC,EK.out]
     ·(have:=Exi.mk hE;exact Exi.out)
end
section
open Go.RowKit

attribute [local go_sem] Zg Zf
theorem Do(k:UInt8)(t:Ub)(hk119:k≠119)(hk114:k≠114)(hk102:k≠102)(hk97:k≠97)(hk100:k≠100)(hl:(k::t).length≤1048576)(w:World)(hm:Wn w):Calls prog 149 #[(Bs (k::t))] w (Ey w (k::t)):=by
 have HK119:=Zz hk119;have HK114:=Zz hk114;have HK102:=Zz hk102;have HK97:=Zz hk97;have HK100:=Zz hk100;clear hk119 hk114 hk102 hk97 hk100;have hlt:t.length≤1048576:=by simp at hl;omega
 have hx1:=Ou k t;obtain⟨S,HS⟩:=nm (Bs (k::t));have hsz:S.size=t.length+1:=by rw[HS.out];rfl
 obtain⟨hs0,hk0⟩:∃hs:0<S.size,S[0]'hs=k:=by
  obtain⟨h1,h2⟩:=Rq HS.out (i:=0) (by simp);exact⟨h1,h2⟩
 rw[←HS.out] at hx1 ⊢;have hne:¬S=(⟨#[]⟩:ByteArray):=fun e=>by rw[e] at hs0;exact absurd hs0 (by decide)
 have hne2:S.toList.isEmpty=false:=by simpa using Ta hne
 clear hne;have ks:=fun w hm=>Db t hlt w hm
 have HW:Hid (∀x∈cds t,x.length≤1048576):=Zz fun x hx=>by
  have h1:=Sr t x hx;omega
 have HCL:Hid ((cds t).length≤1048576):=Zz (by have h1:=Nb t;simp only[List.length_cons] at hl;omega);generalize hT:Bs t=T at hx1 ks;have HM:=Zz hm;have KS:=Zz ks;have HX1:=Zz hx1;clear hm ks hT;obtain⟨hS,hC⟩:=s0 w;go_in;go_upto_region 5 with fail;have bR:=(Box.new w #[.int .u8 0, .slice none 0 0, .string ⟨#[]⟩] 169).alloc (.cells #[.int .u8 (k.toNat:Int), .slice none 0 0,S] 169);have bP:=Box.new (w.alloc (.cells #[.int .u8 0, .slice none 0 0, .string ⟨#[]⟩] 169)) #[.int .u8 (k.toNat:Int), .slice none 0 0,S] 169;rw[Zy] at bP;have hE1:Ex w ((w.alloc (.cells #[.int .u8 0, .slice none 0 0, .string ⟨#[]⟩] 169)).alloc (.cells #[.int .u8 (k.toNat:Int), .slice none 0 0,S] 169)):=((Ex.refl w).alloc _).alloc _;have hz1:((w.alloc (.cells #[.int .u8 0, .slice none 0 0, .string ⟨#[]⟩] 169)).alloc (.cells #[.int .u8 (k.toNat:Int), .slice none 0 0,S] 169)).heap.size=w.heap.size+2:=by simp only[Zy]
 generalize (w.alloc (.cells #[.int .u8 0, .slice none 0 0, .string ⟨#[]⟩] 169)).alloc (.cells #[.int .u8 (k.toNat:Int), .slice none 0 0,S] 169)=W1 at*;clear hC hS hk0;have hs1:(1:Int)≤(S.size:Int):=by omega
 clear hsz hl hlt;go_wp2_with fail;refine(KS.out _ (HM.out.ex hE1)).mono ?_;rintro e W2 ⟨g,gc,cur,rfl,hg,bG,HG,hx⟩;replace bR:=bR.ex hx;replace bP:=bP.ex hx;have hE2:=hE1.trans hx;have hz2:=hx.size;clear hx hE1 KS;go_wp2_with fail;have hO0:Un W2 (w.heap.size+2) none 0 []:=⟨by simp, .inl ⟨rfl,rfl⟩⟩
 go_loopw [25,6,7,8] (fun i f n o wr=>∃(j:Nat) (A:Option Addr) (cap:Nat) (ns:List Int),i= .int .i64 j∧j≤(cds t).length∧Hid (Xg Xt ((cds t).take j)=some ns)∧Box wr (w.heap.size+1) 169 #[.int .u8 (k.toNat:Int), .slice A ns.length cap,S]∧
   Box wr w.heap.size 169 #[.int .u8 0, .slice none 0 0, .string ⟨#[]⟩]∧Box wr g 9 cur∧Hid (Un wr (w.heap.size+2) A cap ns)∧Hid (Ex w wr)) (fun i _ _ _ _=>(cds t).length+1-(intOf i).toNat)
 case atStart=>exact⟨0,none,0,[],rfl,by omega,Zz rfl,bP,bR,bG,Zz hO0,Zz hE2⟩
 case round=>
  clear bP bR bG hO0 hE2 hz2;obtain⟨j,A,cap,ns,rfl,hj,HN,bP,bR,bG,HO,HE⟩:=hrel;have hnl:ns.length≤1048576:=by
   have h1:=Wd HN.out;have h2:=List.length_take_le j (cds t);have h3:=HCL.out;omega
  by_cases hlt:j<(cds t).length
  ·have hcell:=HG.out j hlt;have hmem:(cds t)[j]∈cds t:=List.getElem_mem hlt;have hxl:=HW.out _ hmem;have HMs:Hid (Xg Xt ((cds t).take (j+1))=Xg Xt ((cds t).take j++[(cds t)[j]])):=Zz (by rw[Xf hlt]);generalize (cds t)[j]=x at*;have kp:=fun w hm=>It x hxl w hm
   have hlI:(j:Int)<((cds t).length:Int):=by omega
   have hw5:=wr1 j (by have:=HCL.out;omega);obtain⟨X,HX⟩:=nm (Bs x);rw[←HX.out] at hcell kp;have KP:=Zz kp;have HMem:=Zz hmem;have cG:=bG.cell;have zG:=bG.lt;clear kp hmem hxl;go_wp2_with fail;refine(KP.out _ (HM.out.ex HE.out)).mono ?_;rintro e w2 ⟨n,ok,rfl,hx,hn⟩;have HNn:=Zz hn;replace bP:=bP.ex hx;replace bR:=bR.ex hx;replace bG:=bG.ex hx;have HE2:=Zz (HE.out.trans hx);have HO2:=Zz (HO.out.ex hx);clear hx hn cG zG KP hcell;have cP:=bP.cell;have fP:=bP.frozen;have zP:=bP.lt;have cR:=bR.cell;have fR:=bR.frozen;have zR:=bR.lt;rcases ok with _|_
   ·have HNo:Hid (Yl (k::t)=none):=Zz (Qo (Qp HNn.out HMem.out));go_wp2;refine Zu ?_ rfl (.inr ⟨k.toNat,A,ns.length,cap,S,HNo.out,rfl,?_⟩)
    ·simp[results,results149,go_sem,cP,cR]
    ·have hE:=HE2.out;(have:=Exi.mk hE;exact Exi.out)
   ·have hs2:=HE2.out.size;go_wp2_with (at_builtin;refine Vj rfl _ _ w2 rfl (w.heap.size+2) A cap ns n rfl HO2.out rfl hnl (by omega) ?_);intro A' cap' w' hown' hk';have HE3:=Zz (hk'.ex w HE2.out (by omega));replace bP:=hk'.box _ _ _ bP (by decide);replace bR:=hk'.box _ _ _ bR (by decide);replace bG:=hk'.box _ _ _ bG (by decide);have HO3:=Zz hown';have cP:=bP.cell;have fP:=bP.frozen;have zP:=bP.lt;clear hown' hk' HO2 HE2 cR fR zR;have HN3:Hid (Xg Xt ((cds t).take (j+1))=some (ns++[n])):=Zz (by rw[HMs.out];exact Ve HNn.out HN.out);clear HNn HMs;go_wp2;have bP3:Box (w'.setCell ⟨w.heap.size+1,1,none⟩ (.slice A' (ns.length+1) cap')) (w.heap.size+1) 169 #[.int .u8 (k.toNat:Int), .slice A' (ns++[n]).length cap',S]:=by
     have h:=bP.set_ 1 (.slice A' (ns.length+1) cap');simpa using h
    have bR3:=bR.far (p:=⟨w.heap.size+1,1,none⟩) (by simp) (.slice A' (ns.length+1) cap');have bG3:=bG.far (p:=⟨w.heap.size+1,1,none⟩) (by simp;omega) (.slice A' (ns.length+1) cap');have HO4:=Zz (HO3.out.setBelow (p:=⟨w.heap.size+1,1,none⟩) (by simp) (.slice A' (ns.length+1) cap'));have HE4:=Zz (HE3.out.setCell (p:=⟨w.heap.size+1,1,none⟩) (by simp) (.slice A' (ns.length+1) cap'));go_roundw
    case rel=>exact⟨j+1,A',cap',ns++[n],by go_num,by omega,HN3,bP3,bR3,bG3,HO4,HE4⟩
    case measure=>simp[intOf]<;>omega
  ·
   have hk119:=HK119.out;have hk114:=HK114.out;have hk102:=HK102.out;have hk97:=HK97.out;have hk100:=HK100.out;obtain rfl:j=(cds t).length:=by omega
   have hlI:¬((cds t).length:Int)<((cds t).length:Int):=by omega
   have HNN:Hid (Xg Xt (cds t)=some ns):=Zz (by have:=HN.out;rwa[List.take_length] at this);clear HN HG bG hj hnl HM HW HX1;clear hlt;go_upto_region 13 with fail;clear hlI;have e119:=Ig hk119;have e114:=Ig hk114;have e102:=Ig hk102;have e97:=Ig hk97;have e100:=Ig hk100;simp only[show((119:UInt8).toNat:Int)=119 from rfl] at e119;simp only[show((114:UInt8).toNat:Int)=114 from rfl] at e114;simp only[show((102:UInt8).toNat:Int)=102 from rfl] at e102;simp only[show((97:UInt8).toNat:Int)=97 from rfl] at e97;simp only[show((100:UInt8).toNat:Int)=100 from rfl] at e100;by_cases hn:ns.length=2
   ·obtain⟨p,q,rfl⟩:=Ztd hn;clear hn;obtain⟨ga,ca,rfl,hga,bA,hca⟩:=Own.box HO.out (by simp);clear HO;simp only[List.length_cons,List.length_nil,Nat.reduceAdd] at bP;have d0:ca[0]? =some (.int .i64 p):=(hca 0 (by simp)).trans rfl;have d1:ca[1]? =some (.int .i64 q):=(hca 1 (by simp)).trans rfl;have HCA:Hid (∀j,j<[p,q].length→ca[j]? =some (.int .i64 ([p,q].getD j 0))):=Zz fun j hj=>by
     simp only[List.length_cons,List.length_nil,Nat.reduceAdd] at hj;obtain rfl|rfl:j=0∨j=1:=by omega
     ·exact d0
     ·exact d1
    clear hca;have kd:=fun w=>Sf p q w
    obtain⟨c1,c2,c3,e1,e2,e3,hdv⟩:=Zws p q;rw[hdv] at kd;clear hdv;rcases hd:Wl p q with _|_
    all_goals
     rw[hd] at kd;have HP:Hid (Yl (k::t)=none):=Zz (by rw[Xv HNN.out];simp[Wx,hd,hk119,hk114,hk102,hk97,hk100]);clear HNN hd;clear hk119 hk114 hk102 hk97 hk100;have KD:=Zz kd;clear kd;have hS:Zo w wr _:=Zo.put (Zo.put (⟨HE.out,trivial⟩:Zo w wr []) bR) bP;replace hS:=Zo.put hS bA;have hC:=hS.rd;simp only[Zr,Zq] at hC;have hE:=hS.ex;go_upto_region 18 with fail;clear hC hE;have hS0:=hS;refine Kg hS0 13 1 30 10 11 63 64 Oa Oa #[c1,c2,c3] #[e1,e2,e3] (by kernel_rfl) rfl ?_;iterate 8 (apply Zp;rfl;intro b u B Q q;have hS:=B.sees;have hC:=hS.rd;simp only[Zr,Zq] at hC;go_wp2;exact q _ (Ex.refl _) B;exact⟨_,rfl⟩)
     (apply Zp;rfl;intro b u B Q q;go_wp2_with (with_reducible refine Yw (KD.out _) fun wn hx=>?_);exact q _ hx (B.go hx);exact⟨_,rfl⟩);iterate 4 (apply Zp;rfl;intro b u B Q q;go_wp2;exact q _ (Ex.refl _) B;exact⟨_,rfl⟩)
     refine Zn ⟨⟨_,rfl,Yt⟩,⟨_,rfl,Yt⟩,⟨_,rfl,Wy Ym rfl (by kernel_rfl)⟩,⟨_,rfl,Wy Ym rfl (by kernel_rfl)⟩,show(10:Nat)<105 by decide,show(11:Nat)<105 by decide,fun g0 g1 wz hg0 hg1 hS=>?_⟩;simp only[Act.put,Zx,Zw,Zv,Nat.reduceAdd,List.drop_succ_cons,List.drop_zero];clear hS0;replace hS:=hS.tail.tail;clear hg0 hg1;have hC:=hS.rd;simp only[Zr,Zq] at hC;have hE:=hS.ex;have hbA:=hS.boxes.1;have hl1:=hS.boxes.2.1.lt;go_wp2_with fail;refine Zu ?_ rfl (.inr ⟨(k.toNat:Int),(some ⟨ga,0,none⟩),2,cap,S,HP.out,rfl,?_⟩)
     ·simp[results,results149,go_sem,hC]
     ·(have:=Exi.mk hE;exact Exi.out)
   ·have hnI:((ns.length:Int)==2)=false:=by rw[beq_eq_false_iff_ne];omega
    have hnI2:¬(ns.length:Int)=2:=by omega
    have HP:Hid (Yl (k::t)=none):=Zz (by rw[Xv HNN.out];simp[Wx,hn,hk119,hk114,hk102,hk97,hk100]);clear hn HNN HO;clear hk119 hk114 hk102 hk97 hk100;have hS:Zo w wr _:=Zo.put (Zo.put (⟨HE.out,trivial⟩:Zo w wr []) bR) bP;have hC:=hS.rd;simp only[Zr,Zq] at hC;have hE:=hS.ex;go_wp2_with fail;refine Zu ?_ rfl (.inr ⟨(k.toNat:Int),A,ns.length,cap,S,HP.out,rfl,?_⟩)
    ·simp[results,results149,go_sem,hC]
    ·(have:=Exi.mk hE;exact Exi.out)
end
section
open Go.RowKit

attribute [local go_sem] Zg Zf
theorem Zyu(c:UInt8)(hc:c=114∨c=102)(k:UInt8)(t:Ub)(ht0:t≠[])(hk114:k=c)(hl:(k::t).length≤1048576)(w:World):Calls prog 167 #[(Bs (k::t))] w (Ho w (k::t)):=by
 obtain⟨C,hC⟩:∃C:Int,Hid (C=((c.toNat:Nat):Int)):=⟨_,Zz rfl⟩
 have q119:(C==119)=false:=by rw[hC.out];rcases hc with rfl|rfl<;>rfl
 have q97:(C==97)=false:=by rw[hC.out];rcases hc with rfl|rfl<;>rfl
 have q100:(C==100)=false:=by rw[hC.out];rcases hc with rfl|rfl<;>rfl
 rcases hc with rfl|rfl
 all_goals
  have q1:=congrArg (fun x:Int=>x==114) hC.out;have q2:=congrArg (fun x:Int=>x==102) hC.out;simp only[show(((114:UInt8).toNat:Nat):Int)=114 from rfl,show(((102:UInt8).toNat:Nat):Int)=102 from rfl,Int.reduceBEq] at q1 q2;have HK114:=Zz hk114;clear hk114;have hlt:t.length≤1048576:=by simp at hl;omega
  have hx1:=Ou k t;obtain⟨S,HS⟩:=nm (Bs (k::t));have hsz:S.size=t.length+1:=by rw[HS.out];rfl
  obtain⟨hs0,hk0⟩:∃hs:0<S.size,S[0]'hs=k:=by
   obtain⟨h1,h2⟩:=Rq HS.out (i:=0) (by simp);exact⟨h1,h2⟩
  rw[←HS.out] at hx1 ⊢;have ks:=fun w=>Zmc t hlt w
  have HW:Hid (∀x∈cds t,x.length≤1048576):=Zz fun x hx=>by
   have h1:=Sr t x hx;omega
  have HCL:Hid ((cds t).length≤1048576):=Zz (by have h1:=Nb t;simp only[List.length_cons] at hl;omega);have hs2:¬(S.size:Int)<2:=by
   have:t.length≠0:=fun e=>ht0 (List.length_eq_zero_iff.1 e)
   omega
  generalize hT:Bs t=T at hx1 ks;have KS:=Zz ks;have HX1:=Zz hx1;clear ks hT ht0;obtain⟨hS,hC⟩:=s0 w;go_in;go_upto_region 4 with fail;have bR:=((Box.new w #[.int .u8 0, .slice none 0 0] 193).alloc (.cells #[] 3)).alloc (.cells #[.int .u8 (k.toNat:Int), .slice (some ⟨w.heap.size+1,0,none⟩) 0 0] 193);have bP:=Box.new ((w.alloc (.cells #[.int .u8 0, .slice none 0 0] 193)).alloc (.cells #[] 3)) #[.int .u8 (k.toNat:Int), .slice (some ⟨w.heap.size+1,0,none⟩) 0 0] 193;have hO0:=(Hc (w.alloc (.cells #[.int .u8 0, .slice none 0 0] 193)) (w.heap.size+1) (by simp)).alloc (.cells #[.int .u8 (k.toNat:Int), .slice (some ⟨w.heap.size+1,0,none⟩) 0 0] 193);simp only[Zy] at bP hO0;have hE1:Ex w (((w.alloc (.cells #[.int .u8 0, .slice none 0 0] 193)).alloc (.cells #[] 3)).alloc (.cells #[.int .u8 (k.toNat:Int), .slice (some ⟨w.heap.size+1,0,none⟩) 0 0] 193)):=(((Ex.refl w).alloc _).alloc _).alloc _;have hz1:(((w.alloc (.cells #[.int .u8 0, .slice none 0 0] 193)).alloc (.cells #[] 3)).alloc (.cells #[.int .u8 (k.toNat:Int), .slice (some ⟨w.heap.size+1,0,none⟩) 0 0] 193)).heap.size=w.heap.size+3:=by simp only[Zy]
  generalize ((w.alloc (.cells #[.int .u8 0, .slice none 0 0] 193)).alloc (.cells #[] 3)).alloc (.cells #[.int .u8 (k.toNat:Int), .slice (some ⟨w.heap.size+1,0,none⟩) 0 0] 193)=W1 at*;clear hC hS hk0;have hs1:(1:Int)≤(S.size:Int):=by omega
  clear hsz hl hlt;go_wp2_with fail;refine(KS.out _).mono ?_;rintro e W2 ⟨g,gc,cur,rfl,hg,bG,HG,hx⟩;replace bR:=bR.ex hx;replace bP:=bP.ex hx;have hO1:=hO0.ex hx;have hE2:=hE1.trans hx;have hz2:=hx.size;clear hx hE1 KS hO0;go_wp2_with fail;go_loopw [6,7,8] (fun i n o wr=>∃(j:Nat) (A:Option Addr) (cap:Nat) (ns:List Int),i= .int .i64 j∧j≤(cds t).length∧Hid (Xg Xt ((cds t).take j)=some ns)∧Box wr (w.heap.size+2) 193 #[.int .u8 (k.toNat:Int), .slice A ns.length cap]∧
    Box wr w.heap.size 193 #[.int .u8 0, .slice none 0 0]∧Box wr g 9 cur∧Hid (Un wr (w.heap.size+1) A cap ns)∧Hid (Ex w wr)) (fun i _ _ _=>(cds t).length+1-(intOf i).toNat)
  case atStart=>exact⟨0,some ⟨w.heap.size+1,0,none⟩,0,[],rfl,by omega,Zz rfl,bP,bR,bG,Zz hO1,Zz hE2⟩
  case round=>
   clear bP bR bG hO1 hE2 hz2;obtain⟨j,A,cap,ns,rfl,hj,HN,bP,bR,bG,HO,HE⟩:=hrel;have hnl:ns.length≤1048576:=by
    have h1:=Wd HN.out;have h2:=List.length_take_le j (cds t);have h3:=HCL.out;omega
   by_cases hlt:j<(cds t).length
   ·have hcell:=HG.out j hlt;have hmem:(cds t)[j]∈cds t:=List.getElem_mem hlt;have hxl:=HW.out _ hmem;have HMs:Hid (Xg Xt ((cds t).take (j+1))=Xg Xt ((cds t).take j++[(cds t)[j]])):=Zz (by rw[Xf hlt]);generalize (cds t)[j]=x at*;have kp:=fun w=>Ov x hxl w
    have hlI:(j:Int)<((cds t).length:Int):=by omega
    have hw5:=wr1 j (by have:=HCL.out;omega);obtain⟨X,HX⟩:=nm (Bs x);rw[←HX.out] at hcell kp;have KP:=Zz kp;have HMem:=Zz hmem;have cG:=bG.cell;have zG:=bG.lt;clear kp hmem hxl;go_wp2_with fail;refine(KP.out _).mono ?_;rintro e w2 ⟨n,ok,rfl,hx,hn⟩;have HNn:=Zz hn;replace bP:=bP.ex hx;replace bR:=bR.ex hx;replace bG:=bG.ex hx;have HE2:=Zz (HE.out.trans hx);have HO2:=Zz (HO.out.ex hx);clear hx hn cG zG KP hcell;have cP:=bP.cell;have fP:=bP.frozen;have zP:=bP.lt;have cR:=bR.cell;have fR:=bR.frozen;have zR:=bR.lt;rcases ok with _|_
    ·have HNo:Hid (Yl (k::t)=none):=Zz (Ox HMem.out HNn.out);go_wp2;refine Zu ?_ rfl (.inr ⟨k.toNat,A,ns.length,cap,HNo.out,rfl,?_⟩)
     ·simp[results,results167,go_sem,cP,cR]
     ·have hE:=HE2.out;(have:=Exi.mk hE;exact Exi.out)
    ·have hs2:=HE2.out.size;go_wp2_with (at_builtin;refine Vj rfl _ _ w2 rfl (w.heap.size+1) A cap ns n rfl HO2.out rfl hnl (by omega) ?_);intro A' cap' w' hown' hk';have HE3:=Zz (hk'.ex w HE2.out (by omega));replace bP:=hk'.box _ _ _ bP (by decide);replace bR:=hk'.box _ _ _ bR (by decide);replace bG:=hk'.box _ _ _ bG (by decide);have HO3:=Zz hown';have cP:=bP.cell;have fP:=bP.frozen;have zP:=bP.lt;clear hown' hk' HO2 HE2 cR fR zR;have HN3:Hid (Xg Xt ((cds t).take (j+1))=some (ns++[n])):=Zz (by rw[HMs.out];exact Ve HNn.out HN.out);clear HNn HMs;go_wp2;have bP3:Box (w'.setCell ⟨w.heap.size+2,1,none⟩ (.slice A' (ns.length+1) cap')) (w.heap.size+2) 193 #[.int .u8 (k.toNat:Int), .slice A' (ns++[n]).length cap']:=by
      have h:=bP.set_ 1 (.slice A' (ns.length+1) cap');simpa using h
     have bR3:=bR.far (p:=⟨w.heap.size+2,1,none⟩) (by simp) (.slice A' (ns.length+1) cap');have bG3:=bG.far (p:=⟨w.heap.size+2,1,none⟩) (by simp;omega) (.slice A' (ns.length+1) cap');have HO4:Hid (Un _ (w.heap.size+1) A' cap' (ns++[n])):=Zz (Own.setCell (p:=⟨w.heap.size+2,1,none⟩) HO3.out (fun g hg e=>by subst e;exact Own.ne HO3.out bP (by decide) hg.symm) (.slice A' (ns.length+1) cap'));have HE4:=Zz (HE3.out.setCell (p:=⟨w.heap.size+2,1,none⟩) (by simp) (.slice A' (ns.length+1) cap'));go_roundw
     case rel=>exact⟨j+1,A',cap',ns++[n],by go_num,by omega,HN3,bP3,bR3,bG3,HO4,HE4⟩
     case measure=>simp[intOf]<;>omega
   ·
    have hk114:=HK114.out;obtain rfl:j=(cds t).length:=by omega
    have hlI:¬((cds t).length:Int)<((cds t).length:Int):=by omega
    have HNN:Hid (Xg Xt (cds t)=some ns):=Zz (by have:=HN.out;rwa[List.take_length] at this);clear HN HG bG hj hnl HW HX1;clear hlt;go_upto_region 12 with fail;clear hlI;have ek:((k.toNat:Nat):Int)=C:=by rw[hk114];exact hC.out.symm
    rw[ek] at bP;have EK:=Zz ek;clear ek;by_cases hn:ns.length=2
    ·obtain⟨p,q,rfl⟩:=Ztd hn;clear hn;obtain⟨ga,ca,rfl,hga,bA,hca⟩:=Own.box HO.out (by simp);clear HO;simp only[List.length_cons,List.length_nil,Nat.reduceAdd] at bP;have d0:ca[0]? =some (.int .i64 p):=(hca 0 (by simp)).trans rfl;have d1:ca[1]? =some (.int .i64 q):=(hca 1 (by simp)).trans rfl;have HCA:Hid (∀j,j<[p,q].length→ca[j]? =some (.int .i64 ([p,q].getD j 0))):=Zz fun j hj=>by
      simp only[List.length_cons,List.length_nil,Nat.reduceAdd] at hj;obtain rfl|rfl:j=0∨j=1:=by omega
      ·exact d0
      ·exact d1
     clear hca;have kd:=fun w=>Rh p q w
     obtain⟨c1,c2,c3,e1,e2,e3,hdv⟩:=Zws p q;rw[hdv] at kd;clear hdv;rcases hd:Wl p q with _|_
     all_goals
      rw[hd] at kd;first|(have hq:Wl p q=false:=hd;clear hq;have HP:Hid (Yl (k::t)=none):=Zz (by rw[Xv HNN.out,hk114];simp[Wx,hd]))|(have HP:Hid (Yl (k::t)=some (k,[p,q])):=Zz (by rw[Xv HNN.out,hk114];simp[Wx,hd]))
      clear HNN;clear hk114;clear hd;have KD:=Zz kd;clear kd;have hS:Zo w wr _:=Zo.put (Zo.put (⟨HE.out,trivial⟩:Zo w wr []) bR) bP;replace hS:=Zo.put hS bA;have hC:=hS.rd;simp only[Zr,Zq] at hC;have hE:=hS.ex;go_upto_region 18 with fail;clear hC hE;have hS0:=hS;refine Kg hS0 13 1 30 10 11 71 72 Oa Oa #[c1,c2,c3] #[e1,e2,e3] (by kernel_rfl) rfl ?_;iterate 8 (apply Zp;rfl;intro b u B Q q;have hS:=B.sees;have hC:=hS.rd;simp only[Zr,Zq] at hC;go_wp2;exact q _ (Ex.refl _) B;exact⟨_,rfl⟩)
      (apply Zp;rfl;intro b u B Q q;go_wp2_with (with_reducible refine Yw (KD.out _) fun wn hx=>?_);exact q _ hx (B.go hx);exact⟨_,rfl⟩);iterate 4 (apply Zp;rfl;intro b u B Q q;go_wp2;exact q _ (Ex.refl _) B;exact⟨_,rfl⟩)
      refine Zn ⟨⟨_,rfl,Yt⟩,⟨_,rfl,Yt⟩,⟨_,rfl,Wy Ym rfl (by kernel_rfl)⟩,⟨_,rfl,Wy Ym rfl (by kernel_rfl)⟩,show(10:Nat)<128 by decide,show(11:Nat)<128 by decide,fun g0 g1 wz hg0 hg1 hS=>?_⟩;simp only[Act.put,Zx,Zw,Zv,Nat.reduceAdd,List.drop_succ_cons,List.drop_zero];clear hS0;replace hS:=hS.tail.tail;clear hg0 hg1;have hC:=hS.rd;simp only[Zr,Zq] at hC;have hE:=hS.ex;have hbA:=hS.boxes.1;have hl1:=hS.boxes.2.1.lt;go_wp2_with fail
     ·refine Zu ?_ rfl (.inr ⟨(k.toNat:Int),(some ⟨ga,0,none⟩),2,cap,HP.out,rfl,?_⟩)
      ·simp[results,results167,go_sem,hC,EK.out]
      ·(have:=Exi.mk hE;exact Exi.out)
     ·refine Zu ?_ rfl (.inl ⟨⟨k,ga,cap,ca,[p,q],⟨#[]⟩⟩,HP.out,rfl,⟨?_,?_⟩,?_⟩)
      ·simp[results,results167,go_sem,hC,Pc.ci,Pc.cs,EK.out]
      ·repeat' (with_reducible first|exact hbA|refine Box.far ?_ (by simp<;>omega) _)
      ·exact HCA.out
      ·(have:=Exi.mk hE;exact Exi.out)
    ·have hnI:((ns.length:Int)==2)=false:=by rw[beq_eq_false_iff_ne];omega
     have hnI2:¬(ns.length:Int)=2:=by omega
     have HP:Hid (Yl (k::t)=none):=Zz (by rw[Xv HNN.out,hk114];simp[Wx,hn]);clear hn HNN HO;clear hk114;have hS:Zo w wr _:=Zo.put (Zo.put (⟨HE.out,trivial⟩:Zo w wr []) bR) bP;have hC:=hS.rd;simp only[Zr,Zq] at hC;have hE:=hS.ex;go_wp2_with fail;refine Zu ?_ rfl (.inr ⟨(k.toNat:Int),A,ns.length,cap,HP.out,rfl,?_⟩)
     ·simp[results,results167,go_sem,hC,EK.out]
     ·(have:=Exi.mk hE;exact Exi.out)
end
end Go.Proofs.YtiommfmaleeibaaGreatDoor
