/-
  Proved:what functions compute,part 20. No condition.
-/
import Derived.Test.YtiommfmaleeibaaGreatDoorB17
import Derived.Test.YtiommfmaleeibaaGreatDoorB19
set_option linter.unusedSimpArgs false
set_option linter.unusedVariables false
set_option maxRecDepth 20000
set_option maxHeartbeats 8000000
namespace Go.Proofs.YtiommfmaleeibaaGreatDoor
open Go.Proofs.Tryz
section
def Bp(ns:List Int):Fr:=(flow (ns.getD 0 0) 0 (ns.getD 1 0)).1
def Rk(k:UInt8)(ns:List Int):M4×Bool:=
 if k=114 then Xu (ns.getD 0 0) (ns.getD 1 0)
 else if k=119 then Xq (ns.getD 0 0) (ns.getD 1 0) (ns.getD 2 0)
 else if k=102 then Ww (ns.getD 0 0) (ns.getD 1 0)
 else if k=97 then (⟨Bp ns,Fr.nul,Fr.nul,Bp ns⟩,true)
 else (M4.none,false)
def Tt(k:UInt8)(ns:List Int):List Fr×Bool:=
 if k=100 then Py (Bp ns) else if (Rk k ns).2 then Vv (Rk k ns).1 else (Wt 16,false)
def Bo:List (UInt8×List Int)→M4→M4×Bool
 |[],v=>(v,true)
 |p::ps,v=>if (Tt p.1 p.2).2&&(Tj (Tt p.1 p.2).1 v).2 then Bo ps (Tj (Tt p.1 p.2).1 v).1 else (M4.none,false)
def Wp(l:Ub)(v:M4):M4×Bool:=
 match Ys l with
 |some ps=>if Uj v then Bo ps v else (M4.none,false)
 |none=>(M4.none,false)
theorem Zhg{p:UInt8×List Int}{ps:List (UInt8×List Int)}{v:M4}(h1:(Tt p.1 p.2).2=true)(h2:(Tj (Tt p.1 p.2).1 v).2=true):Bo (p::ps) v=Bo ps (Tj (Tt p.1 p.2).1 v).1:=by
 simp[Bo,h1,h2]
theorem Zdh{p:UInt8×List Int}{ps:List (UInt8×List Int)}{v:M4}(h:((Tt p.1 p.2).2&&(Tj (Tt p.1 p.2).1 v).2)=false):Bo (p::ps) v=(M4.none,false):=by
 simp only[Bo,h,Bool.false_eq_true,if_false]
theorem Gj(k:UInt8)(ns:List Int):(Tt k ns).1.length=16:=by
 unfold Tt;split
 ·exact Fc _
 ·split
  ·exact Qr _
  ·simp[Wt]
end
section
section
variable {σ:Type} (f:UInt8×List Int→σ→σ×Bool) (z:σ)
def Bn:List (UInt8×List Int)→σ→σ×Bool
 |[],v=>(v,true)
 |p::ps,v=>if (f p v).2 then Bn ps (f p v).1 else (z,false)
def Um(ps:List (UInt8×List Int))(i:Nat)(v:σ)(ok:Bool):σ×Bool:=if ok then Bn f z (ps.drop i) v else (z,false)
theorem Zkh(ps:List (UInt8×List Int))(v:σ)(ok:Bool):Um f z ps ps.length v ok=if ok then (v,true) else (z,false):=by
 unfold Um;rw[List.drop_length];rfl
theorem Zpa{ps:List (UInt8×List Int)}{i:Nat}(hi:i<ps.length)(v:σ)(ok:Bool){x:σ}{o:Bool}(h:f ps[i] v=(x,o)):
  Um f z ps i v ok=Um f z ps (i+1) x (ok&&o):=by
 unfold Um;rcases ok with _|_
 ·rfl
 ·rw[if_pos rfl,List.drop_eq_getElem_cons hi,Bn,h];rcases o with _|_<;>simp
end
def Mg(p:UInt8×List Int)(a:M4):M4×Bool:=((Yi (Rk p.1 p.2).1 a).1,(Rk p.1 p.2).2&&(Yi (Rk p.1 p.2).1 a).2)
def Nc(p:UInt8×List Int)(v:Fr×Fr):(Fr×Fr)×Bool:=((Ul (Rk p.1 p.2).1 v.1 v.2).1,(Rk p.1 p.2).2&&(Ul (Rk p.1 p.2).1 v.1 v.2).2)
def Ko:M4:=⟨Fr.one,Fr.nul,Fr.nul,Fr.one⟩
def Sj(l:Ub):M4×Bool:=match Ys l with
 |some ps=>Bn Mg M4.none ps Ko
 |none=>(M4.none,false)
def Yz(l:Ub)(x y:Fr):(Fr×Fr)×Bool:=match Ys l with
 |some ps=>if x.valid&&y.valid then Bn Nc (Fr.none,Fr.none) ps (x,y) else ((Fr.none,Fr.none),false)
 |none=>((Fr.none,Fr.none),false)
def Jr(a:M4):Bool:=(Yi a (Tx a).1).2&&decide ((Yi a (Tx a).1).1=Ko)
end
section
def Px(ps:List (UInt8×List Int))(i:Nat)(v:M4)(ok:Bool):M4×Bool:=if ok then Bo (ps.drop i) v else (M4.none,false)
theorem Zop{ps:List (UInt8×List Int)}{i:Nat}(hi:i<ps.length)(v:M4)(ok:Bool):
  Px ps i v ok=Px ps (i+1) (Tj (Tt ps[i].1 ps[i].2).1 v).1 (ok&&(Tt ps[i].1 ps[i].2).2&&(Tj (Tt ps[i].1 ps[i].2).1 v).2):=by
 unfold Px;rw[List.drop_eq_getElem_cons hi];cases ok with
 |false=>simp
 |true=>
  simp only[Bool.true_and,if_true,Bo]
theorem Zkd(ps:List (UInt8×List Int))(v:M4)(ok:Bool):Px ps ps.length v ok=if ok then (v,true) else (M4.none,false):=by
 unfold Px;rw[List.drop_length];rfl
theorem Gh{l:Ub}{ps:List (UInt8×List Int)}(h:Ys l=some ps)(v:M4):Wp l v=Px ps 0 v (Uj v):=by
 unfold Wp Px;rw[h,List.drop_zero]
theorem Gg{l:Ub}(h:Ys l=none)(v:M4):Wp l v=(M4.none,false):=by
 unfold Wp;rw[h]
theorem Bj:∀{ws:List Ub} {ps:List (UInt8×List Int)},Xg Yl ws=some ps→∀p∈ps,Wx p.1 p.2=true
 |[],ps,h,p,hp=>by
  have:ps=[]:=by
   have:=Wd h
   exact List.length_eq_zero_iff.1 this
  subst this;cases hp
 |w::t,ps,h,p,hp=>by
  obtain⟨b,r,h1,h2,rfl⟩:=Qq h;rcases List.mem_cons.1 hp with rfl|hp
  ·obtain⟨_, -, -,hv⟩:=Jt (k:=p.1) (ns:=p.2) h1;exact hv
  ·exact Bj h2 p hp
theorem Tn{l:Ub}{ps:List (UInt8×List Int)}(h:Ys l=some ps):∀p∈ps,Wx p.1 p.2=true:=by
 by_cases hne:l=[]
 ·subst hne;rw[El] at h;injection h with h;subst h;intro p hp;cases hp
 ·exact Bj (Tb h hne).1
end
section
open Go.RowKit

attribute [local go_sem] Zg Zf
theorem slFm:SlT 40 30 (.agg Oa) 3 24:=⟨underlying40,by kernel_rfl,rfl,by omega,by omega⟩
def Zfx(w:World)(r:Fr×Bool):Ending→World→Prop:=fun e w'=>∃(A:Option Addr) (n cap:Nat),e= .returned (.tuple #[.slice A n cap,r.2])∧Ex w w'∧
 (r.2=true→n=1∧Own w' w.heap.size 30 3 (.slice A 1 cap) 1 [.int .i64 r.1.re, .int .i64 r.1.im, .int .i64 r.1.den])
theorem Zsf(p q:Int)(v:M4)(b:Nat)(w:World)[hG:Xz w](hb:Box w b 27 #[p,q]):Calls prog 17 #[.slice (some ⟨b,0,none⟩) 1 1,v.v] w (Zfx w (Qj p q v)):=by
 have hq:Qj p q v=if Uj v&&(Wb p q).2&&(Ur (Wb p q).1 0 v).2 then ((Ur (Wb p q).1 0 v).1,true) else (Fr.none,false):=rfl
 have ks:∀w,Calls prog 57 #[.agg (Zm v.l)] w fun e w'=>e= .returned (.bool (Uj v))∧Ex w w':=fun w=>Rg v.a v.b v.c v.d w
 have km:=fun w (_:Xz w)=>Zju p q w
 have hml:=Zyl p q;have kr:=fun bs bad w hb=>Zsg bs bad (Wb p q).1 hml v w hb
 rw[M4.l_arr];have sV:(Zm v.l).size=12:=rfl;have sR:(Zm (Wb p q).1).size=12:=by rw[Yn,hml]
 have oR:=Zb (Wb p q).1;generalize Qj p q v=R at hq ⊢;generalize Ur (Wb p q).1 0 v=T at hq kr;obtain⟨⟨t1,t2,t3⟩,kt⟩:=T;unfold Vn at kr;simp only[Fr.v] at kr;rcases hM:Wb p q with⟨M,ko⟩;rw[hM] at km kr sR oR hq;simp only at km kr sR oR hq;clear hM hml;generalize Zm M=mc at*;generalize Zm v.l=vc at*;generalize Uj v=sv at*;have KS:=Zz ks;have KM:=Zz km;have KR:=Zz kr;have HQ:=Zz hq;have HG:=Zz hG;clear ks km kr hq;have hV:=Zo.put (Zo.refl w) hb;go_in;go_upto_region 1 with fail;replace hV:=hV.grow ((Ex.refl w).alloc (.cells vc 35));replace hV:=Zo.put hV (Box.new w vc 35);have hO:=Ow (w.alloc (.cells vc 35)) w.heap.size 30 3 (by simp);simp only[Zy] at hO;go_upto_region 2 with fail;replace hV:=hV.grow ((Ex.refl _).alloc (.cells #[] 30));generalize (w.alloc (.cells vc 35)).alloc (.cells #[] 30)=W0 at*;have bV:=hV.boxes.1;have HO:=Zz hO;clear hO;rcases sv with _|_
 ·go_wp2_with (first|(refine Ya (by rfl) _ _ rfl _ _ _ rfl bV underlying35 rfl (Rb sV) ?_)|((with_reducible refine(KS.out _).mono ?_);rintro e w1 ⟨rfl,hx⟩;replace hV:=Zo.after (W:=w) hx));have hE:=hV.ex;refine Zu (v:= .tuple #[.slice (some ⟨w.heap.size+1,0,none⟩) 0 0,false]) ?_ rfl ⟨_,_,_,by rw[HQ.out];rfl,hE,by rw[HQ.out];simp⟩;simp[results,results17,go_sem]
 go_upto_region 5 with(first|(refine Ya (by rfl) _ _ rfl _ _ _ rfl bV underlying35 rfl (Rb sV) ?_)|((with_reducible refine(KS.out _).mono ?_);rintro e w1 ⟨rfl,hx⟩;replace hV:=Zo.after (W:=w) hx;replace HO:=Zz (Own.ex HO.out hx)));clear bV;have hE0:=hV.ex;have HV:=Zz hV;clear hV hE0;go_loopw [25,6,8,9,10,11,12] (fun i o _ _ _ _ _ wr=>(i= .int .i64 0∧o= .slice (some ⟨w.heap.size+1,0,none⟩) 0 0∧Hid (Zo w wr [(w.heap.size,35,vc),(b,27,#[p,q])])∧Hid (Own wr w.heap.size 30 3 (.slice (some ⟨w.heap.size+1,0,none⟩) 0 0) 0 []))∨(i= .int .i64 1∧∃(A:Option Addr) (cap:Nat),o= .slice A 1 cap∧Hid (R=(⟨t1,t2,t3⟩,true))∧Hid (Own wr w.heap.size 30 3 (.slice A 1 cap) 1 [.int .i64 t1, .int .i64 t2, .int .i64 t3])∧Hid (Ex w wr))) (fun i _ _ _ _ _ _ _=>2-(intOf i).toNat)
 case atStart=>exact .inl ⟨rfl,rfl,HV,HO⟩
 case round=>
  clear HV HO;rcases hrel with⟨rfl,rfl,HV,HO⟩|⟨rfl,A,cap,rfl,HR,HO,HE⟩
  ·have hV:=HV.out;have bS:=hV.boxes.2.1;have hC:=hV.rd;simp only[Zr,Zq] at hC;clear HV;go_upto_region 7 with fail;have hx0:=(Ex.refl wr).alloc (.cells #[p,q] 27);have bO:=Own.ex HO.out hx0;replace hV:=Zo.put (hV.grow hx0) (Box.new wr #[p,q] 27);have HO1:=Zz bO;generalize hw1:wr.alloc (.cells #[p,q] 27)=W1 at*;clear hC bO hx0 bS HO hw1;generalize wr.heap.size=g8 at*;have hC:=hV.rd;simp only[Zr,Zq] at hC;go_upto_region 8 with(first|((with_reducible refine(KM.out _ (HG.out.ex hV.ex)).mono ?_);rintro e u1 ⟨rfl,hx⟩;replace HO1:=Zz (Own.ex HO1.out hx);replace hV:=Zo.after (W:=w) hx;clear hx)|(refine wpList_store_row rfl _ _ _ rfl _ _ rfl rfl _ _ (Box.new u1 _ _) (Wa sR) (by rw[sR];rfl) oR ?_));have hB7:=(Box.new u1 Oc 31).setRow mc;have hx1:=((Ex.refl u1).alloc (.cells Oc 31)).setRow (Nat.le_refl _) mc;replace hV:=hV.grow hx1;replace HO1:=Zz (Own.ex HO1.out hx1);generalize (u1.alloc (.cells Oc 31)).setRow u1.heap.size mc=V7 at*;replace hV:=Zo.put hV hB7;clear hB7 hx1 hC;generalize u1.heap.size=g9 at*;have hS0:Zl w (V7.alloc (.cells #[false] 92)) V7.heap.size false _:=Zl.start (h:=hV);have hle:w.heap.size≤V7.heap.size:=hV.ex.size;replace HO1:=Zz (Own.ex HO1.out ((Ex.refl V7).alloc (.cells #[false] 92)));go_upto_region 9 with(go_at_call 46;(with_reducible refine(Ud _ false ko _ hS0.sum).mono ?_);rintro e u2 ⟨rfl,hsm,hbx⟩;have hS:=Zl.call hS0 hsm hbx;replace HO1:=Zz (hsm.own _ _ _ _ _ _ (by decide) HO1.out));clear hS0 hV hsm hbx;generalize V7.heap.size=bs at*;rcases ko with _|_
   ·have hE:=hS.rel hle;have hEE:=hE.alloc (.cells #[] 30);go_wp2_with fail;refine Zu (v:= .tuple #[.slice (some ⟨u2.heap.size,0,none⟩) 0 0,false]) ?_ rfl ⟨_,_,_,by rw[HQ.out];rfl,hEE,by rw[HQ.out];simp⟩;simp[results,results17,go_sem]
   have b9:=hS.boxes.1;have bV:=hS.boxes.2.2.1;rcases kt with _|_
   ·go_wp2_with (first|(refine Ya (by rfl) _ _ rfl _ _ _ rfl b9 underlying31 rfl (Wa sR) ?_)|(refine Ya (by rfl) _ _ rfl _ _ _ rfl bV underlying31 rfl (Wa sV) ?_)|((with_reducible refine(KR.out _ _ _ hS.sum).mono ?_);rintro e u3 ⟨rfl,hsm,hbx⟩;have hS3:=Zl.call hS hsm hbx;have hS4:Zl w (u3.alloc (.cells #[t1,t2,t3] 30)) bs _ _:=Zl.alloc (h:=hS3);have hC:=hS4.rd;simp only[Zr,Zq] at hC));have hEE:=(hS4.rel hle).alloc (.cells #[] 30);refine Zu (v:= .tuple #[.slice (some ⟨u3.heap.size+1,0,none⟩) 0 0,false]) ?_ rfl ⟨_,_,_,by rw[HQ.out];rfl,hEE,by rw[HQ.out];simp⟩;simp[results,results17,go_sem]
   have HR:Hid (R=(⟨t1,t2,t3⟩,true)):=Zz HQ.out;go_wp2_with (first|(refine Ya (by rfl) _ _ rfl _ _ _ rfl b9 underlying31 rfl (Wa sR) ?_)|(refine Ya (by rfl) _ _ rfl _ _ _ rfl bV underlying31 rfl (Wa sV) ?_)|((with_reducible refine(KR.out _ _ _ hS.sum).mono ?_);rintro e u3 ⟨rfl,hsm,hbx⟩;have hS3:=Zl.call hS hsm hbx;have hS4:Zl w (u3.alloc (.cells #[t1,t2,t3] 30)) bs _ _:=Zl.alloc (h:=hS3);have hC:=hS4.rd;simp only[Zr,Zq] at hC;have HO4:=Zz (Own.ex (hsm.own _ _ _ _ _ _ (by decide) HO1.out) ((Ex.refl u3).alloc (.cells #[t1,t2,t3] 30)));have hE4:=hS4.rel hle;have hsz:=hE4.size)|(at_builtin;refine Vq slFm rfl _ _ (u3.alloc (.cells #[t1,t2,t3] 30)) rfl w.heap.size (some ⟨w.heap.size+1,0,none⟩) 0 0 [] [.int .i64 t1, .int .i64 t2, .int .i64 t3] rfl (by simp[Value.oneCell']) rfl HO4.out (by rw[Zy];rfl) (by omega) hsz ?_;intro A' cap' w' hown hk;have HE4:=Zz (hk.ex w hE4 (Nat.le_refl _));have HO5:=Zz hown));go_roundw
   case rel=>exact .inr ⟨by go_num,A',cap',rfl,HR,HO5,HE4⟩
   case measure=>simp[intOf]<;>omega
  ·have hE:=HE.out;have hO:=HO.out;go_wp2_with fail;refine Zu (v:= .tuple #[.slice A 1 cap,true]) ?_ rfl ⟨_,_,_,by rw[HR.out],hE,fun _=>⟨rfl,by rw[HR.out];exact hO⟩⟩;simp[results,results17,go_sem]
end
section
open Go.RowKit

attribute [local go_sem] Zg Zf
def frb(r:Fr×Bool):Value:= .tuple #[r.1.v,r.2]
theorem Ar(v:M4)(w:World):Calls prog 244 #[v.v] w (fun e w'=>e= .returned (frb (Uf v))∧Ex w w'):=by
 have ksv:∀w,Calls prog 57 #[v.v] w fun e w'=>e= .returned (.bool (Uj v))∧Ex w w':=fun w=>Rg v.a v.b v.c v.d w
 have hq:Uf v=if Uj v&&(Zto v).2 then ((Zto v).1,true) else (Fr.none,false):=rfl
 unfold Zto at hq;obtain⟨⟨a1,a2,a3⟩,⟨b1,b2,b3⟩,⟨c1,c2,c3⟩,⟨d1,d2,d3⟩⟩:=v;simp only[M4.v] at ksv ⊢;simp only at hq;generalize Uj _=sv at ksv hq;generalize Uf _=sq at hq ⊢;rcases em1:Zk ⟨b1,b2,b3⟩ ⟨b1,b2,b3⟩ with⟨⟨p1,p2,p3⟩,km1⟩;rcases em2:Zk ⟨c1,c2,c3⟩ ⟨c1,c2,c3⟩ with⟨⟨q1,q2,q3⟩,km2⟩;rcases em3:Zk ⟨d1,d2,d3⟩ ⟨d1,d2,d3⟩ with⟨⟨r1,r2,r3⟩,km3⟩;simp only[em1,em2,em3] at hq;rcases es2:Yo ⟨p1,p2,p3⟩ ⟨q1,q2,q3⟩ with⟨⟨s1,s2,s3⟩,ks2⟩;simp only[es2] at hq;rcases es3:Yo ⟨s1,s2,s3⟩ ⟨r1,r2,r3⟩ with⟨⟨t1,t2,t3⟩,ks3⟩;simp only[es3] at hq;have EM1:=Zz em1;have EM2:=Zz em2;have EM3:=Zz em3;have ES2:=Zz es2;have ES3:=Zz es3;have HQ:=Zz hq;have KS:=Zz ksv;clear em1 em2 em3 es2 es3 hq ksv;have hR:=Zo.refl w;go_in;go_upto_region 1 with fail;have hV:Zo w ((w.alloc (.cells #[a1,a2,a3,b1,b2,b3,c1,c2,c3,d1,d2,d3] 35)).alloc (.cells Oa 30)) _:=inferInstance;clear hR;have hle:w.heap.size≤((w.alloc (.cells #[a1,a2,a3,b1,b2,b3,c1,c2,c3,d1,d2,d3] 35)).alloc (.cells Oa 30)).heap.size:=hV.ex.size;simp only[Zy] at hV;generalize (w.alloc (.cells #[a1,a2,a3,b1,b2,b3,c1,c2,c3,d1,d2,d3] 35)).alloc (.cells Oa 30)=W0 at*;have hW:Zl w (W0.alloc (.cells #[false] 92)) W0.heap.size false _:=Zl.start (h:=hV);have hC:=hW.rd;simp only[Zr,Zq] at hC;go_upto_region 2 with(first|((with_reducible refine(KS.out _).mono ?_);rintro e w1 ⟨rfl,hx⟩;have hW1:=Zl.ex hW hx;clear hx)|(go_at_call 46;(with_reducible refine(Ud _ _ _ _ hW1.sum).mono ?_);rintro e w2 ⟨rfl,hs,hb⟩;have hW2:=Zl.call hW1 hs hb;clear hs hb));clear hC;have hC:=hW2.rd;simp only[Zr,Zq] at hC;go_upto_region 3 with((with_reducible refine(Ye hW2 EM1.out).mono ?_);rintro e w3 ⟨rfl,hW3, -⟩);have hS:=Zl.alloc (h:=hW3) (cs:=#[p1,p2,p3]) (t:=30);have HLT:=Zz (Xy.old hW3.boxes);have hg:w.heap.size≤w3.heap.size:=hW3.sm.size;have HNE:=Zz (fun x hx=>Nat.ne_of_lt (HLT.out x hx));generalize w3.heap.size=g at*;generalize w3.alloc _=W3 at*;clear hW3 hC HLT hW2 hW1 hW hV;refine Ux (fun b w2=>Zl w w2 W0.heap.size b [(g,30,#[p1,p2,p3]),(w.heap.size+1,30,Oa),(w.heap.size,35,#[a1,a2,a3,b1,b2,b3,c1,c2,c3,d1,d2,d3])]) 10 _ (by kernel_rfl) (hS.drewW) (by exact fun _ _ _ _ _ h=>h) ?_;iterate 9 (apply Zp;rfl;intro b u B Q q;have hS:=B;have hC:=hS.rd;simp only[Zr,Zq] at hC;go_wp2;exact q _ trivial B;exact⟨_,rfl⟩)
 (apply Zi;rfl;intro b u B Q q;go_wp2_with ((with_reducible refine(Ye B EM2.out).mono ?_);rintro e wn ⟨rfl,hN,hM⟩);exact q _ trivial hN;exact⟨_,rfl⟩);refine Zn ?_;intro wz hz;clear hS;have hC:=hz.rd;simp only[Zr,Zq] at hC;go_upto_region 4 with((with_reducible refine(Rj hz ES2.out).mono ?_);rintro e wm ⟨rfl,hN, -⟩;have hC:=hN.rd;simp only[Zr,Zq] at hC);have hS:=Zl.set3 hN hg HNE.out (s1) (s2) (s3);generalize (((wm.setCell ⟨g,0,none⟩ (s1)).setCell ⟨g,1,none⟩ (s2)).setCell ⟨g,2,none⟩ (s3))=W4 at*;clear hN hC hz;refine Ux (fun b w2=>Zl w w2 W0.heap.size b [(g,30,#[s1,s2,s3]),(w.heap.size+1,30,Oa),(w.heap.size,35,#[a1,a2,a3,b1,b2,b3,c1,c2,c3,d1,d2,d3])]) 10 _ (by kernel_rfl) (hS.drewW) (by exact fun _ _ _ _ _ h=>h) ?_;iterate 9 (apply Zp;rfl;intro b u B Q q;have hS:=B;have hC:=hS.rd;simp only[Zr,Zq] at hC;go_wp2;exact q _ trivial B;exact⟨_,rfl⟩)
 (apply Zi;rfl;intro b u B Q q;go_wp2_with ((with_reducible refine(Ye B EM3.out).mono ?_);rintro e wn ⟨rfl,hN,hM⟩);exact q _ trivial hN;exact⟨_,rfl⟩);refine Zn ?_;intro wz hz;clear hS;have hC:=hz.rd;simp only[Zr,Zq] at hC;go_upto_region 5 with((with_reducible refine(Rj hz ES3.out).mono ?_);rintro e wm ⟨rfl,hN, -⟩;have hC:=hN.rd;simp only[Zr,Zq] at hC);have hS:=Zl.set3 hN hg HNE.out (t1) (t2) (t3);generalize (((wm.setCell ⟨g,0,none⟩ (t1)).setCell ⟨g,1,none⟩ (t2)).setCell ⟨g,2,none⟩ (t3))=W5 at*;clear hN hC hz;obtain⟨K,hK⟩:∃K,K=(sv&&(km1&&km2&&ks2&&km3&&ks3)):=⟨_,rfl⟩
 have hF:(((((false|| !sv)|| !km1)|| !km2)|| !ks2)|| !km3|| !ks3)= !K:=by rw[hK];simp[Bool.or_assoc]
 rw[hF] at hS;have hq:=HQ.out;rw[←hK] at hq;clear hK hF HQ;rcases K with _|_
 ·simp only[Bool.false_eq_true,if_false] at hq;have HQ:=Zz hq;clear hq;simp only[Bool.not_false] at hS;have hC:=hS.rd;simp only[Zr,Zq] at hC;go_wp2_with ((with_reducible refine(Gs _ _ _ _ _ hS.sum).mono ?_);rintro e wn ⟨rfl,hx⟩;have hS9:=Zl.ex hS hx;have hC:=hS9.rd;simp only[Zr,Zq] at hC;have hE:=hS9.rel hle);refine Zu (v:= .tuple #[.agg Oa,false]) ?_ rfl ⟨by rw[HQ.out];rfl,?_⟩
  ·simp[results,results244,go_sem,hC]
  ·(have:=Exi.mk hE;exact Exi.out)
 ·simp only[if_true] at hq;have HQ:=Zz hq;clear hq;simp only[Bool.not_true] at hS;have hC:=hS.rd;simp only[Zr,Zq] at hC;go_wp2_with ((with_reducible refine(In _ _ _ _ _ hS.sum).mono ?_);rintro e wn ⟨rfl,hx⟩;have hS9:=Zl.ex hS hx;have hC:=hS9.rd;simp only[Zr,Zq] at hC;have hE:=hS9.rel hle);refine Zu (v:= .tuple #[.agg #[t1,t2,t3],true]) ?_ rfl ⟨by rw[HQ.out];rfl,?_⟩
  ·simp[results,results244,go_sem,hC]
  ·(have:=Exi.mk hE;exact Exi.out)
end
section
open Go.RowKit

attribute [local go_sem] Zg Zf
theorem Zo.tl{W w:World}{x:Nat×TypeId×Av}{L:Xx}(h:Zo W w (x::L)):Zo W w L:=⟨h.ex,h.boxes.2⟩
theorem Zo.set3{W w:World}{g:Nat}{t:TypeId}{p q r:Value}{L:Xx}(h:Zo W w ((g,t,#[p,q,r])::L))(hg:W.heap.size≤g)(hne:∀x∈L,x.1≠g)(x y z:Value):
  Zo W (((w.setCell ⟨g,0,none⟩ x).setCell ⟨g,1,none⟩ y).setCell ⟨g,2,none⟩ z) ((g,t,#[x,y,z])::L):=by
 refine⟨((h.ex.setCell (p:=⟨g,0,none⟩) hg x).setCell (p:=⟨g,1,none⟩) hg y).setCell (p:=⟨g,2,none⟩) hg z,?_,?_⟩
 ·have h2:=((h.boxes.1.set_ 0 x).set_ 1 y).set_ 2 z;simpa using h2
 ·have:∀{M:Xx},(∀v∈M,v.1≠g)→Xy w M→Xy (((w.setCell ⟨g,0,none⟩ x).setCell ⟨g,1,none⟩ y).setCell ⟨g,2,none⟩ z) M:=by
   intro M;induction M with
   |nil=>exact fun _ _=>trivial
   |cons v M ih=>exact fun hv hB=>⟨((hB.1.far (p:=⟨g,0,none⟩) (hv _ (.head _)) x).far (p:=⟨g,1,none⟩) (hv _ (.head _)) y).far (p:=⟨g,2,none⟩) (hv _ (.head _)) z,ih (fun u hu=>hv u (.tail _ hu)) hB.2⟩
  exact this hne h.boxes.2
theorem Aq(v:M4)(w:World):Calls prog 274 #[v.v] w (fun e w'=>e= .returned (frb (Uf v))∧Ex w w'):=by
 have ksv:∀w,Calls prog 225 #[v.v] w fun e w'=>e= .returned (.bool (Uj v))∧Ex w w':=fun w=>Pb v.a v.b v.c v.d w
 have hq:Uf v=if Uj v&&(Zto v).2 then ((Zto v).1,true) else (Fr.none,false):=rfl
 unfold Zto at hq;obtain⟨⟨a1,a2,a3⟩,⟨b1,b2,b3⟩,⟨c1,c2,c3⟩,⟨d1,d2,d3⟩⟩:=v;simp only[M4.v] at ksv ⊢;simp only at hq;generalize Uj _=sv at ksv hq;generalize Uf _=sq at hq ⊢;have tb:=fun w=>Vy ⟨b1,b2,b3⟩ ⟨b1,b2,b3⟩ w
 have tc:=fun w=>Vy ⟨c1,c2,c3⟩ ⟨c1,c2,c3⟩ w
 have td:=fun w=>Vy ⟨d1,d2,d3⟩ ⟨d1,d2,d3⟩ w
 have vb:=fun h=>Pa (a:=⟨b1,b2,b3⟩) (b:=⟨b1,b2,b3⟩) h
 rcases em1:Zk ⟨b1,b2,b3⟩ ⟨b1,b2,b3⟩ with⟨⟨p1,p2,p3⟩,kp⟩;rcases em2:Zk ⟨c1,c2,c3⟩ ⟨c1,c2,c3⟩ with⟨⟨q1,q2,q3⟩,kq⟩;rcases em3:Zk ⟨d1,d2,d3⟩ ⟨d1,d2,d3⟩ with⟨⟨r1,r2,r3⟩,kr⟩;simp only[em1,em2,em3] at hq;rw[em1] at tb vb;rw[em2] at tc;rw[em3] at td;have a1c:=fun w=>Qd ⟨0,0,1⟩ ⟨p1,p2,p3⟩ w
 have a2c:=fun w=>Qd ⟨p1,p2,p3⟩ ⟨q1,q2,q3⟩ w
 rcases es1:Yo ⟨0,0,1⟩ ⟨p1,p2,p3⟩ with⟨⟨u1,u2,u3⟩,ku⟩;have hu:kp=true→(⟨⟨u1,u2,u3⟩,ku⟩:Fr×Bool)=(⟨p1,p2,p3⟩,true):=fun h=>by rw[←es1];exact Zkm (vb h)
 rcases es2:Yo ⟨p1,p2,p3⟩ ⟨q1,q2,q3⟩ with⟨⟨s1,s2,s3⟩,ks⟩;simp only[es2] at hq;have a3c:=fun w=>Qd ⟨s1,s2,s3⟩ ⟨r1,r2,r3⟩ w
 rcases es3:Yo ⟨s1,s2,s3⟩ ⟨r1,r2,r3⟩ with⟨⟨t1,t2,t3⟩,kt⟩;simp only[es3] at hq;rw[es1] at a1c;rw[es2] at a2c;rw[es3] at a3c;have kTB:∀w,Calls prog 108 #[.agg #[b1,b2,b3], .agg #[b1,b2,b3]] w _:=fun w=>Yc.spell (tb w)
 have TB:=Zz kTB;have kTC:∀w,Calls prog 108 #[.agg #[c1,c2,c3], .agg #[c1,c2,c3]] w _:=fun w=>Yc.spell (tc w)
 have TC:=Zz kTC;have kTD:∀w,Calls prog 108 #[.agg #[d1,d2,d3], .agg #[d1,d2,d3]] w _:=fun w=>Yc.spell (td w)
 have TD:=Zz kTD;have kA1:∀w,Calls prog 217 #[.agg #[oo,oo, .int .i64 1], .agg #[p1,p2,p3]] w _:=fun w=>Yc.spell (a1c w)
 have A1:=Zz kA1;have kA2:∀w,Calls prog 217 #[.agg #[p1,p2,p3], .agg #[q1,q2,q3]] w _:=fun w=>Yc.spell (a2c w)
 have A2:=Zz kA2;have kA3:∀w,Calls prog 217 #[.agg #[s1,s2,s3], .agg #[r1,r2,r3]] w _:=fun w=>Yc.spell (a3c w)
 have A3:=Zz kA3;have HQ:=Zz hq;have KS:=Zz ksv;have HU:=Zz hu;clear tb tc td a1c a2c a3c kTB kTC kTD kA1 kA2 kA3 hq ksv em1 em2 em3 es1 es2 es3 hu vb;have hR:=Zo.refl w;go_in;go_upto_region 2 with fail;have hS:Zo w (((w.alloc (.cells #[a1,a2,a3,b1,b2,b3,c1,c2,c3,d1,d2,d3] 35)).alloc (.cells Oa 30)).alloc (.cells #[oo,oo, .int .i64 1] 30)) _:=inferInstance;clear hR;simp only[Zy] at hS;generalize ((w.alloc (.cells #[a1,a2,a3,b1,b2,b3,c1,c2,c3,d1,d2,d3] 35)).alloc (.cells Oa 30)).alloc (.cells #[oo,oo, .int .i64 1] 30)=W0 at*;have hC:=hS.rd;simp only[Zr,Zq] at hC;go_wp2_with fail;refine Yw (KS.out _) fun w1 hx=>?_
 replace hS:=Zo.after (h:=hS) hx;clear hx hC KS;have HG:w.heap.size≤w.heap.size+1+1:=by omega
 have HNE:Hid (∀x∈([(w.heap.size+1,30,Oa),(w.heap.size,35,#[a1,a2,a3,b1,b2,b3,c1,c2,c3,d1,d2,d3])]:Xx),x.1≠w.heap.size+1+1):=Zz (by
  intro x hx;simp only[List.mem_cons,List.not_mem_nil,or_false] at hx;rcases hx with rfl|rfl
  ·simp only;omega
  ·simp only;omega)
 rcases sv with _|_
 ·have hC:=hS.rd;simp only[Zr,Zq] at hC;have hE:=hS.ex;go_wp2_with fail;refine Zu (v:= .tuple #[.agg Oa,false]) ?_ rfl ⟨by rw[HQ.out];simp[frb,Fr.none,Fr.v],?_⟩
  ·simp[results,results274,go_sem,hC]
  ·(have:=Exi.mk hE;exact Exi.out)
 ·have hC:=True.intro;go_wp2_with fail;refine wp_loop_rounds 5 ?_;rw[rounds_succ];go_upto_region 7 with fail;have hS0:=hS;refine Rv hS0 12 1 30 6 29 Oa #[p1,p2,p3] (by kernel_rfl) (by decide) ?_;iterate 8 (apply Zp;rfl;intro b u B Q q;have hC:=B.sees.rd;simp only[Zr,Zq] at hC;go_wp2;exact q _ (Ex.refl _) B;exact⟨_,rfl⟩)
  (apply Zp;rfl;intro b u B Q q;go_wp2_with (with_reducible refine Yw (TB.out _) fun wn hx=>?_);exact q _ hx (B.go hx);exact⟨_,rfl⟩);iterate 3 (apply Zp;rfl;intro b u B Q q;go_wp2;exact q _ (Ex.refl _) B;exact⟨_,rfl⟩)
  refine Zn ⟨⟨_,rfl,Yt⟩,⟨_,rfl,Wy Ym rfl (by kernel_rfl)⟩,show(6:Nat)<46 by decide,fun g0 wz hg0 hS=>?_⟩;simp only[Act.put,Zx,Zw,Zv,Nat.reduceAdd,List.drop_succ_cons,List.drop_zero];clear hS0;have hC:=hS.rd;simp only[Zr,Zq] at hC;go_wp2_with fail;refine(A1.out _).mono ?_;rintro e w2 ⟨rfl,hx⟩;replace hS:=Zo.after (h:=hS) hx;clear hx hC;have hC:=hS.rd;simp only[Zr,Zq] at hC;go_upto_region 9 with fail;replace hS:=Zo.alloc (h:=hS) (cs:=#[u1,u2,u3]) (t:=30);clear hC;generalize w2.alloc _=W2 at*;generalize w2.heap.size=g8 at*;rcases kp with _|_
  ·have hC:=hS.rd;simp only[Zr,Zq] at hC;have hE:=hS.ex;go_wp2_with fail;refine Zu (v:= .tuple #[.agg Oa,false]) ?_ rfl ⟨by rw[HQ.out];simp[frb,Fr.none,Fr.v],?_⟩
   ·simp[results,results274,go_sem,hC]
   ·(have:=Exi.mk hE;exact Exi.out)
  ·have hu:=HU.out rfl;simp only[Prod.mk.injEq,Fr.mk.injEq] at hu;obtain⟨⟨rfl,rfl,rfl⟩,rfl⟩:=hu;have hS0:=hS;clear hS;have hC:=hS0.rd;simp only[Zr,Zq] at hC;go_wp2_with fail;have hS:=Zo.set3 (Zo.tl (Zo.tl hS0)) HG HNE.out (u1) (u2) (u3);clear hS0;generalize ((W2.setCell ⟨w.heap.size+1+1,0,none⟩ (u1)).setCell ⟨w.heap.size+1+1,1,none⟩ (u2)).setCell ⟨w.heap.size+1+1,2,none⟩ (u3)=W9 at*;clear hC;rw[rounds_succ];go_upto_region 7 with fail;have hS0:=hS;refine Rv hS0 12 1 30 6 29 Oa #[q1,q2,q3] (by kernel_rfl) (by decide) ?_;iterate 8 (apply Zp;rfl;intro b u B Q q;have hC:=B.sees.rd;simp only[Zr,Zq] at hC;go_wp2;exact q _ (Ex.refl _) B;exact⟨_,rfl⟩)
   (apply Zp;rfl;intro b u B Q q;go_wp2_with (with_reducible refine Yw (TC.out _) fun wn hx=>?_);exact q _ hx (B.go hx);exact⟨_,rfl⟩);iterate 3 (apply Zp;rfl;intro b u B Q q;go_wp2;exact q _ (Ex.refl _) B;exact⟨_,rfl⟩)
   refine Zn ⟨⟨_,rfl,Yt⟩,⟨_,rfl,Wy Ym rfl (by kernel_rfl)⟩,show(6:Nat)<46 by decide,fun g0 wz hg0 hS=>?_⟩;simp only[Act.put,Zx,Zw,Zv,Nat.reduceAdd,List.drop_succ_cons,List.drop_zero];clear hS0;have hC:=hS.rd;simp only[Zr,Zq] at hC;go_wp2_with fail;refine(A2.out _).mono ?_;rintro e w2 ⟨rfl,hx⟩;replace hS:=Zo.after (h:=hS) hx;clear hx hC;have hC:=hS.rd;simp only[Zr,Zq] at hC;go_upto_region 9 with fail;replace hS:=Zo.alloc (h:=hS) (cs:=#[s1,s2,s3]) (t:=30);clear hC;generalize w2.alloc _=W2 at*;generalize w2.heap.size=g8 at*;rcases kq with _|_
   ·have hC:=hS.rd;simp only[Zr,Zq] at hC;have hE:=hS.ex;go_wp2_with fail;refine Zu (v:= .tuple #[.agg Oa,false]) ?_ rfl ⟨by rw[HQ.out];simp[frb,Fr.none,Fr.v],?_⟩
    ·simp[results,results274,go_sem,hC]
    ·(have:=Exi.mk hE;exact Exi.out)
   ·rcases ks with _|_
    ·have hC:=hS.rd;simp only[Zr,Zq] at hC;have hE:=hS.ex;go_wp2_with fail;refine Zu (v:= .tuple #[.agg Oa,false]) ?_ rfl ⟨by rw[HQ.out];simp[frb,Fr.none,Fr.v],?_⟩
     ·simp[results,results274,go_sem,hC]
     ·(have:=Exi.mk hE;exact Exi.out)
    ·have hS0:=hS;clear hS;have hC:=hS0.rd;simp only[Zr,Zq] at hC;go_wp2_with fail;have hS:=Zo.set3 (Zo.tl (Zo.tl hS0)) HG HNE.out (s1) (s2) (s3);clear hS0;generalize ((W2.setCell ⟨w.heap.size+1+1,0,none⟩ (s1)).setCell ⟨w.heap.size+1+1,1,none⟩ (s2)).setCell ⟨w.heap.size+1+1,2,none⟩ (s3)=W9 at*;clear hC;rw[rounds_succ];go_upto_region 7 with fail;have hS0:=hS;refine Rv hS0 12 1 30 6 29 Oa #[r1,r2,r3] (by kernel_rfl) (by decide) ?_;iterate 8 (apply Zp;rfl;intro b u B Q q;have hC:=B.sees.rd;simp only[Zr,Zq] at hC;go_wp2;exact q _ (Ex.refl _) B;exact⟨_,rfl⟩)
     (apply Zp;rfl;intro b u B Q q;go_wp2_with (with_reducible refine Yw (TD.out _) fun wn hx=>?_);exact q _ hx (B.go hx);exact⟨_,rfl⟩);iterate 3 (apply Zp;rfl;intro b u B Q q;go_wp2;exact q _ (Ex.refl _) B;exact⟨_,rfl⟩)
     refine Zn ⟨⟨_,rfl,Yt⟩,⟨_,rfl,Wy Ym rfl (by kernel_rfl)⟩,show(6:Nat)<46 by decide,fun g0 wz hg0 hS=>?_⟩;simp only[Act.put,Zx,Zw,Zv,Nat.reduceAdd,List.drop_succ_cons,List.drop_zero];clear hS0;have hC:=hS.rd;simp only[Zr,Zq] at hC;go_wp2_with fail;refine(A3.out _).mono ?_;rintro e w2 ⟨rfl,hx⟩;replace hS:=Zo.after (h:=hS) hx;clear hx hC;have hC:=hS.rd;simp only[Zr,Zq] at hC;go_upto_region 9 with fail;replace hS:=Zo.alloc (h:=hS) (cs:=#[t1,t2,t3]) (t:=30);clear hC;generalize w2.alloc _=W2 at*;generalize w2.heap.size=g8 at*;rcases kr with _|_
     ·have hC:=hS.rd;simp only[Zr,Zq] at hC;have hE:=hS.ex;go_wp2_with fail;refine Zu (v:= .tuple #[.agg Oa,false]) ?_ rfl ⟨by rw[HQ.out];simp[frb,Fr.none,Fr.v],?_⟩
      ·simp[results,results274,go_sem,hC]
      ·(have:=Exi.mk hE;exact Exi.out)
     ·rcases kt with _|_
      ·have hC:=hS.rd;simp only[Zr,Zq] at hC;have hE:=hS.ex;go_wp2_with fail;refine Zu (v:= .tuple #[.agg Oa,false]) ?_ rfl ⟨by rw[HQ.out];simp[frb,Fr.none,Fr.v],?_⟩
       ·simp[results,results274,go_sem,hC]
       ·(have:=Exi.mk hE;exact Exi.out)
      ·have hS0:=hS;clear hS;have hC:=hS0.rd;simp only[Zr,Zq] at hC;go_wp2_with fail;have hS:=Zo.set3 (Zo.tl (Zo.tl hS0)) HG HNE.out (t1) (t2) (t3);clear hS0;generalize ((W2.setCell ⟨w.heap.size+1+1,0,none⟩ (t1)).setCell ⟨w.heap.size+1+1,1,none⟩ (t2)).setCell ⟨w.heap.size+1+1,2,none⟩ (t3)=W9 at*;clear hC;rw[rounds_succ];have hC:=hS.rd;simp only[Zr,Zq] at hC;have hE:=hS.ex;go_wp2_with fail;refine Zu (v:= .tuple #[.agg #[t1,t2,t3],true]) ?_ rfl ⟨by rw[HQ.out];simp[frb,Fr.v],?_⟩
       ·simp[results,results274,go_sem,hC]
       ·(have:=Exi.mk hE;exact Exi.out)
end
section
open Go.RowKit

attribute [local go_sem] Zg Zf
theorem Zcs(v:M4)(w:World):Calls prog 204 #[v.v] w (fun e w'=>e= .returned (.tuple #[.int .i64 (Sk v).1, .bool (Sk v).2])∧Ex w w'):=by
 have kq:=fun w=>Ar v w
 have kp:=fun w=>Hz v.a v.a w
 have kc:=fun w=>Zwf (Zk v.a v.a).1 (Uf v).1 w
 have he:Sk v=if (Uf v).2&&(Zk v.a v.a).2 then Of (Zk v.a v.a).1 (Uf v).1 else (0,false):=rfl
 generalize Sk v=ev at he ⊢;obtain⟨⟨a1,a2,a3⟩,⟨b1,b2,b3⟩,⟨c1,c2,c3⟩,⟨d1,d2,d3⟩⟩:=v;simp only[M4.v,frb,Fr.v] at kq kp kc he ⊢;rcases hq:Uf ⟨⟨a1,a2,a3⟩,⟨b1,b2,b3⟩,⟨c1,c2,c3⟩,⟨d1,d2,d3⟩⟩ with⟨⟨q1,q2,q3⟩,okq⟩;rcases hp:Zk ⟨a1,a2,a3⟩ ⟨a1,a2,a3⟩ with⟨⟨p1,p2,p3⟩,okp⟩;rw[hq] at kq kc he;rw[hp] at kp kc he;simp only at kq kc he;rcases hc:Of ⟨p1,p2,p3⟩ ⟨q1,q2,q3⟩ with⟨n,okc⟩;rw[hc] at kc he;have kp2:∀w,Calls prog 117 #[.agg #[a1,a2,a3], .agg #[a1,a2,a3]] w _:=fun w=>Yc.spell (kp w)
 have kc2:∀w,Calls prog 245 #[.agg #[p1,p2,p3], .agg #[q1,q2,q3]] w (fun e w'=>e= .returned (.tuple #[n,okc])∧Ex w w'):=kc;have KQ:=Zz kq;have KP:=Zz kp2;have KC:=Zz kc2;have HE:=Zz he;clear kq kp kc kp2 kc2 he hq hp hc;obtain⟨hS,hC⟩:=s0 w;rcases okq with _|_<;>rcases okp with _|_
 all_goals
  go_in;go_wp2_with ((with_reducible apply Zo.see w;first|exact KQ.out _|exact KP.out _|exact KC.out _);clear hS hC;intro wn hS hC;simp only[Zr,Zq,Zy] at hC);refine Zu ?_ rfl ⟨by first|(rw[HE.out];done)|(rw[HE.out];rfl),?_⟩
  ·simp[results,results204,go_sem]
  ·exact Exi.out
theorem Zvs(v:M4)(w:World):Calls prog 143 #[v.v] w (fun e w'=>e= .returned (.bool (Nt v))∧Ex w w'):=by
 have kq:=fun w=>Zcs v w
 have he:Nt v=((Sk v).2&&decide (0≤(Sk v).1)&&decide (0≤v.a.re)):=rfl;generalize Nt v=lv at he ⊢;generalize Sk v=ev at he kq;obtain⟨⟨a1,a2,a3⟩,⟨b1,b2,b3⟩,⟨c1,c2,c3⟩,⟨d1,d2,d3⟩⟩:=v;obtain⟨n,ok⟩:=ev;simp only[M4.v] at kq he ⊢;have KQ:=Zz kq;have HE:=Zz he;clear kq he;obtain⟨hS,hC⟩:=s0 w;rcases ok with _|_
 ·go_in;go_wp2_with ((with_reducible apply Zo.see w;exact KQ.out _);clear hS hC;intro wn hS hC;simp only[Zr,Zq,Zy] at hC);refine Zu ?_ rfl ⟨by first|(rw[HE.out];done)|(rw[HE.out];rfl),?_⟩
  ·simp[results,results143,go_sem]
  ·exact Exi.out
 ·by_cases h1:0≤n
  ·by_cases h2:0≤a1
   ·go_in;go_wp2_with ((with_reducible apply Zo.see w;exact KQ.out _);clear hS hC;intro wn hS hC;simp only[Zr,Zq,Zy] at hC);refine Zu (v:= .bool true) ?_ rfl ⟨by rw[HE.out];simp[h1,h2],?_⟩
    ·simp[results,results143,go_sem,h1,h2]
    ·exact Exi.out
   ·go_in;go_wp2_with ((with_reducible apply Zo.see w;exact KQ.out _);clear hS hC;intro wn hS hC;simp only[Zr,Zq,Zy] at hC);refine Zu (v:= .bool false) ?_ rfl ⟨by rw[HE.out];simp[h1,h2],?_⟩
    ·simp[results,results143,go_sem,h1,h2]
    ·exact Exi.out
  ·go_in;go_wp2_with ((with_reducible apply Zo.see w;exact KQ.out _);clear hS hC;intro wn hS hC;simp only[Zr,Zq,Zy] at hC);refine Zu (v:= .bool false) ?_ rfl ⟨by rw[HE.out,show decide (0≤n)=false from decide_eq_false (by omega)];rfl,?_⟩
   ·simp[results,results143,go_sem,h1]
   ·exact Exi.out
theorem Zcr(v:M4)(w:World):Calls prog 268 #[v.v] w (fun e w'=>e= .returned (.tuple #[.int .i64 (Sk v).1, .bool (Sk v).2])∧Ex w w'):=by
 have kq:=fun w=>Aq v w
 have kp:=fun w=>Vy v.a v.a w
 have kc:=fun w=>Zwe (Zk v.a v.a).1 (Uf v).1 w
 have he:Sk v=if (Uf v).2&&(Zk v.a v.a).2 then Of (Zk v.a v.a).1 (Uf v).1 else (0,false):=rfl
 generalize Sk v=ev at he ⊢;obtain⟨⟨a1,a2,a3⟩,⟨b1,b2,b3⟩,⟨c1,c2,c3⟩,⟨d1,d2,d3⟩⟩:=v;simp only[M4.v,frb,Fr.v] at kq kp kc he ⊢;rcases hq:Uf ⟨⟨a1,a2,a3⟩,⟨b1,b2,b3⟩,⟨c1,c2,c3⟩,⟨d1,d2,d3⟩⟩ with⟨⟨q1,q2,q3⟩,okq⟩;rcases hp:Zk ⟨a1,a2,a3⟩ ⟨a1,a2,a3⟩ with⟨⟨p1,p2,p3⟩,okp⟩;rw[hq] at kq kc he;rw[hp] at kp kc he;simp only at kq kc he;rcases hc:Of ⟨p1,p2,p3⟩ ⟨q1,q2,q3⟩ with⟨n,okc⟩;rw[hc] at kc he;have kp2:∀w,Calls prog 108 #[.agg #[a1,a2,a3], .agg #[a1,a2,a3]] w _:=fun w=>Yc.spell (kp w)
 have kc2:∀w,Calls prog 275 #[.agg #[p1,p2,p3], .agg #[q1,q2,q3]] w (fun e w'=>e= .returned (.tuple #[n,okc])∧Ex w w'):=kc;have KQ:=Zz kq;have KP:=Zz kp2;have KC:=Zz kc2;have HE:=Zz he;clear kq kp kc kp2 kc2 he hq hp hc;obtain⟨hS,hC⟩:=s0 w;rcases okq with _|_<;>rcases okp with _|_
 all_goals
  go_in;go_wp2_with ((with_reducible apply Zo.see w;first|exact KQ.out _|exact KP.out _|exact KC.out _);clear hS hC;intro wn hS hC;simp only[Zr,Zq,Zy] at hC);refine Zu ?_ rfl ⟨by first|(rw[HE.out];done)|(rw[HE.out];rfl),?_⟩
  ·simp[results,results268,go_sem]
  ·exact Exi.out
theorem Zvr(v:M4)(w:World):Calls prog 254 #[v.v] w (fun e w'=>e= .returned (.bool (Nt v))∧Ex w w'):=by
 have kq:=fun w=>Zcr v w
 have he:Nt v=((Sk v).2&&decide (0≤(Sk v).1)&&decide (0≤v.a.re)):=rfl;generalize Nt v=lv at he ⊢;generalize Sk v=ev at he kq;obtain⟨⟨a1,a2,a3⟩,⟨b1,b2,b3⟩,⟨c1,c2,c3⟩,⟨d1,d2,d3⟩⟩:=v;obtain⟨n,ok⟩:=ev;simp only[M4.v] at kq he ⊢;have KQ:=Zz kq;have HE:=Zz he;clear kq he;obtain⟨hS,hC⟩:=s0 w;rcases ok with _|_
 ·go_in;go_wp2_with ((with_reducible apply Zo.see w;exact KQ.out _);clear hS hC;intro wn hS hC;simp only[Zr,Zq,Zy] at hC);refine Zu ?_ rfl ⟨by first|(rw[HE.out];done)|(rw[HE.out];rfl),?_⟩
  ·simp[results,results254,go_sem]
  ·exact Exi.out
 ·by_cases h1:0≤n
  ·by_cases h2:0≤a1
   ·go_in;go_wp2_with ((with_reducible apply Zo.see w;exact KQ.out _);clear hS hC;intro wn hS hC;simp only[Zr,Zq,Zy] at hC);refine Zu (v:= .bool true) ?_ rfl ⟨by rw[HE.out];simp[h1,h2],?_⟩
    ·simp[results,results254,go_sem,h1,h2]
    ·exact Exi.out
   ·go_in;go_wp2_with ((with_reducible apply Zo.see w;exact KQ.out _);clear hS hC;intro wn hS hC;simp only[Zr,Zq,Zy] at hC);refine Zu (v:= .bool false) ?_ rfl ⟨by rw[HE.out];simp[h1,h2],?_⟩
    ·simp[results,results254,go_sem,h1,h2]
    ·exact Exi.out
  ·go_in;go_wp2_with ((with_reducible apply Zo.see w;exact KQ.out _);clear hS hC;intro wn hS hC;simp only[Zr,Zq,Zy] at hC);refine Zu (v:= .bool false) ?_ rfl ⟨by rw[HE.out,show decide (0≤n)=false from decide_eq_false (by omega)];rfl,?_⟩
   ·simp[results,results254,go_sem,h1]
   ·exact Exi.out
end
section
def Ps(h:Int)(b:Nat):Int:=bits .xor .u32 h (b:Int)*16777619 % 4294967296
def Zfp(v:M4):Int:=Ps (Ps (Ps (Ps 2166136261 (Vo v.a).1) (Vo v.b).1) (Vo v.c).1) (Vo v.d).1
def Uy(l:Ub)(v:M4):Int×Bool:=if (Wp l v).2&&Nt v then (Zfp (Wp l v).1,true) else (0,false)
def Zru(S:ByteArray)(v:M4)(h:Int):Value:= .agg #[S,v.a.re,v.a.im,v.a.den,v.b.re,v.b.im,v.b.den,v.c.re,v.c.im,v.c.den,v.d.re,v.d.im,v.d.den, .int .u32 h]
def Zrt(l:Ub)(v:M4)(r:Int×Bool):Value:= .tuple #[if r.2 then Zru (Bs l) v r.1 else Zru ⟨#[]⟩ M4.none 0,r.2]
end
section
def Xn(x y c:Fr):(Fr×Fr)×Bool:=two (Zk x c) (Zk y c) true
def Zrl(x y u v:Fr):(Fr×Fr)×Bool:=two (Yo x u) (Yo y v) true
def jless(x y u v:Fr):(Fr×Fr)×Bool:=two (Xi x u) (Xi y v) true
def Lz:Fr:=⟨1,0,2⟩
def jno:(Fr×Fr)×Bool:=((Fr.none,Fr.none),false)
def Zno(x1 x2 y1 y2 f:Fr):(Fr×Fr)×Bool:=
 if (Xn y1 y2 f).2 then (if (Zrl x1 x2 (Xn y1 y2 f).1.1 (Xn y1 y2 f).1.2).2 then Xn (Zrl x1 x2 (Xn y1 y2 f).1.1 (Xn y1 y2 f).1.2).1.1 (Zrl x1 x2 (Xn y1 y2 f).1.1 (Xn y1 y2 f).1.2).1.2 Lz else jno) else jno
def Mu(a b:Ub)(k:Int)(x y:Fr)(second:Bool):(Fr×Fr)×Bool:=
 if Xw k 0 3 then (if (Yz a x y).2&&(Yz b x y).2 then Zno (Yz a x y).1.1 (Yz a x y).1.2 (Yz b x y).1.1 (Yz b x y).1.2 (Yd (if second then (k+2) % 4 else k)) else jno) else jno
def Io(a b:Ub)(k:Int)(x y:Fr):(Fr×Fr)×Bool:=
 two (Vm (Mu a b k x y false).1.1 (Mu a b k x y false).1.2) (Vm (Mu a b k x y true).1.1 (Mu a b k x y true).1.2) ((Mu a b k x y false).2&&(Mu a b k x y true).2)
end
section
theorem Fv(n:Int):Xw (-n) (-2000000000) 2000000000=Xw n (-2000000000) 2000000000:=by
 unfold Xw;rw[Bool.eq_iff_iff];simp only[Bool.and_eq_true,decide_eq_true_eq];omega
theorem Zrk(a b c:Int):Wo (-a) (-b) c=Wo a b c:=by
 unfold Wo;simp only[Int.natAbs_neg]
theorem Zfg(a b c:Int):flow (-a) (-b) c=(Kp (flow a b c).1,(flow a b c).2):=by
 unfold flow;rw[Zrk,Int.neg_tdiv,Int.neg_tdiv,Fv,Fv];split
 ·rfl
 ·rfl
theorem Ak(a:Fr):(Kp a).valid=a.valid:=by
 unfold Kp Fr.valid;unfold Yx;rw[Zrk,Fv,Fv]
theorem Zyb(x z:Fr):Yo x (Kp z)=Xi x z:=by
 unfold Yo Xi;rw[Ak];split
 ·unfold Kp;simp only[Int.neg_mul];rfl
 ·rfl
theorem Zya{k:Int}(h0:0≤k)(h3:k≤3):Yd ((k+2) % 4)=Kp (Yd k):=by
 have:k=0∨k=1∨k=2∨k=3:=by omega
 rcases this with rfl|rfl|rfl|rfl<;>rfl
theorem Aj(y f:Fr):Zk y (Kp f)=(Kp (Zk y f).1,(Zk y f).2):=by
 unfold Zk;rw[Ak];split
 ·rw[←Zfg];unfold Kp;simp only;congr 1
  ·rw[Int.mul_neg,Int.mul_neg];omega
  ·rw[Int.mul_neg,Int.mul_neg];omega
 ·rfl
theorem Ai(x y f:Fr):(Xn x y (Kp f)).2=(Xn x y f).2∧((Xn x y f).2=true→(Xn x y (Kp f)).1=(Kp (Xn x y f).1.1,Kp (Xn x y f).1.2)):=by
 unfold Xn two;rw[Aj,Aj];simp only;split
 ·exact⟨rfl,fun _=>rfl⟩
 ·exact⟨rfl,fun h=>by cases h⟩
def Zrj(a b:Fr×Bool):(Fr×Fr)×Bool:=if a.2&&b.2&&(Zk a.1 Lz).2&&(Zk b.1 Lz).2 then (((Zk a.1 Lz).1,(Zk b.1 Lz).1),true) else jno
theorem Zri{x1 x2 y1 y2 f:Fr}(h:(Xn y1 y2 f).2=true):Zno x1 x2 y1 y2 f=Zrj (Yo x1 (Xn y1 y2 f).1.1) (Yo x2 (Xn y1 y2 f).1.2):=by
 unfold Zno;rw[if_pos h];generalize (Xn y1 y2 f).1.1=z1;generalize (Xn y1 y2 f).1.2=z2;unfold Zrl two Zrj;rcases ha:Yo x1 z1 with⟨a,ka⟩;rcases hb:Yo x2 z2 with⟨b,kb⟩;rcases ka with _|_
 ·simp[jno]
 ·rcases kb with _|_
  ·simp[jno]
  ·simp only[Bool.and_self,if_true];unfold Xn two;simp only[Bool.true_and];rfl
theorem Zcp{a b:Ub}{k:Int}{x y:Fr}{s:Bool}(h:((Yz a x y).2&&(Yz b x y).2&&Xw k 0 3)=false):Mu a b k x y s=jno:=by
 unfold Mu;rcases h1:Xw k 0 3 with _|_
 ·rfl
 ·rw[h1,Bool.and_true] at h;rw[if_pos rfl,if_neg (by rw[h];simp)]
theorem Zco{a b:Ub}{k:Int}{x y:Fr}(s:Bool)(h:((Yz a x y).2&&(Yz b x y).2&&Xw k 0 3)=true)(ht:(Xn (Yz b x y).1.1 (Yz b x y).1.2 (Yd k)).2=false):Mu a b k x y s=jno:=by
 simp only[Bool.and_eq_true] at h;have h3:0≤k∧k≤3:=by simpa [Xw] using h.2
 unfold Mu;rw[if_pos h.2,if_pos (by simp[h.1.1,h.1.2])];cases s with
 |false=>unfold Zno;simp[ht]
 |true=>
  simp only[if_true];rw[Zya h3.1 h3.2];unfold Zno;rw[(Ai _ _ _).1,ht];simp
theorem Zff{a b:Ub}{k:Int}{x y:Fr}(h:((Yz a x y).2&&(Yz b x y).2&&Xw k 0 3)=true)(ht:(Xn (Yz b x y).1.1 (Yz b x y).1.2 (Yd k)).2=true):
  Mu a b k x y false=Zrj (Yo (Yz a x y).1.1 (Xn (Yz b x y).1.1 (Yz b x y).1.2 (Yd k)).1.1) (Yo (Yz a x y).1.2 (Xn (Yz b x y).1.1 (Yz b x y).1.2 (Yd k)).1.2):=by
 simp only[Bool.and_eq_true] at h;unfold Mu;rw[if_pos h.2,if_pos (by simp[h.1.1,h.1.2])];simp only[Bool.false_eq_true,if_false];exact Zri ht
theorem Zjh{a b:Ub}{k:Int}{x y:Fr}(h:((Yz a x y).2&&(Yz b x y).2&&Xw k 0 3)=true)(ht:(Xn (Yz b x y).1.1 (Yz b x y).1.2 (Yd k)).2=true):
  Mu a b k x y true=Zrj (Xi (Yz a x y).1.1 (Xn (Yz b x y).1.1 (Yz b x y).1.2 (Yd k)).1.1) (Xi (Yz a x y).1.2 (Xn (Yz b x y).1.1 (Yz b x y).1.2 (Yd k)).1.2):=by
 simp only[Bool.and_eq_true] at h;have h3:0≤k∧k≤3:=by simpa [Xw] using h.2
 obtain⟨e1,e2⟩:=Ai (Yz b x y).1.1 (Yz b x y).1.2 (Yd k);unfold Mu;rw[if_pos h.2,if_pos (by simp[h.1.1,h.1.2])];simp only[if_true];rw[Zya h3.1 h3.2,Zri (by rw[e1,ht]),e2 ht];simp only;rw[Zyb,Zyb]
end
section
open Go.RowKit

attribute [local go_sem] Zg Zf
theorem Zcj{n:Int}(h: -2000000000≤n∧n≤2000000000):IntKind.i64.wrap (2*n)=2*n:=Zt _ (by omega)
theorem Zra(n den:Int)(hn: -2000000000≤n∧n≤2000000000)(hd:1≤den∧den≤2000000000)(w:World):Calls prog 219 #[n,den] w (fun e w'=>e= .returned (frv (Zzn n den))∧Ex w w'):=by
 unfold Zzn;have hw:=Zcj hn;have k1:=fun w=>Qs (2*n) 0 den w (by omega) (by omega) (by omega)
 generalize flow (2*n) 0 den=s at*;obtain⟨⟨s1,s2,s3⟩,sk⟩:=s;clear hn hd;simp only[frv,Fr.v] at k1 ⊢;have K1:=Zz k1;clear k1;obtain⟨hS,hC⟩:=s0 w;go_in;go_wp2_with ((with_reducible apply Zo.see w;exact K1.out _);clear hS hC;intro wn hS hC;simp only[Zr,Zq,Zy] at hC);exact Yp (by simp[results,results219,go_sem,hC]) rfl
theorem Zxx(x y:Fr)(w:World):Calls prog 158 #[jvv x y] w (fun e w'=>e= .returned (m4v (sof x y))∧Ex w w'):=by
 rw[Zck];have kp:=fun w=>Yc.opn (Lu x w)
 have kq:=fun w=>Yc.opn (Lu y w)
 have km:=fun w=>Yc.opn (Td y w)
 have kt:=fun w=>Yc.opn (Vy x (Yq y).1 w)
 have ka:=fun w=>Yc.opn (Qd (Zc x).1 (Zc y).1 w)
 have kl:=fun w=>Yc.opn (Zky (Zc x).1 (Zc y).1 w)
 have hv:(Zk x (Yq y).1).2=true→(Zk x (Yq y).1).1.valid=true:=Pa;generalize Zc x=p at*;obtain⟨p,pk⟩:=p;generalize Zc y=q at*;obtain⟨q,qk⟩:=q;generalize Yq y=m at*;obtain⟨m,mk⟩:=m;simp only at*;generalize Zk x m=t at*;obtain⟨t,tk⟩:=t;generalize Yo p q=a at*;obtain⟨a,ak⟩:=a;generalize Xi p q=l at*;obtain⟨l,lk⟩:=l;simp only at*;have kr:tk=true→∀w,Calls prog 219 #[t.re,t.den] w (fun e w'=>e= .returned (frv (Zzn t.re t.den))∧Ex w w'):=fun h w=>Zra t.re t.den (by have:=Fr.valid_out (hv h);omega) (by have:=Fr.valid_out (hv h);omega) w
 have ki:tk=true→∀w,Calls prog 219 #[t.im,t.den] w (fun e w'=>e= .returned (frv (Zzn t.im t.den))∧Ex w w'):=fun h w=>Zra t.im t.den (by have:=Fr.valid_out (hv h);omega) (by have:=Fr.valid_out (hv h);omega) w
 clear hv;generalize Zzn t.re t.den=r at*;obtain⟨⟨r1,r2,r3⟩,rk⟩:=r;generalize Zzn t.im t.den=i at*;obtain⟨⟨i1,i2,i3⟩,ik⟩:=i;obtain⟨x1,x2,x3⟩:=x;obtain⟨y1,y2,y3⟩:=y;obtain⟨p1,p2,p3⟩:=p;obtain⟨q1,q2,q3⟩:=q;obtain⟨m1,m2,m3⟩:=m;obtain⟨t1,t2,t3⟩:=t;obtain⟨a1,a2,a3⟩:=a;obtain⟨l1,l2,l3⟩:=l;simp only[Nn,jvv,m4v,M4.v,M4.none,Fr.none,frv,Fr.v] at kp kq km kt ka kl kr ki ⊢;rcases pk with _|_
 ·try simp only[Bool.false_and,Bool.and_false,Bool.false_eq_true,if_false,Bool.true_and,Bool.and_true]
  have KP:=Zz kp;have KQ:=Zz kq;have KM:=Zz km;have KT:=Zz kt;have KA:=Zz ka;have KL:=Zz kl;have KR:=Zz kr;have KI:=Zz ki;clear kp kq km kt ka kl kr ki;obtain⟨hS,hC⟩:=s0 w;go_in;go_wp2_with ((with_reducible apply Zo.see w;first|exact KP.out _|exact KQ.out _|exact KM.out _|exact KT.out _|exact KA.out _|exact KL.out _|exact KR.out (by trivial) _|exact KI.out (by trivial) _);clear hS hC;intro wn hS hC;simp only[Zr,Zq,Zy] at hC);exact Yp (by simp[results,results158,go_sem,hC]) rfl
 ·rcases qk with _|_
  ·try simp only[Bool.false_and,Bool.and_false,Bool.false_eq_true,if_false,Bool.true_and,Bool.and_true]
   have KP:=Zz kp;have KQ:=Zz kq;have KM:=Zz km;have KT:=Zz kt;have KA:=Zz ka;have KL:=Zz kl;have KR:=Zz kr;have KI:=Zz ki;clear kp kq km kt ka kl kr ki;obtain⟨hS,hC⟩:=s0 w;go_in;go_wp2_with ((with_reducible apply Zo.see w;first|exact KP.out _|exact KQ.out _|exact KM.out _|exact KT.out _|exact KA.out _|exact KL.out _|exact KR.out (by trivial) _|exact KI.out (by trivial) _);clear hS hC;intro wn hS hC;simp only[Zr,Zq,Zy] at hC);exact Yp (by simp[results,results158,go_sem,hC]) rfl
  ·rcases mk with _|_
   ·try simp only[Bool.false_and,Bool.and_false,Bool.false_eq_true,if_false,Bool.true_and,Bool.and_true]
    have KP:=Zz kp;have KQ:=Zz kq;have KM:=Zz km;have KT:=Zz kt;have KA:=Zz ka;have KL:=Zz kl;have KR:=Zz kr;have KI:=Zz ki;clear kp kq km kt ka kl kr ki;obtain⟨hS,hC⟩:=s0 w;go_in;go_wp2_with ((with_reducible apply Zo.see w;first|exact KP.out _|exact KQ.out _|exact KM.out _|exact KT.out _|exact KA.out _|exact KL.out _|exact KR.out (by trivial) _|exact KI.out (by trivial) _);clear hS hC;intro wn hS hC;simp only[Zr,Zq,Zy] at hC);exact Yp (by simp[results,results158,go_sem,hC]) rfl
   ·rcases tk with _|_
    ·try simp only[Bool.false_and,Bool.and_false,Bool.false_eq_true,if_false,Bool.true_and,Bool.and_true]
     have KP:=Zz kp;have KQ:=Zz kq;have KM:=Zz km;have KT:=Zz kt;have KA:=Zz ka;have KL:=Zz kl;have KR:=Zz kr;have KI:=Zz ki;clear kp kq km kt ka kl kr ki;obtain⟨hS,hC⟩:=s0 w;go_in;go_wp2_with ((with_reducible apply Zo.see w;first|exact KP.out _|exact KQ.out _|exact KM.out _|exact KT.out _|exact KA.out _|exact KL.out _|exact KR.out (by trivial) _|exact KI.out (by trivial) _);clear hS hC;intro wn hS hC;simp only[Zr,Zq,Zy] at hC);exact Yp (by simp[results,results158,go_sem,hC]) rfl
    ·rcases ak with _|_
     ·try simp only[Bool.false_and,Bool.and_false,Bool.false_eq_true,if_false,Bool.true_and,Bool.and_true]
      have KP:=Zz kp;have KQ:=Zz kq;have KM:=Zz km;have KT:=Zz kt;have KA:=Zz ka;have KL:=Zz kl;have KR:=Zz kr;have KI:=Zz ki;clear kp kq km kt ka kl kr ki;obtain⟨hS,hC⟩:=s0 w;go_in;go_wp2_with ((with_reducible apply Zo.see w;first|exact KP.out _|exact KQ.out _|exact KM.out _|exact KT.out _|exact KA.out _|exact KL.out _|exact KR.out (by trivial) _|exact KI.out (by trivial) _);clear hS hC;intro wn hS hC;simp only[Zr,Zq,Zy] at hC);exact Yp (by simp[results,results158,go_sem,hC]) rfl
     ·rcases lk with _|_
      ·try simp only[Bool.false_and,Bool.and_false,Bool.false_eq_true,if_false,Bool.true_and,Bool.and_true]
       have KP:=Zz kp;have KQ:=Zz kq;have KM:=Zz km;have KT:=Zz kt;have KA:=Zz ka;have KL:=Zz kl;have KR:=Zz kr;have KI:=Zz ki;clear kp kq km kt ka kl kr ki;obtain⟨hS,hC⟩:=s0 w;go_in;go_wp2_with ((with_reducible apply Zo.see w;first|exact KP.out _|exact KQ.out _|exact KM.out _|exact KT.out _|exact KA.out _|exact KL.out _|exact KR.out (by trivial) _|exact KI.out (by trivial) _);clear hS hC;intro wn hS hC;simp only[Zr,Zq,Zy] at hC);exact Yp (by simp[results,results158,go_sem,hC]) rfl
      ·rcases rk with _|_
       ·try simp only[Bool.false_and,Bool.and_false,Bool.false_eq_true,if_false,Bool.true_and,Bool.and_true]
        have KP:=Zz kp;have KQ:=Zz kq;have KM:=Zz km;have KT:=Zz kt;have KA:=Zz ka;have KL:=Zz kl;have KR:=Zz kr;have KI:=Zz ki;clear kp kq km kt ka kl kr ki;obtain⟨hS,hC⟩:=s0 w;go_in;go_wp2_with ((with_reducible apply Zo.see w;first|exact KP.out _|exact KQ.out _|exact KM.out _|exact KT.out _|exact KA.out _|exact KL.out _|exact KR.out (by trivial) _|exact KI.out (by trivial) _);clear hS hC;intro wn hS hC;simp only[Zr,Zq,Zy] at hC);exact Yp (by simp[results,results158,go_sem,hC]) rfl
       ·rcases ik with _|_
        ·try simp only[Bool.false_and,Bool.and_false,Bool.false_eq_true,if_false,Bool.true_and,Bool.and_true]
         have KP:=Zz kp;have KQ:=Zz kq;have KM:=Zz km;have KT:=Zz kt;have KA:=Zz ka;have KL:=Zz kl;have KR:=Zz kr;have KI:=Zz ki;clear kp kq km kt ka kl kr ki;obtain⟨hS,hC⟩:=s0 w;go_in;go_wp2_with ((with_reducible apply Zo.see w;first|exact KP.out _|exact KQ.out _|exact KM.out _|exact KT.out _|exact KA.out _|exact KL.out _|exact KR.out (by trivial) _|exact KI.out (by trivial) _);clear hS hC;intro wn hS hC;simp only[Zr,Zq,Zy] at hC);exact Yp (by simp[results,results158,go_sem,hC]) rfl
        ·try simp only[Bool.and_self,if_true]
         have KP:=Zz kp;have KQ:=Zz kq;have KM:=Zz km;have KT:=Zz kt;have KA:=Zz ka;have KL:=Zz kl;have KR:=Zz kr;have KI:=Zz ki;clear kp kq km kt ka kl kr ki;obtain⟨hS,hC⟩:=s0 w;go_in;go_wp2_with ((with_reducible apply Zo.see w;first|exact KP.out _|exact KQ.out _|exact KM.out _|exact KT.out _|exact KA.out _|exact KL.out _|exact KR.out (by trivial) _|exact KI.out (by trivial) _);clear hS hC;intro wn hS hC;simp only[Zr,Zq,Zy] at hC);exact Yp (by simp[results,results158,go_sem,hC]) rfl
end
section
open Go.RowKit

attribute [local go_sem] Zg Zf
theorem Zes(t:List Fr)(h:t.length=16):[tg t (4*0),tg t (4*0+1),tg t (4*0+2),tg t (4*0+3)]=t.take 4:=by
 match t,h with
 |a::b::c::d::r,_=>rfl
theorem Zip(p q:Int)(w:World):Calls prog 15 #[.agg #[p,q]] w (fun e w'=>e= .returned (.tuple #[.agg (Zm (Wb p q).1), .bool (Wb p q).2])∧Ex w w'):=by
 have k1:=fun w=>Zyn p q 1 w
 have k2:=fun w=>Cm 1 0 w
 have hq:Wb p q=if (Xq p q 1).2&&(Ww 1 0).2&&(Vv (Ww 1 0).1).2&&(Vv (Xq p q 1).1).2&&(Wc (Vv (Ww 1 0).1).1 (Vv (Xq p q 1).1).1).2 then ((Wc (Vv (Ww 1 0).1).1 (Vv (Xq p q 1).1).1).1.take 4,true) else (Wt 4,false):=rfl
 generalize Wb p q=R at hq ⊢;rcases hP:Xq p q 1 with⟨P,kp⟩;rcases hF:Ww 1 0 with⟨M,kf⟩;rw[hP] at k1;rw[hF] at k2;simp only[hP,hF] at hq;clear hP hF;have k3:=fun w=>Bh M w
 have k4:=fun w=>Bh P w
 have hA:=Qr M;have hB:=Qr P;rcases hTA:Vv M with⟨A,ka⟩;rcases hTB:Vv P with⟨B,kb⟩;rw[hTA] at k3 hA;rw[hTB] at k4 hB;simp only[hTA,hTB] at hq;simp only at hA hB;clear hTA hTB;have k5:=fun w=>Ed A B hA hB w
 have hC:=Qk A B;rcases hTC:Wc A B with⟨C,kc⟩;rw[hTC] at k5 hC;simp only[hTC] at hq;simp only at hC;clear hTC;have k6:=fun w=>Is C hC 0 (by decide) w
 rw[Zes C hC] at k6;rw[show((0:Nat):Int)=0 from rfl] at k6;simp only[Sl,m4v,M4.l_arr] at k1 k2 k3 k4 k5;have sA:(Zm A).size=48:=by rw[Yn,hA]
 have sB:(Zm B).size=48:=by rw[Yn,hB]
 have sC:(Zm C).size=48:=by rw[Yn,hC]
 have oA:=Zb A;have oB:=Zb B;have oC:=Zb C;have sP:(Zm P.l).size=12:=rfl;have sM:(Zm M.l).size=12:=rfl;have oP:=Zb P.l;have oM:=Zb M.l;have sT:(Zm (C.take 4)).toList.length=12:=by rw[Array.length_toList,Yn,List.length_take,hC];rfl
 have oT:=Zb (C.take 4);have HQ:=Zz hq;clear hq hA hB hC;generalize Zm A=ac at*;generalize Zm B=bc at*;generalize Zm C=cc at*;generalize Zm P.l=pc at*;generalize Zm M.l=mc at*;obtain⟨tc,htc⟩:=nm (Zm (C.take 4));rw[←htc.out] at sT oT k6;have K1:=Zz k1;have K2:=Zz k2;have K3:=Zz k3;have K4:=Zz k4;have K5:=Zz k5;have K6:=Zz k6;clear k1 k2 k3 k4 k5 k6;have hR:=Zo.refl w;go_in;go_upto_region 1 with fail;have hV:Zo w ((w.alloc (.cells #[p,q] 27)).alloc (.cells Oc 31)) _:=inferInstance;clear hR;simp only[Zy] at hV;generalize (w.alloc (.cells #[p,q] 27)).alloc (.cells Oc 31)=W0 at*;have hC:=hV.rd;simp only[Zr,Zq] at hC
 skip
 go_upto_region 2 with(first|((with_reducible refine(K1.out _).mono ?_);rintro e u1 ⟨rfl,hx⟩;replace hV:=Zo.after (W:=w) hx;clear hx)|(refine wpList_store_row rfl _ _ _ rfl _ _ rfl rfl _ _ (Box.new u1 _ _) (Ji sP) (by rw[sP];rfl) oP ?_));have hB2:=(Box.new u1 Oc 79).setRow pc;replace hV:=hV.grow (((Ex.refl u1).alloc (.cells Oc 79)).setRow (Nat.le_refl _) pc);generalize (u1.alloc (.cells Oc 79)).setRow u1.heap.size pc=V2 at*;replace hV:=Zo.put hV hB2;clear hB2;generalize u1.heap.size=g2 at*;clear hC;go_upto_region 3 with(first|((with_reducible refine(K2.out _).mono ?_);rintro e u2 ⟨rfl,hx⟩;replace hV:=Zo.after (W:=w) hx;clear hx)|(refine wpList_store_row rfl _ _ _ rfl _ _ rfl rfl _ _ (Box.new u2 _ _) (Ji sM) (by rw[sM];rfl) oM ?_));have hB3:=(Box.new u2 Oc 79).setRow mc;replace hV:=hV.grow (((Ex.refl u2).alloc (.cells Oc 79)).setRow (Nat.le_refl _) mc);generalize (u2.alloc (.cells Oc 79)).setRow u2.heap.size mc=V3 at*;replace hV:=Zo.put hV hB3;clear hB3;generalize u2.heap.size=g3 at*;have bR:=hV.boxes.2.2.1;have hE:=hV.ex;rcases kp with _|_
 ·go_wp2_with (refine wpList_store_row rfl _ _ _ rfl _ _ rfl rfl _ _ bR (Wa rfl) rfl Ic ?_);exact Zu (Ze results15 _ _ _ _ _ (0,0) _ rfl (bR.setRow _) underlying31 rfl (Wa rfl)) rfl ⟨by rw[HQ.out];simp;rfl,hE.setRow (by omega) _⟩
 rcases kf with _|_
 ·go_wp2_with (refine wpList_store_row rfl _ _ _ rfl _ _ rfl rfl _ _ bR (Wa rfl) rfl Ic ?_);exact Zu (Ze results15 _ _ _ _ _ (0,0) _ rfl (bR.setRow _) underlying31 rfl (Wa rfl)) rfl ⟨by rw[HQ.out];simp;rfl,hE.setRow (by omega) _⟩
 clear bR hE;have bM:=hV.boxes.1;go_upto_region 6 with(first|(refine wpList_load_row rfl _ _ rfl _ rfl _ _ (0,0) _ bM underlying79 rfl (Ji sM) ?_)|((with_reducible refine(K3.out _).mono ?_);rintro e u3 ⟨rfl,hx⟩;replace hV:=Zo.after (W:=w) hx;clear hx)|(refine wpList_store_row rfl _ _ _ rfl _ _ rfl rfl _ _ (Box.new u3 _ _) (Yy sA) (by rw[sA];rfl) oA ?_));have hB6:=(Box.new u3 Od 85).setRow ac;replace hV:=hV.grow (((Ex.refl u3).alloc (.cells Od 85)).setRow (Nat.le_refl _) ac);generalize (u3.alloc (.cells Od 85)).setRow u3.heap.size ac=V6 at*;replace hV:=Zo.put hV hB6;clear hB6;generalize u3.heap.size=g6 at*;clear bM;have bP:=hV.boxes.2.2.1;go_upto_region 7 with(first|(refine wpList_load_row rfl _ _ rfl _ rfl _ _ (0,0) _ bP underlying79 rfl (Ji sP) ?_)|((with_reducible refine(K4.out _).mono ?_);rintro e u4 ⟨rfl,hx⟩;replace hV:=Zo.after (W:=w) hx;clear hx)|(refine wpList_store_row rfl _ _ _ rfl _ _ rfl rfl _ _ (Box.new u4 _ _) (Yy sB) (by rw[sB];rfl) oB ?_));have hB7:=(Box.new u4 Od 85).setRow bc;replace hV:=hV.grow (((Ex.refl u4).alloc (.cells Od 85)).setRow (Nat.le_refl _) bc);generalize (u4.alloc (.cells Od 85)).setRow u4.heap.size bc=V7 at*;replace hV:=Zo.put hV hB7;clear hB7;generalize u4.heap.size=g7 at*;clear bP;have bR:=hV.boxes.2.2.2.2.1;have hE:=hV.ex;rcases ka with _|_
 ·go_wp2_with (refine wpList_store_row rfl _ _ _ rfl _ _ rfl rfl _ _ bR (Wa rfl) rfl Ic ?_);exact Zu (Ze results15 _ _ _ _ _ (0,0) _ rfl (bR.setRow _) underlying31 rfl (Wa rfl)) rfl ⟨by rw[HQ.out];simp;rfl,hE.setRow (by omega) _⟩
 rcases kb with _|_
 ·go_wp2_with (refine wpList_store_row rfl _ _ _ rfl _ _ rfl rfl _ _ bR (Wa rfl) rfl Ic ?_);exact Zu (Ze results15 _ _ _ _ _ (0,0) _ rfl (bR.setRow _) underlying31 rfl (Wa rfl)) rfl ⟨by rw[HQ.out];simp;rfl,hE.setRow (by omega) _⟩
 clear bR hE;have bB:=hV.boxes.1;have bA:=hV.boxes.2.1;go_upto_region 10 with(first|(refine wpList_load_row rfl _ _ rfl _ rfl _ _ (0,0) _ bA underlying85 rfl (Yy sA) ?_)|(refine wpList_load_row rfl _ _ rfl _ rfl _ _ (0,0) _ bB underlying85 rfl (Yy sB) ?_)|((with_reducible refine(K5.out _).mono ?_);rintro e u5 ⟨rfl,hx⟩;replace hV:=Zo.after (W:=w) hx;clear hx)|(refine wpList_store_row rfl _ _ _ rfl _ _ rfl rfl _ _ (Box.new u5 _ _) (Yy sC) (by rw[sC];rfl) oC ?_));have hB10:=(Box.new u5 Od 85).setRow cc;replace hV:=hV.grow (((Ex.refl u5).alloc (.cells Od 85)).setRow (Nat.le_refl _) cc);generalize (u5.alloc (.cells Od 85)).setRow u5.heap.size cc=V10 at*;replace hV:=Zo.put hV hB10;clear hB10;generalize u5.heap.size=g10 at*;clear bA bB;have bR:=hV.boxes.2.2.2.2.2.1;have hE:=hV.ex;rcases kc with _|_
 ·go_wp2_with (refine wpList_store_row rfl _ _ _ rfl _ _ rfl rfl _ _ bR (Wa rfl) rfl Ic ?_);exact Zu (Ze results15 _ _ _ _ _ (0,0) _ rfl (bR.setRow _) underlying31 rfl (Wa rfl)) rfl ⟨by rw[HQ.out];simp;rfl,hE.setRow (by omega) _⟩
 clear bR hE;have sT1:tc.size=12:=by rw[←Array.length_toList];exact sT
 have bC:=hV.boxes.1;go_wp2_with (first|(refine wpList_load_row rfl _ _ rfl _ rfl _ _ (0,0) _ bC underlying85 rfl (Yy sC) ?_)|((with_reducible refine(K6.out _).mono ?_);rintro e u6 ⟨rfl,hx⟩;replace hV:=Zo.after (W:=w) hx;clear hx;have bR:=hV.boxes.2.2.2.2.2.1)|(refine wpList_store_row rfl _ _ _ rfl _ _ rfl rfl _ _ bR (Wa sT1) (by rw[sT1];rfl) oT ?_));have hE:=hV.ex;exact Zu (Ze results15 _ _ _ _ _ (0,0) _ rfl (bR.setRow _) underlying31 rfl (Wa sT1)) rfl ⟨by rw[HQ.out,htc.out];rfl,hE.setRow (by omega) _⟩
end
section
open Go.RowKit

attribute [local go_sem] Zg Zf
theorem list4{t:List Fr}(h:t.length=4):t=[tg t 0,tg t 1,tg t 2,tg t 3]:=by
 match t,h with
 |[a,b,c,d],_=>rfl
theorem Zqu(p q:Int)(v:M4)(b:Nat)(w:World)(hb:Box w b 27 #[p,q]):Calls prog 166 #[.slice (some ⟨b,0,none⟩) 1 1,v.v] w (Zfx w (Qj p q v)):=by
 have hq:Qj p q v=if Uj v&&(Wb p q).2&&(Ur (Wb p q).1 0 v).2 then ((Ur (Wb p q).1 0 v).1,true) else (Fr.none,false):=rfl
 have ks:∀w,Calls prog 225 #[.agg (Zm v.l)] w fun e w'=>e= .returned (.bool (Uj v))∧Ex w w':=fun w=>Pb v.a v.b v.c v.d w
 have km:=fun w=>Zip p q w
 have hml:=Zyl p q;have kr:=fun bs w hb=>Hj bs false (Wb p q).1 v.l hml rfl w hb
 have hsr:Hk (Wb p q).1 v.l 4=Bw (tg (Wb p q).1 0) (tg (Wb p q).1 1) (tg (Wb p q).1 2) (tg (Wb p q).1 3) v.a v.b v.c v.d:=by
  conv=>lhs;rw[list4 hml]
  exact Bi _ _ _ _ _ _ _ _
 have halk:Alk (Bw (tg (Wb p q).1 0) (tg (Wb p q).1 1) (tg (Wb p q).1 2) (tg (Wb p q).1 3) v.a v.b v.c v.d) (Ur (Wb p q).1 0 v):=Bv _ _ _ _ _ _ _ _;rw[hsr] at kr;clear hsr;generalize Bw (tg (Wb p q).1 0) (tg (Wb p q).1 1) (tg (Wb p q).1 2) (tg (Wb p q).1 3) v.a v.b v.c v.d=RS at*;rw[M4.l_arr];have sV:(Zm v.l).size=12:=rfl;have sR:(Zm (Wb p q).1).size=12:=by rw[Yn,hml]
 have oR:=Zb (Wb p q).1;generalize Qj p q v=R at hq ⊢;generalize Ur (Wb p q).1 0 v=T at hq halk;obtain⟨⟨t1,t2,t3⟩,kt⟩:=RS;obtain⟨TT,kt2⟩:=T;obtain⟨ha1,ha2⟩:=halk;simp only at ha1 ha2;subst ha1;unfold Vw at kr;simp only[Fr.v,Bool.not_false,Bool.true_and] at kr;rcases hM:Wb p q with⟨M,ko⟩;rw[hM] at km kr sR oR hq;simp only at km kr sR oR hq;clear hM hml;generalize Zm M=mc at*;generalize Zm v.l=vc at*;generalize Uj v=sv at*;have KS:=Zz ks;have KM:=Zz km;have KR:=Zz kr;have HQ:=Zz hq;have HA2:=Zz ha2;clear ks km kr hq ha2;have hV:=Zo.put (Zo.refl w) hb;go_in;go_upto_region 1 with fail;replace hV:=hV.grow ((Ex.refl w).alloc (.cells vc 35));replace hV:=Zo.put hV (Box.new w vc 35);have hO:=Ow (w.alloc (.cells vc 35)) w.heap.size 30 3 (by simp);simp only[Zy] at hO;go_upto_region 2 with fail;replace hV:=hV.grow ((Ex.refl _).alloc (.cells #[] 30));generalize (w.alloc (.cells vc 35)).alloc (.cells #[] 30)=W0 at*;have bV:=hV.boxes.1;have HO:=Zz hO;clear hO;rcases sv with _|_
 ·go_wp2_with (first|(refine Ya (by rfl) _ _ rfl _ _ _ rfl bV underlying35 rfl (Rb sV) ?_)|((with_reducible refine(KS.out _).mono ?_);rintro e w1 ⟨rfl,hx⟩;replace hV:=Zo.after (W:=w) hx));have hE:=hV.ex;refine Zu (v:= .tuple #[.slice (some ⟨w.heap.size+1,0,none⟩) 0 0,false]) ?_ rfl ⟨_,_,_,by rw[HQ.out];rfl,hE,by rw[HQ.out];simp⟩;simp[results,results166,go_sem]
 go_upto_region 5 with(first|(refine Ya (by rfl) _ _ rfl _ _ _ rfl bV underlying35 rfl (Rb sV) ?_)|((with_reducible refine(KS.out _).mono ?_);rintro e w1 ⟨rfl,hx⟩;replace hV:=Zo.after (W:=w) hx;replace HO:=Zz (Own.ex HO.out hx)));clear bV;have hE0:=hV.ex;have HV:=Zz hV;clear hV hE0;go_loopw [7,6,8,9,10,11] (fun i o _ _ _ _ wr=>(i= .int .i64 0∧o= .slice (some ⟨w.heap.size+1,0,none⟩) 0 0∧Hid (Zo w wr [(w.heap.size,35,vc),(b,27,#[p,q])])∧Hid (Own wr w.heap.size 30 3 (.slice (some ⟨w.heap.size+1,0,none⟩) 0 0) 0 []))∨(i= .int .i64 1∧∃(A:Option Addr) (cap:Nat),o= .slice A 1 cap∧Hid (R=(⟨t1,t2,t3⟩,true))∧Hid (Own wr w.heap.size 30 3 (.slice A 1 cap) 1 [.int .i64 t1, .int .i64 t2, .int .i64 t3])∧Hid (Ex w wr))) (fun i _ _ _ _ _ _=>2-(intOf i).toNat)
 case atStart=>exact .inl ⟨rfl,rfl,HV,HO⟩
 case round=>
  clear HV HO;rcases hrel with⟨rfl,rfl,HV,HO⟩|⟨rfl,A,cap,rfl,HR,HO,HE⟩
  ·have hV:=HV.out;have hC:=hV.rd;simp only[Zr,Zq] at hC;clear HV;go_upto_region 8 with(first|((with_reducible refine(KM.out _).mono ?_);rintro e u1 ⟨rfl,hx⟩;replace HO:=Zz (Own.ex HO.out hx);replace hV:=Zo.after (W:=w) hx;clear hx)|(refine wpList_store_row rfl _ _ _ rfl _ _ rfl rfl _ _ (Box.new u1 _ _) (Wa sR) (by rw[sR];rfl) oR ?_));have hB7:=(Box.new u1 Oc 31).setRow mc;have hx1:=((Ex.refl u1).alloc (.cells Oc 31)).setRow (Nat.le_refl _) mc;replace hV:=hV.grow hx1;have HO1:=Zz (Own.ex HO.out hx1);generalize (u1.alloc (.cells Oc 31)).setRow u1.heap.size mc=V7 at*;replace hV:=Zo.put hV hB7;clear hB7 hx1 hC HO;generalize u1.heap.size=g9 at*;rcases ko with _|_
   ·have hE:=hV.ex;have hEE:=hE.alloc (.cells #[] 30);go_wp2_with fail;refine Zu (v:= .tuple #[.slice (some ⟨V7.heap.size,0,none⟩) 0 0,false]) ?_ rfl ⟨_,_,_,by rw[HQ.out];rfl,hEE,by rw[HQ.out];simp⟩;simp[results,results166,go_sem]
   go_upto_region 11 with fail;have hS:Zh w (V7.alloc (.cells #[true] 155)) V7.heap.size true _:=Zh.start (h:=hV);have hle:w.heap.size≤V7.heap.size:=hV.ex.size;replace HO1:=Zz (Own.ex HO1.out ((Ex.refl V7).alloc (.cells #[true] 155)));generalize V7.alloc (.cells #[true] 155)=V8 at*;generalize V7.heap.size=bs at*;clear hV;have b9:=hS.boxes.1;have bV:=hS.boxes.2.1;go_upto_region 12 with(first|(refine Ya (by rfl) _ _ rfl _ _ _ rfl b9 underlying31 rfl (Wa sR) ?_)|(refine Ya (by rfl) _ _ rfl _ _ _ rfl bV underlying31 rfl (Wa sV) ?_)|((with_reducible refine(KR.out _ _ hS.sum).mono ?_);rintro e u3 ⟨rfl,hsm,hbx⟩;have hS3:=Zh.call hS hsm hbx;have hS4:Zh w (u3.alloc (.cells #[t1,t2,t3] 30)) bs _ _:=Zh.alloc (h:=hS3);have hC:=hS4.rd;simp only[Zr,Zq] at hC;have HO4:=Zz (Own.ex (hsm.own _ _ _ _ _ _ (by decide) HO1.out) ((Ex.refl u3).alloc (.cells #[t1,t2,t3] 30)));have hE4:=hS4.rel hle;have hsz:=hE4.size));try clear b9 bV
   try clear HO1
   rcases kt with _|_
   ·have hEE:=hE4.alloc (.cells #[] 30);go_wp2_with fail;refine Zu (v:= .tuple #[.slice (some ⟨u3.heap.size+1,0,none⟩) 0 0,false]) ?_ rfl ⟨_,_,_,by rw[HQ.out];rfl,hEE,by rw[HQ.out];simp⟩;simp[results,results166,go_sem]
   have HR:Hid (R=(⟨t1,t2,t3⟩,true)):=Zz (by rw[HQ.out,HA2.out rfl];rfl);go_wp2_with (at_builtin;refine Vq slFm rfl _ _ (u3.alloc (.cells #[t1,t2,t3] 30)) rfl w.heap.size (some ⟨w.heap.size+1,0,none⟩) 0 0 [] [.int .i64 t1, .int .i64 t2, .int .i64 t3] rfl (by simp[Value.oneCell']) rfl HO4.out (by rw[Zy];rfl) (by omega) hsz ?_);intro A' cap' w' hown' hk';have HE5:=Zz (hk'.ex w hE4 (Nat.le_refl _));have HO5:=Zz hown';clear hown' hk' hS4 hC;go_wp2;go_roundw
   case rel=>exact .inr ⟨by go_num,A',cap',rfl,HR,HO5,HE5⟩
   case measure=>simp[intOf]<;>omega
  ·have hE:=HE.out;have hO:=HO.out;go_wp2_with fail;refine Zu (v:= .tuple #[.slice A 1 cap,true]) ?_ rfl ⟨_,_,_,by rw[HR.out],hE,fun _=>⟨rfl,by rw[HR.out];exact hO⟩⟩;simp[results,results166,go_sem]
end
end Go.Proofs.YtiommfmaleeibaaGreatDoor
