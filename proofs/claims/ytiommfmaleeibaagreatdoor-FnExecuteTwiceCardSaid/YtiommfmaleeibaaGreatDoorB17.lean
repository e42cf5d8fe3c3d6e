/-
  Proved:what functions compute,part 17. No condition.
-/
import Derived.Test.YtiommfmaleeibaaGreatDoorB15
import Derived.Test.YtiommfmaleeibaaGreatDoorB16
import Derived.Laws.Cover3
set_option linter.unusedSimpArgs false
set_option linter.unusedVariables false
set_option maxRecDepth 20000
set_option maxHeartbeats 8000000
namespace Go.Proofs.YtiommfmaleeibaaGreatDoor
open Go.Proofs.Tryz
section
theorem Zhk{x:Fr}(h:x.valid=true):flow x.re x.im x.den=(x,true):=by
 obtain⟨⟨r1,r2⟩,⟨i1,i2⟩,⟨d1,d2⟩,hg⟩:=Fr.valid_out h;unfold flow;rw[hg];simp only[Int.tdiv_one];have e1:Xw x.re (-2000000000) 2000000000=true:=by simp[Xw];omega
 have e2:Xw x.im (-2000000000) 2000000000=true:=by simp[Xw];omega
 rw[e1,e2,decide_eq_true d2];rfl
theorem Ztq{x:Fr}(h:x.valid=true):Xr 1 Fr.nul x=(x,true):=by
 have hn:Fr.nul.valid=true:=by decide
 unfold Xr;rw[hn,h];simp only[Bool.and_self,if_true];rw[←Zhk h];unfold Fr.nul;congr 1<;>simp
def Ztp(a b c d x y z u:Fr):Fr×Bool:=
 ((Yo (Yo (Yo (Zk a x).1 (Zk b y).1).1 (Zk c z).1).1 (Zk d u).1).1,
  (Zk a x).2 && (Zk b y).2 && (Yo (Zk a x).1 (Zk b y).1).2 && (Zk c z).2 && (Yo (Yo (Zk a x).1 (Zk b y).1).1 (Zk c z).1).2 && (Zk d u).2 &&
   (Yo (Yo (Yo (Zk a x).1 (Zk b y).1).1 (Zk c z).1).1 (Zk d u).1).2)
def Bw(a b c d x y z u:Fr):Fr×Bool:=
 ((Xr 1 (Xr 1 (Xr 1 (Xr 1 Fr.nul (Zk a x).1).1 (Zk b y).1).1 (Zk c z).1).1 (Zk d u).1).1,
  (Zk a x).2&&(Xr 1 Fr.nul (Zk a x).1).2&&(Zk b y).2&&(Xr 1 (Xr 1 Fr.nul (Zk a x).1).1 (Zk b y).1).2&&
  (Zk c z).2&&(Xr 1 (Xr 1 (Xr 1 Fr.nul (Zk a x).1).1 (Zk b y).1).1 (Zk c z).1).2&&(Zk d u).2&&
  (Xr 1 (Xr 1 (Xr 1 (Xr 1 Fr.nul (Zk a x).1).1 (Zk b y).1).1 (Zk c z).1).1 (Zk d u).1).2)
theorem Pa{a b:Fr}(h:(Zk a b).2=true):(Zk a b).1.valid=true:=by
 unfold Zk at h ⊢;split at h
 ·rename_i hv;rw[if_pos hv];simp only[Bool.and_eq_true] at hv;obtain⟨-, -,⟨ad, -⟩, -⟩:=Fr.valid_out hv.1;obtain⟨-, -,⟨bd, -⟩, -⟩:=Fr.valid_out hv.2;exact Nk (Pe ad bd) h
 ·cases h
theorem Bv(a b c d x y z u:Fr):Alk (Bw a b c d x y z u) (Ztp a b c d x y z u):=by
 unfold Bw Ztp;simp only[←Gu];rcases h1:(Zk a x).2 with _|_
 ·exact⟨by simp,fun h=>by simp at h⟩
 ·rw[Ztq (Pa h1)];exact⟨by simp,fun _=>rfl⟩

def Uj(v:M4):Bool:=Nv v.a v.b v.c v.d
def Tv(t:List Fr):Bool:=t.all rok
def tg(t:List Fr)(i:Nat):Fr:=t.getD i Fr.none
def Ur(t:List Fr)(r:Nat)(v:M4):Fr×Bool:=Ztp (tg t (4*r)) (tg t (4*r+1)) (tg t (4*r+2)) (tg t (4*r+3)) v.a v.b v.c v.d
def Tj(t:List Fr)(v:M4):M4×Bool:=Nn (Ur t 0 v) (Ur t 1 v) (Ur t 2 v) (Ur t 3 v) (Tv t&&Uj v)
def Se(c:Fr):List Fr:=[Fr.one,Fr.nul,Fr.nul,Fr.nul,Fr.nul,c,Fr.nul,Fr.nul,Fr.nul,Fr.nul,c,Fr.nul,Fr.nul,Fr.nul,Fr.nul,c]
def Py(c:Fr):List Fr×Bool:=if rok c then (Se c,true) else (Wt 16,false)
theorem Qr(m:M4):(Vv m).1.length=16:=by
 unfold Vv;split<;>simp[Nw,Wt]
theorem Fc(c:Fr):(Py c).1.length=16:=by
 unfold Py;split<;>simp[Se,Wt]
def Zto(v:M4):Fr×Bool:=
 ((Yo (Yo (Zk v.b v.b).1 (Zk v.c v.c).1).1 (Zk v.d v.d).1).1,
  (Zk v.b v.b).2&&(Zk v.c v.c).2&&(Yo (Zk v.b v.b).1 (Zk v.c v.c).1).2&&(Zk v.d v.d).2&&(Yo (Yo (Zk v.b v.b).1 (Zk v.c v.c).1).1 (Zk v.d v.d).1).2)
def Uf(v:M4):Fr×Bool:=if Uj v&&(Zto v).2 then ((Zto v).1,true) else (Fr.none,false)
def Sk(v:M4):Int×Bool:=if (Uf v).2&&(Zk v.a v.a).2 then Of (Zk v.a v.a).1 (Uf v).1 else (0,false)
def Nt(v:M4):Bool:=(Sk v).2&&decide (0≤(Sk v).1)&&decide (0≤v.a.re)
theorem Zkm{x:Fr}(h:x.valid=true):Yo Fr.nul x=(x,true):=by rw[←Gu];exact Ztq h
def Zbf(xs ys:List Fr)(i k:Nat):Bool:=(Zk (tg xs i) (tg ys k)).2&&(Zk (tg xs k) (tg ys i)).2&&decide ((Zk (tg xs i) (tg ys k)).1=(Zk (tg xs k) (tg ys i)).1)
def Zhj(xs ys:List Fr):Bool:=(List.range 4).all fun i=>(List.range 4).all fun k=>decide (i=k)||Zbf xs ys i k
def M4.l(v:M4):List Fr:=[v.a,v.b,v.c,v.d]
def salike(x y:M4):Bool:=Uj x&&Uj y&&decide (Nh x.a.re=Nh y.a.re)&&Zhj x.l y.l
end
section
open Go.RowKit

theorem Zdm(x1 x2 x3 y1 y2 y3:Int)(d:Nat)(w:World):(Op.equalIn (d+1+1) 30 (.agg #[x1,x2,x3]) (.agg #[y1,y2,y3])).run prog w= .ok (decide ((⟨x1,x2,x3⟩:Fr)=⟨y1,y2,y3⟩)) w:=by
 have hu:Tryz.prog.underlying 30=some (.struct (Tryz.prog.fieldsOf 30)):=by kernel_rfl
 have hp:Tryz.prog.stoodInHeld 30=false:=by kernel_rfl
 rw[run_equalIn_struct w _ _ _ _ hu hp];by_cases h1:x1=y1
 ·by_cases h2:x2=y2
  ·by_cases h3:x3=y3
   ·subst h1 h2 h3;simp[Program.fieldsOf,underlying30,Op.eqFields,go_sem]
   ·simp[Program.fieldsOf,underlying30,Op.eqFields,go_sem,h1,h2,h3]
  ·simp[Program.fieldsOf,underlying30,Op.eqFields,go_sem,h1,h2]
 ·simp[Program.fieldsOf,underlying30,Op.eqFields,go_sem,h1]
end
section
open Go.RowKit

theorem eqMt(v u:M4)(d:Nat)(w:World):(Op.equalIn (d+1+1+1+1) 79 v.v u.v).run prog w= .ok (decide (v=u)) w:=by
 have hu:Tryz.prog.underlying 79=some (.struct (Tryz.prog.fieldsOf 79)):=by kernel_rfl
 have hp:Tryz.prog.stoodInHeld 79=false:=by kernel_rfl
 obtain⟨i,hi⟩:=info_of_underlying underlying30;have hc:Tryz.prog.cellsOf 30=3:=by kernel_rfl
 have hr:List.range 4=[0,1,2,3]:=rfl;obtain⟨⟨a1,a2,a3⟩,⟨b1,b2,b3⟩,⟨c1,c2,c3⟩,⟨d1,d2,d3⟩⟩:=v;obtain⟨⟨p1,p2,p3⟩,⟨q1,q2,q3⟩,⟨r1,r2,r3⟩,⟨s1,s2,s3⟩⟩:=u;simp only[M4.v];rw[run_equalIn_struct w _ _ _ _ hu hp];have hA:(Op.equalIn (d+1+1+1) 31 (.agg (#[a1,a2,a3,b1,b2,b3,c1,c2,c3,d1,d2,d3])) (.agg (#[p1,p2,p3,q1,q2,q3,r1,r2,r3,s1,s2,s3]))).run prog w= .ok (decide ((⟨a1,a2,a3⟩:Fr)=⟨p1,p2,p3⟩)&&decide ((⟨b1,b2,b3⟩:Fr)=⟨q1,q2,q3⟩)&&decide ((⟨c1,c2,c3⟩:Fr)=⟨r1,r2,r3⟩)&&decide ((⟨d1,d2,d3⟩:Fr)=⟨s1,s2,s3⟩)) w:=by
  rw[run_equalIn_array w (d+1+1) (#[a1,a2,a3,b1,b2,b3,c1,c2,c3,d1,d2,d3]) (#[p1,p2,p3,q1,q2,q3,r1,r2,r3,s1,s2,s3]) underlying31 hi,hc,hr];have e0:=fun w=>Zdm a1 a2 a3 p1 p2 p3 d w
  have e1:=fun w=>Zdm b1 b2 b3 q1 q2 q3 d w
  have e2:=fun w=>Zdm c1 c2 c3 r1 r2 r3 d w
  have e3:=fun w=>Zdm d1 d2 d3 s1 s2 s3 d w
  generalize decide ((⟨a1,a2,a3⟩:Fr)=⟨p1,p2,p3⟩)=x0 at e0 ⊢;generalize decide ((⟨b1,b2,b3⟩:Fr)=⟨q1,q2,q3⟩)=x1 at e1 ⊢;generalize decide ((⟨c1,c2,c3⟩:Fr)=⟨r1,r2,r3⟩)=x2 at e2 ⊢;generalize decide ((⟨d1,d2,d3⟩:Fr)=⟨s1,s2,s3⟩)=x3 at e3 ⊢;have part_a:∀w,(Go.part 30 (#[a1,a2,a3,b1,b2,b3,c1,c2,c3,d1,d2,d3]) 0).run prog w= .ok (.agg #[a1,a2,a3]) w:=fun w=>by simp[Go.part,go_sem]
  have part_b:∀w,(Go.part 30 (#[a1,a2,a3,b1,b2,b3,c1,c2,c3,d1,d2,d3]) 3).run prog w= .ok (.agg #[b1,b2,b3]) w:=fun w=>by simp[Go.part,go_sem]
  have part_c:∀w,(Go.part 30 (#[a1,a2,a3,b1,b2,b3,c1,c2,c3,d1,d2,d3]) 6).run prog w= .ok (.agg #[c1,c2,c3]) w:=fun w=>by simp[Go.part,go_sem]
  have part_d:∀w,(Go.part 30 (#[a1,a2,a3,b1,b2,b3,c1,c2,c3,d1,d2,d3]) 9).run prog w= .ok (.agg #[d1,d2,d3]) w:=fun w=>by simp[Go.part,go_sem]
  have part_p:∀w,(Go.part 30 (#[p1,p2,p3,q1,q2,q3,r1,r2,r3,s1,s2,s3]) 0).run prog w= .ok (.agg #[p1,p2,p3]) w:=fun w=>by simp[Go.part,go_sem]
  have part_q:∀w,(Go.part 30 (#[p1,p2,p3,q1,q2,q3,r1,r2,r3,s1,s2,s3]) 3).run prog w= .ok (.agg #[q1,q2,q3]) w:=fun w=>by simp[Go.part,go_sem]
  have part_r:∀w,(Go.part 30 (#[p1,p2,p3,q1,q2,q3,r1,r2,r3,s1,s2,s3]) 6).run prog w= .ok (.agg #[r1,r2,r3]) w:=fun w=>by simp[Go.part,go_sem]
  have part_s:∀w,(Go.part 30 (#[p1,p2,p3,q1,q2,q3,r1,r2,r3,s1,s2,s3]) 9).run prog w= .ok (.agg #[s1,s2,s3]) w:=fun w=>by simp[Go.part,go_sem]
  cases x0<;>cases x1<;>cases x2<;>cases x3<;>simp[Op.eqItems,e0,e1,e2,e3,part_a,part_b,part_c,part_d,part_p,part_q,part_r,part_s]
 have hd:decide ((⟨⟨a1,a2,a3⟩,⟨b1,b2,b3⟩,⟨c1,c2,c3⟩,⟨d1,d2,d3⟩⟩:M4)=⟨⟨p1,p2,p3⟩,⟨q1,q2,q3⟩,⟨r1,r2,r3⟩,⟨s1,s2,s3⟩⟩)=(decide ((⟨a1,a2,a3⟩:Fr)=⟨p1,p2,p3⟩)&&decide ((⟨b1,b2,b3⟩:Fr)=⟨q1,q2,q3⟩)&&decide ((⟨c1,c2,c3⟩:Fr)=⟨r1,r2,r3⟩)&&decide ((⟨d1,d2,d3⟩:Fr)=⟨s1,s2,s3⟩)):=by
  rw[Bool.eq_iff_iff];simp[and_assoc]
 rw[hd];generalize (decide ((⟨a1,a2,a3⟩:Fr)=⟨p1,p2,p3⟩)&&decide ((⟨b1,b2,b3⟩:Fr)=⟨q1,q2,q3⟩)&&decide ((⟨c1,c2,c3⟩:Fr)=⟨r1,r2,r3⟩)&&decide ((⟨d1,d2,d3⟩:Fr)=⟨s1,s2,s3⟩))=x at hA ⊢;cases x<;>simp[Program.fieldsOf,underlying79,Op.eqFields,go_sem,hA]
theorem Zbu(v u:M4)(w:World):(binOp .eql 79 v.v u.v).run prog w= .ok (.bool (decide (v=u))) w:=by
 have h:=eqMt v u 9996 w;unfold M4.v at h ⊢;rw[run_eql_struct,h];rfl
end
section
open Go.RowKit

theorem Eh:∀(l:List Fr) (i:Nat),i<l.length→(l.flatMap Pd)[3*i]? =some (.int .i64 (tg l i).re)∧(l.flatMap Pd)[3*i+1]? =some (.int .i64 (tg l i).im)∧(l.flatMap Pd)[3*i+2]? =some (.int .i64 (tg l i).den)
 |[],i,h=>by simp at h
 |x::l,0,h=>by simp[Pd,tg]
 |x::l,i+1,h=>by
  have ih:=Eh l i (by simpa using h)
  rw[show 3*(i+1)=3*i+3 by omega,show 3*i+3+1=3*i+1+3 by omega,show 3*i+3+2=3*i+2+3 by omega]
  simpa [Pd,tg] using ih
theorem Po(l:List Fr)(i:Nat)(h:i<l.length):(Zm l)[3*i]? =some (.int .i64 (tg l i).re)∧(Zm l)[3*i+1]? =some (.int .i64 (tg l i).im)∧(Zm l)[3*i+2]? =some (.int .i64 (tg l i).den):=by
 have:=Eh l i h
 simpa [Zm] using this
theorem Yn(l:List Fr):(Zm l).size=3*l.length:=by
 induction l with
 |nil=>rfl
 |cons x l ih=>simp only[Ztx,Array.size_append,ih,List.length_cons];simp;omega
theorem Zdd(l:List Fr)(i:Nat)(h:i<l.length):(Zm l).extract (3*i) (3*i+3)=#[.int .i64 (tg l i).re, .int .i64 (tg l i).im, .int .i64 (tg l i).den]:=by
 obtain⟨h0,h1,h2⟩:=Po l i h;have hs:=Yn l;apply Array.ext
 ·simp;omega
 ·intro j hj1 hj2;have hj:j<3:=by simpa using hj2
  rw[Array.getElem_extract];have e:∀m (hm:m<(Zm l).size) v,(Zm l)[m]? =some v→(Zm l)[m]=v:=fun m hm v hv=>by
   rw[Array.getElem?_eq_getElem hm] at hv;exact Option.some.inj hv
  obtain rfl|rfl|rfl:j=0∨j=1∨j=2:=by omega
  ·exact e _ (by omega) _ h0
  ·exact e _ (by omega) _ h1
  ·exact e _ (by omega) _ h2
theorem Zmb{l:List Fr}(h:Tv l=true){i:Nat}(hi:i<l.length):rok (tg l i)=true:=by
 unfold Tv at h;rw[List.all_eq_true] at h;unfold tg;rw[List.getD_eq_getElem?_getD,List.getElem?_eq_getElem hi];exact h _ (List.getElem_mem hi)
theorem Zgw{l:List Fr}{i:Nat}(hi:i<l.length)(h:rok (tg l i)=false):Tv l=false:=by
 cases hk:Tv l with
 |false=>rfl
 |true=>rw[Zmb hk hi] at h;cases h
theorem Zma{l:List Fr}(h:∀i,i<l.length→rok (tg l i)=true):Tv l=true:=by
 unfold Tv;rw[List.all_eq_true];intro x hx;obtain⟨i,hi,rfl⟩:=List.mem_iff_getElem.1 hx;have:=h i hi
 unfold tg at this;rw[List.getD_eq_getElem?_getD,List.getElem?_eq_getElem hi] at this;exact this
theorem Zaz(l:List Fr)(hl:l.length=16)(k:Nat)(hk:k<16)(w:World):(Instr.index 83 (.agg (Zm l)) (k)).run prog w= .ok (.agg #[.int .i64 (tg l k).re, .int .i64 (tg l k).im, .int .i64 (tg l k).den]) w:=by
 have hs:=Yn l;have hw:=Zt (k:Int) (by omega);have hc:=Zdd l k (by omega);have h1:(k:Int)<16:=by omega
 have h2:¬(k:Int)<0:=by omega
 simp[Instr.index,run_underlying underlying83,asIntOf,go_sem,hs,hl,h1,h2];rw[if_pos hk,Nat.mul_comm k 3,hc]
theorem cellA{cs:Av}(h:cs.size=48):(Tryz.prog.info? 83).map (·.size)=some cs.size:=by rw[h];kernel_rfl
theorem Jo(t:List Fr)(ht:t.length=16)(w:World):Calls prog 101 #[.agg (Zm t)] w fun e w'=>e= .returned (.bool (Tv t))∧Ex w w':=by
 have hs:(Zm t).size=48:=by rw[Yn,ht]
 have HIX:=Zz (fun k hk w=>Zaz t ht k hk w);have KO:=Zz (fun x w=>Nu x w);have HA:=Zz (fun(h:Tv t=true) i (hi:i<16)=>Zmb h (i:=i) (by omega));have HN:=Zz (fun i (hi:i<16) (h:rok (tg t i)=false)=>Zgw (by omega) h);have HY:=Zz (fun(h:∀i,i<16→rok (tg t i)=true)=>Zma (l:=t) (fun i hi=>h i (by omega)));generalize hct:Zm t=cs at*;have b0:=Box.new w cs 85;have hE0:=(Ex.refl w).alloc (.cells cs 85);have c0:=b0.cell;clear hct;go_in;go_wp2_with (refine wpList_load_row rfl _ _ rfl _ rfl _ _ (0,0) _ b0 underlying83 rfl (cellA hs) ?_);clear c0 b0;go_loopw [7,4] (fun i f wr=>∃k:Nat,i= .int .i64 k∧k≤16∧Hid (∀j,j<k→rok (tg t j)=true)∧Hid (Ex w wr)) (fun i _ _=>17-(intOf i).toNat)
 case atStart=>exact⟨0,rfl,by omega,Zz (fun j hj=>absurd hj (by omega)),Zz hE0⟩
 case round=>
  obtain⟨k,rfl,hk,HR,HE⟩:=hrel;clear hE0;by_cases hlt:k<16
  ·have hI:(k:Int)<16:=by omega
   have hix:=fun w=>HIX.out k hlt w
   have hw5:=wr1 k (by omega);have ko:=fun w=>KO.out (tg t k) w
   have HNk:=Zz (HN.out k hlt);have HRk:Hid (rok (tg t k)=true→∀j,j<k+1→rok (tg t j)=true):=Zz fun h j hj=>by
    by_cases hjk:j=k
    ·rw[hjk];exact h
    ·exact HR.out j (by omega)
   generalize rok (tg t k)=v at ko HNk HRk;generalize tg t k=x at hix ko;obtain⟨x1,x2,x3⟩:=x;simp only[Fr.v] at ko hix;have K:=Zz ko;clear ko;rcases v with _|_
   ·have HF:=Zz (HNk.out rfl);clear HNk HRk;go_wp2_with (with_reducible refine Yw (K.out _) fun w2 hx=>?_);go_ret;exact⟨by rw[HF.out];rfl,(HE.out.alloc _).trans hx⟩
   ·have HF:=Zz (HRk.out rfl);clear HNk HRk;go_wp2_with (with_reducible refine Yw (K.out _) fun w2 hx=>?_);go_roundw
    case rel=>exact⟨k+1,by go_num,by omega,HF,Zz ((HE.out.alloc _).trans hx)⟩
    case measure=>simp[intOf]<;>omega
  ·obtain rfl:k=16:=by omega
   have HT:=Zz (HY.out HR.out);clear hlt;go_wp2;go_ret;exact⟨by rw[HT.out];rfl,HE.out⟩
theorem Jn(t:List Fr)(ht:t.length=16)(w:World):Calls prog 113 #[.agg (Zm t)] w fun e w'=>e= .returned (.bool (Tv t))∧Ex w w':=by
 have HAT:=Zz (fun k (hk:k<16)=>Po t k (by omega));have KO:=Zz (fun(x:Fr) w=>Xc x.re x.im x.den w);have HN:=Zz (fun i (hi:i<16) (h:rok (tg t i)=false)=>Zgw (by omega) h);have HY:=Zz (fun(h:∀i,i<16→rok (tg t i)=true)=>Zma (l:=t) (fun i hi=>h i (by omega)));have hs:(Zm t).size=48:=by rw[Yn,ht]
 generalize Zm t=cs at*;have b0:=Box.new w cs 85;have hE0:=(Ex.refl w).alloc (.cells cs 85);go_in;go_wp2;go_loopw [3] (fun i wr=>∃k:Nat,i= .int .i64 k∧k≤16∧Hid (∀j,j<k→rok (tg t j)=true)∧Box wr w.heap.size 85 cs∧Hid (Ex w wr)) (fun i _=>17-(intOf i).toNat)
 case atStart=>exact⟨0,rfl,by omega,Zz (fun j hj=>absurd hj (by omega)),b0,Zz hE0⟩
 case round=>
  clear b0 hE0;obtain⟨k,rfl,hk,HR,bT,HE⟩:=hrel;by_cases hlt:k<16
  ·have hI:(k:Int)<16:=by omega
   obtain⟨a0,a1,a2⟩:=HAT.out k hlt;have d0:wr.cell? ⟨w.heap.size,k*3,none⟩=some (.int .i64 (tg t k).re):=by rw[Nat.mul_comm];exact(bT.cell _).trans a0
   have d1:wr.cell? ⟨w.heap.size,k*3+1,none⟩=some (.int .i64 (tg t k).im):=by rw[Nat.mul_comm];exact(bT.cell _).trans a1
   have d2:wr.cell? ⟨w.heap.size,k*3+2,none⟩=some (.int .i64 (tg t k).den):=by rw[Nat.mul_comm];exact(bT.cell _).trans a2
   have hw5:=wr1 k (by omega);have ko:=fun w=>KO.out (tg t k) w
   have HNk:=Zz (HN.out k hlt);have HRk:Hid (rok (tg t k)=true→∀j,j<k+1→rok (tg t j)=true):=Zz fun h j hj=>by
    by_cases hjk:j=k
    ·rw[hjk];exact h
    ·exact HR.out j (by omega)
   have hrk:rok (tg t k)=(Yx (tg t k).re (tg t k).im (tg t k).den&&decide ((tg t k).im=0)):=rfl;have zT:=bT.lt;clear a0 a1 a2;generalize rok (tg t k)=rv at HNk HRk hrk;generalize tg t k=x at d0 d1 d2 ko hrk;obtain⟨x1,x2,x3⟩:=x;simp only at d0 d1 d2 ko hrk;generalize Yx x1 x2 x3=v at ko hrk;have K:=Zz ko;clear ko;rcases v with _|_
   ·have HF:=Zz (HNk.out (by rw[hrk];rfl));clear HNk HRk hrk;go_wp2_with (with_reducible refine Yw (K.out _) fun w2 hx=>?_);go_ret;exact⟨by rw[HF.out];rfl,HE.out.trans hx⟩
   ·by_cases h0:x2=0
    ·have HF:=Zz (HRk.out (by rw[hrk,decide_eq_true h0];rfl));have h0b:(x2==0)=true:=by simpa using h0
     clear HNk HRk hrk;subst h0;go_wp2_with ((with_reducible refine(K.out _).mono ?_);rintro e w2 ⟨rfl,hx⟩;have d1:=hx.get d1);go_roundw
     case rel=>exact⟨k+1,by go_num,by omega,HF,bT.ex hx,Zz (HE.out.trans hx)⟩
     case measure=>simp[intOf]<;>omega
    ·have HF:=Zz (HNk.out (by rw[hrk,decide_eq_false h0];rfl));have h0b:(x2==0)=false:=by simpa using h0
     clear HNk HRk hrk;go_wp2_with ((with_reducible refine(K.out _).mono ?_);rintro e w2 ⟨rfl,hx⟩;have d1:=hx.get d1);go_ret;exact⟨by rw[HF.out];rfl,HE.out.trans hx⟩
  ·obtain rfl:k=16:=by omega
   have HT:=Zz (HY.out HR.out);clear hlt;go_wp2;go_ret;exact⟨by rw[HT.out];rfl,HE.out⟩
end
section
open Go.RowKit

attribute [local go_sem] Zg Zf
theorem M4.l_arr(v:M4):v.v= .agg (Zm v.l):=rfl
theorem Rb{cs:Av}(h:cs.size=12):(Tryz.prog.info? 35).map (·.size)=some cs.size:=by rw[h];kernel_rfl
def Z12:Av:=Oc
theorem Zay:Z12=Zm (Wt 4):=rfl
def Re(t:List Fr)(r:Nat)(v:M4):Nat→Fr×Bool
 |0=>Zk (tg t (4*r)) v.a
 |k+1=>((Yo (Re t r v k).1 (Zk (tg t (4*r+(k+1))) (tg v.l (k+1))).1).1,
   (Re t r v k).2&&(Zk (tg t (4*r+(k+1))) (tg v.l (k+1))).2&&(Yo (Re t r v k).1 (Zk (tg t (4*r+(k+1))) (tg v.l (k+1))).1).2)
theorem Bk(t:List Fr)(r:Nat)(v:M4):Re t r v 3=Ur t r v:=by
 simp[Re,Ur,Ztp,tg,M4.l]
def Ku(t:List Fr)(v:M4)(r:Nat):List Fr:=(List.range 4).map fun j=>if j<r then (Ur t j v).1 else Fr.none
def Rn(t:List Fr)(v:M4):Nat→Bool
 |0=>true
 |r+1=>Rn t v r&&(Ur t r v).2
theorem Zys(t:List Fr)(v:M4)(r:Nat)(hr:r<4):(Ku t v r).set r (Ur t r v).1=Ku t v (r+1):=by
 obtain rfl|rfl|rfl|rfl:r=0∨r=1∨r=2∨r=3:=by omega
 all_goals rfl
theorem Zyr(t:List Fr)(v:M4)(r:Nat):(Ku t v r).length=4:=rfl
theorem Zos(t:List Fr)(v:M4):Ku t v 0=Wt 4:=rfl
theorem Eg(t:List Fr)(v:M4):Tj t v=if Tv t&&Uj v&&Rn t v 4 then (⟨(Ur t 0 v).1,(Ur t 1 v).1,(Ur t 2 v).1,(Ur t 3 v).1⟩,true) else (M4.none,false):=by
 unfold Tj Nn;simp only[Rn,Bool.true_and,Bool.and_assoc]
theorem Zyq(t:List Fr)(v:M4):Ku t v 4=[(Ur t 0 v).1,(Ur t 1 v).1,(Ur t 2 v).1,(Ur t 3 v).1]:=rfl
theorem Zta(t:List Fr)(ht:t.length=16)(v:M4)(w:World):Calls prog 202 #[.agg (Zm t),v.v] w (fun e w'=>e= .returned (m4v (Tj t v))∧Ex w w'):=by
 have kt:=fun w=>Jo t ht w
 have ksv:∀w,Calls prog 57 #[.agg #[v.a.re,v.a.im,v.a.den,v.b.re,v.b.im,v.b.den,v.c.re,v.c.im,v.c.den,v.d.re,v.d.im,v.d.den]] w fun e w'=>e= .returned (.bool (Uj v))∧Ex w w':=fun w=>Rg v.a v.b v.c v.d w
 unfold M4.v;have hst:(Zm t).size=48:=by rw[Yn,ht]
 have HTA:=Zz (fun k (hk:k<16)=>Po t k (by omega));have HVA:=Zz (fun k (hk:k<4)=>Po v.l k (by simp[M4.l];omega));have HTP:=Zz (Eg t v);have RA:=Zz (Bk t);generalize hct:Zm t=tc at*;generalize Tv t=tv at*;generalize Uj v=sv at*;have KT:=Zz kt;have KS:=Zz ksv;clear kt ksv hct;have hR:=Zo.refl w;go_in;go_upto_region 1 with fail;have hV:Zo w (((w.alloc (.cells tc 85)).alloc (.cells #[v.a.re,v.a.im,v.a.den,v.b.re,v.b.im,v.b.den,v.c.re,v.c.im,v.c.den,v.d.re,v.d.im,v.d.den] 35)).alloc (.cells Z12 35)) _:=inferInstance;clear hR;rw[show(Oc:Av)=Z12 from rfl];have hle:w.heap.size≤(((w.alloc (.cells tc 85)).alloc (.cells #[v.a.re,v.a.im,v.a.den,v.b.re,v.b.im,v.b.den,v.c.re,v.c.im,v.c.den,v.d.re,v.d.im,v.d.den] 35)).alloc (.cells Z12 35)).heap.size:=hV.ex.size;simp only[Zy] at hV;generalize ((w.alloc (.cells tc 85)).alloc (.cells #[v.a.re,v.a.im,v.a.den,v.b.re,v.b.im,v.b.den,v.c.re,v.c.im,v.c.den,v.d.re,v.d.im,v.d.den] 35)).alloc (.cells Z12 35)=W0 at*;have hW:Zl w (W0.alloc (.cells #[false] 92)) W0.heap.size false _:=Zl.start (h:=hV);go_cut [6] (fun s wx=>s= .pointer (some ⟨W0.heap.size,0,none⟩)∧Zl w wx W0.heap.size (!(tv&&sv)) [(w.heap.size+1+1,35,Z12),(w.heap.size+1,35,#[v.a.re,v.a.im,v.a.den,v.b.re,v.b.im,v.b.den,v.c.re,v.c.im,v.c.den,v.d.re,v.d.im,v.d.den]),(w.heap.size,85,tc)])
 case first=>
  have hb1:=hW.boxes.2.2.1;rcases tv with _|_
  ·go_wp2_with (first|(refine wpList_load_row rfl _ _ rfl _ rfl _ _ (0,0) _ hb1 underlying85 rfl (Yy hst) ?_)|((with_reducible refine(KT.out _).mono ?_);rintro e w1 ⟨rfl,hx⟩;replace hW:=Zl.ex hW hx;clear hx;have hC2:=hW.boxes.2.1.cell)|((with_reducible refine(KS.out _).mono ?_);rintro e w2 ⟨rfl,hx⟩;replace hW:=Zl.ex hW hx;clear hx)|(go_at_call 46;(with_reducible refine(Ud _ _ _ _ hW.sum).mono ?_);rintro e w3 ⟨rfl,hs,hb⟩;have hN:=Zl.call hW hs hb));go_meet
   exact⟨rfl,hN⟩
  ·rcases sv with _|_
   ·go_wp2_with (first|(refine wpList_load_row rfl _ _ rfl _ rfl _ _ (0,0) _ hb1 underlying85 rfl (Yy hst) ?_)|((with_reducible refine(KT.out _).mono ?_);rintro e w1 ⟨rfl,hx⟩;replace hW:=Zl.ex hW hx;clear hx;have hC2:=hW.boxes.2.1.cell)|((with_reducible refine(KS.out _).mono ?_);rintro e w2 ⟨rfl,hx⟩;replace hW:=Zl.ex hW hx;clear hx)|(go_at_call 46;(with_reducible refine(Ud _ _ _ _ hW.sum).mono ?_);rintro e w3 ⟨rfl,hs,hb⟩;have hN:=Zl.call hW hs hb));go_meet
    exact⟨rfl,hN⟩
   ·go_wp2_with (first|(refine wpList_load_row rfl _ _ rfl _ rfl _ _ (0,0) _ hb1 underlying85 rfl (Yy hst) ?_)|((with_reducible refine(KT.out _).mono ?_);rintro e w1 ⟨rfl,hx⟩;replace hW:=Zl.ex hW hx;clear hx;have hC2:=hW.boxes.2.1.cell)|((with_reducible refine(KS.out _).mono ?_);rintro e w2 ⟨rfl,hx⟩;replace hW:=Zl.ex hW hx;clear hx)|(go_at_call 46;(with_reducible refine(Ud _ _ _ _ hW.sum).mono ?_);rintro e w3 ⟨rfl,hs,hb⟩;have hN:=Zl.call hW hs hb));go_meet
    exact⟨rfl,hN⟩
 case rest=>
  obtain⟨rfl,hS⟩:=hcut;have hvc:(#[v.a.re,v.a.im,v.a.den,v.b.re,v.b.im,v.b.den,v.c.re,v.c.im,v.c.den,v.d.re,v.d.im,v.d.den]:Av)=Zm v.l:=rfl;rw[hvc] at hS;clear hvc;generalize Zm v.l=vc at*;clear hW hV KT KS;go_upto_region 3 with fail;rw[show(Oc:Av)=Z12 from rfl];have hS1:Zl w (wc.alloc (.cells Z12 35)) W0.heap.size (!(tv&&sv)) ((wc.heap.size,35,Z12)::[(w.heap.size+1+1,35,Z12),(w.heap.size+1,35,vc),(w.heap.size,85,tc)]):=Zl.alloc (h:=hS);have hob:w.heap.size≤wc.heap.size:=hS.sm.size;have z1:=hS.boxes.1.lt;have z2:=hS.boxes.2.1.lt;have z3:=hS.boxes.2.2.1.lt;have z4:=hS.sum.lt;have hne:∀x∈([(w.heap.size+1+1,35,Z12),(w.heap.size+1,35,vc),(w.heap.size,85,tc)]:Xx),x.1≠wc.heap.size:=by
   intro x hx;simp only[List.mem_cons,List.not_mem_nil,or_false] at hx;rcases hx with rfl|rfl|rfl
   ·exact Nat.ne_of_lt z1
   ·exact Nat.ne_of_lt z2
   ·exact Nat.ne_of_lt z3
  generalize wc.alloc (.cells Z12 35)=W1 at*;clear hS z1 z2 z3;go_wp2_with fail;go_loopw [21,8,9,10] (fun i rr ac kk wr=>∃r:Nat,i= .int .i64 r∧r≤4∧Hid (Zl w wr W0.heap.size (!(tv&&sv&&Rn t v r)) ((wc.heap.size,35,Zm (Ku t v r))::[(w.heap.size+1+1,35,Z12),(w.heap.size+1,35,vc),(w.heap.size,85,tc)]))) (fun i _ _ _ _=>5-(intOf i).toNat)
  case atStart=>exact⟨0,rfl,by omega,Zz (by simpa [Rn,Zos,←Zay] using hS1)⟩
  case round=>
   clear hS1;obtain⟨r,rfl,hr,HS⟩:=hrel;by_cases hlt:r<4
   ·have hI:(r:Int)<4:=by omega
    obtain⟨m0,hm0⟩:∃m0:Nat,m0=4*r:=⟨_,rfl⟩
    have hw0:IntKind.i64.wrap (4*(r:Int))=(m0:Int):=by rw[hm0];have:=Zt (4*(r:Int)) (by omega);rw[this];omega
    have hwr:=wr1 r (by omega);have hm1:(m0:Int)<16:=by omega
    obtain⟨f0,f1,f2⟩:=HTA.out m0 (by omega);obtain⟨g0,g1,g2⟩:=HVA.out 0 (by omega);have HR0:Hid (Re t r v 0=Zk (tg t m0) (tg v.l 0)):=Zz (by rw[hm0];rfl);have HRS:Hid (∀k m,m=4*r+(k+1)→Re t r v (k+1)=((Yo (Re t r v k).1 (Zk (tg t m) (tg v.l (k+1))).1).1,(Re t r v k).2&&(Zk (tg t m) (tg v.l (k+1))).2&&(Yo (Re t r v k).1 (Zk (tg t m) (tg v.l (k+1))).1).2)):=Zz (fun k m e=>by subst e;rfl);have HR3:=Zz (RA.out r v);rw[Nat.mul_comm 3 m0] at f0 f1 f2;simp only[Nat.mul_zero,Nat.zero_add] at g0 g1 g2;generalize tg t m0=x at f0 f1 f2 HR0;generalize tg v.l 0=y at g0 g1 g2 HR0;obtain⟨x1,x2,x3⟩:=x;obtain⟨y1,y2,y3⟩:=y;simp only at f0 f1 f2 g0 g1 g2;rcases h0:Zk ⟨x1,x2,x3⟩ ⟨y1,y2,y3⟩ with⟨⟨a1,a2,a3⟩,ka⟩;have HA0:Hid (Re t r v 0=(⟨a1,a2,a3⟩,ka)):=Zz (HR0.out.trans h0);have H0:=Zz h0;clear h0 HR0;obtain⟨fl,HFL⟩:=nm (!(tv&&sv&&Rn t v r));have hS:=HS.out;rw[←HFL.out] at hS;clear HS;have HM0:=Zz hm0;have HLT:=Zz (Xy.old hS.boxes);have hws:=hS.sm.size;clear hm0;go_upto_region 6 with fail;have hS0:=hS;have hbs0:=hS0.sum.lt;refine Yh (St:=Sm W0.heap.size) (B:=fun b w'=>InS _ W0.heap.size _ b w') 10 1 0 _ 30 (fun _=>9) (fun _=>33) (fun _=>Oa) (fun _=>#[a1,a2,a3]) _ (by kernel_rfl) (by kernel_rfl) (InS.drew (InS.start hS0)) (fun x y h1 h2 _=>by omega) (fun x y _ _=>by decide) (fun _ _ h g cs hg hb=>h.box _ _ _ (Nat.ne_of_gt (Nat.lt_of_lt_of_le hbs0 hg)) hb) (fun _ _ cs h=>h.alloc _) (fun _ _ h=>h.size) ?_;iterate 9 (apply Zp;rfl;intro b u B Q q;have hS:=B.sees;have hC:=hS.rd;simp only[Zr,Zq] at hC;go_wp2;exact q _ (Sm.refl _ _) B;exact⟨_,rfl⟩)
    (apply Zi;rfl;intro b u B Q q;go_wp2_with ((with_reducible refine(Ye B.sees H0.out).mono ?_);rintro e wn ⟨rfl,hN,hM⟩);exact q _ hM (B.call hN);exact⟨_,rfl⟩);refine Zn ?_;refine⟨fun i hi=>?_,fun i hi=>?_,fun i hi=>?_,fun gg wz hz hbx hne=>?_⟩
    ·obtain rfl:i=0:=by omega
     all_goals exact⟨_,rfl,Yt⟩
    ·obtain rfl:i=0:=by omega
     all_goals exact⟨_,rfl,Xh Ym rfl (by kernel_rfl) (fun _ _ _ hg h=>h.setRow hg _)⟩
    ·obtain rfl:i=0:=by omega
     ·exact(show(9:Nat)<64 by decide)
    obtain⟨hq0,hp0⟩:=hbx 0 (by omega);replace hS:=InS.join hS0 hz;replace hS:=Zl.put hS hp0 (by omega);simp only[frN,Act.put,Zx,Zw,Zv,Nat.reduceAdd,List.drop_succ_cons,List.drop_zero];generalize gg 0=ga at*;clear hbx hz hS0 hne;simp only at hS;have HNE:=Zz (fun x hx=>Nat.ne_of_lt (Nat.lt_of_lt_of_le (HLT.out x hx) hq0));have hgw:w.heap.size≤ga:=Nat.le_trans hws hq0;clear hws HLT hq0 hp0;clear f0 f1 f2 g0 g1 g2 hw0 hm1
    skip
    go_wp2_with fail;go_loopw [10] (fun kk wy=>∃k:Nat,kk= .int .i64 k∧1≤k∧k≤4∧∃a1 a2 a3 ka,Hid (Re t r v (k-1)=(⟨a1,a2,a3⟩,ka))∧Hid (Zl w wy W0.heap.size (fl|| !ka) ((ga,30,#[a1,a2,a3])::(wc.heap.size,35,Zm (Ku t v r))::[(w.heap.size+1+1,35,Z12),(w.heap.size+1,35,vc),(w.heap.size,85,tc)]))) (fun kk _=>5-(intOf kk).toNat)
    case atStart=>exact⟨1,rfl,by omega,by omega,a1,a2,a3,ka,HA0,Zz hS⟩
    case round=>
     clear hS HA0 H0;obtain⟨k,rfl,hk1,hk4,b1,b2,b3,kb,HB,HS⟩:=hrel;by_cases hk:k<4
     ·have hkI:(k:Int)<4:=by omega
      obtain⟨m,hm⟩:∃m:Nat,m=4*r+k:=⟨_,rfl⟩
      have hw0:IntKind.i64.wrap (4*(r:Int))=4*(r:Int):=Zt _ (by omega);have hw1:IntKind.i64.wrap (4*(r:Int)+(k:Int))=(m:Int):=by rw[hm];have:=Zt (4*(r:Int)+(k:Int)) (by omega);rw[this];omega
      have hwk:=wr1 k (by omega);have hm1:(m:Int)<16:=by omega
      obtain⟨f0,f1,f2⟩:=HTA.out m (by omega);obtain⟨g3,g4,g5⟩:=HVA.out k (by omega);have HK:=Zz (HRS.out (k-1) m (by omega));have hkk:k-1+1=k:=by omega
      rw[hkk] at HK;rw[HB.out] at HK;rw[Nat.mul_comm 3 m] at f0 f1 f2;rw[Nat.mul_comm 3 k] at g3 g4 g5;generalize tg t m=x at f0 f1 f2 HK;generalize tg v.l k=y at g3 g4 g5 HK;obtain⟨x1,x2,x3⟩:=x;obtain⟨y1,y2,y3⟩:=y;simp only at f0 f1 f2 g3 g4 g5 HK;rcases h1:Zk ⟨x1,x2,x3⟩ ⟨y1,y2,y3⟩ with⟨⟨p1,p2,p3⟩,kp⟩;rw[h1] at HK;simp only at HK;rcases h2:Yo ⟨b1,b2,b3⟩ ⟨p1,p2,p3⟩ with⟨⟨s1,s2,s3⟩,ks⟩;rw[h2] at HK;simp only at HK;have H1:=Zz h1;have H2:=Zz h2;clear h1 h2 hm hkk;have hS:=HS.out;clear HS;go_upto_region 10 with fail;refine Ux (fun b w2=>Zl w w2 W0.heap.size b _) 15 _ (by kernel_rfl) (hS.drewW) (by exact fun _ _ _ _ _ h=>h) ?_;iterate 14 (apply Zp;rfl;intro b u B Q q;have hS:=B;have hC:=hS.rd;simp only[Zr,Zq] at hC;go_wp2;exact q _ trivial B;exact⟨_,rfl⟩)
      (apply Zi;rfl;intro b u B Q q;go_wp2_with ((with_reducible refine(Ye B H1.out).mono ?_);rintro e wn ⟨rfl,hN,hM⟩);exact q _ trivial hN;exact⟨_,rfl⟩);refine Zn ?_;intro wz2 hz2;clear hS;have hC:=hz2.rd;simp only[Zr,Zq] at hC;go_wp2_with ((with_reducible refine(Rj hz2 H2.out).mono ?_);rintro e wm ⟨rfl,hN, -⟩;have hC:=hN.rd;simp only[Zr,Zq] at hC);have hS5:=Zl.set3 hN hgw HNE.out (s1) (s2) (s3);have ef:(fl|| !kb|| !kp|| !ks)=(fl|| !(kb&&kp&&ks)):=by simp[Bool.or_assoc]
      rw[ef] at hS5;have HS5:=Zz hS5;clear hS5 hN hC ef;go_roundw
      case rel=>exact⟨k+1,by go_num,by omega,by omega,s1,s2,s3,(kb&&kp&&ks),HK,HS5⟩
      case measure=>simp[intOf]<;>omega
     ·obtain rfl:k=4:=by omega
      have hS:=HS.out;have hT:=Zl.tail hS;have hC:=hS.rd;simp only[Zr,Zq] at hC;have HTR:Hid (Ur t r v=(⟨b1,b2,b3⟩,kb)):=Zz (HR3.out.symm.trans HB.out);have hkI:¬((4:Nat):Int)<4:=by omega
      clear HS HB hk hk1 hk4 HRS;go_wp2_with (refine Id hT hob hne r (by rw[Zyr];exact hlt) (by rw[Nat.mul_comm 3 r];rfl) rfl ?_;intro V hV2);have e1:=Zys t v r hlt;rw[HTR.out] at e1;simp only at e1;rw[e1] at hV2;have e2:(fl|| !kb)= !(tv&&sv&&Rn t v (r+1)):=by
       rw[HFL.out];simp only[Rn,HTR.out,Bool.not_and,Bool.or_assoc]
      rw[e2] at hV2;have HV2:=Zz hV2;clear hV2 e1 e2 hT hC hS;go_roundw
      case rel=>exact⟨r+1,by go_num,by omega,HV2⟩
      case measure=>simp[intOf]<;>omega
   ·obtain rfl:r=4:=by omega
    have hS:=HS.out;have HTP2:=HTP;rw[Zyq] at hS;rcases e0:(Ur t 0 v).1 with⟨r0a,r0b,r0c⟩;rcases e1:(Ur t 1 v).1 with⟨r1a,r1b,r1c⟩;rcases e2:(Ur t 2 v).1 with⟨r2a,r2b,r2c⟩;rcases e3:(Ur t 3 v).1 with⟨r3a,r3b,r3c⟩;have ht:=HTP.out;rw[e0,e1,e2,e3] at hS ht;clear e0 e1 e2 e3 HS HTP HTP2;unfold Z12 at hS;rw[show Zm [⟨r0a,r0b,r0c⟩,⟨r1a,r1b,r1c⟩,⟨r2a,r2b,r2c⟩,⟨r3a,r3b,r3c⟩]=(#[r0a,r0b,r0c,r1a,r1b,r1c,r2a,r2b,r2c,r3a,r3b,r3c]:Av) from rfl] at hS;have hI:¬((4:Nat):Int)<4:=by omega
    have hC:=hS.rd;simp only[Zr,Zq] at hC;rcases hK:(tv&&sv&&Rn t v 4) with _|_
    ·rw[hK] at hS ht hC;simp only[Bool.false_eq_true,if_false] at ht;go_wp2_with ((with_reducible refine(Kj _ _ _ _ _ _ _ _ _ _ _ _ _ _ hS.sum).mono ?_);rintro e wn ⟨rfl,hx⟩;have hS9:=Zl.ex hS hx;have hC:=hS9.rd;simp only[Zr,Zq] at hC;have hE:=hS9.rel hle);refine Zu (v:= .tuple #[.agg Oc,false]) ?_ rfl ⟨by rw[ht];rfl,?_⟩
     ·simp[results,results202,go_sem,hC]
     ·(have:=Exi.mk hE;exact Exi.out)
    ·rw[hK] at hS ht hC;simp only[if_true] at ht;go_wp2_with ((with_reducible refine(Kv _ _ _ _ _ _ _ _ _ _ _ _ _ _ hS.sum).mono ?_);rintro e wn ⟨rfl,hx⟩;have hS9:=Zl.ex hS hx;have hC:=hS9.rd;simp only[Zr,Zq] at hC;have hE:=hS9.rel hle);refine Zu (v:= .tuple #[.agg #[r0a,r0b,r0c,r1a,r1b,r1c,r2a,r2b,r2c,r3a,r3b,r3c],true]) ?_ rfl ⟨by rw[ht];rfl,?_⟩
     ·simp[results,results202,go_sem,hC]
     ·(have:=Exi.mk hE;exact Exi.out)
end
section
open Go.RowKit

attribute [local go_sem] Zg Zf
theorem Is(t:List Fr)(ht:t.length=16)(r:Nat)(hr:r<4)(w:World):Calls prog 45 #[.agg (Zm t),r] w fun e w'=>e= .returned (.agg (Zm [tg t (4*r),tg t (4*r+1),tg t (4*r+2),tg t (4*r+3)]))∧Ex w w':=by
 have HTA:=Zz (fun k (hk:k<16)=>Po t k (by omega));generalize hct:Zm t=tc at*;clear hct;obtain⟨m0,hm0⟩:∃m:Nat,m=4*r+0:=⟨_,rfl⟩
 obtain⟨m1,hm1⟩:∃m:Nat,m=4*r+1:=⟨_,rfl⟩
 obtain⟨m2,hm2⟩:∃m:Nat,m=4*r+2:=⟨_,rfl⟩
 obtain⟨m3,hm3⟩:∃m:Nat,m=4*r+3:=⟨_,rfl⟩
 have hw0:IntKind.i64.wrap (4*(r:Int))=(m0:Int):=by rw[hm0];have:=Zt (4*(r:Int)) (by omega);rw[this];omega
 have hw1:IntKind.i64.wrap ((m0:Int)+1)=(m1:Int):=by rw[hm0,hm1];have:=Zt (((4*r+0:Nat):Int)+1) (by omega);rw[this];omega
 have hw2:IntKind.i64.wrap ((m0:Int)+2)=(m2:Int):=by rw[hm0,hm2];have:=Zt (((4*r+0:Nat):Int)+2) (by omega);rw[this];omega
 have hw3:IntKind.i64.wrap ((m0:Int)+3)=(m3:Int):=by rw[hm0,hm3];have:=Zt (((4*r+0:Nat):Int)+3) (by omega);rw[this];omega
 have hl0:(m0:Int)<16:=by omega
 have hl1:(m1:Int)<16:=by omega
 have hl2:(m2:Int)<16:=by omega
 have hl3:(m3:Int)<16:=by omega
 obtain⟨xf,xg,xh⟩:=HTA.out m0 (by omega);rw[Nat.mul_comm 3 m0] at xf xg xh;obtain⟨yf,yg,yh⟩:=HTA.out m1 (by omega);rw[Nat.mul_comm 3 m1] at yf yg yh;obtain⟨zf,zg,zh⟩:=HTA.out m2 (by omega);rw[Nat.mul_comm 3 m2] at zf zg zh;obtain⟨uf,ug,uh⟩:=HTA.out m3 (by omega);rw[Nat.mul_comm 3 m3] at uf ug uh;rw[show 4*r+3=m3 by omega,show 4*r+2=m2 by omega,show 4*r+1=m1 by omega,show 4*r=m0 by omega];clear hm0 hm1 hm2 hm3;generalize tg t m0=x at*;obtain⟨x1,x2,x3⟩:=x;simp only at xf xg xh;generalize tg t m1=y at*;obtain⟨y1,y2,y3⟩:=y;simp only at yf yg yh;generalize tg t m2=z at*;obtain⟨z1,z2,z3⟩:=z;simp only at zf zg zh;generalize tg t m3=u at*;obtain⟨u1,u2,u3⟩:=u;simp only at uf ug uh;rw[show Zm [⟨x1,x2,x3⟩,⟨y1,y2,y3⟩,⟨z1,z2,z3⟩,⟨u1,u2,u3⟩]=(#[x1,x2,x3,y1,y2,y3,z1,z2,z3,u1,u2,u3]:Av) from rfl];have hS:Zo w ((w.alloc (.cells tc 85)).alloc (.cells Oc 31)) _:=Zo.alloc (h:=Zo.alloc (h:=Zo.refl w) (cs:=tc) (t:=85)) (cs:=Oc) (t:=31);simp only[Zy] at hS;go_in;go_upto_region 1 with fail;refine Ux (fun _ w2=>Zo w w2 [(w.heap.size+1,31,Oc),(w.heap.size,85,tc)]) 24 false (by kernel_rfl) (hS.drewW) (by exact fun _ _ _ _ _ h=>h) ?_;iterate 24 (apply Zp;rfl;intro b u B Q q;have hS:=B;have hC:=hS.rd;simp only[Zr,Zq] at hC;go_wp2;exact q _ trivial B;exact⟨_,rfl⟩)
 refine Zn ?_;intro wz hz;have hC:=hz.rd;simp only[Zr,Zq] at hC;have hE:=hz.ex;go_wp2_with fail;have:=Exi.mk hE
 exact Yp (by simp[results,results45,go_sem,hC]) rfl
end
section
open Go.RowKit

attribute [local go_sem] Zg Zf
def Hk(p q:List Fr):Nat→Fr×Bool
 |0=>(Fr.nul,true)
 |k+1=>((Xr 1 (Hk p q k).1 (Zk (tg p k) (tg q k)).1).1,(Hk p q k).2&&(Zk (tg p k) (tg q k)).2&&(Xr 1 (Hk p q k).1 (Zk (tg p k) (tg q k)).1).2)
theorem Bi(a b c d x y z u:Fr):Hk [a,b,c,d] [x,y,z,u] 4=Bw a b c d x y z u:=by
 simp[Hk,Bw,tg]
theorem Zh.flag{W w:World}{bs:Nat}{b:Bool}{L:Xx}(h:Zh W w bs b L)(v:Bool):Zh W (w.setCell ⟨bs,0,none⟩ (.bool v)) bs v L:=by
 refine⟨h.sm.trans (SmO.set h.sum 0 (.bool v)),?_,?_,h.far⟩
 ·have h2:=h.sum.set_ 0 (.bool v);simpa using h2
 ·exact Xy.smO (SmO.set h.sum 0 (.bool v)) h.far h.boxes
theorem Zaw{w:World}{a1 a2 a3 b1 b2 b3 x y z:Int}{k:Bool}(h:Zk ⟨a1,a2,a3⟩ ⟨b1,b2,b3⟩=(⟨x,y,z⟩,k)):Calls prog 108 #[.agg #[a1,a2,a3], .agg #[b1,b2,b3]] w fun e w'=>e= .returned (.tuple #[.agg #[x,y,z],k])∧Ex w w':=by
 have:=Vy ⟨a1,a2,a3⟩ ⟨b1,b2,b3⟩ w
 rw[h] at this;exact this
theorem Hj(bs:Nat)(e:Bool)(p q:List Fr)(hp:p.length=4)(hq:q.length=4)(w:World)(hb:Box w bs 155 #[.bool (!e)]):Calls prog 114 #[.pointer (some ⟨bs,0,none⟩), .agg (Zm p), .agg (Zm q)] w (Vw bs (!e) w (Hk p q 4)):=by
 have HP:=Zz (fun k (hk:k<4)=>Po p k (by omega));have HQ:=Zz (fun k (hk:k<4)=>Po q k (by omega));generalize hpc:Zm p=pc at*;generalize hqc:Zm q=qc at*;clear hpc hqc;obtain⟨RV,HRV⟩:∃v,Hid (v=Hk p q 4):=⟨_,Zz rfl⟩
 rw[←HRV.out];have hbl:=hb.lt;have hS0:=Zh.init hb;have hS1:Zh w ((((w.alloc (.cells pc 31)).alloc (.cells qc 31)).alloc (.cells Oa 30)).alloc (.cells #[oo,oo, .int .i64 1] 30)) bs (!e) _:=Zh.alloc (h:=Zh.alloc (h:=Zh.alloc (h:=Zh.alloc (h:=hS0) (cs:=pc) (t:=31)) (cs:=qc) (t:=31)) (cs:=Oa) (t:=30)) (cs:=#[oo,oo, .int .i64 1]) (t:=30);simp only[Zy] at hS1;go_in;go_upto_region 2 with fail;generalize (((w.alloc (.cells pc 31)).alloc (.cells qc 31)).alloc (.cells Oa 30)).alloc (.cells #[oo,oo, .int .i64 1] 30)=W1 at*;clear hS0 hb;go_wp2_with fail;go_loopw [8,9,10] (fun kk xx oo wr=>∃k:Nat,kk= .int .i64 k∧k≤4∧∃s1 s2 s3 f,Hid (Hk p q k=(⟨s1,s2,s3⟩,f))∧Hid (Zh w wr bs (!(e|| !f)) ((w.heap.size+1+1+1,30,#[s1,s2,s3])::[(w.heap.size+1+1,30,Oa),(w.heap.size+1,31,qc),(w.heap.size,31,pc)]))) (fun kk _ _ _=>5-(intOf kk).toNat)
 case atStart=>exact⟨0,rfl,by omega,0,0,1,true,Zz rfl,Zz (by simpa using hS1)⟩
 case round=>
  clear hS1;obtain⟨k,rfl,hk4,s1,s2,s3,f,HA,HS⟩:=hrel;by_cases hk:k<4
  ·have hkI:(k:Int)<4:=by omega
   have hwk:=wr1 k (by omega);obtain⟨f0,f1,f2⟩:=HP.out k hk;obtain⟨g3,g4,g5⟩:=HQ.out k hk;rw[Nat.mul_comm 3 k] at f0 f1 f2 g3 g4 g5;have HK:Hid (Hk p q (k+1)=((Xr 1 (Hk p q k).1 (Zk (tg p k) (tg q k)).1).1,(Hk p q k).2&&(Zk (tg p k) (tg q k)).2&&(Xr 1 (Hk p q k).1 (Zk (tg p k) (tg q k)).1).2)):=Zz rfl;rw[HA.out] at HK;generalize tg p k=x at f0 f1 f2 HK;generalize tg q k=y at g3 g4 g5 HK;obtain⟨x1,x2,x3⟩:=x;obtain⟨y1,y2,y3⟩:=y;simp only at f0 f1 f2 g3 g4 g5 HK;rcases h1:Zk ⟨x1,x2,x3⟩ ⟨y1,y2,y3⟩ with⟨⟨p1,p2,p3⟩,kp⟩;rw[h1] at HK;simp only at HK;rcases h2:Xr 1 ⟨s1,s2,s3⟩ ⟨p1,p2,p3⟩ with⟨⟨t1,t2,t3⟩,kt⟩;rw[h2] at HK;simp only at HK;have H1:=Zz h1;have H2:=Zz h2;clear h1 h2;have hS:=HS.out;clear HS;have HLT:=Zz (Xy.old hS.boxes);have hws:=hS.sm.size;have hfar:=hS.far _ (.head _);obtain⟨fl,HFL⟩:=nm (!(e|| !f));rw[←HFL.out] at hS;go_upto_region 5 with fail;have hS0:=hS;have hbs0:=hS0.sum.lt;refine Yh (St:=SmO bs) (B:=fun b w'=>InO _ bs _ b w') 10 1 1 _ 30 (fun _=>9) (fun _=>24) (fun _=>Oa) (fun _=>#[p1,p2,p3]) _ (by kernel_rfl) (by kernel_rfl) (InO.drew (InO.start hS0)) (fun x y h1 h2 _=>by omega) (fun x y _ _=>by decide) (fun _ _ h g cs hg hb=>h.box _ _ _ (Nat.ne_of_gt (Nat.lt_of_lt_of_le hbs0 hg)) hb) (fun _ _ cs h=>h.alloc _) (fun _ _ h=>h.size) ?_;iterate 6 (apply Zp;rfl;intro b u B Q q;have hS:=B.sees;have hC:=hS.rd;simp only[Zr,Zq] at hC;go_wp2;exact q _ (SmO.refl _ _) B;exact⟨_,rfl⟩)
   (apply Zp;rfl;intro b u B Q q;go_wp2_with ((with_reducible refine(Zaw H1.out).mono ?_);rintro e1 wn ⟨rfl,hx⟩);exact q _ (SmO.of_ex hx) (B.call (B.sees.ex hx));exact⟨_,rfl⟩);iterate 3 (apply Zp;rfl;intro b u B Q q;go_wp2;exact q _ (SmO.refl _ _) B;exact⟨_,rfl⟩)
   refine Zn ?_;refine⟨fun i hi=>?_,fun i hi=>?_,fun i hi=>?_,fun gg wz hz hbx hne=>?_⟩
   ·obtain rfl:i=0:=by omega
    all_goals exact⟨_,rfl,Yt⟩
   ·obtain rfl:i=0:=by omega
    all_goals exact⟨_,rfl,Xh Ym rfl (by kernel_rfl) (fun _ _ _ hg h=>h.setRow hg _)⟩
   ·obtain rfl:i=0:=by omega
    ·exact(show(9:Nat)<41 by decide)
   obtain⟨hq0,hp0⟩:=hbx 0 (by omega);replace hS:=InO.join hS0 hz;replace hS:=Zh.put hS hp0 (by omega);simp only[frN,Act.put,Zx,Zw,Zv,Nat.reduceAdd,List.drop_succ_cons,List.drop_zero];generalize gg 0=ga at*;clear hbx hz hS0 hne;simp only at hS;have HNE:=Zz (fun x hx=>Nat.ne_of_lt (Nat.lt_of_lt_of_le (HLT.out x hx) hq0));clear hws HLT hq0 hp0 f0 f1 f2 g3 g4 g5;have hbw:bs<w.heap.size:=hbl;rcases fl with _|_
   ·have hC:=hS.rd;simp only[Zr,Zq] at hC;go_upto_region 7 with fail;have hS7:Zh w (wz.setCell ⟨bs,0,none⟩ (.bool false)) bs (!true) _:=hS.flag false;generalize wz.setCell ⟨bs,0,none⟩ (.bool false)=W7 at*;clear hS hC;have hC:=hS7.rd;simp only[Zr,Zq] at hC;go_wp2_with ((with_reducible refine(Fg (.inl rfl) hS7 H2.out).mono ?_);rintro e1 wm ⟨rfl,hN, -⟩;have hC:=hN.rd;simp only[Zr,Zq] at hC);have hS8:=Zh.set3 hN.tail (by omega) (fun x hx=>by
      simp only[List.mem_cons,List.not_mem_nil,or_false] at hx;rcases hx with rfl|rfl|rfl<;>simp only<;>omega) (t1) (t2) (t3)
    have ef:(!(true|| !kt))= !(e|| !(f&&kp&&kt)):=by
     have h:=HFL.out;revert h;cases e<;>cases f<;>cases kt<;>simp<;>cases kp<;>simp
    rw[ef] at hS8;have HS8:=Zz hS8;clear hS8 hN hS7 hC ef;go_roundw
    case rel=>exact⟨k+1,by go_num,by omega,t1,t2,t3,(f&&kp&&kt),HK,HS8⟩
    case measure=>simp[intOf]<;>omega
   ·rcases kp with _|_
    ·have hC:=hS.rd;simp only[Zr,Zq] at hC;go_upto_region 7 with fail;have hS7:Zh w (wz.setCell ⟨bs,0,none⟩ (.bool false)) bs (!true) _:=hS.flag false;generalize wz.setCell ⟨bs,0,none⟩ (.bool false)=W7 at*;clear hS hC;have hC:=hS7.rd;simp only[Zr,Zq] at hC;go_wp2_with ((with_reducible refine(Fg (.inl rfl) hS7 H2.out).mono ?_);rintro e1 wm ⟨rfl,hN, -⟩;have hC:=hN.rd;simp only[Zr,Zq] at hC);have hS8:=Zh.set3 hN.tail (by omega) (fun x hx=>by
       simp only[List.mem_cons,List.not_mem_nil,or_false] at hx;rcases hx with rfl|rfl|rfl<;>simp only<;>omega) (t1) (t2) (t3)
     have ef:(!(true|| !kt))= !(e|| !(f&&false&&kt)):=by
      have h:=HFL.out;revert h;cases e<;>cases f<;>cases kt<;>simp
     rw[ef] at hS8;have HS8:=Zz hS8;clear hS8 hN hS7 hC ef;go_roundw
     case rel=>exact⟨k+1,by go_num,by omega,t1,t2,t3,(f&&false&&kt),HK,HS8⟩
     case measure=>simp[intOf]<;>omega
    ·have hC:=hS.rd;simp only[Zr,Zq] at hC;go_upto_region 7 with fail;have hS7:Zh w (wz.setCell ⟨bs,0,none⟩ (.bool true)) bs (!false) _:=hS.flag true;generalize wz.setCell ⟨bs,0,none⟩ (.bool true)=W7 at*;clear hS hC;have hC:=hS7.rd;simp only[Zr,Zq] at hC;go_wp2_with ((with_reducible refine(Fg (.inl rfl) hS7 H2.out).mono ?_);rintro e1 wm ⟨rfl,hN, -⟩;have hC:=hN.rd;simp only[Zr,Zq] at hC);have hS8:=Zh.set3 hN.tail (by omega) (fun x hx=>by
       simp only[List.mem_cons,List.not_mem_nil,or_false] at hx;rcases hx with rfl|rfl|rfl<;>simp only<;>omega) (t1) (t2) (t3)
     have ef:(!(false|| !kt))= !(e|| !(f&&true&&kt)):=by
      have h:=HFL.out;revert h;cases e<;>cases f<;>cases kt<;>simp
     rw[ef] at hS8;have HS8:=Zz hS8;clear hS8 hN hS7 hC ef;go_roundw
     case rel=>exact⟨k+1,by go_num,by omega,t1,t2,t3,(f&&true&&kt),HK,HS8⟩
     case measure=>simp[intOf]<;>omega
  ·obtain rfl:k=4:=by omega
   have hrv:=HRV.out.trans HA.out;subst hrv;have hS:=HS.out;have ef2:(!(e|| !f))=(!e&&f):=by cases e<;>cases f<;>rfl
   rw[ef2] at hS;have hkI:¬((4:Nat):Int)<4:=by omega
   clear HS HA HRV hk;have hC:=hS.rd;simp only[Zr,Zq] at hC;have hm2:=hS.sm;have hs2:=hS.sum;go_wp2_with fail;unfold Vw;simp only[Fr.v];refine Zu ?_ rfl ⟨rfl,?_,?_⟩
   ·simp[results,results114,go_sem,hC]
   ·repeat' (with_reducible first
   |exact hm2
   |refine SmO.setNew ?_ (by simp<;>omega) _)
   ·repeat' (with_reducible first
   |exact hs2
   |refine Box.far ?_ (by simp<;>omega) _)
end
section
open Go.RowKit

attribute [local go_sem] Zg Zf
theorem Zav{cs:Av}(h:cs.size=12):(Tryz.prog.info? 31).map (·.size)=some cs.size:=by rw[h];kernel_rfl
theorem Zsw(t:List Fr)(ht:t.length=16)(v:M4)(w:World):Calls prog 253 #[.agg (Zm t),v.v] w (fun e w'=>e= .returned (m4v (Tj t v))∧Ex w w'):=by
  have kt:=fun w=>Jn t ht w
  have ksv:∀w,Calls prog 225 #[.agg #[v.a.re,v.a.im,v.a.den,v.b.re,v.b.im,v.b.den,v.c.re,v.c.im,v.c.den,v.d.re,v.d.im,v.d.den]] w fun e w'=>e= .returned (.bool (Uj v))∧Ex w w':=fun w=>Pb v.a v.b v.c v.d w
  unfold M4.v;have hst:(Zm t).size=48:=by rw[Yn,ht]
  have HTP:=Zz (Eg t v);have KO:=Zz (fun r hr w=>Is t ht r hr w);have HALK:=Zz (fun r=>Bv (tg t (4*r)) (tg t (4*r+1)) (tg t (4*r+2)) (tg t (4*r+3)) v.a v.b v.c v.d);have KR:=Zz (fun(bs:Nat) (e:Bool) (r:Nat) (w:World) (hb:Box w bs 155 #[.bool (!e)])=>Hj bs e [tg t (4*r),tg t (4*r+1),tg t (4*r+2),tg t (4*r+3)] v.l rfl rfl w hb);have HVL:Hid (Zm v.l=(#[v.a.re,v.a.im,v.a.den,v.b.re,v.b.im,v.b.den,v.c.re,v.c.im,v.c.den,v.d.re,v.d.im,v.d.den]:Av)):=Zz rfl;generalize hct:Zm t=tc at*;generalize htv:Tv t=tv at*;generalize hsv:Uj v=sv at*;have KT:=Zz kt;have KS:=Zz ksv;clear kt ksv hct htv hsv;have hR:=Zo.refl w;go_in;go_upto_region 1 with fail;have hV:Zo w (((w.alloc (.cells tc 85)).alloc (.cells #[v.a.re,v.a.im,v.a.den,v.b.re,v.b.im,v.b.den,v.c.re,v.c.im,v.c.den,v.d.re,v.d.im,v.d.den] 35)).alloc (.cells Oc 35)) _:=inferInstance;clear hR;have hle:w.heap.size≤(((w.alloc (.cells tc 85)).alloc (.cells #[v.a.re,v.a.im,v.a.den,v.b.re,v.b.im,v.b.den,v.c.re,v.c.im,v.c.den,v.d.re,v.d.im,v.d.den] 35)).alloc (.cells Oc 35)).heap.size:=hV.ex.size;simp only[Zy] at hV;generalize ((w.alloc (.cells tc 85)).alloc (.cells #[v.a.re,v.a.im,v.a.den,v.b.re,v.b.im,v.b.den,v.c.re,v.c.im,v.c.den,v.d.re,v.d.im,v.d.den] 35)).alloc (.cells Oc 35)=W0 at*;have hb1:=hV.boxes.2.2.1;rcases tv with _|_
  · have ht:=HTP.out;simp only[Bool.false_and,Bool.false_eq_true,if_false] at ht;clear HTP;go_wp2_with (first|(refine wpList_load_row rfl _ _ rfl _ rfl _ _ (0,0) _ hb1 underlying85 rfl (Yy hst) ?_)|((with_reducible refine(KT.out _).mono ?_);rintro e w1 ⟨rfl,hx⟩;replace hV:=Zo.after (W:=w) hx;clear hx;have hC2:=hV.boxes.2.1.cell)|((with_reducible refine(KS.out _).mono ?_);rintro e w1 ⟨rfl,hx⟩;replace hV:=Zo.after (W:=w) hx;clear hx));refine wp_loop_rounds 1 ?_;rw[rounds_succ];have hC:=hV.rd;simp only[Zr,Zq] at hC;have hE:=hV.ex;go_wp2_with fail;refine Zu (v:= .tuple #[.agg Oc,false]) ?_ rfl ⟨by rw[ht];rfl,?_⟩
    · simp[results,results253,go_sem,hC]
    · (have:=Exi.mk hE;exact Exi.out)
  · rcases sv with _|_
    · have ht:=HTP.out;simp only[Bool.true_and,Bool.false_and,Bool.false_eq_true,if_false] at ht;clear HTP;go_wp2_with (first|(refine wpList_load_row rfl _ _ rfl _ rfl _ _ (0,0) _ hb1 underlying85 rfl (Yy hst) ?_)|((with_reducible refine(KT.out _).mono ?_);rintro e w1 ⟨rfl,hx⟩;replace hV:=Zo.after (W:=w) hx;clear hx;have hC2:=hV.boxes.2.1.cell)|((with_reducible refine(KS.out _).mono ?_);rintro e w1 ⟨rfl,hx⟩;replace hV:=Zo.after (W:=w) hx;clear hx));refine wp_loop_rounds 1 ?_;rw[rounds_succ];have hC:=hV.rd;simp only[Zr,Zq] at hC;have hE:=hV.ex;go_wp2_with fail;refine Zu (v:= .tuple #[.agg Oc,false]) ?_ rfl ⟨by rw[ht];rfl,?_⟩
      · simp[results,results253,go_sem,hC]
      · (have:=Exi.mk hE;exact Exi.out)
    · simp only[Bool.true_and] at HTP;go_upto_region 3 with(first|(refine wpList_load_row rfl _ _ rfl _ rfl _ _ (0,0) _ hb1 underlying85 rfl (Yy hst) ?_)|((with_reducible refine(KT.out _).mono ?_);rintro e w1 ⟨rfl,hx⟩;replace hV:=Zo.after (W:=w) hx;clear hx;have hC2:=hV.boxes.2.1.cell)|((with_reducible refine(KS.out _).mono ?_);rintro e w1 ⟨rfl,hx⟩;replace hV:=Zo.after (W:=w) hx;clear hx));have hle2:=hV.ex.size;have hS0:Zh w ((w1.alloc (.cells #[true] 155)).alloc (.cells Oc 35)) w1.heap.size true _:=Zh.alloc (h:=Zh.start (h:=hV)) (cs:=Oc) (t:=35);simp only[Zy] at hS0;have z1:=hV.boxes.1.lt;have z2:=hV.boxes.2.1.lt;have z3:=hV.boxes.2.2.1.lt;generalize (w1.alloc (.cells #[true] 155)).alloc (.cells Oc 35)=W5 at*;rw[←HVL.out] at hS0;have hsv2:(Zm v.l).size=12:=by rw[Yn];rfl
      generalize hvc:Zm v.l=vc at*;have hne:∀x∈([(w.heap.size+1+1,35,Oc),(w.heap.size+1,35,vc),(w.heap.size,85,tc)]:Xx),x.1≠w1.heap.size+1:=by
        intro x hx;simp only[List.mem_cons,List.not_mem_nil,or_false] at hx;rcases hx with rfl|rfl|rfl<;>simp only<;>omega
      have hob:w.heap.size≤w1.heap.size+1:=by omega
      clear hV hb1 KT KS z1 z2 z3;go_wp2_with fail;go_loopw [8] (fun ii wr=>∃(r:Nat) (l:List Fr),ii= .int .i64 r∧r≤4∧l.length=4∧Hid (Rn t v r=true→l=Ku t v r)∧Hid (Zh w wr w1.heap.size (Rn t v r) ((w1.heap.size+1,35,Zm l)::[(w.heap.size+1+1,35,Oc),(w.heap.size+1,35,vc),(w.heap.size,85,tc)]))) (fun ii _=>5-(intOf ii).toNat)
      case atStart=>exact⟨0,Wt 4,rfl,by omega,rfl,Zz (fun _=>rfl),Zz hS0⟩
      case round=>
        clear hS0;obtain⟨r,l,rfl,hr,hl,HL,HS⟩:=hrel;rcases hf:Rn t v r with _|_
        · have hS:=HS.out;have ht:=HTP.out;have hk4:Rn t v 4=false:=by
            have hmono:∀j k,Rn t v j=false→j≤k→Rn t v k=false:=fun j k hj hjk=>by
              induction k with
              | zero => have : j = 0 := by omega
                        subst this;exact hj
              | succ k ih => rcases Nat.lt_or_ge j (k + 1) with h | h
                             · simp[Rn,ih (by omega)]
                             · have:j=k+1:=by omega
                               subst this;exact hj
            exact hmono r 4 hf hr
          simp only[hk4,Bool.and_false,Bool.false_eq_true,if_false] at ht;rw[hf] at hS;have hC:=hS.rd;simp only[Zr,Zq] at hC;have hE:=hS.rel hle2;clear HS hk4 HL;by_cases hlt:r<4
          · have hI:(r:Int)<4:=by omega
            go_wp2_with fail;refine Zu (v:= .tuple #[.agg Oc,false]) ?_ rfl ⟨by first|rfl|(rw[ht];rfl),?_⟩
            · simp[results,results253,go_sem,hC]
            · (have:=Exi.mk hE;exact Exi.out)
          · have hI:¬(r:Int)<4:=by omega
            go_wp2_with fail;refine Zu (v:= .tuple #[.agg Oc,false]) ?_ rfl ⟨by first|rfl|(rw[ht];rfl),?_⟩
            · simp[results,results253,go_sem,hC]
            · (have:=Exi.mk hE;exact Exi.out)
        · by_cases hlt:r<4
          · have hI:(r:Int)<4:=by omega
            have hwr:=wr1 r (by omega);obtain rfl:=HL.out hf;have ko:=fun w=>KO.out r hlt w
            have kr:=fun e w hb=>KR.out w1.heap.size e r w hb
            have halk:=HALK.out r;have HSA:Hid (Hk [tg t (4*r),tg t (4*r+1),tg t (4*r+2),tg t (4*r+3)] v.l 4=Bw (tg t (4*r)) (tg t (4*r+1)) (tg t (4*r+2)) (tg t (4*r+3)) v.a v.b v.c v.d):=Zz (Bi _ _ _ _ _ _ _ _);simp only[HSA.out] at kr;have HTR:Hid (Ur t r v=Ztp (tg t (4*r)) (tg t (4*r+1)) (tg t (4*r+2)) (tg t (4*r+3)) v.a v.b v.c v.d):=Zz rfl;rw[←HTR.out] at halk;generalize Bw (tg t (4*r)) (tg t (4*r+1)) (tg t (4*r+2)) (tg t (4*r+3)) v.a v.b v.c v.d=sr at kr halk;clear HSA HTR;generalize Zm [tg t (4*r),tg t (4*r+1),tg t (4*r+2),tg t (4*r+3)]=rc at ko kr;obtain⟨⟨q1,q2,q3⟩,kq⟩:=sr;unfold Alk at halk;simp only at halk;have KO2:=Zz ko;have KR2:=Zz kr;have HAL:=Zz halk;clear ko kr halk HL;have hS:=HS.out;rw[hf] at hS;clear HS;have hC:=hS.rd;simp only[Zr,Zq] at hC;go_upto_region 6 with fail;clear hC;replace hS:Zh w wr w1.heap.size (!false||kq) _:=hS;refine Ux (fun b w2=>Zh w w2 w1.heap.size (!b||kq) ((w1.heap.size+1,35,Zm (Ku t v r))::[(w.heap.size+1+1,35,Oc),(w.heap.size+1,35,vc),(w.heap.size,85,tc)])) 10 false (by kernel_rfl) (hS.drewW) (by exact fun _ _ _ _ _ h=>h) ?_;iterate 4 (apply Zp;rfl;intro b u B Q q;go_wp2_with (refine wpList_load_row rfl _ _ rfl _ rfl _ _ (0,0) _ B.boxes.2.2.2.1 underlying85 rfl (Yy hst) ?_);exact q _ trivial B;exact⟨_,rfl⟩)
            (apply Zp;rfl;intro b u B Q q;go_wp2_with ((with_reducible refine(KO2.out _).mono ?_);rintro e1 wn ⟨rfl,hx⟩);exact q _ trivial (B.ex hx);exact⟨_,rfl⟩);iterate 2 (apply Zp;rfl;intro b u B Q q;go_wp2_with (refine wpList_load_row rfl _ _ rfl _ rfl _ _ (0,0) _ B.boxes.2.2.1 underlying31 rfl (Zav hsv2) ?_);exact q _ trivial B;exact⟨_,rfl⟩)
            apply Zi (d:=true)
            · rfl
            · intro b wb hB Q1 hQ1;have hB2:Zh w wb w1.heap.size (!(b&& !kq)) ((w1.heap.size+1,35,Zm (Ku t v r))::[(w.heap.size+1+1,35,Oc),(w.heap.size+1,35,vc),(w.heap.size,85,tc)]):=by
                have e:(!b||kq)= !(b&& !kq):=by cases b<;>cases kq<;>rfl
                rw[←e];exact hB
              go_wp2_with ((with_reducible refine(KR2.out (b&& !kq) _ hB2.sum).mono ?_);rintro e1 wm ⟨rfl,hs1,hb1⟩);have hN:=Zh.call hB2 hs1 hb1;have e:(!(b&& !kq)&&kq)=(!(b||true)||kq):=by cases b<;>cases kq<;>rfl
              rw[e] at hN;exact hQ1 _ trivial hN
            · exact⟨_,rfl⟩
            iterate 2 (apply Zp;rfl;intro b u B Q q;go_wp2;exact q _ trivial B;exact⟨_,rfl⟩)
            refine Zn ?_;intro wz hz;replace hz:Zh w wz w1.heap.size (true&&kq) _:=hz;go_wp2_with (refine Xs hz hob hne r (by rw[Zyr];exact hlt) (by rw[Nat.mul_comm 3 r];rfl) rfl ?_;intro V hV2);have e2:(true&&kq)=Rn t v (r+1):=by simp[Rn,hf,HAL.out.1]
            rw[e2] at hV2;have HL3:Hid (Rn t v (r+1)=true→(Ku t v r).set r ⟨q1,q2,q3⟩=Ku t v (r+1)):=Zz fun h=>by
                have h2:(Ur t r v).2=true:=by simpa [Rn,hf] using h
                rw[HAL.out.2 h2];exact Zys t v r hlt
            have HV2:=Zz hV2;clear hV2 e2 hS hz;go_roundw
            case rel=>exact⟨r+1,_,by go_num,by omega,by rw[List.length_set];rfl,HL3,HV2⟩
            case measure=>simp[intOf]<;>omega
          · obtain rfl:r=4:=by omega
            have hI:¬((4:Nat):Int)<4:=by omega
            obtain rfl:=HL.out hf;have hS:=HS.out;rw[hf] at hS;have ht:=HTP.out;simp only[hf,if_true] at ht;rw[Zyq] at hS;rcases e0:(Ur t 0 v).1 with⟨r0a,r0b,r0c⟩;rcases e1:(Ur t 1 v).1 with⟨r1a,r1b,r1c⟩;rcases e2:(Ur t 2 v).1 with⟨r2a,r2b,r2c⟩;rcases e3:(Ur t 3 v).1 with⟨r3a,r3b,r3c⟩;rw[e0,e1,e2,e3] at hS ht;rw[show Zm [⟨r0a,r0b,r0c⟩,⟨r1a,r1b,r1c⟩,⟨r2a,r2b,r2c⟩,⟨r3a,r3b,r3c⟩]=(#[r0a,r0b,r0c,r1a,r1b,r1c,r2a,r2b,r2c,r3a,r3b,r3c]:Av) from rfl] at hS;clear e0 e1 e2 e3 HS HL HTP;have hC:=hS.rd;simp only[Zr,Zq] at hC;have hE:=hS.rel hle2;go_wp2_with fail;refine Zu (v:= .tuple #[.agg #[r0a,r0b,r0c,r1a,r1b,r1c,r2a,r2b,r2c,r3a,r3b,r3c],true]) ?_ rfl ⟨by first|rfl|(rw[ht];rfl),?_⟩
            · simp[results,results253,go_sem,hC]
            · (have:=Exi.mk hE;exact Exi.out)
end
section
open Go.RowKit

attribute [local go_sem] Zg Zf
theorem Zo.setRow{W w:World}{g:Nat}{t:TypeId}{y:Av}{L:Xx}(h:Zo W w ((g,t,y)::L))(hg:W.heap.size≤g)(hne:∀x∈L,x.1≠g)(x:Av):Zo W (w.setRow g x) ((g,t,x)::L):=
 ⟨h.ex.setRow hg x,h.boxes.1.setRow x,Ot hne h.boxes.2⟩
theorem Lf{P:Program}{fn:Func}{p:Tmp}{ty:TypeId}(h:fn.results=#[.cell p ty])(tmps:Av)(w:World)(g:Nat)(t:TypeId)(cs:Av)(fr:Nat×Nat)(d:TypeDesc)
  (hp:tmps.getD p undef= .pointer (some ⟨g,0,none⟩)) (hg:w.heap[g]? =some (.cells cs t fr))
  (hu:P.underlying ty=some d) (hd:(match d with| .struct _| .array _ _=>true|_=>false)=true) (hi:(P.info? ty).map (·.size)=some cs.size):
  (results fn tmps).run P w= .ok (.agg cs) w:=by
 have hp':tmps[p]?.getD undef= .pointer (some ⟨g,0,none⟩):=by simpa using hp
 simp[results,h,hp',asAddr,run_loadVar_row w g t ty cs fr d hg hu hd hi]
def dl(k:Nat):List Fr:=List.replicate k Fr.nul++List.replicate (16-k) Fr.none
theorem Zau{k:Nat}(h:k≤16):(dl k).length=16:=by simp[dl];omega
theorem Zat{k:Nat}(h:k<16):(dl k).set k Fr.nul=dl (k+1):=by
 unfold dl;rw[List.set_append_right _ _ (by simp),List.length_replicate,Nat.sub_self,show 16-k=(16-(k+1))+1 by omega,List.replicate_succ,Zw,List.replicate_succ',List.append_assoc];rfl
theorem Zyo(x1 x2 x3:Int)(w:World)[hG:Xz w]:Calls prog 134 #[.agg #[.int .i64 1,oo, .int .i64 1], .agg #[x1,x2,x3]] w (fun e w'=>e= .returned (.agg (Zm (Se ⟨x1,x2,x3⟩)))∧Ex w w'):=by
 have HG:=Zz hG;have hR:=Zo.refl w;go_in;go_upto_region 1 with fail;rw[We];have hV:Zo w (((w.alloc (.cells #[.int .i64 1,oo, .int .i64 1] 30)).alloc (.cells #[x1,x2,x3] 30)).alloc (.cells Z48 85)) _:=inferInstance;clear hR;simp only[Zy] at hV;have z1:=hV.boxes.1.lt;have z2:=hV.boxes.2.1.lt;have z3:=hV.boxes.2.2.1.lt;have hob:w.heap.size≤(((w.alloc (.cells #[.int .i64 1,oo, .int .i64 1] 30)).alloc (.cells #[x1,x2,x3] 30)).alloc (.cells Z48 85)).heap.size:=hV.ex.size;generalize ((w.alloc (.cells #[.int .i64 1,oo, .int .i64 1] 30)).alloc (.cells #[x1,x2,x3] 30)).alloc (.cells Z48 85)=W0 at*;have hne:∀x∈([(w.heap.size+1+1,85,Z48),(w.heap.size+1,30,#[x1,x2,x3]),(w.heap.size,30,#[.int .i64 1,oo, .int .i64 1])]:Xx),x.1≠W0.heap.size:=by
  intro x hx;simp only[List.mem_cons,List.not_mem_nil,or_false] at hx;rcases hx with rfl|rfl|rfl
  ·exact Nat.ne_of_lt z1
  ·exact Nat.ne_of_lt z2
  ·exact Nat.ne_of_lt z3
 have hS0:Zo w (W0.alloc (.cells Z48 85)) _:=Zo.alloc (h:=hV) (cs:=Z48) (t:=85);go_upto_region 2 with(refine wpList_store_row rfl _ _ _ rfl _ _ rfl rfl _ _ (Box.new W0 Z48 85) (Yy Yk) rfl Wi ?_);rw[We];replace hS0:=Zo.setRow hS0 hob hne Z48;generalize (W0.alloc (.cells Z48 85)).setRow W0.heap.size Z48=W1 at*;clear hV z1 z2 z3;go_wp2_with fail;go_loopw [8,6] (fun i j wr=>∃k:Nat,i= .int .i64 k∧k≤16∧Hid (Zo w wr ((W0.heap.size,85,Zm (dl k))::[(w.heap.size+1+1,85,Z48),(w.heap.size+1,30,#[x1,x2,x3]),(w.heap.size,30,#[.int .i64 1,oo, .int .i64 1])]))) (fun i _ _=>17-(intOf i).toNat)
 case atStart=>exact⟨0,rfl,by omega,Zz hS0⟩
 case round=>
  clear hS0;obtain⟨k,rfl,hk,HS⟩:=hrel;have hS:=HS.out;by_cases hlt:k<16
  ·have hI:(k:Int)<16:=by omega
   have hw5:=wr1 k (by omega);have hg:=(HG.out.ex hS.ex).rd;go_wp2_with (refine Si hS hob hne k (by rw[Zau hk];exact hlt) (by rw[Nat.mul_comm 3 k];rfl) rfl ?_;intro V hV2);rw[show((dl k).set k ⟨0,0,1⟩)=dl (k+1) from Zat hlt] at hV2;have HV2:=Zz hV2;clear hV2 hS hg;go_roundw
   case rel=>exact⟨k+1,by go_num,by omega,HV2⟩
   case measure=>simp[intOf]<;>omega
  ·obtain rfl:k=16:=by omega
   have hI:¬((16:Nat):Int)<16:=by omega
   clear hlt HS;have hC:=hS.rd;simp only[Zr,Zq] at hC;go_upto_region 7 with fail;have s0:=hS.boxes.2.2.2.1.cell 0;have s1:=hS.boxes.2.2.2.1.cell 1;have s2:=hS.boxes.2.2.2.1.cell 2;have s3:=hS.boxes.2.2.1.cell 0;have s4:=hS.boxes.2.2.1.cell 1;have s5:=hS.boxes.2.2.1.cell 2;have c00:=(hS.boxes.1.cell 0).trans (show _=some (.int .i64 0) from rfl);have c01:=(hS.boxes.1.cell 1).trans (show _=some (.int .i64 0) from rfl);have c02:=(hS.boxes.1.cell 2).trans (show _=some (.int .i64 1) from rfl);have c10:=(hS.boxes.1.cell 15).trans (show _=some (.int .i64 0) from rfl);have c11:=(hS.boxes.1.cell 16).trans (show _=some (.int .i64 0) from rfl);have c12:=(hS.boxes.1.cell 17).trans (show _=some (.int .i64 1) from rfl);have c20:=(hS.boxes.1.cell 30).trans (show _=some (.int .i64 0) from rfl);have c21:=(hS.boxes.1.cell 31).trans (show _=some (.int .i64 0) from rfl);have c22:=(hS.boxes.1.cell 32).trans (show _=some (.int .i64 1) from rfl);have c30:=(hS.boxes.1.cell 45).trans (show _=some (.int .i64 0) from rfl);have c31:=(hS.boxes.1.cell 46).trans (show _=some (.int .i64 0) from rfl);have c32:=(hS.boxes.1.cell 47).trans (show _=some (.int .i64 1) from rfl);have n1:w.heap.size≠W0.heap.size:=hne _ (.tail _ (.tail _ (.head _)));have n2:w.heap.size+1≠W0.heap.size:=hne _ (.tail _ (.head _));have n3:=n1.symm;have n4:=n2.symm;have cf:=hS.boxes.1.frozen;have cl:=hS.boxes.1.lt;clear hC;go_region_held3 (fun w'=>w'.cell? ⟨w.heap.size,0,none⟩=some (.int .i64 1)∧w'.cell? ⟨w.heap.size,1,none⟩=some (.int .i64 0)∧w'.cell? ⟨w.heap.size,2,none⟩=some (.int .i64 1)∧w'.cell? ⟨w.heap.size+1,0,none⟩=some (.int .i64 x1)∧w'.cell? ⟨w.heap.size+1,1,none⟩=some (.int .i64 x2)∧w'.cell? ⟨w.heap.size+1,2,none⟩=some (.int .i64 x3)) (go_keep) (fail)
   have hF:=Zo.setF (Zo.setF (Zo.setF (Zo.setF hS hob hne 0 1 0 1) hob hne 5 x1 x2 x3) hob hne 10 x1 x2 x3) hob hne 15 x1 x2 x3;replace hF:=Zo.drew (h:=hF);rw[show(((((dl 16).set 0 ⟨1,0,1⟩).set 5 ⟨x1,x2,x3⟩).set 10 ⟨x1,x2,x3⟩).set 15 ⟨x1,x2,x3⟩)=Se ⟨x1,x2,x3⟩ from rfl] at hF;have bO:=hF.boxes.1;have bR:=hF.boxes.2.1;have hE:=hF.ex;clear hF s0 s1 s2 s3 s4 s5 c00 c01 c02 c10 c11 c12 c20 c21 c22 c30 c31 c32 cf cl n1 n2 n3 n4 hS;simp only[Nat.reduceMul,Nat.reduceAdd] at bO bR hE;generalize World.drew _=Y at bO bR hE ⊢;go_wp2_with (first|(refine wpList_load_row rfl _ _ rfl _ rfl _ _ (0,0) _ bO underlying85 rfl (Yy (by rw[Yn];rfl)) ?_)|(refine wpList_store_row rfl _ _ _ rfl _ _ rfl rfl _ _ bR (Yy (by rw[Yn];rfl)) (by rw[Yn];rfl) (Zb _) ?_));exact Zu (Lf results134 _ _ _ _ _ (0,0) _ rfl (bR.setRow _) underlying85 rfl (Yy (by rw[Yn];rfl))) rfl ⟨rfl,hE.setRow (by omega) _⟩
def dc(c:Fr)(k:Nat):List Fr:=(List.range 16).map fun i=>if i<k then (if i % 5=0 then c else Fr.nul) else Fr.none
theorem Zwh(c:Fr)(k:Nat):(dc c k).length=16:=by simp[dc]
theorem Zas(c:Fr){k:Nat}(h:k<16)(h5:¬k % 5=0):(dc c k).set k Fr.nul=dc c (k+1):=by
 have hk:k=0∨k=1∨k=2∨k=3∨k=4∨k=5∨k=6∨k=7∨k=8∨k=9∨k=10∨k=11∨k=12∨k=13∨k=14∨k=15:=by omega
 rcases hk with rfl|rfl|rfl|rfl|rfl|rfl|rfl|rfl|rfl|rfl|rfl|rfl|rfl|rfl|rfl|rfl<;>first|rfl|exact absurd rfl h5
theorem dc_c(c:Fr){k:Nat}(h:k<16)(h5:k % 5=0):((dc c k).set k Fr.nul).set k c=dc c (k+1):=by
 have hk:k=0∨k=1∨k=2∨k=3∨k=4∨k=5∨k=6∨k=7∨k=8∨k=9∨k=10∨k=11∨k=12∨k=13∨k=14∨k=15:=by omega
 rcases hk with rfl|rfl|rfl|rfl|rfl|rfl|rfl|rfl|rfl|rfl|rfl|rfl|rfl|rfl|rfl|rfl<;>first|rfl|(exact absurd h5 (by decide))
theorem Ks(x1 x2 x3:Int)(w:World):Calls prog 256 #[.agg #[x1,x2,x3]] w (fun e w'=>e= .returned (.agg (Zm (Se ⟨x1,x2,x3⟩)))∧Ex w w'):=by
 have hR:=Zo.refl w;go_in;go_upto_region 1 with fail;rw[We];have hV:Zo w ((w.alloc (.cells #[x1,x2,x3] 30)).alloc (.cells Z48 85)) _:=inferInstance;clear hR;simp only[Zy] at hV;have z1:=hV.boxes.1.lt;have z2:=hV.boxes.2.1.lt;have hob:w.heap.size≤((w.alloc (.cells #[x1,x2,x3] 30)).alloc (.cells Z48 85)).heap.size:=hV.ex.size;generalize (w.alloc (.cells #[x1,x2,x3] 30)).alloc (.cells Z48 85)=W0 at*;have hne:∀x∈([(w.heap.size+1,85,Z48),(w.heap.size,30,#[x1,x2,x3])]:Xx),x.1≠W0.heap.size:=by
  intro x hx;simp only[List.mem_cons,List.not_mem_nil,or_false] at hx;rcases hx with rfl|rfl
  ·exact Nat.ne_of_lt z1
  ·exact Nat.ne_of_lt z2
 have hS0:Zo w (W0.alloc (.cells Z48 85)) _:=Zo.alloc (h:=hV) (cs:=Z48) (t:=85);go_upto_region 2 with(refine wpList_store_row rfl _ _ _ rfl _ _ rfl rfl _ _ (Box.new W0 Z48 85) (Yy Yk) rfl Wi ?_);rw[We];replace hS0:=Zo.setRow hS0 hob hne Z48;generalize (W0.alloc (.cells Z48 85)).setRow W0.heap.size Z48=W1 at*;clear hV z1 z2;go_wp2_with fail;go_loopw [4] (fun i wr=>∃k:Nat,i= .int .i64 k∧k≤16∧Hid (Zo w wr ((W0.heap.size,85,Zm (dc ⟨x1,x2,x3⟩ k))::[(w.heap.size+1,85,Z48),(w.heap.size,30,#[x1,x2,x3])]))) (fun i _=>17-(intOf i).toNat)
 case atStart=>exact⟨0,rfl,by omega,Zz hS0⟩
 case round=>
  clear hS0;obtain⟨k,rfl,hk,HS⟩:=hrel;have hS:=HS.out;by_cases hlt:k<16
  ·have hI:(k:Int)<16:=by omega
   have hw5:=wr1 k (by omega);have e5:(k:Int).tmod 5=((k % 5:Nat):Int):=rfl;have hr5:IntKind.i64.wrap ((k:Int).tmod 5)=(k:Int).tmod 5:=Zt _ (by rw[e5];omega);by_cases h5:k % 5=0
   ·have h5b:(k:Int).tmod 5=0:=by rw[e5];omega
    clear e5;go_wp2_with (first
     |(refine Si hS2 hob hne k (by rw[List.length_set,Zwh];exact hlt) (by rw[Nat.mul_comm 3 k];rfl) rfl ?_;intro V hV2)
     |(refine Si hS hob hne k (by rw[Zwh];exact hlt) (by rw[Nat.mul_comm 3 k];rfl) rfl ?_;intro V hS2;have hC:=hS2.rd;simp only[Zr,Zq] at hC))
    rw[show(((dc ⟨x1,x2,x3⟩ k).set k ⟨0,0,1⟩).set k ⟨x1,x2,x3⟩)=dc ⟨x1,x2,x3⟩ (k+1) from dc_c _ hlt h5] at hV2;have HV2:=Zz hV2;clear hV2 hS hS2 hC;go_roundw
    case rel=>exact⟨k+1,by go_num,by omega,HV2⟩
    case measure=>simp[intOf]<;>omega
   ·have h5b:¬(k:Int).tmod 5=0:=by rw[e5];omega
    clear e5;have h5c:((k:Int).tmod 5==0)=false:=by simpa using h5b
    go_wp2_with (refine Si hS hob hne k (by rw[Zwh];exact hlt) (by rw[Nat.mul_comm 3 k];rfl) rfl ?_;intro V hV2);rw[show((dc ⟨x1,x2,x3⟩ k).set k ⟨0,0,1⟩)=dc ⟨x1,x2,x3⟩ (k+1) from Zas _ hlt h5] at hV2;have HV2:=Zz hV2;clear hV2 hS;go_roundw
    case rel=>exact⟨k+1,by go_num,by omega,HV2⟩
    case measure=>simp[intOf]<;>omega
  ·obtain rfl:k=16:=by omega
   have hI:¬((16:Nat):Int)<16:=by omega
   clear hlt HS;go_upto_region 9 with(refine Si hS hob hne 0 (by rw[Zwh];omega) rfl rfl ?_;intro V hV2);rw[show((dc ⟨x1,x2,x3⟩ 16).set 0 ⟨1,0,1⟩)=Se ⟨x1,x2,x3⟩ from rfl] at hV2;have bO:=hV2.boxes.1;have bR:=hV2.boxes.2.1;have hE:=hV2.ex;go_wp2_with (first|(refine wpList_load_row rfl _ _ rfl _ rfl _ _ (0,0) _ bO underlying85 rfl (Yy (by rw[Yn];rfl)) ?_)|(refine wpList_store_row rfl _ _ _ rfl _ _ rfl rfl _ _ bR (Yy (by rw[Yn];rfl)) (by rw[Yn];rfl) (Zb _) ?_));exact Zu (Lf results256 _ _ _ _ _ (0,0) _ rfl (bR.setRow _) underlying85 rfl (Yy (by rw[Yn];rfl))) rfl ⟨rfl,hE.setRow (by omega) _⟩
end
section
open Go.RowKit

theorem Zwd{c:Fr}(h:Nm c=false):Py c=(Wt 16,false):=by
 unfold Py;rw[show rok c=false from h];rfl
theorem Zsu{c:Fr}(h:Nm c=true):Py c=(Se c,true):=by
 unfold Py;rw[show rok c=true from h];rfl
theorem Zom(x1 x2 x3:Int)(w:World)[hG:Xz w]:Calls prog 196 #[.agg #[x1,x2,x3]] w (fun e w'=>e= .returned (Sl (Py ⟨x1,x2,x3⟩))∧Ex w w'):=by
 have HG:=Zz hG;have k1:=fun w=>Zwg x1 x2 x3 w
 have hR:=Zo.refl w;go_in;go_upto_region 1 with fail;rw[We];have hV:Zo w ((w.alloc (.cells #[x1,x2,x3] 30)).alloc (.cells Z48 85)) _:=inferInstance;clear hR;simp only[Zy] at hV;generalize (w.alloc (.cells #[x1,x2,x3] 30)).alloc (.cells Z48 85)=W0 at*;have hC:=hV.rd;simp only[Zr,Zq] at hC;rcases h:Nm ⟨x1,x2,x3⟩ with _|_
 ·simp only[h] at k1;have e1:=Zwd h;clear h;go_wp2_with fail;refine(k1 _).mono ?_;rintro e w1 ⟨rfl,hx⟩;have hS:=Zo.after (h:=hV) hx;clear hC hV;have hC:=hS.rd;simp only[Zr,Zq] at hC;have hr:=hS.boxes.1;have hE:=hS.ex;go_wp2_with (refine wpList_store_row rfl _ _ _ rfl _ _ rfl rfl _ _ hr (Yy Yk) rfl Wi ?_);refine Zu (Ze results196 _ _ _ _ _ (0,0) _ rfl (hr.setRow _) underlying85 rfl (Yy Yk)) rfl ⟨by rw[e1];rfl,hE.setRow (Nat.le_succ _) _⟩
 ·simp only[h] at k1;have e1:=Zsu h;clear h;go_wp2_with fail;refine(k1 _).mono ?_;rintro e w1 ⟨rfl,hx⟩;have hS:=Zo.after (h:=hV) hx;clear hC hV;have hC:=hS.rd;simp only[Zr,Zq] at hC;have hG1:=HG.out.ex hS.ex;have hg:=hG1.rd;go_wp2_with fail;refine(Zyo x1 x2 x3 _).mono ?_;rintro e w2 ⟨rfl,hx2⟩;have hT:=Zo.after (h:=hS) hx2;have hr:=hT.boxes.1;have hE:=hT.ex;go_wp2_with (refine wpList_store_row rfl _ _ _ rfl _ _ rfl rfl _ _ hr (Yy (by rw[Yn];rfl)) (by rw[Yn];rfl) (Zb _) ?_);exact Zu (Ze results196 _ _ _ _ _ (0,0) _ rfl (hr.setRow _) underlying85 rfl (Yy (by rw[Yn];rfl))) rfl ⟨by rw[e1];rfl,hE.setRow (Nat.le_succ _) _⟩
theorem Zol(x1 x2 x3:Int)(w:World):Calls prog 257 #[.agg #[x1,x2,x3]] w (fun e w'=>e= .returned (Sl (Py ⟨x1,x2,x3⟩))∧Ex w w'):=by
 have k1:=fun w=>Xc x1 x2 x3 w
 have hR:=Zo.refl w;go_in;go_upto_region 1 with fail;rw[We];have hV:Zo w ((w.alloc (.cells #[x1,x2,x3] 30)).alloc (.cells Z48 85)) _:=inferInstance;clear hR;simp only[Zy] at hV;generalize (w.alloc (.cells #[x1,x2,x3] 30)).alloc (.cells Z48 85)=W0 at*;have hC:=hV.rd;simp only[Zr,Zq] at hC;rcases h:Yx x1 x2 x3 with _|_
 ·simp only[h] at k1;have e1:Py ⟨x1,x2,x3⟩=_:=Zwd (by simp[Nm,Fr.valid,h]);clear h;go_wp2_with fail;refine(k1 _).mono ?_;rintro e w1 ⟨rfl,hx⟩;have hS:=Zo.after (h:=hV) hx;clear hC hV;have hC:=hS.rd;simp only[Zr,Zq] at hC;have hr:=hS.boxes.1;have hE:=hS.ex;go_wp2_with (refine wpList_store_row rfl _ _ _ rfl _ _ rfl rfl _ _ hr (Yy Yk) rfl Wi ?_);refine Zu (Ze results257 _ _ _ _ _ (0,0) _ rfl (hr.setRow _) underlying85 rfl (Yy Yk)) rfl ⟨by rw[e1];rfl,hE.setRow (Nat.le_succ _) _⟩
 ·simp only[h] at k1;by_cases h0:x2=0
  ·subst h0;have e1:Py ⟨x1,0,x3⟩=_:=Zsu (by simp[Nm,Fr.valid,h]);clear h;go_wp2_with fail;refine(k1 _).mono ?_;rintro e w1 ⟨rfl,hx⟩;have hS:=Zo.after (h:=hV) hx;clear hC hV;have hC:=hS.rd;simp only[Zr,Zq] at hC;go_wp2_with fail;refine(Ks x1 0 x3 _).mono ?_;rintro e w2 ⟨rfl,hx2⟩;have hT:=Zo.after (h:=hS) hx2;have hr:=hT.boxes.1;have hE:=hT.ex;go_wp2_with (refine wpList_store_row rfl _ _ _ rfl _ _ rfl rfl _ _ hr (Yy (by rw[Yn];rfl)) (by rw[Yn];rfl) (Zb _) ?_);exact Zu (Ze results257 _ _ _ _ _ (0,0) _ rfl (hr.setRow _) underlying85 rfl (Yy (by rw[Yn];rfl))) rfl ⟨by rw[e1];rfl,hE.setRow (Nat.le_succ _) _⟩
  ·have e1:Py ⟨x1,x2,x3⟩=_:=Zwd (by simp[Nm,Fr.valid,h,h0]);clear h;go_wp2_with fail;refine(k1 _).mono ?_;rintro e w1 ⟨rfl,hx⟩;have hS:=Zo.after (h:=hV) hx;clear hC hV;have hC:=hS.rd;simp only[Zr,Zq] at hC;have hr:=hS.boxes.1;have hE:=hS.ex;go_wp2_with (refine wpList_store_row rfl _ _ _ rfl _ _ rfl rfl _ _ hr (Yy Yk) rfl Wi ?_);refine Zu (Ze results257 _ _ _ _ _ (0,0) _ rfl (hr.setRow _) underlying85 rfl (Yy Yk)) rfl ⟨by rw[e1];rfl,hE.setRow (Nat.le_succ _) _⟩
end
section
def Sy(b:List Fr)(c:Nat):M4:=⟨tg b c,tg b (4+c),tg b (8+c),tg b (12+c)⟩
def Jk(a b:List Fr)(i:Nat):Fr×Bool:=Ur a (i / 4) (Sy b (i % 4))
def Wr(a b:List Fr)(n:Nat):List Fr:=(List.range 16).map fun i=>if i<n then (Jk a b i).1 else Fr.none
def Wg(a b:List Fr):Nat→Bool
 |0=>true
 |n+1=>Wg a b n&&(Jk a b n).2
def Wc(a b:List Fr):List Fr×Bool:=if Tv a&&Tv b&&Wg a b 16 then (Wr a b 16,true) else (Wt 16,false)
theorem Sc(a b:List Fr)(n:Nat):(Wr a b n).length=16:=by simp[Wr]
theorem Ef(a b:List Fr):Wr a b 0=Wt 16:=by simp[Wr,Wt,List.range_succ]
theorem Bf(a b:List Fr)(n:Nat)(hn:n<16):(Wr a b n).set n (Jk a b n).1=Wr a b (n+1):=by
 apply List.ext_getElem
 ·simp[Wr]
 ·intro i h1 h2;have hi:i<16:=by simpa [Wr] using h2
  rw[List.getElem_set];split
  ·rename_i e;subst e;simp[Wr]
  ·rename_i e;simp only[Wr,List.getElem_map,List.getElem_range];by_cases h:i<n
   ·rw[if_pos h,if_pos (by omega)]
   ·rw[if_neg h,if_neg (by omega)]
theorem Zwb{a b:List Fr}{j k:Nat}(h:Wg a b j=false)(hjk:j≤k):Wg a b k=false:=by
 induction k with
 |zero=>
  obtain rfl:j=0:=by omega
  exact h
 |succ k ih=>
  rcases Nat.lt_or_ge j (k+1) with h2|h2
  ·simp[Wg,ih (by omega)]
  ·obtain rfl:j=k+1:=by omega
   exact h
theorem Qk(a b:List Fr):(Wc a b).1.length=16:=by
 unfold Wc;split
 ·exact Sc a b 16
 ·simp[Wt]
theorem Zcx(b:List Fr)(c k:Nat)(hk:k<4):tg (Sy b c).l k=tg b (4*k+c):=by
 obtain rfl|rfl|rfl|rfl:k=0∨k=1∨k=2∨k=3:=by omega
 ·simp[Sy,M4.l,tg]
 ·simp[Sy,M4.l,tg]
 ·simp[Sy,M4.l,tg]
 ·simp[Sy,M4.l,tg]
theorem Zgb(a b:List Fr)(r c:Nat)(hc:c<4):Jk a b (4*r+c)=Ur a r (Sy b c):=by
 unfold Jk;rw[show(4*r+c) / 4=r by omega,show(4*r+c) % 4=c by omega]
def Wb(p q:Int):List Fr×Bool:=
 if (Xq p q 1).2&&(Ww 1 0).2&&(Vv (Ww 1 0).1).2&&(Vv (Xq p q 1).1).2&&(Wc (Vv (Ww 1 0).1).1 (Vv (Xq p q 1).1).1).2 then
  ((Wc (Vv (Ww 1 0).1).1 (Vv (Xq p q 1).1).1).1.take 4,true) else (Wt 4,false)
theorem Zyl(p q:Int):(Wb p q).1.length=4:=by
 unfold Wb;split
 ·rw[List.length_take,Qk];rfl
 ·rfl
def sof(x y:Fr):M4×Bool:=
 Nn (Yo (Zc x).1 (Zc y).1) (Xi (Zc x).1 (Zc y).1) (Zk ⟨2,0,1⟩ (Vh (Zk x (Yq y).1).1).1) (Zk ⟨2,0,1⟩ (Vg (Zk x (Yq y).1).1).1)
  (x.valid&&y.valid&&(Zc x).2&&(Zc y).2&&(Yq y).2&&(Zk x (Yq y).1).2&&(Vh (Zk x (Yq y).1).1).2&&(Vg (Zk x (Yq y).1).1).2)
def Qj(p q:Int)(v:M4):Fr×Bool:=if Uj v&&(Wb p q).2&&(Ur (Wb p q).1 0 v).2 then ((Ur (Wb p q).1 0 v).1,true) else (Fr.none,false)
end
section
open Go.RowKit

attribute [local go_sem] Zg Zf
section
variable {W w:World} {bs:Nat} {b:Bool} {L:Xx} {a1 a2 a3 x y z:Int} {k:Bool}
theorem Zga(hB:Zl W w bs b L)(hr:Vh ⟨a1,a2,a3⟩=(⟨x,y,z⟩,k)):Calls prog 55 #[.pointer (some ⟨bs,0,none⟩), .agg #[a1,a2,a3]] w fun e w'=>e= .returned (.agg #[x,y,z])∧Zl W w' bs (b|| !k) L∧Sm bs w w':=Nz hB (Ny bs b ⟨a1,a2,a3⟩ w hB.sum) hr
theorem Zfz(hB:Zl W w bs b L)(hr:Vg ⟨a1,a2,a3⟩=(⟨x,y,z⟩,k)):Calls prog 56 #[.pointer (some ⟨bs,0,none⟩), .agg #[a1,a2,a3]] w fun e w'=>e= .returned (.agg #[x,y,z])∧Zl W w' bs (b|| !k) L∧Sm bs w w':=Nz hB (Nx bs b ⟨a1,a2,a3⟩ w hB.sum) hr
end
theorem Zyk(x y:Fr)(w:World):Calls prog 16 #[jvv x y] w (fun e w'=>e= .returned (m4v (sof x y))∧Ex w w'):=by
 have kv:=fun w=>Qa x y w
 have hq:sof x y=if (x.valid&&y.valid&&(Zc x).2&&(Zc y).2&&(Yq y).2&&(Zk x (Yq y).1).2&&(Vh (Zk x (Yq y).1).1).2&&(Vg (Zk x (Yq y).1).1).2)&&(Yo (Zc x).1 (Zc y).1).2&&(Xi (Zc x).1 (Zc y).1).2&&(Zk ⟨2,0,1⟩ (Vh (Zk x (Yq y).1).1).1).2&&(Zk ⟨2,0,1⟩ (Vg (Zk x (Yq y).1).1).1).2 then (⟨(Yo (Zc x).1 (Zc y).1).1,(Xi (Zc x).1 (Zc y).1).1,(Zk ⟨2,0,1⟩ (Vh (Zk x (Yq y).1).1).1).1,(Zk ⟨2,0,1⟩ (Vg (Zk x (Yq y).1).1).1).1⟩,true) else (M4.none,false):=rfl
 obtain⟨x1,x2,x3⟩:=x;obtain⟨y1,y2,y3⟩:=y;simp only[jvv] at kv ⊢;generalize (Fr.valid _&&Fr.valid _)=jv at kv hq;generalize sof _ _=sq at hq ⊢;rcases ep:Zc ⟨x1,x2,x3⟩ with⟨⟨p1,p2,p3⟩,kp⟩;simp only[ep] at hq;rcases eq:Zc ⟨y1,y2,y3⟩ with⟨⟨q1,q2,q3⟩,kq⟩;simp only[eq] at hq;rcases em:Yq ⟨y1,y2,y3⟩ with⟨⟨m1,m2,m3⟩,km⟩;simp only[em] at hq;rcases et:Zk ⟨x1,x2,x3⟩ ⟨m1,m2,m3⟩ with⟨⟨t1,t2,t3⟩,kt⟩;simp only[et] at hq;rcases er:Vh ⟨t1,t2,t3⟩ with⟨⟨r1,r2,r3⟩,kr⟩;simp only[er] at hq;rcases ei:Vg ⟨t1,t2,t3⟩ with⟨⟨i1,i2,i3⟩,ki⟩;simp only[ei] at hq;rcases eu:Yo ⟨p1,p2,p3⟩ ⟨q1,q2,q3⟩ with⟨⟨u1,u2,u3⟩,ku⟩;simp only[eu] at hq;rcases el:Xi ⟨p1,p2,p3⟩ ⟨q1,q2,q3⟩ with⟨⟨l1,l2,l3⟩,kl⟩;simp only[el] at hq;rcases ec:Zk ⟨2,0,1⟩ ⟨r1,r2,r3⟩ with⟨⟨c1,c2,c3⟩,kc⟩;simp only[ec] at hq;rcases ed:Zk ⟨2,0,1⟩ ⟨i1,i2,i3⟩ with⟨⟨d1,d2,d3⟩,kd⟩;simp only[ed] at hq;have HEP:=Zz ep;have HEQ:=Zz eq;have HEM:=Zz em;have HET:=Zz et;have HER:=Zz er;have HEI:=Zz ei;have HEU:=Zz eu;have HEL:=Zz el;have HEC:=Zz ec;have HED:=Zz ed;have HQ:=Zz hq;have KV:=Zz kv;clear ep eq em et er ei eu el ec ed hq kv;have hR:=Zo.refl w;go_in;go_upto_region 1 with fail;have hV:Zo w ((w.alloc (.cells #[x1,x2,x3,y1,y2,y3] 39)).alloc (.cells Oc 35)) _:=inferInstance;clear hR;have hle:w.heap.size≤((w.alloc (.cells #[x1,x2,x3,y1,y2,y3] 39)).alloc (.cells Oc 35)).heap.size:=hV.ex.size;simp only[Zy] at hV;generalize (w.alloc (.cells #[x1,x2,x3,y1,y2,y3] 39)).alloc (.cells Oc 35)=W0 at*;have hW:Zl w (W0.alloc (.cells #[false] 92)) W0.heap.size false _:=Zl.start (h:=hV);have hC:=hW.rd;simp only[Zr,Zq] at hC;go_upto_region 2 with(first|((with_reducible refine(KV.out _).mono ?_);rintro e w1 ⟨rfl,hx⟩;have hW1:=Zl.ex hW hx;clear hx)|(go_at_call 46;(with_reducible refine(Ud _ _ _ _ hW1.sum).mono ?_);rintro e w2 ⟨rfl,hs,hb⟩;have hW2:=Zl.call hW1 hs hb;clear hs hb));have hS:=hW2;clear hC hW hW1 hW2 hV;have hS0:=hS;have hbs0:=hS0.sum.lt;refine Yh (St:=Sm W0.heap.size) (B:=fun b w'=>InS _ W0.heap.size _ b w') 8 2 0 _ 30 (fun i=>match i with|0=>5|_=>6) (fun i=>match i with|0=>17|_=>21) (fun i=>match i with|0=>Oa|_=>Oa) (fun i=>match i with|0=>#[p1,p2,p3]|_=>#[q1,q2,q3]) _ (by kernel_rfl) (by kernel_rfl) (InS.drew (InS.start hS0)) (by intro x y h1 h2 h3;revert h3;match x,y,h1,h2 with|0,0,_,_=>decide|0,1,_,_=>decide|1,0,_,_=>decide|1,1,_,_=>decide) (by intro x y h1 h2;match x,y,h1,h2 with|0,0,_,_=>decide|0,1,_,_=>decide|1,0,_,_=>decide|1,1,_,_=>decide) (fun _ _ h g cs hg hb=>h.box _ _ _ (Nat.ne_of_gt (Nat.lt_of_lt_of_le hbs0 hg)) hb) (fun _ _ cs h=>h.alloc _) (fun _ _ h=>h.size) ?_;iterate 3 (apply Zp;rfl;intro b u B Q q;have hS:=B.sees;have hC:=hS.rd;simp only[Zr,Zq] at hC;go_wp2;exact q _ (Sm.refl _ _) B;exact⟨_,rfl⟩)
 (apply Zi;rfl;intro b u B Q q;go_wp2_with ((with_reducible refine(Ry B.sees HEP.out).mono ?_);rintro e wn ⟨rfl,hN,hM⟩);exact q _ hM (B.call hN);exact⟨_,rfl⟩);iterate 3 (apply Zp;rfl;intro b u B Q q;have hS:=B.sees;have hC:=hS.rd;simp only[Zr,Zq] at hC;go_wp2;exact q _ (Sm.refl _ _) B;exact⟨_,rfl⟩)
 (apply Zi;rfl;intro b u B Q q;go_wp2_with ((with_reducible refine(Ry B.sees HEQ.out).mono ?_);rintro e wn ⟨rfl,hN,hM⟩);exact q _ hM (B.call hN);exact⟨_,rfl⟩);refine Zn ?_;refine⟨fun i hi=>?_,fun i hi=>?_,fun i hi=>?_,fun gg wz hz hbx hne=>?_⟩
 ·obtain rfl|rfl:i=0∨i=1:=by omega
  all_goals exact⟨_,rfl,Yt⟩
 ·obtain rfl|rfl:i=0∨i=1:=by omega
  all_goals exact⟨_,rfl,Xh Ym rfl (by kernel_rfl) (fun _ _ _ hg h=>h.setRow hg _)⟩
 ·obtain rfl|rfl:i=0∨i=1:=by omega
  ·exact(show(5:Nat)<57 by decide)
  ·exact(show(6:Nat)<57 by decide)
 obtain⟨hg5,hb5⟩:=hbx 0 (by omega);obtain⟨hg6,hb6⟩:=hbx 1 (by omega);replace hS:=InS.join hS0 hz;replace hS:=Zl.put hS hb5 (by omega);replace hS:=Zl.put hS hb6 (by omega);simp only[frN,Act.put,Zx,Zw,Zv,Nat.reduceAdd,List.drop_succ_cons,List.drop_zero];generalize gg 0=g5 at*;generalize gg 1=g6 at*;clear hbx hz hS0 hne;simp only at hS;clear hb5 hb6;go_upto_region 3 with fail;have hS0:=hS;have hbs0:=hS0.sum.lt;refine Yh (St:=Sm W0.heap.size) (B:=fun b w'=>InS _ W0.heap.size _ b w') 8 1 0 _ 30 (fun _=>7) (fun _=>29) (fun _=>Oa) (fun _=>#[t1,t2,t3]) _ (by kernel_rfl) (by kernel_rfl) (InS.drew (InS.start hS0)) (by intro x y h1 h2 h3;revert h3;match x,y,h1,h2 with|0,0,_,_=>decide) (by intro x y h1 h2;match x,y,h1,h2 with|0,0,_,_=>decide) (fun _ _ h g cs hg hb=>h.box _ _ _ (Nat.ne_of_gt (Nat.lt_of_lt_of_le hbs0 hg)) hb) (fun _ _ cs h=>h.alloc _) (fun _ _ h=>h.size) ?_;iterate 6 (apply Zp;rfl;intro b u B Q q;have hS:=B.sees;have hC:=hS.rd;simp only[Zr,Zq] at hC;go_wp2;exact q _ (Sm.refl _ _) B;exact⟨_,rfl⟩)
 (apply Zi;rfl;intro b u B Q q;go_wp2_with ((with_reducible refine(Qv B.sees HEM.out).mono ?_);rintro e wn ⟨rfl,hN,hM⟩);exact q _ hM (B.call hN);exact⟨_,rfl⟩);(apply Zi;rfl;intro b u B Q q;go_wp2_with ((with_reducible refine(Ye B.sees HET.out).mono ?_);rintro e wn ⟨rfl,hN,hM⟩);exact q _ hM (B.call hN);exact⟨_,rfl⟩);refine Zn ?_;refine⟨fun i hi=>?_,fun i hi=>?_,fun i hi=>?_,fun gg wz hz hbx hne=>?_⟩
 ·obtain rfl:i=0:=by omega
  all_goals exact⟨_,rfl,Yt⟩
 ·obtain rfl:i=0:=by omega
  all_goals exact⟨_,rfl,Xh Ym rfl (by kernel_rfl) (fun _ _ _ hg h=>h.setRow hg _)⟩
 ·obtain rfl:i=0:=by omega
  ·exact(show(7:Nat)<57 by decide)
 obtain⟨hg7,hb7⟩:=hbx 0 (by omega);replace hS:=InS.join hS0 hz;replace hS:=Zl.put hS hb7 (by omega);simp only[frN,Act.put,Zx,Zw,Zv,Nat.reduceAdd,List.drop_succ_cons,List.drop_zero];generalize gg 0=g7 at*;clear hbx hz hS0 hne;simp only at hS;clear hb7;have KWh:=Zz (fun w=>Zhn 2 w);go_upto_region 5 with((with_reducible refine(KWh.out _).mono ?_);rintro e w4 ⟨rfl,hx⟩;replace hS:=Zl.ex hS hx;clear hx);replace hS:=Zl.alloc (h:=hS) (cs:=#[.int .i64 2,oo, .int .i64 1]) (t:=30);generalize w4.alloc _=W4 at*;generalize w4.heap.size=g8 at*;refine Ux (fun b w2=>Zl w w2 W0.heap.size b _) 23 _ (by kernel_rfl) (hS.drewW) (by exact fun _ _ _ _ _ h=>h) ?_;iterate 4 (apply Zp;rfl;intro b u B Q q;have hS:=B;have hC:=hS.rd;simp only[Zr,Zq] at hC;go_wp2;exact q _ trivial B;exact⟨_,rfl⟩)
 (apply Zi;rfl;intro b u B Q q;go_wp2_with ((with_reducible refine(Rj B HEU.out).mono ?_);rintro e wn ⟨rfl,hN,hM⟩);exact q _ trivial hN;exact⟨_,rfl⟩);iterate 3 (apply Zp;rfl;intro b u B Q q;have hS:=B;have hC:=hS.rd;simp only[Zr,Zq] at hC;go_wp2;exact q _ trivial B;exact⟨_,rfl⟩)
 (apply Zi;rfl;intro b u B Q q;go_wp2_with ((with_reducible refine(Cr B HEL.out).mono ?_);rintro e wn ⟨rfl,hN,hM⟩);exact q _ trivial hN;exact⟨_,rfl⟩);iterate 4 (apply Zp;rfl;intro b u B Q q;have hS:=B;have hC:=hS.rd;simp only[Zr,Zq] at hC;go_wp2;exact q _ trivial B;exact⟨_,rfl⟩)
 (apply Zi;rfl;intro b u B Q q;go_wp2_with ((with_reducible refine(Zga B HER.out).mono ?_);rintro e wn ⟨rfl,hN,hM⟩);exact q _ trivial hN;exact⟨_,rfl⟩);(apply Zi;rfl;intro b u B Q q;go_wp2_with ((with_reducible refine(Ye B HEC.out).mono ?_);rintro e wn ⟨rfl,hN,hM⟩);exact q _ trivial hN;exact⟨_,rfl⟩);iterate 4 (apply Zp;rfl;intro b u B Q q;have hS:=B;have hC:=hS.rd;simp only[Zr,Zq] at hC;go_wp2;exact q _ trivial B;exact⟨_,rfl⟩)
 (apply Zi;rfl;intro b u B Q q;go_wp2_with ((with_reducible refine(Zfz B HEI.out).mono ?_);rintro e wn ⟨rfl,hN,hM⟩);exact q _ trivial hN;exact⟨_,rfl⟩);(apply Zi;rfl;intro b u B Q q;go_wp2_with ((with_reducible refine(Ye B HED.out).mono ?_);rintro e wn ⟨rfl,hN,hM⟩);exact q _ trivial hN;exact⟨_,rfl⟩);iterate 2 (apply Zp;rfl;intro b u B Q q;go_wp2;exact q _ trivial B;exact⟨_,rfl⟩)
 refine Zn ?_;intro wz hz;clear hS;obtain⟨K,hK⟩:∃K,K=(jv&&kp&&kq&&km&&kt&&kr&&ki&&ku&&kl&&kc&&kd):=⟨_,rfl⟩
 have hF:(((((((((((false|| !jv)|| !kp)|| !kq)|| !km)|| !kt)|| !ku)|| !kl)|| !kr)|| !kc)|| !ki)|| !kd)= !K:=by
  rw[hK];simp only[Bool.false_or,Bool.not_and]
  ac_rfl
 rw[hF] at hz;have hq:=HQ.out;rw[←hK] at hq;clear hK hF HQ;have hS:=hz;clear hz;rcases K with _|_
 ·simp only[Bool.false_eq_true,if_false] at hq;have HQ:=Zz hq;clear hq;simp only[Bool.not_false] at hS;have hC:=hS.rd;simp only[Zr,Zq] at hC;go_wp2_with ((with_reducible refine(Kj _ _ _ _ _ _ _ _ _ _ _ _ _ _ hS.sum).mono ?_);rintro e wn ⟨rfl,hx⟩;have hS9:=Zl.ex hS hx;have hC:=hS9.rd;simp only[Zr,Zq] at hC;have hE:=hS9.rel hle);refine Zu (v:= .tuple #[.agg Oc,false]) ?_ rfl ⟨by rw[HQ.out];rfl,?_⟩
  ·simp[results,results16,go_sem,hC]
  ·(have:=Exi.mk hE;exact Exi.out)
 ·simp only[if_true] at hq;have HQ:=Zz hq;clear hq;simp only[Bool.not_true] at hS;have hC:=hS.rd;simp only[Zr,Zq] at hC;go_wp2_with ((with_reducible refine(Kv _ _ _ _ _ _ _ _ _ _ _ _ _ _ hS.sum).mono ?_);rintro e wn ⟨rfl,hx⟩;have hS9:=Zl.ex hS hx;have hC:=hS9.rd;simp only[Zr,Zq] at hC;have hE:=hS9.rel hle);refine Zu (v:= .tuple #[.agg #[u1,u2,u3,l1,l2,l3,c1,c2,c3,d1,d2,d3],true]) ?_ rfl ⟨by rw[HQ.out];rfl,?_⟩
  ·simp[results,results16,go_sem,hC]
  ·(have:=Exi.mk hE;exact Exi.out)
end
section
open Go.RowKit

attribute [local go_sem] Zg Zf
theorem Ya{P:Program}{ops:Array Oper}{rest:List Oper}{op:Oper}{a:Act}{w:World}{Q:Exit→Act→World→Prop}(hw:Region.wanted op (yielded ops a.tmps)=true)(ty:TypeId)(x:Operand)(ho:op.op= .load ty x)
  (b:Nat) (t:TypeId) (cs:Av) (hx:a.eval x= .pointer (some ⟨b,0,none⟩)) (hb:Box w b t cs) {d:TypeDesc} (hu:P.underlying ty=some d) (hd:d.isRow=true) (hi:(P.info? ty).map (·.size)=some cs.size)
  (h:wpList P ops Q rest (a.put op.dst (.agg cs)) w):wpList P ops Q (op::rest) a w:=by
 unfold wpList;rw[if_pos hw];refine .inl (wp_load_mid ty x ho b 0 hx cs.toList d (fun j v hv=>?_) hu hd (by rw[Array.length_toList];exact hi) ?_)
 ·rw[Nat.zero_add,hb.cell j];simpa using hv
 ·simpa using h
theorem Ed(a b:List Fr)(ha:a.length=16)(hb:b.length=16)(w:World):Calls prog 44 #[.agg (Zm a), .agg (Zm b)] w (fun e w'=>e= .returned (Sl (Wc a b))∧Ex w w'):=by
 have ka:=fun w=>Jn a ha w
 have kb:=fun w=>Jn b hb w
 have hsa:(Zm a).size=48:=by rw[Yn,ha]
 have hsb:(Zm b).size=48:=by rw[Yn,hb]
 have HTP:Hid (Wc a b=if Tv a&&Tv b&&Wg a b 16 then (Wr a b 16,true) else (Wt 16,false)):=Zz rfl;have KO:=Zz (fun r hr w=>Is a ha r hr w);have HTB:=Zz (fun k (hk:k<16)=>Po b k (by omega));have HALK:=Zz (fun r c=>Bv (tg a (4*r)) (tg a (4*r+1)) (tg a (4*r+2)) (tg a (4*r+3)) (Sy b c).a (Sy b c).b (Sy b c).c (Sy b c).d);have KR:=Zz (fun(bs:Nat) (e:Bool) (r c:Nat) (w:World) (hb:Box w bs 155 #[.bool (!e)])=>Hj bs e [tg a (4*r),tg a (4*r+1),tg a (4*r+2),tg a (4*r+3)] (Sy b c).l rfl rfl w hb);generalize hca:Zm a=ac at*;generalize hcb:Zm b=bc at*;generalize hta:Tv a=ta at*;generalize htb:Tv b=tb at*;have KA:=Zz ka;have KB:=Zz kb;clear ka kb hca hcb hta htb;have hR:=Zo.refl w;go_in;go_upto_region 1 with fail;rw[We];have hV:Zo w (((w.alloc (.cells ac 85)).alloc (.cells bc 85)).alloc (.cells Z48 85)) _:=inferInstance;clear hR;have hle:w.heap.size≤(((w.alloc (.cells ac 85)).alloc (.cells bc 85)).alloc (.cells Z48 85)).heap.size:=hV.ex.size;simp only[Zy] at hV;generalize ((w.alloc (.cells ac 85)).alloc (.cells bc 85)).alloc (.cells Z48 85)=W0 at*;have hb1:=hV.boxes.2.2.1;have hb2:=hV.boxes.2.1;rcases ta with _|_
 ·go_upto_region 2 with(first|(refine wpList_load_row rfl _ _ rfl _ rfl _ _ (0,0) _ hb1 underlying85 rfl (Yy hsa) ?_)|(refine Ya (by rfl) _ _ rfl _ _ _ rfl hb2 underlying85 rfl (Yy hsb) ?_)|((with_reducible refine(KA.out _).mono ?_);rintro e w1 ⟨rfl,hx⟩;replace hV:=Zo.after (W:=w) hx;clear hx;replace hb2:=hV.boxes.2.1)|((with_reducible refine(KB.out _).mono ?_);rintro e w1 ⟨rfl,hx⟩;replace hV:=Zo.after (W:=w) hx;clear hx));have hle2:=hV.ex.size;have bT:Box ((w1.alloc (.cells #[false] 155)).alloc (.cells Z48 85)) (w1.heap.size+1) 85 Z48:=by
   have:=Box.new (w1.alloc (.cells #[false] 155)) Z48 85
   rwa[Zy] at this
  have hb0:=hV.boxes.1;have hE:=hV.ex;have HTZ:Hid (Wc a b=(Wt 16,false)):=Zz (by rw[HTP.out];simp);go_upto_region 3 with(refine wpList_store_row rfl _ _ _ rfl _ _ rfl rfl _ _ bT (Yy Yk) rfl Wi ?_);rw[We];have hZ:w1.heap.size+1≠w1.heap.size:=by omega
  have hW:w.heap.size+1+1≠w1.heap.size+1:=by have:=hb0.lt;omega
  have bS:Box (((w1.alloc (.cells #[false] 155)).alloc (.cells Z48 85)).setRow (w1.heap.size+1) Z48) w1.heap.size 155 #[false]:=((Box.new w1 #[false] 155).alloc _).setRow_far (Ne.symm hZ) _;have bR:Box (((w1.alloc (.cells #[false] 155)).alloc (.cells Z48 85)).setRow (w1.heap.size+1) Z48) (w.heap.size+1+1) 85 Z48:=((hb0.alloc _).alloc _).setRow_far hW _;have hE2:Ex w (((w1.alloc (.cells #[false] 155)).alloc (.cells Z48 85)).setRow (w1.heap.size+1) Z48):=((hE.alloc _).alloc _).setRow (Nat.le_succ_of_le hle2) _;generalize ((w1.alloc (.cells #[false] 155)).alloc (.cells Z48 85)).setRow (w1.heap.size+1) Z48=W5 at*;have cS:=bS.cell;have zS:=bS.lt;clear bT hb0 hE;go_wp2_with fail;refine wp_loop_rounds 1 ?_;rw[rounds_succ];go_wp2_with (refine wpList_store_row rfl _ _ _ rfl _ _ rfl rfl _ _ bR (Yy Yk) rfl Wi ?_);exact Zu (Ze results44 _ _ _ _ _ (0,0) _ rfl (bR.setRow _) underlying85 rfl (Yy Yk)) rfl ⟨by rw[HTZ.out];rfl,hE2.setRow (by omega) _⟩
 ·rcases tb with _|_
  ·go_upto_region 2 with(first|(refine wpList_load_row rfl _ _ rfl _ rfl _ _ (0,0) _ hb1 underlying85 rfl (Yy hsa) ?_)|(refine Ya (by rfl) _ _ rfl _ _ _ rfl hb2 underlying85 rfl (Yy hsb) ?_)|((with_reducible refine(KA.out _).mono ?_);rintro e w1 ⟨rfl,hx⟩;replace hV:=Zo.after (W:=w) hx;clear hx;replace hb2:=hV.boxes.2.1)|((with_reducible refine(KB.out _).mono ?_);rintro e w1 ⟨rfl,hx⟩;replace hV:=Zo.after (W:=w) hx;clear hx));have hle2:=hV.ex.size;have bT:Box ((w1.alloc (.cells #[false] 155)).alloc (.cells Z48 85)) (w1.heap.size+1) 85 Z48:=by
    have:=Box.new (w1.alloc (.cells #[false] 155)) Z48 85
    rwa[Zy] at this
   have hb0:=hV.boxes.1;have hE:=hV.ex;have HTZ:Hid (Wc a b=(Wt 16,false)):=Zz (by rw[HTP.out];simp);go_upto_region 3 with(refine wpList_store_row rfl _ _ _ rfl _ _ rfl rfl _ _ bT (Yy Yk) rfl Wi ?_);rw[We];have hZ:w1.heap.size+1≠w1.heap.size:=by omega
   have hW:w.heap.size+1+1≠w1.heap.size+1:=by have:=hb0.lt;omega
   have bS:Box (((w1.alloc (.cells #[false] 155)).alloc (.cells Z48 85)).setRow (w1.heap.size+1) Z48) w1.heap.size 155 #[false]:=((Box.new w1 #[false] 155).alloc _).setRow_far (Ne.symm hZ) _;have bR:Box (((w1.alloc (.cells #[false] 155)).alloc (.cells Z48 85)).setRow (w1.heap.size+1) Z48) (w.heap.size+1+1) 85 Z48:=((hb0.alloc _).alloc _).setRow_far hW _;have hE2:Ex w (((w1.alloc (.cells #[false] 155)).alloc (.cells Z48 85)).setRow (w1.heap.size+1) Z48):=((hE.alloc _).alloc _).setRow (Nat.le_succ_of_le hle2) _;generalize ((w1.alloc (.cells #[false] 155)).alloc (.cells Z48 85)).setRow (w1.heap.size+1) Z48=W5 at*;have cS:=bS.cell;have zS:=bS.lt;clear bT hb0 hE;go_wp2_with fail;refine wp_loop_rounds 1 ?_;rw[rounds_succ];go_wp2_with (refine wpList_store_row rfl _ _ _ rfl _ _ rfl rfl _ _ bR (Yy Yk) rfl Wi ?_);exact Zu (Ze results44 _ _ _ _ _ (0,0) _ rfl (bR.setRow _) underlying85 rfl (Yy Yk)) rfl ⟨by rw[HTZ.out];rfl,hE2.setRow (by omega) _⟩
  ·simp only[Bool.true_and] at HTP;go_upto_region 2 with(first|(refine wpList_load_row rfl _ _ rfl _ rfl _ _ (0,0) _ hb1 underlying85 rfl (Yy hsa) ?_)|(refine Ya (by rfl) _ _ rfl _ _ _ rfl hb2 underlying85 rfl (Yy hsb) ?_)|((with_reducible refine(KA.out _).mono ?_);rintro e w1 ⟨rfl,hx⟩;replace hV:=Zo.after (W:=w) hx;clear hx;replace hb2:=hV.boxes.2.1)|((with_reducible refine(KB.out _).mono ?_);rintro e w1 ⟨rfl,hx⟩;replace hV:=Zo.after (W:=w) hx;clear hx));have hle2:=hV.ex.size;have bT:Box ((w1.alloc (.cells #[true] 155)).alloc (.cells Z48 85)) (w1.heap.size+1) 85 Z48:=by
    have:=Box.new (w1.alloc (.cells #[true] 155)) Z48 85
    rwa[Zy] at this
   have hS0:Zh w ((w1.alloc (.cells #[true] 155)).alloc (.cells Z48 85)) w1.heap.size true _:=Zh.alloc (h:=Zh.start (h:=hV));simp only[Zy] at hS0;have z1:=hV.boxes.1.lt;have z2:=hV.boxes.2.1.lt;have z3:=hV.boxes.2.2.1.lt;go_upto_region 3 with(refine wpList_store_row rfl _ _ _ rfl _ _ rfl rfl _ _ bT (Yy Yk) rfl Wi ?_);rw[We];have hne:∀x∈([(w.heap.size+1+1,85,Z48),(w.heap.size+1,85,bc),(w.heap.size,85,ac)]:Xx),x.1≠w1.heap.size+1:=by
    intro x hx;simp only[List.mem_cons,List.not_mem_nil,or_false] at hx;rcases hx with rfl|rfl|rfl<;>simp only<;>omega
   have hob:w.heap.size≤w1.heap.size+1:=by omega
   replace hS0:=Zh.setRow hS0 hob hne Z48;generalize ((w1.alloc (.cells #[true] 155)).alloc (.cells Z48 85)).setRow (w1.heap.size+1) Z48=W5 at*;have hS1:Zh w W5 w1.heap.size true ((w1.heap.size+1,85,Zm (Wt 16))::[(w.heap.size+1+1,85,Z48),(w.heap.size+1,85,bc),(w.heap.size,85,ac)]):=by rw[←Zxe];exact hS0
   clear hV hb1 hb2 bT KA KB z1 z2 z3 hS0;have HS1:=Zz hS1;clear hS1;go_wp2_with fail;go_loopw [8,9] (fun ii _ wr=>∃(n:Nat) (l:List Fr),ii= .int .i64 n∧n≤16∧l.length=16∧Hid (Wg a b n=true→l=Wr a b n)∧Hid (Zh w wr w1.heap.size (Wg a b n) ((w1.heap.size+1,85,Zm l)::[(w.heap.size+1+1,85,Z48),(w.heap.size+1,85,bc),(w.heap.size,85,ac)]))) (fun ii _ _=>17-(intOf ii).toNat)
   case atStart=>exact⟨0,Wt 16,rfl,by omega,rfl,Zz (fun _=>(Ef a b).symm),HS1⟩
   case round=>
    clear HS1;obtain⟨n,l,rfl,hn,hl,HL,HS⟩:=hrel;rcases hf:Wg a b n with _|_
    ·have hS:=HS.out;rw[hf] at hS;have HTZ:Hid (Wc a b=(Wt 16,false)):=Zz (by rw[HTP.out,Zwb hf hn,if_neg (by simp)]);have hC:=hS.rd;simp only[Zr,Zq] at hC;have bR:=hS.boxes.2.1;have hE:=hS.rel hle2;clear HS HL;by_cases hlt:n<16
     ·have hI:(n:Int)<16:=by omega
      go_wp2_with (refine wpList_store_row rfl _ _ _ rfl _ _ rfl rfl _ _ bR (Yy Yk) rfl Wi ?_);exact Zu (Ze results44 _ _ _ _ _ (0,0) _ rfl (bR.setRow _) underlying85 rfl (Yy Yk)) rfl ⟨by rw[HTZ.out];rfl,hE.setRow (by omega) _⟩
     ·have hI:¬(n:Int)<16:=by omega
      go_wp2_with (refine wpList_store_row rfl _ _ _ rfl _ _ rfl rfl _ _ bR (Yy Yk) rfl Wi ?_);exact Zu (Ze results44 _ _ _ _ _ (0,0) _ rfl (bR.setRow _) underlying85 rfl (Yy Yk)) rfl ⟨by rw[HTZ.out];rfl,hE.setRow (by omega) _⟩
    ·by_cases hlt:n<16
     ·have hI:(n:Int)<16:=by omega
      have hwn:=wr1 n (by omega);obtain rfl:=HL.out hf;obtain⟨r,hr⟩:∃r,r=n / 4:=⟨_,rfl⟩
      obtain⟨c,hc⟩:∃c,c=n % 4:=⟨_,rfl⟩
      have hr4:r<4:=by omega
      have hc4:c<4:=by omega
      have hquo:(n:Int).tdiv 4=(r:Int):=by rw[hr];exact(Int.ofNat_tdiv n 4).symm
      have hrem:(n:Int).tmod 4=(c:Int):=by rw[hc];exact(Int.ofNat_tmod n 4).symm
      have HTR:Hid (Jk a b n=Ztp (tg a (4*r)) (tg a (4*r+1)) (tg a (4*r+2)) (tg a (4*r+3)) (Sy b c).a (Sy b c).b (Sy b c).c (Sy b c).d):=Zz (by rw[hr,hc];rfl);clear hr hc;obtain⟨m1,hm1⟩:∃m:Nat,m=4+c:=⟨_,rfl⟩
      obtain⟨m2,hm2⟩:∃m:Nat,m=8+c:=⟨_,rfl⟩
      obtain⟨m3,hm3⟩:∃m:Nat,m=12+c:=⟨_,rfl⟩
      have hw0:IntKind.i64.wrap (c:Int)=(c:Int):=Zt _ (by omega);have hwr:IntKind.i64.wrap (r:Int)=(r:Int):=Zt _ (by omega);have hw1:IntKind.i64.wrap ((c:Int)+4)=(m1:Int):=by rw[hm1];have:=Zt ((c:Int)+4) (by omega);rw[this];omega
      have hl1:(m1:Int)<16:=by omega
      have hw2:IntKind.i64.wrap ((c:Int)+8)=(m2:Int):=by rw[hm2];have:=Zt ((c:Int)+8) (by omega);rw[this];omega
      have hl2:(m2:Int)<16:=by omega
      have hw3:IntKind.i64.wrap ((c:Int)+12)=(m3:Int):=by rw[hm3];have:=Zt ((c:Int)+12) (by omega);rw[this];omega
      have hl3:(m3:Int)<16:=by omega
      have hl0:(c:Int)<16:=by omega
      have hcol:(Sy b c).l=[tg b c,tg b m1,tg b m2,tg b m3]:=by rw[hm1,hm2,hm3];rfl
      obtain⟨f0,f1,f2⟩:=HTB.out c (by omega);obtain⟨f3,f4,f5⟩:=HTB.out m1 (by omega);obtain⟨f6,f7,f8⟩:=HTB.out m2 (by omega);obtain⟨f9,fa,fb⟩:=HTB.out m3 (by omega);rw[Nat.mul_comm 3 c] at f0 f1 f2;rw[Nat.mul_comm 3 m1] at f3 f4 f5;rw[Nat.mul_comm 3 m2] at f6 f7 f8;rw[Nat.mul_comm 3 m3] at f9 fa fb;have ko:=fun w=>KO.out r hr4 w
      have kr:=fun e w hb=>KR.out w1.heap.size e r c w hb
      have halk:=HALK.out r c;have HSA:Hid (Hk [tg a (4*r),tg a (4*r+1),tg a (4*r+2),tg a (4*r+3)] (Sy b c).l 4=Bw (tg a (4*r)) (tg a (4*r+1)) (tg a (4*r+2)) (tg a (4*r+3)) (Sy b c).a (Sy b c).b (Sy b c).c (Sy b c).d):=Zz (Bi _ _ _ _ _ _ _ _);simp only[HSA.out] at kr;rw[←HTR.out] at halk;generalize Bw (tg a (4*r)) (tg a (4*r+1)) (tg a (4*r+2)) (tg a (4*r+3)) (Sy b c).a (Sy b c).b (Sy b c).c (Sy b c).d=sr at kr halk;clear HSA HTR;generalize Zm [tg a (4*r),tg a (4*r+1),tg a (4*r+2),tg a (4*r+3)]=rc at ko kr;rw[hcol] at kr;clear hcol hm1 hm2 hm3;generalize tg b c=x0 at*;obtain⟨x1,x2,x3⟩:=x0;generalize tg b m1=y0 at*;obtain⟨y1,y2,y3⟩:=y0;generalize tg b m2=z0 at*;obtain⟨z1,z2,z3⟩:=z0;generalize tg b m3=u0 at*;obtain⟨u1,u2,u3⟩:=u0;simp only at f0 f1 f2 f3 f4 f5 f6 f7 f8 f9 fa fb;rw[show Zm [⟨x1,x2,x3⟩,⟨y1,y2,y3⟩,⟨z1,z2,z3⟩,⟨u1,u2,u3⟩]=(#[x1,x2,x3,y1,y2,y3,z1,z2,z3,u1,u2,u3]:Av) from rfl] at kr;obtain⟨⟨q1,q2,q3⟩,kq⟩:=sr;unfold Alk at halk;simp only at halk;have KO2:=Zz ko;have KR2:=Zz kr;have HAL:=Zz halk;clear ko kr halk HL;have hS:=HS.out;rw[hf] at hS;clear HS;have hC:=hS.rd;simp only[Zr,Zq] at hC;go_upto_region 7 with fail;clear hC;replace hS:Zh w wr w1.heap.size (!false||kq) _:=hS;refine Ux (fun b2 w2=>Zh w w2 w1.heap.size (!b2||kq) ((w1.heap.size+1,85,Zm (Wr a b n))::[(w.heap.size+1+1,85,Z48),(w.heap.size+1,85,bc),(w.heap.size,85,ac)])) 29 false (by kernel_rfl) (hS.drewW) (by exact fun _ _ _ _ _ h=>h) ?_;iterate 5 (apply Zp;rfl;intro b u B Q q;go_wp2_with (refine wpList_load_row rfl _ _ rfl _ rfl _ _ (0,0) _ B.boxes.2.2.2.1 underlying85 rfl (Yy hsa) ?_);exact q _ trivial B;exact⟨_,rfl⟩)
      (apply Zp;rfl;intro b u B Q q;go_wp2_with ((with_reducible refine(KO2.out _).mono ?_);rintro e1 wn ⟨rfl,hx⟩);exact q _ trivial (B.ex hx);exact⟨_,rfl⟩);iterate 20 (apply Zp;rfl;intro b u B Q q;have hC:=B.rd;simp only[Zr,Zq] at hC;go_wp2;exact q _ trivial B;exact⟨_,rfl⟩)
      apply Zi (d:=true)
      ·rfl
      ·intro b2 wb hB Q1 hQ1;have hB2:Zh w wb w1.heap.size (!(b2&& !kq)) ((w1.heap.size+1,85,Zm (Wr a b n))::[(w.heap.size+1+1,85,Z48),(w.heap.size+1,85,bc),(w.heap.size,85,ac)]):=by
        have e:(!b2||kq)= !(b2&& !kq):=by cases b2<;>cases kq<;>rfl
        rw[←e];exact hB
       go_wp2_with ((with_reducible refine(KR2.out (b2&& !kq) _ hB2.sum).mono ?_);rintro e1 wm ⟨rfl,hs1,hb1⟩);have hN:=Zh.call hB2 hs1 hb1;have e:(!(b2&& !kq)&&kq)=(!(b2||true)||kq):=by cases b2<;>cases kq<;>rfl
       rw[e] at hN;exact hQ1 _ trivial hN
      ·exact⟨_,rfl⟩
      iterate 2 (apply Zp;rfl;intro b u B Q q;go_wp2;exact q _ trivial B;exact⟨_,rfl⟩)
      refine Zn ?_;intro wz hz;replace hz:Zh w wz w1.heap.size (true&&kq) _:=hz;go_wp2_with (refine Xs hz hob hne n (by rw[Sc];exact hlt) (by rw[Nat.mul_comm 3 n];rfl) rfl ?_;intro V hV2);have e2:(true&&kq)=Wg a b (n+1):=by simp[Wg,hf,HAL.out.1]
      rw[e2] at hV2;have HL3:Hid (Wg a b (n+1)=true→(Wr a b n).set n ⟨q1,q2,q3⟩=Wr a b (n+1)):=Zz fun h=>by
        have h2:(Jk a b n).2=true:=by simpa [Wg,hf] using h
        rw[HAL.out.2 h2];exact Bf a b n hlt
      have HV2:=Zz hV2;clear hV2 e2 hS hz;go_roundw
      case rel=>exact⟨n+1,_,by go_num,by omega,by rw[List.length_set];exact Sc a b n,HL3,HV2⟩
      case measure=>simp[intOf]<;>omega
     ·obtain rfl:n=16:=by omega
      have hI:¬((16:Nat):Int)<16:=by omega
      obtain rfl:=HL.out hf;have hS:=HS.out;rw[hf] at hS;have HTY:Hid (Wc a b=(Wr a b 16,true)):=Zz (by rw[HTP.out,hf,if_pos rfl]);have hts:(Zm (Wr a b 16)).size=48:=by rw[Yn,Sc]
      have hto:=Zb (Wr a b 16);have hC:=hS.rd;simp only[Zr,Zq] at hC;have bR:=hS.boxes.2.1;have bT:=hS.boxes.1;have hE:=hS.rel hle2;clear HS HL
      skip
      go_wp2_with (first|(refine wpList_load_row rfl _ _ rfl _ rfl _ _ (0,0) _ bT underlying85 rfl (Yy hts) ?_)|(refine wpList_store_row rfl _ _ _ rfl _ _ rfl rfl _ _ bR (Yy hts) (by rw[hts];rfl) hto ?_));exact Zu (Ze results44 _ _ _ _ _ (0,0) _ rfl (bR.setRow _) underlying85 rfl (Yy hts)) rfl ⟨by rw[HTY.out];rfl,hE.setRow (by omega) _⟩
end
section
open Go.RowKit

attribute [local go_sem] Zg Zf
theorem Zl.setRowT{W w:World}{bs g:Nat}{b:Bool}{t:TypeId}{y:Av}{L:Xx}(h:Zl W w bs b ((g,t,y)::L))(hg:W.heap.size≤g)(hne:∀x∈L,x.1≠g)(x:Av):Zl W (w.setRow g x) bs b ((g,t,x)::L):=
 ⟨h.sm.setRow hg x,h.sum.setRow_far (Ne.symm (h.far _ (.head _))) x,⟨h.boxes.1.setRow x,Ot hne h.boxes.2⟩,fun v hv=>by
  rcases List.mem_cons.1 hv with rfl|hv
  ·exact h.far (g,t,y) (.head _)
  ·exact h.far v (.tail _ hv)⟩
theorem Ec(a b:List Fr)(ha:a.length=16)(hb:b.length=16)(w:World):Calls prog 40 #[.agg (Zm a), .agg (Zm b)] w (fun e w'=>e= .returned (Sl (Wc a b))∧Ex w w'):=by
 have ka:=fun w=>Jo a ha w
 have kb:=fun w=>Jo b hb w
 have hsa:(Zm a).size=48:=by rw[Yn,ha]
 have hsb:(Zm b).size=48:=by rw[Yn,hb]
 have HTP:Hid (Wc a b=if Tv a&&Tv b&&Wg a b 16 then (Wr a b 16,true) else (Wt 16,false)):=Zz rfl;have HTA:=Zz (fun k (hk:k<16)=>Po a k (by omega));have HTB:=Zz (fun k (hk:k<16)=>Po b k (by omega));generalize hca:Zm a=ac at*;generalize hcb:Zm b=bc at*;generalize hta:Tv a=ta at*;generalize htb:Tv b=tb at*;have KA:=Zz ka;have KB:=Zz kb;clear ka kb hca hcb hta htb;have hR:=Zo.refl w;go_in;go_upto_region 1 with fail;rw[We];have hV:Zo w (((w.alloc (.cells ac 85)).alloc (.cells bc 85)).alloc (.cells Z48 85)) _:=inferInstance;clear hR;have hle:w.heap.size≤(((w.alloc (.cells ac 85)).alloc (.cells bc 85)).alloc (.cells Z48 85)).heap.size:=hV.ex.size;simp only[Zy] at hV;generalize ((w.alloc (.cells ac 85)).alloc (.cells bc 85)).alloc (.cells Z48 85)=W0 at*;have hW:Zl w (W0.alloc (.cells #[false] 92)) W0.heap.size false _:=Zl.start (h:=hV);go_cut [6] (fun s wx=>s= .pointer (some ⟨W0.heap.size,0,none⟩)∧Zl w wx W0.heap.size (!(ta&&tb)) [(w.heap.size+1+1,85,Z48),(w.heap.size+1,85,bc),(w.heap.size,85,ac)])
 case first=>
  rcases ta with _|_
  ·go_wp2_with (first|(refine wpList_load_row rfl _ _ rfl _ rfl _ _ (0,0) _ hW.boxes.2.2.1 underlying85 rfl (Yy hsa) ?_)|(refine Ya (by rfl) _ _ rfl _ _ _ rfl hW.boxes.2.1 underlying85 rfl (Yy hsb) ?_)|((with_reducible refine(KA.out _).mono ?_);rintro e w1 ⟨rfl,hx⟩;replace hW:=Zl.ex hW hx;clear hx)|((with_reducible refine(KB.out _).mono ?_);rintro e w2 ⟨rfl,hx⟩;replace hW:=Zl.ex hW hx;clear hx)|(go_at_call 46;(with_reducible refine(Ud _ _ _ _ hW.sum).mono ?_);rintro e w3 ⟨rfl,hs,hb⟩;have hN:=Zl.call hW hs hb));go_meet
   exact⟨rfl,hN⟩
  ·rcases tb with _|_
   ·go_wp2_with (first|(refine wpList_load_row rfl _ _ rfl _ rfl _ _ (0,0) _ hW.boxes.2.2.1 underlying85 rfl (Yy hsa) ?_)|(refine Ya (by rfl) _ _ rfl _ _ _ rfl hW.boxes.2.1 underlying85 rfl (Yy hsb) ?_)|((with_reducible refine(KA.out _).mono ?_);rintro e w1 ⟨rfl,hx⟩;replace hW:=Zl.ex hW hx;clear hx)|((with_reducible refine(KB.out _).mono ?_);rintro e w2 ⟨rfl,hx⟩;replace hW:=Zl.ex hW hx;clear hx)|(go_at_call 46;(with_reducible refine(Ud _ _ _ _ hW.sum).mono ?_);rintro e w3 ⟨rfl,hs,hb⟩;have hN:=Zl.call hW hs hb));go_meet
    exact⟨rfl,hN⟩
   ·go_wp2_with (first|(refine wpList_load_row rfl _ _ rfl _ rfl _ _ (0,0) _ hW.boxes.2.2.1 underlying85 rfl (Yy hsa) ?_)|(refine Ya (by rfl) _ _ rfl _ _ _ rfl hW.boxes.2.1 underlying85 rfl (Yy hsb) ?_)|((with_reducible refine(KA.out _).mono ?_);rintro e w1 ⟨rfl,hx⟩;replace hW:=Zl.ex hW hx;clear hx)|((with_reducible refine(KB.out _).mono ?_);rintro e w2 ⟨rfl,hx⟩;replace hW:=Zl.ex hW hx;clear hx)|(go_at_call 46;(with_reducible refine(Ud _ _ _ _ hW.sum).mono ?_);rintro e w3 ⟨rfl,hs,hb⟩;have hN:=Zl.call hW hs hb));go_meet
    exact⟨rfl,hN⟩
 case rest=>
  obtain⟨rfl,hS⟩:=hcut;clear hW hV KA KB;have hS1:=Zl.alloc (h:=hS) (cs:=Z48) (t:=85);have hob:w.heap.size≤wc.heap.size:=hS.sm.size;have z1:=hS.boxes.1.lt;have z2:=hS.boxes.2.1.lt;have z3:=hS.boxes.2.2.1.lt;have hne:∀x∈([(w.heap.size+1+1,85,Z48),(w.heap.size+1,85,bc),(w.heap.size,85,ac)]:Xx),x.1≠wc.heap.size:=by
   intro x hx;simp only[List.mem_cons,List.not_mem_nil,or_false] at hx;rcases hx with rfl|rfl|rfl
   ·exact Nat.ne_of_lt z1
   ·exact Nat.ne_of_lt z2
   ·exact Nat.ne_of_lt z3
  have bT:=hS1.boxes.1;go_upto_region 3 with(refine wpList_store_row rfl _ _ _ rfl _ _ rfl rfl _ _ bT (Yy Yk) rfl Wi ?_);rw[We];replace hS1:=Zl.setRowT hS1 hob hne Z48;generalize (wc.alloc (.cells Z48 85)).setRow wc.heap.size Z48=W1 at*;have hS2:Zl w W1 W0.heap.size (!(ta&&tb)) ((wc.heap.size,85,Zm (Wr a b 0))::[(w.heap.size+1+1,85,Z48),(w.heap.size+1,85,bc),(w.heap.size,85,ac)]):=by rw[Ef,←Zxe];exact hS1
  clear hS hS1 z1 z2 z3 bT;have HS2:=Zz hS2;clear hS2;go_wp2_with fail;go_loopw [22,8,9,10,11] (fun i _ _ _ _ wr=>∃r:Nat,i= .int .i64 r∧r≤4∧Hid (Zl w wr W0.heap.size (!(ta&&tb&&Wg a b (4*r))) ((wc.heap.size,85,Zm (Wr a b (4*r)))::[(w.heap.size+1+1,85,Z48),(w.heap.size+1,85,bc),(w.heap.size,85,ac)]))) (fun i _ _ _ _ _=>5-(intOf i).toNat)
  case atStart=>exact⟨0,rfl,by omega,by simpa [Wg] using HS2⟩
  case round=>
   clear HS2;obtain⟨r,rfl,hr,HS⟩:=hrel;by_cases hlt:r<4
   ·have hI:(r:Int)<4:=by omega
    have hwr:=wr1 r (by omega);have HS3:Hid (Zl w wr W0.heap.size (!(ta&&tb&&Wg a b (4*r+0))) ((wc.heap.size,85,Zm (Wr a b (4*r+0)))::[(w.heap.size+1+1,85,Z48),(w.heap.size+1,85,bc),(w.heap.size,85,ac)])):=HS;clear HS;go_wp2_with fail;go_loopw [25,9,10,11] (fun i _ _ _ wx=>∃c:Nat,i= .int .i64 c∧c≤4∧Hid (Zl w wx W0.heap.size (!(ta&&tb&&Wg a b (4*r+c))) ((wc.heap.size,85,Zm (Wr a b (4*r+c)))::[(w.heap.size+1+1,85,Z48),(w.heap.size+1,85,bc),(w.heap.size,85,ac)]))) (fun i _ _ _ _=>5-(intOf i).toNat)
    case atStart=>exact⟨0,rfl,by omega,HS3⟩
    case round=>
     clear HS3;obtain⟨c,rfl,hc,HS⟩:=hrel;by_cases hlc:c<4
     ·have hIc:(c:Int)<4:=by omega
      have hwc:=wr1 c (by omega);obtain⟨m0,hm0⟩:∃m0:Nat,m0=4*r:=⟨_,rfl⟩
      have hw0:IntKind.i64.wrap (4*(r:Int))=(m0:Int):=by rw[hm0];have:=Zt (4*(r:Int)) (by omega);rw[this];omega
      have hm1:(m0:Int)<16:=by omega
      have hc16:(c:Int)<16:=by omega
      obtain⟨f0,f1,f2⟩:=HTA.out m0 (by omega);obtain⟨g0,g1,g2⟩:=HTB.out c (by omega);have HR0:Hid (Re a r (Sy b c) 0=Zk (tg a m0) (tg b c)):=Zz (by rw[hm0];rfl);have HRS:Hid (∀k m p,m=4*r+(k+1)→p=4*(k+1)+c→k+1<4→Re a r (Sy b c) (k+1)=((Yo (Re a r (Sy b c) k).1 (Zk (tg a m) (tg b p)).1).1,(Re a r (Sy b c) k).2&&(Zk (tg a m) (tg b p)).2&&(Yo (Re a r (Sy b c) k).1 (Zk (tg a m) (tg b p)).1).2)):=Zz (fun k m p e e2 hk=>by subst e e2;rw[←Zcx b c (k+1) hk];rfl);have HR3:Hid (Jk a b (4*r+c)=Re a r (Sy b c) 3):=Zz (by rw[Zgb a b r c hlc];exact(Bk a r (Sy b c)).symm);obtain⟨N,HN⟩:=nm (4*r+c);rw[←HN.out] at HS HR3;rw[Nat.mul_comm 3 m0] at f0 f1 f2;rw[Nat.mul_comm 3 c] at g0 g1 g2;generalize tg a m0=x at f0 f1 f2 HR0;generalize tg b c=y at g0 g1 g2 HR0;obtain⟨x1,x2,x3⟩:=x;obtain⟨y1,y2,y3⟩:=y;simp only at f0 f1 f2 g0 g1 g2;rcases h0:Zk ⟨x1,x2,x3⟩ ⟨y1,y2,y3⟩ with⟨⟨a1,a2,a3⟩,ka⟩;have HA0:Hid (Re a r (Sy b c) 0=(⟨a1,a2,a3⟩,ka)):=Zz (HR0.out.trans h0);have H0:=Zz h0;clear h0 HR0;obtain⟨fl,HFL⟩:=nm (!(ta&&tb&&Wg a b N));have hS:=HS.out;rw[←HFL.out] at hS;clear HS;have HM0:=Zz hm0;have HLT:=Zz (Xy.old hS.boxes);have hws:=hS.sm.size;clear hm0;go_upto_region 9 with fail;have hS0:=hS;have hbs0:=hS0.sum.lt;refine Yh (St:=Sm W0.heap.size) (B:=fun b w'=>InS _ W0.heap.size _ b w') 11 1 0 _ 30 (fun _=>10) (fun _=>38) (fun _=>Oa) (fun _=>#[a1,a2,a3]) _ (by kernel_rfl) (by kernel_rfl) (InS.drew (InS.start hS0)) (fun x y h1 h2 _=>by omega) (fun x y _ _=>by decide) (fun _ _ h g cs hg hb=>h.box _ _ _ (Nat.ne_of_gt (Nat.lt_of_lt_of_le hbs0 hg)) hb) (fun _ _ cs h=>h.alloc _) (fun _ _ h=>h.size) ?_;iterate 10 (apply Zp;rfl;intro b u B Q q;have hS:=B.sees;have hC:=hS.rd;simp only[Zr,Zq] at hC;go_wp2;exact q _ (Sm.refl _ _) B;exact⟨_,rfl⟩)
      (apply Zi;rfl;intro b u B Q q;go_wp2_with ((with_reducible refine(Ye B.sees H0.out).mono ?_);rintro e wn ⟨rfl,hN,hM⟩);exact q _ hM (B.call hN);exact⟨_,rfl⟩);refine Zn ?_;refine⟨fun i hi=>?_,fun i hi=>?_,fun i hi=>?_,fun gg wz hz hbx hne=>?_⟩
      ·obtain rfl:i=0:=by omega
       all_goals exact⟨_,rfl,Yt⟩
      ·obtain rfl:i=0:=by omega
       all_goals exact⟨_,rfl,Xh Ym rfl (by kernel_rfl) (fun _ _ _ hg h=>h.setRow hg _)⟩
      ·obtain rfl:i=0:=by omega
       ·exact(show(10:Nat)<76 by decide)
      obtain⟨hq0,hp0⟩:=hbx 0 (by omega);replace hS:=InS.join hS0 hz;replace hS:=Zl.put hS hp0 (by omega);simp only[frN,Act.put,Zx,Zw,Zv,Nat.reduceAdd,List.drop_succ_cons,List.drop_zero];generalize gg 0=ga at*;clear hbx hz hS0 hne;simp only at hS;have HNE:=Zz (fun x hx=>Nat.ne_of_lt (Nat.lt_of_lt_of_le (HLT.out x hx) hq0));have hgw:w.heap.size≤ga:=Nat.le_trans hws hq0;clear hws HLT hq0 hp0 f0 f1 f2 g0 g1 g2 hw0 hm1;go_wp2_with fail;go_loopw [11] (fun kk wy=>∃k:Nat,kk= .int .i64 k∧1≤k∧k≤4∧∃a1 a2 a3 ka,Hid (Re a r (Sy b c) (k-1)=(⟨a1,a2,a3⟩,ka))∧Hid (Zl w wy W0.heap.size (fl|| !ka) ((ga,30,#[a1,a2,a3])::(wc.heap.size,85,Zm (Wr a b N))::[(w.heap.size+1+1,85,Z48),(w.heap.size+1,85,bc),(w.heap.size,85,ac)]))) (fun kk _=>5-(intOf kk).toNat)
      case atStart=>exact⟨1,rfl,by omega,by omega,a1,a2,a3,ka,HA0,Zz hS⟩
      case round=>
       clear hS HA0 H0;obtain⟨k,rfl,hk1,hk4,b1,b2,b3,kb,HB,HS⟩:=hrel;by_cases hk:k<4
       ·have hkI:(k:Int)<4:=by omega
        obtain⟨m,hm⟩:∃m:Nat,m=4*r+k:=⟨_,rfl⟩
        obtain⟨p,hp⟩:∃p:Nat,p=4*k+c:=⟨_,rfl⟩
        have hw0:IntKind.i64.wrap (4*(r:Int))=4*(r:Int):=Zt _ (by omega);have hw1:IntKind.i64.wrap (4*(r:Int)+(k:Int))=(m:Int):=by rw[hm];have:=Zt (4*(r:Int)+(k:Int)) (by omega);rw[this];omega
        have hw2:IntKind.i64.wrap (4*(k:Int))=4*(k:Int):=Zt _ (by omega);have hw3:IntKind.i64.wrap (4*(k:Int)+(c:Int))=(p:Int):=by rw[hp];have:=Zt (4*(k:Int)+(c:Int)) (by omega);rw[this];omega
        have hwk:=wr1 k (by omega);have hm1:(m:Int)<16:=by omega
        have hp1:(p:Int)<16:=by omega
        obtain⟨f0,f1,f2⟩:=HTA.out m (by omega);obtain⟨g3,g4,g5⟩:=HTB.out p (by omega);have HK:=Zz (HRS.out (k-1) m p (by omega) (by omega) (by omega));have hkk:k-1+1=k:=by omega
        rw[hkk] at HK;rw[HB.out] at HK;rw[Nat.mul_comm 3 m] at f0 f1 f2;rw[Nat.mul_comm 3 p] at g3 g4 g5;generalize tg a m=x at f0 f1 f2 HK;generalize tg b p=y at g3 g4 g5 HK;obtain⟨x1,x2,x3⟩:=x;obtain⟨y1,y2,y3⟩:=y;simp only at f0 f1 f2 g3 g4 g5 HK;rcases h1:Zk ⟨x1,x2,x3⟩ ⟨y1,y2,y3⟩ with⟨⟨p1,p2,p3⟩,kp⟩;rw[h1] at HK;simp only at HK;rcases h2:Yo ⟨b1,b2,b3⟩ ⟨p1,p2,p3⟩ with⟨⟨s1,s2,s3⟩,ks⟩;rw[h2] at HK;simp only at HK;have H1:=Zz h1;have H2:=Zz h2;clear h1 h2 hm hkk hp;have hS:=HS.out;clear HS;go_upto_region 13 with fail;refine Ux (fun b w2=>Zl w w2 W0.heap.size b _) 18 _ (by kernel_rfl) (hS.drewW) (by exact fun _ _ _ _ _ h=>h) ?_;iterate 17 (apply Zp;rfl;intro b u B Q q;have hS:=B;have hC:=hS.rd;simp only[Zr,Zq] at hC;go_wp2;exact q _ trivial B;exact⟨_,rfl⟩)
        (apply Zi;rfl;intro b u B Q q;go_wp2_with ((with_reducible refine(Ye B H1.out).mono ?_);rintro e wn ⟨rfl,hN,hM⟩);exact q _ trivial hN;exact⟨_,rfl⟩);refine Zn ?_;intro wz2 hz2;clear hS;have hC:=hz2.rd;simp only[Zr,Zq] at hC;go_wp2_with ((with_reducible refine(Rj hz2 H2.out).mono ?_);rintro e wm ⟨rfl,hN, -⟩;have hC:=hN.rd;simp only[Zr,Zq] at hC);have hS5:=Zl.set3 hN hgw HNE.out (s1) (s2) (s3);have ef:(fl|| !kb|| !kp|| !ks)=(fl|| !(kb&&kp&&ks)):=by simp[Bool.or_assoc]
        rw[ef] at hS5;have HS5:=Zz hS5;clear hS5 hN hC ef;go_roundw
        case rel=>exact⟨k+1,by go_num,by omega,by omega,s1,s2,s3,(kb&&kp&&ks),HK,HS5⟩
        case measure=>simp[intOf]<;>omega
       ·obtain rfl:k=4:=by omega
        have hS:=HS.out;have hT:=Zl.tail hS;have hC:=hS.rd;simp only[Zr,Zq] at hC;have HTR:Hid (Jk a b N=(⟨b1,b2,b3⟩,kb)):=Zz (HR3.out.trans HB.out);have hkI:¬((4:Nat):Int)<4:=by omega
        have hw0:IntKind.i64.wrap (4*(r:Int))=4*(r:Int):=Zt _ (by omega);have hw1:IntKind.i64.wrap (4*(r:Int)+(c:Int))=(N:Int):=by rw[HN.out];have:=Zt (4*(r:Int)+(c:Int)) (by omega);rw[this];omega
        have hN1:(N:Int)<16:=by rw[HN.out];omega
        have hN2:N<16:=by omega
        clear HS HB hk hk1 hk4 HRS;go_wp2_with (refine Id hT hob hne N (by rw[Sc];exact hN2) (by rw[Nat.mul_comm 3 N];rfl) rfl ?_;intro V hV2);have e1:=Bf a b N hN2;rw[HTR.out] at e1;simp only at e1;rw[e1] at hV2;have e2:(fl|| !kb)= !(ta&&tb&&Wg a b (N+1)):=by
         rw[HFL.out];simp only[Wg,HTR.out,Bool.not_and,Bool.or_assoc]
        rw[e2] at hV2;rw[HN.out] at hV2;have HV2:=Zz hV2;clear hV2 e1 e2 hT hC hS;go_roundw
        case rel=>exact⟨c+1,by go_num,by omega,HV2⟩
        case measure=>simp[intOf]<;>omega
     ·obtain rfl:c=4:=by omega
      have hIc:¬((4:Nat):Int)<4:=by omega
      have HS4:Hid (Zl w wr W0.heap.size (!(ta&&tb&&Wg a b (4*(r+1)))) ((wc.heap.size,85,Zm (Wr a b (4*(r+1))))::[(w.heap.size+1+1,85,Z48),(w.heap.size+1,85,bc),(w.heap.size,85,ac)])):=HS;clear HS;go_wp2_with fail;go_roundw
      case rel=>exact⟨r+1,by go_num,by omega,HS4⟩
      case measure=>simp[intOf]<;>omega
   ·obtain rfl:r=4:=by omega
    have hI:¬((4:Nat):Int)<4:=by omega
    have hS5:Zl w wr W0.heap.size (!(ta&&tb&&Wg a b 16)) ((wc.heap.size,85,Zm (Wr a b 16))::[(w.heap.size+1+1,85,Z48),(w.heap.size+1,85,bc),(w.heap.size,85,ac)]):=HS.out;have hS:=hS5;clear HS hS5;rcases hK:(ta&&tb&&Wg a b 16) with _|_
    ·rw[hK] at hS;have HTZ:Hid (Wc a b=(Wt 16,false)):=Zz (by rw[HTP.out,hK];rfl);have bT:=hS.boxes.1;have hts:(Zm (Wr a b 16)).size=48:=by rw[Yn,Sc]
     have hto:=Zb (Wr a b 16);have hC:=hS.rd;simp only[Zr,Zq] at hC;obtain⟨xc,hxc⟩:=nm (Zm (Wr a b 16));rw[←hxc.out] at hS bT hts hto hC;go_wp2_with (first|(refine wpList_load_row rfl _ _ rfl _ rfl _ _ (0,0) _ bT underlying85 rfl (Yy hts) ?_)|((with_reducible refine(Ik _ _ hts hto _ hS.sum).mono ?_);rintro e wn ⟨rfl,hx⟩;have hS9:=Zl.ex hS hx;have bR:=hS9.boxes.2.1;have hE:=hS9.rel hle)|(refine wpList_store_row rfl _ _ _ rfl _ _ rfl rfl _ _ bR (Yy Yk) (rfl) Wi ?_));exact Zu (Ze results40 _ _ _ _ _ (0,0) _ rfl (bR.setRow _) underlying85 rfl (Yy Yk)) rfl ⟨by rw[HTZ.out];rfl,hE.setRow (by omega) _⟩
    ·rw[hK] at hS;have HTZ:Hid (Wc a b=(Wr a b 16,true)):=Zz (by rw[HTP.out,hK];rfl);have bT:=hS.boxes.1;have hts:(Zm (Wr a b 16)).size=48:=by rw[Yn,Sc]
     have hto:=Zb (Wr a b 16);have hC:=hS.rd;simp only[Zr,Zq] at hC;obtain⟨xc,hxc⟩:=nm (Zm (Wr a b 16));rw[←hxc.out] at hS bT hts hto hC;go_wp2_with (first|(refine wpList_load_row rfl _ _ rfl _ rfl _ _ (0,0) _ bT underlying85 rfl (Yy hts) ?_)|((with_reducible refine(Jx _ _ hts hto _ hS.sum).mono ?_);rintro e wn ⟨rfl,hx⟩;have hS9:=Zl.ex hS hx;have bR:=hS9.boxes.2.1;have hE:=hS9.rel hle)|(refine wpList_store_row rfl _ _ _ rfl _ _ rfl rfl _ _ bR (Yy hts) (by rw[hts];rfl) hto ?_));exact Zu (Ze results40 _ _ _ _ _ (0,0) _ rfl (bR.setRow _) underlying85 rfl (Yy hts)) rfl ⟨by rw[HTZ.out,hxc.out];rfl,hE.setRow (by omega) _⟩
end
section
open Go.RowKit

attribute [local go_sem] Zg Zf
theorem Ji{cs:Av}(h:cs.size=12):(Tryz.prog.info? 79).map (·.size)=some cs.size:=by rw[h];kernel_rfl
theorem Wa{cs:Av}(h:cs.size=12):(Tryz.prog.info? 31).map (·.size)=some cs.size:=by rw[h];kernel_rfl
theorem Zcw{cs:List Value}(h:cs.length=12):(Tryz.prog.info? 31).map (·.size)=some cs.length:=by rw[h];kernel_rfl
theorem Zfy(l:List Fr):(Zm (l.take 4)).toList=(Zm l).toList.take 12:=by
 unfold Zm;match l with
 |[]=>rfl
 |[_]=>rfl
 |[_,_]=>rfl
 |[_,_,_]=>rfl
 |a::b::c::d::t=>simp[Pd]
theorem Zob{w:World}{b:Nat}{t:TypeId}{l:List Fr}(h:Box w b t (Zm l)):w.rangeAt b 0 (Zm (l.take 4)).toList:=by
 intro j v hv;rw[Zfy] at hv;rw[Nat.zero_add,h.cell j,←Array.getElem?_toList];rw[List.getElem?_take] at hv;split at hv
 ·exact hv
 ·cases hv
theorem Zcv(a:Option Addr)(cap:Nat)(w:World):(Instr.arrayAt 31 (.slice a 4 cap)).run prog w= .ok (.pointer a) w:=run_arrayAt w _ _ 4 a 4 cap underlying31 (Nat.le_refl _)
attribute [local go_sem] Zcv
theorem Ic:(Oc:Av).all (·.oneCell')=true:=by kernel_rfl
theorem Zo.grow{W w w1:World}{L:Xx}(h:Zo W w L)(hx:Ex w w1):Zo W w1 L:=Zo.after (h:=h) hx
theorem Zju(p q:Int)(w:World)[hG:Xz w]:Calls prog 14 #[.agg #[p,q]] w (fun e w'=>e= .returned (.tuple #[.agg (Zm (Wb p q).1), .bool (Wb p q).2])∧Ex w w'):=by
 have k1:=fun w (_:Xz w)=>Zym p q 1 w
 have k2:=fun w=>Cl 1 0 w
 have hq:Wb p q=if (Xq p q 1).2&&(Ww 1 0).2&&(Vv (Ww 1 0).1).2&&(Vv (Xq p q 1).1).2&&(Wc (Vv (Ww 1 0).1).1 (Vv (Xq p q 1).1).1).2 then ((Wc (Vv (Ww 1 0).1).1 (Vv (Xq p q 1).1).1).1.take 4,true) else (Wt 4,false):=rfl
 generalize Wb p q=R at hq ⊢;rcases hP:Xq p q 1 with⟨P,kp⟩;rcases hF:Ww 1 0 with⟨M,kf⟩;rw[hP] at k1;rw[hF] at k2;simp only[hP,hF] at hq;clear hP hF;have k3:=fun w (_:Xz w)=>Cb M w
 have k4:=fun w (_:Xz w)=>Cb P w
 have hA:=Qr M;have hB:=Qr P;rcases hTA:Vv M with⟨A,ka⟩;rcases hTB:Vv P with⟨B,kb⟩;rw[hTA] at k3 hA;rw[hTB] at k4 hB;simp only[hTA,hTB] at hq;simp only at hA hB;clear hTA hTB;have k5:=fun w=>Ec A B hA hB w
 have hC:=Qk A B;rcases hTC:Wc A B with⟨C,kc⟩;rw[hTC] at k5 hC;simp only[hTC] at hq;simp only at hC;clear hTC;simp only[Sl,m4v,M4.l_arr] at k1 k2 k3 k4 k5;have sA:(Zm A).size=48:=by rw[Yn,hA]
 have sB:(Zm B).size=48:=by rw[Yn,hB]
 have sC:(Zm C).size=48:=by rw[Yn,hC]
 have oA:=Zb A;have oB:=Zb B;have oC:=Zb C;have sP:(Zm P.l).size=12:=rfl;have sM:(Zm M.l).size=12:=rfl;have oP:=Zb P.l;have oM:=Zb M.l;have sT:(Zm (C.take 4)).toList.length=12:=by rw[Array.length_toList,Yn,List.length_take,hC];rfl
 have oT:=Zb (C.take 4);have HRG:=Zz (fun(w:World) (b:Nat) (t:TypeId) (h:Box w b t (Zm C))=>Zob h);have HQ:=Zz hq;clear hq hA hB hC;generalize Zm A=ac at*;generalize Zm B=bc at*;generalize Zm C=cc at*;generalize Zm P.l=pc at*;generalize Zm M.l=mc at*;obtain⟨tc,htc⟩:=nm (Zm (C.take 4));rw[←htc.out] at sT oT HRG;have K1:=Zz k1;have K2:=Zz k2;have K3:=Zz k3;have K4:=Zz k4;have K5:=Zz k5;have HG:=Zz hG;clear k1 k2 k3 k4 k5;have hR:=Zo.refl w;go_in;go_upto_region 1 with fail;have hV:Zo w ((w.alloc (.cells #[p,q] 27)).alloc (.cells Oc 31)) _:=inferInstance;clear hR;simp only[Zy] at hV;generalize (w.alloc (.cells #[p,q] 27)).alloc (.cells Oc 31)=W0 at*;have hC:=hV.rd;simp only[Zr,Zq] at hC
 skip
 go_upto_region 2 with(first|((with_reducible refine(K1.out _ (HG.out.ex hV.ex)).mono ?_);rintro e u1 ⟨rfl,hx⟩;replace hV:=Zo.after (W:=w) hx;clear hx)|(refine wpList_store_row rfl _ _ _ rfl _ _ rfl rfl _ _ (Box.new u1 _ _) (Ji sP) (by rw[sP];rfl) oP ?_));have hB2:=(Box.new u1 Oc 79).setRow pc;replace hV:=hV.grow (((Ex.refl u1).alloc (.cells Oc 79)).setRow (Nat.le_refl _) pc);generalize (u1.alloc (.cells Oc 79)).setRow u1.heap.size pc=V2 at*;replace hV:=Zo.put hV hB2;clear hB2;generalize u1.heap.size=g2 at*;clear hC;go_upto_region 3 with(first|((with_reducible refine(K2.out _).mono ?_);rintro e u2 ⟨rfl,hx⟩;replace hV:=Zo.after (W:=w) hx;clear hx)|(refine wpList_store_row rfl _ _ _ rfl _ _ rfl rfl _ _ (Box.new u2 _ _) (Ji sM) (by rw[sM];rfl) oM ?_));have hB3:=(Box.new u2 Oc 79).setRow mc;replace hV:=hV.grow (((Ex.refl u2).alloc (.cells Oc 79)).setRow (Nat.le_refl _) mc);generalize (u2.alloc (.cells Oc 79)).setRow u2.heap.size mc=V3 at*;replace hV:=Zo.put hV hB3;clear hB3;generalize u2.heap.size=g3 at*;have bM:=hV.boxes.1;go_upto_region 4 with(first|(refine wpList_load_row rfl _ _ rfl _ rfl _ _ (0,0) _ bM underlying79 rfl (Ji sM) ?_)|((with_reducible refine(K3.out _ (HG.out.ex hV.ex)).mono ?_);rintro e u3 ⟨rfl,hx⟩;replace hV:=Zo.after (W:=w) hx;clear hx)|(refine wpList_store_row rfl _ _ _ rfl _ _ rfl rfl _ _ (Box.new u3 _ _) (Yy sA) (by rw[sA];rfl) oA ?_));have hB4:=(Box.new u3 Od 85).setRow ac;replace hV:=hV.grow (((Ex.refl u3).alloc (.cells Od 85)).setRow (Nat.le_refl _) ac);generalize (u3.alloc (.cells Od 85)).setRow u3.heap.size ac=V4 at*;replace hV:=Zo.put hV hB4;clear hB4;generalize u3.heap.size=g4 at*;clear bM;have bP:=hV.boxes.2.2.1;go_upto_region 5 with(first|(refine wpList_load_row rfl _ _ rfl _ rfl _ _ (0,0) _ bP underlying79 rfl (Ji sP) ?_)|((with_reducible refine(K4.out _ (HG.out.ex hV.ex)).mono ?_);rintro e u4 ⟨rfl,hx⟩;replace hV:=Zo.after (W:=w) hx;clear hx)|(refine wpList_store_row rfl _ _ _ rfl _ _ rfl rfl _ _ (Box.new u4 _ _) (Yy sB) (by rw[sB];rfl) oB ?_));have hB5:=(Box.new u4 Od 85).setRow bc;replace hV:=hV.grow (((Ex.refl u4).alloc (.cells Od 85)).setRow (Nat.le_refl _) bc);generalize (u4.alloc (.cells Od 85)).setRow u4.heap.size bc=V5 at*;replace hV:=Zo.put hV hB5;clear hB5;generalize u4.heap.size=g5 at*;clear bP;have bB:=hV.boxes.1;have bA:=hV.boxes.2.1;go_upto_region 6 with(first|(refine wpList_load_row rfl _ _ rfl _ rfl _ _ (0,0) _ bA underlying85 rfl (Yy sA) ?_)|(refine wpList_load_row rfl _ _ rfl _ rfl _ _ (0,0) _ bB underlying85 rfl (Yy sB) ?_)|((with_reducible refine(K5.out _).mono ?_);rintro e u5 ⟨rfl,hx⟩;replace hV:=Zo.after (W:=w) hx;clear hx)|(refine wpList_store_row rfl _ _ _ rfl _ _ rfl rfl _ _ (Box.new u5 _ _) (Yy sC) (by rw[sC];rfl) oC ?_));have hB6:=(Box.new u5 Od 85).setRow cc;replace hV:=hV.grow (((Ex.refl u5).alloc (.cells Od 85)).setRow (Nat.le_refl _) cc);generalize (u5.alloc (.cells Od 85)).setRow u5.heap.size cc=V6 at*;replace hV:=Zo.put hV hB6;clear hB6;generalize u5.heap.size=g6 at*;clear bA bB;have bR:=hV.boxes.2.2.2.2.2.1;have bC:=hV.boxes.1;have hE:=hV.ex;clear hV;rcases kp with _|_
 ·go_wp2_with (refine wpList_store_row rfl _ _ _ rfl _ _ rfl rfl _ _ bR (Wa rfl) rfl Ic ?_);exact Zu (Ze results14 _ _ _ _ _ (0,0) _ rfl (bR.setRow _) underlying31 rfl (Wa rfl)) rfl ⟨by rw[HQ.out];simp;rfl,hE.setRow (by omega) _⟩
 rcases kf with _|_
 ·go_wp2_with (refine wpList_store_row rfl _ _ _ rfl _ _ rfl rfl _ _ bR (Wa rfl) rfl Ic ?_);exact Zu (Ze results14 _ _ _ _ _ (0,0) _ rfl (bR.setRow _) underlying31 rfl (Wa rfl)) rfl ⟨by rw[HQ.out];simp;rfl,hE.setRow (by omega) _⟩
 rcases ka with _|_
 ·go_wp2_with (refine wpList_store_row rfl _ _ _ rfl _ _ rfl rfl _ _ bR (Wa rfl) rfl Ic ?_);exact Zu (Ze results14 _ _ _ _ _ (0,0) _ rfl (bR.setRow _) underlying31 rfl (Wa rfl)) rfl ⟨by rw[HQ.out];simp;rfl,hE.setRow (by omega) _⟩
 rcases kb with _|_
 ·go_wp2_with (refine wpList_store_row rfl _ _ _ rfl _ _ rfl rfl _ _ bR (Wa rfl) rfl Ic ?_);exact Zu (Ze results14 _ _ _ _ _ (0,0) _ rfl (bR.setRow _) underlying31 rfl (Wa rfl)) rfl ⟨by rw[HQ.out];simp;rfl,hE.setRow (by omega) _⟩
 rcases kc with _|_
 ·go_wp2_with (refine wpList_store_row rfl _ _ _ rfl _ _ rfl rfl _ _ bR (Wa rfl) rfl Ic ?_);exact Zu (Ze results14 _ _ _ _ _ (0,0) _ rfl (bR.setRow _) underlying31 rfl (Wa rfl)) rfl ⟨by rw[HQ.out];simp;rfl,hE.setRow (by omega) _⟩
 have sT1:tc.size=12:=by rw[←Array.length_toList];exact sT
 have hg:=HRG.out _ _ _ bC;go_wp2_with (first|(refine wpList_load_mid rfl _ _ rfl g6 0 rfl tc.toList _ hg underlying31 rfl (Zcw sT) ?_)|(refine wpList_store_row rfl _ _ _ rfl _ _ rfl rfl _ _ bR (Wa sT1) (by rw[sT1];rfl) oT ?_));exact Zu (Ze results14 _ _ _ _ _ (0,0) _ rfl (bR.setRow _) underlying31 rfl (Wa sT1)) rfl ⟨by rw[HQ.out,htc.out];rfl,hE.setRow (by omega) _⟩
end
section
open Go.RowKit

attribute [local go_sem] Zg Zf
theorem Zsg(bs:Nat)(bad:Bool)(t:List Fr)(ht:t.length=4)(v:M4)(w:World)(hb:Box w bs 92 #[bad]):
  Calls prog 58 #[.pointer (some ⟨bs,0,none⟩), .agg (Zm t), .agg (Zm v.l)] w (Vn bs bad w (Ur t 0 v)):=by
 have HTA:=Zz (fun k (hk:k<4)=>Po t k (by omega));have HVA:=Zz (fun k (hk:k<4)=>Po v.l k (by simp[M4.l];omega));have HR3:=Zz (Bk t 0 v);have hr0:Re t 0 v 0=Zk (tg t 0) (tg v.l 0):=rfl;have HRS:Hid (∀k,Re t 0 v (k+1)=((Yo (Re t 0 v k).1 (Zk (tg t (k+1)) (tg v.l (k+1))).1).1,(Re t 0 v k).2&&(Zk (tg t (k+1)) (tg v.l (k+1))).2&&(Yo (Re t 0 v k).1 (Zk (tg t (k+1)) (tg v.l (k+1))).1).2)):=Zz (fun k=>by rw[Re,Nat.mul_zero,Nat.zero_add]);obtain⟨f0,f1,f2⟩:=HTA.out 0 (by omega);obtain⟨g0,g1,g2⟩:=HVA.out 0 (by omega);simp only[Nat.mul_zero,Nat.zero_add] at f0 f1 f2 g0 g1 g2;generalize Zm t=tc at*;generalize Zm v.l=vc at*;generalize tg t 0=x at f0 f1 f2 hr0;generalize tg v.l 0=y at g0 g1 g2 hr0;obtain⟨x1,x2,x3⟩:=x;obtain⟨y1,y2,y3⟩:=y;simp only at f0 f1 f2 g0 g1 g2;rcases h0:Zk ⟨x1,x2,x3⟩ ⟨y1,y2,y3⟩ with⟨⟨a1,a2,a3⟩,ka⟩;have HA0:Hid (Re t 0 v 0=(⟨a1,a2,a3⟩,ka)):=Zz (hr0.trans h0);have H0:=Zz h0;clear h0 hr0;unfold Vn;have hS:=Zl.init hb;have hbs:=hb.lt;go_in;go_upto_region 1 with fail;have hS1:Zl w (((w.alloc (.cells tc 31)).alloc (.cells vc 31)).alloc (.cells Oa 30)) bs bad ((w.heap.size+1+1,30,Oa)::(w.heap.size+1,31,vc)::(w.heap.size,31,tc)::[]):=by
  have q:=Zl.alloc (h:=Zl.alloc (h:=Zl.alloc (h:=hS) (cs:=tc) (t:=31)) (cs:=vc) (t:=31)) (cs:=Oa) (t:=30);simpa only[Zy] using q
 clear hS;generalize ((w.alloc (.cells tc 31)).alloc (.cells vc 31)).alloc (.cells Oa 30)=W0 at*;have hC:=hS1.rd;simp only[Zr,Zq] at hC;go_upto_region 2 with((with_reducible refine(Ye hS1 H0.out).mono ?_);rintro e w1 ⟨rfl,hN, -⟩;have hC:=hN.rd;simp only[Zr,Zq] at hC);have hgw:w.heap.size≤w1.heap.size:=hN.sm.size;have z1:=hN.boxes.1.lt;have z2:=hN.boxes.2.1.lt;have z3:=hN.boxes.2.2.1.lt;have hne:∀x∈([(w.heap.size+1+1,30,Oa),(w.heap.size+1,31,vc),(w.heap.size,31,tc)]:Xx),x.1≠w1.heap.size:=by
  intro x hx;simp only[List.mem_cons,List.not_mem_nil,or_false] at hx;rcases hx with rfl|rfl|rfl
  ·exact Nat.ne_of_lt z1
  ·exact Nat.ne_of_lt z2
  ·exact Nat.ne_of_lt z3
 have hT:Zl w (w1.alloc (.cells #[a1,a2,a3] 30)) bs (bad|| !ka) ((w1.heap.size,30,#[a1,a2,a3])::[(w.heap.size+1+1,30,Oa),(w.heap.size+1,31,vc),(w.heap.size,31,tc)]):=Zl.alloc (h:=hN);have HNE:=Zz hne;clear hS1 hN hC z1 z2 z3 hne;generalize hgg:w1.heap.size=ga at*;clear f0 f1 f2 g0 g1 g2;go_wp2_with fail;go_loopw [8] (fun kk wy=>∃k:Nat,kk= .int .i64 k∧1≤k∧k≤4∧∃a1 a2 a3 ka,Hid (Re t 0 v (k-1)=(⟨a1,a2,a3⟩,ka))∧Hid (Zl w wy bs (bad|| !ka) ((ga,30,#[a1,a2,a3])::[(w.heap.size+1+1,30,Oa),(w.heap.size+1,31,vc),(w.heap.size,31,tc)]))) (fun kk _=>5-(intOf kk).toNat)
 case atStart=>exact⟨1,rfl,by omega,by omega,a1,a2,a3,ka,HA0,Zz hT⟩
 case round=>
  clear hT HA0 H0;obtain⟨k,rfl,hk1,hk4,b1,b2,b3,kb,HB,HS⟩:=hrel;by_cases hk:k<4
  ·have hkI:(k:Int)<4:=by omega
   have hwk:=wr1 k (by omega);obtain⟨f0,f1,f2⟩:=HTA.out k (by omega);obtain⟨g3,g4,g5⟩:=HVA.out k (by omega);have HK:=Zz (HRS.out (k-1));have hkk:k-1+1=k:=by omega
   rw[hkk] at HK;rw[HB.out] at HK;rw[Nat.mul_comm 3 k] at f0 f1 f2 g3 g4 g5;generalize tg t k=x at f0 f1 f2 HK;generalize tg v.l k=y at g3 g4 g5 HK;obtain⟨x1,x2,x3⟩:=x;obtain⟨y1,y2,y3⟩:=y;simp only at f0 f1 f2 g3 g4 g5 HK;rcases h1:Zk ⟨x1,x2,x3⟩ ⟨y1,y2,y3⟩ with⟨⟨p1,p2,p3⟩,kp⟩;rw[h1] at HK;simp only at HK;rcases h2:Yo ⟨b1,b2,b3⟩ ⟨p1,p2,p3⟩ with⟨⟨s1,s2,s3⟩,ks⟩;rw[h2] at HK;simp only at HK;have H1:=Zz h1;have H2:=Zz h2;clear h1 h2 hkk;have hS:=HS.out;clear HS;go_upto_region 5 with fail;refine Ux (fun b w2=>Zl w w2 bs b _) 10 _ (by kernel_rfl) (hS.drewW) (by exact fun _ _ _ _ _ h=>h) ?_;iterate 9 (apply Zp;rfl;intro b u B Q q;have hS:=B;have hC:=hS.rd;simp only[Zr,Zq] at hC;go_wp2;exact q _ trivial B;exact⟨_,rfl⟩)
   (apply Zi;rfl;intro b u B Q q;go_wp2_with ((with_reducible refine(Ye B H1.out).mono ?_);rintro e wn ⟨rfl,hN,hM⟩);exact q _ trivial hN;exact⟨_,rfl⟩);refine Zn ?_;intro wz2 hz2;clear hS;have hC:=hz2.rd;simp only[Zr,Zq] at hC;go_wp2_with ((with_reducible refine(Rj hz2 H2.out).mono ?_);rintro e wm ⟨rfl,hN, -⟩;have hC:=hN.rd;simp only[Zr,Zq] at hC);have hS5:=Zl.set3 hN hgw HNE.out (s1) (s2) (s3);have ef:(bad|| !kb|| !kp|| !ks)=(bad|| !(kb&&kp&&ks)):=by simp[Bool.or_assoc]
   rw[ef] at hS5;have HS5:=Zz hS5;clear hS5 hN hC ef;go_roundw
   case rel=>exact⟨k+1,by go_num,by omega,by omega,s1,s2,s3,(kb&&kp&&ks),HK,HS5⟩
   case measure=>simp[intOf]<;>omega
  ·obtain rfl:k=4:=by omega
   have hS:=HS.out;have hC:=hS.rd;simp only[Zr,Zq] at hC;have HTR:Hid (Ur t 0 v=(⟨b1,b2,b3⟩,kb)):=Zz (HR3.out.symm.trans HB.out);have hkI:¬((4:Nat):Int)<4:=by omega
   clear HS HB hk hk1 hk4 HRS;go_wp2_with fail;have hm:=hS.sm;have hs:=hS.sum;refine Zu (v:= .agg #[b1,b2,b3]) ?_ rfl ⟨by rw[HTR.out];rfl,?_,?_⟩
   ·simp[results,results58,go_sem,hC]
   ·repeat' (first|exact hm|refine Sm.setNew ?_ (by simp<;>omega) _)
   ·rw[HTR.out];repeat' (first|exact hs|refine Box.far ?_ (by simp<;>omega) _)
end
section
def Zzn(n den:Int):Fr×Bool:=flow (2*n) 0 den
theorem Znk{re im den:Int}(hk:(flow re im den).2=true)(h:1≤den):1≤Wo re im den∧Wo re im den*(flow re im den).1.re=re∧Wo re im den*(flow re im den).1.den=den:=by
 have hg:=Km re im den h;have hd:∀x:Int,((Wo re im den).natAbs ∣ x.natAbs)→Wo re im den*x.tdiv (Wo re im den)=x:=fun x hx=>Int.mul_tdiv_cancel' (Int.natAbs_dvd_natAbs.1 hx)
 have e:(Wo re im den).natAbs=Nat.gcd (Nat.gcd re.natAbs im.natAbs) den.natAbs:=by rw[Qe,Int.natAbs_natCast]
 have d1:=hd re (by rw[e];exact Nat.dvd_trans (Nat.gcd_dvd_left _ _) (Nat.gcd_dvd_left _ _));have d3:=hd den (by rw[e];exact Nat.gcd_dvd_right _ _);refine⟨by omega,?_,?_⟩
 ·unfold flow at hk ⊢;split
  ·exact d1
  ·rename_i h2;rw[if_neg h2] at hk;cases hk
 ·unfold flow at hk ⊢;split
  ·exact d3
  ·rename_i h2;rw[if_neg h2] at hk;cases hk
theorem Zrb{c:Fr}(hc:c.valid=true)(n:Int)(hn: -2000000000≤n∧n≤2000000000):Zk ⟨2,0,1⟩ (flow n 0 c.den).1=Zzn n c.den∧(flow n 0 c.den).2=true:=by
 have hv:=Fr.valid_out hc;have hk:(flow n 0 c.den).2=true:=Hu (by omega) (by omega) (by omega);have h0:=Nk (re:=n) (im:=0) (den:=c.den) (by omega) hk;have him:(flow n 0 c.den).1.im=0:=Mp;obtain⟨g1,g2,g3⟩:=Znk hk (by omega);refine⟨?_,hk⟩;unfold Zzn;generalize Wo n 0 c.den=g at*;generalize (flow n 0 c.den).1=f at*;obtain⟨f1,f2,f3⟩:=f;simp only at him g2 g3;subst him;rw[Iy (by decide) h0,←Zqc g (2*f1-0*0) _ _ g1];rw[show g*(2*f1-0*0)=2*n by rw[←g2];rw[Int.mul_sub,Int.mul_left_comm];simp,show g*(1*f3)=c.den by rw[Int.one_mul,g3]];simp
theorem Zck(x y:Fr):sof x y=Nn (Yo (Zc x).1 (Zc y).1) (Xi (Zc x).1 (Zc y).1) (Zzn (Zk x (Yq y).1).1.re (Zk x (Yq y).1).1.den) (Zzn (Zk x (Yq y).1).1.im (Zk x (Yq y).1).1.den)
  ((Zc x).2&&(Zc y).2&&(Yq y).2&&(Zk x (Yq y).1).2):=by
 unfold sof;rcases h1:(Zc x).2 with _|_
 ·simp[Nn]
 ·have hx:x.valid=true:=by
   unfold Zc at h1;split at h1
   ·assumption
   ·cases h1
  rcases h2:(Zc y).2 with _|_
  ·simp[Nn]
  ·have hy:y.valid=true:=by
    unfold Zc at h2;split at h2
    ·assumption
    ·cases h2
   rw[hx,hy];rcases h3:(Zk x (Yq y).1).2 with _|_
   ·simp[Nn]
   ·have hc:=Pa h3;generalize (Zk x (Yq y).1).1=c at*;have hv:=Fr.valid_out hc;have e1:Vh c=flow c.re 0 c.den:=if_pos hc;have e2:Vg c=flow c.im 0 c.den:=if_pos hc;obtain⟨r1,r2⟩:=Zrb hc c.re (by omega);obtain⟨i1,i2⟩:=Zrb hc c.im (by omega);rw[e1,e2,r1,r2,i1,i2];simp
end
end Go.Proofs.YtiommfmaleeibaaGreatDoor
