/-
  Proved:what functions compute,part 22. No condition.
-/
import Derived.Test.YtiommfmaleeibaaGreatDoorB20
import Derived.Test.YtiommfmaleeibaaGreatDoorB21
set_option linter.unusedSimpArgs false
set_option linter.unusedVariables false
set_option maxRecDepth 20000
set_option maxHeartbeats 8000000
namespace Go.Proofs.YtiommfmaleeibaaGreatDoor
open Go.Proofs.Tryz
section
open Go.RowKit

section
variable {σ:Type} (f:UInt8×List Int→σ→σ×Bool) (z:σ)
def gOf(l:Ub)(v:σ)(ok:Bool):σ×Bool:=match Ys l with
 |some ps=>if ok then Bn f z ps v else (z,false)
 |none=>(z,false)
theorem Ok{l:Ub}{qs:List Pc}{ok:Bool}(h:Ys l=if ok then some (qs.map Pc.p) else none)(v:σ)(o:Bool):gOf f z l v o=Um f z (qs.map Pc.p) 0 v (ok&&o):=by
 unfold gOf;rw[h];cases ok with
 |false=>rfl
 |true=>rfl
theorem Md{qs:List Pc}{k:Nat}(hk:k<qs.length)(v:σ)(o:Bool){x:σ}{u:Bool}(h:f qs[k].p v=(x,u)):Um f z (qs.map Pc.p) k v o=Um f z (qs.map Pc.p) (k+1) x (o&&u):=by
 have e:(qs.map Pc.p)[k]'(by simpa using hk)=qs[k].p:=by simp
 exact Zpa f z (ps:=qs.map Pc.p) (i:=k) (by simpa using hk) v o (by rw[e];exact h)
theorem Qn{qs:List Pc}(v:σ)(o:Bool):Um f z (qs.map Pc.p) qs.length v o=if o then (v,true) else (z,false):=by
 have:=Zkh f z (qs.map Pc.p) v o
 rwa[List.length_map] at this
end
theorem Zsz(l:Ub):Sj l=gOf Mg M4.none l Ko true:=by
 unfold Sj gOf;cases Ys l<;>rfl
theorem Zsy(l:Ub)(x y:Fr):Yz l x y=gOf Nc (Fr.none,Fr.none) l (x,y) (x.valid&&y.valid):=by
 unfold Yz gOf;cases Ys l<;>rfl
def BnW(cells:List Pc→List Value)(w:World)(l:Ub):Ending→World→Prop:=fun e w'=>
 ∃(qs:List Pc) (A:Option Addr) (cap:Nat) (ok:Bool),e= .returned (.tuple #[.slice A qs.length cap,ok])∧qs.length≤12∧Slc w' A (cells qs)∧Pcs w' qs∧Ex w w'∧
  Hid (Ys l=if ok then some (qs.map Pc.p) else none)∧Hid (∀q∈qs,Wx q.k q.ns=true)
theorem Pp.w{w:World}{l:Ub}{f:FuncId}{args:Av}(h:Calls prog f args w (Pp Xp w l)):Calls prog f args w (BnW Xp w l):=by
 refine h.mono ?_;rintro e w' (⟨qs,g,cap,hb,rfl,hs, -,hp,hx⟩|⟨hb,rfl,hx⟩)
 ·exact⟨qs,some ⟨g,0,none⟩,cap,true,rfl,by simpa using (Vx hb).2.2,Own.slc hs,hp,hx,Zz hb,Zz fun q hq=>Tn hb q.p (List.mem_map_of_mem hq)⟩
 ·exact⟨[],none,0,false,rfl,by simp,Slc.nil _ _,Pcs.nil _,hx,Zz hb,Zz fun q hq=>by cases hq⟩
def Zax(cs:Av):Prop:=∀(i:Nat) (v:Value),cs[i]? =some v→∃n:Int,v= .int .i64 n
theorem Sz(l:List Fr):Zax (Zm l):=by
 intro i v h;have h2:v∈l.flatMap Pd:=by
  have:=Array.mem_of_getElem? h
  simpa [Zm] using this
 obtain⟨x, -,hx⟩:=List.mem_flatMap.1 h2;simp only[Pd,List.mem_cons,List.not_mem_nil,or_false] at hx;rcases hx with rfl|rfl|rfl<;>exact⟨_,rfl⟩
def Zlx(cells:List Value):Prop:=∀v:Value,cells[0]? =some v→∃n:Int,v= .int .u8 n
theorem Na(qs:List Pc):Zlx (Xp qs):=by
 intro v h;cases qs with
 |nil=>simp[Xp] at h
 |cons q t=>simp[Xp,Pc.ci] at h;exact⟨_,h.symm⟩
theorem Mz(qs:List Pc):Zlx (Vr qs):=by
 intro v h;cases qs with
 |nil=>simp[Vr] at h
 |cons q t=>simp[Vr,Pc.cs] at h;exact⟨_,h.symm⟩
theorem Kt{w:World}{g b i:Nat}{x:Av}(h:b≠g):(w.setRow g x).cell? ⟨b,i,none⟩=w.cell? ⟨b,i,none⟩:=by
 unfold World.cell?;simp only[setRow_other w g b x h]
theorem Pi(v:M4):(Zm v.l).size=12:=rfl
structure BM(w wr:World)(T:TypeId)(nr na:Nat)(z:Av)(A:Option Addr)(cells:List Value)(qs:List Pc)(vc:Av):Prop where
 sees:Zo w wr [(nr,T,z),(na,T,vc)]
 slc:Slc wr A cells
 pcs:Pcs wr qs
section
variable {w wr w2:World} {T:TypeId} {nr na:Nat} {z:Av} {A:Option Addr} {cells:List Value} {qs:List Pc} {vc:Av}
theorem BM.ex(h:BM w wr T nr na z A cells qs vc)(hx:Ex wr w2):BM w w2 T nr na z A cells qs vc:=⟨Zo.after (h:=h.sees) hx,h.slc.ex hx,h.pcs.ex hx⟩
theorem BM.store(h:BM w wr T nr na z A cells qs vc)(hlo:w.heap.size≤na)(hne:nr≠na)(hT:T≠3)(hv:Zax vc)(hc:Zlx cells)(x:Av):BM w (wr.setRow na x) T nr na z A cells qs x:=by
 have hb:=h.sees.boxes.2.1;refine⟨⟨h.sees.ex.setRow hlo x,h.sees.boxes.1.setRow_far hne x,hb.setRow x,trivial⟩,?_,fun q hq=>⟨(h.pcs q hq).1.setRow_far ?_ x,(h.pcs q hq).2⟩⟩
 ·intro hp;obtain⟨b,off,rfl,hk⟩:=h.slc hp;refine⟨b,off,rfl,fun k hlt=>?_⟩;have hne:b≠na:=by
   intro e;subst e;have h0:=hk 0 hp;rw[Nat.add_zero,hb.cell,List.getElem?_eq_getElem hp] at h0;obtain⟨n,hn⟩:=hv _ _ h0;obtain⟨m,hm⟩:=hc _ (List.getElem?_eq_getElem hp);rw[hn] at hm;injection hm with hm;cases hm
  rw[Kt hne];exact hk k hlt
 ·intro e;have h1:=(h.pcs q hq).1;rw[e] at h1;unfold Box at h1 hb;rw[hb] at h1;simp only[Option.some.injEq,Obj.cells.injEq] at h1;exact hT h1.2.1
end
theorem So{cs:Av}(h:cs.size=12):(Tryz.prog.info? 79).map (·.size)=some cs.size:=by rw[h];kernel_rfl
theorem My{cs:Av}(h:cs.size=6):(Tryz.prog.info? 39).map (·.size)=some cs.size:=by rw[h];kernel_rfl
end
section
open Go.RowKit

attribute [local go_sem] Zg Zf
theorem Zwl(m:M4)(w:World)[hG:Xz w]:Calls prog 80 #[m.v] w (fun e w'=>e= .returned (.bool (Jr m))∧Ex w w'):=by
 have k1:=fun w=>Pz m w
 rcases h1:Tx m with⟨b,okb⟩;have k2:=fun w=>Tp m b w
 rcases h2:Yi m b with⟨p,okp⟩;have hq:=fun w=>Zbu p Ko w
 have hr:Jr m=(okp&&decide (p=Ko)):=by
  unfold Jr;rw[h1];simp only;rw[h2]
 rw[hr];rw[h1] at k1;rw[h2] at k2;clear hr h1 h2;generalize decide (p=Ko)=d at hq ⊢;obtain⟨⟨m1,m2,m3⟩,⟨m4,m5,m6⟩,⟨m7,m8,m9⟩,⟨n1,n2,n3⟩⟩:=m;obtain⟨⟨b1,b2,b3⟩,⟨b4,b5,b6⟩,⟨b7,b8,b9⟩,⟨c1,c2,c3⟩⟩:=b;obtain⟨⟨p1,p2,p3⟩,⟨p4,p5,p6⟩,⟨p7,p8,p9⟩,⟨q1,q2,q3⟩⟩:=p;simp only[m4v,M4.v,Ko,Fr.one,Fr.nul] at k1 k2 hq ⊢;have K1:=Zz k1;have K2:=Zz k2;clear k1 k2;obtain⟨hS,hC⟩:=s0 w;have hg:=hG.rd;rcases okp with _|_
 ·clear hq;go_in;go_wp2_with ((with_reducible apply Zo.seeG w;first|exact K1.out _|exact K2.out _);clear hS hC hG;intro wn hS hC hG;simp only[Zr,Zq,Zy] at hC;replace hg:=hG.rd);exact Yp (by simp[results,results80,go_sem,hC]) rfl
 ·go_in;go_wp2_with (first|(simp only[hq])|(first|((with_reducible refine(K1.out _).mono ?_);rintro e wn ⟨rfl,hx⟩;replace hS:=Zo.after (W:=w) hx;replace hG:=Xz.after hx;clear hx;replace hC:=hS.rd;simp only[Zr,Zq,Zy] at hC;replace hg:=hG.rd)|((with_reducible refine(K2.out _).mono ?_);rintro e wn ⟨rfl,hx⟩;replace hS:=Zo.after (W:=w) hx;replace hG:=Xz.after hx;clear hx;replace hC:=hS.rd;simp only[Zr,Zq,Zy] at hC;replace hg:=hG.rd)));exact Yp (by simp[results,results80,go_sem,hC]) rfl
theorem Zwk(l:Ub)(hl:l.length≤1048576)(w:World)(hm:Wn w):Calls prog 30 #[(Bs l)] w fun e w'=>e= .returned (.int .i64 (Pw l))∧Ex w w':=by
 have KB:=Zz (Pp.w (Ts l hl w hm));obtain⟨n,HN⟩:=nm (Pw l);rw[←HN.out];generalize Bs l=S at*;clear hm hl;go_in;go_wp2_with fail;refine KB.out.mono ?_;rintro e w1 ⟨qs,A,cap,ok0,rfl,hq12,hsl,hps,hx,HBR,HPV⟩;rcases ok0 with _|_
 ·have hn:n= -1:=by rw[HN.out];unfold Pw;rw[HBR.out];rfl
  subst hn;clear HN HBR HPV hsl hps KB;go_wp2;go_ret;exact⟨rfl,hx⟩
 ·have hn:n=(qs.length:Nat):=by rw[HN.out];unfold Pw;rw[HBR.out];simp
  subst hn;clear HN HBR HPV hsl hps KB;go_wp2;go_ret;exact⟨rfl,hx⟩
theorem Zsx(l:Ub)(hl:l.length≤1048576)(w:World)(hm:Wn w):Calls prog 66 #[(Bs l)] w fun e w'=>e= .returned (.bool (Ys l).isSome)∧Ex w w':=by
 have KB:=Zz (Pp.w (Ts l hl w hm));obtain⟨n,HN⟩:=nm ((Ys l).isSome);rw[←HN.out];generalize Bs l=S at*;clear hm hl;go_in;go_wp2_with fail;refine KB.out.mono ?_;rintro e w1 ⟨qs,A,cap,ok0,rfl,hq12,hsl,hps,hx,HBR,HPV⟩;have hn:n=ok0:=by rw[HN.out,HBR.out];cases ok0<;>rfl
 subst hn;clear HN HBR HPV hsl hps KB;go_wp2;go_ret;exact⟨rfl,hx⟩
end
section
open Go.RowKit

attribute [local go_sem] Zg Zf
theorem Zgs(k:Int)(g n cap:Nat)(cur:Av)(S:ByteArray)(a b:Int)(hn:2≤n)(ha: -1000000≤a∧a≤1000000)(hb:1≤b∧b≤1000000)(w:World)(hbox:Box w g 3 cur)(c0:cur[0]? =some (.int .i64 a))(c1:cur[1]? =some (.int .i64 b)):Calls prog 197 #[.agg #[.int .u8 k, .slice (some ⟨g,0,none⟩) n cap,S]] w (fun e w'=>e= .returned (flow a 0 b).1.v∧Ex w w'):=by
 have k0:=fun w=>Uv a 0 b w (by omega) (by omega) (by omega)
 rcases hf:flow a 0 b with⟨⟨f1,f2,f3⟩,ok⟩;rw[hf] at k0;have k1:∀w,Calls prog 121 #[a,oo,b] w _:=fun w=>Yc.spell (k0 w)
 clear k0;have KF:=Zz k1;clear k1;have hR:Zo w w [(g,3,cur)]:=⟨Ex.refl w,hbox,trivial⟩
 have n1:(0:Int)<n:=by omega
 have n2:(1:Int)<n:=by omega
 clear hbox ha hb;go_in;go_upto_region 1 with fail;have hS:Zo w ((w.alloc (.cells #[.int .u8 k, .slice (some ⟨g,0,none⟩) n cap,S] 169)).alloc (.cells Oa 30)) _:=inferInstance;clear hR;simp only[Zy] at hS;generalize (w.alloc (.cells #[.int .u8 k, .slice (some ⟨g,0,none⟩) n cap,S] 169)).alloc (.cells Oa 30)=W0 at*;have hS0:=hS;refine Rv hS0 12 1 30 3 15 Oa #[f1,f2,f3] (by kernel_rfl) (by decide) ?_;iterate 8 (apply Zp;rfl;intro b u B Q q;have hC:=B.sees.rd;simp only[Zr,Zq] at hC;go_wp2;exact q _ (Ex.refl _) B;exact⟨_,rfl⟩)
 (apply Zp;rfl;intro b u B Q q;go_wp2_with (with_reducible refine Yw (KF.out _) fun wn hx=>?_);exact q _ hx (B.go hx);exact⟨_,rfl⟩);iterate 3 (apply Zp;rfl;intro b u B Q q;go_wp2;exact q _ (Ex.refl _) B;exact⟨_,rfl⟩)
 refine Zn ⟨⟨_,rfl,Yt⟩,⟨_,rfl,Wy Ym rfl (by kernel_rfl)⟩,show(3:Nat)<18 by decide,fun g0 wz hg0 hS=>?_⟩;simp only[Act.put,Zx,Zw,Zv,Nat.reduceAdd,List.drop_succ_cons,List.drop_zero];clear hS0;have hC:=hS.rd;simp only[Zr,Zq] at hC;have hE:=hS.ex;go_wp2_with fail;have:=Exi.mk hE
 exact Yp (v:= .agg #[f1,f2,f3]) (by simp[results,results197,go_sem,hC]) rfl
theorem Zgr(k:Int)(g n cap:Nat)(cur:Av)(a b:Int)(hn:2≤n)(ha: -1000000≤a∧a≤1000000)(hb:1≤b∧b≤1000000)(w:World)(hbox:Box w g 3 cur)(c0:cur[0]? =some (.int .i64 a))(c1:cur[1]? =some (.int .i64 b)):Calls prog 251 #[.agg #[.int .u8 k, .slice (some ⟨g,0,none⟩) n cap]] w (fun e w'=>e= .returned (flow a 0 b).1.v∧Ex w w'):=by
 have k1:=fun w=>Qs a 0 b w (by omega) (by omega) (by omega)
 rcases hf:flow a 0 b with⟨⟨f1,f2,f3⟩,ok⟩;rw[hf] at k1;simp only[frv,Fr.v] at k1;have KF:=Zz k1;clear k1;have hR:Zo w w [(g,3,cur)]:=⟨Ex.refl w,hbox,trivial⟩
 have n1:(0:Int)<n:=by omega
 have n2:(1:Int)<n:=by omega
 clear hbox ha hb;go_in;go_upto_region 1 with fail;have hS:Zo w ((w.alloc (.cells #[.int .u8 k, .slice (some ⟨g,0,none⟩) n cap] 193)).alloc (.cells Oa 30)) _:=inferInstance;clear hR;simp only[Zy] at hS;generalize (w.alloc (.cells #[.int .u8 k, .slice (some ⟨g,0,none⟩) n cap] 193)).alloc (.cells Oa 30)=W0 at*;have hS0:=hS;refine Rv hS0 12 1 30 3 15 Oa #[f1,f2,f3] (by kernel_rfl) (by decide) ?_;iterate 8 (apply Zp;rfl;intro b u B Q q;have hC:=B.sees.rd;simp only[Zr,Zq] at hC;go_wp2;exact q _ (Ex.refl _) B;exact⟨_,rfl⟩)
 (apply Zp;rfl;intro b u B Q q;go_wp2_with (with_reducible refine Yw (KF.out _) fun wn hx=>?_);exact q _ hx (B.go hx);exact⟨_,rfl⟩);iterate 3 (apply Zp;rfl;intro b u B Q q;go_wp2;exact q _ (Ex.refl _) B;exact⟨_,rfl⟩)
 refine Zn ⟨⟨_,rfl,Yt⟩,⟨_,rfl,Wy Ym rfl (by kernel_rfl)⟩,show(3:Nat)<18 by decide,fun g0 wz hg0 hS=>?_⟩;simp only[Act.put,Zx,Zw,Zv,Nat.reduceAdd,List.drop_succ_cons,List.drop_zero];clear hS0;have hC:=hS.rd;simp only[Zr,Zq] at hC;have hE:=hS.ex;go_wp2_with fail;have:=Exi.mk hE
 exact Yp (v:= .agg #[f1,f2,f3]) (by simp[results,results251,go_sem,hC]) rfl
end
section
open Go.RowKit

attribute [local go_sem] Zg Zf
theorem Zgq(g n cap:Nat)(cur:Av)(S:ByteArray)(a b:Int)(hn:2≤n)(w:World)[hG:Xz w](hbox:Box w g 3 cur)(c0:cur[0]? =some (.int .i64 a))(c1:cur[1]? =some (.int .i64 b)):Calls prog 140 #[.agg #[.int .u8 114, .slice (some ⟨g,0,none⟩) n cap,S]] w (fun e w'=>e= .returned (m4v (Xu a b))∧Ex w w'):=by
 have k1:=fun w=>Ru a b w
 rcases hf:Xu a b with⟨⟨⟨x1,x2,x3⟩,⟨x4,x5,x6⟩,⟨x7,x8,x9⟩,⟨y1,y2,y3⟩⟩,ok⟩;rw[hf] at k1;simp only[m4v,M4.v] at k1;have KF:=Zz k1;clear k1;have hR:Zo w w [(g,3,cur)]:=⟨Ex.refl w,hbox,trivial⟩
 have n1:(0:Int)<n:=by omega
 have n2:(1:Int)<n:=by omega
 clear hbox;go_in;go_upto_region 3 with fail;have hS:Zo w ((w.alloc (.cells #[.int .u8 114, .slice (some ⟨g,0,none⟩) n cap,S] 169)).alloc (.cells Oc 79)) _:=inferInstance;clear hR;simp only[Zy] at hS;generalize (w.alloc (.cells #[.int .u8 114, .slice (some ⟨g,0,none⟩) n cap,S] 169)).alloc (.cells Oc 79)=W0 at*;refine Ux (fun _ w2=>Zo w w2 [(w.heap.size+1,79,Oc),(w.heap.size,169,#[.int .u8 114, .slice (some ⟨g,0,none⟩) n cap,S]),(g,3,cur)]) 11 false (by kernel_rfl) (hS.drewW) (by exact fun _ _ _ _ _ h=>h) ?_;iterate 8 (apply Zp;rfl;intro b u B Q q;have hS:=B;have hC:=hS.rd;simp only[Zr,Zq] at hC;go_wp2;exact q _ trivial B;exact⟨_,rfl⟩)
 (apply Zp;rfl;intro b u B Q q;go_wp2_with (with_reducible refine Yw (KF.out _) fun wn hx=>?_);exact q _ trivial (B.go hx);exact⟨_,rfl⟩);iterate 2 (apply Zp;rfl;intro b u B Q q;go_wp2;exact q _ trivial B;exact⟨_,rfl⟩)
 refine Zn ?_;intro wz hz;clear hS;have hS:=hz;have hC:=hS.rd;simp only[Zr,Zq] at hC;have hE:=hS.ex;go_wp2_with fail;have:=Exi.mk hE
 exact Yp (v:= .tuple #[.agg #[x1,x2,x3,x4,x5,x6,x7,x8,x9,y1,y2,y3],ok]) (by simp[results,results140,go_sem,hC]) rfl
theorem Zgp(g n cap:Nat)(cur:Av)(a b:Int)(hn:2≤n)(w:World)(hbox:Box w g 3 cur)(c0:cur[0]? =some (.int .i64 a))(c1:cur[1]? =some (.int .i64 b)):Calls prog 212 #[.agg #[.int .u8 114, .slice (some ⟨g,0,none⟩) n cap]] w (fun e w'=>e= .returned (m4v (Xu a b))∧Ex w w'):=by
 have k1:=fun w=>Em a b w
 rcases hf:Xu a b with⟨⟨⟨x1,x2,x3⟩,⟨x4,x5,x6⟩,⟨x7,x8,x9⟩,⟨y1,y2,y3⟩⟩,ok⟩;rw[hf] at k1;simp only[m4v,M4.v] at k1;have KF:=Zz k1;clear k1;have hR:Zo w w [(g,3,cur)]:=⟨Ex.refl w,hbox,trivial⟩
 have n1:(0:Int)<n:=by omega
 have n2:(1:Int)<n:=by omega
 clear hbox;go_in;go_upto_region 3 with fail;have hS:Zo w ((w.alloc (.cells #[.int .u8 114, .slice (some ⟨g,0,none⟩) n cap] 193)).alloc (.cells Oc 79)) _:=inferInstance;clear hR;simp only[Zy] at hS;generalize (w.alloc (.cells #[.int .u8 114, .slice (some ⟨g,0,none⟩) n cap] 193)).alloc (.cells Oc 79)=W0 at*;refine Ux (fun _ w2=>Zo w w2 [(w.heap.size+1,79,Oc),(w.heap.size,193,#[.int .u8 114, .slice (some ⟨g,0,none⟩) n cap]),(g,3,cur)]) 11 false (by kernel_rfl) (hS.drewW) (by exact fun _ _ _ _ _ h=>h) ?_;iterate 8 (apply Zp;rfl;intro b u B Q q;have hS:=B;have hC:=hS.rd;simp only[Zr,Zq] at hC;go_wp2;exact q _ trivial B;exact⟨_,rfl⟩)
 (apply Zp;rfl;intro b u B Q q;go_wp2_with (with_reducible refine Yw (KF.out _) fun wn hx=>?_);exact q _ trivial (B.go hx);exact⟨_,rfl⟩);iterate 2 (apply Zp;rfl;intro b u B Q q;go_wp2;exact q _ trivial B;exact⟨_,rfl⟩)
 refine Zn ?_;intro wz hz;clear hS;have hS:=hz;have hC:=hS.rd;simp only[Zr,Zq] at hC;have hE:=hS.ex;go_wp2_with fail;have:=Exi.mk hE
 exact Yp (v:= .tuple #[.agg #[x1,x2,x3,x4,x5,x6,x7,x8,x9,y1,y2,y3],ok]) (by simp[results,results212,go_sem,hC]) rfl
theorem Zgo(g n cap:Nat)(cur:Av)(S:ByteArray)(a b:Int)(hn:2≤n)(w:World)[hG:Xz w](hbox:Box w g 3 cur)(c0:cur[0]? =some (.int .i64 a))(c1:cur[1]? =some (.int .i64 b)):Calls prog 140 #[.agg #[.int .u8 102, .slice (some ⟨g,0,none⟩) n cap,S]] w (fun e w'=>e= .returned (m4v (Ww a b))∧Ex w w'):=by
 have k1:=fun w=>Cl a b w
 rcases hf:Ww a b with⟨⟨⟨x1,x2,x3⟩,⟨x4,x5,x6⟩,⟨x7,x8,x9⟩,⟨y1,y2,y3⟩⟩,ok⟩;rw[hf] at k1;simp only[m4v,M4.v] at k1;have KF:=Zz k1;clear k1;have hR:Zo w w [(g,3,cur)]:=⟨Ex.refl w,hbox,trivial⟩
 have n1:(0:Int)<n:=by omega
 have n2:(1:Int)<n:=by omega
 clear hbox;go_in;go_upto_region 7 with fail;have hS:Zo w ((w.alloc (.cells #[.int .u8 102, .slice (some ⟨g,0,none⟩) n cap,S] 169)).alloc (.cells Oc 79)) _:=inferInstance;clear hR;simp only[Zy] at hS;generalize (w.alloc (.cells #[.int .u8 102, .slice (some ⟨g,0,none⟩) n cap,S] 169)).alloc (.cells Oc 79)=W0 at*;refine Ux (fun _ w2=>Zo w w2 [(w.heap.size+1,79,Oc),(w.heap.size,169,#[.int .u8 102, .slice (some ⟨g,0,none⟩) n cap,S]),(g,3,cur)]) 11 false (by kernel_rfl) (hS.drewW) (by exact fun _ _ _ _ _ h=>h) ?_;iterate 8 (apply Zp;rfl;intro b u B Q q;have hS:=B;have hC:=hS.rd;simp only[Zr,Zq] at hC;go_wp2;exact q _ trivial B;exact⟨_,rfl⟩)
 (apply Zp;rfl;intro b u B Q q;go_wp2_with (with_reducible refine Yw (KF.out _) fun wn hx=>?_);exact q _ trivial (B.go hx);exact⟨_,rfl⟩);iterate 2 (apply Zp;rfl;intro b u B Q q;go_wp2;exact q _ trivial B;exact⟨_,rfl⟩)
 refine Zn ?_;intro wz hz;clear hS;have hS:=hz;have hC:=hS.rd;simp only[Zr,Zq] at hC;have hE:=hS.ex;go_wp2_with fail;have:=Exi.mk hE
 exact Yp (v:= .tuple #[.agg #[x1,x2,x3,x4,x5,x6,x7,x8,x9,y1,y2,y3],ok]) (by simp[results,results140,go_sem,hC]) rfl
theorem Zgn(g n cap:Nat)(cur:Av)(a b:Int)(hn:2≤n)(w:World)(hbox:Box w g 3 cur)(c0:cur[0]? =some (.int .i64 a))(c1:cur[1]? =some (.int .i64 b)):Calls prog 212 #[.agg #[.int .u8 102, .slice (some ⟨g,0,none⟩) n cap]] w (fun e w'=>e= .returned (m4v (Ww a b))∧Ex w w'):=by
 have k1:=fun w=>Cm a b w
 rcases hf:Ww a b with⟨⟨⟨x1,x2,x3⟩,⟨x4,x5,x6⟩,⟨x7,x8,x9⟩,⟨y1,y2,y3⟩⟩,ok⟩;rw[hf] at k1;simp only[m4v,M4.v] at k1;have KF:=Zz k1;clear k1;have hR:Zo w w [(g,3,cur)]:=⟨Ex.refl w,hbox,trivial⟩
 have n1:(0:Int)<n:=by omega
 have n2:(1:Int)<n:=by omega
 clear hbox;go_in;go_upto_region 7 with fail;have hS:Zo w ((w.alloc (.cells #[.int .u8 102, .slice (some ⟨g,0,none⟩) n cap] 193)).alloc (.cells Oc 79)) _:=inferInstance;clear hR;simp only[Zy] at hS;generalize (w.alloc (.cells #[.int .u8 102, .slice (some ⟨g,0,none⟩) n cap] 193)).alloc (.cells Oc 79)=W0 at*;refine Ux (fun _ w2=>Zo w w2 [(w.heap.size+1,79,Oc),(w.heap.size,193,#[.int .u8 102, .slice (some ⟨g,0,none⟩) n cap]),(g,3,cur)]) 11 false (by kernel_rfl) (hS.drewW) (by exact fun _ _ _ _ _ h=>h) ?_;iterate 8 (apply Zp;rfl;intro b u B Q q;have hS:=B;have hC:=hS.rd;simp only[Zr,Zq] at hC;go_wp2;exact q _ trivial B;exact⟨_,rfl⟩)
 (apply Zp;rfl;intro b u B Q q;go_wp2_with (with_reducible refine Yw (KF.out _) fun wn hx=>?_);exact q _ trivial (B.go hx);exact⟨_,rfl⟩);iterate 2 (apply Zp;rfl;intro b u B Q q;go_wp2;exact q _ trivial B;exact⟨_,rfl⟩)
 refine Zn ?_;intro wz hz;clear hS;have hS:=hz;have hC:=hS.rd;simp only[Zr,Zq] at hC;have hE:=hS.ex;go_wp2_with fail;have:=Exi.mk hE
 exact Yp (v:= .tuple #[.agg #[x1,x2,x3,x4,x5,x6,x7,x8,x9,y1,y2,y3],ok]) (by simp[results,results212,go_sem,hC]) rfl
end
section
open Go.RowKit

attribute [local go_sem] Zg Zf
theorem Zbr{W w:World}{x y:Nat×TypeId×Av}{g:Nat}{t:TypeId}{cs:Av}(h:Zo W w [x,y,(g,t,cs)]):Box w g t cs:=h.boxes.2.2.1
theorem Zgm(g n cap:Nat)(cur:Av)(S:ByteArray)(a b:Int)(hn:2≤n)(ha: -1000000≤a∧a≤1000000)(hb:1≤b∧b≤1000000)(w:World)[hG:Xz w](hbox:Box w g 3 cur)(c0:cur[0]? =some (.int .i64 a))(c1:cur[1]? =some (.int .i64 b)):Calls prog 140 #[.agg #[.int .u8 97, .slice (some ⟨g,0,none⟩) n cap,S]] w (fun e w'=>e= .returned (m4v (⟨(flow a 0 b).1,Fr.nul,Fr.nul,(flow a 0 b).1⟩,true))∧Ex w w'):=by
 have k1:=fun w hx=>Zgs 97 g n cap cur S a b hn ha hb w hx c0 c1
 rcases hf:(flow a 0 b).1 with⟨f1,f2,f3⟩;rw[hf] at k1;simp only[Fr.v] at k1;have KF:=Zz k1;clear k1;have HG:=Zz hG;have hR:Zo w w [(g,3,cur)]:=⟨Ex.refl w,hbox,trivial⟩
 clear hbox ha hb;go_in;go_upto_region 9 with fail;have hS:Zo w ((w.alloc (.cells #[.int .u8 97, .slice (some ⟨g,0,none⟩) n cap,S] 169)).alloc (.cells Oc 79)) _:=inferInstance;clear hR;simp only[Zy] at hS;generalize (w.alloc (.cells #[.int .u8 97, .slice (some ⟨g,0,none⟩) n cap,S] 169)).alloc (.cells Oc 79)=W0 at*;refine Ux (fun _ w2=>Zo w w2 [(w.heap.size+1,79,Oc),(w.heap.size,169,#[.int .u8 97, .slice (some ⟨g,0,none⟩) n cap,S]),(g,3,cur)]) 8 false (by kernel_rfl) (hS.drewW) (by exact fun _ _ _ _ _ h=>h) ?_;(apply Zp;rfl;intro b u B Q q;have hS:=B;have hC:=hS.rd;simp only[Zr,Zq] at hC;go_wp2;exact q _ trivial B;exact⟨_,rfl⟩);(apply Zp;rfl;intro b u B Q q;go_wp2_with (with_reducible refine Yw (KF.out _ (Zbr B)) fun wn hx=>?_);exact q _ trivial (B.go hx);exact⟨_,rfl⟩);iterate 2 (apply Zp;rfl;intro b u B Q q;have hg:=(HG.out.ex B.ex).rd;go_wp2;exact q _ trivial B;exact⟨_,rfl⟩)
 (apply Zp;rfl;intro b u B Q q;have hS:=B;have hC:=hS.rd;simp only[Zr,Zq] at hC;go_wp2;exact q _ trivial B;exact⟨_,rfl⟩);(apply Zp;rfl;intro b u B Q q;go_wp2_with (with_reducible refine Yw (KF.out _ (Zbr B)) fun wn hx=>?_);exact q _ trivial (B.go hx);exact⟨_,rfl⟩);iterate 2 (apply Zp;rfl;intro b u B Q q;go_wp2;exact q _ trivial B;exact⟨_,rfl⟩)
 refine Zn ?_;intro wz hz;clear hS;have hS:=hz;have hC:=hS.rd;simp only[Zr,Zq] at hC;have hE:=hS.ex;go_wp2_with fail;have:=Exi.mk hE
 exact Yp (v:= .tuple #[.agg #[f1,f2,f3,oo,oo, .int .i64 1,oo,oo, .int .i64 1,f1,f2,f3],true]) (by simp[results,results140,go_sem,hC]) rfl
theorem Zgl(g n cap:Nat)(cur:Av)(a b:Int)(hn:2≤n)(ha: -1000000≤a∧a≤1000000)(hb:1≤b∧b≤1000000)(w:World)(hbox:Box w g 3 cur)(c0:cur[0]? =some (.int .i64 a))(c1:cur[1]? =some (.int .i64 b)):Calls prog 212 #[.agg #[.int .u8 97, .slice (some ⟨g,0,none⟩) n cap]] w (fun e w'=>e= .returned (m4v (⟨(flow a 0 b).1,Fr.nul,Fr.nul,(flow a 0 b).1⟩,true))∧Ex w w'):=by
 have k1:=fun w hx=>Zgr 97 g n cap cur a b hn ha hb w hx c0 c1
 rcases hf:(flow a 0 b).1 with⟨f1,f2,f3⟩;rw[hf] at k1;simp only[Fr.v] at k1;have KF:=Zz k1;clear k1;have k2:=fun w=>Zxi ⟨f1,f2,f3⟩ ⟨f1,f2,f3⟩ w
 simp only[Fr.v,M4.v,Fr.nul] at k2;have KO:=Zz k2;clear k2;have hR:Zo w w [(g,3,cur)]:=⟨Ex.refl w,hbox,trivial⟩
 clear hbox ha hb;go_in;go_upto_region 9 with fail;have hS:Zo w ((w.alloc (.cells #[.int .u8 97, .slice (some ⟨g,0,none⟩) n cap] 193)).alloc (.cells Oc 79)) _:=inferInstance;clear hR;simp only[Zy] at hS;generalize (w.alloc (.cells #[.int .u8 97, .slice (some ⟨g,0,none⟩) n cap] 193)).alloc (.cells Oc 79)=W0 at*;have hC:=hS.rd;simp only[Zr,Zq] at hC;go_wp2_with fail;refine Yw (KF.out _ hS.boxes.2.2.1) fun w1 hx=>?_
 replace hS:=Zo.after (h:=hS) hx;clear hC;have hC:=hS.rd;simp only[Zr,Zq] at hC;go_upto_region 10 with fail;have hT:Zo w (w1.alloc (.cells #[f1,f2,f3] 30)) _:=Zo.alloc (h:=hS);clear hC;have hC:=hT.rd;simp only[Zr,Zq] at hC;go_wp2_with fail;refine Yw (KO.out _) fun w2 hx2=>?_
 replace hT:=Zo.after (h:=hT) hx2;clear hC hS;have hC:=hT.rd;simp only[Zr,Zq] at hC;have hE:=hT.ex;go_wp2_with fail;have:=Exi.mk hE
 exact Yp (v:= .tuple #[.agg #[f1,f2,f3,oo,oo, .int .i64 1,oo,oo, .int .i64 1,f1,f2,f3],true]) (by simp[results,results212,go_sem,hC]) rfl
end
section
open Go.RowKit

attribute [local go_sem] Zg Zf
theorem Zgk(g n cap:Nat)(cur:Av)(S:ByteArray)(a b c:Int)(hn:3≤n)(w:World)[hG:Xz w](hbox:Box w g 3 cur)(c0:cur[0]? =some (.int .i64 a))(c1:cur[1]? =some (.int .i64 b))(c2:cur[2]? =some (.int .i64 c)):Calls prog 140 #[.agg #[.int .u8 119, .slice (some ⟨g,0,none⟩) n cap,S]] w (fun e w'=>e= .returned (m4v (Xq a b c))∧Ex w w'):=by
 have k1:=fun w (_:Xz w)=>Zym a b c w
 rcases hf:Xq a b c with⟨⟨⟨x1,x2,x3⟩,⟨x4,x5,x6⟩,⟨x7,x8,x9⟩,⟨y1,y2,y3⟩⟩,ok⟩;rw[hf] at k1;simp only[m4v,M4.v] at k1;have KF:=Zz k1;clear k1;have HG:=Zz hG;have hR:Zo w w [(g,3,cur)]:=⟨Ex.refl w,hbox,trivial⟩
 have n1:(0:Int)<n:=by omega
 have n2:(1:Int)<n:=by omega
 have n3:(2:Int)<n:=by omega
 clear hbox;go_in;go_upto_region 5 with fail;have hS:Zo w ((w.alloc (.cells #[.int .u8 119, .slice (some ⟨g,0,none⟩) n cap,S] 169)).alloc (.cells Oc 79)) _:=inferInstance;clear hR;simp only[Zy] at hS;generalize (w.alloc (.cells #[.int .u8 119, .slice (some ⟨g,0,none⟩) n cap,S] 169)).alloc (.cells Oc 79)=W0 at*;refine Ux (fun _ w2=>Zo w w2 [(w.heap.size+1,79,Oc),(w.heap.size,169,#[.int .u8 119, .slice (some ⟨g,0,none⟩) n cap,S]),(g,3,cur)]) 15 false (by kernel_rfl) (hS.drewW) (by exact fun _ _ _ _ _ h=>h) ?_;iterate 12 (apply Zp;rfl;intro b u B Q q;have hS:=B;have hC:=hS.rd;simp only[Zr,Zq] at hC;go_wp2;exact q _ trivial B;exact⟨_,rfl⟩)
 (apply Zp;rfl;intro b u B Q q;go_wp2_with (with_reducible refine Yw (KF.out _ (HG.out.ex B.ex)) fun wn hx=>?_);exact q _ trivial (B.go hx);exact⟨_,rfl⟩);iterate 2 (apply Zp;rfl;intro b u B Q q;go_wp2;exact q _ trivial B;exact⟨_,rfl⟩)
 refine Zn ?_;intro wz hz;clear hS;have hS:=hz;have hC:=hS.rd;simp only[Zr,Zq] at hC;have hE:=hS.ex;go_wp2_with fail;have:=Exi.mk hE
 exact Yp (v:= .tuple #[.agg #[x1,x2,x3,x4,x5,x6,x7,x8,x9,y1,y2,y3],ok]) (by simp[results,results140,go_sem,hC]) rfl
theorem Zgj(g n cap:Nat)(cur:Av)(a b c:Int)(hn:3≤n)(w:World)(hbox:Box w g 3 cur)(c0:cur[0]? =some (.int .i64 a))(c1:cur[1]? =some (.int .i64 b))(c2:cur[2]? =some (.int .i64 c)):Calls prog 212 #[.agg #[.int .u8 119, .slice (some ⟨g,0,none⟩) n cap]] w (fun e w'=>e= .returned (m4v (Xq a b c))∧Ex w w'):=by
 have k1:=fun w=>Zyn a b c w
 rcases hf:Xq a b c with⟨⟨⟨x1,x2,x3⟩,⟨x4,x5,x6⟩,⟨x7,x8,x9⟩,⟨y1,y2,y3⟩⟩,ok⟩;rw[hf] at k1;simp only[m4v,M4.v] at k1;have KF:=Zz k1;clear k1;have hR:Zo w w [(g,3,cur)]:=⟨Ex.refl w,hbox,trivial⟩
 have n1:(0:Int)<n:=by omega
 have n2:(1:Int)<n:=by omega
 have n3:(2:Int)<n:=by omega
 clear hbox;go_in;go_upto_region 5 with fail;have hS:Zo w ((w.alloc (.cells #[.int .u8 119, .slice (some ⟨g,0,none⟩) n cap] 193)).alloc (.cells Oc 79)) _:=inferInstance;clear hR;simp only[Zy] at hS;generalize (w.alloc (.cells #[.int .u8 119, .slice (some ⟨g,0,none⟩) n cap] 193)).alloc (.cells Oc 79)=W0 at*;refine Ux (fun _ w2=>Zo w w2 [(w.heap.size+1,79,Oc),(w.heap.size,193,#[.int .u8 119, .slice (some ⟨g,0,none⟩) n cap]),(g,3,cur)]) 15 false (by kernel_rfl) (hS.drewW) (by exact fun _ _ _ _ _ h=>h) ?_;iterate 12 (apply Zp;rfl;intro b u B Q q;have hS:=B;have hC:=hS.rd;simp only[Zr,Zq] at hC;go_wp2;exact q _ trivial B;exact⟨_,rfl⟩)
 (apply Zp;rfl;intro b u B Q q;go_wp2_with (with_reducible refine Yw (KF.out _) fun wn hx=>?_);exact q _ trivial (B.go hx);exact⟨_,rfl⟩);iterate 2 (apply Zp;rfl;intro b u B Q q;go_wp2;exact q _ trivial B;exact⟨_,rfl⟩)
 refine Zn ?_;intro wz hz;clear hS;have hS:=hz;have hC:=hS.rd;simp only[Zr,Zq] at hC;have hE:=hS.ex;go_wp2_with fail;have:=Exi.mk hE
 exact Yp (v:= .tuple #[.agg #[x1,x2,x3,x4,x5,x6,x7,x8,x9,y1,y2,y3],ok]) (by simp[results,results212,go_sem,hC]) rfl
end
section
open Go.RowKit

attribute [local go_sem] Zg Zf
theorem Zlv(a b:Int):Rk 97 [a,b]=(⟨(flow a 0 b).1,Fr.nul,Fr.nul,(flow a 0 b).1⟩,true):=by
 unfold Rk;rw[if_neg (by decide),if_neg (by decide),if_neg (by decide),if_pos rfl];unfold Bp;simp only[List.getD_cons_zero,List.getD_cons_succ]
theorem Zar(g n cap:Nat)(S:ByteArray)(w:World):Calls prog 140 #[.agg #[.int .u8 100, .slice (some ⟨g,0,none⟩) n cap,S]] w (fun e w'=>e= .returned (m4v (M4.none,false))∧Ex w w'):=by
 simp only[m4v,M4.v,M4.none,Fr.none];obtain⟨hS,hC⟩:=s0 w;go_in;go_wp2;exact Yp (by simp[results,results140,go_sem,hC]) rfl
theorem Zbp(q:Pc)(hv:Wx q.k q.ns=true)(w:World)[hG:Xz w](hq:q.ok w):Calls prog 140 #[.agg #[.int .u8 q.k.toNat, .slice (some ⟨q.g,0,none⟩) q.ns.length q.cap,q.S]] w (fun e w'=>e= .returned (m4v (Rk q.k q.ns))∧Ex w w'):=by
 obtain⟨k,g,cap,cur,ns,S⟩:=q;obtain⟨hb,hc⟩:=hq;simp only at hv hb hc ⊢;rcases(Sd hv).2.2 with⟨hk,a,b,rfl, -⟩|⟨rfl,a,b,c,rfl, -, -⟩|⟨hk,a,b,rfl,h1,h2,h3,h4⟩
 ·have c0:cur[0]? =some (.int .i64 a):=hc 0 (by simp);have c1:cur[1]? =some (.int .i64 b):=hc 1 (by simp);rcases hk with rfl|rfl
  ·exact Zgq g 2 cap cur S a b (by omega) w hb c0 c1
  ·exact Zgo g 2 cap cur S a b (by omega) w hb c0 c1
 ·have c0:cur[0]? =some (.int .i64 a):=hc 0 (by simp);have c1:cur[1]? =some (.int .i64 b):=hc 1 (by simp);have c2:cur[2]? =some (.int .i64 c):=hc 2 (by simp);exact Zgk g 3 cap cur S a b c (by omega) w hb c0 c1 c2
 ·have c0:cur[0]? =some (.int .i64 a):=hc 0 (by simp);have c1:cur[1]? =some (.int .i64 b):=hc 1 (by simp);rcases hk with rfl|rfl
  ·rw[Zlv];exact Zgm g 2 cap cur S a b (by omega) (by omega) (by omega) w hb c0 c1
  ·exact Zar g 2 cap S w
theorem Zaq(g n cap:Nat)(w:World):Calls prog 212 #[.agg #[.int .u8 100, .slice (some ⟨g,0,none⟩) n cap]] w (fun e w'=>e= .returned (m4v (M4.none,false))∧Ex w w'):=by
 simp only[m4v,M4.v,M4.none,Fr.none];obtain⟨hS,hC⟩:=s0 w;go_in;go_wp2;exact Yp (by simp[results,results212,go_sem,hC]) rfl
theorem Zbo(q:Pc)(hv:Wx q.k q.ns=true)(w:World)(hq:q.ok w):Calls prog 212 #[.agg #[.int .u8 q.k.toNat, .slice (some ⟨q.g,0,none⟩) q.ns.length q.cap]] w (fun e w'=>e= .returned (m4v (Rk q.k q.ns))∧Ex w w'):=by
 obtain⟨k,g,cap,cur,ns,S⟩:=q;obtain⟨hb,hc⟩:=hq;simp only at hv hb hc ⊢;rcases(Sd hv).2.2 with⟨hk,a,b,rfl, -⟩|⟨rfl,a,b,c,rfl, -, -⟩|⟨hk,a,b,rfl,h1,h2,h3,h4⟩
 ·have c0:cur[0]? =some (.int .i64 a):=hc 0 (by simp);have c1:cur[1]? =some (.int .i64 b):=hc 1 (by simp);rcases hk with rfl|rfl
  ·exact Zgp g 2 cap cur a b (by omega) w hb c0 c1
  ·exact Zgn g 2 cap cur a b (by omega) w hb c0 c1
 ·have c0:cur[0]? =some (.int .i64 a):=hc 0 (by simp);have c1:cur[1]? =some (.int .i64 b):=hc 1 (by simp);have c2:cur[2]? =some (.int .i64 c):=hc 2 (by simp);exact Zgj g 3 cap cur a b c (by omega) w hb c0 c1 c2
 ·have c0:cur[0]? =some (.int .i64 a):=hc 0 (by simp);have c1:cur[1]? =some (.int .i64 b):=hc 1 (by simp);rcases hk with rfl|rfl
  ·rw[Zlv];exact Zgl g 2 cap cur a b (by omega) (by omega) (by omega) w hb c0 c1
  ·exact Zaq g 2 cap w
end
section
open Go.RowKit

attribute [local go_sem] Zg Zf
theorem Zjy(l:Ub)(hl:l.length≤1048576)(w:World)[hG:Xz w](hm:Wn w):Calls prog 79 #[(Bs l)] w (fun e w'=>e= .returned (m4v (Sj l))∧Ex w w'):=by
 have KB:=Zz (fun w hm=>Pp.w (Ts l hl w hm));have HRES:=Zz (Zsz l);generalize Bs l=S at*;have HG:=Zz hG;have HM:=Zz hm;clear hm hl hG;have hR:=Zo.refl w;go_in;go_upto_region 1 with fail;have b0:=Box.new w Oc 79;have hE0:Ex w (w.alloc (.cells Oc 79)):=(Ex.refl w).alloc _;have hz0:(w.alloc (.cells Oc 79)).heap.size=w.heap.size+1:=Zy _ _;generalize w.alloc _=W0 at*;clear hR;go_wp2_with fail;refine(KB.out _ (HM.out.ex hE0)).mono ?_;rintro e w1 ⟨qs,A,cap,ok0,rfl,hq12,hsl,hps,hx,HBR,HPV⟩;have hE1:=hE0.trans hx;have b1:=b0.ex hx;have hne:w.heap.size≠w1.heap.size:=by have:=hx.size;omega
 clear hE0 b0 hz0 hx KB HM;have hg:=(HG.out.ex hE1).rd;go_upto_region 3 with fail;have hB:BM w (w1.alloc (.cells #[.int .i64 1,oo, .int .i64 1,oo,oo, .int .i64 1,oo,oo, .int .i64 1, .int .i64 1,oo, .int .i64 1] 79)) 79 w.heap.size w1.heap.size Z12 A (Xp qs) qs (Zm Ko.l):=
  ⟨⟨hE1.alloc _,b1.alloc _,Box.new w1 _ _,trivial⟩,hsl.ex ((Ex.refl _).alloc _),hps.ex ((Ex.refl _).alloc _)⟩
 have hlo:=hE1.size;clear hg hE1 b1 hsl hps;have HBR2:Hid (Sj l=Um Mg M4.none (qs.map Pc.p) 0 Ko ok0):=Zz (by rw[HRES.out,Ok Mg M4.none HBR.out,Bool.and_true]);have HQL:=Zz hq12;have HB0:=Zz hB;have HNE:=Zz hne;clear hB hq12 HBR HRES hne;generalize w1.alloc _=W1 at*;generalize w1.heap.size=na at*;go_wp2_with fail;go_loopw [21,5,8,9,10,11,12] (fun i o _ _ _ _ _ wr=>∃(k:Nat) (u:M4) (ok:Bool),i= .int .i64 k∧o= .bool ok∧k≤qs.length∧Hid (Sj l=Um Mg M4.none (qs.map Pc.p) k u ok)∧Hid (BM w wr 79 w.heap.size na Z12 A (Xp qs) qs (Zm u.l))) (fun i _ _ _ _ _ _ _=>13-(intOf i).toNat)
 case atStart=>exact⟨0,Ko,ok0,rfl,rfl,by omega,HBR2,HB0⟩
 case round=>
  clear HB0 HBR2;obtain⟨k,u,ok,rfl,rfl,hk,HR,HB⟩:=hrel;have hq12:=HQL.out;by_cases hlt:k<qs.length
  ·have hI:(k:Int)<(qs.length:Int):=by omega
   have hw5:=wr1 k (by omega);obtain⟨b,off,rfl,hc⟩:=HB.out.slc (by rw[Ws];omega);have hat:=Ol qs k hlt;have d0:=hc (3*k) (by rw[Ws];omega);have d1:=hc (3*k+1) (by rw[Ws];omega);have d2:=hc (3*k+2) (by rw[Ws];omega);rw[hat.1] at d0;rw[hat.2.1] at d1;rw[hat.2.2] at d2;rw[Nat.mul_comm 3 k] at d0 d1 d2;rw[←Nat.add_assoc] at d1 d2;have HST:=Zz (fun x ox h=>Md Mg M4.none hlt u ok (x:=x) (u:=ox) h);have hmem:qs[k]∈qs:=List.getElem_mem hlt;have HV:=Zz (HPV.out _ hmem);have HO:=Zz (HB.out.pcs _ hmem);clear hc hat hmem;generalize qs[k]=q at*;have kt:=fun w (_:Xz w) ho=>Zbp q HV.out w ho
   rcases hT:Rk q.k q.ns with⟨t,okt⟩;rcases hA:Yi t u with⟨x,okx⟩;have ka:=fun w=>Tp t u w
   have HR2:Hid (Sj l=Um Mg M4.none (qs.map Pc.p) (k+1) x (ok&&okt&&okx)):=Zz (by
    rw[Bool.and_assoc];refine HR.out.trans (HST.out x (okt&&okx) ?_);show((Yi (Rk q.k q.ns).1 u).1,(Rk q.k q.ns).2&&(Yi (Rk q.k q.ns).1 u).2)=_;rw[hT];simp only[hA])
   rw[hT] at kt;rw[hA] at ka;simp only[m4v,M4.l_arr] at kt ka;have hone:=Zb t.l;have hux:=Sz u.l;have hxs:=Pi x;have hts:=Pi t;have hus:=Pi u;have hxo:=Zb x.l;generalize Zm t.l=tc at*;generalize hvu:Zm u.l=uc at*;generalize hvx:Zm x.l=xc at*;have KT:=Zz kt;have KA:=Zz ka;have HX:=Zz hvx;have HTS:=Zz hts;have HXS:=Zz hxs;have HUS:=Zz hus;have HUX:=Zz hux;clear kt ka hT hA hvu hvx HST HR HV hts hxs hus hux;have hB:=HB.out;clear HB;go_upto_region 6 with fail;have b9:=Box.new wr #[.int .u8 q.k.toNat, .slice (some ⟨q.g,0,none⟩) q.ns.length q.cap,q.S] 169;replace hB:=hB.ex ((Ex.refl wr).alloc (.cells #[.int .u8 q.k.toNat, .slice (some ⟨q.g,0,none⟩) q.ns.length q.cap,q.S] 169));have HO1:=Zz (HO.out.ex ((Ex.refl wr).alloc (.cells #[.int .u8 q.k.toNat, .slice (some ⟨q.g,0,none⟩) q.ns.length q.cap,q.S] 169)));generalize wr.alloc _=W2 at*;have c9:=b9.cell;have z9:=b9.lt;clear d0 d1 d2 HO;go_wp2_with fail;refine(KT.out _ (HG.out.ex hB.sees.ex) HO1.out).mono ?_;clear HO1 b9 c9 z9;rintro e w2 ⟨rfl,hx⟩;go_upto_region 7 with(refine wpList_store_row rfl _ _ _ rfl _ _ rfl rfl _ _ (Box.new w2 _ _) (So HTS.out) (by rw[HTS.out];rfl) hone ?_);replace hB:=hB.ex (hx.trans (((Ex.refl w2).alloc (.cells Oc 79)).setRow (Nat.le_refl _) tc));have bT:=(Box.new w2 Oc 79).setRow tc;generalize (w2.alloc (.cells Oc 79)).setRow w2.heap.size tc=W3 at*;clear hx hone;have b3:=hB.sees.boxes.2.1;go_wp2_with (first|(refine wpList_load_row rfl _ _ rfl _ rfl _ _ (0,0) _ bT underlying79 rfl (So HTS.out) ?_)|(refine wpList_load_row rfl _ _ rfl _ rfl _ _ (0,0) _ b3 underlying79 rfl (So HUS.out) ?_));refine Yw (KA.out _) fun w3 hx=>?_
   go_upto_region 8 with(refine wpList_store_row rfl _ _ _ rfl _ _ rfl rfl _ _ (Box.new w3 _ _) (So HXS.out) (by rw[HXS.out];rfl) hxo ?_);replace hB:=hB.ex (hx.trans (((Ex.refl w3).alloc (.cells Oc 79)).setRow (Nat.le_refl _) xc));have bX:=(Box.new w3 Oc 79).setRow xc;generalize (w3.alloc (.cells Oc 79)).setRow w3.heap.size xc=W4 at*;clear hx b3 bT;go_cut [5] (fun s wx=>s= .bool (ok&&okt&&okx)∧wx=W4)
   case first=>
    rcases ok with _|_<;>rcases okt with _|_<;>rcases okx with _|_
    all_goals
     go_wp2_with fail;go_meet
     exact⟨rfl,rfl⟩
   case rest=>
    obtain⟨rfl,rfl⟩:=hcut;have b3:=hB.sees.boxes.2.1;go_wp2_with (first|(refine wpList_load_row rfl _ _ rfl _ rfl _ _ (0,0) _ bX underlying79 rfl (So HXS.out) ?_)|(refine wpList_store_row rfl _ _ _ rfl _ _ rfl rfl _ _ b3 (So HXS.out) (by rw[HXS.out,HUS.out]) hxo ?_));have HB2:Hid (BM w (wc.setRow na xc) 79 w.heap.size na Z12 (some ⟨b,off,none⟩) (Xp qs) qs (Zm x.l)):=Zz (by rw[HX.out];exact hB.store hlo HNE.out (by decide) HUX.out (Na qs) xc);clear hB b3 bX hxo;go_roundw
    case rel=>exact⟨k+1,x,_,by go_num,rfl,by omega,HR2,HB2⟩
    case measure=>simp[intOf]<;>omega
  ·obtain rfl:k=qs.length:=by omega
   have HE:=HR.out;rw[Qn] at HE;have hI:¬((qs.length:Nat):Int)<(qs.length:Int):=by omega
   have hB:=HB.out;clear HB HR hlt hk HPV HQL hq12;have b4:=hB.sees.boxes.1;have b3:=hB.sees.boxes.2.1;have hE:=hB.sees.ex;have HEE:=Zz HE;clear HE;rcases ok with _|_
   ·have c4:=b4.cell;have f4:=b4.frozen;have z4:=b4.lt;unfold Z12 at c4;go_wp2;refine Zu (v:= .tuple #[.agg Oc,false]) ?_ rfl ⟨by rw[HEE.out];rfl,?_⟩
    ·simp[results,results79,go_sem,c4]
    ·(have:=Exi.mk hE;exact Exi.out)
   ·have hus:=Pi u;have huo:=Zb u.l;go_wp2_with (first|(refine wpList_load_row rfl _ _ rfl _ rfl _ _ (0,0) _ b3 underlying79 rfl (So hus) ?_)|(refine wpList_store_row rfl _ _ _ rfl _ _ rfl rfl _ _ b4 (So hus) rfl huo ?_));exact Zu (Ze results79 _ _ _ _ _ (0,0) _ rfl (b4.setRow _) underlying79 rfl (So hus)) rfl ⟨by rw[HEE.out];rfl,hE.setRow (Nat.le_refl _) _⟩
end
section
open Go.RowKit

attribute [local go_sem] Zg Zf
theorem Ns{w w':World}(h:Ex w w')(row:Option Nat):w.grownBy w' row:=⟨h.os,h.tape,h.output,h.size,fun k hk _=>Below.block h k hk⟩
theorem Ql{w:World}{bc i:Nat}{u:Value}:w.grownBy (w.setCell ⟨bc,i,none⟩ u) (some bc):=⟨rfl,rfl,rfl,by simp,fun k _ hk=>Below.heap_setCell _ _ _ _ (fun e=>hk (by rw[e]))⟩
theorem Uz{w w1 w2:World}{row:Option Nat}(h:w.grownBy w1 row)(k:w1.grownBy w2 row):w.grownBy w2 row:=
 ⟨k.os.trans h.os,k.tape.trans h.tape,k.output.trans h.output,Nat.le_trans h.size k.size,fun i hi hne=>(k.block i (Nat.lt_of_lt_of_le hi h.size) hne).trans (h.block i hi hne)⟩
theorem Xo{bc:Nat}{w w':World}{c:Con}{o:ByteArray}{ok told:Bool}{a:Ub}(hb:Box w bc 55 c.cells)(ha:Zwn o ok told=Bs a)(hx:Ex w w'):
  Uh bc w (c,a) (.returned (.tuple #[o,ok,told])) w':=⟨o,ok,told,rfl,ha,Ns hx _,hb.ex hx⟩
theorem Zjx(c:Con)(bc:Nat)(w:World)(hb:Box w bc 55 c.cells):Calls prog 27 #[.pointer (some ⟨bc,0,none⟩), .string ⟨#[115,104,111,119]⟩] w (Uh bc w (c,if c.b=[] then [45] else c.b)):=by
 have c0:=hb.cell;have z0:=hb.lt;unfold Con.cells at c0;by_cases he:c.b=[]
 ·rw[if_pos he];rw[he] at c0;have e:Bs []=(⟨#[]⟩:ByteArray):=rfl;rw[e] at c0;go_in;go_wp2;refine Zu (v:= .tuple #[.string ⟨#[45]⟩,true,true]) ?_ rfl (Xo hb rfl (Ex.refl _));simp[results,results27,go_sem]
 ·rw[if_neg he];have hne:=Ta (Ih he);have e:Bs []=(⟨#[]⟩:ByteArray):=rfl;rw[e] at hne;obtain⟨S,HS⟩:=nm (Bs c.b);rw[←HS.out] at c0 hne;have hne2:S.toList.isEmpty=false:=by simpa using hne
  clear hne he e;go_in;go_wp2;refine Zu (v:= .tuple #[S,true,true]) ?_ rfl (Xo hb HS.out (Ex.refl _));simp[results,results27,go_sem]
def Jl(b:Ub):Ub:=if (Sj b).2&&Jr (Sj b).1 then [121,101,115] else [110,111,116]
theorem Zof(c:Con)(hl:c.b.length≤1048576)(bc:Nat)(w:World)(hG:Xz w)(hm:Wn w)(hb:Box w bc 55 c.cells):
  Calls prog 27 #[.pointer (some ⟨bc,0,none⟩), .string ⟨#[107,101,101,112,115]⟩] w (Uh bc w (c,Jl c.b)):=by
 have c0:=hb.cell;have z0:=hb.lt;unfold Con.cells at c0;have k1:=fun w (_:Xz w) hm=>Zjy c.b hl w hm
 obtain⟨r,HR⟩:=nm (Jl c.b);rw[←HR.out];unfold Jl at HR;generalize Bs c.b=S at*;rcases hB:Sj c.b with⟨m,ok⟩;rw[hB] at HR k1;clear hB hl;have k2:=fun w (_:Xz w)=>Zwl m w
 generalize Jr m=ml at k2 HR;obtain⟨⟨m1,m2,m3⟩,⟨m4,m5,m6⟩,⟨m7,m8,m9⟩,⟨n1,n2,n3⟩⟩:=m;simp only[m4v,M4.v] at k1 k2 HR;have K1:=Zz k1;have K2:=Zz k2;have HM:=Zz hm;have HG:=Zz hG;clear k1 k2 hm hG;obtain⟨hS,hC⟩:=s0 w;rcases ok with _|_
 ·have e:=HR.out;simp only[Bool.false_and,Bool.false_eq_true,if_false] at e;subst e;clear HR;go_in;go_wp2_with ((with_reducible apply Zo.see w;exact K1.out _ (HG.out.ex hS.ex) (HM.out.ex hS.ex));clear hS hC;intro wn hS hC;simp only[Zr,Zq,Zy] at hC);refine Zu (v:= .tuple #[.string ⟨#[110,111,116]⟩,true,true]) ?_ rfl (Xo hb rfl ?_)
  ·simp[results,results27,go_sem,hC]
  ·exact Exi.out
 ·rcases ml with _|_
  all_goals
   have e:=HR.out;simp only[Bool.and_false,Bool.and_self,Bool.false_eq_true,if_false,if_true] at e;subst e;clear HR;go_in;go_wp2_with ((with_reducible apply Zo.see w;first|exact K1.out _ (HG.out.ex hS.ex) (HM.out.ex hS.ex)|exact K2.out _ (HG.out.ex (hS.ex.alloc _)));clear hS hC;intro wn hS hC;simp only[Zr,Zq,Zy] at hC);first
    |refine Zu (v:= .tuple #[.string ⟨#[110,111,116]⟩,true,true]) ?_ rfl (Xo hb rfl ?_)
    |refine Zu (v:= .tuple #[.string ⟨#[121,101,115]⟩,true,true]) ?_ rfl (Xo hb rfl ?_)
   ·simp[results,results27,go_sem,hC]
   ·exact Exi.out
theorem Le(c:Con)(S:ByteArray)(s:Ub)(hS:S=Bs s)(ok:Bool)(bc:Nat)(w:World)(hb:Box w bc 55 c.cells):
  Calls prog 65 #[.pointer (some ⟨bc,0,none⟩),S,ok] w fun e w'=>e= .returned (.tuple #[.string ⟨#[111,107]⟩,ok])∧w.grownBy w' (some bc)∧Box w' bc 55 (if ok then (⟨s,c.x,c.y⟩:Con) else c).cells:=by
 have c0:=hb.cell;have f0:=hb.frozen;have z0:=hb.lt;have HB:=Zz hb;unfold Con.cells at c0;rcases ok with _|_
 ·go_in;go_wp2;refine Zu (v:= .tuple #[.string ⟨#[111,107]⟩,false]) ?_ rfl ⟨rfl,Ns (Ex.refl _) _,hb⟩;simp[results,results65,go_sem]
 ·go_in;go_wp2;refine Zu (v:= .tuple #[.string ⟨#[111,107]⟩,true]) ?_ rfl ⟨rfl,Ql,?_⟩
  ·simp[results,results65,go_sem]
  ·have h:=HB.out.set_ 0 (.string S);unfold Con.cells at h;subst hS;try rw[if_pos rfl]
   unfold Con.cells;simpa using h
def Ld(c:Con)(s:Ub):Con×Ub:=if (Ys s).isSome then (⟨s,c.x,c.y⟩,[111,107]) else (c,[110,111])
theorem Zoe(c:Con)(s:Ub)(hl:s.length≤1048576)(bc:Nat)(w:World)(hm:Wn w)(hb:Box w bc 55 c.cells):
  Calls prog 26 #[.pointer (some ⟨bc,0,none⟩), .string ⟨#[98,101,110,99,104]⟩,(Bs s)] w (Uh bc w (Ld c s)):=by
 have z0:=hb.lt;have k1:=fun w hm=>Zsx s hl w hm
 obtain⟨S,HS⟩:=nm (Bs s);rw[←HS.out] at k1 ⊢;obtain⟨r,HR⟩:=nm (Ld c s);rw[←HR.out];unfold Ld at HR;generalize (Ys s).isSome=ok at k1 HR;have K1:=Zz k1;have HM:=Zz hm;have HB:=Zz hb;clear k1 hm hb hl;go_in;go_wp2_with fail;refine Yw (K1.out _ HM.out) fun w1 hx=>?_
 go_wp2_with fail;refine(Le c S s HS.out ok bc _ (HB.out.ex hx)).mono ?_;rintro e w2 ⟨rfl,hg,hb2⟩;have HB2:=Zz hb2;have HGr:=Zz (Uz (Ns hx (some bc)) hg);clear hx hg hb2 z0;rcases ok with _|_
 all_goals
  have e:=HR.out;simp only[Bool.false_eq_true,if_false,if_true] at e HB2;subst e;go_wp2
 ·refine Zu (v:= .tuple #[.string ⟨#[111,107]⟩,false,true]) ?_ rfl ⟨_,_,_,rfl,rfl,HGr.out,HB2.out⟩;simp[results,results26,go_sem]
 ·refine Zu (v:= .tuple #[.string ⟨#[111,107]⟩,true,true]) ?_ rfl ⟨_,_,_,rfl,rfl,HGr.out,HB2.out⟩;simp[results,results26,go_sem]
end
section
open Go.RowKit

theorem Zst(s:ByteArray):s=Bs s.data.toList:=Te (by simp[Bs])
theorem Zgd(s:ByteArray):s.data.toList.length=s.size:=by rw[Array.length_toList];rfl
theorem Zo.exOf{W w:World}{L:Xx}[h:Zo W w L]:Ex W w:=h.ex
theorem Zlt(a t:Ub)(h:∀c∈a,c≠32):Pu (a++32::t)=(a,t,true):=by
 have key:∀a:Ub,(∀c∈a,c≠32)→Lib.index (a++32::t) [32]=(a.length:Nat):=by
  intro a;induction a with
  |nil=>
   intro _;simp[Lib.index,List.isPrefixOf]
  |cons b a ih=>
   intro h;have hb:b≠32:=h b List.mem_cons_self;have hp:([32]:Ub).isPrefixOf (b::(a++32::t))=false:=by
    simp[List.isPrefixOf];exact fun e=>hb e.symm
   have h1:=ih fun c hc=>h c (List.mem_cons_of_mem _ hc)
   rw[List.cons_append];unfold Lib.index;rw[hp,h1];have:(((a.length:Nat):Int)== -1)=false:=by rw[beq_eq_false_iff_ne];omega
   simp[this]
 have e:=key a h;unfold Pu Lib.cut;rw[e,if_pos (by omega)];have e2:((a.length:Nat):Int).toNat=a.length:=by omega
 rw[e2];have e3:(a++32::t).take a.length=a:=List.take_left' rfl;have e4:(a++32::t).drop (a.length+([32]:Ub).length)=t:=by
  have:a++32::t=(a++[32])++t:=by simp
  rw[this];exact List.drop_left' (by simp)
 rw[e3,e4]
def Th:Ub:=[115,104,111,119]
def Zgc:Ub:=[107,101,101,112,115]
def Zao(s:Ub):Ub:=[98,101,110,99,104]++32::s
theorem Zjw:Pu Th=(Th,[],false):=by decide
def stB(c:Con)(l:Ub):Con×Ub:=if l=Th then (c,if c.b=[] then [45] else c.b) else if l=Zgc then (c,Jl c.b) else Ld c (Pu l).2.1
def QB(c:Con):Prop:=c.b.length≤200
def tShow:Ub:=Th++[10]
def tBench(s:Ub):Ub:=Zao s++10::(Th++10::(Zgc++10::[]))
end
section
open Go.RowKit

theorem Zss:∀l:Ub,(∀c∈l,c≠32)∨∃a t,l=a++32::t∧∀c∈a,c≠32
 |[]=> .inl fun _ h=>by cases h
 |b::l=>by
  by_cases hb:b=32
  ·subst hb
   exact .inr ⟨[],l,rfl,fun _ h=>by cases h⟩
  ·rcases Zss l with h|⟨a,t,rfl,h⟩
   ·refine .inl fun c hc=>?_
    rcases List.mem_cons.1 hc with rfl|hc
    ·exact hb
    ·exact h c hc
   ·refine .inr ⟨b::a,t,rfl,fun c hc=>?_⟩
    rcases List.mem_cons.1 hc with rfl|hc
    ·exact hb
    ·exact h c hc
theorem Bg:∀l:Ub,(∀c∈l,c≠32)→Lib.index l [32]= -1
 |[],_=>rfl
 |b::l,h=>by
  have hp:([32]:Ub).isPrefixOf (b::l)=false:=by
   simp[List.isPrefixOf];exact fun e=>h b List.mem_cons_self e.symm
  unfold Lib.index;rw[hp,Bg l fun c hc=>h c (List.mem_cons_of_mem _ hc)];rfl
theorem Zls{l:Ub}(h:∀c∈l,c≠32):Pu l=(l,[],false):=by
 unfold Pu Lib.cut;rw[Bg l h,if_neg (by omega)]
def Dn(l:Ub)(f k:Nat):Prop:=∀j,f≤j→j<k→l[j]? ≠some 10
theorem Dn.mem{l:Ub}{f k:Nat}(h:Dn l f k):∀c∈(l.drop f).take (k-f),c≠10:=by
 intro c hc e;subst e;obtain⟨i,hi⟩:=List.mem_iff_getElem?.1 hc;rw[List.getElem?_take] at hi;split at hi
 ·rw[List.getElem?_drop] at hi;exact h (f+i) (by omega) (by omega) hi
 ·cases hi
theorem Dn.next{l:Ub}{f k:Nat}(h:Dn l f k)(hk:k<l.length)(hc:l[k]≠10):Dn l f (k+1):=by
 intro j h1 h2 e;by_cases hj:j<k
 ·exact h j h1 hj e
 ·obtain rfl:j=k:=by omega
  rw[List.getElem?_eq_getElem hk] at e;exact hc (by injection e)
theorem Dn.none(l:Ub)(k:Nat):Dn l k k:=fun j h1 h2=>absurd h1 (by omega)
section
variable (st:Con→Ub→Con×Ub)
theorem Zjv{l:Ub}{f:Nat}(h:Dn l f l.length)(c:Con)(o:Ub):Qm st c (lns (l.drop f)).dropLast o=(c,o):=by
 have e:(l.drop f).take (l.length-f)=l.drop f:=List.take_of_length_le (by simp);rw[Zwo (l.drop f) (by rw[←e];exact h.mem)];rfl
theorem Zod{l:Ub}{f k:Nat}(hf:f≤k)(hk:k<l.length)(hc:l[k]=10)(h:Dn l f k)(c:Con)(o:Ub):
  Qm st c (lns (l.drop f)).dropLast o=Qm st (st c ((l.drop f).take (k-f))).1 (lns (l.drop (k+1))).dropLast (o++((st c ((l.drop f).take (k-f))).2++[10])):=by
 have e:lns (l.drop f)=(l.drop f).take (k-f)::lns (l.drop (k+1)):=by
  have e1:(l.drop f).drop (k-f)=10::l.drop (k+1):=by
   rw[List.drop_drop,show f+(k-f)=k by omega,List.drop_eq_getElem_cons hk,hc]
  have e2:l.drop f=(l.drop f).take (k-f)++10::l.drop (k+1):=by rw[←e1,List.take_append_drop]
  exact(congrArg lns e2).trans (Zlw _ _ h.mem)
 rw[e,List.dropLast_cons_of_ne_nil (Hm _)];rfl
end
end
section
open Go.RowKit

attribute [local go_sem] Zg Zf
theorem Zan(g n cap:Nat)(cur:Av)(S:ByteArray)(a b:Int)(hn:2≤n)(ha: -1000000≤a∧a≤1000000)(hb:1≤b∧b≤1000000)(w:World)[hG:Xz w](hbox:Box w g 3 cur)(c0:cur[0]? =some (.int .i64 a))(c1:cur[1]? =some (.int .i64 b)):Calls prog 135 #[.agg #[.int .u8 100, .slice (some ⟨g,0,none⟩) n cap,S]] w (fun e w'=>e= .returned (Sl (Py (flow a 0 b).1))∧Ex w w'):=by
 have k1:=fun w hx=>Zgs 100 g n cap cur S a b hn ha hb w hx c0 c1
 rcases hf:(flow a 0 b).1 with⟨f1,f2,f3⟩;rw[hf] at k1;simp only[Fr.v] at k1;have k2:=fun w (_:Xz w)=>Zom f1 f2 f3 w
 rcases hT:Py ⟨f1,f2,f3⟩ with⟨t,ok⟩;have hl:=Fc ⟨f1,f2,f3⟩;rw[hT] at hl k2;have hsz:(Zm t).size=48:=by rw[Yn,hl]
 simp only[Sl] at k2;have KF:=Zz k1;have KT:=Zz k2;have HZ:=Zz hsz;clear k1 k2 hl hT hf hsz;have HG:=Zz hG;have hR:Zo w w [(g,3,cur)]:=⟨Ex.refl w,hbox,trivial⟩
 clear hbox ha hb;go_in;go_upto_region 1 with fail;rw[We];have hS:Zo w ((w.alloc (.cells #[.int .u8 100, .slice (some ⟨g,0,none⟩) n cap,S] 169)).alloc (.cells Z48 85)) _:=inferInstance;clear hR;simp only[Zy] at hS;generalize (w.alloc (.cells #[.int .u8 100, .slice (some ⟨g,0,none⟩) n cap,S] 169)).alloc (.cells Z48 85)=W0 at*;have hC:=hS.rd;simp only[Zr,Zq] at hC;go_wp2_with fail;refine Yw (KF.out _ hS.boxes.2.2.1) fun w1 hx=>?_
 replace hS:=Zo.after (h:=hS) hx;clear hC;have hC:=hS.rd;simp only[Zr,Zq] at hC;go_wp2_with fail;refine Yw (KT.out _ (HG.out.ex hS.ex)) fun w2 hx2=>?_
 replace hS:=Zo.after (h:=hS) hx2;clear hC;have hC:=hS.rd;simp only[Zr,Zq] at hC;have hr:=hS.boxes.1;have hE:=hS.ex;go_wp2_with (refine wpList_store_row rfl _ _ _ rfl _ _ rfl rfl _ _ hr (Yy HZ.out) (by rw[HZ.out];rfl) (Zb _) ?_);exact Zu (Ze results135 _ _ _ _ _ (0,0) _ rfl (hr.setRow _) underlying85 rfl (Yy HZ.out)) rfl ⟨rfl,hE.setRow (Nat.le_succ _) _⟩
theorem Zam(g n cap:Nat)(cur:Av)(a b:Int)(hn:2≤n)(ha: -1000000≤a∧a≤1000000)(hb:1≤b∧b≤1000000)(w:World)(hbox:Box w g 3 cur)(c0:cur[0]? =some (.int .i64 a))(c1:cur[1]? =some (.int .i64 b)):Calls prog 223 #[.agg #[.int .u8 100, .slice (some ⟨g,0,none⟩) n cap]] w (fun e w'=>e= .returned (Sl (Py (flow a 0 b).1))∧Ex w w'):=by
 have k1:=fun w hx=>Zgr 100 g n cap cur a b hn ha hb w hx c0 c1
 rcases hf:(flow a 0 b).1 with⟨f1,f2,f3⟩;rw[hf] at k1;simp only[Fr.v] at k1;have k2:=fun w=>Zol f1 f2 f3 w
 rcases hT:Py ⟨f1,f2,f3⟩ with⟨t,ok⟩;have hl:=Fc ⟨f1,f2,f3⟩;rw[hT] at hl k2;have hsz:(Zm t).size=48:=by rw[Yn,hl]
 simp only[Sl] at k2;have KF:=Zz k1;have KT:=Zz k2;have HZ:=Zz hsz;clear k1 k2 hl hT hf hsz;have hR:Zo w w [(g,3,cur)]:=⟨Ex.refl w,hbox,trivial⟩
 clear hbox ha hb;go_in;go_upto_region 1 with fail;rw[We];have hS:Zo w ((w.alloc (.cells #[.int .u8 100, .slice (some ⟨g,0,none⟩) n cap] 193)).alloc (.cells Z48 85)) _:=inferInstance;clear hR;simp only[Zy] at hS;generalize (w.alloc (.cells #[.int .u8 100, .slice (some ⟨g,0,none⟩) n cap] 193)).alloc (.cells Z48 85)=W0 at*;have hC:=hS.rd;simp only[Zr,Zq] at hC;go_wp2_with fail;refine Yw (KF.out _ hS.boxes.2.2.1) fun w1 hx=>?_
 replace hS:=Zo.after (h:=hS) hx;clear hC;have hC:=hS.rd;simp only[Zr,Zq] at hC;go_wp2_with fail;refine Yw (KT.out _) fun w2 hx2=>?_
 replace hS:=Zo.after (h:=hS) hx2;clear hC;have hC:=hS.rd;simp only[Zr,Zq] at hC;have hr:=hS.boxes.1;have hE:=hS.ex;go_wp2_with (refine wpList_store_row rfl _ _ _ rfl _ _ rfl rfl _ _ hr (Yy HZ.out) (by rw[HZ.out];rfl) (Zb _) ?_);exact Zu (Ze results223 _ _ _ _ _ (0,0) _ rfl (hr.setRow _) underlying85 rfl (Yy HZ.out)) rfl ⟨rfl,hE.setRow (Nat.le_succ _) _⟩
end
section
open Go.RowKit

attribute [local go_sem] Zg Zf
theorem Zwa(k:Int)(g n cap:Nat)(cur:Av)(S:ByteArray)(hk:¬k=100)(r:M4×Bool)(hm:∀w,Xz w→Box w g 3 cur→Calls prog 140 #[.agg #[.int .u8 k, .slice (some ⟨g,0,none⟩) n cap,S]] w (fun e w'=>e= .returned (m4v r)∧Ex w w'))(w:World)[hG:Xz w](hbox:Box w g 3 cur):Calls prog 135 #[.agg #[.int .u8 k, .slice (some ⟨g,0,none⟩) n cap,S]] w (fun e w'=>e= .returned (Sl (if r.2 then Vv r.1 else (Wt 16,false)))∧Ex w w'):=by
 rcases r with⟨⟨⟨x1,x2,x3⟩,⟨x4,x5,x6⟩,⟨x7,x8,x9⟩,⟨y1,y2,y3⟩⟩,ok⟩;simp only[m4v,M4.v] at hm;have k2:=fun w (_:Xz w)=>Cb ⟨⟨x1,x2,x3⟩,⟨x4,x5,x6⟩,⟨x7,x8,x9⟩,⟨y1,y2,y3⟩⟩ w
 rcases hT:Vv ⟨⟨x1,x2,x3⟩,⟨x4,x5,x6⟩,⟨x7,x8,x9⟩,⟨y1,y2,y3⟩⟩ with⟨t,okt⟩;have hl:=Qr ⟨⟨x1,x2,x3⟩,⟨x4,x5,x6⟩,⟨x7,x8,x9⟩,⟨y1,y2,y3⟩⟩;rw[hT] at hl k2;have hsz:(Zm t).size=48:=by rw[Yn,hl]
 simp only[Sl,M4.v] at k2;have KF:=Zz hm;have KT:=Zz k2;have HZ:=Zz hsz;have HT:=Zz hT;clear hm k2 hl hT hsz;have HG:=Zz hG;have hR:Zo w w [(g,3,cur)]:=⟨Ex.refl w,hbox,trivial⟩
 clear hbox;go_in;go_upto_region 1 with fail;rw[We];have hS:Zo w ((w.alloc (.cells #[.int .u8 k, .slice (some ⟨g,0,none⟩) n cap,S] 169)).alloc (.cells Z48 85)) _:=inferInstance;clear hR;simp only[Zy] at hS;generalize (w.alloc (.cells #[.int .u8 k, .slice (some ⟨g,0,none⟩) n cap,S] 169)).alloc (.cells Z48 85)=W0 at*;have hC:=hS.rd;simp only[Zr,Zq] at hC;go_wp2_with fail;refine Yw (KF.out _ (HG.out.ex hS.ex) hS.boxes.2.2.1) fun w1 hx=>?_
 replace hS:=Zo.after (h:=hS) hx;clear hC;have hC:=hS.rd;simp only[Zr,Zq] at hC;go_upto_region 4 with fail;have hT:Zo w (w1.alloc (.cells #[x1,x2,x3,x4,x5,x6,x7,x8,x9,y1,y2,y3] 79)) _:=Zo.alloc (h:=hS);clear hC hS;have hC:=hT.rd;simp only[Zr,Zq] at hC;generalize w1.alloc _=W1 at*;have hr:=hT.boxes.2.1;have hE:=hT.ex;rcases ok with _|_
 ·go_wp2_with (refine wpList_store_row rfl _ _ _ rfl _ _ rfl rfl _ _ hr (Yy Yk) rfl Wi ?_);exact Zu (Ze results135 _ _ _ _ _ (0,0) _ rfl (hr.setRow _) underlying85 rfl (Yy Yk)) rfl ⟨rfl,hE.setRow (Nat.le_succ _) _⟩
 ·go_wp2_with fail;refine Yw (KT.out _ (HG.out.ex hT.ex)) fun w2 hx2=>?_
  replace hT:=Zo.after (h:=hT) hx2;clear hC hr hE;have hC:=hT.rd;simp only[Zr,Zq] at hC;have hr:=hT.boxes.2.1;have hE:=hT.ex;go_wp2_with (refine wpList_store_row rfl _ _ _ rfl _ _ rfl rfl _ _ hr (Yy HZ.out) (by rw[HZ.out];rfl) (Zb _) ?_);exact Zu (v:= .tuple #[.agg (Zm t),okt]) (Ze results135 _ _ _ _ _ (0,0) _ rfl (hr.setRow _) underlying85 rfl (Yy HZ.out)) rfl ⟨by simp only[reduceIte,HT.out,Sl],hE.setRow (Nat.le_succ _) _⟩
theorem Zvz(k:Int)(g n cap:Nat)(cur:Av)(hk:¬k=100)(r:M4×Bool)(hm:∀w,Box w g 3 cur→Calls prog 212 #[.agg #[.int .u8 k, .slice (some ⟨g,0,none⟩) n cap]] w (fun e w'=>e= .returned (m4v r)∧Ex w w'))(w:World)(hbox:Box w g 3 cur):Calls prog 223 #[.agg #[.int .u8 k, .slice (some ⟨g,0,none⟩) n cap]] w (fun e w'=>e= .returned (Sl (if r.2 then Vv r.1 else (Wt 16,false)))∧Ex w w'):=by
 rcases r with⟨⟨⟨x1,x2,x3⟩,⟨x4,x5,x6⟩,⟨x7,x8,x9⟩,⟨y1,y2,y3⟩⟩,ok⟩;simp only[m4v,M4.v] at hm;have k2:=fun w=>Bh ⟨⟨x1,x2,x3⟩,⟨x4,x5,x6⟩,⟨x7,x8,x9⟩,⟨y1,y2,y3⟩⟩ w
 rcases hT:Vv ⟨⟨x1,x2,x3⟩,⟨x4,x5,x6⟩,⟨x7,x8,x9⟩,⟨y1,y2,y3⟩⟩ with⟨t,okt⟩;have hl:=Qr ⟨⟨x1,x2,x3⟩,⟨x4,x5,x6⟩,⟨x7,x8,x9⟩,⟨y1,y2,y3⟩⟩;rw[hT] at hl k2;have hsz:(Zm t).size=48:=by rw[Yn,hl]
 simp only[Sl,M4.v] at k2;have KF:=Zz hm;have KT:=Zz k2;have HZ:=Zz hsz;have HT:=Zz hT;clear hm k2 hl hT hsz;have hR:Zo w w [(g,3,cur)]:=⟨Ex.refl w,hbox,trivial⟩
 clear hbox;go_in;go_upto_region 1 with fail;rw[We];have hS:Zo w ((w.alloc (.cells #[.int .u8 k, .slice (some ⟨g,0,none⟩) n cap] 193)).alloc (.cells Z48 85)) _:=inferInstance;clear hR;simp only[Zy] at hS;generalize (w.alloc (.cells #[.int .u8 k, .slice (some ⟨g,0,none⟩) n cap] 193)).alloc (.cells Z48 85)=W0 at*;have hC:=hS.rd;simp only[Zr,Zq] at hC;go_wp2_with fail;refine Yw (KF.out _ hS.boxes.2.2.1) fun w1 hx=>?_
 replace hS:=Zo.after (h:=hS) hx;clear hC;have hC:=hS.rd;simp only[Zr,Zq] at hC;go_upto_region 4 with fail;have hT:Zo w (w1.alloc (.cells #[x1,x2,x3,x4,x5,x6,x7,x8,x9,y1,y2,y3] 79)) _:=Zo.alloc (h:=hS);clear hC hS;have hC:=hT.rd;simp only[Zr,Zq] at hC;generalize w1.alloc _=W1 at*;have hr:=hT.boxes.2.1;have hE:=hT.ex;rcases ok with _|_
 ·go_wp2_with (refine wpList_store_row rfl _ _ _ rfl _ _ rfl rfl _ _ hr (Yy Yk) rfl Wi ?_);exact Zu (Ze results223 _ _ _ _ _ (0,0) _ rfl (hr.setRow _) underlying85 rfl (Yy Yk)) rfl ⟨rfl,hE.setRow (Nat.le_succ _) _⟩
 ·go_wp2_with fail;refine Yw (KT.out _) fun w2 hx2=>?_
  replace hT:=Zo.after (h:=hT) hx2;clear hC hr hE;have hC:=hT.rd;simp only[Zr,Zq] at hC;have hr:=hT.boxes.2.1;have hE:=hT.ex;go_wp2_with (refine wpList_store_row rfl _ _ _ rfl _ _ rfl rfl _ _ hr (Yy HZ.out) (by rw[HZ.out];rfl) (Zb _) ?_);exact Zu (v:= .tuple #[.agg (Zm t),okt]) (Ze results223 _ _ _ _ _ (0,0) _ rfl (hr.setRow _) underlying85 rfl (Yy HZ.out)) rfl ⟨by simp only[reduceIte,HT.out,Sl],hE.setRow (Nat.le_succ _) _⟩
end
section
open Go.RowKit

theorem Zsr(a b:Int):Tt 114 [a,b]=(if (Xu a b).2 then Vv (Xu a b).1 else (Wt 16,false)):=rfl
theorem Zsq(a b:Int):Tt 102 [a,b]=(if (Ww a b).2 then Vv (Ww a b).1 else (Wt 16,false)):=rfl
theorem Zsp(a b c:Int):Tt 119 [a,b,c]=(if (Xq a b c).2 then Vv (Xq a b c).1 else (Wt 16,false)):=rfl
theorem Zlr(a b:Int):Tt 97 [a,b]=(if (true:Bool) then Vv ⟨(flow a 0 b).1,Fr.nul,Fr.nul,(flow a 0 b).1⟩ else (Wt 16,false)):=by
 have e:Rk 97 [a,b]=(⟨(flow a 0 b).1,Fr.nul,Fr.nul,(flow a 0 b).1⟩,true):=by
  unfold Rk;rw[if_neg (by decide),if_neg (by decide),if_neg (by decide),if_pos rfl];unfold Bp;simp only[List.getD_cons_zero,List.getD_cons_succ]
 unfold Tt;rw[if_neg (by decide),e]
theorem Zso(a b:Int):Tt 100 [a,b]=Py (flow a 0 b).1:=rfl
theorem iTab(q:Pc)(hv:Wx q.k q.ns=true)(w:World)[hG:Xz w](hq:q.ok w):Calls prog 135 #[.agg #[.int .u8 q.k.toNat, .slice (some ⟨q.g,0,none⟩) q.ns.length q.cap,q.S]] w (fun e w'=>e= .returned (Sl (Tt q.k q.ns))∧Ex w w'):=by
 obtain⟨k,g,cap,cur,ns,S⟩:=q;obtain⟨hb,hc⟩:=hq;simp only at hv hb hc ⊢;rcases(Sd hv).2.2 with⟨hk,a,b,rfl, -⟩|⟨rfl,a,b,c,rfl, -, -⟩|⟨hk,a,b,rfl,h1,h2,h3,h4⟩
 ·have c0:cur[0]? =some (.int .i64 a):=hc 0 (by simp);have c1:cur[1]? =some (.int .i64 b):=hc 1 (by simp);rcases hk with rfl|rfl
  ·rw[Zsr];exact Zwa 114 g 2 cap cur S (by decide) (Xu a b) (fun w hG hb=>Zgq g 2 cap cur S a b (by omega) w hb c0 c1) w hb
  ·rw[Zsq];exact Zwa 102 g 2 cap cur S (by decide) (Ww a b) (fun w hG hb=>Zgo g 2 cap cur S a b (by omega) w hb c0 c1) w hb
 ·have c0:cur[0]? =some (.int .i64 a):=hc 0 (by simp);have c1:cur[1]? =some (.int .i64 b):=hc 1 (by simp);have c2:cur[2]? =some (.int .i64 c):=hc 2 (by simp);rw[Zsp];exact Zwa 119 g 3 cap cur S (by decide) (Xq a b c) (fun w hG hb=>Zgk g 3 cap cur S a b c (by omega) w hb c0 c1 c2) w hb
 ·have c0:cur[0]? =some (.int .i64 a):=hc 0 (by simp);have c1:cur[1]? =some (.int .i64 b):=hc 1 (by simp);rcases hk with rfl|rfl
  ·rw[Zlr];exact Zwa 97 g 2 cap cur S (by decide) (⟨(flow a 0 b).1,Fr.nul,Fr.nul,(flow a 0 b).1⟩,true) (fun w hG hb=>Zgm g 2 cap cur S a b (by omega) (by omega) (by omega) w hb c0 c1) w hb
  ·rw[Zso];exact Zan g 2 cap cur S a b (by omega) (by omega) (by omega) w hb c0 c1
theorem sTab(q:Pc)(hv:Wx q.k q.ns=true)(w:World)(hq:q.ok w):Calls prog 223 #[.agg #[.int .u8 q.k.toNat, .slice (some ⟨q.g,0,none⟩) q.ns.length q.cap]] w (fun e w'=>e= .returned (Sl (Tt q.k q.ns))∧Ex w w'):=by
 obtain⟨k,g,cap,cur,ns,S⟩:=q;obtain⟨hb,hc⟩:=hq;simp only at hv hb hc ⊢;rcases(Sd hv).2.2 with⟨hk,a,b,rfl, -⟩|⟨rfl,a,b,c,rfl, -, -⟩|⟨hk,a,b,rfl,h1,h2,h3,h4⟩
 ·have c0:cur[0]? =some (.int .i64 a):=hc 0 (by simp);have c1:cur[1]? =some (.int .i64 b):=hc 1 (by simp);rcases hk with rfl|rfl
  ·rw[Zsr];exact Zvz 114 g 2 cap cur (by decide) (Xu a b) (fun w hb=>Zgp g 2 cap cur a b (by omega) w hb c0 c1) w hb
  ·rw[Zsq];exact Zvz 102 g 2 cap cur (by decide) (Ww a b) (fun w hb=>Zgn g 2 cap cur a b (by omega) w hb c0 c1) w hb
 ·have c0:cur[0]? =some (.int .i64 a):=hc 0 (by simp);have c1:cur[1]? =some (.int .i64 b):=hc 1 (by simp);have c2:cur[2]? =some (.int .i64 c):=hc 2 (by simp);rw[Zsp];exact Zvz 119 g 3 cap cur (by decide) (Xq a b c) (fun w hb=>Zgj g 3 cap cur a b c (by omega) w hb c0 c1 c2) w hb
 ·have c0:cur[0]? =some (.int .i64 a):=hc 0 (by simp);have c1:cur[1]? =some (.int .i64 b):=hc 1 (by simp);rcases hk with rfl|rfl
  ·rw[Zlr];exact Zvz 97 g 2 cap cur (by decide) (⟨(flow a 0 b).1,Fr.nul,Fr.nul,(flow a 0 b).1⟩,true) (fun w hb=>Zgl g 2 cap cur a b (by omega) (by omega) (by omega) w hb c0 c1) w hb
  ·rw[Zso];exact Zam g 2 cap cur a b (by omega) (by omega) (by omega) w hb c0 c1
end
section
open Go.RowKit

def BnU(cells:List Pc→List Value)(w:World)(l:Ub):Ending→World→Prop:=fun e w'=>
 ∃(qs:List Pc) (A:Option Addr) (cap:Nat) (ok:Bool),e= .returned (.tuple #[.slice A qs.length cap,ok])∧qs.length≤12∧Slc w' A (cells qs)∧Pcs w' qs∧Ex w w'∧
  Hid (∀v,Wp l v=Px (qs.map Pc.p) 0 v (ok&&Uj v))∧Hid (∀q∈qs,Wx q.k q.ns=true)
theorem Zyj{l:Ub}{ps:List (UInt8×List Int)}(h:Ys l=some ps):ps.length≤12:=by
 by_cases hne:l=[]
 ·subst hne;rw[El] at h;injection h with h;subst h;simp
 ·exact(Tb h hne).2
theorem Pp.u{w:World}{l:Ub}{f:FuncId}{args:Av}(h:Calls prog f args w (Pp Xp w l)):Calls prog f args w (BnU Xp w l):=by
 refine h.mono ?_;rintro e w' (⟨qs,g,cap,hb,rfl,hs, -,hp,hx⟩|⟨hb,rfl,hx⟩)
 ·refine⟨qs,some ⟨g,0,none⟩,cap,true,rfl,by simpa using Zyj hb,Own.slc hs,hp,hx,Zz fun v=>by rw[Bool.true_and];exact Gh hb v,Zz fun q hq=>Tn hb q.p (List.mem_map_of_mem hq)⟩
 ·refine⟨[],none,0,false,rfl,by simp,Slc.nil _ _,Pcs.nil _,hx,Zz fun v=>Gg hb v,Zz fun q hq=>by cases hq⟩
theorem Zsn{qs:List Pc}{k:Nat}(hk:k<qs.length)(v:M4)(o:Bool){t:List Fr}{okt:Bool}{u:M4}{oku:Bool}(hT:Tt qs[k].k qs[k].ns=(t,okt))(hA:Tj t v=(u,oku)):
  Px (qs.map Pc.p) k v o=Px (qs.map Pc.p) (k+1) u (o&&okt&&oku):=by
 have h:=Zop (ps:=qs.map Pc.p) (i:=k) (by simpa using hk) v o;have e:(qs.map Pc.p)[k]'(by simpa using hk)=qs[k].p:=by simp
 rw[e] at h;have e1:Tt qs[k].p.1 qs[k].p.2=(t,okt):=hT;rw[e1] at h;simp only at h;rw[hA] at h;exact h
theorem Be{qs:List Pc}(v:M4)(o:Bool):Px (qs.map Pc.p) qs.length v o=if o then (v,true) else (M4.none,false):=by
 have:=Zkd (qs.map Pc.p) v o
 rwa[List.length_map] at this
structure BL(w wr:World)(n0:Nat)(A:Option Addr)(cells:List Value)(qs:List Pc)(vc:Av):Prop where
 sees:Zo w wr [(n0+1,35,Z12),(n0,35,vc)]
 slc:Slc wr A cells
 pcs:Pcs wr qs
section
variable {w wr w2:World} {n0:Nat} {A:Option Addr} {cells:List Value} {qs:List Pc} {vc:Av}
theorem BL.ex(h:BL w wr n0 A cells qs vc)(hx:Ex wr w2):BL w w2 n0 A cells qs vc:=⟨Zo.after (h:=h.sees) hx,h.slc.ex hx,h.pcs.ex hx⟩
theorem BL.store(h:BL w wr n0 A cells qs vc)(hlo:w.heap.size≤n0)(hv:Zax vc)(hc:Zlx cells)(x:Av):BL w (wr.setRow n0 x) n0 A cells qs x:=by
 have hb:=h.sees.boxes.2.1;refine⟨⟨h.sees.ex.setRow hlo x,h.sees.boxes.1.setRow_far (by simp) x,hb.setRow x,trivial⟩,?_,fun q hq=>⟨(h.pcs q hq).1.setRow_far ?_ x,(h.pcs q hq).2⟩⟩
 ·intro hp;obtain⟨b,off,rfl,hk⟩:=h.slc hp;refine⟨b,off,rfl,fun k hlt=>?_⟩;have hne:b≠n0:=by
   intro e;subst e;have h0:=hk 0 hp;rw[Nat.add_zero,hb.cell,List.getElem?_eq_getElem hp] at h0;obtain⟨n,hn⟩:=hv _ _ h0;obtain⟨m,hm⟩:=hc _ (List.getElem?_eq_getElem hp);rw[hn] at hm;injection hm with hm;cases hm
  rw[Kt hne];exact hk k hlt
 ·intro e;have h1:=(h.pcs q hq).1;rw[e] at h1;unfold Box at h1 hb;rw[hb] at h1;simp only[Option.some.injEq,Obj.cells.injEq] at h1;exact absurd h1.2.1 (by decide)
end
end
section
open Go.RowKit

attribute [local go_sem] Zg Zf
theorem Bd(l:Ub)(hl:l.length≤1048576)(v:M4)(w:World)[hG:Xz w](hm:Wn w):Calls prog 138 #[(Bs l),v.v] w (fun e w'=>e= .returned (m4v (Wp l v))∧Ex w w'):=by
 have kb:=fun w hm=>Pp.u (Ts l hl w hm)
 have kv:∀w,Calls prog 57 #[.agg #[v.a.re,v.a.im,v.a.den,v.b.re,v.b.im,v.b.den,v.c.re,v.c.im,v.c.den,v.d.re,v.d.im,v.d.den]] w fun e w'=>e= .returned (.bool (Uj v))∧Ex w w':=fun w=>Rg v.a v.b v.c v.d w
 unfold M4.v;generalize Bs l=S at*;have KB:=Zz kb;have KV:=Zz kv;have HG:=Zz hG;have HM:=Zz hm;clear hm;clear kb kv hl;clear hG;have hR:=Zo.refl w;go_in;go_upto_region 1 with fail;have hV:Zo w ((w.alloc (.cells #[v.a.re,v.a.im,v.a.den,v.b.re,v.b.im,v.b.den,v.c.re,v.c.im,v.c.den,v.d.re,v.d.im,v.d.den] 35)).alloc (.cells Oc 35)) _:=inferInstance;clear hR;simp only[Zy] at hV;generalize (w.alloc (.cells #[v.a.re,v.a.im,v.a.den,v.b.re,v.b.im,v.b.den,v.c.re,v.c.im,v.c.den,v.d.re,v.d.im,v.d.den] 35)).alloc (.cells Oc 35)=W0 at*;go_wp2_with fail;refine(KB.out _ (HM.out.ex hV.ex)).mono ?_;rintro e w1 ⟨qs,A,cap,ok0,rfl,hq12,hsl,hps,hx,HBR,HPV⟩;replace hV:=Zo.after (h:=hV) hx;clear hx KB HM;go_upto_region 2 with fail;go_cut [7] (fun s wx=>s= .bool (ok0&&Uj v)∧Ex w1 wx)
 case first=>
  have hC:=hV.rd;simp only[Zr,Zq] at hC;rcases ok0 with _|_
  ·go_wp2_with fail;go_meet
   exact⟨rfl,Ex.refl _⟩
  ·go_wp2_with (with_reducible refine Yw (KV.out _) fun w2 hx=>?_);go_meet
   exact⟨by rw[Bool.true_and],hx⟩
 case rest=>
  obtain⟨rfl,hx⟩:=hcut;have hB:BL w wc w.heap.size A (Xp qs) qs (Zm v.l):=⟨Zo.after (h:=hV) hx,hsl.ex hx,hps.ex hx⟩
  clear hV hx hsl hps KV;replace HBR:=Zz (HBR.out v);generalize (ok0&&Uj v)=o0 at HBR ⊢;have HQL:=Zz hq12;have HB0:=Zz hB;clear hB hq12;go_wp2_with fail;go_loopw [26,7,9,10,11,12,13] (fun i o _ _ _ _ _ wr=>∃(k:Nat) (u:M4) (ok:Bool),i= .int .i64 k∧o= .bool ok∧k≤qs.length∧Hid (Wp l v=Px (qs.map Pc.p) k u ok)∧Hid (BL w wr w.heap.size A (Xp qs) qs (Zm u.l))) (fun i _ _ _ _ _ _ _=>13-(intOf i).toNat)
  case atStart=>exact⟨0,v,o0,rfl,rfl,by omega,HBR,HB0⟩
  case round=>
   clear HB0 HBR;obtain⟨k,u,ok,rfl,rfl,hk,HR,HB⟩:=hrel;have hq12:=HQL.out;by_cases hlt:k<qs.length
   ·have hI:(k:Int)<(qs.length:Int):=by omega
    have hw5:=wr1 k (by omega);obtain⟨b,off,rfl,hc⟩:=HB.out.slc (by rw[Ws];omega);have hat:=Ol qs k hlt;have d0:=hc (3*k) (by rw[Ws];omega);have d1:=hc (3*k+1) (by rw[Ws];omega);have d2:=hc (3*k+2) (by rw[Ws];omega);rw[hat.1] at d0;rw[hat.2.1] at d1;rw[hat.2.2] at d2;rw[Nat.mul_comm 3 k] at d0 d1 d2;rw[←Nat.add_assoc] at d1 d2;have HST:=Zz (fun t okt x okx hT hA=>Zsn hlt u ok (t:=t) (okt:=okt) (u:=x) (oku:=okx) hT hA);have hmem:qs[k]∈qs:=List.getElem_mem hlt;have HV:=Zz (HPV.out _ hmem);have HO:=Zz (HB.out.pcs _ hmem);clear hc hat hmem;generalize qs[k]=q at*;have kt:=fun w (_:Xz w) ho=>iTab q HV.out w ho
    rcases hT:Tt q.k q.ns with⟨t,okt⟩;have htl:t.length=16:=by have:=Gj q.k q.ns;rw[hT] at this;exact this
    have hts:(Zm t).size=48:=by rw[Yn,htl]
    rcases hA:Tj t u with⟨x,okx⟩;have ka:=fun w=>Zta t htl u w
    have HR2:Hid (Wp l v=Px (qs.map Pc.p) (k+1) x (ok&&okt&&okx)):=Zz (HR.out.trans (HST.out t okt x okx hT hA));rw[hT] at kt;rw[hA] at ka;simp only[Sl,m4v,M4.l_arr] at kt ka;have hone:=Zb t;have hux:=Sz u.l;have hxs:=Pi x;have hus:=Pi u;have hxo:=Zb x.l;generalize Zm t=tc at*;generalize hvu:Zm u.l=uc at*;generalize hvx:Zm x.l=xc at*;have KT:=Zz kt;have KA:=Zz ka;have HX:=Zz hvx;have HTS:=Zz hts;have HXS:=Zz hxs;have HUS:=Zz hus;have HUX:=Zz hux;clear kt ka hT hA hvu hvx HST HR HV htl hts hxs hus hux;have hB:=HB.out;clear HB;go_upto_region 6 with fail;have b9:=Box.new wr #[.int .u8 q.k.toNat, .slice (some ⟨q.g,0,none⟩) q.ns.length q.cap,q.S] 169;replace hB:=hB.ex ((Ex.refl wr).alloc (.cells #[.int .u8 q.k.toNat, .slice (some ⟨q.g,0,none⟩) q.ns.length q.cap,q.S] 169));have HO1:=Zz (HO.out.ex ((Ex.refl wr).alloc (.cells #[.int .u8 q.k.toNat, .slice (some ⟨q.g,0,none⟩) q.ns.length q.cap,q.S] 169)));generalize wr.alloc _=W1 at*;have c9:=b9.cell;have z9:=b9.lt;clear d0 d1 d2 HO;go_wp2_with fail;refine(KT.out _ (HG.out.ex hB.sees.ex) HO1.out).mono ?_;clear HO1 b9 c9 z9;rintro e w2 ⟨rfl,hx⟩;go_upto_region 7 with(refine wpList_store_row rfl _ _ _ rfl _ _ rfl rfl _ _ (Box.new w2 _ _) (Yy HTS.out) (by rw[HTS.out];rfl) hone ?_);replace hB:=hB.ex (hx.trans (((Ex.refl w2).alloc (.cells Od 85)).setRow (Nat.le_refl _) tc));have bT:=(Box.new w2 Od 85).setRow tc;generalize (w2.alloc (.cells Od 85)).setRow w2.heap.size tc=W2 at*;clear hx hone;have b3:=hB.sees.boxes.2.1;go_wp2_with (first|(refine wpList_load_row rfl _ _ rfl _ rfl _ _ (0,0) _ bT underlying85 rfl (Yy HTS.out) ?_)|(refine wpList_load_row rfl _ _ rfl _ rfl _ _ (0,0) _ b3 underlying35 rfl (Rb HUS.out) ?_));refine Yw (KA.out _) fun w3 hx=>?_
    go_upto_region 8 with(refine wpList_store_row rfl _ _ _ rfl _ _ rfl rfl _ _ (Box.new w3 _ _) (Rb HXS.out) (by rw[HXS.out];rfl) hxo ?_);replace hB:=hB.ex (hx.trans (((Ex.refl w3).alloc (.cells Oc 35)).setRow (Nat.le_refl _) xc));have bX:=(Box.new w3 Oc 35).setRow xc;generalize (w3.alloc (.cells Oc 35)).setRow w3.heap.size xc=W3 at*;clear hx b3 bT;go_cut [7] (fun s wx=>s= .bool (ok&&okt&&okx)∧wx=W3)
    case first=>
     rcases ok with _|_<;>rcases okt with _|_<;>rcases okx with _|_
     all_goals
      go_wp2_with fail;go_meet
      exact⟨rfl,rfl⟩
    case rest=>
     obtain⟨rfl,rfl⟩:=hcut;have b3:=hB.sees.boxes.2.1;go_wp2_with (first|(refine wpList_load_row rfl _ _ rfl _ rfl _ _ (0,0) _ bX underlying35 rfl (Rb HXS.out) ?_)|(refine wpList_store_row rfl _ _ _ rfl _ _ rfl rfl _ _ b3 (Rb HXS.out) (by rw[HXS.out,HUS.out]) hxo ?_));have HB2:Hid (BL w (wc.setRow w.heap.size xc) w.heap.size (some ⟨b,off,none⟩) (Xp qs) qs (Zm x.l)):=Zz (by rw[HX.out];exact hB.store (Nat.le_refl _) HUX.out (Na qs) xc);clear hB b3 bX hxo;go_roundw
     case rel=>exact⟨k+1,x,_,by go_num,rfl,by omega,HR2,HB2⟩
     case measure=>simp[intOf]<;>omega
   ·obtain rfl:k=qs.length:=by omega
    have HE:=HR.out;rw[Be] at HE;have hI:¬((qs.length:Nat):Int)<(qs.length:Int):=by omega
    have hB:=HB.out;clear HB HR hlt hk HPV HQL hq12;have b4:=hB.sees.boxes.1;have b3:=hB.sees.boxes.2.1;have hE:=hB.sees.ex;have HEE:=Zz HE;clear HE;rcases ok with _|_
    ·have c4:=b4.cell;have f4:=b4.frozen;have z4:=b4.lt;unfold Z12 at c4;go_wp2;refine Zu (v:= .tuple #[.agg Oc,false]) ?_ rfl ⟨by rw[HEE.out];rfl,?_⟩
     ·simp[results,results138,go_sem,c4]
     ·(have:=Exi.mk hE;exact Exi.out)
    ·have hus:=Pi u;have huo:=Zb u.l;go_wp2_with (first|(refine wpList_load_row rfl _ _ rfl _ rfl _ _ (0,0) _ b3 underlying35 rfl (Rb hus) ?_)|(refine wpList_store_row rfl _ _ _ rfl _ _ rfl rfl _ _ b4 (Rb hus) rfl huo ?_));exact Zu (Ze results138 _ _ _ _ _ (0,0) _ rfl (b4.setRow _) underlying35 rfl (Rb hus)) rfl ⟨by rw[HEE.out];rfl,hE.setRow (Nat.le_succ _) _⟩
end
section
open Go.RowKit

attribute [local go_sem] Zg Zf
def Sb(c:Con):M4×Bool:=((Wp c.b (sof c.x c.y).1).1,(sof c.x c.y).2&&(Wp c.b (sof c.x c.y).1).2)
theorem Zvw{p:Nat}{ty':TypeId}{pos:String}{after:Array Edge}:Qu prog 35 {dst:=some p,op:= .alloc 35,type:=ty',pos:=pos,after:=after,guard:=none} p Oc:=⟨rfl,rfl,fun ρ w=>by simp[execOp,go_sem]⟩
theorem Zsc:(Tryz.prog.info? 35).map (·.size)=some 12:=by kernel_rfl
theorem Zsb(c:Con)(hl:c.b.length≤1048576)(bc:Nat)(w:World)(hG:Xz w)(hm:Wn w)(hb:Box w bc 55 c.cells):Calls prog 74 #[.pointer (some ⟨bc,0,none⟩)] w (fun e w'=>e= .returned (m4v (Sb c))∧Ex w w'):=by
 have k1:=fun w=>Zyk c.x c.y w
 have k2:=fun v w (_:Xz w) hm=>Bd c.b hl v w hm
 unfold Sb;rcases hv:sof c.x c.y with⟨v,okv⟩;rw[hv] at k1;replace k2:=k2 v;rcases hx:Wp c.b v with⟨x,okx⟩;rw[hx] at k2;clear hv hx;obtain⟨⟨a1,a2,a3⟩,⟨b1,b2,b3⟩,⟨c1,c2,c3⟩,⟨d1,d2,d3⟩⟩:=v;obtain⟨⟨e1,e2,e3⟩,⟨f1,f2,f3⟩,⟨g1,g2,g3⟩,⟨h1,h2,h3⟩⟩:=x;simp only[m4v,M4.v,jvv] at k1 k2 ⊢;have K1:=Zz k1;have K2:=Zz k2;have HM:=Zz hm;have HG:=Zz hG;clear k1 k2 hm hG;have hS:Zo w w [(bc,55,c.cells)]:=⟨Ex.refl w,hb,trivial⟩
 have hC:=hS.rd;simp only[Zr,Zq] at hC;unfold Con.cells at hC;have z0:=hb.lt;clear hb;have hle:=Nat.le_refl w.heap.size;go_in;go_upto_region 2 with((with_reducible apply Zo.see w;exact K1.out _);clear hS hC;intro w1 hS hC;simp only[Zr,Zq,Zy] at hC;unfold Con.cells at hC);replace hS:Zo w (w1.alloc (.cells #[a1,a2,a3,b1,b2,b3,c1,c2,c3,d1,d2,d3] 35)) _:=inferInstance;clear hC z0 K1 hle;have hS0:=hS;refine Rv hS0 9 1 35 6 23 Oc #[e1,e2,e3,f1,f2,f3,g1,g2,g3,h1,h2,h3] (by kernel_rfl) (by decide) ?_;iterate 5 (apply Zp;rfl;intro b u B Q q;have hS:=B.sees;have hC:=hS.rd;simp only[Zr,Zq] at hC;unfold Con.cells at hC;go_wp2;exact q _ (Ex.refl _) B;exact⟨_,rfl⟩)
 (apply Zp;rfl;intro b u B Q q;go_wp2_with (with_reducible refine Yw (K2.out _ (HG.out.ex (hS0.ex.trans B.sees.ex)) (HM.out.ex (hS0.ex.trans B.sees.ex))) fun wn hx=>?_);exact q _ hx (B.go hx);exact⟨_,rfl⟩);iterate 3 (apply Zp;rfl;intro b u B Q q;go_wp2;exact q _ (Ex.refl _) B;exact⟨_,rfl⟩)
 refine Zn ⟨⟨_,rfl,Zvw⟩,⟨_,rfl,Wy Zsc rfl (by kernel_rfl)⟩,show(6:Nat)<30 by decide,fun g0 wz hg0 hS=>?_⟩;simp only[Act.put,Zx,Zw,Zv,Nat.reduceAdd,List.drop_succ_cons,List.drop_zero];clear hS0;have hC:=hS.rd;simp only[Zr,Zq] at hC;have hE:=hS.ex;rcases okv with _|_<;>rcases okx with _|_
 all_goals
  go_wp2
 ·have:=Exi.mk hE
  exact Yp (v:= .tuple #[.agg #[e1,e2,e3,f1,f2,f3,g1,g2,g3,h1,h2,h3],false]) (by simp[results,results74,go_sem,hC]) rfl
 ·have:=Exi.mk hE
  exact Yp (v:= .tuple #[.agg #[e1,e2,e3,f1,f2,f3,g1,g2,g3,h1,h2,h3],false]) (by simp[results,results74,go_sem,hC]) rfl
 ·have:=Exi.mk hE
  exact Yp (v:= .tuple #[.agg #[e1,e2,e3,f1,f2,f3,g1,g2,g3,h1,h2,h3],false]) (by simp[results,results74,go_sem,hC]) rfl
 ·have:=Exi.mk hE
  exact Yp (v:= .tuple #[.agg #[e1,e2,e3,f1,f2,f3,g1,g2,g3,h1,h2,h3],true]) (by simp[results,results74,go_sem,hC]) rfl
theorem Ug{s:Ub}{m:Nat}{ns:List Int}(h:Yj s m=some ns):ns.length=m:=by
 unfold Yj at h;split at h
 ·split at h
  ·rename_i h2;injection h with h;subst h;exact h2
  ·cases h
 ·cases h
theorem Zvv{ns:List Int}(h:ns.length=2):∃p q,ns=[p,q]:=by
 match ns,h with
 |[p,q],_=>exact⟨p,q,rfl⟩
def Sx(c:Con)(r:Option (List Int)):Fr×Bool:=match r with
 |some [p,q]=>if (Sb c).2 then Qj p q (Sb c).1 else (Fr.none,false)
 |_=>(Fr.none,false)
def Nq(c:Con)(s:Ub):Ub:=if (Sx c (Yj s 2)).2&&(Sn [(Sx c (Yj s 2)).1]).2 then (Sn [(Sx c (Yj s 2)).1]).1 else [110,111]
theorem Zny(c:Con)(s:Ub):(Nq c s).length≤1000:=by
 unfold Nq;split
 ·have:=Ev [(Sx c (Yj s 2)).1]
  simp only[List.length_cons,List.length_nil] at this;omega
 ·simp
theorem Zfu{w:World}{lo cap:Nat}{A:Option Addr}{x:Fr}(h:Own w lo 30 3 (.slice A 1 cap) 1 [.int .i64 x.re, .int .i64 x.im, .int .i64 x.den]):Uq w A [x]:=by
 have:=Own.slc h
 simpa [Uq,Tg,Fr.cs] using this
theorem Znx(c:Con)(hl:c.b.length≤1048576)(s:Ub)(hl2:s.length≤1048576)(bc:Nat)(w:World)(hG:Xz w)(hm:Wn w)(hb:Box w bc 55 c.cells):Calls prog 26 #[.pointer (some ⟨bc,0,none⟩), .string ⟨#[109,101,116,101,114]⟩,(Bs s)] w (Uh bc w (c,Nq c s)):=by
 have k1:=fun w hm=>Jj s hl2 2 (by omega) w hm
 have k2:=fun w hG hm hb=>Zsb c hl bc w hG hm hb
 obtain⟨a,HA⟩:=nm (Nq c s);rw[←HA.out];unfold Nq at HA;have hn2:∀ns,Yj s 2=some ns→ns.length=2:=fun ns h=>Ug h
 obtain⟨S,HSS⟩:=nm (Bs s);rw[←HSS.out] at k1 ⊢;generalize Yj s 2=N at*;rcases hsto:Sb c with⟨v,okv⟩;rw[hsto] at k2;have hmf:∀p q,N=some [p,q]→Sx c N=if okv then Qj p q v else (Fr.none,false):=fun p q e=>by rw[e];simp only[Sx,hsto]
 have hmn:N=none→Sx c N=(Fr.none,false):=fun e=>by rw[e];rfl
 clear hsto hl2 hl;generalize Sx c N=MF at*;have k3:=fun p q b w (_:Xz w) hb=>Zsf p q v b w hb
 have HMF:=Zz hmf;have HMN:=Zz hmn;have HN2:=Zz hn2;have K1:=Zz k1;have K2:=Zz k2;have K3:=Zz k3;have HM:=Zz hm;have HG:=Zz hG;have HB:=Zz hb;clear hmf hmn hn2 k1 k2 k3 hm hG;have hS:Zo w w [(bc,55,c.cells)]:=⟨Ex.refl w,hb,trivial⟩
 have z0:=hb.lt;clear hb;go_in;go_upto_region 29 with fail;go_wp2_with fail;refine(K1.out _ HM.out).mono ?_;rintro e w1 (⟨ns,A,cap,hns,rfl,hO,hx⟩|⟨hns,rfl,hx⟩)
 ·obtain⟨p,q,rfl⟩:∃p q,ns=[p,q]:=Zvv (HN2.out _ hns);have hmf:=HMF.out p q hns;clear HMF HMN HN2 hns;obtain⟨g,rfl,hg1,hg2,hgc⟩:=hO.at (by simp);simp only[List.length_cons,List.length_nil] at hgc ⊢;have ce0:=hgc.1 0 (by simp);have ce1:=hgc.1 1 (by simp);simp only[List.getD_cons_zero,List.getD_cons_succ,Nat.zero_add] at ce0 ce1;replace hS:=hS.grow hx;have hbc:=hS.boxes.1;have hE1:=hS.ex;go_wp2_with fail;refine Yw (K2.out _ (HG.out.ex hE1) (HM.out.ex hE1) hbc) fun w2 hx2=>?_
  replace hS:=hS.grow hx2;replace ce0:=hx2.get ce0;replace ce1:=hx2.get ce1;have hg2b:=Nat.lt_of_lt_of_le hg2 hx2.size;have hE:=hS.ex;clear hx hx2 hbc hgc hO hE1;have HE:=Zz hE;have k3:=fun b w (_:Xz w) hb=>K3.out p q b w ‹_› hb
  clear K3;generalize Qj p q v=MR at hmf k3;obtain⟨⟨r1,r2,r3⟩,okr⟩:=MR;obtain⟨⟨a1,a2,a3⟩,⟨b1,b2,b3⟩,⟨c1,c2,c3⟩,⟨d1,d2,d3⟩⟩:=v;simp only[m4v,M4.v,Zfx] at k3 ⊢;have K3:=Zz k3;clear k3;rcases okv with _|_
  ·rw[hmf] at HA;simp only[Bool.false_and,Bool.false_eq_true,if_false] at HA;have e:=HA.out;subst e;clear HA K3 hmf ce0 ce1;go_wp2_with fail;refine Zu (v:= .tuple #[.string ⟨#[]⟩,false,true]) ?_ rfl (Xo HB.out rfl ?_)
   ·simp[results,results26,go_sem]
   ·(have:=Exi.mk hE;exact Exi.out)
  ·rw[hmf] at HA;simp only[if_true] at HA;clear hmf;have kt:=fun A cap w h ht=>Mb A [⟨r1,r2,r3⟩] cap w h (by simp) (by simp) ht
   rcases hT:Sn [⟨r1,r2,r3⟩] with⟨t,okt⟩;rw[hT] at kt HA;simp only at HA;clear hT;obtain⟨TS,HTS⟩:=nm (Bs t);have KT:Hid (∀(A:Option Addr) (cap:Nat) (w:World),Uq w A [⟨r1,r2,r3⟩]→Tab w→Calls prog 72 #[.slice A 1 cap] w fun e w'=>e= .returned (.tuple #[TS,okt])∧Ex w w'):=Zz (by rw[HTS.out];exact kt);clear kt;go_upto_region 32 with fail;have bV:=Box.new w2 #[a1,a2,a3,b1,b2,b3,c1,c2,c3,d1,d2,d3] 35;have hg3:g≠w2.heap.size:=Nat.ne_of_lt hg2b;replace hE:=hE.alloc (.cells #[a1,a2,a3,b1,b2,b3,c1,c2,c3,d1,d2,d3] 35);replace ce0:=((Ex.refl w2).alloc (.cells #[a1,a2,a3,b1,b2,b3,c1,c2,c3,d1,d2,d3] 35)).get ce0;replace ce1:=((Ex.refl w2).alloc (.cells #[a1,a2,a3,b1,b2,b3,c1,c2,c3,d1,d2,d3] 35)).get ce1;clear hS hg3 z0 hg1 hg2 hg2b;generalize w2.alloc (.cells #[a1,a2,a3,b1,b2,b3,c1,c2,c3,d1,d2,d3] 35)=W3 at*;generalize w2.heap.size=g3 at*;have de0:W3.cell? ⟨g3,0,none⟩=some (.int .i64 a1):=bV.cell 0;have de1:W3.cell? ⟨g3,1,none⟩=some (.int .i64 a2):=bV.cell 1;have de2:W3.cell? ⟨g3,2,none⟩=some (.int .i64 a3):=bV.cell 2;have de3:W3.cell? ⟨g3,3,none⟩=some (.int .i64 b1):=bV.cell 3;have de4:W3.cell? ⟨g3,4,none⟩=some (.int .i64 b2):=bV.cell 4;have de5:W3.cell? ⟨g3,5,none⟩=some (.int .i64 b3):=bV.cell 5;have de6:W3.cell? ⟨g3,6,none⟩=some (.int .i64 c1):=bV.cell 6;have de7:W3.cell? ⟨g3,7,none⟩=some (.int .i64 c2):=bV.cell 7;have de8:W3.cell? ⟨g3,8,none⟩=some (.int .i64 c3):=bV.cell 8;have de9:W3.cell? ⟨g3,9,none⟩=some (.int .i64 d1):=bV.cell 9;have de10:W3.cell? ⟨g3,10,none⟩=some (.int .i64 d2):=bV.cell 10;have de11:W3.cell? ⟨g3,11,none⟩=some (.int .i64 d3):=bV.cell 11;have hE3:=hE;clear bV;go_region_held3 (fun w'=>w'.cell? ⟨g,0,none⟩=some (.int .i64 p)∧w'.cell? ⟨g,1,none⟩=some (.int .i64 q)∧w'.cell? ⟨g3,0,none⟩=some (.int .i64 a1)∧w'.cell? ⟨g3,1,none⟩=some (.int .i64 a2)∧w'.cell? ⟨g3,2,none⟩=some (.int .i64 a3)∧w'.cell? ⟨g3,3,none⟩=some (.int .i64 b1)∧w'.cell? ⟨g3,4,none⟩=some (.int .i64 b2)∧w'.cell? ⟨g3,5,none⟩=some (.int .i64 b3)∧w'.cell? ⟨g3,6,none⟩=some (.int .i64 c1)∧w'.cell? ⟨g3,7,none⟩=some (.int .i64 c2)∧w'.cell? ⟨g3,8,none⟩=some (.int .i64 c3)∧w'.cell? ⟨g3,9,none⟩=some (.int .i64 d1)∧w'.cell? ⟨g3,10,none⟩=some (.int .i64 d2)∧w'.cell? ⟨g3,11,none⟩=some (.int .i64 d3)) (go_keep) ((go_at_call 17;(refine(K3.out _ _ (HG.out.ex ((hE.drew).alloc _)) (Box.new _ _ _)).mono ?_);rintro e w4 ⟨B,n,cp,rfl,hx4,hown⟩;have hY:=(((Ex.refl W3).drew).alloc _).trans hx4;replace hE:=hE.trans hY;replace ce0:=hY.get ce0;replace ce1:=hY.get ce1;replace de0:=hY.get de0;replace de1:=hY.get de1;replace de2:=hY.get de2;replace de3:=hY.get de3;replace de4:=hY.get de4;replace de5:=hY.get de5;replace de6:=hY.get de6;replace de7:=hY.get de7;replace de8:=hY.get de8;replace de9:=hY.get de9;replace de10:=hY.get de10;replace de11:=hY.get de11))
   clear de0 de1 de2 de3 de4 de5 de6 de7 de8 de9 de10 de11 ce0 ce1 hY;rcases okr with _|_
   ·simp only[Bool.false_and,Bool.false_eq_true,if_false] at HA;have e:=HA.out;subst e;clear HA;go_wp2_with fail;refine Zu (v:= .tuple #[.string ⟨#[]⟩,false,true]) ?_ rfl (Xo HB.out rfl ?_)
    ·simp[results,results26,go_sem]
    ·(have:=Exi.mk hE;exact Exi.out)
   ·obtain⟨rfl,hO⟩:=hown rfl;have HFR:=Zz (Zfu (x:=⟨r1,r2,r3⟩) hO);clear hO hown;go_wp2_with fail;refine Yw (KT.out _ _ _ HFR.out (HM.out.ex hE).tab) fun w5 hx5=>?_
    replace hE:=hE.trans hx5;rcases okt with _|_
    ·simp only[Bool.and_false,Bool.false_eq_true,if_false] at HA;have e:=HA.out;subst e;clear HA;go_wp2_with fail;refine Zu (v:= .tuple #[TS,false,true]) ?_ rfl (Xo HB.out rfl ?_)
     ·simp[results,results26,go_sem]
     ·(have:=Exi.mk hE;exact Exi.out)
    ·simp only[Bool.and_self,if_true] at HA;have e:=HA.out;subst e;clear HA;go_wp2_with fail;refine Zu (v:= .tuple #[TS,true,true]) ?_ rfl (Xo HB.out HTS.out ?_)
     ·simp[results,results26,go_sem]
     ·(have:=Exi.mk hE;exact Exi.out)
 ·rw[HMN.out hns] at HA;simp only[Bool.false_and,Bool.false_eq_true,if_false] at HA;have e:=HA.out;subst e;clear HA HMF HMN HN2;replace hS:=hS.grow hx;have hbc:=hS.boxes.1;go_wp2_with fail;refine Yw (K2.out _ (HG.out.ex hS.ex) (HM.out.ex hS.ex) hbc) fun w2 hx2=>?_
  obtain⟨⟨a1,a2,a3⟩,⟨b1,b2,b3⟩,⟨c1,c2,c3⟩,⟨d1,d2,d3⟩⟩:=v;simp only[m4v,M4.v];replace hS:=hS.grow hx2;have hE:=hS.ex;clear hx hx2 hbc;go_wp2_with fail;refine Zu (v:= .tuple #[.string ⟨#[]⟩,false,true]) ?_ rfl (Xo HB.out rfl ?_)
  ·simp[results,results26,go_sem]
  ·(have:=Exi.mk hE;exact Exi.out)
end
section
open Go.RowKit

attribute [local go_sem] Zg Zf
theorem join0(g cb:Nat)(w:World)(hg:g<w.heap.size):Calls prog 136 #[.slice (some ⟨g,0,none⟩) 0 cb, .string ⟨#[32]⟩] w fun e w'=>e= .returned (.string (Bs (Lib.join [] [32])))∧Ex w w':=by
 have h:=Tryz.strings_Join g 0 cb [] ⟨#[32]⟩ w (fun j x hx=>by simp at hx) hg (by simp) (by simp) (by simp[Lib.join_nil]);exact h.mono fun e w' ⟨h1,h2⟩=>⟨h1,h2⟩
theorem Zye{w:World}{A:Option Addr}{qs:List Pc}(h:Slc w A (Xp qs))(k:Nat)(hk:k<qs.length):∃b off,A=some ⟨b,off,none⟩∧w.cell? ⟨b,off+k*3,none⟩=some (.int .u8 qs[k].k.toNat)∧
  w.cell? ⟨b,off+k*3+1,none⟩=some (.slice (some ⟨qs[k].g,0,none⟩) qs[k].ns.length qs[k].cap)∧w.cell? ⟨b,off+k*3+2,none⟩=some (.string qs[k].S):=by
 have hl:=Ws qs;obtain⟨b,off,rfl,hc⟩:=h (by omega);obtain⟨h1,h2,h3⟩:=Ol qs k hk;refine⟨b,off,rfl,?_,?_,?_⟩
 ·rw[Nat.mul_comm k 3];exact(hc _ (by omega)).trans h1
 ·rw[Nat.add_assoc,Nat.mul_comm k 3];exact(hc _ (by omega)).trans h2
 ·rw[Nat.add_assoc,Nat.mul_comm k 3];exact(hc _ (by omega)).trans h3
theorem Zzp{qs:List Pc}{ls:List Ub}(h:qs.map Pc.S=ls.map Bs){k:Nat}(hk:k<qs.length):∃l,qs[k].S=Bs l∧ls.take (k+1)=ls.take k++[l]:=by
 have hl:qs.length=ls.length:=by simpa using congrArg List.length h
 have hk2:k<ls.length:=by omega
 refine⟨ls[k],?_,by rw[List.take_succ_eq_append_getElem hk2]⟩;have:=congrArg (fun x=>x[k]?) h
 simpa [hk,hk2] using this
theorem Eb(A:Option Addr)(qs:List Pc)(ls:List Ub)(cap:Nat)(w:World)(hS:Slc w A (Xp qs))(hT:qs.map Pc.S=ls.map Bs)(hn:qs.length≤100)(hj:(Lib.join ls [32]).length≤1048576):
  Calls prog 130 #[.slice A qs.length cap] w fun e w'=>e= .returned (.string (Bs (Lib.join ls [32])))∧Ex w w':=by
 have hlq:qs.length=ls.length:=by simpa using congrArg List.length hT
 have HLQ:=Zz hlq;have HTS:=Zz (fun k (hk:k<qs.length)=>Zzp hT hk);have HSL:=Zz hS;have HJ:=Zz hj;obtain⟨R,HR⟩:=nm (Bs (Lib.join ls [32]));rw[←HR.out];clear hT hlq hS hj;go_in;go_wp2;have hO:=Jq w _ (Nat.le_refl _);have hE:=(Ex.refl w).alloc (.cells #[] 9);have hz0:w.heap.size<(w.alloc (.cells #[] 9)).heap.size:=by rw[Zy];omega
 go_loopw [9,3,5] (fun i v p wr=>∃(k:Nat) (B:Option Addr) (cb:Nat) (ys:List Ub),k≤qs.length∧i= .int .i64 k∧v= .slice B ys.length cb∧Hid (ys=ls.take k)∧Hid (Pq wr w.heap.size B cb ys)∧Ex w wr∧Hid (k=0→B=some ⟨w.heap.size,0,none⟩)∧w.heap.size<wr.heap.size) (fun i _ _ _=>qs.length-(intOf i).toNat)
 case atStart=>exact⟨0,_,0,[],by omega,rfl,rfl,Zz (by simp),Zz hO,hE,Zz (fun _=>rfl),hz0⟩
 case round=>
  clear hO hE hz0;obtain⟨k,B,cb,ys,hk,rfl,rfl,HY,HO,hEr,HB,hzr⟩:=hrel;have hsz:=hEr.size;by_cases hlt:k<qs.length
  ·have hI:(k:Int)<(qs.length:Int):=by omega
   have hw5:=wr1 k (by omega);obtain⟨b,off,rfl,c1,c2,c3⟩:=Zye (HSL.out.ex hEr) k hlt;obtain⟨l,hl1,hl2⟩:=HTS.out k hlt;have hyl:ys.length≤1048576:=by rw[HY.out,List.length_take];omega
   have HYn:Hid (ys++[l]=ls.take (k+1)):=Zz (by rw[hl2,HY.out]);obtain⟨X,HX⟩:=nm (Bs l);rw[hl1,←HX.out] at c3;clear hl1 hl2 HB;generalize qs[k].k.toNat=q1 at c1;generalize qs[k].g=q2 at c2;generalize qs[k].ns.length=q3 at c2;generalize qs[k].cap=q4 at c2;go_upto_region 5 with fail;have HO2:=Zz (HO.out.ex ((Ex.refl wr).alloc (.cells #[.int .u8 q1, .slice (some ⟨q2,0,none⟩) q3 q4,X] 169)));have bP:=Box.new wr #[.int .u8 q1, .slice (some ⟨q2,0,none⟩) q3 q4,X] 169;have hE2:=hEr.alloc (.cells #[.int .u8 q1, .slice (some ⟨q2,0,none⟩) q3 q4,X] 169);have hs2:=hE2.size;have hz2:w.heap.size<(wr.alloc (.cells #[.int .u8 q1, .slice (some ⟨q2,0,none⟩) q3 q4,X] 169)).heap.size:=by rw[Zy];omega
   generalize wr.alloc (.cells #[.int .u8 q1, .slice (some ⟨q2,0,none⟩) q3 q4,X] 169)=w2 at*;have cP:=bP.cell;have zP:=bP.lt;clear c1 c2 c3 HO bP;go_wp2_with (at_builtin;refine Vq slS rfl _ _ w2 rfl w.heap.size B cb ys.length (Wh ys) [.string X] rfl (by simp[Value.oneCell']) rfl HO2.out rfl hyl hs2 ?_);intro A' cap' w' hown' hk';have hE3:=hk'.ex w hE2 (Nat.le_refl _);rw[HX.out] at hown';have HO3:=Zz (Pq.snoc (l:=l) hown');have hz3:=Nat.lt_of_lt_of_le hz2 hk'.size;clear hown' hk' cP zP;go_wp2;go_roundw
   case rel=>exact⟨k+1,A',cap',ys++[l],by omega,by go_num,by simp,HYn,HO3,hE3,Zz (fun h=>absurd h (by omega)),hz3⟩
   case measure=>simp[intOf];omega
  ·have e1:ys=ls:=by have:=HLQ.out;rw[HY.out,List.take_of_length_le (by omega)]
   have hI:¬(k:Int)<(qs.length:Int):=by omega
   have hjn:Calls prog 136 #[.slice B ys.length cb, .string ⟨#[32]⟩] wr fun e w'=>e= .returned (.string R)∧Ex wr w':=by
    rw[HR.out,←e1];by_cases h0:ys.length=0
    ·have hk0:k=0:=by rw[e1] at h0;have:=HLQ.out;omega
     rw[HB.out hk0,h0,List.eq_nil_of_length_eq_zero h0];exact join0 w.heap.size cb wr hzr
    ·exact Pq.join HO.out (by omega) (by rw[e1,←HLQ.out];omega) (by rw[e1];exact HJ.out)
   clear e1 HY HO HB hlt;go_wp2_with fail;refine hjn.mono ?_;rintro e w2 ⟨rfl,hx⟩;go_wp2;refine Zu (v:= .string R) ?_ rfl ⟨rfl,hEr.trans hx⟩;simp[results,results130,go_sem]
theorem Znv(xs ys:List Pc):Xp (xs++ys)=Xp xs++Xp ys:=by simp[Xp]
theorem Zjs(A:Option Addr)(qs:List Pc)(cap:Nat)(w:World)(hS:Slc w A (Xp qs))(hn:qs.length≤100):
  Calls prog 139 #[.slice A qs.length cap] w fun e w'=>∃(B:Option Addr) (cb:Nat),e= .returned (.slice B qs.length cb)∧Slc w' B (Xp qs.reverse)∧Ex w w':=by
 have HSL:=Zz hS;have HN:Hid (∀j,j<qs.length→∀hj2:qs.length-1-j<qs.length,(qs.reverse.take (j+1))=qs.reverse.take j++[qs[qs.length-1-j]'hj2]):=Zz fun j hj _=>by
  have h1:j<qs.reverse.length:=by simpa using hj
  rw[List.take_succ_eq_append_getElem h1,List.getElem_reverse]
 clear hS;go_in;have hw0:IntKind.i64.wrap ((qs.length:Int)-1)=(qs.length:Int)-1:=Zt _ (by omega);go_wp2;have hO:=Ow w w.heap.size 169 3 (Nat.le_refl _);have hE:=(Ex.refl w).alloc (.cells #[] 169);go_loopw [4,3] (fun i v wr=>∃(j:Nat) (B:Option Addr) (cb:Nat),j≤qs.length∧i= .int .i64 ((qs.length:Int)-1-j)∧v= .slice B j cb∧Hid (Own wr w.heap.size 169 3 (.slice B j cb) j (Xp (qs.reverse.take j)))∧Ex w wr) (fun i _ _=>((intOf i)+1).toNat)
 case atStart=>exact⟨0,_,0,by omega,by simp,rfl,Zz hO,hE⟩
 case round=>
  clear hO hE;obtain⟨j,B,cb,hj,rfl,rfl,HO,hEr⟩:=hrel;have hsz:=hEr.size;by_cases hlt:j<qs.length
  ·obtain⟨k,hk⟩:∃k:Nat,k=qs.length-1-j:=⟨_,rfl⟩
   have e1:(qs.length:Int)-1-j=(k:Int):=by omega
   rw[e1];have hkq:k<qs.length:=by omega
   have HKK:=Zz hk;clear hk;have hI:((k:Int)≥0):=by omega
   have hI2:¬(k:Int)<0:=by omega
   have hlI:(k:Int)<(qs.length:Int):=by omega
   have hw5:IntKind.i64.wrap ((k:Int)-1)=(k:Int)-1:=Zt _ (by omega);obtain⟨b,off,rfl,c1,c2,c3⟩:=Zye (HSL.out.ex hEr) k hkq;have HC:Hid (Xp (qs.reverse.take (j+1))=Xp (qs.reverse.take j)++[.int .u8 qs[k].k.toNat, .slice (some ⟨qs[k].g,0,none⟩) qs[k].ns.length qs[k].cap, .string qs[k].S]):=Zz (by
    have hk:=HKK.out;subst hk;rw[HN.out j hlt hkq,Ei];rfl)
   have hjl:j≤1048576:=by omega
   generalize qs[k].k.toNat=q1 at c1 HC;generalize qs[k].g=q2 at c2 HC;generalize qs[k].ns.length=q3 at c2 HC;generalize qs[k].cap=q4 at c2 HC;generalize qs[k].S=X at c3 HC;go_wp2_with (at_builtin;refine Vq Zbc rfl _ _ wr rfl w.heap.size B cb j (Xp (qs.reverse.take j)) [.int .u8 q1, .slice (some ⟨q2,0,none⟩) q3 q4, .string X] rfl (by intro u hu;simp only[List.mem_cons,List.not_mem_nil,or_false] at hu;rcases hu with rfl|rfl|rfl<;>rfl) rfl HO.out rfl hjl hsz ?_);intro A' cap' w' hown' hk';have hE3:=hk'.ex w hEr (Nat.le_refl _);rw[←HC.out] at hown';have HO3:=Zz hown';clear hown' hk' c1 c2 c3 HO;go_wp2;go_roundw
   case rel=>exact⟨j+1,A',cap',by omega,by congr 1;omega,rfl,HO3,hE3⟩
   case measure=>simp[intOf]<;>omega
  ·obtain rfl:j=qs.length:=by omega
   have e1:(qs.length:Int)-1-(qs.length:Nat)= -1:=by omega
   rw[e1];have HO2:Hid (Own wr w.heap.size 169 3 (.slice B qs.length cb) qs.length (Xp qs.reverse)):=Zz (by
    have h:=HO.out;rwa[List.take_of_length_le (by simp)] at h)
   clear hlt HO;go_wp2;refine Zu (v:= .slice B qs.length cb) ?_ rfl ⟨B,cb,rfl,Own.slc HO2.out,hEr⟩;simp[results,results139,go_sem]
def bw(l:Ub):List Ub:=if l=[] then [] else wds l
theorem Zvu(l:Ub):Zgx l=(bw l).map Bs:=by
 unfold Zgx bw;split<;>rfl
theorem Znu(l:Ub)(hl:l.length≤1048576)(w:World)(hm:Wn w):Calls prog 75 #[(Bs l)] w fun e w'=>e= .returned (.tuple #[.string (Bs (Ty l).1), .bool (Ty l).2])∧Ex w w':=by
 have KB:=Zz (Ts l hl w hm);obtain⟨R,HR⟩:=nm (Bs (Ty l).1);obtain⟨ok,HK⟩:=nm ((Ty l).2);rw[←HR.out,←HK.out];obtain⟨S,HS⟩:=nm (Bs l);rw[←HS.out] at KB ⊢;clear hm hl;go_in;go_wp2_with fail;refine KB.out.mono ?_;rintro e w1 (⟨qs,g,cap,hb,rfl,hO,hT, -,hx⟩|⟨hb,rfl,hx⟩)
 ·obtain⟨h1,h2⟩:=Ay hb;have hk:ok=true:=by rw[HK.out,h1]
  subst hk;have hj:R=Bs (Lib.join (bw l).reverse [32]):=by
   rw[HR.out];unfold Ty bw;rw[hb];simp only[Option.isSome_some,if_true];rw[At]
  have hjl:(Lib.join (bw l).reverse [32]).length≤1048576:=by
   have h3:=(Vx h2).1;have e:(Ty l).1=Lib.join (bw l).reverse [32]:=by
    unfold Ty bw;rw[hb];simp only[Option.isSome_some,if_true];rw[At]
   rw[←e];omega
  have hn:qs.length≤12:=by simpa using (Vx hb).2.2
  have hT2:qs.reverse.map Pc.S=(bw l).reverse.map Bs:=by rw[List.map_reverse,hT.out,Zvu,List.map_reverse]
  have HSL:=Zz (Own.slc hO);have HW:=Zz (fun(B:Option Addr) (cb:Nat) w h=>Eb B qs.reverse (bw l).reverse cb w h hT2 (by simp;omega) hjl);rw[←hj] at HW;rw[List.length_reverse] at HW;clear hj hjl hT2 hT hO h1 h2 hb KB HS;go_wp2_with fail;refine(Zjs _ qs cap w1 HSL.out (by omega)).mono ?_;rintro e w2 ⟨B,cb,rfl,hs2,hx2⟩;go_wp2_with fail;refine(HW.out B cb w2 hs2).mono ?_;rintro e w3 ⟨rfl,hx3⟩;go_wp2;refine Zu (v:= .tuple #[R,true]) ?_ rfl ⟨rfl,(hx.trans hx2).trans hx3⟩;simp[results,results75,go_sem]
 ·have e0:Ty l=([],false):=by unfold Ty;rw[hb];rfl
  have h1:ok=false:=by rw[HK.out,e0]
  have h2:R=⟨#[]⟩:=by rw[HR.out,e0];rfl
  subst h1 h2;clear e0 HR HK KB HS hb;go_wp2;refine Zu (v:= .tuple #[.string ⟨#[]⟩,false]) ?_ rfl ⟨rfl,hx⟩;simp[results,results75,go_sem]
theorem Zrv{T e:TypeId}{z:Value}{sz nb:Nat}(ht:SlT T e z sz nb){ops:Array Oper}{rest:List Oper}{o:Oper}{a:Act}{Q:Exit→Act→World→Prop}(hgd:o.guard=none)(s x:Operand)(w:World)
  (ho:o.op= .call {callee:= .builtin .append,args:=#[s,x],argTypes:=#[T,T]})
  (lo:Nat) (A:Option Addr) (cap n g m c:Nat) (cs us:List Value) (hul:us.length=m*sz) (h1:∀u∈us,u.oneCell'=true) (hs:a.eval s= .slice A n cap) (hown:Own w lo e sz (.slice A n cap) n cs)
  (hx:a.eval x= .slice (some ⟨g,0,none⟩) m c) (hcell:Slc w (some ⟨g,0,none⟩) us) (hlen:n+m≤1048576) (hlo:lo≤w.heap.size)
  (h:∀A' cap' w',Own w' lo e sz (.slice A' (n+m) cap') (n+m) (cs++us)→Qg lo e w w'→wpList prog ops Q rest (a.put o.dst (.slice A' (n+m) cap')) w'):wpList prog ops Q (o::rest) a w:=by
 obtain⟨i0,hi,hz0,hz1,hz2⟩:=info_parts ht.info;refine wpList_append_own w hgd s x T ho lo e i0 z sz nb ht.under hi hz0 hz1 hz2 ht.cells ht.pos _ n _ hs hown ⟨g,0,none⟩ m c us hx hul ?_ h1 (by unfold maxLen;omega) ?_ hlo ?_
 ·intro j u hj;have hp:0<us.length:=by
   rcases Nat.eq_zero_or_pos us.length with h0|h0
   ·rw[List.eq_nil_of_length_eq_zero h0] at hj;simp at hj
   ·exact h0
  obtain⟨b,off,hA,hc⟩:=hcell hp;simp only[Option.some.injEq,Addr.mk.injEq,and_true] at hA;obtain⟨rfl,rfl⟩:=hA;have hjl:j<us.length:=by
   rcases Nat.lt_or_ge j us.length with hl|hl
   ·exact hl
   ·rw[List.getElem?_eq_none hl] at hj;cases hj
  have hb:=hc j hjl;have e1:(Addr.add ⟨g,0,none⟩ j)=⟨g,0+j,none⟩:=by
   unfold Addr.add;simp;try (intro hj0;omega)
  rw[e1,hb,hj]
 ·have h2:(n+m)*nb≤1048576*1000:=Nat.mul_le_mul hlen ht.small;omega
 ·intro v' w' hown' hg _;obtain⟨A',cap',rfl, -⟩:=Own.form hown';exact h A' cap' w' hown' (Qg.of_grown (Ex.refl w) hown hg)
theorem Znt(qs:List Pc):∀u∈Xp qs,u.oneCell'=true:=fun u hu=>by
 obtain⟨q, -,hq⟩:=List.mem_flatMap.1 hu
 exact Zgy q u hq
theorem Hh(a b:Ub)(ha:a.length≤1048576)(hb:b.length≤1048576)(w:World)(hm:Wn w):Calls prog 67 #[(Bs a),(Bs b)] w fun e w'=>e= .returned (.tuple #[.string (Bs (Wk a b).1), .bool (Wk a b).2])∧Ex w w':=by
 have KA:=Zz (Ts a ha w hm);have KB:=Zz (fun w hm=>Ts b hb w hm);obtain⟨R,HR⟩:=nm (Bs (Wk a b).1);obtain⟨ok,HK⟩:=nm ((Wk a b).2);rw[←HR.out,←HK.out];generalize Bs a=S at*;generalize Bs b=T at*;have HM:=Zz hm;clear hm ha hb;have hno:Wk a b=([],false)→R=⟨#[]⟩∧ok=false:=fun e=>by rw[HR.out,HK.out,e];exact⟨rfl,rfl⟩
 have HNO:=Zz hno;clear hno;go_in;go_wp2_with fail;refine KA.out.mono ?_;rintro e w1 (⟨qa,ga,ca,hba,rfl,hOa,hTa, -,hx⟩|⟨hba,rfl,hx⟩)
 ·have HOa:=Zz hOa;have HBa:=Zz hba;clear hOa hba KA;go_wp2_with fail;refine(KB.out _ (HM.out.ex hx)).mono ?_;rintro e w2 (⟨qb,gb,cb,hbb,rfl,hOb,hTb, -,hx2⟩|⟨hbb,rfl,hx2⟩)
  ·have HOa2:=Zz (Own.ex HOa.out hx2);have HSb:=Zz (Own.slc hOb);have hE:=hx.trans hx2;have hna:qa.length≤12:=by simpa using (Vx HBa.out).2.2
   have hnb:qb.length≤12:=by simpa using (Vx hbb).2.2
   have hw5:IntKind.i64.wrap ((qa.length:Int)+(qb.length:Int))=(qa.length:Int)+(qb.length:Int):=Zt _ (by omega);by_cases h12:qa.length+qb.length≤12
   ·have hI:¬(12:Int)<(qa.length:Int)+(qb.length:Int):=by omega
    have hy:=Zjt HBa.out hbb (by simpa using h12);have hk:ok=true:=by rw[HK.out,hy]
    subst hk;have hj:R=Bs (Lib.join (bw a++bw b) [32]):=by
     rw[HR.out,hy];unfold bw;rw[Au]
    have hjl:(Lib.join (bw a++bw b) [32]).length≤1048576:=by
     unfold bw;rw[Au];have h3:=Ax HBa.out hbb;rw[if_pos (by simpa using h12)] at h3;have:=(Vx h3).1
     omega
    have hT2:(qa++qb).map Pc.S=(bw a++bw b).map Bs:=by rw[List.map_append,hTa.out,hTb.out,Zvu,Zvu,List.map_append]
    have HW:=Zz (fun(B:Option Addr) (c:Nat) w h=>Eb B (qa++qb) (bw a++bw b) c w h hT2 (by simp;omega) hjl);rw[←hj,List.length_append] at HW;have hsz:=hE.size;clear hj hjl hT2 hTa hTb hbb hOb hy KB HBa HOa h12 HNO;have HOC:=Zz (Ws qb);go_wp2_with (at_builtin;refine Zrv Zbc rfl _ _ w2 rfl w.heap.size (some ⟨ga,0,none⟩) ca qa.length gb qb.length cb (Xp qa) (Xp qb) (by rw[HOC.out,Nat.mul_comm]) (Znt qb) rfl HOa2.out rfl HSb.out (by omega) hsz ?_);intro A' cap' w3 hown' hk';have hE3:=hk'.ex w hE (Nat.le_refl _);rw[←Znv] at hown';have HS3:=Zz (Own.slc hown');clear hown' hk' HOa2 HSb;go_wp2_with fail;refine(HW.out A' cap' w3 HS3.out).mono ?_;rintro e w4 ⟨rfl,hx4⟩;go_wp2;refine Zu (v:= .tuple #[R,true]) ?_ rfl ⟨rfl,hE3.trans hx4⟩;simp[results,results67,go_sem]
   ·have hI:(12:Int)<(qa.length:Int)+(qb.length:Int):=by omega
    obtain⟨h1,h2⟩:=HNO.out (Znw HBa.out hbb (by simpa using (by omega:12<qa.length+qb.length)));subst h1 h2;clear hTa hTb hbb hOb KB HBa HOa HNO HOa2 HSb HR HK;go_wp2;refine Zu (v:= .tuple #[.string ⟨#[]⟩,false]) ?_ rfl ⟨rfl,hE⟩;simp[results,results67,go_sem]
  ·obtain⟨h1,h2⟩:=HNO.out (Zrw (.inr hbb));subst h1 h2;clear hTa hbb KB HBa HOa HNO HR HK;go_wp2;refine Zu (v:= .tuple #[.string ⟨#[]⟩,false]) ?_ rfl ⟨rfl,hx.trans hx2⟩;simp[results,results67,go_sem]
 ·obtain⟨h1,h2⟩:=HNO.out (Zrw (.inl hba));subst h1 h2;clear KA HNO HR HK;have hn0:Ys a=none:=hba;clear hba hn0;go_wp2_with fail;refine(KB.out _ (HM.out.ex hx)).mono ?_;rintro e w2 (⟨qb,gb,cb,hbb,rfl,hOb,hTb, -,hx2⟩|⟨hbb,rfl,hx2⟩);all_goals
   first|clear hbb hOb hTb|clear hbb
   go_wp2;refine Zu (v:= .tuple #[.string ⟨#[]⟩,false]) ?_ rfl ⟨rfl,hx.trans hx2⟩;simp[results,results67,go_sem]
end
section
open Go.RowKit

attribute [local go_sem] Zg Zf
theorem Pt(l:Ub)(hl:l.length≤1048576)(w:World):Calls prog 150 #[(Bs l)] w fun e w'=>e= .returned (.bool (Ys l).isSome)∧Ex w w':=by
  have KB:=Zz (Me l hl w);obtain⟨n,HN⟩:=nm ((Ys l).isSome);rw[←HN.out];generalize Bs l=S at*;clear hl;go_in;go_wp2_with fail;refine KB.out.mono ?_;rintro e w1 (⟨qs,A,cap,hbn,rfl,hsl,hps,hx⟩|⟨A,m,cap,hbn,rfl,hx⟩)
  · have hn:n=true:=by rw[HN.out,hbn];rfl
    subst hn;clear HN KB hsl hps hbn;go_wp2;go_ret;exact⟨rfl,hx⟩
  · have hn:n=false:=by rw[HN.out,hbn];rfl
    subst hn;clear HN KB hbn;go_wp2;go_ret;exact⟨rfl,hx⟩
theorem Zvt(l:Ub)(hl:l.length≤1048576)(w:World):Calls prog 35 #[(Bs l)] w fun e w'=>e= .returned (.int .i64 (Pw l))∧Ex w w':=by
  have KB:=Zz (Me l hl w);obtain⟨n,HN⟩:=nm (Pw l);rw[←HN.out];generalize Bs l=S at*;clear hl;go_in;go_wp2_with fail;refine KB.out.mono ?_;rintro e w1 (⟨qs,A,cap,hbn,rfl,hsl,hps,hx⟩|⟨A,m,cap,hbn,rfl,hx⟩)
  · have hn:n=(qs.length:Nat):=by rw[HN.out];unfold Pw;rw[hbn];simp
    subst hn;clear HN KB hsl hps hbn;go_wp2;go_ret;exact⟨rfl,hx⟩
  · have hn:n= -1:=by rw[HN.out];unfold Pw;rw[hbn]
    subst hn;clear HN KB hbn;go_wp2;go_ret;exact⟨rfl,hx⟩
theorem Zfs{ws:List Ub}{k:Nat}(hk:k<ws.length)(h0:0<k):Lib.join (ws.take (k+1)).reverse [32]=ws[k]++32::Lib.join (ws.take k).reverse [32]:=by
  rw[List.take_succ_eq_append_getElem hk,List.reverse_append,List.reverse_singleton,List.singleton_append,Lib.join_cons];cases hr:(ws.take k).reverse with
  |nil=>
    have:=congrArg List.length hr
    rw[List.length_reverse,List.length_take,List.length_nil] at this;omega
  |cons x xs=>rw[Qh]
theorem Zns(l:Ub)(hl:l.length≤1048576)(w:World):Calls prog 86 #[(Bs l)] w fun e w'=>e= .returned (.tuple #[.string (Bs (Ty l).1), .bool (Ty l).2])∧Ex w w':=by
  have KV:=Zz (fun w=>Pt l hl w);have KC:=Zz (fun w=>Zhe l hl w);obtain⟨R,HR⟩:=nm (Bs (Ty l).1);obtain⟨ok,HK⟩:=nm ((Ty l).2);rw[←HR.out,←HK.out];rcases hb:Ys l with _|ps
  · have e0:Ty l=([],false):=by unfold Ty;rw[hb];rfl
    have h1:ok=false:=by rw[HK.out,e0]
    have h2:R=⟨#[]⟩:=by rw[HR.out,e0];rfl
    subst h1 h2;rw[hb] at KV;simp only[Option.isSome_none] at KV;generalize Bs l=S at*;clear e0 HR HK hb KC;go_in;go_wp2_with fail;refine Yw (KV.out _) fun w1 hx=>?_
    go_wp2;refine Zu (v:= .tuple #[.string ⟨#[]⟩,false]) ?_ rfl ⟨rfl,hx⟩;simp[results,results86,go_sem]
  · have hk:ok=true:=by rw[HK.out,(Ay hb).1]
    subst hk;rw[hb] at KV;simp only[Option.isSome_some] at KV;have hr:R=Bs (Lib.join (wds l).reverse [32]):=by
      rw[HR.out];unfold Ty;rw[hb];rfl
    have HRR:=Zz hr;have hll:l.length≤191:=(Vx hb).1;have HWL:Hid (∀x∈wds l,x.length≤191):=Zz fun x hx=>Nat.le_trans (Mj l x hx) hll
    have hwn:(wds l).length≤192:=by have:=Da l;omega
    have hwp:0<(wds l).length:=List.length_pos_iff.2 (Tc l);generalize Bs l=S at*;clear hr HR HK hb;generalize wds l=ws at*;go_in;go_wp2_with fail;refine Yw (KV.out _) fun w1 hx=>?_
    go_wp2_with fail;refine(KC.out _).mono ?_;rintro e w2 ⟨g,gc,cur,rfl,hg,bG,HG,hx2⟩;have HE:=Zz (hx.trans hx2);have c0:=(bG.cell 0).trans (HG.out 0 hwp);have hzI:(0:Int)<(ws.length:Int):=by omega
    have HJ1:Hid (Bs ws[0]=Bs (Lib.join (ws.take 1).reverse [32])):=Zz (by
      cases ws with
      |nil=>simp at hwp
      |cons x t=>simp[Lib.join_one])
    have hz1:(Bs ws[0]).size≤200:=by rw[Yu];have:=HWL.out _ (List.getElem_mem hwp);omega
    generalize Bs ws[0]=O1 at*;have HBG:=Zz bG;clear hx hx2 hg KV KC;go_upto_region 6 with fail;clear c0 bG;go_loopw [6,5] (fun i o wr=>∃(k:Nat) (O:ByteArray),i= .int .i64 k∧1≤k∧k≤ws.length∧o= .string O∧Hid (O=Bs (Lib.join (ws.take k).reverse [32]))∧O.size≤200*k∧Hid (Ex w wr)∧Hid (Box wr g 9 cur)) (fun i _ _=>ws.length+1-(intOf i).toNat)
    case atStart=>exact⟨1,O1,rfl,by omega,by omega,rfl,HJ1,by omega,HE,HBG⟩
    case round=>
      clear HJ1 hz1 HE HBG;obtain⟨k,O,rfl,hk0,hk,rfl,HO,hOz,HE,HBG⟩:=hrel;by_cases hlt:k<ws.length
      · have c0:=(HBG.out.cell k).trans (HG.out k hlt);have hI:(k:Int)<(ws.length:Int):=by omega
        have hw5:=wr1 k (by omega);have HJ:Hid (Bs ws[k]++⟨#[32]⟩++O=Bs (Lib.join (ws.take (k+1)).reverse [32])):=Zz (by
          rw[Zfs hlt (by omega),HO.out];apply Te;simp[Mt,Bs])
        have hxz:(Bs ws[k]).size≤191:=by rw[Yu];exact HWL.out _ (List.getElem_mem hlt)
        generalize Bs ws[k]=X at*;have hz:(X++⟨#[32]⟩++O).size≤200*(k+1):=by
          rw[ByteArray.size_append,ByteArray.size_append,show(⟨#[32]⟩:ByteArray).size=1 from rfl];omega
        go_wp2;go_roundw
        case rel=>exact⟨k+1,X++⟨#[32]⟩++O,by go_num,by omega,by omega,rfl,HJ,hz,HE,HBG⟩
        case measure=>simp[intOf]<;>omega
      · have hI:¬(k:Int)<(ws.length:Int):=by omega
        have he:O=R:=by rw[HO.out,HRR.out,List.take_of_length_le (by omega)]
        subst he;clear hlt;go_wp2;refine Zu (v:= .tuple #[O,true]) ?_ rfl ⟨rfl,HE.out⟩;simp[results,results86,go_sem]
theorem Hg(a b:Ub)(ha:a.length≤500000)(hb:b.length≤500000)(w:World):Calls prog 160 #[(Bs a),(Bs b)] w fun e w'=>e= .returned (.tuple #[.string (Bs (Wk a b).1), .bool (Wk a b).2])∧Ex w w':=by
  have k1:=fun w=>Pt a (by omega) w
  have k2:=fun w=>Pt b (by omega) w
  have hbl:(Ra a b).length≤1048576:=by
    unfold Ra;split
    · omega
    · split
      · omega
      · simp;omega
  have k3:=fun w=>Pt (Ra a b) hbl w
  obtain⟨hS,hC⟩:=s0 w;have hq:Wk a b=if (Ys a).isSome&&(Ys b).isSome&&(Ys (Ra a b)).isSome then (Ra a b,true) else ([],false):=rfl
  have e0:Bs []=(⟨#[]⟩:ByteArray):=rfl;generalize hv1:(Ys a).isSome=v1 at*;generalize hv2:(Ys b).isSome=v2 at*;generalize hv3:(Ys (Ra a b)).isSome=v3 at*;obtain⟨R,HR⟩:=nm (Bs (Wk a b).1);obtain⟨ok,HK⟩:=nm ((Wk a b).2);rw[←HR.out,←HK.out];rw[hq] at HR HK;have hza:(Bs a).size≤500000:=by rw[Yu];exact ha
  have hzb:(Bs b).size≤500000:=by rw[Yu];exact hb
  have hcase:(Bs a=⟨#[]⟩∧Bs b=Bs (Ra a b)∧v2=v3)∨(¬Bs a=⟨#[]⟩∧Bs b=⟨#[]⟩∧Bs a=Bs (Ra a b)∧v1=v3)∨(¬Bs a=⟨#[]⟩∧¬Bs b=⟨#[]⟩∧Bs a++⟨#[32]⟩++Bs b=Bs (Ra a b)):=by
    rw[←hv1,←hv2,←hv3];unfold Ra;by_cases h1:a=[]
    · refine .inl ⟨by rw[h1];rfl,by rw[if_pos h1],by rw[if_pos h1]⟩
    · by_cases h2:b=[]
      · refine .inr (.inl ⟨Ih h1,by rw[h2];rfl,by rw[if_neg h1,if_pos h2],by rw[if_neg h1,if_pos h2]⟩)
      · refine .inr (.inr ⟨Ih h1,Ih h2,?_⟩);rw[if_neg h1,if_neg h2];apply Te;simp[Mt,Bs]
  clear hq hv1 hv2 hv3 hbl ha hb e0;obtain⟨T,HT⟩:=nm (Bs (Ra a b));rw[←HT.out] at k3 hcase;generalize Bs a=S at*;generalize Bs b=U at*;rcases hcase with⟨rfl,rfl,rfl⟩|⟨h1,rfl,rfl,rfl⟩|⟨h1,h2,rfl⟩
  all_goals
    first
      | (have hn1 : S.toList.isEmpty = false := by simpa using Ta h1
         have hm1:=Ta h1;clear h1)
      |skip
    first
      | (have hn2 : U.toList.isEmpty = false := by simpa using Ta h2
         have hm2:=Ta h2;clear h2)
      |skip
    have K1:=Zz k1;have K2:=Zz k2;have K3:=Zz k3;clear k1 k2 k3;rcases v1 with _|_
    rotate_left;rcases v2 with _|_
    rotate_left;try rcases v3 with _|_
    all_goals
      try rcases v2 with _|_
    all_goals
      have hk:=HK.out;have hr:=HR.out;simp only[Bool.and_false,Bool.false_and,Bool.and_self,Bool.false_eq_true,if_false,if_true] at hk hr;try rw[←HT.out] at hr
      subst hk hr;clear HK HR;go_in;go_wp2_with ((with_reducible apply Zo.see w;first|exact K1.out _|exact K2.out _|exact K3.out _);clear hS hC;intro wn hS hC;simp only[Zr,Zq,Zy] at hC);refine Zu ?_ rfl ⟨rfl,?_⟩
      · simp[results,results160,go_sem];try rfl
      · exact Exi.out
end
section
open Go.RowKit

attribute [local go_sem] Zg Zf
def Tr(c:Con)(r:Ub×Bool):Con×Ub:=if r.2 then (⟨r.1,c.x,c.y⟩,[111,107]) else (c,[110,111])
theorem Zjr(c:Con)(hl:c.b.length≤1048576) (bc:Nat)(w:World)(hG:Xz w)(hm:Wn w)(hb:Box w bc 55 c.cells):Calls prog 27 #[.pointer (some ⟨bc,0,none⟩), .string ⟨#[98,97,99,107]⟩] w (Uh bc w (Tr c (Ty c.b))):=by
 have c0:=hb.cell;unfold Con.cells at c0;have z0:=hb.lt;have k1:=fun w hm=>Znu c.b hl w hm
 obtain⟨r,HR⟩:=nm (Tr c (Ty c.b));rw[←HR.out];unfold Tr at HR;rcases hB:Ty c.b with⟨t,ok⟩;rw[hB] at k1 HR;simp only at k1 HR;obtain⟨T,HT⟩:=nm (Bs t);rw[←HT.out] at k1;generalize Bs c.b=S at k1 c0;have K1:=Zz k1;have HM:=Zz hm;have HB:=Zz hb;clear k1 hm hb hB hl hG;go_in;go_wp2_with fail;refine Yw (K1.out _ HM.out) fun w1 hx=>?_
 clear c0 z0;go_wp2_with fail;refine(Le c T t HT.out ok bc _ (HB.out.ex hx)).mono ?_;rintro e w2 ⟨rfl,hg,hb2⟩;have HB2:=Zz hb2;have HGr:=Zz (Uz (Ns hx (some bc)) hg);clear hx hg hb2;rcases ok with _|_
 all_goals
  have e:=HR.out;simp only[Bool.false_eq_true,if_false,if_true] at e HB2;subst e;go_wp2
 ·refine Zu (v:= .tuple #[.string ⟨#[111,107]⟩,false,true]) ?_ rfl ⟨_,_,_,rfl,rfl,HGr.out,HB2.out⟩;simp[results,results27,go_sem]
 ·refine Zu (v:= .tuple #[.string ⟨#[111,107]⟩,true,true]) ?_ rfl ⟨_,_,_,rfl,rfl,HGr.out,HB2.out⟩;simp[results,results27,go_sem]
theorem Zfr(c:Con)(hl:c.b.length≤1048576)(s:Ub)(hl2:s.length≤1048576)(bc:Nat)(w:World)(hG:Xz w)(hm:Wn w)(hb:Box w bc 55 c.cells):Calls prog 26 #[.pointer (some ⟨bc,0,none⟩), .string ⟨#[97,100,100]⟩,(Bs s)] w (Uh bc w (Tr c (Wk c.b s))):=by
 have c0:=hb.cell;unfold Con.cells at c0;have z0:=hb.lt;have k1:=fun w hm=>Hh c.b s hl hl2 w hm
 obtain⟨r,HR⟩:=nm (Tr c (Wk c.b s));rw[←HR.out];unfold Tr at HR;rcases hB:Wk c.b s with⟨t,ok⟩;rw[hB] at k1 HR;simp only at k1 HR;obtain⟨T,HT⟩:=nm (Bs t);rw[←HT.out] at k1;generalize Bs c.b=S at k1 c0;generalize Bs s=S2 at k1 ⊢;have K1:=Zz k1;have HM:=Zz hm;have HB:=Zz hb;clear k1 hm hb hB hl hG hl2;go_in;go_wp2_with fail;refine Yw (K1.out _ HM.out) fun w1 hx=>?_
 clear c0 z0;go_wp2_with fail;refine(Le c T t HT.out ok bc _ (HB.out.ex hx)).mono ?_;rintro e w2 ⟨rfl,hg,hb2⟩;have HB2:=Zz hb2;have HGr:=Zz (Uz (Ns hx (some bc)) hg);clear hx hg hb2;rcases ok with _|_
 all_goals
  have e:=HR.out;simp only[Bool.false_eq_true,if_false,if_true] at e HB2;subst e;go_wp2
 ·refine Zu (v:= .tuple #[.string ⟨#[111,107]⟩,false,true]) ?_ rfl ⟨_,_,_,rfl,rfl,HGr.out,HB2.out⟩;simp[results,results26,go_sem]
 ·refine Zu (v:= .tuple #[.string ⟨#[111,107]⟩,true,true]) ?_ rfl ⟨_,_,_,rfl,rfl,HGr.out,HB2.out⟩;simp[results,results26,go_sem]
theorem Vp{u l:Ub}(h:u≠l):((Bs u).toList==l)=false:=by
 rw[beq_eq_false_iff_ne,Lib.toList_data];simpa [Bs] using h
theorem Zjq(c:Con)(hl:c.b.length≤1048576)(u:Ub)(hu:u∉[[98,97,99,107],[115,104,111,119],[114,117,110],[114,101,97,100],[112,111,119,101,114],[107,101,101,112,115],[115,117,109]]) (bc:Nat)(w:World)(hG:Xz w)(hm:Wn w)(hb:Box w bc 55 c.cells):Calls prog 27 #[.pointer (some ⟨bc,0,none⟩),(Bs u)] w (Uh bc w (c,[119,104,97,116])):=by
 have n0:((Bs u).toList==[98,97,99,107])=false:=Vp (fun e=>hu (by rw[e];decide));have n1:((Bs u).toList==[115,104,111,119])=false:=Vp (fun e=>hu (by rw[e];decide));have n2:((Bs u).toList==[114,117,110])=false:=Vp (fun e=>hu (by rw[e];decide));have n3:((Bs u).toList==[114,101,97,100])=false:=Vp (fun e=>hu (by rw[e];decide));have n4:((Bs u).toList==[112,111,119,101,114])=false:=Vp (fun e=>hu (by rw[e];decide));have n5:((Bs u).toList==[107,101,101,112,115])=false:=Vp (fun e=>hu (by rw[e];decide));have n6:((Bs u).toList==[115,117,109])=false:=Vp (fun e=>hu (by rw[e];decide));have HB:=Zz hb;generalize Bs u=U at*;have hE:=Ex.refl w;clear hb hm hG hl hu;go_in;go_wp2;refine Zu (v:= .tuple #[.string ⟨#[]⟩,false,false]) ?_ rfl (Xo HB.out rfl ?_)
 ·simp[results,results27,go_sem]
 ·(have:=Exi.mk hE;exact Exi.out)
theorem Zjp(c:Con)(hl:c.b.length≤1048576)(u:Ub)(hu:u∉[[98,101,110,99,104],[97,100,100],[116,117,114,110],[108,105,103,104,116],[114,111,119],[112,111,114,116],[109,101,116,101,114]])(s:Ub)(bc:Nat)(w:World)(hG:Xz w)(hm:Wn w)(hb:Box w bc 55 c.cells):Calls prog 26 #[.pointer (some ⟨bc,0,none⟩),(Bs u),(Bs s)] w (Uh bc w (c,[119,104,97,116])):=by
 have n0:((Bs u).toList==[98,101,110,99,104])=false:=Vp (fun e=>hu (by rw[e];decide));have n1:((Bs u).toList==[97,100,100])=false:=Vp (fun e=>hu (by rw[e];decide));have n2:((Bs u).toList==[116,117,114,110])=false:=Vp (fun e=>hu (by rw[e];decide));have n3:((Bs u).toList==[108,105,103,104,116])=false:=Vp (fun e=>hu (by rw[e];decide));have n4:((Bs u).toList==[114,111,119])=false:=Vp (fun e=>hu (by rw[e];decide));have n5:((Bs u).toList==[112,111,114,116])=false:=Vp (fun e=>hu (by rw[e];decide));have n6:((Bs u).toList==[109,101,116,101,114])=false:=Vp (fun e=>hu (by rw[e];decide));have HB:=Zz hb;generalize Bs u=U at*;generalize Bs s=S at*;have hE:=Ex.refl w;clear hb hm hG hl hu;go_in;go_wp2;refine Zu (v:= .tuple #[.string ⟨#[]⟩,false,false]) ?_ rfl (Xo HB.out rfl ?_)
 ·simp[results,results26,go_sem]
 ·(have:=Exi.mk hE;exact Exi.out)
def Ea(c:Con):Ub:=if (Jh (Sb c).1.a (Sb c).1.b (Sb c).1.c (Sb c).1.d).2&&(Sb c).2 then (Jh (Sb c).1.a (Sb c).1.b (Sb c).1.c (Sb c).1.d).1 else [110,111]
theorem Zjo(c:Con)(hl:c.b.length≤1048576) (bc:Nat)(w:World)(hG:Xz w)(hm:Wn w)(hb:Box w bc 55 c.cells):Calls prog 27 #[.pointer (some ⟨bc,0,none⟩), .string ⟨#[114,101,97,100]⟩] w (Uh bc w (c,Ea c)):=by
 have k1:=fun w hG hm hb=>Zsb c hl bc w hG hm hb
 obtain⟨a,HA⟩:=nm (Ea c);rw[←HA.out];unfold Ea at HA;rcases hv:Sb c with⟨⟨v1,v2,v3,v4⟩,okv⟩;rw[hv] at k1 HA;simp only at HA;clear hv hl;have k2:=fun w ht=>Zsd v1 v2 v3 v4 w ht
 generalize Jh v1 v2 v3 v4=T at HA k2;obtain⟨t,okt⟩:=T;unfold Zkn at k2;simp only at k2 HA;obtain⟨a1,a2,a3⟩:=v1;obtain⟨b1,b2,b3⟩:=v2;obtain⟨c1,c2,c3⟩:=v3;obtain⟨d1,d2,d3⟩:=v4;simp only[m4v,M4.v,Sv] at k1 k2;obtain⟨TS,HTS⟩:=nm (Bs t);rw[←HTS.out] at k2;have K1:=Zz k1;have K2:=Zz k2;have HM:=Zz hm;have HG:=Zz hG;have HB:=Zz hb;clear k1 k2 hm hG hb;obtain⟨hS,hC⟩:=s0 w;go_in;go_upto_region 17 with((with_reducible apply Zo.see w;first|exact K1.out _ HG.out HM.out HB.out|exact K2.out _ (HM.out.ex (hS.ex.alloc _)).tab);clear hS hC;intro wn hS hC;simp only[Zr,Zq,Zy] at hC);have hE:=hS.ex;have e:=HA.out;rcases okt with _|_<;>rcases okv with _|_
 all_goals
  simp only[Bool.false_and,Bool.and_false,Bool.and_self,Bool.false_eq_true,if_false,if_true] at e;subst e;try go_wp2
 ·refine Zu (v:= .tuple #[TS,false,true]) ?_ rfl (Xo HB.out rfl ?_)
  ·simp[results,results27,go_sem,hC]
  ·(have:=Exi.mk hE;exact Exi.out)
 ·refine Zu (v:= .tuple #[TS,false,true]) ?_ rfl (Xo HB.out rfl ?_)
  ·simp[results,results27,go_sem,hC]
  ·(have:=Exi.mk hE;exact Exi.out)
 ·refine Zu (v:= .tuple #[TS,false,true]) ?_ rfl (Xo HB.out rfl ?_)
  ·simp[results,results27,go_sem,hC]
  ·(have:=Exi.mk hE;exact Exi.out)
 ·refine Zu (v:= .tuple #[TS,true,true]) ?_ rfl (Xo HB.out HTS.out ?_)
  ·simp[results,results27,go_sem,hC]
  ·(have:=Exi.mk hE;exact Exi.out)
end
section
open Go.RowKit

attribute [local go_sem] Zg Zf
theorem As(l:Ub)(hl:l.length≤1048576)(v:M4)(w:World):Calls prog 215 #[(Bs l),v.v] w (fun e w'=>e= .returned (m4v (Wp l v))∧Ex w w'):=by
 have kb:=fun w=>Me l hl w
 have kv:∀w,Calls prog 225 #[.agg #[v.a.re,v.a.im,v.a.den,v.b.re,v.b.im,v.b.den,v.c.re,v.c.im,v.c.den,v.d.re,v.d.im,v.d.den]] w fun e w'=>e= .returned (.bool (Uj v))∧Ex w w':=fun w=>Pb v.a v.b v.c v.d w
 unfold M4.v;generalize Bs l=S at*;have KB:=Zz kb;have KV:=Zz kv;clear kb kv hl;have hR:=Zo.refl w;go_in;go_upto_region 1 with fail;have hV:Zo w ((w.alloc (.cells #[v.a.re,v.a.im,v.a.den,v.b.re,v.b.im,v.b.den,v.c.re,v.c.im,v.c.den,v.d.re,v.d.im,v.d.den] 35)).alloc (.cells Oc 35)) _:=inferInstance;clear hR;simp only[Zy] at hV;generalize (w.alloc (.cells #[v.a.re,v.a.im,v.a.den,v.b.re,v.b.im,v.b.den,v.c.re,v.c.im,v.c.den,v.d.re,v.d.im,v.d.den] 35)).alloc (.cells Oc 35)=W0 at*;go_wp2_with fail;refine(KB.out _).mono ?_;rintro e w1 (⟨qs,A,cap,hbn,rfl,hsl,hps,hx⟩|⟨A,n,cap,hbn,rfl,hx⟩)
 ·have HBR:Hid (Wp l v=Px (qs.map Pc.p) 0 v (Uj v)):=Zz (Gh hbn v);have hq12:qs.length≤12:=by simpa using Zyj hbn
  have HPV:Hid (∀q∈qs,Wx q.k q.ns=true):=Zz fun q hq=>Tn hbn q.p (List.mem_map_of_mem hq)
  clear hbn;replace hV:=Zo.after (h:=hV) hx;clear hx KB;go_upto_region 2 with fail;go_cut [7] (fun s wx=>s= .bool (true&&Uj v)∧Ex w1 wx)
  case first=>
   have hC:=hV.rd;simp only[Zr,Zq] at hC;go_wp2_with (with_reducible refine Yw (KV.out _) fun w2 hx=>?_);go_meet
   exact⟨by rw[Bool.true_and],hx⟩
  case rest=>
   obtain⟨rfl,hx⟩:=hcut;have hB:BL w wc w.heap.size A (Vr qs) qs (Zm v.l):=⟨Zo.after (h:=hV) hx,hsl.ex hx,hps.ex hx⟩
   clear hV hx hsl hps KV;rw[Bool.true_and];generalize Uj v=o0 at HBR ⊢;have HQL:=Zz hq12;have HB0:=Zz hB;clear hB hq12;go_wp2_with fail;go_loopw [8,7,9,10,11,12] (fun i o _ _ _ _ wr=>∃(k:Nat) (u:M4) (ok:Bool),i= .int .i64 k∧o= .bool ok∧k≤qs.length∧Hid (Wp l v=Px (qs.map Pc.p) k u ok)∧Hid (BL w wr w.heap.size A (Vr qs) qs (Zm u.l))) (fun i _ _ _ _ _ _=>13-(intOf i).toNat)
   case atStart=>exact⟨0,v,o0,rfl,rfl,by omega,HBR,HB0⟩
   case round=>
    clear HB0 HBR;obtain⟨k,u,ok,rfl,rfl,hk,HR,HB⟩:=hrel;have hq12:=HQL.out;by_cases hlt:k<qs.length
    ·rcases ok with _|_
     ·have HE:=HR.out;rw[show Px (qs.map Pc.p) k u false=(M4.none,false) from rfl] at HE;have hI:(k:Int)<(qs.length:Int):=by omega
      have hE:=HB.out.sees.ex;have b4:=HB.out.sees.boxes.1;have HEE:=Zz HE;clear HB HR HE;have c4:=b4.cell;have f4:=b4.frozen;have z4:=b4.lt;unfold Z12 at c4;go_wp2;refine Zu (v:= .tuple #[.agg Oc,false]) ?_ rfl ⟨by rw[HEE.out];rfl,?_⟩
      ·simp[results,results215,go_sem,c4]
      ·(have:=Exi.mk hE;exact Exi.out)
     ·have hI:(k:Int)<(qs.length:Int):=by omega
      have hw5:=wr1 k (by omega);obtain⟨b,off,rfl,hc⟩:=HB.out.slc (by rw[Vb];omega);have hat:=Mf qs k hlt;have d0:=hc (2*k) (by rw[Vb];omega);have d1:=hc (2*k+1) (by rw[Vb];omega);rw[hat.1] at d0;rw[hat.2] at d1;rw[Nat.mul_comm 2 k] at d0 d1;rw[←Nat.add_assoc] at d1;have HST:=Zz (fun t okt x okx hT hA=>Zsn hlt u true (t:=t) (okt:=okt) (u:=x) (oku:=okx) hT hA);have hmem:qs[k]∈qs:=List.getElem_mem hlt;have HV:=Zz (HPV.out _ hmem);have HO:=Zz (HB.out.pcs _ hmem);clear hc hat hmem;generalize qs[k]=q at*;have kt:=fun w ho=>sTab q HV.out w ho
      rcases hT:Tt q.k q.ns with⟨t,okt⟩;have htl:t.length=16:=by have:=Gj q.k q.ns;rw[hT] at this;exact this
      have hts:(Zm t).size=48:=by rw[Yn,htl]
      rcases hA:Tj t u with⟨x,okx⟩;have ka:=fun w=>Zsw t htl u w
      have HR2:Hid (Wp l v=Px (qs.map Pc.p) (k+1) x (okt&&okx)):=Zz (HR.out.trans (HST.out t okt x okx hT hA));rw[hT] at kt;rw[hA] at ka;simp only[Sl,m4v,M4.l_arr] at kt ka;have hone:=Zb t;have hux:=Sz u.l;have hxs:=Pi x;have hus:=Pi u;have hxo:=Zb x.l;generalize Zm t=tc at*;generalize hvu:Zm u.l=uc at*;generalize hvx:Zm x.l=xc at*;have KT:=Zz kt;have KA:=Zz ka;have HX:=Zz hvx;have HTS:=Zz hts;have HXS:=Zz hxs;have HUS:=Zz hus;have HUX:=Zz hux;clear kt ka hT hA hvu hvx HST HR HV htl hts hxs hus hux;have hB:=HB.out;clear HB;go_wp2_with fail;refine(KT.out _ HO.out).mono ?_;clear HO d0 d1;rintro e w2 ⟨rfl,hx⟩;go_upto_region 7 with(refine wpList_store_row rfl _ _ _ rfl _ _ rfl rfl _ _ (Box.new w2 _ _) (Yy HTS.out) (by rw[HTS.out];rfl) hone ?_);replace hB:=hB.ex (hx.trans (((Ex.refl w2).alloc (.cells Od 85)).setRow (Nat.le_refl _) tc));have bT:=(Box.new w2 Od 85).setRow tc;generalize (w2.alloc (.cells Od 85)).setRow w2.heap.size tc=W2 at*;clear hx hone;have b3:=hB.sees.boxes.2.1;go_wp2_with (first|(refine wpList_load_row rfl _ _ rfl _ rfl _ _ (0,0) _ bT underlying85 rfl (Yy HTS.out) ?_)|(refine wpList_load_row rfl _ _ rfl _ rfl _ _ (0,0) _ b3 underlying35 rfl (Rb HUS.out) ?_));refine Yw (KA.out _) fun w3 hx=>?_
      go_upto_region 8 with(refine wpList_store_row rfl _ _ _ rfl _ _ rfl rfl _ _ (Box.new w3 _ _) (Rb HXS.out) (by rw[HXS.out];rfl) hxo ?_);replace hB:=hB.ex (hx.trans (((Ex.refl w3).alloc (.cells Oc 35)).setRow (Nat.le_refl _) xc));have bX:=(Box.new w3 Oc 35).setRow xc;generalize (w3.alloc (.cells Oc 35)).setRow w3.heap.size xc=W3 at*;clear hx b3 bT;go_cut [7] (fun s wx=>s= .bool (okt&&okx)∧wx=W3)
      case first=>
       rcases okt with _|_<;>rcases okx with _|_
       all_goals
        go_wp2_with fail;go_meet
        exact⟨rfl,rfl⟩
      case rest=>
       obtain⟨rfl,rfl⟩:=hcut;have b3:=hB.sees.boxes.2.1;go_wp2_with (first|(refine wpList_load_row rfl _ _ rfl _ rfl _ _ (0,0) _ bX underlying35 rfl (Rb HXS.out) ?_)|(refine wpList_store_row rfl _ _ _ rfl _ _ rfl rfl _ _ b3 (Rb HXS.out) (by rw[HXS.out,HUS.out]) hxo ?_));have HB2:Hid (BL w (wc.setRow w.heap.size xc) w.heap.size (some ⟨b,off,none⟩) (Vr qs) qs (Zm x.l)):=Zz (by rw[HX.out];exact hB.store (Nat.le_refl _) HUX.out (Mz qs) xc);clear hB b3 bX hxo;go_roundw
       case rel=>exact⟨k+1,x,_,by go_num,rfl,by omega,HR2,HB2⟩
       case measure=>simp[intOf]<;>omega
    ·obtain rfl:k=qs.length:=by omega
     have HE:=HR.out;rw[Be] at HE;have hI:¬((qs.length:Nat):Int)<(qs.length:Int):=by omega
     have hB:=HB.out;clear HB HR hlt hk HPV HQL hq12;have b4:=hB.sees.boxes.1;have b3:=hB.sees.boxes.2.1;have hE:=hB.sees.ex;have HEE:=Zz HE;clear HE;rcases ok with _|_
     ·have c4:=b4.cell;have f4:=b4.frozen;have z4:=b4.lt;unfold Z12 at c4;go_wp2;refine Zu (v:= .tuple #[.agg Oc,false]) ?_ rfl ⟨by rw[HEE.out];rfl,?_⟩
      ·simp[results,results215,go_sem,c4]
      ·(have:=Exi.mk hE;exact Exi.out)
     ·have hus:=Pi u;have huo:=Zb u.l;go_wp2_with (first|(refine wpList_load_row rfl _ _ rfl _ rfl _ _ (0,0) _ b3 underlying35 rfl (Rb hus) ?_)|(refine wpList_store_row rfl _ _ _ rfl _ _ rfl rfl _ _ b4 (Rb hus) rfl huo ?_));exact Zu (Ze results215 _ _ _ _ _ (0,0) _ rfl (b4.setRow _) underlying35 rfl (Rb hus)) rfl ⟨by rw[HEE.out];rfl,hE.setRow (Nat.le_succ _) _⟩
 ·have HE:Wp l v=(M4.none,false):=Gg hbn v;replace hV:=Zo.after (h:=hV) hx;have HEE:=Zz HE;clear hbn hx KB KV HE;have b4:=hV.boxes.1;have hE:=hV.ex;go_wp2_with fail;go_loopw [8,7,9,10,11,12] (fun i o _ _ _ _ wr=>i= .int .i64 0∧o= .bool false∧wr=w1) (fun _ _ _ _ _ _ _=>0)
  case atStart=>exact⟨rfl,rfl,rfl⟩
  case round=>
   obtain⟨rfl,rfl,rfl⟩:=hrel;rcases Nat.eq_zero_or_pos n with hn|hn
   ·subst hn;have c4:=b4.cell;have f4:=b4.frozen;have z4:=b4.lt;unfold Z12 at c4;go_wp2;refine Zu (v:= .tuple #[.agg Oc,false]) ?_ rfl ⟨by rw[HEE.out];rfl,?_⟩
    ·simp[results,results215,go_sem,c4]
    ·(have:=Exi.mk hE;exact Exi.out)
   ·have hI:(0:Int)<(n:Int):=by omega
    have c4:=b4.cell;have f4:=b4.frozen;have z4:=b4.lt;unfold Z12 at c4;go_wp2;refine Zu (v:= .tuple #[.agg Oc,false]) ?_ rfl ⟨by rw[HEE.out];rfl,?_⟩
    ·simp[results,results215,go_sem,c4]
    ·(have:=Exi.mk hE;exact Exi.out)
end
section
open Go.RowKit

attribute [local go_sem] Zg Zf
@[local go_sem] theorem f32bits(b:Nat)(w:World):(callFunc 145 #[.float .f32 b]).run prog w= .ok (.value (.int .u32 b)) w:=
 (run_callFunc_extern (e:=Extern.MathFloatBits.float32bits) func145 (by kernel_rfl) (by kernel_rfl) (by kernel_rfl) (by kernel_rfl) _ w).trans rfl
theorem Zrs(l:Ub)(hl:l.length≤1048576)(v:M4)(w:World)[hG:Xz w](hm:Wn w):Calls prog 81 #[(Bs l),v.v] w (fun e w'=>e= .returned (Zrt l v (Uy l v))∧Ex w w'):=by
 obtain⟨S,hS0⟩:∃S,S=Bs l:=⟨_,rfl⟩
 have kb:=fun w (_:Xz w) (hm:Wn w)=>Bd l hl v w hm
 have kl:=fun w=>Zvs v w
 have he:Uy l v=if (Wp l v).2&&Nt v then (Zfp (Wp l v).1,true) else (0,false):=rfl
 generalize Uy l v=R at he ⊢;generalize Nt v=sl at kl he;obtain⟨⟨a1,a2,a3⟩,⟨b1,b2,b3⟩,⟨c1,c2,c3⟩,⟨d1,d2,d3⟩⟩:=v;rcases hb:Wp l _ with⟨⟨⟨p1,p2,p3⟩,⟨q1,q2,q3⟩,⟨r1,r2,r3⟩,⟨s1,s2,s3⟩⟩,ok⟩;rw[hb] at kb he;rw[←hS0] at kb ⊢;simp only[m4v,M4.v] at kb kl ⊢;simp only[Zfp] at he;clear hb hl;have kp:=fun w=>Nf ⟨p1,p2,p3⟩ w
 generalize hgp:Vo ⟨p1,p2,p3⟩=gp at kp he;obtain⟨pr,pi,po⟩:=gp;have KP:Hid (∀w,Calls prog 144 #[.agg #[p1,p2,p3]] w (fun e w'=>e= .returned (.tuple #[.complex .f32 pr pi,po])∧Ex w w')):=kp;have kq:=fun w=>Nf ⟨q1,q2,q3⟩ w
 generalize hgq:Vo ⟨q1,q2,q3⟩=gq at kq he;obtain⟨qr,qi,qo⟩:=gq;have KQ:Hid (∀w,Calls prog 144 #[.agg #[q1,q2,q3]] w (fun e w'=>e= .returned (.tuple #[.complex .f32 qr qi,qo])∧Ex w w')):=kq;have kr:=fun w=>Nf ⟨r1,r2,r3⟩ w
 generalize hgr:Vo ⟨r1,r2,r3⟩=gr at kr he;obtain⟨rr,ri,ro⟩:=gr;have KR:Hid (∀w,Calls prog 144 #[.agg #[r1,r2,r3]] w (fun e w'=>e= .returned (.tuple #[.complex .f32 rr ri,ro])∧Ex w w')):=kr;have ks:=fun w=>Nf ⟨s1,s2,s3⟩ w
 generalize hgs:Vo ⟨s1,s2,s3⟩=gs at ks he;obtain⟨sr,si,so⟩:=gs;have KS:Hid (∀w,Calls prog 144 #[.agg #[s1,s2,s3]] w (fun e w'=>e= .returned (.tuple #[.complex .f32 sr si,so])∧Ex w w')):=ks;have KB:=Zz kb;have KL:=Zz kl;have HE:=Zz he;clear kb kl he kp kq kr ks hgp hgq hgr hgs;have HG:=Zz hG;have HM:=Zz hm;clear hm hG;generalize hV:Zrt _ _ R=V;simp only[Zrt,Zru] at hV;rw[←hS0] at hV;have HV:=Zz hV.symm;clear hV;clear hS0;obtain⟨hS,hC⟩:=s0 w;rcases ok with _|_
 ·go_in;go_wp2_with ((with_reducible apply Zo.see w;first|exact KB.out _ (HG.out.ex (hS.ex.alloc _|>.alloc _)) (HM.out.ex (hS.ex.alloc _|>.alloc _))|exact KL.out _);clear hS hC;intro wn hS hC;simp only[Zr,Zq,Zy] at hC);refine Zu (v:= .tuple #[.agg #[.string ⟨#[]⟩,oo,oo,oo,oo,oo,oo,oo,oo,oo,oo,oo,oo, .int .u32 0],false]) ?_ rfl ⟨by rw[HV.out,HE.out];simp[M4.none,Fr.none],?_⟩
  ·simp[results,results81,go_sem,hC]
  ·exact Exi.out
 ·rcases sl with _|_
  ·go_in;go_wp2_with ((with_reducible apply Zo.see w;first|exact KB.out _ (HG.out.ex (hS.ex.alloc _|>.alloc _)) (HM.out.ex (hS.ex.alloc _|>.alloc _))|exact KL.out _);clear hS hC;intro wn hS hC;simp only[Zr,Zq,Zy] at hC);refine Zu (v:= .tuple #[.agg #[.string ⟨#[]⟩,oo,oo,oo,oo,oo,oo,oo,oo,oo,oo,oo,oo, .int .u32 0],false]) ?_ rfl ⟨by rw[HV.out,HE.out];simp[M4.none,Fr.none],?_⟩
   ·simp[results,results81,go_sem,hC]
   ·exact Exi.out
  ·go_in;go_wp2_with ((with_reducible apply Zo.see w;first|exact KB.out _ (HG.out.ex (hS.ex.alloc _|>.alloc _)) (HM.out.ex (hS.ex.alloc _|>.alloc _))|exact KL.out _);clear hS hC;intro wn hS hC;simp only[Zr,Zq,Zy] at hC);have i0:=fun w=>index4_0 p1 p2 p3 q1 q2 q3 r1 r2 r3 s1 s2 s3 w
   have i1:=fun w=>index4_1 p1 p2 p3 q1 q2 q3 r1 r2 r3 s1 s2 s3 w
   have i2:=fun w=>index4_2 p1 p2 p3 q1 q2 q3 r1 r2 r3 s1 s2 s3 w
   have i3:=fun w=>index4_3 p1 p2 p3 q1 q2 q3 r1 r2 r3 s1 s2 s3 w
   refine wp_loop_rounds 5 ?_;rw[rounds_succ];go_wp2_with ((with_reducible apply Zo.see w;exact KP.out _);clear hS hC;intro wn hS hC;simp only[Zr,Zq,Zy] at hC);rw[rounds_succ];go_wp2_with ((with_reducible apply Zo.see w;exact KQ.out _);clear hS hC;intro wn hS hC;simp only[Zr,Zq,Zy] at hC);rw[rounds_succ];go_wp2_with ((with_reducible apply Zo.see w;exact KR.out _);clear hS hC;intro wn hS hC;simp only[Zr,Zq,Zy] at hC);rw[rounds_succ];go_wp2_with ((with_reducible apply Zo.see w;exact KS.out _);clear hS hC;intro wn hS hC;simp only[Zr,Zq,Zy] at hC);rw[rounds_succ];go_wp2_with fail;refine Zu (v:= .tuple #[.agg #[S,a1,a2,a3,b1,b2,b3,c1,c2,c3,d1,d2,d3, .int .u32 (Ps (Ps (Ps (Ps 2166136261 pr) qr) rr) sr)],true]) ?_ rfl ⟨by rw[HV.out,HE.out];simp[M4.none,Fr.none],?_⟩
   ·simp[results,results81,go_sem,hC,Ps]
   ·exact Exi.out
theorem Zcq(l:Ub)(hl:l.length≤1048576)(v:M4)(w:World):Calls prog 220 #[(Bs l),v.v] w (fun e w'=>e= .returned (.tuple #[.int .u32 (Uy l v).1, .bool (Uy l v).2])∧Ex w w'):=by
 obtain⟨S,hS0⟩:∃S,S=Bs l:=⟨_,rfl⟩
 have kb:=fun w=>As l hl v w
 have kl:=fun w=>Zvr v w
 have he:Uy l v=if (Wp l v).2&&Nt v then (Zfp (Wp l v).1,true) else (0,false):=rfl
 generalize Uy l v=R at he ⊢;generalize Nt v=sl at kl he;obtain⟨⟨a1,a2,a3⟩,⟨b1,b2,b3⟩,⟨c1,c2,c3⟩,⟨d1,d2,d3⟩⟩:=v;rcases hb:Wp l _ with⟨⟨⟨p1,p2,p3⟩,⟨q1,q2,q3⟩,⟨r1,r2,r3⟩,⟨s1,s2,s3⟩⟩,ok⟩;rw[hb] at kb he;rw[←hS0] at kb ⊢;simp only[m4v,M4.v] at kb kl ⊢;simp only[Zfp] at he;clear hb hl;have kp:=fun w=>Nd ⟨p1,p2,p3⟩ w
 generalize hgp:Vo ⟨p1,p2,p3⟩=gp at kp he;obtain⟨pr,pi,po⟩:=gp;have KP:Hid (∀w,Calls prog 255 #[.agg #[p1,p2,p3]] w (fun e w'=>e= .returned (.tuple #[.complex .f32 pr pi,po])∧Ex w w')):=kp;have kq:=fun w=>Nd ⟨q1,q2,q3⟩ w
 generalize hgq:Vo ⟨q1,q2,q3⟩=gq at kq he;obtain⟨qr,qi,qo⟩:=gq;have KQ:Hid (∀w,Calls prog 255 #[.agg #[q1,q2,q3]] w (fun e w'=>e= .returned (.tuple #[.complex .f32 qr qi,qo])∧Ex w w')):=kq;have kr:=fun w=>Nd ⟨r1,r2,r3⟩ w
 generalize hgr:Vo ⟨r1,r2,r3⟩=gr at kr he;obtain⟨rr,ri,ro⟩:=gr;have KR:Hid (∀w,Calls prog 255 #[.agg #[r1,r2,r3]] w (fun e w'=>e= .returned (.tuple #[.complex .f32 rr ri,ro])∧Ex w w')):=kr;have ks:=fun w=>Nd ⟨s1,s2,s3⟩ w
 generalize hgs:Vo ⟨s1,s2,s3⟩=gs at ks he;obtain⟨sr,si,so⟩:=gs;have KS:Hid (∀w,Calls prog 255 #[.agg #[s1,s2,s3]] w (fun e w'=>e= .returned (.tuple #[.complex .f32 sr si,so])∧Ex w w')):=ks;have KB:=Zz kb;have KL:=Zz kl;have HE:=Zz he;clear kb kl he kp kq kr ks hgp hgq hgr hgs;clear hS0;obtain⟨hS,hC⟩:=s0 w;rcases ok with _|_
 ·go_in;go_wp2_with ((with_reducible apply Zo.see w;first|exact KB.out _|exact KL.out _);clear hS hC;intro wn hS hC;simp only[Zr,Zq,Zy] at hC);refine Zu (v:= .tuple #[.int .u32 0,false]) ?_ rfl ⟨by rw[HE.out];first|done|rfl,?_⟩
  ·simp[results,results220,go_sem,hC]
  ·exact Exi.out
 ·rcases sl with _|_
  ·go_in;go_wp2_with ((with_reducible apply Zo.see w;first|exact KB.out _|exact KL.out _);clear hS hC;intro wn hS hC;simp only[Zr,Zq,Zy] at hC);refine Zu (v:= .tuple #[.int .u32 0,false]) ?_ rfl ⟨by rw[HE.out];first|done|rfl,?_⟩
   ·simp[results,results220,go_sem,hC]
   ·exact Exi.out
  ·go_in;go_wp2_with ((with_reducible apply Zo.see w;first|exact KB.out _|exact KL.out _);clear hS hC;intro wn hS hC;simp only[Zr,Zq,Zy] at hC);refine wp_loop_rounds 5 ?_;rw[rounds_succ];go_wp2_with ((with_reducible apply Zo.see w;exact KP.out _);clear hS hC;intro wn hS hC;simp only[Zr,Zq,Zy] at hC);rw[rounds_succ];go_wp2_with ((with_reducible apply Zo.see w;exact KQ.out _);clear hS hC;intro wn hS hC;simp only[Zr,Zq,Zy] at hC);rw[rounds_succ];go_wp2_with ((with_reducible apply Zo.see w;exact KR.out _);clear hS hC;intro wn hS hC;simp only[Zr,Zq,Zy] at hC);rw[rounds_succ];go_wp2_with ((with_reducible apply Zo.see w;exact KS.out _);clear hS hC;intro wn hS hC;simp only[Zr,Zq,Zy] at hC);rw[rounds_succ];go_wp2_with fail;refine Zu (v:= .tuple #[.int .u32 (Ps (Ps (Ps (Ps 2166136261 pr) qr) rr) sr),true]) ?_ rfl ⟨by rw[HE.out];first|done|rfl,?_⟩
   ·simp[results,results220,go_sem,hC,Ps]
   ·exact Exi.out
end
end Go.Proofs.YtiommfmaleeibaaGreatDoor
