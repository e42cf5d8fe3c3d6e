/-
  Proved:what functions compute,part 14. No condition.
-/
import Derived.Great.Frames
import Derived.Conc.MuLone
import Derived.Test.YtiommfmaleeibaaGreatDoorB06
import Derived.Deep.Cut
set_option linter.unusedSimpArgs false
set_option linter.unusedVariables false
set_option maxRecDepth 20000
set_option maxHeartbeats 8000000
namespace Go.Proofs.YtiommfmaleeibaaGreatDoor
open Go.Proofs.Tryz
section
open Go.MuLone (run_callFunc_enter)

structure Has(N lo:Nat)(r:Nat→Value)(a:Act)(L:List (Nat×Value)):Prop where
 size:a.tmps.size=N
 low:∀t:Nat,t<lo→a.eval (.tmp t)=r t
 get:∀x∈L,a.eval (.tmp x.1)=x.2
 def0:a.defers=[]
variable {lo:Nat} {r:Nat→Value}
theorem Has.put{N m:Nat}{a:Act}{L0 L:List (Nat×Value)}(h:Has N lo r a L0)(hL:L0.drop m=L){t:Nat}{v:Value}(ht:t<N)(hlo:lo≤t)(hf:(L.all fun x=>x.1 !=t)=true):Has N lo r (a.put (some t) v) ((t,v)::L):=by
 subst hL;exact⟨by rw[Act.size_put];exact h.size,fun j hj=>by
  rw[Act.eval_put_ne a t j v (by omega)];exact h.low j hj,fun x hx=>by
  rcases List.mem_cons.1 hx with rfl|hx
  ·exact Act.eval_put_same a t v (by rw[h.size];exact ht)
  ·have h1:=List.all_eq_true.1 hf x hx;rw[Act.eval_put_ne a t x.1 v (by simpa using Ne.symm (bne_iff_ne.1 h1))];exact h.get x (List.mem_of_mem_drop hx),by rw[Act.defers_put'];exact h.def0⟩
theorem Has.of(a:Act)(lo:Nat)(h:a.defers=[]):Has a.tmps.size lo (fun t=>a.eval (.tmp t)) a []:=⟨rfl,fun _ _=>rfl,(fun _ h=>nomatch h),h⟩
section
variable {P:Program} {ops:Array Oper} {B:Bool→World→Prop} {St:World→World→Prop} {Q:List Oper→Act→Bool→Prop} {o:Oper} {n N t:Nat} {rest:List Oper} {a:Act} {e d:Bool} {v:Value} {L0 L:List (Nat×Value)}
theorem Zho(m:Nat)(ha:Has N lo r a L0)(hL:L0.drop m=L)(hd:o.dst=some t)(hg:o.guard=none)(ht:t<N)(hlo:lo≤t)(hf:(L.all fun x=>x.1 !=t)=true)
  (hr:∀b w,B b w→Vs P (fun u w'=>u=v∧St w w'∧B (b||d) w') ((execOp a.eval o).run P w))
  (h:∀a',Has N lo r a' ((t,v)::L)→Wf P ops B St Q n rest a' (e||d)):Wf P ops B St Q (n+1) (o::rest) a e:=by
 refine⟨v,d, .inl ⟨by simp[Region.wanted,hg],fun b w hb=>(hr b w hb).mono ?_⟩,?_⟩
 ·rintro u w' ⟨rfl,h1,h2⟩;exact⟨rfl,h1,h2⟩
 ·rw[hd];exact h _ (ha.put hL ht hlo hf)
theorem Jz(m:Nat)(ha:Has N lo r a L0)(hL:L0.drop m=L)(hd:o.dst=some t)(hg:o.guard=none)(ht:t<N)(hlo:lo≤t)(hf:(L.all fun x=>x.1 !=t)=true)
  (hr:∀b w,B b w→Vs P (fun u w'=>u=v∧St w w'∧B b w') ((execOp a.eval o).run P w))
  (h:∀a',Has N lo r a' ((t,v)::L)→Wf P ops B St Q n rest a' e):Wf P ops B St Q (n+1) (o::rest) a e:=
 Zho (d:=false) m ha hL hd hg ht hlo hf (fun b w hb=>by rw[Bool.or_false];exact hr b w hb) (fun a' h'=>by rw[Bool.or_false];exact h a' h')
theorem Sg{Qx:Exit→Act→World→Prop}{w:World}{G:World→Prop}(m:Nat)(ha:Has N lo r a L0)(hL:L0.drop m=L)(hd:o.dst=some t)(hg:o.guard=none)(ht:t<N)(hlo:lo≤t)(hf:(L.all fun x=>x.1 !=t)=true)
  (hr:Vs P (fun u w'=>u=v∧G w') ((execOp a.eval o).run P w)) (h:∀a' w',Has N lo r a' ((t,v)::L)→G w'→wpList P ops Qx rest a' w'):wpList P ops Qx (o::rest) a w:=by
 unfold wpList;rw[if_pos (by simp[Region.wanted,hg])];refine .inl (hr.wp ?_);rintro u w' ⟨rfl,hG⟩;rw[hd];exact h _ _ (ha.put hL ht hlo hf) hG
theorem Lo{Qx:Exit→Act→World→Prop}{w:World}{G:World→Prop}(hd:o.dst=none)(hg:o.guard=none)
  (hr:Vs P (fun _ w'=>G w') ((execOp a.eval o).run P w)) (h:∀w',G w'→wpList P ops Qx rest a w'):wpList P ops Qx (o::rest) a w:=by
 unfold wpList;rw[if_pos (by simp[Region.wanted,hg])];refine .inl (hr.wp ?_);intro u w' hG;rw[hd];exact h _ hG
end
section
variable {P:Program} {G:Value→World→Prop} {ρ:Operand→Value} {w:World} {dst:Option Tmp} {ty:TypeId} {pos:String} {after:Array Edge} {guard:Option (Nat×Bool)} {x y z:Operand} {v v1 v2 v3:Value}
theorem Zty(hx:ρ x=v)(hG:G v w):Vs P G ((execOp ρ {dst:=dst,op:= .move x,type:=ty,pos:=pos,after:=after,guard:=guard}).run P w):=by
 simp only[execOp,hx];exact hG
theorem Im(hx:ρ x=v)(hG:G v w):Vs P G ((execOp ρ {dst:=dst,op:= .assign x,type:=ty,pos:=pos,after:=after,guard:=guard}).run P w):=by
 simp only[execOp,hx];exact hG
theorem Tu{o:Oper}(hr:(execOp ρ o).run P w= .ok (.value v) w)(hG:G v w):Vs P G ((execOp ρ o).run P w):=by
 rw[hr];exact hG
theorem Ln{o:Oper}{f:FuncId}{args:Av}{R:Ending→World→Prop}(hr:(execOp ρ o).run P w= .ok (.enter f args) w)(hc:Calls P f args w R)(hG:∀e w',R e w'→∃u,e= .returned u∧G u w'):Vs P G ((execOp ρ o).run P w):=by
 rw[hr];exact hc.mono hG
variable {f:FuncId} {fn:Func} {c:Code} {ts:Array TypeId}
theorem Vf (hf : P.funcs[f]? = some fn) (hn : (fn.name == "runtime.NumGoroutine") = false) (hb : fn.body = some c) (h1 : ρ x = v1) (h2 : ρ y = v2) (hc : ρ (.func f) = .func (.func f) #[] #[]) :
  (execOp ρ {dst:=dst,op:= .call {callee:= .value (.func f),args:=#[x,y],argTypes:=ts},type:=ty,pos:=pos,after:=after,guard:=guard}).run P w= .ok (.enter f #[v1,v2]) w:=by
 simp[execOp,resolve,hc,Deferred.ofValue,invoke,h1,h2,run_callFunc_enter hf hn hb]
theorem Xb (hf : P.funcs[f]? = some fn) (hn : (fn.name == "runtime.NumGoroutine") = false) (hb : fn.body = some c) (h1 : ρ x = v1) (h2 : ρ y = v2) (h3 : ρ z = v3) (hc : ρ (.func f) = .func (.func f) #[] #[]) :
  (execOp ρ {dst:=dst,op:= .call {callee:= .value (.func f),args:=#[x,y,z],argTypes:=ts},type:=ty,pos:=pos,after:=after,guard:=guard}).run P w= .ok (.enter f #[v1,v2,v3]) w:=by
 simp[execOp,resolve,hc,Deferred.ofValue,invoke,h1,h2,h3,run_callFunc_enter hf hn hb]
theorem Iu {k : Operand} {u : Value} (hf : P.funcs[f]? = some fn) (hn : (fn.name == "runtime.NumGoroutine") = false) (hb : fn.body = some c) (hk : ρ k = .func (.func f) #[] #[u]) (h1 : ρ x = v1) :
  (execOp ρ {dst:=dst,op:= .call {callee:= .value k,args:=#[x],argTypes:=ts},type:=ty,pos:=pos,after:=after,guard:=guard}).run P w= .ok (.enter f #[v1,u]) w:=by
 simp[execOp,resolve,hk,Deferred.ofValue,invoke,h1,run_callFunc_enter hf hn hb]
theorem Xa {k : Operand} {u : Value} (hf : P.funcs[f]? = some fn) (hn : (fn.name == "runtime.NumGoroutine") = false) (hb : fn.body = some c) (hk : ρ k = .func (.func f) #[] #[u]) (h1 : ρ x = v1) (h2 : ρ y = v2) :
  (execOp ρ {dst:=dst,op:= .call {callee:= .value k,args:=#[x,y],argTypes:=ts},type:=ty,pos:=pos,after:=after,guard:=guard}).run P w= .ok (.enter f #[v1,v2,u]) w:=by
 simp[execOp,resolve,hk,Deferred.ofValue,invoke,h1,h2,run_callFunc_enter hf hn hb]
end
def Cd(md:Region.Mode)(ops:Array Oper)(lo n:Nat)(outs:List Nat):List Oper→Nat→Bool
 |[],_=>true
 |o::l,k=>
  (if k < n then o.dst == some (lo + k) && (o.after.toList.all fun g => !Region.binds md g || decide (g.on < k)) && ((o.looksAt ops).all fun (t : Nat) => !outs.contains t)
   else match (o.dst:Option Nat) with|some d=>outs.contains d&&(decide (d<lo)||decide (lo+n≤d))|none=>true)&&
  ((o.looksAt ops).all fun(t:Nat)=>decide (t<lo)||decide (lo+n≤t)||o.after.toList.any fun g=>Region.binds md g&&lo+g.on==t)&&Cd md ops lo n outs l (k+1)
theorem Gr{md:Region.Mode}{ops:Array Oper}{lo n:Nat}{outs:List Nat}:∀{l:List Oper} {k:Nat},Cd md ops lo n outs l k=true→∀(j:Nat) (o:Oper),l[j]? =some o→
  (k+j<n→o.dst=some (lo+(k+j))∧(∀g∈o.after,Region.binds md g=true→g.on<k+j)∧∀t:Nat,t∈(o.looksAt ops:List Nat)→t∉outs)∧
  (n≤k+j→∀d:Nat,o.dst=some d→d∈outs∧(d<lo∨lo+n≤d))∧(∀t:Nat,t∈(o.looksAt ops:List Nat)→t<lo∨lo+n≤t∨∃g∈o.after,Region.binds md g=true∧lo+g.on=t)
 |[],_,_,j,o,h=>by simp at h
 |x::l,k,hB,j,o,h=>by
  simp only[Cd,Bool.and_eq_true] at hB
  obtain⟨⟨h1,h2⟩,h3⟩:=hB
  cases j with
  |zero=>
   have hx:x=o:=by simpa using h
   subst hx
   simp only[Nat.add_zero]
   refine⟨fun hk=>?_,fun hk d hd=>?_,fun t ht=>?_⟩
   ·rw[if_pos hk] at h1
    simp only[Bool.and_eq_true,beq_iff_eq] at h1
    obtain⟨⟨q1,q2⟩,q3⟩:=h1
    refine⟨q1,fun g hg hb=>?_,fun t ht=>?_⟩
    ·have:=List.all_eq_true.1 q2 g (by simpa using hg)
     simpa [hb] using this
    ·have:=List.all_eq_true.1 q3 t ht
     simpa using this
   ·rw[if_neg (by omega),hd] at h1
    simpa using h1
   ·have:=List.all_eq_true.1 h2 t ht
    simp only[Bool.or_eq_true,decide_eq_true_eq] at this
    rcases this with(h|h)|h
    ·exact .inl h
    ·exact .inr (.inl h)
    ·obtain⟨g,hg,hb⟩:=List.any_eq_true.1 h
     simp only[Bool.and_eq_true,beq_iff_eq] at hb
     exact .inr (.inr ⟨g,by simpa using hg,hb.1,hb.2⟩)
  |succ j=>
   have:=Gr h3 j o (by simpa using h)
   rwa[show k+1+j=k+(j+1) by omega] at this
def Lm(N k:Nat)(listed:Array Bool):Prop:=listed.size=N∧(∀j,j<k→listed.getD j false=true)∧∀j,k≤j→j<N→listed.getD j false=false
theorem Lm.zero(N:Nat):Lm N 0 (Array.replicate N false):=⟨by simp,fun j hj=>absurd hj (by omega),fun j _ _=>getD_replicate_false _ _⟩
theorem Lm.succ{N k:Nat}{listed:Array Bool}(h:Lm N k listed)(hk:k<N):Lm N (k+1) (listed.setIfInBounds k true):=
 ⟨by simpa using h.1,fun j hj=>by
  by_cases hjk:j=k
  ·subst hjk
   have:j<listed.size:=by rw[h.1];exact hk
   simp[this]
  ·rw[getD_set_ne false (Ne.symm hjk)];exact h.2.1 j (by omega),fun j hj hj2=>by
  rw[getD_set_ne false (by omega)]
  exact h.2.2 j (by omega) hj2⟩
section
variable {md:Region.Mode} {lo n:Nat} {outs:List Nat} {l:List Oper}
theorem Zpn{k:Nat}{listed:Array Bool}(hB:Cd md l.toArray lo n outs l 0=true)(hn:n≤l.length)(h:Lm l.length k listed)(hk:k<n):(Region.ready md l.toArray listed).contains k=true:=by
 have hkl:k<l.length:=by omega
 obtain⟨o,ho⟩:∃o,l[k]? =some o:=⟨l[k],List.getElem?_eq_getElem hkl⟩
 obtain⟨h1, -, -⟩:=Gr hB k o ho;obtain⟨-,he, -⟩:=h1 (by omega);have:k∈Region.ready md l.toArray listed:=by
  refine mem_ready.2 ⟨getD_in (by rw[h.1];exact hkl) (h.2.2 k (Nat.le_refl _) hkl),o,by simpa using ho,fun g hg hb=>h.2.1 _ ?_⟩;have:=he g hg hb
  omega
 simpa using this
theorem Zkq{k:Nat}{listed:Array Bool}(hB:Cd md l.toArray lo n outs l 0=true)(hn:n≤l.length)(h:Lm l.length k listed)(hk:k<n):Region.free md l.toArray listed k=true:=by
 have hkl:k<l.length:=by omega
 obtain⟨o,ho⟩:∃o,l[k]? =some o:=⟨l[k],List.getElem?_eq_getElem hkl⟩
 obtain⟨h1, -,h3⟩:=Gr hB k o ho;obtain⟨hd, -,ho2⟩:=h1 (by omega);unfold Region.free;rw[show l.toArray[k]? =some o by simpa using ho];simp only[List.all_eq_true,List.mem_range,Bool.or_eq_true,beq_iff_eq];intro j hj;have hj':j<l.length:=by simpa using hj
 by_cases hjk:j=k
 ·exact .inl (.inl hjk)
 rcases Nat.lt_or_ge j k with hlt|hge
 ·exact .inl (.inr (by
   have:=h.2.1 j hlt
   have h':j<listed.size:=by rw[h.1];exact hj'
   simpa [h'] using this))
 refine .inr ?_;obtain⟨oj,hoj⟩:∃oj,l[j]? =some oj:=⟨l[j],List.getElem?_eq_getElem hj'⟩
 rw[show l.toArray[j]? =some oj by simpa using hoj];simp only[Bool.or_eq_true];obtain⟨g1,g2,g3⟩:=Gr hB j oj hoj;rw[Nat.zero_add] at g1 g2 h1;by_cases hw:∃g∈oj.after,Region.binds md g=true∧g.on=k
 ·obtain⟨g,hg,hb,hon⟩:=hw;exact .inl (Array.any_eq_true'.2 ⟨g,hg,by simp[hb,hon]⟩)
 ·refine .inr ?_;have hne:lo+k∉oj.looksAt l.toArray:=fun hm=>by
   rcases g3 _ hm with q|q|⟨g,hg,hb,hon⟩
   ·omega
   ·omega
   ·exact hw ⟨g,hg,hb,by omega⟩
  unfold Oper.apart;rw[hd];simp only[Bool.and_eq_true];refine⟨⟨by simpa using hne,?_⟩,?_⟩
  ·rcases Nat.lt_or_ge j n with q|q
   ·rw[(g1 q).1];simp;omega
   ·cases hdj:oj.dst with
    |none=>rfl
    |some d=>
     have:=(g2 q d hdj).2
     refine bne_iff_ne.2 fun hh=>?_
     have hh':d=lo+k:=by simpa using hh
     have hh2:(show Nat from d)=lo+k:=hh';rcases this with h5|h5
     ·exact absurd (show lo+k<lo from hh2▸h5) (by omega)
     ·exact absurd (show lo+n≤lo+k from hh2▸h5) (by omega)
  ·cases hdj:oj.dst with
   |none=>rfl
   |some d=>
    simp only;suffices d∉o.looksAt l.toArray by simpa using this
    intro hm;rcases Nat.lt_or_ge j n with q|q
    ·have e1:=(g1 q).1;rw[hdj] at e1;have e2:d=lo+j:=by simpa using e1
     subst e2;rcases h3 _ hm with r|r|⟨g,hg,hb,hon⟩
     ·omega
     ·omega
     ·have:=(h1 hk).2.1 g hg hb
      omega
    ·exact ho2 d hm (g2 q d hdj).1
theorem Cc(hB:Cd md l.toArray lo n outs l 0=true)(hn:n≤l.length):∀(f k:Nat) (listed:Array Bool),k+f=n→Lm l.length k listed→Zzu.freeB md l.toArray f k listed=true
 |0,_,_,_,_=>rfl
 |f+1,k,listed,hk,h=>by
  simp only[Zzu.freeB,Bool.and_eq_true]
  exact⟨⟨Zpn hB hn h (by omega),Zkq hB hn h (by omega)⟩,Cc hB hn f (k+1) _ (by omega) (h.succ (by omega))⟩
end
def Zbw(md:Region.Mode)(l:List Oper)(n k g lo:Nat)(outs:List Nat):Bool:=
 Region.noSelect l.toArray&&decide (l.length=n+k+k+g)&&
 (List.range g).all (fun t=>(List.range (n+k+k)).all fun i=>Region.waitsFor md l.toArray (n+k+k+t) i)&&Region.seqB md l.toArray g (n+k+k) (LFn (n+k+k) g)&&
 (List.range k).all (fun i=>match l[n+i]? with|some o=>o.after.all (fun g=> !Region.binds md g||decide (g.on<n))|none=>false)&&
 (List.range k).all (fun i=>match l[n+k+i]? with|some o=>o.after.all (fun g=> !Region.binds md g||decide (g.on<n+k+i))|none=>false)&&
 (List.range k).all (fun i=>Region.waitsFor md l.toArray (n+k+i) (n+i))&&(List.range k).all (fun i=>decide (k≤i+1)||Region.waitsFor md l.toArray (n+k+(i+1)) (n+k+i))&&Cd md l.toArray lo n outs l 0
theorem Zxf{md:Region.Mode}{l:List Oper}{n k g lo:Nat}{outs:List Nat}(h:Zbw md l n k g lo outs=true):Zzu md l n k g=true:=by
 unfold Zbw at h;unfold Zzu;simp only[Bool.and_eq_true] at h ⊢;obtain⟨h0,h1⟩:=h;refine⟨h0,Cc h1 ?_ n 0 _ (by omega) (Lm.zero _)⟩;have:l.length=n+k+k+g:=of_decide_eq_true h0.1.1.1.1.1.1.2
 omega
end
section
open Go.RowKit

attribute [local go_sem] Zg Zf
theorem Zhn(n:Int)(w:World):Calls prog 51 #[n] w fun e w'=>e= .returned (.agg #[n,oo, .int .i64 1])∧Ex w w':=by
 obtain⟨hS,hC⟩:=s0 w;go_in;go_wp2;exact Yp (by simp[results,results51,go_sem,hC]) rfl
theorem Wq(bs ps:Nat)(bad:Bool)(u v:Fr)(w:World)(hb:Box w bs 92 #[bad])(hp:Box w ps 90 #[.pointer (some ⟨bs,0,none⟩)])(hne:ps≠bs):
  Calls prog 97 #[u.v,v.v, .pointer (some ⟨ps,0,none⟩)] w (Vn bs bad w (Yr u v)):=by
 have ho:=Zuf u v bad;unfold Yr at ho ⊢;rcases hm:Yq v with⟨⟨m1,m2,m3⟩,mk⟩;rw[hm] at ho;simp only at ho ⊢;rcases ht:Zk u ⟨m1,m2,m3⟩ with⟨⟨t1,t2,t3⟩,tk⟩;rw[ht] at ho;simp only at ho;obtain⟨u1,u2,u3⟩:=u;obtain⟨v1,v2,v3⟩:=v;unfold Vn;simp only[Fr.v];have HM:=Zz hm;have HT:=Zz ht;clear hm ht;rw[←ho];clear ho;have hS:=(Zl.init hb).put hp hne;have hC:=hS.rd;simp only[Zr,Zq] at hC;have m1:w.heap.size≠ps:=Nat.ne_of_gt hp.lt;have m2:w.heap.size≠bs:=Nat.ne_of_gt hb.lt;go_in;go_wp2_with fail;refine Ux (fun b w'=>Zl w w' bs b [(w.heap.size+1+1,30,Oa),(w.heap.size+1,30,#[v1,v2,v3]),(w.heap.size,30,#[u1,u2,u3]),(ps,90,#[.pointer (some ⟨bs,0,none⟩)])]) 5 _ (by kernel_rfl) (Zl.drewW (Zl.cast (by simp only[Zy]) (by simp only[Zy]))) (by exact fun _ _ _ _ _ h=>h) ?_;iterate 4 (apply Zp;rfl;intro b u B Q q;have hS:=B;have hC:=hS.rd;simp only[Zr,Zq] at hC;go_wp2;exact q _ trivial B;exact⟨_,rfl⟩)
 (apply Zi;rfl;intro b u B Q q;go_wp2_with ((with_reducible refine(Qv B HM.out).mono ?_);rintro e wn ⟨rfl,hN,hM⟩);exact q _ trivial hN;exact⟨_,rfl⟩);refine Zn ?_;intro wz hz;replace hC:=hz.rd;simp only[Zr,Zq] at hC;go_wp2_with ((with_reducible refine(Ye hz HT.out).mono ?_);rintro e wn ⟨rfl,hS, -⟩;replace hC:=hS.rd;simp only[Zr,Zq] at hC);have hm:=hS.sm;have hs:=hS.sum;have hbl:=hb.lt;refine Zu ?_ rfl ⟨rfl,?_,?_⟩
 ·simp[results,results97,go_sem,hC]
 ·repeat' (first
   |exact hm
   |refine Sm.setNew ?_ (by simp<;>omega) _)
 ·repeat' (first
   |exact hs
   |refine Box.far ?_ (by simp<;>omega) _)
theorem Gq(bs ps:Nat)(bad:Bool)(u:Fr)(w:World)(hb:Box w bs 92 #[bad])(hp:Box w ps 90 #[.pointer (some ⟨bs,0,none⟩)])(hne:ps≠bs)(hG:∀w',Sm bs w w'→Xz w'):
  Calls prog 98 #[u.v, .pointer (some ⟨ps,0,none⟩)] w (Vn bs bad w (Qb u)):=by
 unfold Qb;have ko:=fun w h hG=>Zhq bs bad u ⟨2,0,1⟩ w hG h
 rcases ht:Sa u ⟨2,0,1⟩ with⟨⟨t1,t2,t3⟩,tk⟩;rw[ht] at ko;obtain⟨u1,u2,u3⟩:=u;unfold Vn at ko ⊢;simp only[Fr.v] at ko ⊢;have KO:=Zz ko;clear ko ht;have hS:=(Zl.init hb).put hp hne;have hC:=hS.rd;simp only[Zr,Zq] at hC;have m1:w.heap.size≠ps:=Nat.ne_of_gt hp.lt;have m2:w.heap.size≠bs:=Nat.ne_of_gt hb.lt;go_in;go_wp2_with fail;refine Ux (fun b w'=>Zl w w' bs b [(w.heap.size+1,30,Oa),(w.heap.size,30,#[u1,u2,u3]),(ps,90,#[.pointer (some ⟨bs,0,none⟩)])]) 3 _ (by kernel_rfl) (Zl.drewW (Zl.cast (by simp only[Zy]) (by simp only[Zy]))) (by exact fun _ _ _ _ _ h=>h) ?_;iterate 2 (apply Zp;rfl;intro b u B Q q;have hS:=B;have hC:=hS.rd;simp only[Zr,Zq] at hC;go_wp2;exact q _ trivial B;exact⟨_,rfl⟩)
 (apply Zp;rfl;intro b u B Q q;go_wp2_with (with_reducible refine Yw (Zhn 2 _) fun wn hx=>?_);exact q _ trivial (B.ex hx);exact⟨_,rfl⟩);refine Zn ?_;intro wz hz;replace hC:=hz.rd;simp only[Zr,Zq] at hC;go_wp2_with ((with_reducible refine(KO.out _ hz.sum (hG _ hz.sm)).mono ?_);rintro e wn ⟨rfl,hs2,hb2⟩;have hS:=Zl.call hz hs2 hb2;replace hC:=hS.rd;simp only[Zr,Zq] at hC);have hm:=hS.sm;have hs:=hS.sum;have hbl:=hb.lt;refine Zu ?_ rfl ⟨rfl,?_,?_⟩
 ·simp[results,results98,go_sem,hC]
 ·repeat' (first
   |exact hm
   |refine Sm.setNew ?_ (by simp<;>omega) _)
 ·repeat' (first
   |exact hs
   |refine Box.far ?_ (by simp<;>omega) _)
end
section
open Go.RowKit

def Pd(f:Fr):List Value:=[.int .i64 f.re, .int .i64 f.im, .int .i64 f.den]
def Zm(l:List Fr):Av:=(l.flatMap Pd).toArray
theorem Ztx(f:Fr)(l:List Fr):Zm (f::l)=(#[f.re,f.im,f.den]:Av)++Zm l:=by simp[Zm,Pd]
theorem Zb(l:List Fr):(Zm l).all (·.oneCell')=true:=by
 rw[Array.all_eq_true_iff_forall_mem];intro v hv;simp only[Zm,List.mem_toArray,List.mem_flatMap,Pd,List.mem_cons,List.not_mem_nil,or_false] at hv;obtain⟨f, -,h|h|h⟩:=hv<;>subst h<;>rfl
def Sl(r:List Fr×Bool):Value:= .tuple #[.agg (Zm r.1),r.2]
def Wt(n:Nat):List Fr:=List.replicate n Fr.none
section
variable {w:World} {dst:Option Tmp} {ty:TypeId} {pos:String} {after:Array Edge} {guard:Option (Nat×Bool)} {ρ:Operand→Value} {x:Operand} {b:Nat}
theorem Za{f:Fr}(hx:ρ x= .pointer (some ⟨b,0,none⟩))(hb:Box w b 30 #[f.re,f.im,f.den]):
  (execOp ρ {dst:=dst,op:= .load 30 x,type:=ty,pos:=pos,after:=after,guard:=guard}).run prog w= .ok (.value f.v) w:=by
 have c:=hb.cell;simp[execOp,go_sem,hx,c,Fr.v]
theorem Yg{u:Addr}(hx:ρ x= .pointer (some ⟨b,0,none⟩))(hb:Box w b 90 #[.pointer (some u)]):
  (execOp ρ {dst:=dst,op:= .load 90 x,type:=ty,pos:=pos,after:=after,guard:=guard}).run prog w= .ok (.value (.pointer (some u))) w:=by
 have c:=hb.cell;simp[execOp,go_sem,hx,c]
theorem Ztw{f0 f1 f2 f3 f4 f5 f6 f7 f8 f9 f10 f11 f12 f13 f14 f15:Fr}{x0 x1 x2 x3 x4 x5 x6 x7 x8 x9 x10 x11 x12 x13 x14 x15:Operand}(h0:ρ x0=f0.v)(h1:ρ x1=f1.v)(h2:ρ x2=f2.v)(h3:ρ x3=f3.v)(h4:ρ x4=f4.v)(h5:ρ x5=f5.v)(h6:ρ x6=f6.v)(h7:ρ x7=f7.v)(h8:ρ x8=f8.v)(h9:ρ x9=f9.v)(h10:ρ x10=f10.v)(h11:ρ x11=f11.v)(h12:ρ x12=f12.v)(h13:ρ x13=f13.v)(h14:ρ x14=f14.v)(h15:ρ x15=f15.v):
  (execOp ρ {dst:=dst,op:= .build 83 #[(0,x0),(1,x1),(2,x2),(3,x3),(4,x4),(5,x5),(6,x6),(7,x7),(8,x8),(9,x9),(10,x10),(11,x11),(12,x12),(13,x13),(14,x14),(15,x15)],type:=ty,pos:=pos,after:=after,guard:=guard}).run prog w= .ok (.value (.agg (Zm [f0,f1,f2,f3,f4,f5,f6,f7,f8,f9,f10,f11,f12,f13,f14,f15]))) w:=by
 simp[execOp,go_sem,h0,h1,h2,h3,h4,h5,h6,h7,h8,h9,h10,h11,h12,h13,h14,h15,Fr.v,Zm,Pd]
theorem Zpm{f0 f1 f2 f3 f4 f5 f6 f7 f8 f9 f10 f11 f12 f13 f14 f15:Fr}(hx:ρ x= .agg (Zm [f0,f1,f2,f3,f4,f5,f6,f7,f8,f9,f10,f11,f12,f13,f14,f15])):
  (execOp ρ {dst:=dst,op:= .build 85 #[(0,x)],type:=ty,pos:=pos,after:=after,guard:=guard}).run prog w= .ok (.value (.agg (Zm [f0,f1,f2,f3,f4,f5,f6,f7,f8,f9,f10,f11,f12,f13,f14,f15]))) w:=by
 simp[execOp,go_sem,hx,Zm,Pd]
theorem Ztv{p:Nat}{ty':TypeId}{pos:String}{after:Array Edge}:Qu prog 85 {dst:=some p,op:= .alloc 85,type:=ty',pos:=pos,after:=after,guard:=none} p Od:=⟨rfl,rfl,fun ρ w=>by simp[execOp,go_sem]⟩
theorem Zpl:(Tryz.prog.info? 85).map (·.size)=some 48:=by kernel_rfl
end
theorem Ze{P:Program}{fn:Func}{p q:Tmp}{ty:TypeId}(h:fn.results=#[.cell p ty, .tmp q])(tmps:Av)(w:World)(g:Nat)(t:TypeId)(cs:Av)(fr:Nat×Nat)(d:TypeDesc)
  (hp:tmps.getD p undef= .pointer (some ⟨g,0,none⟩)) (hg:w.heap[g]? =some (.cells cs t fr))
  (hu:P.underlying ty=some d) (hd:(match d with| .struct _| .array _ _=>true|_=>false)=true) (hi:(P.info? ty).map (·.size)=some cs.size):
  (results fn tmps).run P w= .ok (.tuple #[.agg cs,tmps.getD q undef]) w:=by
 have hp':tmps[p]?.getD undef= .pointer (some ⟨g,0,none⟩):=by simpa using hp
 simp[results,h,hp',asAddr,run_loadVar_row w g t ty cs fr d hg hu hd hi]
section
variable {P:Program} {w:World} {dst:Option Tmp} {ty ty' t:TypeId} {pos:String} {after:Array Edge} {guard:Option (Nat×Bool)} {ρ:Operand→Value} {x y:Operand} {b:Nat} {cs old:Av} {d:TypeDesc}
theorem Gp(hx:ρ x= .pointer (some ⟨b,0,none⟩))(hb:Box w b t cs)(hu:P.underlying ty=some d)(hd:(match d with| .struct _| .array _ _=>true|_=>false)=true)(hi:(P.info? ty).map (·.size)=some cs.size):
  (execOp ρ {dst:=dst,op:= .load ty x,type:=ty',pos:=pos,after:=after,guard:=guard}).run P w= .ok (.value (.agg cs)) w:=by
 unfold execOp;simp only[hx,Instr.loadAt,Instr.sureAddr,Sem.run_bind,Sem.run_pure,Result.andThen_ok,run_loadVar_row w b t ty cs (0,0) d hb hu hd hi]
theorem Il(hx:ρ x= .pointer (some ⟨b,0,none⟩))(hy:ρ y= .agg cs)(hb:Box w b t old)(hi:(P.info? ty).map (·.size)=some cs.size)(ho:old.size=cs.size)(h1:cs.all (·.oneCell')=true):
  (execOp ρ {dst:=dst,op:= .store ty x y,type:=ty',pos:=pos,after:=after,guard:=guard}).run P w= .ok .skip (w.setRow b cs):=by
 unfold execOp;simp only[hx,hy,Instr.storeAt,Instr.sureAddr,Sem.run_bind,Sem.run_pure,Result.andThen_ok,run_storeVar_row w b t ty old cs hb hi ho h1]
theorem Jy{G:Value→World→Prop}{o:Oper}{w':World}(hr:(execOp ρ o).run P w= .ok .skip w')(hG:G undef w'):Vs P G ((execOp ρ o).run P w):=by
 rw[hr];exact hG
end
def Z48:Av:=Od
theorem We:(#[.int .i64 0, .int .i64 0, .int .i64 0, .int .i64 0, .int .i64 0, .int .i64 0, .int .i64 0, .int .i64 0, .int .i64 0, .int .i64 0, .int .i64 0, .int .i64 0, .int .i64 0, .int .i64 0, .int .i64 0, .int .i64 0, .int .i64 0, .int .i64 0, .int .i64 0, .int .i64 0, .int .i64 0, .int .i64 0, .int .i64 0, .int .i64 0, .int .i64 0, .int .i64 0, .int .i64 0, .int .i64 0, .int .i64 0, .int .i64 0, .int .i64 0, .int .i64 0, .int .i64 0, .int .i64 0, .int .i64 0, .int .i64 0, .int .i64 0, .int .i64 0, .int .i64 0, .int .i64 0, .int .i64 0, .int .i64 0, .int .i64 0, .int .i64 0, .int .i64 0, .int .i64 0, .int .i64 0, .int .i64 0]:Av)=Z48:=rfl
theorem Yk:Z48.size=48:=rfl
theorem Wi:Z48.all (·.oneCell')=true:=by kernel_rfl
theorem Zxe:Z48=Zm (Wt 16):=rfl
theorem Yy{cs:Av}(h:cs.size=48):(Tryz.prog.info? 85).map (·.size)=some cs.size:=by rw[h];exact Zpl
theorem Ik(bs:Nat)(cs:Av)(hcs:cs.size=48)(hc1:cs.all (·.oneCell')=true)(w:World)(hb:Box w bs 92 #[true]):Calls prog 100 #[.pointer (some ⟨bs,0,none⟩), .agg cs] w fun e w'=>e= .returned (.tuple #[.agg Z48,false])∧Ex w w':=by
 have c:=hb.cell;have z:=hb.lt;have ne1:w.heap.size≠bs:=Nat.ne_of_gt z;go_in;go_upto_region 1 with fail;rw[We];have bT:Box ((w.alloc (.cells cs 85)).alloc (.cells Z48 85)) w.heap.size 85 cs:=(Box.new w cs _).alloc _;have bR:Box ((w.alloc (.cells cs 85)).alloc (.cells Z48 85)) (w.heap.size+1) 85 Z48:=by
  have:=Box.new (w.alloc (.cells cs 85)) Z48 85
  rwa[Zy] at this
 have hx:Ex w ((w.alloc (.cells cs 85)).alloc (.cells Z48 85)):=((Ex.refl w).alloc _).alloc _;have hb2:Box ((w.alloc (.cells cs 85)).alloc (.cells Z48 85)) bs 92 #[true]:=(hb.alloc _).alloc _;generalize (w.alloc (.cells cs 85)).alloc (.cells Z48 85)=W at*;have c:=hb2.cell;go_upto_region 3 with fail;rw[We];have bZ:=Box.new W Z48 85;replace bR:=bR.alloc (.cells Z48 85);replace hx:=hx.alloc (.cells Z48 85);generalize hW2:W.alloc (.cells Z48 85)=W2 at*;go_wp2_with (first|(refine wpList_load_row rfl _ _ rfl _ rfl _ _ (0,0) _ bZ underlying85 rfl (Yy Yk) ?_)|(refine wpList_store_row rfl _ _ _ rfl _ _ rfl rfl _ _ bR (Yy Yk) rfl Wi ?_));refine Zu (Ze results100 _ _ _ _ _ (0,0) _ rfl (bR.setRow _) underlying85 rfl (Yy Yk)) rfl ⟨rfl,hx.setRow (Nat.le_succ _) _⟩
theorem Jx(bs:Nat)(cs:Av)(hcs:cs.size=48)(hc1:cs.all (·.oneCell')=true)(w:World)(hb:Box w bs 92 #[false]):Calls prog 100 #[.pointer (some ⟨bs,0,none⟩), .agg cs] w fun e w'=>e= .returned (.tuple #[.agg cs,true])∧Ex w w':=by
 have c:=hb.cell;have z:=hb.lt;have ne1:w.heap.size≠bs:=Nat.ne_of_gt z;go_in;go_upto_region 1 with fail;rw[We];have bT:Box ((w.alloc (.cells cs 85)).alloc (.cells Z48 85)) w.heap.size 85 cs:=(Box.new w cs _).alloc _;have bR:Box ((w.alloc (.cells cs 85)).alloc (.cells Z48 85)) (w.heap.size+1) 85 Z48:=by
  have:=Box.new (w.alloc (.cells cs 85)) Z48 85
  rwa[Zy] at this
 have hx:Ex w ((w.alloc (.cells cs 85)).alloc (.cells Z48 85)):=((Ex.refl w).alloc _).alloc _;have hb2:Box ((w.alloc (.cells cs 85)).alloc (.cells Z48 85)) bs 92 #[false]:=(hb.alloc _).alloc _;generalize (w.alloc (.cells cs 85)).alloc (.cells Z48 85)=W at*;have c:=hb2.cell;go_wp2_with (first|(refine wpList_load_row rfl _ _ rfl _ rfl _ _ (0,0) _ bT underlying85 rfl (Yy hcs) ?_)|(refine wpList_store_row rfl _ _ _ rfl _ _ rfl rfl _ _ bR (Yy hcs) (Yk.trans hcs.symm) hc1 ?_));refine Zu (Ze results100 _ _ _ _ _ (0,0) _ rfl (bR.setRow _) underlying85 rfl (Yy hcs)) rfl ⟨rfl,hx.setRow (Nat.le_succ _) _⟩
end
end Go.Proofs.YtiommfmaleeibaaGreatDoor
