/-
  Proved:what functions compute,part 25. No condition.
-/
import Derived.Test.YtiommfmaleeibaaGreatDoorB24
set_option linter.unusedSimpArgs false
set_option linter.unusedVariables false
set_option maxRecDepth 20000
set_option maxHeartbeats 8000000
namespace Go.Proofs.YtiommfmaleeibaaGreatDoor
open Go.Proofs.Tryz
section
open Go.RowKit

def nl(l:Ub):Nat→Nat
 |0=>0
 |n+1=>if l[n]? =some 10 then n+1 else nl l n
theorem Zbm(l:Ub):∀n,nl l n≤n
 |0=>Nat.le_refl _
 |n+1=>by
  have ih:=Zbm l n
  unfold nl
  split<;>omega
theorem Zuz{l:Ub}{n:Nat}(h:l[n]? =some 10):nl l (n+1)=n+1:=if_pos h
theorem Cw{l:Ub}{n:Nat}(h:¬l[n]? =some 10):nl l (n+1)=nl l n:=if_neg h
def cmp(l:Ub):Ub:=l.take (nl l l.length)
def Cmp(l:Ub):Prop:=l=[]∨∃t,l=t++[10]
theorem Ae(l:Ub):∀n,n≤l.length→Cmp (l.take (nl l n))∧∀c∈(l.take n).drop (nl l n),c≠10
 |0,_=>⟨.inl (by simp[nl]),fun c hc=>by simp at hc⟩
 |n+1,hn=>by
  have hlt:n<l.length:=by omega
  obtain⟨h1,h2⟩:=Ae l n (by omega)
  by_cases h:l[n]? =some 10
  ·rw[Zuz h]
   rw[List.getElem?_eq_getElem hlt] at h
   injection h with h
   refine⟨.inr ⟨l.take n,?_⟩,fun c hc=>?_⟩
   ·rw[Xf hlt,h]
   ·rw[List.drop_eq_nil_of_le (by rw[List.length_take];omega)] at hc
    cases hc
  ·rw[Cw h]
   refine⟨h1,fun c hc e=>?_⟩
   rw[Xf hlt,List.drop_append_of_le_length (by rw[List.length_take];have:=Zbm l n;omega)] at hc
   rcases List.mem_append.1 hc with hc|hc
   ·exact h2 c hc e
   ·rw[List.mem_singleton] at hc
    rw[List.getElem?_eq_getElem hlt,←hc,e] at h
    exact h rfl
theorem Zuy(l:Ub):Cmp (cmp l):=(Ae l l.length (Nat.le_refl _)).1
theorem Zeo(l:Ub):∃r,l=cmp l++r∧∀c∈r,c≠10:=by
 refine⟨l.drop (nl l l.length),(List.take_append_drop _ _).symm,?_⟩;have:=(Ae l l.length (Nat.le_refl _)).2
 rwa[List.take_length] at this
theorem Zux(l:Ub):(cmp l).length≤l.length:=by unfold cmp;rw[List.length_take];omega
theorem Zen{o p:Ub}(ho:Cmp o)(hp:∀c∈p,c≠10)(q:Ub):∀j,j≤p.length→nl (o++(p++q)) (o.length+j)=o.length
 |0,_=>by
  rcases ho with rfl|⟨t,rfl⟩
  ·rfl
  ·rw[List.length_append,List.length_singleton,Nat.add_zero]
   exact Zuz (by simp)
 |j+1,hj=>by
  have hlt:j<p.length:=by omega
  rw[←Nat.add_assoc,Cw,Zen ho hp q j (by omega)]
  rw[List.getElem?_append_right (by omega),show o.length+j-o.length=j by omega,List.getElem?_append_left hlt,List.getElem?_eq_getElem hlt]
  intro e
  injection e with e
  exact hp _ (List.getElem_mem hlt) e
theorem Ad:∀t x:Ub,lns (t++10::x)=lns t++lns x
 |[],x=>by
  rw[List.nil_append,Oj]
  rfl
 |b::t,x=>by
  have ih:=Ad t x
  by_cases hb:b=10
  ·subst hb
   rw[List.cons_append,Oj,Oj,ih]
   rfl
  ·rw[List.cons_append,Mc hb,Mc hb,ih]
   cases h:lns t with
   |nil=>exact absurd h (Hm t)
   |cons a r=>rfl
theorem Zlg{s:Ub}(h:Cmp s)(x:Ub):lns (s++x)=(lns s).dropLast++lns x:=by
 rcases h with rfl|⟨t,rfl⟩
 ·rfl
 ·rw[List.append_assoc,List.singleton_append,Ad,Ad,show lns []=[[]] from rfl,List.dropLast_concat]
theorem Cmp.more(o x:Ub):Cmp (o++(x++[10])):= .inr ⟨o++x,by rw[List.append_assoc]⟩
section
variable (st:Con→Ub→Con×Ub)
theorem Zqs(M:List Ub):∀(L:List Ub) (c:Con) (o:Ub),Qm st c (L++M) o=Qm st (Qm st c L o).1 M (Qm st c L o).2
 |[],_,_=>rfl
 |_::L,_,_=>Zqs M L _ _
theorem Zqr:∀(L:List Ub) (c:Con) (o:Ub),Cmp o→Cmp (Qm st c L o).2
 |[],_,_,h=>h
 |_::L,_,_,_=>Zqr L _ _ (Cmp.more _ _)
def Yb(s:Ub):Con×Ub:=Qm st Con.new (lns s).dropLast []
theorem Ac(s:Ub):Pv st s=Gf (Yb st s):=rfl
theorem Zem(l:Ub):Pv st (cmp l)=Pv st l:=by
 obtain⟨r,hr,hn⟩:=Zeo l;have e:(lns l).dropLast=(lns (cmp l)).dropLast:=by
  have h:lns l=(lns (cmp l)).dropLast++[r]:=by
   rw[←Zwo r hn,←Zlg (Zuy l) r,←hr]
  rw[h,List.dropLast_concat]
 unfold Pv;rw[e]
theorem Ab{s:Ub}(h:Cmp s)(x:Ub):Yb st (s++x)=Qm st (Yb st s).1 (lns x).dropLast (Yb st s).2:=by
 unfold Yb;rw[Zlg h,List.dropLast_append_of_ne_nil (Hm x),Zqs]
theorem Zlf(s:Ub):Cmp (Yb st s).2:=Zqr st _ _ _ (.inl rfl)
end
def Vd(c:Con):Ub:=[112,105,101,99,101,115,32]++(Lib.itoa (Pw c.b)++[10])
theorem Zuw(r:Con×Ub):Gf r=r.2++Vd r.1:=rfl
theorem Zle{r:Con×Ub}(h:Cmp r.2):nl (Gf r) ((Gf r).length-1)=r.2.length:=by
 have e:Gf r=r.2++(([112,105,101,99,101,115,32]++Lib.itoa (Pw r.1.b))++[10]):=by rw[Zuw];unfold Vd;simp
 have el:(Gf r).length-1=r.2.length+([112,105,101,99,101,115,32]++Lib.itoa (Pw r.1.b)).length:=by
  rw[e];simp only[List.length_append,List.length_singleton];omega
 rw[el,e];refine Zen h (fun c hc=>?_) [10] _ (Nat.le_refl _);rcases List.mem_append.1 hc with hc|hc
 ·simp only[List.mem_cons,List.not_mem_nil,or_false] at hc;rcases hc with rfl|rfl|rfl|rfl|rfl|rfl|rfl<;>decide
 ·exact Ziy (.inl rfl) c hc
theorem Zxt(c:Con):(Vd c).length≤30:=by
 have hb:=Zwm c.b;have:=Vi (Pw c.b) (by omega) (by omega)
 unfold Vd;simp only[List.length_append,List.length_cons,List.length_nil];omega
theorem Zcc(c:Con):stX c [122,122,122]=(c,Kr):=by
 unfold stX;rw[Zls (l:=[122,122,122]) (by decide)];simp[Pg,Jg,Dw,Zre,Zcm,Zll,Zvk,Zvj,Zcl]
theorem Zcb(c:Con):stX c [98,101,110,99,104,32,120]=(c,[110,111]):=by
 unfold stX;rw[show([98,101,110,99,104,32,120]:Ub)=[98,101,110,99,104]++32::[120] from rfl,Zlt _ _ (by decide)];simp only[if_true];unfold Ly;rw[if_pos (show([98,101,110,99,104]:Ub)=Et from rfl)];unfold Ld;rw[show Ys [120]=none from rfl];rfl
def Rl(c:Con):Ub:=if c.b=[] then [45] else c.b
theorem Zqq(c:Con):stX c Th=(c,Rl c):=by
 unfold stX;rw[Zjw];simp[Pg,Jg,Dw,Zre,Th,Rl]
def Zqp:Ub:=[122,122,122,10,98,101,110,99,104,32,120,10]
theorem Zin{s:Ub}(h:Cmp s):Pv stX (s++Zqp)=(Yb stX s).2++[119,104,97,116,10,110,111,10]++Vd (Yb stX s).1:=by
 rw[Ac,Ab stX h,show(lns Zqp).dropLast=[[122,122,122],[98,101,110,99,104,32,120]] from rfl];simp only[Qm,Zcc,Zcb,Zuw,Kr,List.append_assoc];rfl
theorem Zmt{s:Ub}(h:Cmp s):Pv stX (s++(Th++[10]))=(Yb stX s).2++(Rl (Yb stX s).1++[10])++Vd (Yb stX s).1:=by
 rw[Ac,Ab stX h,show(lns (Th++[10])).dropLast=[Th] from rfl];simp only[Qm,Zqq,Zuw]
theorem Zqo{s:Ub}(h:Cmp s):Pv stX (s++(Th++[10]++(Th++[10])))=(Yb stX s).2++(Rl (Yb stX s).1++[10])++(Rl (Yb stX s).1++[10])++Vd (Yb stX s).1:=by
 rw[Ac,Ab stX h,show(lns (Th++[10]++(Th++[10]))).dropLast=[Th,Th] from rfl];simp only[Qm,Zqq,Zuw]
theorem Zim:Pv stX []=[112,105,101,99,101,115,32,48,10]:=by
 have h0:Pw []=0:=rfl;have h:Lib.itoa 0=[48]:=by
  rw[show(0:Int)=((0:Nat):Int) from rfl,Lib.itoa_nonneg,Lib.decDigits_one (by omega)];rfl
 show[112,105,101,99,101,115,32]++(Lib.itoa (Pw [])++[10])=_;rw[h0,h];rfl
theorem Zqn:∀(L:List Ub) (c:Con) (o:Ub),QX c→QX (Qm stX c L o).1∧(Qm stX c L o).2.length≤o.length+10001*L.length
 |[],c,o,h=>⟨h,by simp[Qm]⟩
 |l::L,c,o,h=>by
  obtain⟨h1,h2⟩:=Zqn L (stX c l).1 (o++((stX c l).2++[10])) (Znl h l)
  have h3:=Zvh h l
  refine⟨h1,?_⟩
  simp only[Qm]
  simp only[List.length_append,List.length_cons,List.length_nil] at h2 ⊢
  omega
theorem Zld{s:Ub}(h:s.length≤700):(Yb stX s).2.length≤8000000∧(Rl (Yb stX s).1).length≤200:=by
 obtain⟨h1,h2⟩:=Zqn (lns s).dropLast Con.new [] QX.new;have h3:=Zwc s;have h4:=h1.len;constructor
 ·unfold Yb;simp only[List.length_dropLast,List.length_nil] at h2;omega
 ·unfold Yb Rl;split
  ·simp
  ·omega
theorem Ky(s:Ub):Pv stX s=(Yb stX s).2++Vd (Yb stX s).1:=rfl
end
section
open Go.RowKit

attribute [local go_sem] Zg Zf
theorem Kx(l:Ub)(hl:l.length≤1048576)(w:World):Calls prog 11 #[(Bs l)] w (fun e w'=>e= .returned (.string (Bs (cmp l)))∧Ex w w'):=by
 obtain⟨S,HS⟩:=nm (Bs l);obtain⟨n,HN⟩:=nm (l.length);obtain⟨T,HT⟩:=nm (Bs (cmp l));rw[←HS.out,←HT.out];have HSZ:Hid ((S.size:Int)=(n:Int)):=Zz (by rw[HS.out,HN.out,Yu]);have hn:n≤1048576:=by rw[HN.out];exact hl
 clear hl;go_in;go_wp2_with fail;go_loopw [3] (fun i wr=>∃k:Nat,i= .int .i64 k∧k≤n∧Hid (nl l n=nl l k)∧wr=w) (fun i _=>(intOf i).toNat)
 case atStart=>exact⟨n,by rw[HSZ.out],Nat.le_refl _,Zz rfl,rfl⟩
 case round=>
  obtain⟨k,rfl,hk,HK,rfl⟩:=hrel;by_cases h0:0<k
  ·have hI:(0:Int)<(k:Int):=by omega
   have hlt:k-1<l.length:=by rw[←HN.out];omega
   obtain⟨hs,hc⟩:=Rq HS.out hlt;have hw:IntKind.i64.wrap ((k:Int)-1)=((k-1:Nat):Int):=by rw[Zt _ (by omega)];omega
   have hkI:((k-1:Nat):Int)<(S.size:Int):=by rw[HSZ.out];omega
   have hk0:(0:Int)≤((k-1:Nat):Int):=by omega
   by_cases h10:l[k-1]=10
   ·have hext:S.extract 0 k=T:=by
     have e:nl l k=k:=by
      have h:=Zuz (l:=l) (n:=k-1) (by rw[List.getElem?_eq_getElem hlt,h10]);rwa[show k-1+1=k by omega] at h
     rw[HS.out,HT.out,Oz,cmp,←HN.out,HK.out,e]
    have hle:(k:Int)≤(S.size:Int):=by rw[HSZ.out];omega
    have hkp:(0:Int)≤(k:Int):=by omega
    rw[h10] at hc;clear h10 HT HS HN HSZ HK hlt hk hn h0;go_wp2;refine Zu (v:= .string T) ?_ rfl ⟨rfl,Ex.refl _⟩;simp[results,results11,go_sem]
   ·have HK2:Hid (nl l n=nl l (k-1)):=Zz (by
     rw[HK.out];have h:=Cw (l:=l) (n:=k-1) (by rw[List.getElem?_eq_getElem hlt];exact fun e=>h10 (by injection e));rwa[show k-1+1=k by omega] at h)
    have hne:((l[k-1].toNat:Int)==10)=false:=by
     rw[beq_eq_false_iff_ne];intro e;exact h10 (UInt8.toNat_inj.1 (by show l[k-1].toNat=10;omega))
    generalize l[k-1]=x at*;clear h10 HK hlt;go_wp2;go_roundw
    case rel=>exact⟨k-1,by go_num,by omega,HK2,by trivial⟩
    case measure=>simp[intOf]<;>omega
  ·obtain rfl:k=0:=by omega
   have hT:T=(⟨#[]⟩:ByteArray):=by
    rw[HT.out,cmp,←HN.out,HK.out];rfl
   subst hT;clear HT HS HN HSZ HK hk hn h0;go_wp2;refine Zu (v:= .string ⟨#[]⟩) ?_ rfl ⟨rfl,Ex.refl _⟩;simp[results,results11,go_sem]
theorem Ft(l:Ub)(hl:l.length≤100000000)(h1:1≤l.length)(w:World):Calls prog 12 #[(Bs l)] w (fun e w'=>e= .returned (.string (Bs (l.drop (nl l (l.length-1)))))∧Ex w w'):=by
 obtain⟨S,HS⟩:=nm (Bs l);obtain⟨n,HN⟩:=nm (l.length);obtain⟨T,HT⟩:=nm (Bs (l.drop (nl l (l.length-1))));rw[←HS.out,←HT.out];have HSZ:Hid ((S.size:Int)=(n:Int)):=Zz (by rw[HS.out,HN.out,Yu]);have hn:n≤100000000:=by rw[HN.out];exact hl
 have hn1:1≤n:=by rw[HN.out];exact h1
 clear hl h1;have hw2:IntKind.i64.wrap ((S.size:Int)-2)=(S.size:Int)-2:=Zt _ (by rw[HSZ.out];omega);go_in;go_wp2_with fail;go_loopw [3] (fun i wr=>∃(k:Nat) (z:Int),i= .int .i64 z∧z=(k:Int)-1∧k+1≤n∧Hid (nl l (n-1)=nl l k)∧wr=w) (fun i _=>(intOf i+1).toNat)
 case atStart=>exact⟨n-1,_,rfl,by rw[HSZ.out];omega,by omega,Zz rfl,rfl⟩
 case round=>
  clear hw2;obtain⟨k,z,rfl,hz,hk,HK,rfl⟩:=hrel;by_cases h0:0<k
  ·obtain rfl:z=((k-1:Nat):Int):=by omega
   clear hz;have hI:(0:Int)≤((k-1:Nat):Int):=by omega
   have hlt:k-1<l.length:=by rw[←HN.out];omega
   obtain⟨hs,hc⟩:=Rq HS.out hlt;have hkI:((k-1:Nat):Int)<(S.size:Int):=by rw[HSZ.out];omega
   have hw:IntKind.i64.wrap (((k-1:Nat):Int)-1)=((k-1:Nat):Int)-1:=Zt _ (by omega);have hw5:IntKind.i64.wrap (((k-1:Nat):Int)+1)=(k:Int):=by rw[Zt _ (by omega)];omega
   by_cases h10:l[k-1]=10
   ·have hext:S.extract k S.size=T:=by
     have e:nl l k=k:=by
      have h:=Zuz (l:=l) (n:=k-1) (by rw[List.getElem?_eq_getElem hlt,h10]);rwa[show k-1+1=k by omega] at h
     rw[HS.out,HT.out,Oy,←HN.out,HK.out,e]
    have hle:(k:Int)≤(S.size:Int):=by rw[HSZ.out];omega
    have hkp:(0:Int)≤(k:Int):=by omega
    rw[h10] at hc;clear h10 HT HS HN HSZ HK hlt hk hn hn1 h0;go_wp2;refine Zu (v:= .string T) ?_ rfl ⟨rfl,Ex.refl _⟩;simp[results,results12,go_sem]
   ·have HK2:Hid (nl l (n-1)=nl l (k-1)):=Zz (by
     rw[HK.out];have h:=Cw (l:=l) (n:=k-1) (by rw[List.getElem?_eq_getElem hlt];exact fun e=>h10 (by injection e));rwa[show k-1+1=k by omega] at h)
    have hne:((l[k-1].toNat:Int)==10)=false:=by
     rw[beq_eq_false_iff_ne];intro e;exact h10 (UInt8.toNat_inj.1 (by show l[k-1].toNat=10;omega))
    generalize l[k-1]=x at*;clear h10 HK hlt;go_wp2;go_roundw
    case rel=>exact⟨k-1,_,rfl,by omega,by omega,HK2,by trivial⟩
    case measure=>simp[intOf]<;>omega
  ·obtain rfl:k=0:=by omega
   have hI:¬(0:Int)≤z:=by omega
   have hT:T=S:=by
    rw[HT.out,HS.out,←HN.out,HK.out];rfl
   subst hT;clear HT HS HN HSZ HK hk hn hn1 h0 hz;go_wp2;refine Zu (v:= .string T) ?_ rfl ⟨rfl,Ex.refl _⟩;simp[results,results12,go_sem]
end
end Go.Proofs.YtiommfmaleeibaaGreatDoor
