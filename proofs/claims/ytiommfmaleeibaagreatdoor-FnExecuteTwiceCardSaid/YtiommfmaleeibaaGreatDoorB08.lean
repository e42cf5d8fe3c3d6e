/-
  Proved:what functions compute,part 8. No condition.
-/
import Derived.Test.YtiommfmaleeibaaGreatDoorB06
import Derived.Test.YtiommfmaleeibaaGreatDoorB07
import Derived.Lib.ItoaLen
import Derived.Lib.AppendIntMem
import Derived.ProofKit
import Derived.LaidMore
import Derived.OpenShut
import Derived.Stop.Joined
import Derived.Stop.LaidErr
import Derived.Lib.AtoiAllCases
import Derived.Lib.SplitLaws
import Derived.Lib.Builder
set_option linter.unusedSimpArgs false
set_option linter.unusedVariables false
set_option maxRecDepth 20000
set_option maxHeartbeats 8000000
namespace Go.Proofs.YtiommfmaleeibaaGreatDoor
open Go.Proofs.Tryz
section
open Go.RowKit

def Bs(l:Ub):ByteArray:=⟨l.toArray⟩
theorem Mt(a b:ByteArray):(a++b).data.toList=a.data.toList++b.data.toList:=by simp[ByteArray.data_append]
theorem Te{a b:ByteArray}(h:a.data.toList=b.data.toList):a=b:=by
 cases a;cases b
 congr 1
 exact Array.toList_inj.1 h
theorem Xk(a b:Ub):Bs a++Bs b=Bs (a++b):=Te (by rw[Mt];simp[Bs])
theorem Yu(l:Ub):(Bs l).size=l.length:=rfl
def sgn(n:Int):Ub:=if n<0 then Lib.itoa n else 43::Lib.itoa n
def txt(x:Fr):Ub:=sgn x.re++sgn x.im++[105]++(if x.den=1 then [] else 47::Lib.itoa x.den)
def Ms(x:Fr):Ub×Bool:=if x.valid then (txt x,true) else ([],false)

def Tab (w : World) : Prop := Lib.TabIs prog w "internal/strconv.uint64pow10" .u64 Lib.pow10Tab
theorem Zig{w w':World}{s:String}{k:IntKind}{zs:List Int}(h:Lib.TabIs prog w s k zs)(he:Ex w w'):Lib.TabIs prog w' s k zs:=by
 unfold Lib.TabIs World.var? at h ⊢;cases hg:Tryz.prog.globalNamed s with
 |none=>rw[hg] at h;cases h
 |some g=>
  rw[hg] at h;simp only[Option.bind_some] at h ⊢;cases hb:w.heap[g]? with
  |none=>rw[hb] at h;cases h
  |some o=>rw[he.block hb];rw[hb] at h;exact h
theorem Tab.ex{w w':World}(h:Tab w)(he:Ex w w'):Tab w':=Zig h he
theorem Tab.alloc{w:World}(h:Tab w)(o:Obj):Tab (w.alloc o):=h.ex ((Ex.refl _).alloc o)
theorem Tab.drew{w:World}(h:Tab w):Tab w.drew:=h
theorem Zmq(w:World)(k:Nat)(os:Array Obj):Ex w (Sort.grow (w.drewN k) os):=Lib.below_grow _ w (Nat.le_refl _) k os
theorem Oh(n:Int)(h0: -9223372036854775808≤n)(h1:n≤9223372036854775807)(w:World)(ht:Tab w):
  Calls prog 29 #[n] w fun e w'=>e= .returned (.string (Bs (Lib.itoa n)))∧Ex w w':=
 (Tryz.strconv_Itoa n h0 h1 w ht).mono fun e w' ⟨h,k,os,hw⟩=>⟨h,by rw[hw];exact Zmq w k os⟩
theorem Vi(n:Int)(h0: -9223372036854775808≤n)(h1:n≤9223372036854775807):(Lib.itoa n).length≤21:=Lib.itoa_length_le n h0 h1
theorem Zmp(n:Int)(h0: -9223372036854775808≤n)(h1:n≤9223372036854775807):(sgn n).length≤22:=by
 have:=Vi n h0 h1
 unfold sgn;split
 ·omega
 ·simp;omega
theorem Mr(a b:Ub)(h:a.length+b.length≤1000000):¬9223372036854775807<(Bs a).size+(Bs b).size∧Bs a++Bs b=Bs (a++b):=by
 refine⟨?_,Xk a b⟩;rw[Yu,Yu];omega
theorem Iz(c:UInt8)(b:Ub)(h:b.length≤1000000):¬9223372036854775807<1+(Bs b).size∧(⟨#[c]⟩:ByteArray)++Bs b=Bs (c::b):=by
 refine⟨?_,Xk [c] b⟩;rw[Yu];omega
theorem Cs(a:Ub)(c:UInt8)(h:a.length≤1000000):¬9223372036854775807<(Bs a).size+1∧Bs a++(⟨#[c]⟩:ByteArray)=Bs (a++[c]):=by
 refine⟨?_,Xk a [c]⟩;rw[Yu];omega
end
section
open Go.RowKit

theorem gTab : Tryz.prog.globalNamed "internal/strconv.uint64pow10" = some 6 := by kernel_rfl
theorem Zif:(Tryz.prog.globals[6]?).map (·.type)=some 257:=by kernel_rfl
end
section
open Go.RowKit

def Wz(c:UInt8):Bool:=decide (48≤c.toNat∧c.toNat≤57)
def dig:Ub→Nat→Nat×Nat
 |[],n=>(n,0)
 |c::t,n=>if Wz c=true∧n≤2000000000 then ((dig t (10*n+(c.toNat-48))).1,(dig t (10*n+(c.toNat-48))).2+1) else (n,0)
theorem Qy{u:Nat}(h:u<10):(UInt8.ofNat (48+u)).toNat=48+u:=by
 have:(UInt8.ofNat (48+u)).toNat=(48+u) % 256:=UInt8.toNat_ofNat'
 omega
theorem Zup{u:Nat}(h:u<10):Wz (UInt8.ofNat (48+u))=true:=by
 unfold Wz;rw[Qy h];simp;omega
theorem Mq(u:Nat):∀c∈Lib.decDigits u,Wz c=true:=by
 induction u using Nat.strongRecOn with
 |_ u ih=>
  intro c hc;unfold Lib.decDigits at hc;split at hc
  ·rename_i h;rw[List.mem_singleton.1 hc];exact Zup h
  ·rename_i h;rw[List.mem_append] at hc;rcases hc with hc|hc
   ·exact ih (u / 10) (by omega) c hc
   ·rw[List.mem_singleton.1 hc];exact Zup (by omega)
def Stops(l:Ub):Prop:=∀c t,l=c::t→Wz c=false
theorem Zlb(u:Nat):∀k,u<10 ^ (k+1)→(Lib.decDigits u).length≤k+1:=by
 induction u using Nat.strongRecOn with
 |_ u ih=>
  intro k hk;by_cases h:u<10
  ·rw[Lib.decDigits_one h];simp
  ·have e:Lib.decDigits u=Lib.decDigits (u / 10)++[UInt8.ofNat (48+u % 10)]:=by
    conv=>lhs;unfold Lib.decDigits
    rw[dif_neg h]
   rw[e];cases k with
   |zero=>simp at hk;omega
   |succ k=>
    have:=ih (u / 10) (by omega) k (by rw[Nat.pow_succ] at hk;omega)
    simp;omega
def Zmo(n:Int):UInt8:=if n<0 then 45 else 43
theorem Zuo(n:Int):sgn n=Zmo n::Lib.decDigits n.natAbs:=by
 unfold sgn Zmo;by_cases h:n<0
 ·rw[if_pos h,if_pos h];unfold Lib.itoa;rw[if_pos h]
 ·rw[if_neg h,if_neg h];unfold Lib.itoa;rw[if_neg h];congr 2
  omega
def part(l:Ub)(i:Nat):Int×Nat:=
 ((if l[i]? =some 45 then -1 else 1)*((dig (l.drop (i+1)) 0).1:Int),i+1+(dig (l.drop (i+1)) 0).2)
def Zqg(l:Ub):Fr:=
 ⟨(part l 0).1,(part l (part l 0).2).1,if (part l (part l 0).2).2+1<l.length then ((dig (l.drop ((part l (part l 0).2).2+2)) 0).1:Int) else 1⟩
def tailT(x:Fr):Ub:=if x.den=1 then [] else 47::Lib.itoa x.den
theorem Zun{n:Int}(h:1≤n):Lib.itoa n=Lib.decDigits n.natAbs:=by
 unfold Lib.itoa;rw[if_neg (by omega)];congr 1
 omega
def rd(l:Ub):Fr×Bool:=if (Zqg l).valid=true∧txt (Zqg l)=l then (Zqg l,true) else (⟨0,0,0⟩,false)
def Zbk(c:UInt8):Bool:=c==43||c==45
def Zum:Ub→Int
 |[]=> -1
 |c::t=>if 0≤Zum t then Zum t+1 else if Zbk c then 0 else -1
theorem Dq(u:Nat):∀rest,u≤20000000009→Lib.parseUint10 0 (Lib.decDigits u++rest)=Lib.parseUint10 u rest:=by
 induction u using Nat.strongRecOn with
 |_ u ih=>
  intro rest hu;by_cases h:u<10
  ·rw[Lib.decDigits_one h];show Lib.parseUint10 0 (UInt8.ofNat (48+u)::rest)=_;have hd:48≤(UInt8.ofNat (48+u)).toNat∧(UInt8.ofNat (48+u)).toNat≤57:=by rw[Qy h];omega
   simp only[Lib.parseUint10,if_pos hd];rw[Qy h,if_neg (by omega),if_neg (by omega)];congr 1
   omega
  ·have e:Lib.decDigits u=Lib.decDigits (u / 10)++[UInt8.ofNat (48+u % 10)]:=by
    conv=>lhs;unfold Lib.decDigits
    rw[dif_neg h]
   rw[e,List.append_assoc,ih (u / 10) (by omega) _ (by omega)];show Lib.parseUint10 (u / 10) (UInt8.ofNat (48+u % 10)::rest)=_;have hm:u % 10<10:=by omega
   have hd:48≤(UInt8.ofNat (48+u % 10)).toNat∧(UInt8.ofNat (48+u % 10)).toNat≤57:=by rw[Qy hm];omega
   simp only[Lib.parseUint10,if_pos hd];rw[Qy hm,if_neg (by omega),if_neg (by omega)];congr 1
   omega
theorem Zxm(u:Nat):Lib.decDigits u≠[]:=by
 unfold Lib.decDigits;split<;>simp
theorem Zxl{u:Nat}(h:u≤2000000000):Lib.parseMag (Lib.decDigits u)= .ok u:=by
 unfold Lib.parseMag;rw[if_neg (Zxm u)];have:=Dq u [] (by omega)
 rw[List.append_nil] at this;rw[this];rfl
theorem Zic{n:Int}(h0: -2000000000≤n)(h1:n≤2000000000):Lib.atoiAll (sgn n)= .ok n:=by
 rw[Zuo];unfold Zmo;by_cases h:n<0
 ·rw[if_pos h,Lib.atoiAll_minus,Zxl (by omega)];simp only[Lib.signed];rw[if_neg (by omega)];congr 1
  omega
 ·rw[if_neg h,Lib.atoiAll_plus,Zxl (by omega)];simp only[Lib.signless];rw[if_neg (by omega)];congr 1
  omega
theorem Zib{n:Int}(h0:1≤n)(h1:n≤2000000000):Lib.atoiAll (Lib.itoa n)= .ok n:=by
 rw[Zun h0];obtain⟨c,r,e⟩:∃c r,Lib.decDigits n.natAbs=c::r:=by
  cases h:Lib.decDigits n.natAbs with
  |nil=>exact absurd h (Zxm _)
  |cons c r=>exact⟨c,r,rfl⟩
 have hd:Wz c=true:=Mq n.natAbs c (by rw[e];exact List.mem_cons_self);have hc:48≤c.toNat∧c.toNat≤57:=by simpa [Wz] using hd
 have hm:=Zxl (u:=n.natAbs) (by omega);rw[e] at hm ⊢;rw[Lib.atoiAll_plain c r (by omega) (by omega),hm];simp only[Lib.signless];rw[if_neg (by omega)];congr 1
 omega
end
section
open Go.RowKit

structure Wn(w:World):Prop where
 tab:Tab w
 max:∃m,w.cell? ⟨4,0,none⟩=some (.int .i64 m)
 syn:∃t p,w.cell? ⟨9,0,none⟩=some (.iface t p)
 rng:∃t p,w.cell? ⟨10,0,none⟩=some (.iface t p)
theorem Wn.ex{w w':World}(h:Wn w)(he:Ex w w'):Wn w':=by
 obtain⟨m,hm⟩:=h.max;obtain⟨t1,p1,h1⟩:=h.syn;obtain⟨t2,p2,h2⟩:=h.rng;exact⟨h.tab.ex he,⟨m,he.get hm⟩,⟨t1,p1,he.get h1⟩,⟨t2,p2,he.get h2⟩⟩
theorem Wn.alloc{w:World}(h:Wn w)(o:Obj):Wn (w.alloc o):=h.ex ((Ex.refl _).alloc o)
def Zab(v:Value):Prop:=v= .nilIface∨∃N:Nat,v= .iface 249 (.pointer (some ⟨N,0,none⟩))
theorem Zla(l:Ub)(hl:l.length≤1048576)(w:World)(hm:Wn w):Calls prog 133 #[(Bs l)] w fun e w'=>
  ∃(v:Int) (er:Value),e= .returned (.tuple #[v,er])∧Ex w w'∧Zab er∧(∀u,Lib.atoiAll l= .ok u→v=u∧er= .nilIface):=by
 rcases h:Lib.atoiAll l with v|_|_
 ·
  refine(Tryz.strconv_Atoi_ok (Bs l) (by rw[Yu];omega) v h w).mono ?_;rintro e w' ⟨rfl,hw⟩;refine⟨v,_,rfl,?_, .inl rfl,fun u hu=>⟨by injection hu,rfl⟩⟩;rcases hw with rfl|⟨t,rfl⟩
  ·exact Ex.refl _
  ·exact Lib.bytesWorld_below _ _ _
 ·
  obtain⟨t,p,hp⟩:=hm.syn;refine(Tryz.strconv_Atoi_syntax (Bs l) (by rw[Yu];omega) h _ w hp (.inr ⟨t,p,rfl⟩)).mono ?_;rintro e w' ⟨N,rfl, -, -,hb⟩;exact⟨0,_,rfl,hb, .inr ⟨N,rfl⟩,fun u hu=>by cases hu⟩
 ·
  obtain⟨t,p,hp⟩:=hm.rng;refine(Tryz.strconv_Atoi_range (Bs l) (by rw[Yu];omega) h _ w hp (.inr ⟨t,p,rfl⟩)).mono ?_;rintro e w' ⟨N,rfl, -, -,hb⟩;exact⟨_,_,rfl,hb, .inr ⟨N,rfl⟩,fun u hu=>by cases hu⟩
end
section
open Go.RowKit

def wds:Ub→List Ub
 |[]=>[[]]
 |b::t=>if b=32 then []::wds t else (b::(wds t).headD [])::(wds t).tail
theorem Tc(l:Ub):wds l≠[]:=by
 cases l with
 |nil=>simp[wds]
 |cons b t=>unfold wds;split<;>simp
def pre(p:Ub)(ws:List Ub):List Ub:=(p++ws.headD [])::ws.tail
theorem Lj{ws:List Ub}(h:ws≠[]):pre [] ws=ws:=by
 cases ws with
 |nil=>exact absurd rfl h
 |cons a t=>rfl
theorem Tz(t:Ub):wds (32::t)=[]::wds t:=by
 rw[wds,if_pos rfl]
theorem To{b:UInt8}(h:b≠32)(t:Ub):wds (b::t)=pre [b] (wds t):=by
 rw[wds,if_neg h];rfl
theorem Gm(p q:Ub)(ws:List Ub):pre p (pre q ws)=pre (p++q) ws:=by
 simp[pre]
theorem Zxa:∀(a:Ub) (t:Ub),(∀c∈a,c≠32)→wds (a++t)=pre a (wds t)
 |[],t,_=>(Lj (Tc t)).symm
 |b::a,t,h=>by
  show wds (b::(a++t))=_
  rw[To (h b List.mem_cons_self),Zxa a t fun c hc=>h c (List.mem_cons_of_mem _ hc),Gm]
  rfl
theorem Zmg(a t:Ub)(h:∀c∈a,c≠32):wds (a++32::t)=a::wds t:=by
 rw[Zxa a _ h,Tz];simp[pre]
theorem Zmf(a:Ub)(h:∀c∈a,c≠32):wds a=[a]:=by
 have:=Zxa a [] h
 rw[List.append_nil] at this;rw[this];simp[pre,wds]
theorem Jw:∀l:Ub,(Lib.index l [32]= -1∧∀c∈l,c≠32)∨∃a t,l=a++32::t∧Lib.index l [32]=(a.length:Nat)∧∀c∈a,c≠32
 |[]=> .inl ⟨rfl,fun _ h=>by cases h⟩
 |b::l=>by
  by_cases hb:b=32
  ·subst hb
   refine .inr ⟨[],l,rfl,?_,fun _ h=>by cases h⟩
   unfold Lib.index
   rw[if_pos (by simp)]
   rfl
  ·have hp:([32]:Ub).isPrefixOf (b::l)=false:=by
    simp[List.isPrefixOf];exact fun e=>hb e.symm
   rcases Jw l with⟨h1,h2⟩|⟨a,t,rfl,h1,h2⟩
   ·refine .inl ⟨?_,fun c hc=>?_⟩
    ·unfold Lib.index;rw[hp,h1];rfl
    ·rcases List.mem_cons.1 hc with rfl|hc
     ·exact hb
     ·exact h2 c hc
   ·refine .inr ⟨b::a,t,rfl,?_,fun c hc=>?_⟩
    ·unfold Lib.index;rw[hp,h1];have:(((a.length:Nat):Int)== -1)=false:=by rw[beq_eq_false_iff_ne];omega
     simp[this]
    ·rcases List.mem_cons.1 hc with rfl|hc
     ·exact hb
     ·exact h2 c hc
theorem Oz(l:Ub)(n:Nat):(Bs l).extract 0 n=Bs (l.take n):=by
 have:=ByteArray.extract_mk l 0 n
 simpa [Bs] using this
theorem Oy(l:Ub)(n:Nat):(Bs l).extract n (Bs l).size=Bs (l.drop n):=by
 have:=ByteArray.extract_mk l n l.length
 unfold Bs at*;have e:(ByteArray.mk l.toArray).size=l.length:=rfl;rw[e,this,List.take_of_length_le (by simp)]
theorem Fb:∀(k:Nat) (l:Ub),Lib.countB (Bs l) ⟨#[32]⟩=k→Lib.splitB ⟨#[32]⟩ 0 k (Bs l)=(wds l).map Bs:=by
 intro k;induction k with
 |zero=>
  intro l h;rcases Jw l with⟨h1,h2⟩|⟨a,t,rfl,h1,h2⟩
  ·rw[Zmf l h2];rfl
  ·have:=Lib.countB_hit (Bs (a++32::t)) ⟨#[32]⟩ a.length (by decide) h1
   omega
 |succ k ih=>
  intro l h;rcases Jw l with⟨h1,h2⟩|⟨a,t,rfl,h1,h2⟩
  ·have:=Lib.countB_miss (Bs l) ⟨#[32]⟩ h1
   omega
  ·have hc:=Lib.countB_hit (Bs (a++32::t)) ⟨#[32]⟩ a.length (by decide) h1;rw[Lib.splitB_hit ⟨#[32]⟩ 0 k (Bs (a++32::t)) a.length h1];have e1:(⟨#[32]⟩:ByteArray).size=1:=rfl;have e2:(a++32::t).take (a.length+0)=a:=List.take_left' rfl;have e3:(a++32::t).drop (a.length+1)=t:=by
    have:a++32::t=(a++[32])++t:=by simp
    rw[this];exact List.drop_left' (by simp)
   rw[e1] at hc ⊢;rw[Oy,e3] at hc;rw[Oz,Oy,e2,e3];rw[Zmg a t h2,ih t (by omega)];rfl
theorem Fa(l:Ub):(wds l).length=Lib.countB (Bs l) ⟨#[32]⟩+1:=by
 have h1:=Fb _ l rfl;have h2:=Lib.splitB_all ⟨#[32]⟩ (by decide) 0 _ (Bs l) rfl;rw[h1,List.length_map] at h2;exact h2
theorem Mj:∀(l:Ub),∀x∈wds l,x.length≤l.length
 |[],x,hx=>by simp[wds] at hx;subst hx;simp
 |b::t,x,hx=>by
  have ih:=Mj t
  by_cases hb:b=32
  ·subst hb
   rw[Tz] at hx
   rcases List.mem_cons.1 hx with rfl|hx
   ·simp
   ·have:=ih x hx
    simp
    omega
  ·rw[To hb] at hx
   obtain⟨h,r,hr⟩:∃h r,wds t=h::r:=by
    cases hw:wds t with
    |nil=>exact absurd hw (Tc t)
    |cons h r=>exact⟨h,r,rfl⟩
   rw[hr] at hx ih;simp only[pre,List.headD_cons,List.tail_cons] at hx;rcases List.mem_cons.1 hx with rfl|hx
   ·have:=ih h List.mem_cons_self
    simp;omega
   ·have:=ih x (List.mem_cons_of_mem _ hx)
    simp;omega
end
section
open Go.RowKit

def cds:Ub→List Ub
 |[]=>[[]]
 |b::t=>if b=58 then []::cds t else (b::(cds t).headD [])::(cds t).tail
theorem Jv(l:Ub):cds l≠[]:=by
 cases l with
 |nil=>simp[cds]
 |cons b t=>unfold cds;split<;>simp
theorem On(t:Ub):cds (58::t)=[]::cds t:=by
 rw[cds,if_pos rfl]
theorem Om{b:UInt8}(h:b≠58)(t:Ub):cds (b::t)=pre [b] (cds t):=by
 rw[cds,if_neg h];rfl
theorem Zwz:∀(a:Ub) (t:Ub),(∀c∈a,c≠58)→cds (a++t)=pre a (cds t)
 |[],t,_=>(Lj (Jv t)).symm
 |b::a,t,h=>by
  show cds (b::(a++t))=_
  rw[Om (h b List.mem_cons_self),Zwz a t fun c hc=>h c (List.mem_cons_of_mem _ hc),Gm]
  rfl
theorem Zdl(a t:Ub)(h:∀c∈a,c≠58):cds (a++58::t)=a::cds t:=by
 rw[Zwz a _ h,On];simp[pre]
theorem Zdk(a:Ub)(h:∀c∈a,c≠58):cds a=[a]:=by
 have:=Zwz a [] h
 rw[List.append_nil] at this;rw[this];simp[pre,cds]
theorem Ju:∀l:Ub,(Lib.index l [58]= -1∧∀c∈l,c≠58)∨∃a t,l=a++58::t∧Lib.index l [58]=(a.length:Nat)∧∀c∈a,c≠58
 |[]=> .inl ⟨rfl,fun _ h=>by cases h⟩
 |b::l=>by
  by_cases hb:b=58
  ·subst hb
   refine .inr ⟨[],l,rfl,?_,fun _ h=>by cases h⟩
   unfold Lib.index
   rw[if_pos (by simp)]
   rfl
  ·have hp:([58]:Ub).isPrefixOf (b::l)=false:=by
    simp[List.isPrefixOf];exact fun e=>hb e.symm
   rcases Ju l with⟨h1,h2⟩|⟨a,t,rfl,h1,h2⟩
   ·refine .inl ⟨?_,fun c hc=>?_⟩
    ·unfold Lib.index;rw[hp,h1];rfl
    ·rcases List.mem_cons.1 hc with rfl|hc
     ·exact hb
     ·exact h2 c hc
   ·refine .inr ⟨b::a,t,rfl,?_,fun c hc=>?_⟩
    ·unfold Lib.index;rw[hp,h1];have:(((a.length:Nat):Int)== -1)=false:=by rw[beq_eq_false_iff_ne];omega
     simp[this]
    ·rcases List.mem_cons.1 hc with rfl|hc
     ·exact hb
     ·exact h2 c hc
theorem Zyz:∀(k:Nat) (l:Ub),Lib.countB (Bs l) ⟨#[58]⟩=k→Lib.splitB ⟨#[58]⟩ 0 k (Bs l)=(cds l).map Bs:=by
 intro k;induction k with
 |zero=>
  intro l h;rcases Ju l with⟨h1,h2⟩|⟨a,t,rfl,h1,h2⟩
  ·rw[Zdk l h2];rfl
  ·have:=Lib.countB_hit (Bs (a++58::t)) ⟨#[58]⟩ a.length (by decide) h1
   omega
 |succ k ih=>
  intro l h;rcases Ju l with⟨h1,h2⟩|⟨a,t,rfl,h1,h2⟩
  ·have:=Lib.countB_miss (Bs l) ⟨#[58]⟩ h1
   omega
  ·have hc:=Lib.countB_hit (Bs (a++58::t)) ⟨#[58]⟩ a.length (by decide) h1;rw[Lib.splitB_hit ⟨#[58]⟩ 0 k (Bs (a++58::t)) a.length h1];have e1:(⟨#[58]⟩:ByteArray).size=1:=rfl;have e2:(a++58::t).take (a.length+0)=a:=List.take_left' rfl;have e3:(a++58::t).drop (a.length+1)=t:=by
    have:a++58::t=(a++[58])++t:=by simp
    rw[this];exact List.drop_left' (by simp)
   rw[e1] at hc ⊢;rw[Oy,e3] at hc;rw[Oz,Oy,e2,e3];rw[Zdl a t h2,ih t (by omega)];rfl
theorem Zyy(l:Ub):(cds l).length=Lib.countB (Bs l) ⟨#[58]⟩+1:=by
 have h1:=Zyz _ l rfl;have h2:=Lib.splitB_all ⟨#[58]⟩ (by decide) 0 _ (Bs l) rfl;rw[h1,List.length_map] at h2;exact h2
theorem Sr:∀(l:Ub),∀x∈cds l,x.length≤l.length
 |[],x,hx=>by simp[cds] at hx;subst hx;simp
 |b::t,x,hx=>by
  have ih:=Sr t
  by_cases hb:b=58
  ·subst hb
   rw[On] at hx
   rcases List.mem_cons.1 hx with rfl|hx
   ·simp
   ·have:=ih x hx
    simp
    omega
  ·rw[Om hb] at hx
   obtain⟨h,r,hr⟩:∃h r,cds t=h::r:=by
    cases hw:cds t with
    |nil=>exact absurd hw (Jv t)
    |cons h r=>exact⟨h,r,rfl⟩
   rw[hr] at hx ih;simp only[pre,List.headD_cons,List.tail_cons] at hx;rcases List.mem_cons.1 hx with rfl|hx
   ·have:=ih h List.mem_cons_self
    simp;omega
   ·have:=ih x (List.mem_cons_of_mem _ hx)
    simp;omega
end
section
open Go.RowKit

theorem Rq{l:Ub}{S:ByteArray}(h:S=Bs l){i:Nat}(hi:i<l.length):∃hs:i<S.size,S[i]'hs=l[i]:=by
 subst h;exact⟨hi,rfl⟩
theorem Zmd{l:Ub}{i:Nat}(hi:i<l.length):l.drop i=l[i]::l.drop (i+1):=List.drop_eq_getElem_cons hi
theorem Ztg{l:Ub}{i:Nat}(hi:¬i<l.length):l.drop i=[]:=List.drop_eq_nil_of_le (by omega)
theorem Ta{T S:ByteArray}(h:¬T=S):(T.toList==S.toList)=false:=by
 rw[beq_eq_false_iff_ne,Lib.toList_data,Lib.toList_data];exact fun e=>h (Te e)
theorem Ih{a b:Ub}(h:a≠b):¬Bs a=Bs b:=fun e=>h (by
 have h2:(Bs a).data.toList=(Bs b).data.toList:=by rw[e]
 simpa [Bs] using h2)
theorem slS:SlT 59 9 (.string ⟨#[]⟩) 1 16:=⟨underlying59,by kernel_rfl,rfl,by omega,by omega⟩
def Wh(ls:List Ub):List Value:=ls.map fun l=> .string (Bs l)
def Pq(w:World)(lo:Nat)(A:Option Addr)(cap:Nat)(ls:List Ub):Prop:=Own w lo 9 1 (.slice A ls.length cap) ls.length (Wh ls)
theorem Jq(w:World)(lo:Nat)(hlo:lo≤w.heap.size):Pq (w.alloc (.cells #[] 9)) lo (some ⟨w.heap.size,0,none⟩) 0 []:=Ow w lo _ 1 hlo
theorem Pq.ex{w w':World}{lo:Nat}{A:Option Addr}{cap:Nat}{ls:List Ub}(h:Pq w lo A cap ls)(he:Ex w w'):Pq w' lo A cap ls:=Own.ex h he
theorem Pq.snoc{w':World}{lo:Nat}{A:Option Addr}{cap:Nat}{ls:List Ub}{l:Ub}(h:Own w' lo 9 1 (.slice A (ls.length+1) cap) (ls.length+1) (Wh ls++[.string (Bs l)])):Pq w' lo A cap (ls++[l]):=by
 unfold Pq;unfold Wh at h ⊢;simpa using h
def Zdf(w:World)(A:Option Addr)(ls:List Ub):Prop:=Slc w A (Wh ls)
theorem Zdf.ex{w w1:World}{A:Option Addr}{ls:List Ub}(h:Zdf w A ls)(he:Ex w w1):Zdf w1 A ls:=Slc.ex h he
def GotW(w:World)(ls:List Ub):Ending→World→Prop:=fun e w'=>∃A cap,e= .returned (.slice A ls.length cap)∧Zdf w' A ls∧Ex w w'
theorem Ro(l:Ub)(a b:Nat):(Bs l).extract a b=Bs ((l.drop a).take (b-a)):=ByteArray.extract_mk l a b
theorem Zyv{l:Ub}{p k:Nat}{c:UInt8}{t:Ub}(hp:p≤k)(hk:k<l.length)(h:l.drop k=c::t):(l.drop p).take (k+1-p)=(l.drop p).take (k-p)++[c]:=by
 have hl:k-p<(l.drop p).length:=by rw[List.length_drop];omega
 have e:k+1-p=(k-p)+1:=by omega
 rw[e,List.take_succ_eq_append_getElem hl];congr 1
 have e2:(l.drop p)[k-p]=l[k]:=by
  rw[List.getElem_drop];congr 1
  omega
 rw[e2];have e3:=List.drop_eq_getElem_cons hk;rw[h] at e3;injection e3 with e3 e4;rw[e3]
end
section
open Go.RowKit

def Zbd(w:World)(ls:List Ub):Ending→World→Prop:=fun e w'=>∃A cap,e= .returned (.slice A ls.length cap)∧Pq w' w.heap.size A cap ls∧Ex w w'
theorem Zoz(l:Ub)(hl:l.length≤1048576)(w:World)(hm:Wn w):Calls prog 24 #[(Bs l), .string ⟨#[32]⟩] w (GotW w (wds l)):=by
 obtain⟨m,hm⟩:=hm.max;refine(Tryz.strings_Split (Bs l) ⟨#[32]⟩ m w (by rw[Yu];omega) hm (by decide)).mono ?_;rintro e w' ⟨rfl,rfl⟩;rw[Fb _ l rfl];refine⟨some ⟨w.heap.size,0,none⟩,Lib.countB (Bs l) ⟨#[32]⟩+1,by rw[Fa],fun _=>⟨w.heap.size,0,rfl,fun k hk=>?_⟩,(Ex.refl _).alloc _⟩;rw[Nat.zero_add,(Box.new w _ 9).cell k];simp[Wh];rfl
theorem Zkg(l:Ub)(hl:l.length≤1048576)(w:World):Calls prog 151 #[(Bs l), .int .u8 32] w (Zbd w (wds l)):=by
 obtain⟨S,HS⟩:=nm (Bs l);rw[←HS.out];have hsz:S.size=l.length:=by rw[HS.out];rfl
 have HZ:=Zz hsz;clear hsz;go_in;go_wp2;have hO:=Jq w _ (Nat.le_refl _);have hE:=(Ex.refl w).alloc (.cells #[] 9);go_loopw [7,5,6] (fun i v f wr=>∃(k p:Nat) (B:Option Addr) (cb:Nat) (ys:List Ub),i= .int .i64 k∧v= .slice B ys.length cb∧f= .int .i64 p∧k≤l.length+1∧p≤k∧ys.length≤k∧
   Hid ((k≤l.length→(∀c∈(l.drop p).take (k-p),c≠32)∧wds l=ys++pre ((l.drop p).take (k-p)) (wds (l.drop k)))∧(k=l.length+1→wds l=ys))∧Hid (Pq wr w.heap.size B cb ys)∧Ex w wr) (fun i _ _ _=>l.length+2-(intOf i).toNat)
 case atStart=>exact⟨0,0,_,0,[],rfl,rfl,rfl,by omega,by omega,by simp,Zz ⟨fun _=>⟨by simp,by simp[Lj (Tc l)]⟩,fun h=>by omega⟩,Zz hO,hE⟩
 case round=>
  obtain⟨k,p,B,cb,ys,rfl,rfl,rfl,hk,hp,hyk,HI,HO,hEr⟩:=hrel;have hsz2:=hEr.size;by_cases h1:k=l.length+1
  ·have hkI:¬(k:Int)≤(S.size:Int):=by rw[HZ.out];omega
   have e1:=HI.out.2 h1;clear HI;go_wp2;refine Zu (v:= .slice B ys.length cb) ?_ rfl ?_
   ·simp[results,results151,go_sem]
   ·exact⟨B,cb,rfl,HO.out,hEr⟩
  ·by_cases h2:k=l.length
   ·obtain rfl:k=S.size:=by rw[HZ.out];exact h2
    have H2:=Zz h2;clear h2 h1;obtain⟨x,Hx⟩:=nm ((l.drop p).take (S.size-p));have hext:S.extract p S.size=Bs x:=by rw[Hx.out,←Ro,←HS.out]
    have hw5:IntKind.i64.wrap ((S.size:Int)+1)=(S.size:Int)+1:=Zt _ (by have:=H2.out;omega);have hpk:(p:Int)≤(S.size:Int):=by omega
    have hp0:(0:Int)≤(p:Int):=by omega
    have hk0:(0:Int)≤(S.size:Int):=by omega
    have hyl:ys.length≤1048576:=by have:=H2.out;omega
    have HNEW:Hid ((S.size+1≤l.length→(∀c∈(l.drop (S.size+1)).take (S.size+1-(S.size+1)),c≠32)∧wds l=(ys++[x])++pre ((l.drop (S.size+1)).take (S.size+1-(S.size+1))) (wds (l.drop (S.size+1))))∧(S.size+1=l.length+1→wds l=ys++[x])):=Zz (by
     obtain⟨g1,g2⟩:=HI.out.1 (by have:=H2.out;omega);rw[←Hx.out] at g1 g2;refine⟨fun h=>by have:=H2.out;omega,fun _=>?_⟩;rw[g2,Ztg (by have:=H2.out;omega)];simp[pre,wds])
    go_wp2_with (at_builtin;refine Vq slS rfl _ _ wr rfl w.heap.size B cb ys.length (Wh ys) [.string (Bs x)] rfl (by simp[Value.oneCell']) rfl HO.out rfl hyl hsz2 ?_);intro A' cap' w' hown' hk';have hE3:=hk'.ex w hEr (Nat.le_refl _);have HO3:=Zz (Pq.snoc (l:=x) hown');clear hown' hk';go_wp2;go_roundw
    case rel=>exact⟨S.size+1,S.size+1,A',cap',ys++[x],by go_num,by simp,by go_num,by have:=H2.out;omega,by omega,by simp;omega,HNEW,HO3,hE3⟩
    case measure=>have:=H2.out;simp[intOf];omega
   ·have hlt:k<l.length:=by omega
    obtain⟨hs,hc⟩:=Rq HS.out hlt;have hkI:(k:Int)≤(S.size:Int):=by rw[HZ.out];omega
    have hkL:(k:Int)<(S.size:Int):=by rw[HZ.out];omega
    have hkE:¬(k:Int)=(S.size:Int):=by rw[HZ.out];omega
    have hkE2:((k:Int)==(S.size:Int))=false:=by simpa using hkE
    have hdr:=Zmd hlt;generalize l[k]=c at hc hdr;by_cases h3:c=32
    ·have h3n:(c.toNat:Int)=32:=by rw[h3];rfl
     obtain⟨x,Hx⟩:=nm ((l.drop p).take (k-p));have hext:S.extract p k=Bs x:=by rw[HS.out,Ro,Hx.out]
     have hw5:=wr1 k (by omega);have hpk:(p:Int)≤(k:Int):=by omega
     have hp0:(0:Int)≤(p:Int):=by omega
     have hk0:(0:Int)≤(k:Int):=by omega
     have hyl:ys.length≤1048576:=by omega
     have HNEW:Hid ((k+1≤l.length→(∀c∈(l.drop (k+1)).take (k+1-(k+1)),c≠32)∧wds l=(ys++[x])++pre ((l.drop (k+1)).take (k+1-(k+1))) (wds (l.drop (k+1))))∧(k+1=l.length+1→wds l=ys++[x])):=Zz (by
      obtain⟨g1,g2⟩:=HI.out.1 (by omega);rw[←Hx.out] at g1 g2;refine⟨fun _=>⟨by simp,?_⟩,fun h=>by omega⟩;rw[g2,hdr,h3,Tz,Nat.sub_self,List.take_zero,Lj (Tc _)];simp[pre])
     go_wp2_with (at_builtin;refine Vq slS rfl _ _ wr rfl w.heap.size B cb ys.length (Wh ys) [.string (Bs x)] rfl (by simp[Value.oneCell']) rfl HO.out rfl hyl hsz2 ?_);intro A' cap' w' hown' hk';have hE3:=hk'.ex w hEr (Nat.le_refl _);have HO3:=Zz (Pq.snoc (l:=x) hown');clear hown' hk';go_wp2;go_roundw
     case rel=>exact⟨k+1,k+1,A',cap',ys++[x],by go_num,by simp,by go_num,by omega,by omega,by simp;omega,HNEW,HO3,hE3⟩
     case measure=>simp[intOf];omega
    ·have h3n:¬(c.toNat:Int)=32:=fun e=>h3 (UInt8.toNat_inj.1 (by show c.toNat=32;omega))
     have h3b:((c.toNat:Int)==32)=false:=by simpa using h3n
     have hw5:=wr1 k (by omega);have HNEW:Hid ((k+1≤l.length→(∀d∈(l.drop p).take (k+1-p),d≠32)∧wds l=ys++pre ((l.drop p).take (k+1-p)) (wds (l.drop (k+1))))∧(k+1=l.length+1→wds l=ys)):=Zz (by
      obtain⟨g1,g2⟩:=HI.out.1 (by omega);have e:(l.drop p).take (k+1-p)=(l.drop p).take (k-p)++[c]:=Zyv hp hlt hdr;refine⟨fun _=>⟨?_,?_⟩,fun h=>by omega⟩
      ·intro d hd;rw[e] at hd;rcases List.mem_append.1 hd with hd|hd
       ·exact g1 d hd
       ·rw[List.mem_singleton.1 hd];exact h3
      ·rw[g2,hdr,To h3,Gm,e])
     clear hdr;go_wp2;go_roundw
     case rel=>exact⟨k+1,p,B,cb,ys,by go_num,rfl,rfl,by omega,by omega,by omega,HNEW,HO,hEr⟩
     case measure=>simp[intOf];omega
theorem Zoy(l:Ub)(hl:l.length≤1048576)(w:World):Calls prog 151 #[(Bs l), .int .u8 58] w (Zbd w (cds l)):=by
 obtain⟨S,HS⟩:=nm (Bs l);rw[←HS.out];have hsz:S.size=l.length:=by rw[HS.out];rfl
 have HZ:=Zz hsz;clear hsz;go_in;go_wp2;have hO:=Jq w _ (Nat.le_refl _);have hE:=(Ex.refl w).alloc (.cells #[] 9);go_loopw [7,5,6] (fun i v f wr=>∃(k p:Nat) (B:Option Addr) (cb:Nat) (ys:List Ub),i= .int .i64 k∧v= .slice B ys.length cb∧f= .int .i64 p∧k≤l.length+1∧p≤k∧ys.length≤k∧
   Hid ((k≤l.length→(∀c∈(l.drop p).take (k-p),c≠58)∧cds l=ys++pre ((l.drop p).take (k-p)) (cds (l.drop k)))∧(k=l.length+1→cds l=ys))∧Hid (Pq wr w.heap.size B cb ys)∧Ex w wr) (fun i _ _ _=>l.length+2-(intOf i).toNat)
 case atStart=>exact⟨0,0,_,0,[],rfl,rfl,rfl,by omega,by omega,by simp,Zz ⟨fun _=>⟨by simp,by simp[Lj (Jv l)]⟩,fun h=>by omega⟩,Zz hO,hE⟩
 case round=>
  obtain⟨k,p,B,cb,ys,rfl,rfl,rfl,hk,hp,hyk,HI,HO,hEr⟩:=hrel;have hsz2:=hEr.size;by_cases h1:k=l.length+1
  ·have hkI:¬(k:Int)≤(S.size:Int):=by rw[HZ.out];omega
   have e1:=HI.out.2 h1;clear HI;go_wp2;refine Zu (v:= .slice B ys.length cb) ?_ rfl ?_
   ·simp[results,results151,go_sem]
   ·exact⟨B,cb,rfl,HO.out,hEr⟩
  ·by_cases h2:k=l.length
   ·obtain rfl:k=S.size:=by rw[HZ.out];exact h2
    have H2:=Zz h2;clear h2 h1;obtain⟨x,Hx⟩:=nm ((l.drop p).take (S.size-p));have hext:S.extract p S.size=Bs x:=by rw[Hx.out,←Ro,←HS.out]
    have hw5:IntKind.i64.wrap ((S.size:Int)+1)=(S.size:Int)+1:=Zt _ (by have:=H2.out;omega);have hpk:(p:Int)≤(S.size:Int):=by omega
    have hp0:(0:Int)≤(p:Int):=by omega
    have hk0:(0:Int)≤(S.size:Int):=by omega
    have hyl:ys.length≤1048576:=by have:=H2.out;omega
    have HNEW:Hid ((S.size+1≤l.length→(∀c∈(l.drop (S.size+1)).take (S.size+1-(S.size+1)),c≠58)∧cds l=(ys++[x])++pre ((l.drop (S.size+1)).take (S.size+1-(S.size+1))) (cds (l.drop (S.size+1))))∧(S.size+1=l.length+1→cds l=ys++[x])):=Zz (by
     obtain⟨g1,g2⟩:=HI.out.1 (by have:=H2.out;omega);rw[←Hx.out] at g1 g2;refine⟨fun h=>by have:=H2.out;omega,fun _=>?_⟩;rw[g2,Ztg (by have:=H2.out;omega)];simp[pre,cds])
    go_wp2_with (at_builtin;refine Vq slS rfl _ _ wr rfl w.heap.size B cb ys.length (Wh ys) [.string (Bs x)] rfl (by simp[Value.oneCell']) rfl HO.out rfl hyl hsz2 ?_);intro A' cap' w' hown' hk';have hE3:=hk'.ex w hEr (Nat.le_refl _);have HO3:=Zz (Pq.snoc (l:=x) hown');clear hown' hk';go_wp2;go_roundw
    case rel=>exact⟨S.size+1,S.size+1,A',cap',ys++[x],by go_num,by simp,by go_num,by have:=H2.out;omega,by omega,by simp;omega,HNEW,HO3,hE3⟩
    case measure=>have:=H2.out;simp[intOf];omega
   ·have hlt:k<l.length:=by omega
    obtain⟨hs,hc⟩:=Rq HS.out hlt;have hkI:(k:Int)≤(S.size:Int):=by rw[HZ.out];omega
    have hkL:(k:Int)<(S.size:Int):=by rw[HZ.out];omega
    have hkE:¬(k:Int)=(S.size:Int):=by rw[HZ.out];omega
    have hkE2:((k:Int)==(S.size:Int))=false:=by simpa using hkE
    have hdr:=Zmd hlt;generalize l[k]=c at hc hdr;by_cases h3:c=58
    ·have h3n:(c.toNat:Int)=58:=by rw[h3];rfl
     obtain⟨x,Hx⟩:=nm ((l.drop p).take (k-p));have hext:S.extract p k=Bs x:=by rw[HS.out,Ro,Hx.out]
     have hw5:=wr1 k (by omega);have hpk:(p:Int)≤(k:Int):=by omega
     have hp0:(0:Int)≤(p:Int):=by omega
     have hk0:(0:Int)≤(k:Int):=by omega
     have hyl:ys.length≤1048576:=by omega
     have HNEW:Hid ((k+1≤l.length→(∀c∈(l.drop (k+1)).take (k+1-(k+1)),c≠58)∧cds l=(ys++[x])++pre ((l.drop (k+1)).take (k+1-(k+1))) (cds (l.drop (k+1))))∧(k+1=l.length+1→cds l=ys++[x])):=Zz (by
      obtain⟨g1,g2⟩:=HI.out.1 (by omega);rw[←Hx.out] at g1 g2;refine⟨fun _=>⟨by simp,?_⟩,fun h=>by omega⟩;rw[g2,hdr,h3,On,Nat.sub_self,List.take_zero,Lj (Jv _)];simp[pre])
     go_wp2_with (at_builtin;refine Vq slS rfl _ _ wr rfl w.heap.size B cb ys.length (Wh ys) [.string (Bs x)] rfl (by simp[Value.oneCell']) rfl HO.out rfl hyl hsz2 ?_);intro A' cap' w' hown' hk';have hE3:=hk'.ex w hEr (Nat.le_refl _);have HO3:=Zz (Pq.snoc (l:=x) hown');clear hown' hk';go_wp2;go_roundw
     case rel=>exact⟨k+1,k+1,A',cap',ys++[x],by go_num,by simp,by go_num,by omega,by omega,by simp;omega,HNEW,HO3,hE3⟩
     case measure=>simp[intOf];omega
    ·have h3n:¬(c.toNat:Int)=58:=fun e=>h3 (UInt8.toNat_inj.1 (by show c.toNat=58;omega))
     have h3b:((c.toNat:Int)==58)=false:=by simpa using h3n
     have hw5:=wr1 k (by omega);have HNEW:Hid ((k+1≤l.length→(∀d∈(l.drop p).take (k+1-p),d≠58)∧cds l=ys++pre ((l.drop p).take (k+1-p)) (cds (l.drop (k+1))))∧(k+1=l.length+1→cds l=ys)):=Zz (by
      obtain⟨g1,g2⟩:=HI.out.1 (by omega);have e:(l.drop p).take (k+1-p)=(l.drop p).take (k-p)++[c]:=Zyv hp hlt hdr;refine⟨fun _=>⟨?_,?_⟩,fun h=>by omega⟩
      ·intro d hd;rw[e] at hd;rcases List.mem_append.1 hd with hd|hd
       ·exact g1 d hd
       ·rw[List.mem_singleton.1 hd];exact h3
      ·rw[g2,hdr,Om h3,Gm,e])
     clear hdr;go_wp2;go_roundw
     case rel=>exact⟨k+1,p,B,cb,ys,by go_num,rfl,rfl,by omega,by omega,by omega,HNEW,HO,hEr⟩
     case measure=>simp[intOf];omega
end
section
open Go.RowKit

def lns:Ub→List Ub
 |[]=>[[]]
 |b::t=>if b=10 then []::lns t else (b::(lns t).headD [])::(lns t).tail
theorem Hm(l:Ub):lns l≠[]:=by
 cases l with
 |nil=>simp[lns]
 |cons b t=>unfold lns;split<;>simp
theorem Oj(t:Ub):lns (10::t)=[]::lns t:=by
 rw[lns,if_pos rfl]
theorem Mc{b:UInt8}(h:b≠10)(t:Ub):lns (b::t)=pre [b] (lns t):=by
 rw[lns,if_neg h];rfl
theorem Zwp:∀(a:Ub) (t:Ub),(∀c∈a,c≠10)→lns (a++t)=pre a (lns t)
 |[],t,_=>(Lj (Hm t)).symm
 |b::a,t,h=>by
  show lns (b::(a++t))=_
  rw[Mc (h b List.mem_cons_self),Zwp a t fun c hc=>h c (List.mem_cons_of_mem _ hc),Gm]
  rfl
theorem Zlw(a t:Ub)(h:∀c∈a,c≠10):lns (a++10::t)=a::lns t:=by
 rw[Zwp a _ h,Oj];simp[pre]
theorem Zwo(a:Ub)(h:∀c∈a,c≠10):lns a=[a]:=by
 have:=Zwp a [] h
 rw[List.append_nil] at this;rw[this];simp[pre,lns]
theorem Hl:∀l:Ub,(Lib.index l [10]= -1∧∀c∈l,c≠10)∨∃a t,l=a++10::t∧Lib.index l [10]=(a.length:Nat)∧∀c∈a,c≠10
 |[]=> .inl ⟨rfl,fun _ h=>by cases h⟩
 |b::l=>by
  by_cases hb:b=10
  ·subst hb
   refine .inr ⟨[],l,rfl,?_,fun _ h=>by cases h⟩
   unfold Lib.index
   rw[if_pos (by simp)]
   rfl
  ·have hp:([10]:Ub).isPrefixOf (b::l)=false:=by
    simp[List.isPrefixOf];exact fun e=>hb e.symm
   rcases Hl l with⟨h1,h2⟩|⟨a,t,rfl,h1,h2⟩
   ·refine .inl ⟨?_,fun c hc=>?_⟩
    ·unfold Lib.index;rw[hp,h1];rfl
    ·rcases List.mem_cons.1 hc with rfl|hc
     ·exact hb
     ·exact h2 c hc
   ·refine .inr ⟨b::a,t,rfl,?_,fun c hc=>?_⟩
    ·unfold Lib.index;rw[hp,h1];have:(((a.length:Nat):Int)== -1)=false:=by rw[beq_eq_false_iff_ne];omega
     simp[this]
    ·rcases List.mem_cons.1 hc with rfl|hc
     ·exact hb
     ·exact h2 c hc
theorem Zyp:∀(k:Nat) (l:Ub),Lib.countB (Bs l) ⟨#[10]⟩=k→Lib.splitB ⟨#[10]⟩ 0 k (Bs l)=(lns l).map Bs:=by
 intro k;induction k with
 |zero=>
  intro l h;rcases Hl l with⟨h1,h2⟩|⟨a,t,rfl,h1,h2⟩
  ·rw[Zwo l h2];rfl
  ·have:=Lib.countB_hit (Bs (a++10::t)) ⟨#[10]⟩ a.length (by decide) h1
   omega
 |succ k ih=>
  intro l h;rcases Hl l with⟨h1,h2⟩|⟨a,t,rfl,h1,h2⟩
  ·have:=Lib.countB_miss (Bs l) ⟨#[10]⟩ h1
   omega
  ·have hc:=Lib.countB_hit (Bs (a++10::t)) ⟨#[10]⟩ a.length (by decide) h1;rw[Lib.splitB_hit ⟨#[10]⟩ 0 k (Bs (a++10::t)) a.length h1];have e1:(⟨#[10]⟩:ByteArray).size=1:=rfl;have e2:(a++10::t).take (a.length+0)=a:=List.take_left' rfl;have e3:(a++10::t).drop (a.length+1)=t:=by
    have:a++10::t=(a++[10])++t:=by simp
    rw[this];exact List.drop_left' (by simp)
   rw[e1] at hc ⊢;rw[Oy,e3] at hc;rw[Oz,Oy,e2,e3];rw[Zlw a t h2,ih t (by omega)];rfl
theorem Zkc(l:Ub):(lns l).length=Lib.countB (Bs l) ⟨#[10]⟩+1:=by
 have h1:=Zyp _ l rfl;have h2:=Lib.splitB_all ⟨#[10]⟩ (by decide) 0 _ (Bs l) rfl;rw[h1,List.length_map] at h2;exact h2
theorem Ew:∀(l:Ub),∀x∈lns l,x.length≤l.length
 |[],x,hx=>by simp[lns] at hx;subst hx;simp
 |b::t,x,hx=>by
  have ih:=Ew t
  by_cases hb:b=10
  ·subst hb
   rw[Oj] at hx
   rcases List.mem_cons.1 hx with rfl|hx
   ·simp
   ·have:=ih x hx
    simp
    omega
  ·rw[Mc hb] at hx
   obtain⟨h,r,hr⟩:∃h r,lns t=h::r:=by
    cases hw:lns t with
    |nil=>exact absurd hw (Hm t)
    |cons h r=>exact⟨h,r,rfl⟩
   rw[hr] at hx ih;simp only[pre,List.headD_cons,List.tail_cons] at hx;rcases List.mem_cons.1 hx with rfl|hx
   ·have:=ih h List.mem_cons_self
    simp;omega
   ·have:=ih x (List.mem_cons_of_mem _ hx)
    simp;omega
end
section
open Go.RowKit

theorem Zlu:(Tryz.prog.info? 58).map (·.size)=some 2:=by kernel_rfl
theorem Zcz:liesAt prog Tryz.prog.depth 58 (2 / Tryz.prog.cellsOf 58) 0 58 1=true:=by kernel_rfl
theorem Zcy(b:Nat)(v:Value)(w:World)(hb:Box w b 58 #[.pointer (some ⟨b,0,none⟩),v]):
  Calls prog 83 #[.pointer (some ⟨b,0,none⟩)] w fun e w'=>e= .returned (.tuple #[])∧w'=w:=by
 obtain⟨j,hj,hjs⟩:=Option.map_eq_some_iff.1 Zlu;have c:=hb.cell;have z:=hb.lt;go_in;go_wp2;rw[Lib.run_neq_ptr_same w _ underlying56 hj];go_wp2;go_end0
 exact⟨rfl,rfl⟩
theorem Zgi(b:Nat)(v:Value)(w:World)(hb:Box w b 58 #[.pointer none,v]):
  Calls prog 83 #[.pointer (some ⟨b,0,none⟩)] w fun e w'=>e= .returned (.tuple #[])∧w'=w.setCell ⟨b,0,none⟩ (.pointer (some ⟨b,0,none⟩)):=by
 obtain⟨j,hj,hjs⟩:=Option.map_eq_some_iff.1 Zlu;have hsh:w.shape? b=some (58,2):=by
  unfold Box at hb;simp[World.shape?,hb]
 have c:=hb.cell;have f:=hb.frozen;have z:=hb.lt;go_in;go_wp2;rw[Lib.run_to_unsafe w ⟨b,0,none⟩ underlying56 underlying183 hj (by rw[hjs];decide) hsh (Nat.zero_lt_succ 1)];simp only[Result.andThen];rw[Oper.upon_value];go_wp2;rw[run_callFunc_extern func147 (by kernel_rfl) (by kernel_rfl) (by kernel_rfl) (e:=Extern.AbiNoEscape.same) (by kernel_rfl)];rw[Lib.run_noEscape];simp only[Result.andThen];rw[Oper.upon_value];go_wp2;rw[Lib.run_from_unsafe w ⟨b,0,none⟩ underlying183 underlying56 hj hsh Zcz];simp only[Result.andThen];rw[Oper.upon_value];go_wp2;go_end0
 exact⟨rfl,rfl⟩
structure Bld(w:World)(lo b:Nat)(p v:Value)(bs:List Value):Prop where
 box:Box w b 58 #[p,v]
 own:Own w lo 5 1 v bs.length bs
 ptr:p= .pointer none∨p= .pointer (some ⟨b,0,none⟩)
structure Sh(w w':World)(lo b:Nat):Prop where
 ex:∀W,Ex W w→W.heap.size≤lo→W.heap.size≤b→Ex W w'
 box:∀g t cs,g≠b→t≠5→Box w g t cs→Box w' g t cs
 size:w.heap.size≤w'.heap.size
theorem Sh.refl(w:World)(lo b:Nat):Sh w w lo b:=⟨fun _ h _ _=>h,fun _ _ _ _ _ h=>h,Nat.le_refl _⟩
theorem Sh.trans{w w1 w2:World}{lo b:Nat}(h:Sh w w1 lo b)(k:Sh w1 w2 lo b):Sh w w2 lo b:=
 ⟨fun W hW h1 h2=>k.ex W (h.ex W hW h1 h2) h1 h2,fun g t cs hg ht hb=>k.box g t cs hg ht (h.box g t cs hg ht hb),Nat.le_trans h.size k.size⟩
theorem Zap(lo b:Nat)(p v:Value)(bs:List Value)(w:World)(h:Bld w lo b p v bs):
  Calls prog 83 #[.pointer (some ⟨b,0,none⟩)] w fun e w'=>e= .returned (.tuple #[])∧Bld w' lo b (.pointer (some ⟨b,0,none⟩)) v bs∧Sh w w' lo b:=by
 obtain⟨hb,hown,hp⟩:=h;have hne:=Own.ne hown hb (by decide);rcases hp with rfl|rfl
 ·refine(Zgi b v w hb).mono ?_;rintro e w' ⟨rfl,rfl⟩;refine⟨rfl,⟨?_,Own.setCell (p:=⟨b,0,none⟩) hown (fun g hg e=>hne (by rw[hg,e])) _, .inr rfl⟩,?_,?_,?_⟩
  ·have:=hb.set_ 0 (.pointer (some ⟨b,0,none⟩))
   simpa using this
  ·intro W hW h1 h2;exact hW.setCell (p:=⟨b,0,none⟩) h2 _
  ·intro g t cs hg ht hbx;exact hbx.far (p:=⟨b,0,none⟩) hg _
  ·simp
 ·refine(Zcy b v w hb).mono ?_;rintro e w' ⟨rfl,rfl⟩;exact⟨rfl,⟨hb,hown, .inr rfl⟩,Sh.refl _ _ _⟩
theorem Zgh(lo b:Nat)(p v:Value)(bs:List Value)(s:ByteArray)(w:World)(h:Bld w lo b p v bs)(hlo:lo≤w.heap.size)(hl:bs.length+s.size≤10000000):
  Calls prog 28 #[.pointer (some ⟨b,0,none⟩),s] w fun e w'=>
   e= .returned (.tuple #[s.size, .nilIface])∧∃v',Bld w' lo b (.pointer (some ⟨b,0,none⟩)) v' (bs++Lib.strCells s)∧Sh w w' lo b:=by
 obtain⟨i0,hi,hz0,hz1,hz2⟩:=info_parts (show(Tryz.prog.info? 5).map (fun i=>(i.zero,i.size,i.bytes))=some (some (.int .u8 0),1,1) by kernel_rfl);have K:=Zz (Zap lo b p v bs w h);clear h;have h63:bs.length+s.size≤maxLen:=by unfold maxLen;omega
 go_in;go_wp2_with (go_at_call 83;refine K.out.mono ?_);rintro e w1 ⟨rfl,⟨hb,hown, -⟩,HK⟩;have hHK:=Zz HK;have hlo1:lo≤w1.heap.size:=Nat.le_trans hlo HK.size;clear HK;have hrow:w1.ownsRow lo 5 1 v bs.length bs:=hown;have c:=hb.cell;have z:=hb.lt;have hne:some b≠v.ownBlock:=Own.ne hown hb (by decide);go_wp2_with (at_builtin;refine Lib.wpList_append_own_string _ rfl _ _ 22 9 rfl lo 5 i0 underlying22 underlying9 hi hz0 hz1 hz2 _ _ _ rfl hrow s rfl h63 (by omega) hlo1 ?_);intro v' w2 hown' hgrow _;have hb2:Box w2 b 58 #[.pointer (some ⟨b,0,none⟩),v]:=hb.grown hgrow hne;have c2:=hb2.cell;have f2:=hb2.frozen;have z2:=hb2.lt;obtain⟨ao,cap,rfl,hA⟩:=Own.form hown';have hlt:=Own.lt hown;have hne2:some b≠(Value.slice ao (bs.length+s.size) cap).ownBlock:=Own.ne hown' hb2 (by decide);clear hA;go_wp2;go_ret2
 refine⟨rfl, .slice ao (bs.length+s.size) cap,⟨?_,?_, .inr rfl⟩,hHK.out.trans ⟨?_,?_,?_⟩⟩
 ·have:=hb2.set_ 1 (.slice ao (bs.length+s.size) cap)
  simpa using this
 ·rw[List.length_append,Lib.strCells_length];exact Own.setCell (p:=⟨b,1,none⟩) hown' (fun g hg e=>hne2 (by rw[hg,e])) _
 ·intro W hW h1 h2;exact(hW.grown hgrow (fun k hk=>Nat.le_trans h1 (hlt k hk).1)).setCell (p:=⟨b,1,none⟩) h2 _
 ·intro g t cs hg ht hbx;exact(hbx.grown hgrow (Own.ne hown hbx (fun e=>ht e.symm))).far (p:=⟨b,1,none⟩) hg _
 ·have:=hgrow.size
  simpa using this
end
section
open Go.RowKit Go.Sort

theorem Zjn(w:World)(T:TypeId)(nd:Nat)(hs:nd≤24):Holds (fun(b:UInt8)=>Value.int .u8 (b.toNat:Int)) (w.alloc (.cells Lib.zeros24 T)) w.heap.size 0 (Array.replicate nd (0:UInt8)):=fun j hj=>by
 have hj':j<nd:=by simpa using hj
 refine⟨?_,World.frozen?_alloc_new _ _ _ _⟩
 rw[World.cell?_alloc_new,Lib.zeros24_at _ (by omega),getElem!_pos _ j hj]
 simp
theorem Zct(w:World)(o:Obj)(dk:Array UInt8)(k:Nat):Ex w ((putRow (fun(b:UInt8)=>Value.int .u8 (b.toNat:Int)) (w.alloc o) w.heap.size 0 dk).drewN k):=by
 obtain⟨os',_,e⟩:=putRow_grow_new (fun(b:UInt8)=>Value.int .u8 (b.toNat:Int)) w #[o] w.heap.size 0 dk (Nat.le_refl _);have e2:(putRow (fun(b:UInt8)=>Value.int .u8 (b.toNat:Int)) (w.alloc o) w.heap.size 0 dk).drewN k=grow (w.drewN k) os':=by rw[alloc_eq_grow,e];rfl
 rw[e2];exact Zmq w k os'
theorem Zjm(i:Nat)(hi:i<100)(w:World):Calls prog 206 #[i] w fun e w'=>e= .returned (.string ⟨(Lib.decDigits i).toArray⟩)∧w'=w:=Any.internal_strconv_small {Tryz.laysM171 with} i hi w
theorem Zzo(u:Nat)(h1:1≤u)(h2:u<18446744073709551616)(w:World)(ht:Tab w):Calls prog 207 #[.int .u64 u] w fun e w'=>e= .returned (.int .i64 (Lib.nDigits u))∧w'=w:=Any.internal_strconv_numDigits {Tryz.laysM171 with} u h1 h2 w ht
theorem Eu(blk off cap:Nat)(u:Nat)(d:Array UInt8)(w:World)(hH:Holds (fun(b:UInt8)=>Value.int .u8 (b.toNat:Int)) w blk off d)(hu:u<10 ^ d.size)(hu64:u<18446744073709551616)(hsz:d.size<4611686018427387904):
  Calls prog 208 #[.slice (some ⟨blk,off,none⟩) d.size cap, .int .u64 u] w fun e w'=>
   e= .returned (.tuple #[])∧∃(n v':Nat) (dk:Array UInt8),w'=(putRow (fun(b:UInt8)=>Value.int .u8 (b.toNat:Int)) w blk off dk).drewN n∧Lib.FmtInv d.size u 0 v' dk:=Any.internal_strconv_formatBase10 {Tryz.laysM171 with} blk off cap u d w hH hu hu64 hsz
theorem Zjl(u:Nat)(hu64:u<18446744073709551616)(w:World)(ht:Tab w):Calls prog 146 #[.int .u64 u, .int .i64 10] w fun e w'=>e= .returned (.string ⟨(Lib.decDigits u).toArray⟩)∧Ex w w':=by
 by_cases hs:u<100
 ·have hw:(IntKind.i64.wrap (u:Int))=(u:Int):=Zt _ (by omega);have hlt:decide ((u:Int)<100)=true:=decide_eq_true (by omega);go_in;go_wp2_with (go_at_call 206;refine(Zjm u hs _).mono ?_;rintro e w' ⟨rfl,rfl⟩);refine Zu (v:= .string ⟨(Lib.decDigits u).toArray⟩) ?_ rfl ⟨rfl,Ex.refl _⟩;simp[results,results146,go_sem]
 ·have hu1:1≤u:=by omega
  have hnd20:Lib.nDigits u≤20:=by have:=Lib.numDigits_eq u hu1 hu64;split at this<;>omega
  have hlt:decide ((u:Int)<100)=false:=decide_eq_false (by omega);have hal:Tryz.prog.arrayLen 226=24:=by simp[Program.arrayLen,underlying226]
  have hsl1:∀W,(Instr.sliceAt 226 (.pointer (some ⟨w.heap.size,0,none⟩)) none (some (.int .i64 (Lib.nDigits u:Int))) none).run prog W= .ok (.slice (some ⟨w.heap.size,0,none⟩) (Lib.nDigits u) 24) W:=fun W=>by
   rw[run_sliceAt_array_h W 226 ⟨w.heap.size,0,none⟩ (by simp[Program.arrayLen,Program.elem,underlying226]) .i64 (Lib.nDigits u:Int) (by omega) (by rw[hal];omega)];go_simp
  have hH0:=Zjn w 226 (Lib.nDigits u) (by omega);have hfmt:=Eu w.heap.size 0 24 u (Array.replicate (Lib.nDigits u) 0) (w.alloc (.cells Lib.zeros24 226)) hH0 (by rw[Array.size_replicate];exact Lib.lt_pow_nDigits u) hu64 (by rw[Array.size_replicate];omega);rw[Array.size_replicate] at hfmt;have HH0:=Zz hH0;have HT:=Zz ht;clear hH0 hal ht;go_in;go_wp2_with (first
   |(go_at_call 207;refine(Zzo u hu1 hu64 _ (HT.out.alloc _)).mono ?_;rintro e w' ⟨rfl,rfl⟩))
  go_at_call 208
  refine hfmt.mono ?_;rintro e w' ⟨rfl,k,v',dk,rfl,hF⟩;have hcv:(convert 22 9 (.slice (some ⟨w.heap.size,0,none⟩) (Lib.nDigits u) 24)).run prog ((putRow (fun(b:UInt8)=>Value.int .u8 (b.toNat:Int)) (w.alloc (.cells Lib.zeros24 226)) w.heap.size 0 dk).drewN k)= .ok (.string ⟨(Lib.decDigits u).toArray⟩) ((putRow (fun(b:UInt8)=>Value.int .u8 (b.toNat:Int)) (w.alloc (.cells Lib.zeros24 226)) w.heap.size 0 dk).drewN k):=by
   have h:=run_convert_bytes_back (P:=prog) ((putRow (fun(b:UInt8)=>Value.int .u8 (b.toNat:Int)) (w.alloc (.cells Lib.zeros24 226)) w.heap.size 0 dk).drewN k) 22 9 5 ⟨w.heap.size,0,none⟩ 24 (Lib.decDigits u) underlying22 underlying5 underlying9 (fun j hj=>by
    rw[Lib.row_is_numeral hF j hj,Lib.add_plain,World.cell?_drewN];exact cell?_putRow (fun(b:UInt8)=>Value.int .u8 (b.toNat:Int)) _ w.heap.size 0 _ dk HH0.out (by rw[hF.size,Array.size_replicate]) j (by rw[hF.size];rw[Lib.decDigits_length] at hj;exact hj))
   rw[Lib.decDigits_length] at h;exact h
  have hE:=Zct w (.cells Lib.zeros24 226) dk k;go_wp2;refine Zu (v:= .string ⟨(Lib.decDigits u).toArray⟩) ?_ rfl ⟨rfl,hE⟩;simp[results,results146,go_sem]
theorem Zfq(u:Nat)(hu64:u<18446744073709551616)(w:World)(ht:Tab w):Calls prog 82 #[.int .u64 u, .int .i64 10] w fun e w'=>e= .returned (.string (Bs (Lib.itoa u)))∧Ex w w':=by
 have k1:=fun w ht=>Zjl u hu64 w ht
 have hb:(⟨(Lib.decDigits u).toArray⟩:ByteArray)=Bs (Lib.itoa u):=by rw[Lib.itoa_nonneg];rfl
 rw[hb] at k1;generalize Bs (Lib.itoa u)=S at*;have K1:=Zz k1;have HT:=Zz ht;clear k1 ht hb;go_in;go_wp2_with fail;refine Yw (K1.out _ HT.out) fun w1 hx=>?_
 go_wp2;refine Zu (v:= .string S) ?_ rfl ⟨rfl,hx⟩;simp[results,results82,go_sem]
end
end Go.Proofs.YtiommfmaleeibaaGreatDoor
