/-
  Proved:what functions compute,part 1. No condition.
-/
import Derived.Test.YtiommfmaleeibaaGreatDoorRows
import Derived.WalkSpells
import Derived.WalkLawsBesides
import Derived.Lib.Hide
import Derived.BigQuiet
import Derived.StillTail
set_option linter.unusedSimpArgs false
set_option linter.unusedVariables false
set_option maxRecDepth 20000
set_option maxHeartbeats 8000000
namespace Go.Proofs.YtiommfmaleeibaaGreatDoor
open Go.Proofs.Tryz
section
open Go.RowKit
theorem Zz{p:Prop}(h:p):Hid p:=Lib.hid h
theorem Zy(w:World)(o:Obj):(w.alloc o).heap.size=w.heap.size+1:=World.size_alloc w o
theorem Zx.{u}{α:Type u}(l:List α)(i:Nat)(a:α):l.toArray.setIfInBounds i a=(l.set i a).toArray:=List.setIfInBounds_toArray l i a
theorem Zw.{u}{α:Type u}{x a:α}{xs:List α}:(x::xs).set 0 a=a::xs:=List.set_cons_zero
theorem Zv.{u}{α:Type u}{x a:α}{xs:List α}{i:Nat}:(x::xs).set (i+1) a=x::xs.set i a:=List.set_cons_succ
theorem Zu{P:Program}{fn:Func}{R:Ending→World→Prop}{a:Act}{w:World}{v:Value}(hr:(results fn a.tmps).run P w= .ok v w)(hd:a.defers=[])(hR:R (.returned v) w):bodyPost P fn R .ret a w:=bodyPost_ret hr hd hR
theorem Zt(n:Int)(h: -9223372036854775808≤n∧n≤9223372036854775807):IntKind.i64.wrap n=n:=IntWalk.i64_in n h

instance :Coe Int Value:=⟨fun n=> .int .i64 n⟩
instance :Coe Nat Value:=⟨fun n=> .int .i64 (n:Int)⟩
instance :Coe Bool Value:=⟨.bool⟩
instance :Coe ByteArray Value:=⟨.string⟩
inductive Zs|mk
def oo:Zs:= .mk
def Oa:Zs:= .mk
def Ob:Zs:= .mk
def Oc:Zs:= .mk
def Od:Zs:= .mk
def Oe:Zs:= .mk
instance :CoeDep Zs oo Value:=⟨.int .i64 0⟩
instance :CoeDep Zs Oa (Array Value):=⟨#[.int .i64 0, .int .i64 0, .int .i64 0]⟩
instance :CoeDep Zs Ob (Array Value):=⟨#[.int .i64 0, .int .i64 0, .int .i64 0, .int .i64 0, .int .i64 0, .int .i64 0]⟩
instance :CoeDep Zs Oc (Array Value):=⟨#[.int .i64 0, .int .i64 0, .int .i64 0, .int .i64 0, .int .i64 0, .int .i64 0, .int .i64 0, .int .i64 0, .int .i64 0, .int .i64 0, .int .i64 0, .int .i64 0]⟩
instance :CoeDep Zs Od (Array Value):=⟨#[.int .i64 0, .int .i64 0, .int .i64 0, .int .i64 0, .int .i64 0, .int .i64 0, .int .i64 0, .int .i64 0, .int .i64 0, .int .i64 0, .int .i64 0, .int .i64 0, .int .i64 0, .int .i64 0, .int .i64 0, .int .i64 0, .int .i64 0, .int .i64 0, .int .i64 0, .int .i64 0, .int .i64 0, .int .i64 0, .int .i64 0, .int .i64 0, .int .i64 0, .int .i64 0, .int .i64 0, .int .i64 0, .int .i64 0, .int .i64 0, .int .i64 0, .int .i64 0, .int .i64 0, .int .i64 0, .int .i64 0, .int .i64 0, .int .i64 0, .int .i64 0, .int .i64 0, .int .i64 0, .int .i64 0, .int .i64 0, .int .i64 0, .int .i64 0, .int .i64 0, .int .i64 0, .int .i64 0, .int .i64 0]⟩
instance :CoeDep Zs Oe (Array Value):=⟨#[.string ⟨#[]⟩, .int .i64 0, .int .i64 0, .int .i64 0, .int .i64 0, .int .i64 0, .int .i64 0]⟩
class LeI(a b:Nat):Prop where out:a≤b
instance (a:Nat):LeI a a:=⟨Nat.le_refl a⟩
instance {a b n:Nat}[h:LeI a b]:LeI a (b+n):=⟨Nat.le_trans h.out (Nat.le_add_right b n)⟩
abbrev Ub:=List UInt8
abbrev Av:=Array Value
abbrev Xx:=List (Nat×TypeId×Array Value)
def Ex(w w':World):Prop:=Below w.heap.size w w'

section
variable {w w1 w2:World}
theorem Ex.refl(w:World):Ex w w:=Below.refl _ _
theorem Ex.trans(h:Ex w w1)(k:Ex w1 w2):Ex w w2:=Below.trans h (Below.mono k h.size)
theorem Ex.alloc(h:Ex w w1)(o:Obj):Ex w (w1.alloc o):=Below.alloc h h.size o
theorem Ex.drew(h:Ex w w1):Ex w w1.drew:=Below.drew h
theorem Ex.drewN(h:Ex w w1)(n:Nat):Ex w (w1.drewN n):=below_drewN h n
theorem Ex.setCell(h:Ex w w1){p:Addr}(hp:w.heap.size≤p.block)(u:Value):Ex w (w1.setCell p u):=Below.setCell h hp u
theorem Ex.grown(h:Ex w w1){row:Option Nat}(hg:w1.grownBy w2 row)(hr:∀k,row=some k→w.heap.size≤k):Ex w w2:=Below.grown h hg h.size hr
theorem Ex.size(h:Ex w w1):w.heap.size≤w1.heap.size:=Below.size h
theorem Ex.of(h:Below w.heap.size w w1):Ex w w1:=h
theorem Ex.out(h:Ex w w1):Below w.heap.size w w1:=h
theorem Ex.block(h:Ex w w1){b:Nat}{o:Obj}(hb:w.heap[b]? =some o):w1.heap[b]? =some o:=by
 have hlt:b<w.heap.size:=by
  rcases Nat.lt_or_ge b w.heap.size with h|h
  ·exact h
  ·rw[Array.getElem?_eq_none h] at hb;cases hb
 exact(Below.block h b hlt).trans hb
theorem Ex.get(h:Ex w w1){p:Addr}{v:Value}(hc:w.cell? p=some v):w1.cell? p=some v:=
 (Below.cell h (World.block_lt_of_cell? w p hc)).trans hc
class Exi(w w':World):Prop where out:Ex w w'
instance :Exi w w:=⟨Ex.refl w⟩
instance {o:Obj}[h:Exi w w1]:Exi w (w1.alloc o):=⟨h.out.alloc o⟩
instance [h:Exi w w1]:Exi w w1.drew:=⟨h.out.drew⟩
instance {n:Nat}[h:Exi w w1]:Exi w (w1.drewN n):=⟨h.out.drewN n⟩
instance {p:Addr}{u:Value}[h:Exi w w1][k:LeI w.heap.size p.block]:Exi w (w1.setCell p u):=⟨h.out.setCell k.out u⟩
end

def Box(w:World)(b:Nat)(t:TypeId)(cs:Array Value):Prop:=w.heap[b]? =some (.cells cs t (0,0))

section
variable {w w1:World} {b:Nat} {t:TypeId} {cs:Array Value}
theorem Box.lt(h:Box w b t cs):b<w.heap.size:=by
 unfold Box at h;rcases Nat.lt_or_ge b w.heap.size with hlt|hge
 ·exact hlt
 ·rw[Array.getElem?_eq_none hge] at h;cases h
theorem Box.cell(h:Box w b t cs):∀i,w.cell? ⟨b,i,none⟩=cs[i]? :=fun i=>cell_of_row w b i cs t (0,0) h
theorem Box.frozen(h:Box w b t cs):∀i,w.frozen? ⟨b,i,none⟩=false:=fun i=>by
 unfold Box at h
 simp[World.frozen?,h]
theorem Box.new(w:World)(cs:Array Value)(t:TypeId):Box (w.alloc (.cells cs t)) w.heap.size t cs:=heap_alloc_new w _
theorem Box.ex(h:Box w b t cs)(he:Ex w w1):Box w1 b t cs:=he.block h
theorem Box.alloc(h:Box w b t cs)(o:Obj):Box (w.alloc o) b t cs:=h.ex ((Ex.refl _).alloc o)
theorem Box.drew(h:Box w b t cs):Box w.drew b t cs:=h
theorem Box.set_(h:Box w b t cs)(i:Nat)(u:Value):Box (w.setCell ⟨b,i,none⟩ u) b t (cs.setIfInBounds i u):=by
 unfold Box at h ⊢;simp[World.setCell,Array.getElem?_modify,h]
theorem Box.far(h:Box w b t cs){p:Addr}(hp:b≠p.block)(u:Value):Box (w.setCell p u) b t cs:=(Below.heap_setCell w p u b hp).trans h
theorem Box.grown{row:Option Nat}(h:Box w b t cs)(hg:w.grownBy w1 row)(hne:some b≠row):Box w1 b t cs:=(hg.block b h.lt hne).trans h
end

def Slc(w:World)(A:Option Addr)(cs:List Value):Prop:=
 0<cs.length→∃b off,A=some ⟨b,off,none⟩∧∀k,k<cs.length→w.cell? ⟨b,off+k,none⟩=cs[k]?

section
variable {w w1:World} {A:Option Addr} {cs:List Value}
theorem Slc.ex(h:Slc w A cs)(he:Ex w w1):Slc w1 A cs:=by
 intro hp;obtain⟨b,off,rfl,hc⟩:=h hp;refine⟨b,off,rfl,fun k hk=>?_⟩;have hk':=hc k hk;rw[List.getElem?_eq_getElem hk] at hk' ⊢;exact he.get hk'
theorem Slc.alloc(h:Slc w A cs)(o:Obj):Slc (w.alloc o) A cs:=h.ex ((Ex.refl _).alloc o)
theorem Slc.drew(h:Slc w A cs):Slc w.drew A cs:=h
theorem Slc.nil(w:World)(A:Option Addr):Slc w A []:=fun h=>absurd h (by simp)
end

def Cv(w:World)(A:Option Addr)(xs:List Int):Prop:=Slc w A (xs.map (Value.int .i64))

section
variable {w w1:World} {A:Option Addr} {xs:List Int}
theorem Cv.ex(h:Cv w A xs)(he:Ex w w1):Cv w1 A xs:=Slc.ex h he
theorem Cv.alloc(h:Cv w A xs)(o:Obj):Cv (w.alloc o) A xs:=Slc.alloc h o
theorem Cv.drew(h:Cv w A xs):Cv w.drew A xs:=h
theorem Cv.at(h:Cv w A xs)(hp:0<xs.length):∃b off,A=some ⟨b,off,none⟩∧∀k,k<xs.length→w.cell? ⟨b,off+k,none⟩=some (.int .i64 (xs.getD k 0)):=by
 obtain⟨b,off,rfl,hc⟩:=h (by simpa using hp);exact⟨b,off,rfl,fun k hk=>by rw[hc k (by simpa using hk)];simp[hk]⟩
end

theorem wr1(k:Nat)(h: -9223372036854775808≤(k:Int)+1∧(k:Int)+1≤9223372036854775807):IntKind.i64.wrap ((k:Int)+1)=(k:Int)+1:=Zt _ h
theorem nm{α:Type _}(x:α):∃y,Hid (y=x):=⟨_,Zz rfl⟩
theorem Yp{P:Program}{fn:Func}{a:Act}{w0 w:World}{v:Value}(hr:(results fn a.tmps).run P w= .ok v w)(hd:a.defers=[])[k:Exi w0 w]:bodyPost P fn (fun e w'=>e= .returned v∧Ex w0 w') .ret a w:=
 Zu hr hd ⟨rfl,k.out⟩
theorem Yw{P:Program}{f:FuncId}{args:Array Value}{w:World}{V:Value}{R:World→Prop}{Q:Ending→World→Prop}(K:Calls P f args w (fun e w'=>e= .returned V∧R w'))(hk:∀wn,R wn→Q (.returned V) wn):Calls P f args w Q:=
 K.mono (by
  rintro e wn ⟨rfl,hx⟩
  exact hk wn hx)
theorem Wv{a b:Bool}(h:a=b):Ending.returned (.bool a)= .returned (.bool b):=by rw[h]
theorem Zxs{k:IntKind}{a b:Int}(h:a=b):Ending.returned (.int k a)= .returned (.int k b):=by rw[h]

def Own(w:World)(lo:Nat)(e:TypeId)(size:Nat)(v:Value)(n:Nat)(cs:List Value):Prop:=w.ownsRow lo e size v n cs

section
variable {w w':World} {lo lo':Nat} {e:TypeId} {size n:Nat} {v:Value} {cs:List Value}
theorem Own.lt(h:Own w lo e size v n cs):∀g,v.ownBlock=some g→lo≤g∧g<w.heap.size:=World.ownsRow.lt h
theorem Own.ex(h:Own w lo e size v n cs)(he:Ex w w'):Own w' lo e size v n cs:=by
 refine⟨h.1,?_⟩;rcases h.2 with h0|⟨g,cap,cur,rfl,hg,hh,hr⟩
 ·exact .inl h0
 ·exact .inr ⟨g,cap,cur,rfl,hg,he.block hh,hr⟩
theorem Own.wide(h:Own w lo e size v n cs)(h1:lo'≤lo):Own w lo' e size v n cs:=by
 refine⟨h.1,?_⟩;rcases h.2 with h0|⟨g,cap,cur,rfl,hg,hh,hr⟩
 ·exact .inl h0
 ·exact .inr ⟨g,cap,cur,rfl,Nat.le_trans h1 hg,hh,hr⟩
theorem Own.form(h:Own w lo e size v n cs):∃A cap,v= .slice A n cap∧(0<n→∃g,A=some ⟨g,0,none⟩∧lo≤g):=by
 rcases h.2 with⟨rfl,rfl⟩|⟨g,cap,cur,rfl,hg,_⟩
 ·exact⟨none,0,rfl,fun h=>absurd h (by omega)⟩
 ·exact⟨_,cap,rfl,fun _=>⟨g,rfl,hg⟩⟩
theorem Own.drew(h:Own w lo e size v n cs):Own w.drew lo e size v n cs:=h
theorem Own.alloc(h:Own w lo e size v n cs)(o:Obj):Own (w.alloc o) lo e size v n cs:=h.ex ((Ex.refl _).alloc o)
theorem Own.setCell(h:Own w lo e size v n cs){p:Addr}(hp:∀g,v.ownBlock=some g→g≠p.block)(u:Value):Own (w.setCell p u) lo e size v n cs:=by
 refine⟨h.1,?_⟩;rcases h.2 with h0|⟨g,cap,cur,rfl,hg,hh,hr⟩
 ·exact .inl h0
 ·exact .inr ⟨g,cap,cur,rfl,hg,(Below.heap_setCell w p u g (hp g rfl)).trans hh,hr⟩
theorem Own.setBelow(h:Own w lo e size v n cs){p:Addr}(hp:p.block<lo)(u:Value):Own (w.setCell p u) lo e size v n cs:=
 h.setCell (fun g hg e=>by have:=(h.lt g hg).1;omega) u
theorem Own.ne{b:Nat}{t:TypeId}{xs:Array Value}(h:Own w lo e size v n cs)(hb:Box w b t xs)(hne:e≠t):some b≠v.ownBlock:=by
 rcases h.2 with⟨rfl,_⟩|⟨g,cap,cur,rfl,_,hh,_⟩
 ·simp[Value.ownBlock]
 ·intro he;have:b=g:=by simpa [Value.ownBlock] using he
  subst this;unfold Box at hb;rw[hh] at hb;injection hb with hb;injection hb with _ ht;exact hne ht
theorem Own.slc{A:Option Addr}{n' cap:Nat}(h:Own w lo e size (.slice A n' cap) n cs):Slc w A cs:=by
 intro hp;rcases h.2 with⟨_,rfl⟩|⟨g,cap',cur,hv,hg,hh,h1,h2,h3,h4⟩
 ·have:=h.1;simp at this;subst this;simp at hp
 ·injection hv with e1 e2 e3;subst e1;subst e2;subst e3;refine⟨g,0,rfl,fun k hk=>?_⟩;rw[Nat.zero_add];exact World.ownsRow.cellAt h k (by have:=h.1;omega)
end

def Un(w:World)(lo:Nat)(A:Option Addr)(cap:Nat)(xs:List Int):Prop:=
 Own w lo 3 1 (.slice A xs.length cap) xs.length (xs.map (Value.int .i64))

section
variable {w w':World} {lo lo':Nat} {A:Option Addr} {cap:Nat} {xs:List Int}
theorem Un.ex(h:Un w lo A cap xs)(he:Ex w w'):Un w' lo A cap xs:=Own.ex h he
theorem Un.wide(h:Un w lo A cap xs)(h1:lo'≤lo):Un w lo' A cap xs:=Own.wide h h1
theorem Un.alloc(h:Un w lo A cap xs)(o:Obj):Un (w.alloc o) lo A cap xs:=Own.alloc h o
theorem Un.drew(h:Un w lo A cap xs):Un w.drew lo A cap xs:=h
theorem Un.setBelow(h:Un w lo A cap xs){p:Addr}(hp:p.block<lo)(u:Value):Un (w.setCell p u) lo A cap xs:=Own.setBelow h hp u
theorem Un.at(h:Un w lo A cap xs)(hp:0<xs.length):∃g,A=some ⟨g,0,none⟩∧lo≤g∧g<w.heap.size∧
  (∀k,k<xs.length→w.cell? ⟨g,k,none⟩=some (.int .i64 (xs.getD k 0)))∧(∀k,w.frozen? ⟨g,k,none⟩=false):=by
 obtain⟨A',cap',hv,hA⟩:=Own.form h;injection hv with e1 e2 e3;subst e1;subst e3;obtain⟨g,rfl,hg⟩:=hA hp;refine⟨g,rfl,hg,(Own.lt h g rfl).2,fun k hk=>?_,fun k=>World.ownsRow.frozenAt h k⟩;rw[World.ownsRow.cellAt h k (by omega)];simp[hk]
end

theorem Hc(w:World)(lo:Nat)(hlo:lo≤w.heap.size):Un (w.alloc (.cells #[] 3)) lo (some ⟨w.heap.size,0,none⟩) 0 []:=
 World.ownsRow_made w #[] 0 hlo (Nat.zero_le _) rfl

structure Qg(lo:Nat)(e:TypeId)(w w':World):Prop where
 ex:∀W,Ex W w→W.heap.size≤lo→Ex W w'
 box:∀b t cs,Box w b t cs→e≠t→Box w' b t cs
 size:w.heap.size≤w'.heap.size
theorem Qg.trans{lo:Nat}{e:TypeId}{w w1 w2:World}(h:Qg lo e w w1)(k:Qg lo e w1 w2):Qg lo e w w2:=
 ⟨fun W hW hl=>k.ex W (h.ex W hW hl) hl,fun b t cs hb hne=>k.box b t cs (h.box b t cs hb hne) hne,Nat.le_trans h.size k.size⟩
theorem Qg.of_ex{lo:Nat}{e:TypeId}{w w1:World}(h:Ex w w1):Qg lo e w w1:=⟨fun _ hW _=>hW.trans h,fun _ _ _ hb _=>hb.ex h,h.size⟩
theorem Qg.of_grown{lo:Nat}{e:TypeId}{size n:Nat}{w w1 w2:World}{v:Value}{cs:List Value}(h:Ex w w1)(hown:Own w lo e size v n cs)(hg:w1.grownBy w2 v.ownBlock):Qg lo e w w2:=
 ⟨fun _ hW hl=>(hW.trans h).grown hg (fun k hk=>Nat.le_trans hl (hown.lt k hk).1),fun _ _ _ hb hne=>(hb.ex h).grown hg (hown.ne hb hne),Nat.le_trans h.size hg.size⟩

theorem Zea{o:Oper}{a:Act}{K:Act→World→Prop}{Q:Exit→Act→World→Prop}{w:World}(s x:Operand)
  (ho:o.op= .call {callee:= .builtin .append,args:=#[s,x],argTypes:=#[108,108]})
  (lo:Nat) (A:Option Addr) (cap:Nat) (xs:List Int) (n:Int) (hs:a.eval s= .slice A xs.length cap) (hown:Un w lo A cap xs) (g:Nat) (W:World)
  (hx:a.eval x= .slice (some ⟨g,0,none⟩) 1 1) (hW:Ex w W) (hbox:Box W g 3 #[.int .i64 n]) (hlen:xs.length≤1048576) (hlo:lo≤w.heap.size)
  (h:∀A' cap' w',Un w' lo A' cap' (xs++[n])→Qg lo 3 w w'→K (a.put o.dst (.slice A' (xs.length+1) cap')) w'):o.wp prog a W K Q:=by
 obtain⟨i0,hi,hz0,hz1,hz2⟩:=info_parts (show(Tryz.prog.info? 3).map (fun i=>(i.zero,i.size,i.bytes))=some (some (.int .i64 0),1,8) by kernel_rfl);refine wp_append_own W s x 108 ho lo 3 i0 (.int .i64 0) 1 8 underlying108 hi hz0 hz1 hz2 rfl (by omega) _ xs.length _ hs (hown.ex hW) ⟨g,0,none⟩ 1 1 [.int .i64 n] hx rfl ?_ ?_ (by unfold maxLen;omega) (by omega) (Nat.le_trans hlo hW.size) ?_
 ·intro j u hj;match j,hj with
  |0,hj=>simp at hj;subst hj;simpa [Addr.add] using hbox.cell 0
 ·intro u hu;simp at hu;subst hu;rfl
 ·intro v' w' hown' hg _;obtain⟨A',cap',rfl, -⟩:=Own.form hown';refine h A' cap' w' ?_ (Qg.of_grown hW hown hg);unfold Un Own;simpa using hown'
theorem Vj{ops:Array Oper}{rest:List Oper}{o:Oper}{a:Act}{Q:Exit→Act→World→Prop}(hgd:o.guard=none)(s x:Operand)(w:World)
  (ho:o.op= .call {callee:= .builtin .append,args:=#[s,x],argTypes:=#[108,108]})
  (lo:Nat) (A:Option Addr) (cap:Nat) (xs:List Int) (n:Int) (hs:a.eval s= .slice A xs.length cap) (hown:Un w lo A cap xs)
  (hx:a.eval x= .slice (some ⟨w.heap.size,0,none⟩) 1 1) (hlen:xs.length≤1048576) (hlo:lo≤w.heap.size)
  (h:∀A' cap' w',Un w' lo A' cap' (xs++[n])→Qg lo 3 w w'→wpList prog ops Q rest (a.put o.dst (.slice A' (xs.length+1) cap')) w'):wpList prog ops Q (o::rest) a (w.alloc (.cells #[.int .i64 n] 3)):=
 wpList_plain hgd fun _ hK=>Zea s x ho lo A cap xs n hs hown _ _ hx ((Ex.refl w).alloc _) (Box.new w _ _) hlen hlo fun A' cap' w' h1 h2=>hK _ _ (h A' cap' w' h1 h2)
end
section
open Go.RowKit

def Xy(w:World):Xx→Prop
 |[]=>True
 |x::L=>Box w x.1 x.2.1 x.2.2∧Xy w L
theorem Xy.ex{w w1:World}(he:Ex w w1):∀{L:Xx},Xy w L→Xy w1 L
 |[],_=>trivial
 |_::_,h=>⟨h.1.ex he,Xy.ex he h.2⟩
def Kw(w:World):Xx→Prop
 |[]=>True
 |x::L=>(∀i,w.cell? ⟨x.1,i,none⟩=x.2.2[i]?)∧(∀i,w.frozen? ⟨x.1,i,none⟩=false)∧x.1<w.heap.size∧Kw w L
theorem Xy.rd{w:World}:∀{L:Xx},Xy w L→Kw w L
 |[],_=>trivial
 |_::_,h=>⟨h.1.cell,h.1.frozen,h.1.lt,Xy.rd h.2⟩
theorem Zr(w:World)(b:Nat)(t:TypeId)(cs:Av)(L:Xx):
  Kw w ((b,t,cs)::L)=((∀i,w.cell? ⟨b,i,none⟩=cs[i]?)∧(∀i,w.frozen? ⟨b,i,none⟩=false)∧b<w.heap.size∧Kw w L):=rfl
theorem Zq(w:World):Kw w []=True:=rfl

class Zo(W w:World)(L:outParam (Xx)):Prop where
 ex:Ex W w
 boxes:Xy w L
theorem Zo.refl(w:World):Zo w w []:=⟨Ex.refl w,trivial⟩
theorem s0(w:World):Zo w w []∧True:=⟨Zo.refl w,trivial⟩
instance Zo.alloc{W w:World}{L:Xx}{cs:Av}{t:TypeId}[h:Zo W w L]:Zo W (w.alloc (.cells cs t)) ((w.heap.size,t,cs)::L):=
 ⟨h.ex.alloc _,Box.new w cs t,Xy.ex ((Ex.refl w).alloc _) h.boxes⟩
instance Zo.drew{W w:World}{L:Xx}[h:Zo W w L]:Zo W w.drew L:=⟨h.ex.drew,Xy.ex (Ex.refl w).drew h.boxes⟩
instance Zo.drewN{W w:World}{n:Nat}{L:Xx}[h:Zo W w L]:Zo W (w.drewN n) L:=⟨h.ex.drewN n,Xy.ex ((Ex.refl w).drewN n) h.boxes⟩
theorem Zo.after{W w w1:World}{L:Xx}[h:Zo W w L](hx:Ex w w1):Zo W w1 L:=⟨h.ex.trans hx,Xy.ex hx h.boxes⟩
theorem Zo.rd{W w:World}{L:Xx}(h:Zo W w L):Kw w L:=h.boxes.rd
instance {W w:World}{L:Xx}[h:Zo W w L]:Exi W w:=⟨h.ex⟩
theorem Zo.see{P:Program}{f:FuncId}{args:Av}{w:World}{L:Xx}{V:Value}{Q:Ending→World→Prop}(W:World)[h:Zo W w L]
  (K:Calls P f args w (fun e w'=>e= .returned V∧Ex w w')) (hk:∀wn,Zo W wn L→Kw wn L→Q (.returned V) wn):Calls P f args w Q:=
 K.mono (by
  rintro e wn ⟨rfl,hx⟩
  have h2:=Zo.after (h:=h) hx
  exact hk wn h2 h2.rd)
theorem Zg{a b:Nat}(h:a<b):(a=b)=False:=eq_false (Nat.ne_of_lt h)
theorem Zf{a b:Nat}(h:b<a):(a=b)=False:=eq_false (Nat.ne_of_gt h)
end
section
open Go.RowKit

class Xz(w:World):Prop where
 triv:True
 zero:∀i,w.cell? ⟨1,i,none⟩=(#[oo,oo, .int .i64 1]:Av)[i]?
 one:∀i,w.cell? ⟨0,i,none⟩=(#[.int .i64 1,oo, .int .i64 1]:Av)[i]?
 turns:∀i,w.cell? ⟨2,i,none⟩=(#[.int .i64 1,oo, .int .i64 1,oo, .int .i64 1, .int .i64 1,(-1:Int),oo, .int .i64 1,oo,(-1:Int), .int .i64 1]:Av)[i]?
 same:∀i,w.cell? ⟨3,i,none⟩=(#[.int .i64 1,oo, .int .i64 1,oo,oo, .int .i64 1,oo,oo, .int .i64 1, .int .i64 1,oo, .int .i64 1]:Av)[i]?
theorem Gx{w w1:World}(hx:Ex w w1){b:Nat}{cs:Av}(h0:0<cs.size)(h:∀i,w.cell? ⟨b,i,none⟩=cs[i]?):∀i,w1.cell? ⟨b,i,none⟩=cs[i]? :=by
 intro i;have hb:b<w.heap.size:=by
  have h2:=h 0;rw[Array.getElem?_eq_getElem h0] at h2;exact World.block_lt_of_cell? w ⟨b,0,none⟩ h2
 exact(Below.cell (p:=⟨b,i,none⟩) hx hb).trans (h i)
theorem Xz.ex{w w1:World}(h:Xz w)(hx:Ex w w1):Xz w1 where
 triv:=trivial
 zero:=Gx hx (by decide) h.zero
 one:=Gx hx (by decide) h.one
 turns:=Gx hx (by decide) h.turns
 same:=Gx hx (by decide) h.same
instance Xz.alloc{w:World}{o:Obj}[h:Xz w]:Xz (w.alloc o):=h.ex ((Ex.refl w).alloc o)
instance Xz.drew{w:World}[h:Xz w]:Xz w.drew:=h.ex (Ex.refl w).drew
instance Xz.drewN{w:World}{n:Nat}[h:Xz w]:Xz (w.drewN n):=h.ex ((Ex.refl w).drewN n)
theorem Xz.after{w w1:World}[h:Xz w](hx:Ex w w1):Xz w1:=h.ex hx
theorem Dg{w:World}{b:Nat}{cs:Av}(h:∀i,w.cell? ⟨b,i,none⟩=cs[i]?)(h0:0<cs.size):b<w.heap.size:=by
 have h2:=h 0;rw[Array.getElem?_eq_getElem h0] at h2;exact World.block_lt_of_cell? w ⟨b,0,none⟩ h2
theorem Xz.rd{w:World}(h:Xz w):True
 ∧(∀i,w.cell? ⟨1,i,none⟩=(#[oo,oo, .int .i64 1]:Av)[i]?)
 ∧(1<w.heap.size)
 ∧(∀i,w.cell? ⟨0,i,none⟩=(#[.int .i64 1,oo, .int .i64 1]:Av)[i]?)
 ∧(0<w.heap.size)
 ∧(∀i,w.cell? ⟨2,i,none⟩=(#[.int .i64 1,oo, .int .i64 1,oo, .int .i64 1, .int .i64 1,(-1:Int),oo, .int .i64 1,oo,(-1:Int), .int .i64 1]:Av)[i]?)
 ∧(2<w.heap.size)
 ∧(∀i,w.cell? ⟨3,i,none⟩=(#[.int .i64 1,oo, .int .i64 1,oo,oo, .int .i64 1,oo,oo, .int .i64 1, .int .i64 1,oo, .int .i64 1]:Av)[i]?)
 ∧(3<w.heap.size)
 :=⟨trivial
 ,h.zero
 ,Dg h.zero (by decide)
 ,h.one
 ,Dg h.one (by decide)
 ,h.turns
 ,Dg h.turns (by decide)
 ,h.same
 ,Dg h.same (by decide)
 ⟩
theorem Zo.seeG{P:Program}{f:FuncId}{args:Av}{w:World}{L:Xx}{V:Value}{Q:Ending→World→Prop}(W:World)[h:Zo W w L][g:Xz w]
  (K:Calls P f args w (fun e w'=>e= .returned V∧Ex w w')) (hk:∀wn,Zo W wn L→Kw wn L→Xz wn→Q (.returned V) wn):Calls P f args w Q:=
 K.mono (by
  rintro e wn ⟨rfl,hx⟩
  have h2:=Zo.after (h:=h) hx
  exact hk wn h2 h2.rd (g.ex hx))
end
section
open Go.RowKit
end
section
section
variable {P:Program} {ops:Array Oper} {md:Region.Mode} {σ:Type}

def Vs(P:Program)(G:Value→World→Prop):Result Next→Prop
 | .ok (.value u) w=>G u w
 | .ok .skip w=>G undef w
 | .ok (.enter f args) w=>Calls P f args w fun e w'=>∃u,e= .returned u∧G u w'
 | .ok (.row row args) w=>Rows P row args w G
 |_=>False
theorem Vs.mono{G G':Value→World→Prop}(h:∀u w,G u w→G' u w){r:Result Next}(hh:Vs P G r):Vs P G' r:=by
 cases r with
 |ok n w'=>
  cases n<;>simp only[Vs] at hh ⊢
  case value u=>exact h _ _ hh
  case skip=>exact h _ _ hh
  case enter f args=>exact hh.mono fun _ _ ⟨u,he,hg⟩=>⟨u,he,h _ _ hg⟩
  case row row args=>exact Rows.mono hh fun _ _ hg=>h _ _ hg
 |halt x w'=>simp only[Vs] at hh
theorem Vs.wp{o:Oper}{a:Act}{w:World}{G:Value→World→Prop}{K:Act→World→Prop}{Q:Exit→Act→World→Prop}(h:Vs P G ((execOp a.eval o).run P w))
  (hk:∀u w',G u w'→K (a.put o.dst u) w'):o.wp P a w K Q:=by
 unfold Oper.wp;generalize (execOp a.eval o).run P w=r at h;cases r with
 |ok n w'=>
  cases n<;>simp only[Vs] at h<;>simp only[Oper.upon]
  case value u=>exact hk _ _ h
  case skip=>exact hk _ _ h
  case enter f args=>exact h.mono fun e w'' ⟨u,he,hg⟩=>by subst he;exact hk _ _ hg
  case row row args=>exact Rows.mono h fun _ _ hg=>hk _ _ hg
 |halt x w'=>simp only[Vs] at h

def Det(P:Program)(ops:Array Oper)(B:Bool→World→Prop)(St:World→World→Prop)(o:Oper)(v:Value)(d:Bool)(a:Act):Prop:=
 (Region.wanted o (yielded ops a.tmps)=true∧∀b w,B b w→Vs P (fun u w'=>a.put o.dst u=a.put o.dst v∧St w w'∧B (b||d) w') ((execOp a.eval o).run P w))∨
 (Region.wanted o (yielded ops a.tmps)=false∧v=undef∧d=false)
def Ep(P:Program)(ops:Array Oper)(B:Bool→World→Prop)(X:σ→World→Prop)(i:Nat)(K:Act→σ→Bool→Prop)(a:Act)(s:σ)(e:Bool):Prop:=
 match ops[i]? with
 |none=>K a s e
 | some o => if Region.wanted o (yielded ops a.tmps) = true then
   ∃(d:Bool) (R:Value→σ→Prop),(∀b w,B b w→X s w→Vs P (fun u w'=>B (b||d) w'∧∃s',R u s'∧X s' w') ((execOp a.eval o).run P w))∧∀u s',R u s'→K (a.put o.dst u) s' (e||d)
  else K (a.put o.dst undef) s e
def wpT(P:Program)(md:Region.Mode)(ops:Array Oper)(B:Bool→World→Prop)(X:σ→World→Prop)(n:Nat)(L:Array Bool→Act→σ→Bool→Prop):Nat→Array Bool→Act→σ→Bool→Prop
 |0,listed,a,s,e=>L listed a s e
 |f+1,listed,a,s,e=>Region.ready md ops listed≠[]∧∀i∈Region.ready md ops listed,i<n∧Ep P ops B X i (wpT P md ops B X n L f (listed.setIfInBounds i true)) a s e

variable {B:Bool→World→Prop} {St:World→World→Prop} {X:σ→World→Prop}
theorem Zui{i:Nat}{K:Act→σ→Bool→Prop}{K':Act→World→Prop}{Q:Exit→Act→World→Prop}{a:Act}{s:σ}{e:Bool}{w:World}(hb:B e w)(hx:X s w)
  (h:∀a' s' e' w',B e' w'→X s' w'→K a' s' e'→K' a' w') (hh:Ep P ops B X i K a s e):wpOp P ops Q i K' a w:=by
 unfold Ep at hh;unfold wpOp;split
 ·rename_i h0;simp only[h0] at hh;exact h _ _ _ _ hb hx hh
 ·rename_i o ho;simp only[ho] at hh;split
  ·rename_i hw;simp only[hw,if_true] at hh;obtain⟨d,R,h1,h2⟩:=hh;refine .inl ((h1 e w hb hx).wp ?_);rintro u w' ⟨hb',s',hR,hx'⟩;exact h _ _ _ _ hb' hx' (h2 u s' hR)
  ·rename_i hw;simp only[hw] at hh;exact h _ _ _ _ hb hx hh
theorem Ls{n g:Nat}{L:Array Bool→Act→σ→Bool→Prop}{Q':Exit→Act→World→Prop}(hL:∀listed a s e w,L listed a s e→B e w→X s w→wpAny P md ops Q' g listed a w):
  ∀(f:Nat) (listed:Array Bool) (a:Act) (s:σ) (e:Bool) (w:World),B e w→X s w→wpT P md ops B X n L f listed a s e→wpAny P md ops Q' (f+g) listed a w
 |0,listed,a,s,e,w,hb,hx,h=>by rw[Nat.zero_add];exact hL _ _ _ _ _ h hb hx
 |f+1,listed,a,s,e,w,hb,hx,h=>by
  rw[show f+1+g=(f+g)+1 by omega]
  exact⟨fun h0=>absurd h0 h.1,fun i hi=>Zui hb hx (fun a' s' e' w' hb' hx' hk=>Ls hL f _ a' s' e' w' hb' hx' hk) (h.2 i hi).2⟩
theorem Det.put{o:Oper}{v u:Value}{d:Bool}{a:Act}{t:Option Tmp}(hs:∀cs b,o.op≠ .select cs b)(hl:∀d,t=some d→d∉o.looksAt ops)(hd:∀d,o.dst=some d→t≠some d)(hy:Det P ops B St o v d a):
  Det P ops B St o v d (a.put t u):=by
 unfold Det at*;rw[execOp_put o hs a t u hl,wanted_put o a t u hl];rcases hy with⟨h1,h2⟩|h1
 ·refine .inl ⟨h1,fun b w hb=>(h2 b w hb).mono ?_⟩;rintro u' w' ⟨he,h3⟩;exact⟨by rw[←Act.put_comm a u' u hd,←Act.put_comm a v u hd,he],h3⟩
 ·exact .inr h1
theorem Det.rel(hX:∀s w w',St w w'→X s w→X s w'){i:Nat}{o:Oper}{v:Value}{d:Bool}{a:Act}{s:σ}{e:Bool}{K:Act→σ→Bool→Prop}(hi:ops[i]? =some o)(hy:Det P ops B St o v d a)(h:K (a.put o.dst v) s (e||d)):
  Ep P ops B X i K a s e:=by
 unfold Ep;simp only[hi];rcases hy with⟨hw,hv⟩|⟨hw,rfl,rfl⟩
 ·simp only[hw,if_true];refine⟨d,fun u s'=>a.put o.dst u=a.put o.dst v∧s'=s,fun b w hb hx=>(hv b w hb).mono ?_,?_⟩
  ·rintro u w' ⟨he,h1,h2⟩;exact⟨h2,s,⟨he,rfl⟩,hX _ _ _ h1 hx⟩
  ·rintro u s' ⟨he,rfl⟩;rw[he];exact h
 ·simp only[hw,Bool.false_eq_true,if_false];rwa[Bool.or_false] at h
theorem Fo(hX:∀s w w',St w w'→X s w→X s w'){n i:Nat}{oi:Oper}{v:Value}{d:Bool}{L:Array Bool→Act→σ→Bool→Prop}(hi:ops[i]? =some oi)(hsel:∀(j:Nat) (o:Oper) cs b,ops[j]? =some o→o.op≠ .select cs b)
  (hin:i<n) (hT:∀listed,HeadInv md ops n listed→listed.getD i true=false→∀j∈Region.ready md ops listed,j<n) (hdone:∀listed a s e,L listed a s e→∀j∈Region.ready md ops listed,n≤j):
  ∀(f:Nat) (listed:Array Bool) (a:Act) (s:σ) (e:Bool),HeadInv md ops n listed→
   (∀j oj,ops[j]? =some oj→j≠i→listed.getD j true=false→(∀e∈oj.after,Region.binds md e=true→e.on≠i)→oi.apart ops oj=true)→
   i∈Region.ready md ops listed→Det P ops B St oi v d a→
   wpT P md ops B X n L f (listed.setIfInBounds i true) (a.put oi.dst v) s (e||d)→wpT P md ops B X n L (f+1) listed a s e:=by
 intro f;induction f with
 |zero=>
  intro listed a s e inv _ hr hy H;have hun:=(mem_ready.1 hr).1;refine⟨fun h=>(by rw[h] at hr;cases hr),fun j hj=>?_⟩;have hjn:=hT listed inv hun j hj;refine⟨hjn,?_⟩;by_cases hji:j=i
  ·subst hji;exact hy.rel hX hi H
  ·have:=hdone _ _ _ _ H j (ready_mono hj hji)
   omega
 |succ f ih=>
  intro listed a s e inv hfree hr hy H;have hun:=(mem_ready.1 hr).1;refine⟨fun h=>(by rw[h] at hr;cases hr),fun j hj=>?_⟩;have hjn:=hT listed inv hun j hj;refine⟨hjn,?_⟩;by_cases hji:j=i
  ·subst hji;exact hy.rel hX hi H
  have h1:=(H.2 j (ready_mono hj hji)).2;obtain⟨hjun,oj,hoj,hall⟩:=mem_ready.1 hj;have hnot:∀g∈oj.after,Region.binds md g=true→g.on≠i:=fun g hg hb heq=>by
   have h2:=hall g hg hb;rw[heq,getD_both hun] at h2;cases h2
  obtain⟨p1,p2,p3⟩:=Oper.apart_spec (hfree j oj hoj hji hjun hnot);have hfree':∀k ok,ops[k]? =some ok→k≠i→(listed.setIfInBounds j true).getD k true=false→(∀g∈ok.after,Region.binds md g=true→g.on≠i)→oi.apart ops ok=true:=fun k ok hk hki hun hno=>by
   refine hfree k ok hk hki ?_ hno;by_cases hjk:j=k
   ·subst hjk;exact hjun
   ·rw[getD_set_ne true hjk] at hun;exact hun
  have next:∀(u:Value) (s':σ) (e':Bool),wpT P md ops B X n L f ((listed.setIfInBounds i true).setIfInBounds j true) ((a.put oi.dst v).put oj.dst u) s' (e'||d)→
    wpT P md ops B X n L (f+1) (listed.setIfInBounds j true) (a.put oj.dst u) s' e':=fun u s' e' hh=>by
   refine ih _ _ s' e' (inv.set hj hjn) hfree' (ready_mono hr (Ne.symm hji)) (hy.put (fun cs b=>hsel i oi cs b hi) p3 p2) ?_;rw[Array.setIfInBounds_comm _ _ hji,←Act.put_comm a v u p2];exact hh
  unfold Ep at h1 ⊢;simp only[hoj] at h1 ⊢;rw[wanted_put oj a oi.dst v p1] at h1;split
  ·rename_i hw;simp only[hw,if_true] at h1;obtain⟨dj,R,h2,h3⟩:=h1;rw[execOp_put oj (fun cs b=>hsel j oj cs b hoj) a oi.dst v p1] at h2;refine⟨dj,R,h2,fun u s' hR=>next u s' _ ?_⟩;have:=h3 u s' hR
   rwa[Bool.or_assoc,Bool.or_comm d dj,←Bool.or_assoc] at this
  ·rename_i hw;simp only[hw] at h1;exact next _ s e h1

def Wf(P:Program)(ops:Array Oper)(B:Bool→World→Prop)(St:World→World→Prop)(Q:List Oper→Act→Bool→Prop):Nat→List Oper→Act→Bool→Prop
 |0,l,a,e=>Q l a e
 |_+1,[],_,_=>False
 |n+1,o::rest,a,e=>∃v d,Det P ops B St o v d a∧Wf P ops B St Q n rest (a.put o.dst v) (e||d)
section
variable {Q:List Oper→Act→Bool→Prop} {o:Oper} {n:Nat} {rest:List Oper} {a a':Act} {e:Bool}
theorem Zn{l:List Oper}(h:Q l a e):Wf P ops B St Q 0 l a e:=h
theorem Hy{Q Q':List Oper→Act→Bool→Prop}(hq:∀l a e,Q l a e→Q' l a e):∀{n:Nat} {l:List Oper} {a:Act} {e:Bool},Wf P ops B St Q n l a e→Wf P ops B St Q' n l a e
 |0,_,_,_,h=>hq _ _ _ h
 |_+1,[],_,_,h=>h
 |_+1,_::_,_,_,h=>h.elim fun v h=>h.elim fun d h=>⟨v,d,h.1,Hy hq h.2⟩
theorem Yv(hw:Region.wanted o (yielded ops a.tmps)=false)(ha:a.put o.dst undef=a')(h:Wf P ops B St Q n rest a' e):Wf P ops B St Q (n+1) (o::rest) a e:=
 ⟨undef,false, .inr ⟨hw,rfl,rfl⟩,by rw[ha,Bool.or_false];exact h⟩
theorem Zzy(a:Act)(t:Option Tmp)(v:Value):(a.put t v).defers=a.defers:=by cases t<;>rfl
theorem Vs.of_wp{w:World}{G:Act→World→Prop}(h:o.wp P a w (fun a2 w'=>a2=a'∧G a2 w') (fun _ _ _=>False))(v:Value)(ha:a.put o.dst v=a'):
  Vs P (fun u w'=>a.put o.dst u=a.put o.dst v∧G a' w') ((execOp a.eval o).run P w):=by
 unfold Oper.wp at h;generalize (execOp a.eval o).run P w=r at h ⊢;cases r with
 |ok n w'=>
  cases n<;>simp only[Oper.upon] at h<;>simp only[Vs]
  case value u=>exact⟨by rw[ha];exact h.1,by rw[←h.1];exact h.2⟩
  case skip=>exact⟨by rw[ha];exact h.1,by rw[←h.1];exact h.2⟩
  case defer d=>
   have:=congrArg (fun x=>x.defers.length) (h.1.trans ha.symm)
   simp only[Zzy,List.length_cons] at this;omega
  case enter f args=>
   refine h.mono fun e w'' he=>?_
   cases e with
   |returned u=>exact⟨u,rfl,by rw[ha];exact he.1,by rw[←he.1];exact he.2⟩
   |panicked c=>exact he.elim
   |outgrown=>obtain⟨_,_,hf⟩:=he;exact hf.elim
  case row row args=>exact Rows.mono h fun u w'' he=>⟨by rw[ha];exact he.1,by rw[←he.1];exact he.2⟩
 |halt x w'=>cases x<;>simp only[Oper.upon] at h
theorem Zi{d:Bool}(hw:Region.wanted o (yielded ops a.tmps)=true)(hr:∀b w,B b w→∀Q1:Exit→Act→World→Prop,(∀w',St w w'→B (b||d) w'→Q1 .normal a' w')→wpList P ops Q1 [o] a w)
  (ha:∃v,a.put o.dst v=a') (h:Wf P ops B St Q n rest a' (e||d)):Wf P ops B St Q (n+1) (o::rest) a e:=by
 obtain⟨v,ha⟩:=ha;refine⟨v,d, .inl ⟨hw,fun b w hb=>?_⟩,by rw[ha];exact h⟩;have h1:=hr b w hb (fun x a2 w'=>match x with| .normal=>a2=a'∧St w w'∧B (b||d) w'|_=>False) (fun w' h1 h'=>⟨rfl,h1,h'⟩);unfold wpList at h1;rw[if_pos hw] at h1;rcases h1 with h1|⟨_,_,_,hf⟩
 ·have h2:o.wp P a w (fun a2 w'=>a2=a'∧St w w'∧B (b||d) w') (fun _ _ _=>False):=by
   unfold Oper.wp at h1 ⊢;generalize (execOp a.eval o).run P w=r at h1 ⊢;cases r with
   |ok n w'=>
    cases n<;>simp only[Oper.upon] at h1 ⊢
    case value u=>exact h1
    case skip=>exact h1
    case defer d=>exact h1
    case enter f args=>
     refine h1.mono fun e w'' he=>?_
     cases e with
     |returned u=>exact he
     |panicked c=>exact he
     |outgrown=>obtain⟨_,_,hf⟩:=he;exact hf.elim
    case row row args=>exact h1
   |halt x w'=>cases x<;>simp only[Oper.upon] at h1 ⊢
  exact(Vs.of_wp (G:=fun _ w'=>St w w'∧B (b||d) w') h2 v ha).mono fun u w' hh=>hh
 ·exact hf.elim
theorem Zp(hw:Region.wanted o (yielded ops a.tmps)=true)(hr:∀b w,B b w→∀Q1:Exit→Act→World→Prop,(∀w',St w w'→B b w'→Q1 .normal a' w')→wpList P ops Q1 [o] a w)
  (ha:∃v,a.put o.dst v=a') (h:Wf P ops B St Q n rest a' e):Wf P ops B St Q (n+1) (o::rest) a e:=
 Zi (d:=false) hw (fun b w hb Q1 hq=>hr b w hb Q1 (fun w' h1 h'=>hq w' h1 (by rwa[Bool.or_false]))) ha (by rwa[Bool.or_false])
end
theorem Zmm{n g:Nat}{Lq:Act→Bool→Prop}(hsel:Region.noSelect ops=true)(hT:∀i,i<n→∀listed,HeadInv md ops n listed→listed.getD i true=false→∀j∈Region.ready md ops listed,j<n)
  (hg:∀listed,Region.seqB md ops g n listed=true→∀j∈Region.ready md ops listed,n≤j) {tl:List Oper}:
  ∀(m:Nat) (l:List Oper) (k:Nat) (listed:Array Bool) (a:Act) (e:Bool),(∀j,l[j]? =ops[k+j]?)→k+m=n→l.drop m=tl→HeadInv md ops n listed→
  Region.lexHead md ops g m k listed=true→Wf P ops B St (fun l' a e=>l'=tl→Lq a e) m l a e→
  wpT P md ops B (fun(_:Unit) _=>True) n (fun listed' a' _ e'=>Region.seqB md ops g n listed'=true∧Lq a' e') m listed a () e
 |0,l,k,listed,a,e,_,hk,ht,_,hB,h=>by
  have:k=n:=by simpa using hk
  subst this
  exact⟨by simpa [Region.lexHead] using hB,h (by simpa using ht)⟩
 |m+1,[],_,_,_,_,_,_,_,_,_,h=>h.elim
 |m+1,o::l,k,listed,a,e,hl,hk,ht,inv,hB,h=>by
  have h0:ops[k]? =some o:=by simpa using (hl 0).symm
  simp only[Region.lexHead,Bool.and_eq_true] at hB
  obtain⟨⟨hr,hf⟩,hB'⟩:=hB
  have hkn:k<n:=by omega
  have hr':k∈Region.ready md ops listed:=by simpa using hr
  obtain⟨v,d,hy,hK⟩:=h
  exact Fo (fun _ _ _ _ h=>h) h0 (Region.noSelect_spec hsel) hkn (hT k hkn) (fun listed' a' _ e' hL=>hg listed' hL.1) m listed a () e inv (Region.free_spec h0 hf) hr' hy
   (Zmm hsel hT hg m l (k+1) _ _ _ (fun j=>by have:=hl (j+1);simpa [Nat.add_assoc,Nat.add_comm 1 j] using this) (by omega) (by simpa using ht) (inv.set hr' hkn) hB' hK)
theorem Zzx{id:Nat}{Q:Exit→Act→World→Prop}{a:Act}{w:World}{l:List Oper}(e:Bool)(hm:P.follows .mixedOrders=true)(hB:Region.lexB .any l.toArray=true)(hb:B e {w with drawn:=w.drawn+1})
  (h:Wf P l.toArray B St (fun l' a e=>∀w,B e w→wpList P l.toArray Q l' a w) l.length l a e):(Code.region id l.toArray true).wp P Q a w:=by
 simp only[Region.lexB,Bool.and_eq_true] at hB;have hx:∀(f k:Nat) (listed:Array Bool),Region.lexFrom .any l.toArray f k listed=true→Region.lexHead .any l.toArray 0 f k listed=true:=by
  intro f;induction f with
  |zero=>intro k listed h;simpa [Region.lexHead,Region.seqB,Region.lexFrom] using h
  |succ f ih=>
   intro k listed h;simp only[Region.lexFrom,Bool.and_eq_true] at h;simp only[Region.lexHead,Bool.and_eq_true];exact⟨h.1,ih _ _ h.2⟩
 have inv0:HeadInv .any l.toArray l.length (Array.replicate l.toArray.size false):=
  ⟨by simp,fun j oj _ hl=>(by rw[getD_replicate_false] at hl;cases hl),fun t _ ht=>getD_in (by simpa using ht) (getD_replicate_false _ _)⟩
 have hw:∀(m:Nat) (l':List Oper) (a:Act) (e:Bool),Wf P l.toArray B St (fun l' a e=>∀w,B e w→wpList P l.toArray Q l' a w) m l' a e→Wf P l.toArray B St (fun l' a e=>l'=[]→∀w,B e w→wpList P l.toArray Q [] a w) m l' a e:=by
  intro m;induction m with
  |zero=>intro l' a e h;exact fun h'=>h'▸h
  |succ m ih=>
   intro l' a e h;cases l' with
   |nil=>exact h
   |cons o r=>obtain⟨v,d,h1,h2⟩:=h;exact⟨v,d,h1,ih _ _ _ h2⟩
 have H:=Zmm (md:= .any) (g:=0) (n:=l.length) (Lq:=fun a e=>∀w,B e w→wpList P l.toArray Q [] a w) (tl:=[]) hB.1
  (fun i hi listed inv hun j hj=>by
   obtain⟨_,oj,hoj,_⟩:=mem_ready.1 hj;simpa using (Array.getElem?_eq_some_iff.1 hoj).1)
  (fun listed h=>seqB_ready h) l.length l 0 _ a e (by simp) (by simp) (by simp) inv0 (hx _ _ _ (by simpa using hB.2)) (hw _ l a e h)
 refine wp_region_any hm ?_;have:=Ls (Q':=Q) (g:=0) (fun listed a' s e' w' hL hb' _=>by
  exact wpAny_of_seq (md:= .any) (Q':=Q) [] l.length listed a' w' (fun j=>by simp) hL.1 (hL.2 w' hb')) l.length _ a () e _ hb trivial H
 simpa using this

def Fn(o:Oper):Bool:=match o.op with| .move _| .assign _| .extract _ _=>true|_=>false
theorem Zzw{o:Oper}{a:Act}{K:Act→World→Prop}{Q:Exit→Act→World→Prop}{w:World}(h:Fn o=true)(hh:o.wp P a w K Q∨(o.asks P a w∧LetsOut Q)):
  ∃v,(∀w',(execOp a.eval o).run P w'= .ok (.value v) w')∧K (a.put o.dst v) w:=by
 obtain⟨dst,op,type,pos,after,guard⟩:=o;cases op<;>simp only[Fn,Bool.false_eq_true] at h
 case move x=>
  refine⟨a.eval x,fun w'=>rfl,?_⟩;rcases hh with hh|hh
  ·exact hh
  ·exact absurd hh.1.1 (by show ¬noRoomEvent∈(#[]:Array _);simp)
 case assign x=>
  refine⟨a.eval x,fun w'=>rfl,?_⟩;rcases hh with hh|hh
  ·exact hh
  ·exact absurd hh.1.1 (by show ¬noRoomEvent∈(#[]:Array _);simp)
 case extract x ix=>
  unfold Oper.wp Oper.asks execOp at hh;unfold execOp;simp only[Instr.extract] at hh ⊢;generalize a.eval x=u at hh ⊢;cases u
  case tuple vs=>
   simp only at hh ⊢;cases hv:vs[ix]? with
   |some v=>
    simp only[hv] at hh;refine⟨v,fun w'=>rfl,?_⟩;rcases hh with hh|hh
    ·exact hh
    ·exact absurd hh.1.1 (by show ¬noRoomEvent∈(#[]:Array _);simp)
   |none=>
    simp only[hv] at hh;rcases hh with hh|hh
    ·exact hh.elim
    ·exact absurd hh.1.1 (by show ¬noRoomEvent∈(#[]:Array _);simp)
  all_goals
   simp only at hh;rcases hh with hh|hh
   ·exact hh.elim
   ·exact absurd hh.1.1 (by show ¬noRoomEvent∈(#[]:Array _);simp)
def Zkw(md:Region.Mode)(ops:Array Oper):List Oper→Nat→Array Bool→Bool
 |[],_,listed=>(Region.ready md ops listed).isEmpty
 |o::l,k,listed=>(decide (Region.ready md ops listed=[k])||(Fn o&&o.guard.isNone&&(Region.ready md ops listed).contains k&&Region.free md ops listed k))&&Zkw md ops l (k+1) (listed.setIfInBounds k true)
theorem Lr{Q':Exit→Act→World→Prop}(hs:Region.noSelect ops=true)(hQ:∀c a (d:Tmp) v w,Q' (.panic c) (a.put (some d) v) w→Q' (.panic c) a w):∀(l:List Oper) (k:Nat) (listed:Array Bool) (a:Act) (w:World),(∀j,l[j]? =ops[k+j]?)→
  Zkw md ops l k listed=true→wpList P ops Q' l a w→wpAny P md ops Q' l.length listed a w
 |[],_,_,_,_,_,hB,h=>⟨by simpa [Zkw] using hB,h⟩
 |o::l,k,listed,a,w,hl,hB,h=>by
  have h0:ops[k]? =some o:=by simpa using (hl 0).symm
  have hl':∀j,l[j]? =ops[k+1+j]? :=fun j=>by have:=hl (j+1);simpa [Nat.add_assoc,Nat.add_comm 1 j] using this
  simp only[Zkw,Bool.and_eq_true,Bool.or_eq_true,decide_eq_true_eq] at hB
  obtain⟨hB|⟨⟨⟨h1,h2⟩,h3⟩,h4⟩,hB'⟩:=hB
  ·refine⟨fun h1=>(by rw[hB] at h1;cases h1),fun i hi=>?_⟩
   rw[hB] at hi
   have hik:i=k:=by simpa using hi
   subst hik
   have hw:wpOp P ops Q' i (wpList P ops Q' l) a w:=by unfold wpOp;simp only[h0];exact h
   exact wpOp_mono (fun a' w' h'=>Lr hs hQ l (i+1) _ a' w' hl' hB' h') hw
  ·have hg:o.guard=none:=by simpa using h2
   have hwt:Region.wanted o (yielded ops a.tmps)=true:=by simp[Region.wanted,hg]
   unfold wpList at h
   rw[if_pos hwt] at h
   obtain⟨v,hv,hk⟩:=Zzw h1 h
   exact wpAny_take h0 hs h4 h3 (fun c a w=>by
     cases o.dst with
     |none=>exact id
     |some d=>exact hQ c a d v w) (.inl ⟨hwt,hv⟩) (Lr hs hQ l (k+1) _ _ _ hl' hB' hk)
theorem Zpz{n:Nat}{listed:Array Bool}(hs:Region.sinkB md ops n=true)(hn:n<ops.size)(inv:HeadInv md ops n listed):
  ∀(d i:Nat),n-i=d→i<n→listed.getD i true=false→n∉Region.ready md ops listed:=by
 intro d;induction d using Nat.strongRecOn with
 |_ d ih=>
  intro i hd hi hun hr;obtain⟨_,ot,hot,hall⟩:=mem_ready.1 hr;have h1:=List.all_eq_true.1 hs i (List.mem_range.2 hi);obtain⟨j,hj,hj2⟩:=List.any_eq_true.1 h1;simp only[Bool.and_eq_true,decide_eq_true_eq] at hj2;obtain⟨oj,hoj,e,he,hb,hon⟩:=Region.waitsFor_spec hj2.2;have hjle:j≤n:=by have:=List.mem_range.1 hj;omega
  by_cases hjt:j=n
  ·subst hjt;have:oj=ot:=Option.some.inj (hoj.symm.trans hot)
   subst this;have h2:=hall e he hb;rw[hon,getD_both hun] at h2;cases h2
  ·cases hl:listed.getD j false with
   |true=>
    have h2:=inv.closed j oj hoj hl e he hb;rw[hon,getD_both hun] at h2;cases h2
   |false=>
    have hjs:j<listed.size:=by rw[inv.size];omega
    exact ih (n-j) (by omega) j rfl (by omega) (getD_in hjs hl) hr
def Zhu(md:Region.Mode)(ops:Array Oper)(n:Nat):Bool:=
 (List.range ops.size).all fun t=>decide (t≤n)||(List.range t).any fun j=>decide (n≤j)&&Region.waitsFor md ops t j
theorem Zpy{n:Nat}{listed:Array Bool}(hc:Zhu md ops n=true)(inv:HeadInv md ops n listed){t:Nat}(ht:n<t):t∉Region.ready md ops listed:=by
 intro hr;obtain⟨_,ot,hot,hall⟩:=mem_ready.1 hr;have htlt:t<ops.size:=(Array.getElem?_eq_some_iff.1 hot).1;have h1:=List.all_eq_true.1 hc t (List.mem_range.2 htlt);simp only[Bool.or_eq_true,decide_eq_true_eq] at h1;rcases h1 with h1|h1
 ·omega
 obtain⟨j,hj,hj2⟩:=List.any_eq_true.1 h1;simp only[Bool.and_eq_true,decide_eq_true_eq] at hj2;obtain⟨o',ho',e,he,hb,hon⟩:=Region.waitsFor_spec hj2.2;have:o'=ot:=Option.some.inj (ho'.symm.trans hot)
 subst this;have h2:=hall e he hb;rw[hon,getD_both (inv.tail j hj2.1 (by have:=List.mem_range.1 hj;omega))] at h2;cases h2
def Zzg(md:Region.Mode)(ops:Array Oper)(l:List Oper)(n:Nat):Nat→Nat→Array Bool→Bool
 |0,_,listed=>Zkw md ops l n listed&&(Region.ready md ops listed).all (fun j=>decide (n≤j))
 |f+1,k,listed=>(Region.ready md ops listed).contains k&&Region.free md ops listed k&&Zzg md ops l n f (k+1) (listed.setIfInBounds k true)
def Zbj(md:Region.Mode)(l:List Oper)(n:Nat):Bool:=
 Region.noSelect l.toArray&&decide (n<l.length)&&Region.sinkB md l.toArray n&&Zhu md l.toArray n&&Zzg md l.toArray (l.drop n) n n 0 (Array.replicate l.length false)
theorem Zml{n:Nat}{Lq:Act→Bool→Prop}{tl:List Oper}(hsel:Region.noSelect ops=true)(hT:∀i,i<n→∀listed,HeadInv md ops n listed→listed.getD i true=false→∀j∈Region.ready md ops listed,j<n):
  ∀(m:Nat) (l:List Oper) (k:Nat) (listed:Array Bool) (a:Act) (e:Bool),(∀j,l[j]? =ops[k+j]?)→k+m=n→l.drop m=tl→HeadInv md ops n listed→
  Zzg md ops tl n m k listed=true→Wf P ops B St (fun l' a e=>l'=tl→Lq a e) m l a e→
  wpT P md ops B (fun(_:Unit) _=>True) n (fun listed' a' _ e'=>(Zkw md ops tl n listed'&&(Region.ready md ops listed').all (fun j=>decide (n≤j)))=true∧Lq a' e') m listed a () e
 |0,l,k,listed,a,e,_,hk,ht,_,hB,h=>by
  have:k=n:=by simpa using hk
  subst this
  exact⟨by simpa [Zzg] using hB,h (by simpa using ht)⟩
 |m+1,[],_,_,_,_,_,_,_,_,_,h=>h.elim
 |m+1,o::l,k,listed,a,e,hl,hk,ht,inv,hB,h=>by
  have h0:ops[k]? =some o:=by simpa using (hl 0).symm
  simp only[Zzg,Bool.and_eq_true] at hB
  obtain⟨⟨hr,hf⟩,hB'⟩:=hB
  have hkn:k<n:=by omega
  have hr':k∈Region.ready md ops listed:=by simpa using hr
  obtain⟨v,d,hy,hK⟩:=h
  exact Fo (fun _ _ _ _ h=>h) h0 (Region.noSelect_spec hsel) hkn (hT k hkn) (fun listed' a' _ e' hL j hj=>by
    have:=hL.1
    simp only[Bool.and_eq_true] at this
    simpa using List.all_eq_true.1 this.2 j hj) m listed a () e inv (Region.free_spec h0 hf) hr' hy
   (Zml hsel hT m l (k+1) _ _ _ (fun j=>by have:=hl (j+1);simpa [Nat.add_assoc,Nat.add_comm 1 j] using this) (by omega) (by simpa using ht) (inv.set hr' hkn) (by simpa only[Zzg,Bool.and_eq_true] using hB') hK)
theorem Zzv{id:Nat}{Q:Exit→Act→World→Prop}{a:Act}{w:World}{l:List Oper}(n:Nat)(e:Bool)(hm:P.follows .mixedOrders=true)(hB:Zbj .any l n=true)(hb:B e {w with drawn:=w.drawn+1})
  (hQ:∀c a (d:Tmp) v w,Q (.panic c) (a.put (some d) v) w→Q (.panic c) a w)
  (h:Wf P l.toArray B St (fun l' a e=>∀w,B e w→wpList P l.toArray Q l' a w) n l a e):(Code.region id l.toArray true).wp P Q a w:=by
 simp only[Zbj,Bool.and_eq_true,decide_eq_true_eq] at hB;obtain⟨⟨⟨⟨hsel,hn⟩,hs⟩,hc⟩,hlex⟩:=hB;have hn':n<l.toArray.size:=by simpa using hn
 have inv0:HeadInv .any l.toArray n (Array.replicate l.toArray.size false):=
  ⟨by simp,fun j oj _ hl=>(by rw[getD_replicate_false] at hl;cases hl),fun t _ ht=>getD_in (by simpa using ht) (getD_replicate_false _ _)⟩
 have hw:∀(m:Nat) (l':List Oper) (a:Act) (e:Bool),Wf P l.toArray B St (fun l' a e=>∀w,B e w→wpList P l.toArray Q l' a w) m l' a e→Wf P l.toArray B St (fun l' a e=>l'=l.drop n→∀w,B e w→wpList P l.toArray Q (l.drop n) a w) m l' a e:=by
  intro m;induction m with
  |zero=>intro l' a e h;exact fun h'=>h'▸h
  |succ m ih=>
   intro l' a e h;cases l' with
   |nil=>exact h
   |cons o r=>obtain⟨v,d,h1,h2⟩:=h;exact⟨v,d,h1,ih _ _ _ h2⟩
 have H:=Zml (md:= .any) (Lq:=fun a e=>∀w,B e w→wpList P l.toArray Q (l.drop n) a w) (tl:=l.drop n) hsel
  (fun i hi listed inv hun j hj=>by
   rcases Nat.lt_trichotomy j n with h|h|h
   ·exact h
   ·subst h;exact absurd hj (Zpz hs hn' inv _ i rfl hi hun)
   ·exact absurd hj (Zpy hc inv h))
  n l 0 _ a e (by simp) (by simp) rfl inv0 (by simpa using hlex) (hw n l a e h)
 refine wp_region_any hm ?_;have:=Ls (Q':=Q) (g:=(l.drop n).length) (fun listed a' s e' w' hL hb' _=>by
  have h1:=hL.1;simp only[Bool.and_eq_true] at h1;exact Lr (md:= .any) (Q':=Q) hsel hQ (l.drop n) n listed a' w' (fun j=>by simp) h1.1 (hL.2 w' hb')) n _ a () e _ hb trivial H
 rwa[show n+(l.drop n).length=l.toArray.size by simp;omega] at this
end
theorem Zdt:Tryz.prog.follows .mixedOrders=true:=by kernel_rfl
theorem Ux(B:Bool→World→Prop){id:Nat}{Q:Exit→Act→World→Prop}{a:Act}{w:World}{l:List Oper}(n:Nat)(e:Bool)(hB:Zbj .any l n=true)(hb:B e {w with drawn:=w.drawn+1})
  (hQ:∀c a (d:Tmp) v w,Q (.panic c) (a.put (some d) v) w→Q (.panic c) a w)
  (h:Wf prog l.toArray B (fun _ _=>True) (fun l' a e=>∀w,B e w→wpList prog l.toArray Q l' a w) n l a e):(Code.region id l.toArray true).wp prog Q a w:=
 Zzv (St:=fun _ _=>True) n e Zdt hB hb hQ h
theorem Hw(B:Bool→World→Prop){id:Nat}{Q:Exit→Act→World→Prop}{a:Act}{w:World}{l:List Oper}(e:Bool)(hB:Region.lexB .any l.toArray=true)(hb:B e {w with drawn:=w.drawn+1})
  (h:Wf prog l.toArray B (fun _ _=>True) (fun l' a e=>∀w,B e w→wpList prog l.toArray Q l' a w) l.length l a e):(Code.region id l.toArray true).wp prog Q a w:=
 Zzx (St:=fun _ _=>True) e Zdt hB hb h
end
section
section
def frN(p:Nat→Nat)(o:Nat→Option Nat)(a:Act):Nat→Act
 |0=>a
 |k+1=>match o k with
  |some g=>(frN p o a k).put (some (p k)) (.pointer (some ⟨g,0,none⟩))
  |none=>frN p o a k
def upN(o:Nat→Option Nat)(i g:Nat):Nat→Option Nat:=fun j=>if j=i then some g else o j
def Ki(o:Nat→Option Nat):Nat→Nat
 |0=>0
 |k+1=>Ki o k+(if (o k).isNone then 1 else 0)
theorem Fm{p:Nat→Nat}{o o':Nat→Option Nat}{a:Act}:∀{k:Nat},(∀j,j<k→o j=o' j)→frN p o a k=frN p o' a k
 |0,_=>rfl
 |k+1,h=>by
  unfold frN
  rw[h k (Nat.lt_succ_self k),Fm (k:=k) (fun j hj=>h j (Nat.lt_succ_of_lt hj))]
theorem Cq{o o':Nat→Option Nat}:∀{k:Nat},(∀j,j<k→o j=o' j)→Ki o k=Ki o' k
 |0,_=>rfl
 |k+1,h=>by
  unfold Ki
  rw[h k (Nat.lt_succ_self k),Cq (k:=k) (fun j hj=>h j (Nat.lt_succ_of_lt hj))]
theorem Zht{p:Nat→Nat}{o:Nat→Option Nat}{a:Act}{i g:Nat}(hn:o i=none):∀{k:Nat},(∀x y,x<k→y<k→p x=p y→x=y)→i<k→
  frN p (upN o i g) a k=(frN p o a k).put (some (p i)) (.pointer (some ⟨g,0,none⟩))
 |0,_,h=>absurd h (Nat.not_lt_zero i)
 |k+1,hp,hi=>by
  by_cases hik:i=k
  ·subst hik
   unfold frN
   rw[hn,show upN o i g i=some g by simp[upN]]
   simp only
   rw[Fm (o:=upN o i g) (o':=o) (fun j hj=>by simp[upN,Nat.ne_of_lt hj])]
  ·have hlt:i<k:=by omega
   have ih:=Zht (p:=p) (a:=a) (g:=g) hn (k:=k) (fun x y hx hy=>hp x y (by omega) (by omega)) hlt
   unfold frN
   rw[show upN o i g k=o k by simp[upN,Ne.symm hik],ih]
   cases o k with
   |none=>rfl
   |some g'=>exact Act.put_comm _ _ _ (fun d hd he=>by
     have h1:p i=d:=by simpa using hd
     have h2:p k=d:=by simpa using he
     exact hik (hp i k (by omega) (by omega) (h1.trans h2.symm)))
theorem Zmk{o:Nat→Option Nat}{i g:Nat}(hn:o i=none):∀{k:Nat},i<k→Ki (upN o i g) k+1=Ki o k
 |0,h=>absurd h (Nat.not_lt_zero i)
 |k+1,hi=>by
  by_cases hik:i=k
  ·subst hik
   unfold Ki
   rw[hn,show upN o i g i=some g by simp[upN],Cq (o:=upN o i g) (o':=o) (fun j hj=>by simp[upN,Nat.ne_of_lt hj])]
   simp
  ·have ih:=Zmk (g:=g) hn (k:=k) (by omega)
   unfold Ki
   rw[show upN o i g k=o k by simp[upN,Ne.symm hik]]
   omega
theorem Fl{o:Nat→Option Nat}:∀{k:Nat},Ki o k=0→∀i,i<k→∃g,o i=some g
 |0,_,i,h=>absurd h (Nat.not_lt_zero i)
 |k+1,h,i,hi=>by
  unfold Ki at h
  by_cases hik:i=k
  ·subst hik
   cases ho:o i with
   |some g=>exact⟨g,rfl⟩
   |none=>rw[ho] at h;simp at h
  ·exact Fl (k:=k) (by omega) i (by omega)
theorem Cp{o:Nat→Option Nat}:∀{k:Nat},0<Ki o k→∃i,i<k∧o i=none
 |0,h=>absurd h (Nat.not_lt_zero 0)
 |k+1,h=>by
  unfold Ki at h
  cases ho:o k with
  |none=>exact⟨k,Nat.lt_succ_self k,ho⟩
  |some g=>
   rw[ho] at h
   obtain⟨i,hi,hn⟩:=Cp (k:=k) (by simpa using h)
   exact⟨i,by omega,hn⟩
theorem Zzf{p:Nat→Nat}{o:Nat→Option Nat}{a:Act}{t:Nat}:∀{k:Nat},(∀j,j<k→p j≠t)→(frN p o a k).eval (.tmp t)=a.eval (.tmp t)
 |0,_=>rfl
 |k+1,h=>by
  have ih:=Zzf (p:=p) (o:=o) (a:=a) (k:=k) (fun j hj=>h j (by omega))
  unfold frN
  cases o k with
  |none=>exact ih
  |some g=>exact(Act.eval_put (fun d hd he=>h k (by omega) (by
    have h1:p k=d:=by simpa using hd
    have h2:t=d:=by simpa using he
    exact h1.trans h2.symm))).trans ih
theorem Co{p:Nat→Nat}{o:Nat→Option Nat}{a:Act}:∀{k:Nat},(frN p o a k).tmps.size=a.tmps.size
 |0=>rfl
 |k+1=>by
  unfold frN
  cases o k with
  |none=>exact Co (k:=k)
  |some g=>simp only[Act.put,Array.size_setIfInBounds];exact Co (k:=k)
theorem Zuh{p:Nat→Nat}{o:Nat→Option Nat}{a:Act}{i g:Nat}(hg:o i=some g):∀{k:Nat},(∀x y,x<k→y<k→p x=p y→x=y)→(∀x,x<k→p x<a.tmps.size)→i<k→
  (frN p o a k).eval (.tmp (p i))= .pointer (some ⟨g,0,none⟩)
 |0,_,_,h=>absurd h (Nat.not_lt_zero i)
 |k+1,hp,hz,hi=>by
  by_cases hik:i=k
  ·subst hik
   unfold frN
   rw[hg]
   have hlt:p i<(frN p o a i).tmps.size:=by rw[Co];exact hz i (by omega)
   simp[Act.eval,Act.put,hlt]
  ·have ih:=Zuh (p:=p) (a:=a) hg (k:=k) (fun x y hx hy=>hp x y (by omega) (by omega)) (fun x hx=>hz x (by omega)) (by omega)
   unfold frN
   cases o k with
   |none=>exact ih
   |some g'=>exact(Act.eval_put (fun d hd he=>hik (hp i k (by omega) (by omega) (by
     have h1:p k=d:=by simpa using hd
     have h2:p i=d:=by simpa using he
     exact h2.trans h1.symm)))).trans ih

variable {P:Program} {ops:Array Oper} {md:Region.Mode}
def XN(N0:Nat)(t:TypeId)(k:Nat)(zs xs:Nat→Av)(s:(Nat→Option Nat)×Nat)(w:World):Prop:=
 (∀i,i<k→∀g,s.1 i=some g→N0≤g∧Box w g t (if i<s.2 then xs i else zs i))∧(∀i j,i<k→j<k→∀g,s.1 i=some g→s.1 j=some g→i=j)
def Qu(P:Program)(t:TypeId)(o:Oper)(p:Nat)(z:Av):Prop:=
 o.dst=some p∧o.guard=none∧∀(ρ:Operand→Value) (w:World),(execOp ρ o).run P w= .ok (.value (.pointer (some ⟨w.heap.size,0,none⟩))) (w.alloc (.cells z t))
def Hv(P:Program)(N0:Nat)(B:Bool→World→Prop)(t:TypeId)(o:Oper)(p q:Nat)(v:Value)(z x:Av):Prop:=
 o.dst=none∧o.guard=none∧∀(a:Act) (g:Nat) (w:World),a.eval (.tmp p)= .pointer (some ⟨g,0,none⟩)→a.eval (.tmp q)=v→Box w g t z→
  ∃w',(execOp a.eval o).run P w= .ok .skip w'∧Box w' g t x∧(∀b t' cs,b≠g→Box w b t' cs→Box w' b t' cs)∧(N0≤g→∀b,B b w→B b w')
def LFn(m g:Nat):Array Bool:=(List.replicate m true++List.replicate g false).toArray
theorem Zbi{m g:Nat}{listed:Array Bool}(hs:listed.size=m+g)(h1:∀j,j<m→listed.getD j false=true)(h2:∀j,m≤j→j<m+g→listed.getD j false=false):listed=LFn m g:=by
 apply Array.ext
 ·simp[LFn,hs]
 ·intro i hi hi2;rcases Nat.lt_or_ge i m with h|h
  ·have:=h1 i h
   simp only[Array.getD_eq_getD_getElem?,Array.getElem?_eq_getElem hi,Option.getD_some] at this;rw[this];simp[LFn,List.getElem_append,h]
  ·have:=h2 i h (by omega)
   simp only[Array.getD_eq_getD_getElem?,Array.getElem?_eq_getElem hi,Option.getD_some] at this;rw[this];simp[LFn,List.getElem_append,Nat.not_lt.2 h]
theorem Zds{B:Bool→World→Prop}(k n N0 g:Nat)(t:TypeId)(p q:Nat→Nat)(vs:Nat→Value)(zs xs:Nat→Av)(Qf:Act→World→Prop)(a:Act)(e:Bool)
  (hsz:ops.size=n+k+k+g) (hTl:∀t,n+k+k≤t→t<ops.size→∀i,i<n+k+k→Region.waitsFor md ops t i=true)
  (hA:∀i,i<k→∃o,ops[n+i]? =some o∧Qu P t o (p i) (zs i)∧∀g∈o.after,Region.binds md g=true→g.on<n)
  (hS:∀i,i<k→∃o,ops[n+k+i]? =some o∧Hv P N0 B t o (p i) (q i) (vs i) (zs i) (xs i)∧∀g∈o.after,Region.binds md g=true→g.on<n+k+i)
  (hw:∀i,i<k→Region.waitsFor md ops (n+k+i) (n+i)=true) (hc:∀i,i+1<k→Region.waitsFor md ops (n+k+(i+1)) (n+k+i)=true)
  (hp:∀x y,x<k→y<k→p x=p y→x=y) (hq:∀x y,x<k→y<k→p x≠q y) (hz:∀x,x<k→p x<a.tmps.size) (hv:∀i,i<k→a.eval (.tmp (q i))=vs i)
  (hBa:∀b w cs,B b w→B b (w.alloc (.cells cs t))) (hBn:∀b w,B b w→N0≤w.heap.size)
  (hfin:∀g:Nat→Nat,∀w,B e w→(∀i,i<k→N0≤g i∧Box w (g i) t (xs i))→(∀i j,i<k→j<k→g i=g j→i=j)→Qf (frN p (fun i=>some (g i)) a k) w):
  ∀(f:Nat) (listed:Array Bool) (o:Nat→Option Nat) (m:Nat),f=Ki o k+(k-m)→m≤k→listed.size=ops.size→(∀j,j<n→listed.getD j false=true)→
   (∀i,i<k→listed.getD (n+i) false=(o i).isSome)→(∀i,i<k→listed.getD (n+k+i) false=decide (i<m))→(∀i,i<m→∃g,o i=some g)→(∀j,n+k+k≤j→j<ops.size→listed.getD j false=false)→
   wpT P md ops B (XN N0 t k zs xs) (n+k+k) (fun listed a s e=>listed=LFn (n+k+k) g∧∀w,B e w→XN N0 t k zs xs s w→Qf a w) f listed (frN p o a k) (o,m) e:=by
 intro f;induction f with
 |zero=>
  intro listed o m hf hm hls hl1 hl2 hl3 hom hl4;have hall:=Fl (o:=o) (k:=k) (by omega);have hmk:m=k:=by omega
  subst hmk;refine⟨?_,fun w hb hx=>?_⟩
  ·refine Zbi (by omega) (fun j hj=>?_) (fun j hj hj2=>hl4 j hj (by omega));rcases Nat.lt_or_ge j n with h|h
   ·exact hl1 j h
   rcases Nat.lt_or_ge j (n+m) with h2|h2
   ·obtain⟨g,hg⟩:=hall (j-n) (by omega);have:=hl2 (j-n) (by omega)
    rw[show n+(j-n)=j by omega,hg] at this;exact this
   ·have:=hl3 (j-(n+m)) (by omega)
    rw[show n+m+(j-(n+m))=j by omega] at this;rw[this];simp;omega
  ·obtain⟨g,hg⟩:∃g:Nat→Nat,∀i,i<m→o i=some (g i):=⟨fun i=>(o i).getD 0,fun i hi=>by obtain⟨x,hx⟩:=hall i hi;simp[hx]⟩
   rw[Fm (o':=fun i=>some (g i)) (fun j hj=>hg j hj)];refine hfin g w hb (fun i hi=>?_) (fun i j hi hj hij=>?_)
   ·have:=hx.1 i hi (g i) (hg i hi)
    simpa [hi] using this
   ·exact hx.2 i j hi hj (g i) (hg i hi) (by rw[hij];exact hg j hj)
 |succ f ih=>
  intro listed o m hf hm hls hl1 hl2 hl3 hom hl4;have inb:∀j,j<ops.size→listed.getD j false=false→listed.getD j true=false:=fun j hj h=>getD_in (by rw[hls];exact hj) h
  refine⟨?_,fun j hj=>?_⟩
  ·rcases Nat.eq_zero_or_pos (Ki o k) with h0|h0
   ·have hall:=Fl (o:=o) (k:=k) h0;have hmk:m<k:=by omega
    obtain⟨os,hos,_,hed⟩:=hS m hmk;intro hr;have:n+k+m∈Region.ready md ops listed:=by
     refine mem_ready.2 ⟨inb _ (by omega) ?_,os,hos,fun g hg hb=>?_⟩
     ·rw[hl3 m hmk];simp
     ·have hon:=hed g hg hb;rcases Nat.lt_or_ge g.on n with h|h
      ·exact hl1 _ h
      rcases Nat.lt_or_ge g.on (n+k) with h2|h2
      ·obtain⟨x,hx⟩:=hall (g.on-n) (by omega);have:=hl2 (g.on-n) (by omega)
       rw[show n+(g.on-n)=g.on by omega,hx] at this;exact this
      ·have:=hl3 (g.on-(n+k)) (by omega)
       rw[show n+k+(g.on-(n+k))=g.on by omega] at this;rw[this];simp;omega
    rw[hr] at this;cases this
   ·obtain⟨i,hi,hn⟩:=Cp h0;obtain⟨oa,hoa,_,hed⟩:=hA i hi;intro hr;have:n+i∈Region.ready md ops listed:=by
     refine mem_ready.2 ⟨inb _ (by omega) ?_,oa,hoa,fun g hg hb=>hl1 _ (hed g hg hb)⟩;rw[hl2 i hi,hn];rfl
    rw[hr] at this;cases this
  ·obtain⟨hun,oj,hoj,hdep⟩:=mem_ready.1 hj;have hun':=getD_both hun;have hlt0:=(Array.getElem?_eq_some_iff.1 hoj).1;have hlt:j<n+k+k:=by
    rcases Nat.lt_or_ge j (n+k+k) with h|h
    ·exact h
    exfalso;have wt0:∀x,x<n+k+k→listed.getD x false=true:=fun x hx=>by
     obtain⟨o',ho',g,hg,hb,hon⟩:=Region.waitsFor_spec (hTl j h hlt0 x hx);have:o'=oj:=Option.some.inj (ho'.symm.trans hoj)
     subst this;rw[←hon];exact hdep g hg hb
    rcases Nat.eq_zero_or_pos (Ki o k) with h0|h0
    ·have:=wt0 (n+k+m) (by omega)
     rw[hl3 m (by omega)] at this;simp at this
    ·obtain⟨i,hi,hn⟩:=Cp h0;have:=wt0 (n+i) (by omega)
     rw[hl2 i hi,hn] at this;cases this
   refine⟨hlt,?_⟩;rcases Nat.lt_or_ge j n with h|h
   ·rw[hl1 j h] at hun';cases hun'
   rcases Nat.lt_or_ge j (n+k) with h2|h2
   ·-- a block is made
    obtain⟨i,rfl⟩:∃i,j=n+i:=⟨j-n,by omega⟩
    have hi:i<k:=by omega
    have hn:o i=none:=by
     have:=hl2 i hi
     rw[hun'] at this;cases ho:o i with
     |none=>rfl
     |some g=>rw[ho] at this;cases this
    obtain⟨oa,hoa,⟨hd,hg,hrun⟩,_⟩:=hA i hi;unfold Ep;simp only[hoa];rw[if_pos (by simp[Region.wanted,hg])];refine⟨false,fun u s'=>∃g,u= .pointer (some ⟨g,0,none⟩)∧s'=(upN o i g,m),fun b w hb hx=>?_,?_⟩
    ·rw[hrun];refine⟨by rw[Bool.or_false];exact hBa b w _ hb,_,⟨_,rfl,rfl⟩,fun i' hi' g hg'=>?_,fun i' j' hi' hj' g h1 h2=>?_⟩
     ·by_cases hii:i'=i
      ·subst hii;have:g=w.heap.size:=by simpa [upN] using hg'.symm
       subst this;have hmi:¬i'<m:=fun h=>by obtain⟨x,hx⟩:=hom i' h;rw[hn] at hx;cases hx
       simp only[hmi,if_false];exact⟨hBn b w hb,Box.new w _ _⟩
      ·have:o i'=some g:=by simpa [upN,hii] using hg'
       obtain⟨q1,q2⟩:=hx.1 i' hi' g this;exact⟨q1,q2.alloc _⟩
     ·have old:∀x,x<k→∀y,o x=some y→y≠w.heap.size:=fun x hx' y hy=>Nat.ne_of_lt (hx.1 x hx' y hy).2.lt
      by_cases c1:i'=i
      ·by_cases c2:j'=i
       ·rw[c1,c2]
       ·have e1:g=w.heap.size:=by simpa [upN,c1] using h1.symm
        exact absurd e1 (old j' hj' g (by simpa [upN,c2] using h2))
      ·by_cases c2:j'=i
       ·have e1:g=w.heap.size:=by simpa [upN,c2] using h2.symm
        exact absurd e1 (old i' hi' g (by simpa [upN,c1] using h1))
       ·exact hx.2 i' j' hi' hj' g (by simpa [upN,c1] using h1) (by simpa [upN,c2] using h2)
    ·rintro u s' ⟨g,rfl,rfl⟩;rw[hd,←Zht hn hp hi,Bool.or_false];refine ih _ _ m (by have:=Zmk (g:=g) hn hi;omega) hm (by simpa using hls) (fun x hx=>getD_set_true (hl1 x hx)) (fun x hx=>?_) (fun x hx=>by rw[getD_set_ne false (by omega)];exact hl3 x hx) (fun x hx=>?_) (fun x hx hx2=>by rw[getD_set_ne false (by omega)];exact hl4 x hx hx2)
     ·by_cases hxi:x=i
      ·subst hxi;have:n+x<listed.size:=by omega
       simp[upN,this]
      ·rw[getD_set_ne false (by omega),hl2 x hx];simp[upN,hxi]
     ·obtain⟨y,hy⟩:=hom x hx;by_cases hxi:x=i
      ·exact⟨g,by simp[upN,hxi]⟩
      ·exact⟨y,by simp[upN,hxi,hy]⟩
   ·-- a block is filled
    obtain⟨i,rfl⟩:∃i,j=n+k+i:=⟨j-(n+k),by omega⟩
    have hi:i<k:=by omega
    have him:¬i<m:=by
     have:=hl3 i hi
     rw[hun'] at this;simpa using this.symm
    have wt:∀x,Region.waitsFor md ops (n+k+i) x=true→listed.getD x false=true:=fun x hx=>by
     obtain⟨o',ho',g,hg,hb,hon⟩:=Region.waitsFor_spec hx;have:o'=oj:=Option.some.inj (ho'.symm.trans hoj)
     subst this;rw[←hon];exact hdep g hg hb
    have hoi:∃g,o i=some g:=by
     have:=wt _ (hw i hi)
     rw[hl2 i hi] at this;exact Option.isSome_iff_exists.1 this
    have hi0:i=m:=by
     rcases Nat.eq_zero_or_pos i with h0|h0
     ·omega
     ·have:=wt _ (by have:=hc (i-1) (by omega);rwa[show i-1+1=i by omega] at this)
      rw[hl3 (i-1) (by omega)] at this;have:=of_decide_eq_true this
      omega
    subst hi0;obtain⟨g,hg⟩:=hoi;obtain⟨os,hos,⟨hd,hgd,hrun⟩,_⟩:=hS i hi;unfold Ep;simp only[hos];rw[if_pos (by simp[Region.wanted,hgd])];refine⟨false,fun u s'=>s'=(o,i+1),fun b w hb hx=>?_,?_⟩
    ·obtain⟨q1,q2⟩:=hx.1 i hi g hg;simp only[Nat.lt_irrefl,if_false] at q2;obtain⟨w',hr,hb1,hb2,hb3⟩:=hrun (frN p o a k) g w (Zuh hg hp hz hi) (by rw[Zzf (fun j hj=>hq j i hj hi)];exact hv i hi) q2;rw[hr];refine⟨by rw[Bool.or_false];exact hb3 q1 b hb,_,rfl,fun x hx' y hy=>?_,hx.2⟩;obtain⟨r1,r2⟩:=hx.1 x hx' y hy;by_cases hxi:x=i
     ·subst hxi;have hy':o x=some y:=hy;have:y=g:=by rw[hg] at hy';exact(Option.some.inj hy').symm
      subst this;simp only[Nat.lt_succ_self,if_true];exact⟨r1,hb1⟩
     ·refine⟨r1,?_⟩;have hyg:y≠g:=fun e=>hxi (hx.2 x i hx' hi y hy (by rw[e];exact hg))
      have:=hb2 y t _ hyg r2
      by_cases hlt:x<i
      ·simpa [hlt,Nat.lt_succ_of_lt hlt] using this
      ·simpa [hlt,show ¬x<i+1 by omega] using this
    ·rintro u s' rfl;rw[hd,Bool.or_false];refine ih _ o (i+1) (by omega) (by omega) (by simpa using hls) (fun x hx=>getD_set_true (hl1 x hx)) (fun x hx=>by rw[getD_set_ne false (by omega)];exact hl2 x hx) (fun x hx=>?_) (fun x hx=>?_) (fun x hx hx2=>by rw[getD_set_ne false (by omega)];exact hl4 x hx hx2)
     ·by_cases hxi:x=i
      ·subst hxi;have:n+k+x<listed.size:=by omega
       simp[this]
      ·rw[getD_set_ne false (by omega),hl3 x hx];by_cases hlt:x<i
       ·simp[hlt,Nat.lt_succ_of_lt hlt]
       ·simp[hlt,show ¬x<i+1 by omega]
     ·by_cases hxi:x=i
      ·exact⟨g,by rw[hxi];exact hg⟩
      ·exact hom x (by omega)
def Zzu(md:Region.Mode)(l:List Oper)(n k g:Nat):Bool:=
 Region.noSelect l.toArray&&decide (l.length=n+k+k+g)&&
 (List.range g).all (fun t=>(List.range (n+k+k)).all fun i=>Region.waitsFor md l.toArray (n+k+k+t) i)&&Region.seqB md l.toArray g (n+k+k) (LFn (n+k+k) g)&&
 (List.range k).all (fun i=>match l[n+i]? with|some o=>o.after.all (fun g=> !Region.binds md g||decide (g.on<n))|none=>false)&&
 (List.range k).all (fun i=>match l[n+k+i]? with|some o=>o.after.all (fun g=> !Region.binds md g||decide (g.on<n+k+i))|none=>false)&&
 (List.range k).all (fun i=>Region.waitsFor md l.toArray (n+k+i) (n+i))&&(List.range k).all (fun i=>decide (k≤i+1)||Region.waitsFor md l.toArray (n+k+(i+1)) (n+k+i))&&
 freeB md l.toArray n 0 (Array.replicate l.length false)
where
 freeB (md:Region.Mode) (ops:Array Oper):Nat→Nat→Array Bool→Bool
  |0,_,_=>true
  |f+1,k,listed=>(Region.ready md ops listed).contains k&&Region.free md ops listed k&&freeB md ops f (k+1) (listed.setIfInBounds k true)
def Zhs(P:Program)(B:Bool→World→Prop)(n k N0:Nat)(t:TypeId)(p q:Nat→Nat)(zs xs:Nat→Av)(Qf:Act→World→Prop)(l:List Oper)(a:Act)(e:Bool):Prop:=
 (∀i,i<k→∃o,l[i]? =some o∧Qu P t o (p i) (zs i))∧(∀i,i<k→∃o,l[k+i]? =some o∧Hv P N0 B t o (p i) (q i) (a.eval (.tmp (q i))) (zs i) (xs i))∧
 (∀x,x<k→p x<a.tmps.size)∧
 ∀g:Nat→Nat,∀w,B e w→(∀i,i<k→N0≤g i∧Box w (g i) t (xs i))→(∀i j,i<k→j<k→g i=g j→i=j)→Qf (frN p (fun i=>some (g i)) a k) w
theorem Zug{B:Bool→World→Prop}{St:World→World→Prop}{N0 k:Nat}{t:TypeId}{zs xs:Nat→Av}{L:Array Bool→Act→((Nat→Option Nat)×Nat)→Bool→Prop}{n g:Nat}{E:List Oper→Act→Bool→Prop}
  (hsel:Region.noSelect ops=true) (hX:∀w w',St w w'→∀g cs,N0≤g→Box w g t cs→Box w' g t cs) {M:Nat} (hL:∀listed a s e,L listed a s e→∀j∈Region.ready md ops listed,M≤j) (hn:n≤M) (hM:M≤ops.size) (hTl:∀t,M≤t→t<ops.size→∀i,i<M→Region.waitsFor md ops t i=true)
  (hend : ∀ listed l a e, listed.size = ops.size → (∀ j, j < n → listed.getD j false = true) → (∀ j, n ≤ j → j < ops.size → listed.getD j false = false) → E l a e → (∀ j, l[j]? = ops[n + j]?) →
   wpT P md ops B (XN N0 t k zs xs) M L g listed a (fun _=>none,0) e):
  ∀(m:Nat) (l:List Oper) (i:Nat) (listed:Array Bool) (a:Act) (e:Bool),(∀j,l[j]? =ops[i+j]?)→i+m=n→HeadInv md ops M listed→(∀j,j<i→listed.getD j false=true)→(∀j,i≤j→j<ops.size→listed.getD j false=false)→
  Zzu.freeB md ops m i listed=true→Wf P ops B St E m l a e→wpT P md ops B (XN N0 t k zs xs) M L (m+g) listed a (fun _=>none,0) e
 |0,l,i,listed,a,e,hl,hi,inv,h1,h2,_,h=>by
  rw[Nat.zero_add]
  have:i=n:=by simpa using hi
  subst this
  exact hend listed l a e inv.size h1 h2 h hl
 |m+1,[],_,_,_,_,_,_,_,_,_,_,h=>h.elim
 |m+1,o::l,i,listed,a,e,hl,hi,inv,h1,h2,hB,h=>by
  have h0:ops[i]? =some o:=by simpa using (hl 0).symm
  simp only[Zzu.freeB,Bool.and_eq_true] at hB
  obtain⟨⟨hr,hf⟩,hB'⟩:=hB
  have hin:i<ops.size:=by omega
  have hr':i∈Region.ready md ops listed:=by simpa using hr
  obtain⟨v,d,hy,hK⟩:=h
  rw[show m+1+g=(m+g)+1 by omega]
  have hiM:i<M:=by omega
  have hlt:∀(L:Array Bool),L.getD i true=false→∀j∈Region.ready md ops L,j<M:=fun L hLi j hj=>by
   obtain⟨_,oj,hoj,hdep⟩:=mem_ready.1 hj
   have hj0:=(Array.getElem?_eq_some_iff.1 hoj).1
   rcases Nat.lt_or_ge j M with h|h
   ·exact h
   exfalso
   obtain⟨o',ho',g,hg,hb,hon⟩:=Region.waitsFor_spec (hTl j h hj0 i hiM)
   have:o'=oj:=Option.some.inj (ho'.symm.trans hoj)
   subst this
   have h3:=hdep g hg hb
   rw[hon,getD_both hLi] at h3
   cases h3
  refine Fo (St:=St) (fun s w w' hs hx=>⟨fun x hx' y hy'=>⟨(hx.1 x hx' y hy').1,hX w w' hs _ _ (hx.1 x hx' y hy').1 (hx.1 x hx' y hy').2⟩,hx.2⟩) h0 (Region.noSelect_spec hsel) hiM (fun L _ hLi j hj=>hlt L hLi j hj) (fun L a s e hL' j hj=>hL _ _ _ _ hL' j hj) (m+g) listed a _ e inv (Region.free_spec h0 hf) hr' hy ?_
  refine Zug hsel hX hL hn hM hTl hend m l (i+1) _ _ _ (fun j=>by have:=hl (j+1);simpa [Nat.add_assoc,Nat.add_comm 1 j] using this) (by omega) (inv.set hr' hiM) (fun j hj=>?_) (fun j hj hj2=>by rw[getD_set_ne false (by omega)];exact h2 j (by omega) hj2) hB' hK
  by_cases hji:j=i
  ·subst hji
   have:j<listed.size:=by rw[inv.size];exact hin
   simp[this]
  ·rw[getD_set_ne false (Ne.symm hji)];exact h1 j (by omega)
theorem Yh{B:Bool→World→Prop}(St:World→World→Prop){id:Nat}{Q:Exit→Act→World→Prop}{a:Act}{w:World}{l:List Oper}(n k g N0:Nat)(t:TypeId)(p q:Nat→Nat)(zs xs:Nat→Av)(e:Bool)
  (hm:P.follows .mixedOrders=true) (hB:Zzu .any l n k g=true) (hb:B e {w with drawn:=w.drawn+1})
  (hp:∀x y,x<k→y<k→p x=p y→x=y) (hq:∀x y,x<k→y<k→p x≠q y)
  (hX:∀w w',St w w'→∀g cs,N0≤g→Box w g t cs→Box w' g t cs) (hBa:∀b w cs,B b w→B b (w.alloc (.cells cs t))) (hBn:∀b w,B b w→N0≤w.heap.size)
  (h:Wf P l.toArray B St (Zhs P B n k N0 t p q zs xs (fun a w=>wpList P l.toArray Q (l.drop (n+k+k)) a w)) n l a e):(Code.region id l.toArray true).wp P Q a w:=by
 simp only[Zzu,Bool.and_eq_true,decide_eq_true_eq] at hB;obtain⟨⟨⟨⟨⟨⟨⟨⟨hsel,hlen⟩,hT⟩,hsq⟩,hA⟩,hS⟩,hw⟩,hc⟩,hf⟩:=hB;have hsz:l.toArray.size=n+k+k+g:=by simpa using hlen
 have hA':=List.all_eq_true.1 hA;have hS':=List.all_eq_true.1 hS;have hw':=List.all_eq_true.1 hw;have hc':=List.all_eq_true.1 hc;have hT':∀t,n+k+k≤t→t<l.toArray.size→∀i,i<n+k+k→Region.waitsFor .any l.toArray t i=true:=fun t h1 h2 i hi=>by
  have:=List.all_eq_true.1 (List.all_eq_true.1 hT (t-(n+k+k)) (List.mem_range.2 (by omega))) i (List.mem_range.2 hi)
  rwa[show n+k+k+(t-(n+k+k))=t by omega] at this
 have inv0:HeadInv .any l.toArray (n+k+k) (Array.replicate l.toArray.size false):=
  ⟨by simp,fun j oj _ hl=>(by rw[getD_replicate_false] at hl;cases hl),fun t h1 h2=>getD_in (by simpa using h2) (getD_replicate_false _ _)⟩
 refine wp_region_any hm ?_;have H:=Zug (md:= .any) (P:=P) (ops:=l.toArray) (B:=B) (St:=St) (N0:=N0) (k:=k) (t:=t) (zs:=zs) (xs:=xs) (n:=n) (g:=k+k) (M:=n+k+k)
  (L:=fun listed a s e=>listed=LFn (n+k+k) g∧∀w,B e w→XN N0 t k zs xs s w→wpList P l.toArray Q (l.drop (n+k+k)) a w) (E:=Zhs P B n k N0 t p q zs xs (fun a w=>wpList P l.toArray Q (l.drop (n+k+k)) a w))
  hsel hX (fun listed a s e h j hj=>by
   have:=h.1
   subst this;exact seqB_ready hsq j hj) (by omega) (by omega) hT'
  (fun listed l' a e hls h1 h2 hE hl'=>by
   obtain⟨e1,e2,e3,e4⟩:=hE;have c0:∀k',Ki (fun _=>none) k'=k':=fun k'=>by
    induction k' with
    |zero=>rfl
    |succ k' ih=>unfold Ki;rw[ih];rfl
   have f0:∀k',frN p (fun _=>none) a k'=a:=fun k'=>by
    induction k' with
    |zero=>rfl
    |succ k' ih=>unfold frN;exact ih
   have H2:=Zds (md:= .any) (P:=P) (ops:=l.toArray) (B:=B) k n N0 g t p q (fun i=>a.eval (.tmp (q i))) zs xs (fun a w=>wpList P l.toArray Q (l.drop (n+k+k)) a w) a e hsz hT'
    (fun i hi=>by
     obtain⟨o,ho,hmk⟩:=e1 i hi;have ho':l.toArray[n+i]? =some o:=by rw[←hl' i];exact ho
     refine⟨o,ho',hmk,fun g hg hb=>?_⟩;have:=hA' i (List.mem_range.2 hi)
     rw[show l[n+i]? =some o by simpa using ho'] at this;have h3:=Array.all_eq_true_iff_forall_mem.1 this g hg;simpa [hb] using h3)
    (fun i hi=>by
     obtain⟨o,ho,hmk⟩:=e2 i hi;have ho':l.toArray[n+k+i]? =some o:=by rw[Nat.add_assoc,←hl' (k+i)];exact ho
     refine⟨o,ho',hmk,fun g hg hb=>?_⟩;have:=hS' i (List.mem_range.2 hi)
     rw[show l[n+k+i]? =some o by simpa using ho'] at this;have h3:=Array.all_eq_true_iff_forall_mem.1 this g hg;simpa [hb] using h3)
    (fun i hi=>hw' i (List.mem_range.2 hi)) (fun i hi=>by
     have:=hc' i (List.mem_range.2 (by omega))
     simp only[Bool.or_eq_true,decide_eq_true_eq] at this;rcases this with h|h
     ·omega
     ·exact h)
    hp hq e3 (fun i _=>rfl) hBa hBn e4 (k+k) listed (fun _=>none) 0 (by rw[c0];omega) (by omega) hls h1
    (fun i hi=>by rw[h2 (n+i) (by omega) (by omega)];rfl) (fun i hi=>by rw[h2 (n+k+i) (by omega) (by omega)];simp) (fun i hi=>absurd hi (by omega)) (fun j hj hj2=>h2 j (by omega) hj2)
   rwa[f0] at H2)
  n l 0 _ a e (by simp) (by simp) inv0 (fun j hj=>absurd hj (by omega)) (fun j _ _=>getD_replicate_false _ _) (by simpa using hf) h
 have hdl:(l.drop (n+k+k)).length=g:=by simp;omega
 have:=Ls (Q':=Q) (g:=g) (fun listed a' s e' w' hL hb' hx'=>by
  have h1:=hL.1;subst h1;have:=wpAny_of_seq (md:= .any) (Q':=Q) (l.drop (n+k+k)) (n+k+k) _ a' w' (fun j=>by simp) (by rw[hdl];exact hsq) (hL.2 w' hb' hx')
  rwa[hdl] at this) (n+(k+k)) _ a _ e _ hb ⟨fun i hi g hg=>(by cases hg),fun i j hi hj g hg _=>(by cases hg)⟩ H
 rwa[show n+(k+k)+g=l.toArray.size by omega] at this
end
end
section
open Go.RowKit

structure SlT(T e:TypeId)(z:Value)(sz nb:Nat):Prop where
 under:Tryz.prog.underlying T=some (.slice e)
 info:(Tryz.prog.info? e).map (fun i=>(i.zero,i.size,i.bytes))=some (some z,sz,nb)
 cells:z.cells.size=sz
 pos:0<sz
 small:nb≤1000
theorem Zdg{T e:TypeId}{z:Value}{sz nb:Nat}(ht:SlT T e z sz nb){o:Oper}{a:Act}{K:Act→World→Prop}{Q:Exit→Act→World→Prop}{w:World}(s x:Operand)
  (ho:o.op= .call {callee:= .builtin .append,args:=#[s,x],argTypes:=#[T,T]})
  (lo:Nat) (A:Option Addr) (cap n:Nat) (cs us:List Value) (hul:us.length=sz) (h1:∀u∈us,u.oneCell'=true) (hs:a.eval s= .slice A n cap) (hown:Own w lo e sz (.slice A n cap) n cs) (g:Nat) (W:World)
  (hx:a.eval x= .slice (some ⟨g,0,none⟩) 1 1) (hW:Ex w W) (hbox:Box W g e us.toArray) (hlen:n≤1048576) (hlo:lo≤w.heap.size)
  (h:∀A' cap' w',Own w' lo e sz (.slice A' (n+1) cap') (n+1) (cs++us)→Qg lo e w w'→K (a.put o.dst (.slice A' (n+1) cap')) w'):o.wp prog a W K Q:=by
 obtain⟨i0,hi,hz0,hz1,hz2⟩:=info_parts ht.info;refine wp_append_own W s x T ho lo e i0 z sz nb ht.under hi hz0 hz1 hz2 ht.cells ht.pos _ n _ hs (hown.ex hW) ⟨g,0,none⟩ 1 1 us hx (by omega) ?_ h1 (by unfold maxLen;omega) ?_ (Nat.le_trans hlo hW.size) ?_
 ·intro j u hj;have hb:=hbox.cell j;have e1:(Addr.add ⟨g,0,none⟩ j)=⟨g,j,none⟩:=by
   unfold Addr.add;simp;try (intro hj0;omega)
  rw[e1,hb];simpa using hj
 ·have h2:(n+1)*nb≤(1048576+1)*1000:=Nat.mul_le_mul (by omega) ht.small;omega
 ·intro v' w' hown' hg _;obtain⟨A',cap',rfl, -⟩:=Own.form hown';exact h A' cap' w' hown' (Qg.of_grown hW hown hg)
theorem Vq{T e:TypeId}{z:Value}{sz nb:Nat}(ht:SlT T e z sz nb){ops:Array Oper}{rest:List Oper}{o:Oper}{a:Act}{Q:Exit→Act→World→Prop}(hgd:o.guard=none)(s x:Operand)(w:World)
  (ho:o.op= .call {callee:= .builtin .append,args:=#[s,x],argTypes:=#[T,T]})
  (lo:Nat) (A:Option Addr) (cap n:Nat) (cs us:List Value) (hul:us.length=sz) (h1:∀u∈us,u.oneCell'=true) (hs:a.eval s= .slice A n cap) (hown:Own w lo e sz (.slice A n cap) n cs)
  (hx:a.eval x= .slice (some ⟨w.heap.size,0,none⟩) 1 1) (hlen:n≤1048576) (hlo:lo≤w.heap.size)
  (h:∀A' cap' w',Own w' lo e sz (.slice A' (n+1) cap') (n+1) (cs++us)→Qg lo e w w'→wpList prog ops Q rest (a.put o.dst (.slice A' (n+1) cap')) w'):wpList prog ops Q (o::rest) a (w.alloc (.cells us.toArray e)):=
 wpList_plain hgd fun _ hK=>Zdg ht s x ho lo A cap n cs us hul h1 hs hown _ _ hx ((Ex.refl w).alloc _) (Box.new w _ _) hlen hlo fun A' cap' w' h1 h2=>hK _ _ (h A' cap' w' h1 h2)
theorem Ow(w:World)(lo:Nat)(e:TypeId)(sz:Nat)(hlo:lo≤w.heap.size):Own (w.alloc (.cells #[] e)) lo e sz (.slice (some ⟨w.heap.size,0,none⟩) 0 0) 0 []:=
 World.ownsRow_lit (base:=lo) (e:=e) (size:=sz) w #[] 0 hlo (Nat.zero_le _) (by simp)
end
end Go.Proofs.YtiommfmaleeibaaGreatDoor
