/-
  Proved:what functions compute,part 15. No condition.
-/
import Derived.Test.YtiommfmaleeibaaGreatDoorB14
import Derived.Test.YtiommfmaleeibaaGreatDoorB13
set_option linter.unusedSimpArgs false
set_option linter.unusedVariables false
set_option maxRecDepth 20000
set_option maxHeartbeats 8000000
namespace Go.Proofs.YtiommfmaleeibaaGreatDoor
open Go.Proofs.Tryz
section
open Go.RowKit

attribute [local go_sem] Zg Zf
def Nw(a b c d pa pb pc pd:Fr):List (Fr×Bool):=[Qb (Yo (Yo (Yo pa pb).1 pc).1 pd).1,
 Qb (Xi (Yo (Xi pa pb).1 pc).1 pd).1,
 Vh (Yo (Yr a b).1 (Yr c d).1).1,
 Vg (Yo (Yr b a).1 (Yr d c).1).1,
 Qb (Xi (Xi (Yo pa pb).1 pc).1 pd).1,
 Qb (Yo (Xi (Xi pa pb).1 pc).1 pd).1,
 Vh (Xi (Yr a b).1 (Yr c d).1).1,
 Vg (Xi (Yr b a).1 (Yr d c).1).1,
 Vh (Yo (Yr a c).1 (Yr b d).1).1,
 Vh (Xi (Yr a c).1 (Yr b d).1).1,
 Vh (Yo (Yr a d).1 (Yr b c).1).1,
 Vg (Xi (Yr b c).1 (Yr a d).1).1,
 Vg (Yo (Yr a c).1 (Yr b d).1).1,
 Vg (Xi (Yr a c).1 (Yr b d).1).1,
 Vg (Yo (Yr a d).1 (Yr b c).1).1,
 Vh (Xi (Yr a d).1 (Yr b c).1).1]
def Vv(m:M4):List Fr×Bool:=
 if m.valid&&(Nw m.a m.b m.c m.d (Zc m.a).1 (Zc m.b).1 (Zc m.c).1 (Zc m.d).1).all (·.2) then ((Nw m.a m.b m.c m.d (Zc m.a).1 (Zc m.b).1 (Zc m.c).1 (Zc m.d).1).map (·.1),true) else (Wt 16,false)
theorem Tk{α:Type}{l:List α}{x:α}(i:Nat)(h:l[i]? =some x):x∈l:=List.mem_of_getElem? h
theorem Zbg{P:Program}{c:Code}{Q:Exit→Act→World→Prop}{w:World}(a:Act)(lo:Nat)(hd:a.defers=[])(h:∀a' r,(∀t,r t=a.eval (.tmp t))→Has a.tmps.size lo r a' []→c.wp P Q a' w):c.wp P Q a w:=h a _ (fun _=>rfl) (Has.of a lo hd)
theorem Zd{W w:World}{bs:Nat}{b:Bool}{L:Xx}{P:Program}{ρ:Operand→Value}{o:Oper}{f:FuncId}{args:Av}{r0:Fr×Bool}{r:Fr}{k:Bool}
  (hB:InS W bs L b w) (hr:(execOp ρ o).run P w= .ok (.enter f args) w) (hx:r0=(r,k)) (hc:Calls P f args w (Vn bs b w r0)):Vs P (fun u w'=>u=r.v∧Sm bs w w'∧InS W bs L (b|| !k) w') ((execOp ρ o).run P w):=by
 subst hx;refine Ln hr hc ?_;rintro e w' ⟨rfl,hs,hb⟩;exact⟨_,rfl,rfl,hs,hB.call (hB.sees.call hs hb)⟩
theorem Zj{W w:World}{bs:Nat}{b:Bool}{L:Xx}{P:Program}{ρ:Operand→Value}{o:Oper}{v:Value}
  (hB:InS W bs L b w) (hr:(execOp ρ o).run P w= .ok (.value v) w):Vs P (fun u w'=>u=v∧Sm bs w w'∧InS W bs L b w') ((execOp ρ o).run P w):=Tu hr ⟨rfl,Sm.refl _ _,hB⟩
theorem Ztu{P:Program}{w:World}{ρ:Operand→Value}{dst:Option Tmp}{ty:TypeId}{pos:String}{after:Array Edge}{guard:Option (Nat×Bool)}{x:Operand}{u v:Value}(hx:ρ x= .tuple #[u,v]):
  (execOp ρ {dst:=dst,op:= .extract x 0,type:=ty,pos:=pos,after:=after,guard:=guard}).run P w= .ok (.value u) w:=by simp[execOp,go_sem,hx]
theorem Ztt{P:Program}{w:World}{ρ:Operand→Value}{dst:Option Tmp}{ty:TypeId}{pos:String}{after:Array Edge}{guard:Option (Nat×Bool)}{x:Operand}{u v:Value}(hx:ρ x= .tuple #[u,v]):
  (execOp ρ {dst:=dst,op:= .extract x 1,type:=ty,pos:=pos,after:=after,guard:=guard}).run P w= .ok (.value v) w:=by simp[execOp,go_sem,hx]
theorem Us{r:Fr×Bool}{v:Fr}{k:Bool}(h:r=(v,k))(hn:r.2=false→r.1=Fr.none)(hv:v.valid=true):k=true:=by
 subst h;cases k with
 |true=>rfl
 |false=>rw[show v=Fr.none from hn rfl,Vc] at hv;cases hv
theorem Zbv{x y v:Fr}{k:Bool}(h:Yo x y=(v,k))(hk:k=true):x.valid=true:=by
 cases hx:x.valid with
 |true=>rfl
 |false=>rw[Fj hx] at h;cases h;cases hk
theorem add_r{x y v:Fr}{k:Bool}(h:Yo x y=(v,k))(hk:k=true):y.valid=true:=by
 cases hx:y.valid with
 |true=>rfl
 |false=>rw[Fi hx] at h;cases h;cases hk
theorem Ll{x y v:Fr}{k:Bool}(h:Xi x y=(v,k))(hk:k=true):x.valid=true:=by
 cases hx:x.valid with
 |true=>rfl
 |false=>simp[Xi,hx] at h;rw[h.2] at hk;cases hk
theorem Fe{x y v:Fr}{k:Bool}(h:Xi x y=(v,k))(hk:k=true):y.valid=true:=by
 cases hx:y.valid with
 |true=>rfl
 |false=>simp[Xi,hx] at h;rw[h.2] at hk;cases hk
theorem Zxd{x v:Fr}{k:Bool}(h:Qb x=(v,k))(hk:k=true):x.valid=true:=by
 cases hx:x.valid with
 |true=>rfl
 |false=>unfold Qb at h;rw[Fk hx] at h;cases h;cases hk
theorem Zpk{x v:Fr}{k:Bool}(h:Vh x=(v,k))(hk:k=true):x.valid=true:=by
 cases hx:x.valid with
 |true=>rfl
 |false=>simp[Vh,hx] at h;rw[h.2] at hk;cases hk
theorem Fd{x v:Fr}{k:Bool}(h:Vg x=(v,k))(hk:k=true):x.valid=true:=by
 cases hx:x.valid with
 |true=>rfl
 |false=>simp[Vg,hx] at h;rw[h.2] at hk;cases hk
theorem Su{x y:Fr}(h:(Yr x y).2=false):(Yr x y).1=Fr.none:=Eq h
theorem Xm{W w:World}{bs:Nat}{b:Bool}{L:Xx}{P:Program}{ρ:Operand→Value}{v:Value}{dst:Option Tmp}{ty:TypeId}{pos:String}{after:Array Edge}{guard:Option (Nat×Bool)}{x:Operand}
  (hB:InS W bs L b w) (hx:ρ x=v):Vs P (fun u w'=>u=v∧Sm bs w w'∧InS W bs L b w') ((execOp ρ {dst:=dst,op:= .move x,type:=ty,pos:=pos,after:=after,guard:=guard}).run P w):=Zty hx ⟨rfl,Sm.refl _ _,hB⟩
section
variable {N lo t m bs:Nat} {r:Nat→Value} {a:Act} {v:Value} {x y z:Nat×Value} {L L0:List (Nat×Value)} {P:Program} {ops:Array Oper} {B:Bool→World→Prop} {St:World→World→Prop} {Q:List Oper→Act→Bool→Prop} {o:Oper} {n:Nat} {rest:List Oper} {e d b:Bool} {W w:World} {M:Xx} {p0 p1 p2 p3 p4 p5 p6 p7 p8:Nat×TypeId×Av}
theorem Has.lw(h:Has N lo r a L)(hr:r t=v)(ht:Nat.blt t lo=true):a.eval (.tmp t)=v:=(h.low t (Nat.blt_eq.mp ht)).trans hr
def okS(N lo t:Nat)(o:Oper)(L:List (Nat×Value)):Bool:=o.guard.isNone&&Nat.blt t N&&Nat.ble lo t&&L.all fun x=>x.1 !=t
theorem Zzc(h:okS N lo t o L=true):o.guard=none∧t<N∧lo≤t∧(L.all fun x=>x.1 !=t)=true:=by
 unfold okS at h;simp only[Bool.and_eq_true,Option.isNone_iff_eq_none] at h;exact⟨h.1.1.1,Nat.blt_eq.mp h.1.1.2,Nat.ble_eq.mp h.1.2,h.2⟩
theorem Has.g0(h:Has N lo r a (x::L)):a.eval (.tmp x.1)=x.2:=h.get _ (.head _)
theorem Has.g1(h:Has N lo r a (x::y::L)):a.eval (.tmp y.1)=y.2:=h.get _ (.tail _ (.head _))
theorem Has.g2(h:Has N lo r a (x::y::z::L)):a.eval (.tmp z.1)=z.2:=h.get _ (.tail _ (.tail _ (.head _)))
theorem Vz(m:Nat)(ha:Has N lo r a L0)(hL:L0.drop m=L)(hd:o.dst=some t)(hk:okS N lo t o L=true)(hr:∀b w,B b w→Vs P (fun u w'=>u=v∧St w w'∧B (b||d) w') ((execOp a.eval o).run P w))
  (h:∀a',Has N lo r a' ((t,v)::L)→Wf P ops B St Q n rest a' (e||d)):Wf P ops B St Q (n+1) (o::rest) a e:=
 have k:=Zzc hk
 Zho m ha hL hd k.1 k.2.1 k.2.2.1 k.2.2.2 hr h
theorem Yf(ha:Has N lo r a L)(hd:o.dst=some t)(hk:okS N lo t o L=true)(hr:∀b w,B b w→Vs P (fun u w'=>u=v∧St w w'∧B b w') ((execOp a.eval o).run P w))
  (h:∀a',Has N lo r a' ((t,v)::L)→Wf P ops B St Q n rest a' e):Wf P ops B St Q (n+1) (o::rest) a e:=
 have k:=Zzc hk
 Jz 0 ha rfl hd k.1 k.2.1 k.2.2.1 k.2.2.2 hr h
theorem InS.b0(h:InS W bs (p0::M) b w):Box w p0.1 p0.2.1 p0.2.2:=h.sees.boxes.1
theorem InS.b1(h:InS W bs (p0::p1::M) b w):Box w p1.1 p1.2.1 p1.2.2:=h.sees.boxes.2.1
theorem InS.b2(h:InS W bs (p0::p1::p2::M) b w):Box w p2.1 p2.2.1 p2.2.2:=h.sees.boxes.2.2.1
theorem InS.b3(h:InS W bs (p0::p1::p2::p3::M) b w):Box w p3.1 p3.2.1 p3.2.2:=h.sees.boxes.2.2.2.1
theorem InS.b4(h:InS W bs (p0::p1::p2::p3::p4::M) b w):Box w p4.1 p4.2.1 p4.2.2:=h.sees.boxes.2.2.2.2.1
theorem InS.b5(h:InS W bs (p0::p1::p2::p3::p4::p5::M) b w):Box w p5.1 p5.2.1 p5.2.2:=h.sees.boxes.2.2.2.2.2.1
theorem InS.b6(h:InS W bs (p0::p1::p2::p3::p4::p5::p6::M) b w):Box w p6.1 p6.2.1 p6.2.2:=h.sees.boxes.2.2.2.2.2.2.1
theorem InS.b7(h:InS W bs (p0::p1::p2::p3::p4::p5::p6::p7::M) b w):Box w p7.1 p7.2.1 p7.2.2:=h.sees.boxes.2.2.2.2.2.2.2.1
theorem InS.b8(h:InS W bs (p0::p1::p2::p3::p4::p5::p6::p7::p8::M) b w):Box w p8.1 p8.2.1 p8.2.2:=h.sees.boxes.2.2.2.2.2.2.2.2.1
end
theorem Cb(m:M4)(w:World)[hG:Xz w]:Calls prog 39 #[m.v] w (fun e w'=>e= .returned (Sl (Vv m))∧Ex w w'):=by
 obtain⟨RV,hRV⟩:∃v,v=Sl (Vv m):=⟨_,rfl⟩
 rw[←hRV];have kv:=fun w=>Ix m w
 generalize hmv:m.valid=mv at kv;obtain⟨⟨a1,a2,a3⟩,⟨b1,b2,b3⟩,⟨c1,c2,c3⟩,⟨d1,d2,d3⟩⟩:=m;unfold Vv at hRV;rw[hmv] at hRV;simp only[M4.v] at kv ⊢;have KV:=Zz kv;clear kv hmv;simp only at hRV;rcases ha:Zc ⟨a1,a2,a3⟩ with⟨⟨pa1,pa2,pa3⟩,ka⟩;rcases hb:Zc ⟨b1,b2,b3⟩ with⟨⟨pb1,pb2,pb3⟩,kb⟩;rcases hc:Zc ⟨c1,c2,c3⟩ with⟨⟨pc1,pc2,pc3⟩,kc⟩;rcases hd:Zc ⟨d1,d2,d3⟩ with⟨⟨pd1,pd2,pd3⟩,kd⟩;have HA:=Zz ha;have HB:=Zz hb;have HC:=Zz hc;have HD:=Zz hd;rw[ha,hb,hc,hd] at hRV;simp only at hRV;have HR:=Zz hRV;clear ha hb hc hd hRV;have hR:=Zo.refl w;go_in;go_upto_region 1 with fail;rw[We];have hS:Zo w ((w.alloc (.cells #[a1,a2,a3,b1,b2,b3,c1,c2,c3,d1,d2,d3] 79)).alloc (.cells Z48 85)) _:=inferInstance;clear hR;have hle:w.heap.size≤((w.alloc (.cells #[a1,a2,a3,b1,b2,b3,c1,c2,c3,d1,d2,d3] 79)).alloc (.cells Z48 85)).heap.size:=hS.ex.size;simp only[Zy] at hS;generalize (w.alloc (.cells #[a1,a2,a3,b1,b2,b3,c1,c2,c3,d1,d2,d3] 79)).alloc (.cells Z48 85)=W0 at*;have hC:=hS.rd;simp only[Zr,Zq] at hC;go_wp2_with (first|((with_reducible apply Zl.see w;exact KV.out _);clear hS hC;intro wn hS hC;(try simp only[Zy] at hS hC);simp only[Zr,Zq] at hC)|(go_at_call 46;(with_reducible refine(Uc w).mono ?_);rintro e wn ⟨rfl,hS⟩;(try simp only[Zy] at hS);have hC:=hS.rd;simp only[Zr,Zq] at hC));replace hS:=Zl.alloc (h:=hS) (cs:=#[.pointer (some ⟨W0.heap.size,0,none⟩)]) (t:=90);have hS0:=hS;have hbs0:=hS0.sum.lt;refine Yh (St:=Sm _) (B:=fun b w'=>InS _ _ _ b w') 12 4 0 _ 30 (fun i=>match i with|0=>5|1=>6|2=>7|_=>8) (fun i=>match i with|0=>23|1=>26|2=>29|_=>32) (fun i=>match i with|0=>Oa|1=>Oa|2=>Oa|_=>Oa) (fun i=>match i with|0=>#[a1,a2,a3]|1=>#[b1,b2,b3]|2=>#[c1,c2,c3]|_=>#[d1,d2,d3]) _ (by kernel_rfl) (by kernel_rfl) (InS.drew (InS.start hS0)) (by intro x y h1 h2 h3;revert h3;match x,y,h1,h2 with|0,0,_,_=>decide|0,1,_,_=>decide|0,2,_,_=>decide|0,3,_,_=>decide|1,0,_,_=>decide|1,1,_,_=>decide|1,2,_,_=>decide|1,3,_,_=>decide|2,0,_,_=>decide|2,1,_,_=>decide|2,2,_,_=>decide|2,3,_,_=>decide|3,0,_,_=>decide|3,1,_,_=>decide|3,2,_,_=>decide|3,3,_,_=>decide) (by intro x y h1 h2;match x,y,h1,h2 with|0,0,_,_=>decide|0,1,_,_=>decide|0,2,_,_=>decide|0,3,_,_=>decide|1,0,_,_=>decide|1,1,_,_=>decide|1,2,_,_=>decide|1,3,_,_=>decide|2,0,_,_=>decide|2,1,_,_=>decide|2,2,_,_=>decide|2,3,_,_=>decide|3,0,_,_=>decide|3,1,_,_=>decide|3,2,_,_=>decide|3,3,_,_=>decide) (fun _ _ h g cs hg hb=>h.box _ _ _ (Nat.ne_of_gt (Nat.lt_of_lt_of_le hbs0 hg)) hb) (fun _ _ cs h=>h.alloc _) (fun _ _ h=>h.size) ?_;iterate 12 (apply Zp;rfl;intro b u B Q q;have hS:=B.sees;have hC:=hS.rd;simp only[Zr,Zq] at hC;go_wp2;exact q _ (Sm.refl _ _) B;exact⟨_,rfl⟩)
 refine Zn ?_;refine⟨fun i hi=>?_,fun i hi=>?_,fun i hi=>?_,fun gg wz hz hbx hne=>?_⟩
 ·obtain rfl|rfl|rfl|rfl:i=0∨i=1∨i=2∨i=3:=by omega
  all_goals exact⟨_,rfl,Yt⟩
 ·obtain rfl|rfl|rfl|rfl:i=0∨i=1∨i=2∨i=3:=by omega
  all_goals exact⟨_,rfl,Xh Ym rfl (by kernel_rfl) (fun _ _ _ hg h=>h.setRow hg _)⟩
 ·obtain rfl|rfl|rfl|rfl:i=0∨i=1∨i=2∨i=3:=by omega
  ·exact(show(5:Nat)<246 by decide)
  ·exact(show(6:Nat)<246 by decide)
  ·exact(show(7:Nat)<246 by decide)
  ·exact(show(8:Nat)<246 by decide)
 obtain⟨hg0,hb0⟩:=hbx 0 (by omega);obtain⟨hg1,hb1⟩:=hbx 1 (by omega);obtain⟨hg2,hb2⟩:=hbx 2 (by omega);obtain⟨hg3,hb3⟩:=hbx 3 (by omega);replace hS:=InS.join hS0 hz;replace hS:=Zl.put hS hb0 (by omega);replace hS:=Zl.put hS hb1 (by omega);replace hS:=Zl.put hS hb2 (by omega);replace hS:=Zl.put hS hb3 (by omega);simp only[frN,Act.put,Zx,Zw,Zv,Nat.reduceAdd,List.drop_succ_cons,List.drop_zero];generalize gg 0=g0 at*;generalize gg 1=g1 at*;generalize gg 2=g2 at*;generalize gg 3=g3 at*;clear hbx hz hS0 hne;simp only at hS;go_wp2_with fail;have hS0:=hS;have hbs0:=hS0.sum.lt;refine Yh (St:=Sm _) (B:=fun b w'=>InS _ _ _ b w') 12 4 0 _ 30 (fun i=>match i with|0=>9|1=>10|2=>11|_=>12) (fun i=>match i with|0=>35|1=>38|2=>41|_=>44) (fun i=>match i with|0=>Oa|1=>Oa|2=>Oa|_=>Oa) (fun i=>match i with|0=>#[pa1,pa2,pa3]|1=>#[pb1,pb2,pb3]|2=>#[pc1,pc2,pc3]|_=>#[pd1,pd2,pd3]) _ (by kernel_rfl) (by kernel_rfl) (InS.drew (InS.start hS0)) (by intro x y h1 h2 h3;revert h3;match x,y,h1,h2 with|0,0,_,_=>decide|0,1,_,_=>decide|0,2,_,_=>decide|0,3,_,_=>decide|1,0,_,_=>decide|1,1,_,_=>decide|1,2,_,_=>decide|1,3,_,_=>decide|2,0,_,_=>decide|2,1,_,_=>decide|2,2,_,_=>decide|2,3,_,_=>decide|3,0,_,_=>decide|3,1,_,_=>decide|3,2,_,_=>decide|3,3,_,_=>decide) (by intro x y h1 h2;match x,y,h1,h2 with|0,0,_,_=>decide|0,1,_,_=>decide|0,2,_,_=>decide|0,3,_,_=>decide|1,0,_,_=>decide|1,1,_,_=>decide|1,2,_,_=>decide|1,3,_,_=>decide|2,0,_,_=>decide|2,1,_,_=>decide|2,2,_,_=>decide|2,3,_,_=>decide|3,0,_,_=>decide|3,1,_,_=>decide|3,2,_,_=>decide|3,3,_,_=>decide) (fun _ _ h g cs hg hb=>h.box _ _ _ (Nat.ne_of_gt (Nat.lt_of_lt_of_le hbs0 hg)) hb) (fun _ _ cs h=>h.alloc _) (fun _ _ h=>h.size) ?_;iterate 2 (apply Zp;rfl;intro b u B Q q;have hS:=B.sees;have hC:=hS.rd;simp only[Zr,Zq] at hC;go_wp2;exact q _ (Sm.refl _ _) B;exact⟨_,rfl⟩)
 (apply Zi;rfl;intro b u B Q q;go_wp2_with ((with_reducible refine(Ry B.sees HA.out).mono ?_);rintro e wn ⟨rfl,hN,hM⟩);exact q _ hM (B.call hN);exact⟨_,rfl⟩);iterate 2 (apply Zp;rfl;intro b u B Q q;have hS:=B.sees;have hC:=hS.rd;simp only[Zr,Zq] at hC;go_wp2;exact q _ (Sm.refl _ _) B;exact⟨_,rfl⟩)
 (apply Zi;rfl;intro b u B Q q;go_wp2_with ((with_reducible refine(Ry B.sees HB.out).mono ?_);rintro e wn ⟨rfl,hN,hM⟩);exact q _ hM (B.call hN);exact⟨_,rfl⟩);iterate 2 (apply Zp;rfl;intro b u B Q q;have hS:=B.sees;have hC:=hS.rd;simp only[Zr,Zq] at hC;go_wp2;exact q _ (Sm.refl _ _) B;exact⟨_,rfl⟩)
 (apply Zi;rfl;intro b u B Q q;go_wp2_with ((with_reducible refine(Ry B.sees HC.out).mono ?_);rintro e wn ⟨rfl,hN,hM⟩);exact q _ hM (B.call hN);exact⟨_,rfl⟩);iterate 2 (apply Zp;rfl;intro b u B Q q;have hS:=B.sees;have hC:=hS.rd;simp only[Zr,Zq] at hC;go_wp2;exact q _ (Sm.refl _ _) B;exact⟨_,rfl⟩)
 (apply Zi;rfl;intro b u B Q q;go_wp2_with ((with_reducible refine(Ry B.sees HD.out).mono ?_);rintro e wn ⟨rfl,hN,hM⟩);exact q _ hM (B.call hN);exact⟨_,rfl⟩);refine Zn ?_;refine⟨fun i hi=>?_,fun i hi=>?_,fun i hi=>?_,fun gg wz hz hbx hne=>?_⟩
 ·obtain rfl|rfl|rfl|rfl:i=0∨i=1∨i=2∨i=3:=by omega
  all_goals exact⟨_,rfl,Yt⟩
 ·obtain rfl|rfl|rfl|rfl:i=0∨i=1∨i=2∨i=3:=by omega
  all_goals exact⟨_,rfl,Xh Ym rfl (by kernel_rfl) (fun _ _ _ hg h=>h.setRow hg _)⟩
 ·obtain rfl|rfl|rfl|rfl:i=0∨i=1∨i=2∨i=3:=by omega
  ·exact(show(9:Nat)<246 by decide)
  ·exact(show(10:Nat)<246 by decide)
  ·exact(show(11:Nat)<246 by decide)
  ·exact(show(12:Nat)<246 by decide)
 obtain⟨hq0,hp0⟩:=hbx 0 (by omega);obtain⟨hq1,hp1⟩:=hbx 1 (by omega);obtain⟨hq2,hp2⟩:=hbx 2 (by omega);obtain⟨hq3,hp3⟩:=hbx 3 (by omega);replace hS:=InS.join hS0 hz;replace hS:=Zl.put hS hp0 (by omega);replace hS:=Zl.put hS hp1 (by omega);replace hS:=Zl.put hS hp2 (by omega);replace hS:=Zl.put hS hp3 (by omega);simp only[frN,Act.put,Zx,Zw,Zv,Nat.reduceAdd,List.drop_succ_cons,List.drop_zero];generalize gg 0=g4 at*;generalize gg 1=g5 at*;generalize gg 2=g6 at*;generalize gg 3=g7 at*;clear hbx hz hS0 hne;simp only at hS;go_wp2_with fail;have hS2:=hS;have hGl:∀w2,Sm W0.heap.size wz w2→Xz w2:=fun w2 h=>hG.ex ((hS2.sm.trans h).ex w (Ex.refl _) hle)
 have hne:wn.heap.size≠W0.heap.size:=hS2.far _ (Tk 8 rfl);obtain⟨⟨v53,k53⟩,h53⟩:∃r,Yo (⟨pa1,pa2,pa3⟩:Fr) (⟨pb1,pb2,pb3⟩:Fr)=r:=⟨_,rfl⟩
 obtain⟨⟨v55,k55⟩,h55⟩:∃r,Yo v53 (⟨pc1,pc2,pc3⟩:Fr)=r:=⟨_,rfl⟩
 obtain⟨⟨v57,k57⟩,h57⟩:∃r,Yo v55 (⟨pd1,pd2,pd3⟩:Fr)=r:=⟨_,rfl⟩
 obtain⟨⟨v58,k58⟩,h58⟩:∃r,Qb v57=r:=⟨_,rfl⟩
 obtain⟨⟨v65,k65⟩,h65⟩:∃r,Xi (⟨pa1,pa2,pa3⟩:Fr) (⟨pb1,pb2,pb3⟩:Fr)=r:=⟨_,rfl⟩
 obtain⟨⟨v67,k67⟩,h67⟩:∃r,Yo v65 (⟨pc1,pc2,pc3⟩:Fr)=r:=⟨_,rfl⟩
 obtain⟨⟨v69,k69⟩,h69⟩:∃r,Xi v67 (⟨pd1,pd2,pd3⟩:Fr)=r:=⟨_,rfl⟩
 obtain⟨⟨v70,k70⟩,h70⟩:∃r,Qb v69=r:=⟨_,rfl⟩
 obtain⟨⟨v76,k76⟩,h76⟩:∃r,Yr (⟨a1,a2,a3⟩:Fr) (⟨b1,b2,b3⟩:Fr)=r:=⟨_,rfl⟩
 obtain⟨⟨v80,k80⟩,h80⟩:∃r,Yr (⟨c1,c2,c3⟩:Fr) (⟨d1,d2,d3⟩:Fr)=r:=⟨_,rfl⟩
 obtain⟨⟨v81,k81⟩,h81⟩:∃r,Yo v76 v80=r:=⟨_,rfl⟩
 obtain⟨⟨v82,k82⟩,h82⟩:∃r,Vh v81=r:=⟨_,rfl⟩
 obtain⟨⟨v88,k88⟩,h88⟩:∃r,Yr (⟨b1,b2,b3⟩:Fr) (⟨a1,a2,a3⟩:Fr)=r:=⟨_,rfl⟩
 obtain⟨⟨v92,k92⟩,h92⟩:∃r,Yr (⟨d1,d2,d3⟩:Fr) (⟨c1,c2,c3⟩:Fr)=r:=⟨_,rfl⟩
 obtain⟨⟨v93,k93⟩,h93⟩:∃r,Yo v88 v92=r:=⟨_,rfl⟩
 obtain⟨⟨v94,k94⟩,h94⟩:∃r,Vg v93=r:=⟨_,rfl⟩
 obtain⟨⟨v103,k103⟩,h103⟩:∃r,Xi v53 (⟨pc1,pc2,pc3⟩:Fr)=r:=⟨_,rfl⟩
 obtain⟨⟨v105,k105⟩,h105⟩:∃r,Xi v103 (⟨pd1,pd2,pd3⟩:Fr)=r:=⟨_,rfl⟩
 obtain⟨⟨v106,k106⟩,h106⟩:∃r,Qb v105=r:=⟨_,rfl⟩
 obtain⟨⟨v115,k115⟩,h115⟩:∃r,Xi v65 (⟨pc1,pc2,pc3⟩:Fr)=r:=⟨_,rfl⟩
 obtain⟨⟨v117,k117⟩,h117⟩:∃r,Yo v115 (⟨pd1,pd2,pd3⟩:Fr)=r:=⟨_,rfl⟩
 obtain⟨⟨v118,k118⟩,h118⟩:∃r,Qb v117=r:=⟨_,rfl⟩
 obtain⟨⟨v129,k129⟩,h129⟩:∃r,Xi v76 v80=r:=⟨_,rfl⟩
 obtain⟨⟨v130,k130⟩,h130⟩:∃r,Vh v129=r:=⟨_,rfl⟩
 obtain⟨⟨v141,k141⟩,h141⟩:∃r,Xi v88 v92=r:=⟨_,rfl⟩
 obtain⟨⟨v142,k142⟩,h142⟩:∃r,Vg v141=r:=⟨_,rfl⟩
 obtain⟨⟨v148,k148⟩,h148⟩:∃r,Yr (⟨a1,a2,a3⟩:Fr) (⟨c1,c2,c3⟩:Fr)=r:=⟨_,rfl⟩
 obtain⟨⟨v152,k152⟩,h152⟩:∃r,Yr (⟨b1,b2,b3⟩:Fr) (⟨d1,d2,d3⟩:Fr)=r:=⟨_,rfl⟩
 obtain⟨⟨v153,k153⟩,h153⟩:∃r,Yo v148 v152=r:=⟨_,rfl⟩
 obtain⟨⟨v154,k154⟩,h154⟩:∃r,Vh v153=r:=⟨_,rfl⟩
 obtain⟨⟨v165,k165⟩,h165⟩:∃r,Xi v148 v152=r:=⟨_,rfl⟩
 obtain⟨⟨v166,k166⟩,h166⟩:∃r,Vh v165=r:=⟨_,rfl⟩
 obtain⟨⟨v172,k172⟩,h172⟩:∃r,Yr (⟨a1,a2,a3⟩:Fr) (⟨d1,d2,d3⟩:Fr)=r:=⟨_,rfl⟩
 obtain⟨⟨v176,k176⟩,h176⟩:∃r,Yr (⟨b1,b2,b3⟩:Fr) (⟨c1,c2,c3⟩:Fr)=r:=⟨_,rfl⟩
 obtain⟨⟨v177,k177⟩,h177⟩:∃r,Yo v172 v176=r:=⟨_,rfl⟩
 obtain⟨⟨v178,k178⟩,h178⟩:∃r,Vh v177=r:=⟨_,rfl⟩
 obtain⟨⟨v189,k189⟩,h189⟩:∃r,Xi v176 v172=r:=⟨_,rfl⟩
 obtain⟨⟨v190,k190⟩,h190⟩:∃r,Vg v189=r:=⟨_,rfl⟩
 obtain⟨⟨v202,k202⟩,h202⟩:∃r,Vg v153=r:=⟨_,rfl⟩
 obtain⟨⟨v214,k214⟩,h214⟩:∃r,Vg v165=r:=⟨_,rfl⟩
 obtain⟨⟨v226,k226⟩,h226⟩:∃r,Vg v177=r:=⟨_,rfl⟩
 obtain⟨⟨v237,k237⟩,h237⟩:∃r,Xi v172 v176=r:=⟨_,rfl⟩
 obtain⟨⟨v238,k238⟩,h238⟩:∃r,Vh v237=r:=⟨_,rfl⟩
 refine Zbg _ 47 rfl ?_;intro a0 r hr0 hA0;have hA:Has 246 47 r a0 []:=hA0;have r1:r 1= .pointer (some ⟨w.heap.size,0,none⟩):=hr0 1;have r2:r 2= .pointer (some ⟨(w.heap.size+1),0,none⟩):=hr0 2;have r4:r 4= .pointer (some ⟨wn.heap.size,0,none⟩):=hr0 4;have r5:r 5= .pointer (some ⟨g0,0,none⟩):=hr0 5;have r6:r 6= .pointer (some ⟨g1,0,none⟩):=hr0 6;have r7:r 7= .pointer (some ⟨g2,0,none⟩):=hr0 7;have r8:r 8= .pointer (some ⟨g3,0,none⟩):=hr0 8;have r9:r 9= .pointer (some ⟨g4,0,none⟩):=hr0 9;have r10:r 10= .pointer (some ⟨g5,0,none⟩):=hr0 10;have r11:r 11= .pointer (some ⟨g6,0,none⟩):=hr0 11;have r12:r 12= .pointer (some ⟨g7,0,none⟩):=hr0 12;have r13:r 13= .func (.func 97) #[] #[.pointer (some ⟨wn.heap.size,0,none⟩)]:=hr0 13;have r14:r 14= .func (.func 98) #[] #[.pointer (some ⟨wn.heap.size,0,none⟩)]:=hr0 14;clear hr0 hA0;have hS0:=hS2;have hbs1:=hS0.sum.lt;refine Yh (St:=Sm W0.heap.size) (B:=fun b w2=>InS _ W0.heap.size _ b w2) 194 1 0 _ 85 (fun _=>15) (fun _=>240) (fun _=>Z48) (fun _=>Zm [v58,v70,v82,v94,v106,v118,v130,v142,v154,v166,v178,v190,v202,v214,v226,v238]) _ (by kernel_rfl) (Zxf (lo:=47) (outs:=[15]) (by kernel_rfl)) (InS.drew (InS.start hS0)) (fun x y h1 h2 _=>by omega) (fun x y _ _=>by decide) (fun _ _ h g cs hg hb=>h.box _ _ _ (Nat.ne_of_gt (Nat.lt_of_lt_of_le hbs1 hg)) hb) (fun _ _ cs h=>h.alloc _) (fun _ _ h=>h.size) ?_;refine Yf hA rfl rfl (fun b w2 hB=>Xm hB (hA.lw r14 rfl)) fun a hA=>?_
 refine Yf hA rfl rfl (fun b w2 hB=>Zj hB (Yg (hA.lw r4 rfl) hB.b8)) fun a hA=>?_
 refine Yf hA rfl rfl (fun b w2 hB=>Zj hB (Yg (hA.lw r4 rfl) hB.b8)) fun a hA=>?_
 refine Yf hA rfl rfl (fun b w2 hB=>Zj hB (Yg (hA.lw r4 rfl) hB.b8)) fun a hA=>?_
 refine Yf hA rfl rfl (fun b w2 hB=>Zj hB (Za (f:=⟨_,_,_⟩) (hA.lw r9 rfl) hB.b3)) fun a hA=>?_
 refine Yf hA rfl rfl (fun b w2 hB=>Zj hB (Za (f:=⟨_,_,_⟩) (hA.lw r10 rfl) hB.b2)) fun a hA=>?_
 refine Vz 3 hA rfl rfl rfl (fun b w2 hB=>Zd hB (Xb func53 (by kernel_rfl) rfl hA.g2 hA.g1 hA.g0 rfl) h53 (Ti _ _ _ _ w2 hB.sees.sum)) fun a hA=>?_
 refine Yf hA rfl rfl (fun b w2 hB=>Zj hB (Za (f:=⟨_,_,_⟩) (hA.lw r11 rfl) hB.b1)) fun a hA=>?_
 refine Vz 3 hA rfl rfl rfl (fun b w2 hB=>Zd hB (Xb func53 (by kernel_rfl) rfl hA.g2 hA.g1 hA.g0 rfl) h55 (Ti _ _ _ _ w2 hB.sees.sum)) fun a hA=>?_
 refine Yf hA rfl rfl (fun b w2 hB=>Zj hB (Za (f:=⟨_,_,_⟩) (hA.lw r12 rfl) hB.b0)) fun a hA=>?_
 refine Vz 3 hA rfl rfl rfl (fun b w2 hB=>Zd hB (Xb func53 (by kernel_rfl) rfl hA.g2 hA.g1 hA.g0 rfl) h57 (Ti _ _ _ _ w2 hB.sees.sum)) fun a hA=>?_
 refine Vz 2 hA rfl rfl rfl (fun b w2 hB=>Zd hB (Iu func98 (by kernel_rfl) rfl hA.g1 hA.g0) h58 (Gq _ _ _ _ w2 hB.sees.sum hB.b8 hne (fun w3 h3=>hGl w3 (hB.sees.sm.trans h3)))) fun a hA=>?_
 refine Yf hA rfl rfl (fun b w2 hB=>Xm hB (hA.lw r14 rfl)) fun a hA=>?_
 refine Yf hA rfl rfl (fun b w2 hB=>Zj hB (Yg (hA.lw r4 rfl) hB.b8)) fun a hA=>?_
 refine Yf hA rfl rfl (fun b w2 hB=>Zj hB (Yg (hA.lw r4 rfl) hB.b8)) fun a hA=>?_
 refine Yf hA rfl rfl (fun b w2 hB=>Zj hB (Yg (hA.lw r4 rfl) hB.b8)) fun a hA=>?_
 refine Yf hA rfl rfl (fun b w2 hB=>Zj hB (Za (f:=⟨_,_,_⟩) (hA.lw r9 rfl) hB.b3)) fun a hA=>?_
 refine Yf hA rfl rfl (fun b w2 hB=>Zj hB (Za (f:=⟨_,_,_⟩) (hA.lw r10 rfl) hB.b2)) fun a hA=>?_
 refine Vz 3 hA rfl rfl rfl (fun b w2 hB=>Zd hB (Xb func54 (by kernel_rfl) rfl hA.g2 hA.g1 hA.g0 rfl) h65 (Ue _ _ _ _ w2 hB.sees.sum)) fun a hA=>?_
 refine Yf hA rfl rfl (fun b w2 hB=>Zj hB (Za (f:=⟨_,_,_⟩) (hA.lw r11 rfl) hB.b1)) fun a hA=>?_
 refine Vz 3 hA rfl rfl rfl (fun b w2 hB=>Zd hB (Xb func53 (by kernel_rfl) rfl hA.g2 hA.g1 hA.g0 rfl) h67 (Ti _ _ _ _ w2 hB.sees.sum)) fun a hA=>?_
 refine Yf hA rfl rfl (fun b w2 hB=>Zj hB (Za (f:=⟨_,_,_⟩) (hA.lw r12 rfl) hB.b0)) fun a hA=>?_
 refine Vz 3 hA rfl rfl rfl (fun b w2 hB=>Zd hB (Xb func54 (by kernel_rfl) rfl hA.g2 hA.g1 hA.g0 rfl) h69 (Ue _ _ _ _ w2 hB.sees.sum)) fun a hA=>?_
 refine Vz 2 hA rfl rfl rfl (fun b w2 hB=>Zd hB (Iu func98 (by kernel_rfl) rfl hA.g1 hA.g0) h70 (Gq _ _ _ _ w2 hB.sees.sum hB.b8 hne (fun w3 h3=>hGl w3 (hB.sees.sm.trans h3)))) fun a hA=>?_
 refine Yf hA rfl rfl (fun b w2 hB=>Zj hB (Yg (hA.lw r4 rfl) hB.b8)) fun a hA=>?_
 refine Yf hA rfl rfl (fun b w2 hB=>Zj hB (Yg (hA.lw r4 rfl) hB.b8)) fun a hA=>?_
 refine Yf hA rfl rfl (fun b w2 hB=>Xm hB (hA.lw r13 rfl)) fun a hA=>?_
 refine Yf hA rfl rfl (fun b w2 hB=>Zj hB (Za (f:=⟨_,_,_⟩) (hA.lw r5 rfl) hB.b7)) fun a hA=>?_
 refine Yf hA rfl rfl (fun b w2 hB=>Zj hB (Za (f:=⟨_,_,_⟩) (hA.lw r6 rfl) hB.b6)) fun a hA=>?_
 refine Vz 3 hA rfl rfl rfl (fun b w2 hB=>Zd hB (Xa func97 (by kernel_rfl) rfl hA.g2 hA.g1 hA.g0) h76 (Wq _ _ _ _ _ w2 hB.sees.sum hB.b8 hne)) fun a hA=>?_
 refine Yf hA rfl rfl (fun b w2 hB=>Xm hB (hA.lw r13 rfl)) fun a hA=>?_
 refine Yf hA rfl rfl (fun b w2 hB=>Zj hB (Za (f:=⟨_,_,_⟩) (hA.lw r7 rfl) hB.b5)) fun a hA=>?_
 refine Yf hA rfl rfl (fun b w2 hB=>Zj hB (Za (f:=⟨_,_,_⟩) (hA.lw r8 rfl) hB.b4)) fun a hA=>?_
 refine Vz 3 hA rfl rfl rfl (fun b w2 hB=>Zd hB (Xa func97 (by kernel_rfl) rfl hA.g2 hA.g1 hA.g0) h80 (Wq _ _ _ _ _ w2 hB.sees.sum hB.b8 hne)) fun a hA=>?_
 refine Vz 3 hA rfl rfl rfl (fun b w2 hB=>Zd hB (Xb func53 (by kernel_rfl) rfl hA.g2 hA.g1 hA.g0 rfl) h81 (Ti _ _ _ _ w2 hB.sees.sum)) fun a hA=>?_
 refine Vz 2 hA rfl rfl rfl (fun b w2 hB=>Zd hB (Vf func55 (by kernel_rfl) rfl hA.g1 hA.g0 rfl) h82 (Ny _ _ _ w2 hB.sees.sum)) fun a hA=>?_
 refine Yf hA rfl rfl (fun b w2 hB=>Zj hB (Yg (hA.lw r4 rfl) hB.b8)) fun a hA=>?_
 refine Yf hA rfl rfl (fun b w2 hB=>Zj hB (Yg (hA.lw r4 rfl) hB.b8)) fun a hA=>?_
 refine Yf hA rfl rfl (fun b w2 hB=>Xm hB (hA.lw r13 rfl)) fun a hA=>?_
 refine Yf hA rfl rfl (fun b w2 hB=>Zj hB (Za (f:=⟨_,_,_⟩) (hA.lw r6 rfl) hB.b6)) fun a hA=>?_
 refine Yf hA rfl rfl (fun b w2 hB=>Zj hB (Za (f:=⟨_,_,_⟩) (hA.lw r5 rfl) hB.b7)) fun a hA=>?_
 refine Vz 3 hA rfl rfl rfl (fun b w2 hB=>Zd hB (Xa func97 (by kernel_rfl) rfl hA.g2 hA.g1 hA.g0) h88 (Wq _ _ _ _ _ w2 hB.sees.sum hB.b8 hne)) fun a hA=>?_
 refine Yf hA rfl rfl (fun b w2 hB=>Xm hB (hA.lw r13 rfl)) fun a hA=>?_
 refine Yf hA rfl rfl (fun b w2 hB=>Zj hB (Za (f:=⟨_,_,_⟩) (hA.lw r8 rfl) hB.b4)) fun a hA=>?_
 refine Yf hA rfl rfl (fun b w2 hB=>Zj hB (Za (f:=⟨_,_,_⟩) (hA.lw r7 rfl) hB.b5)) fun a hA=>?_
 refine Vz 3 hA rfl rfl rfl (fun b w2 hB=>Zd hB (Xa func97 (by kernel_rfl) rfl hA.g2 hA.g1 hA.g0) h92 (Wq _ _ _ _ _ w2 hB.sees.sum hB.b8 hne)) fun a hA=>?_
 refine Vz 3 hA rfl rfl rfl (fun b w2 hB=>Zd hB (Xb func53 (by kernel_rfl) rfl hA.g2 hA.g1 hA.g0 rfl) h93 (Ti _ _ _ _ w2 hB.sees.sum)) fun a hA=>?_
 refine Vz 2 hA rfl rfl rfl (fun b w2 hB=>Zd hB (Vf func56 (by kernel_rfl) rfl hA.g1 hA.g0 rfl) h94 (Nx _ _ _ w2 hB.sees.sum)) fun a hA=>?_
 refine Yf hA rfl rfl (fun b w2 hB=>Xm hB (hA.lw r14 rfl)) fun a hA=>?_
 refine Yf hA rfl rfl (fun b w2 hB=>Zj hB (Yg (hA.lw r4 rfl) hB.b8)) fun a hA=>?_
 refine Yf hA rfl rfl (fun b w2 hB=>Zj hB (Yg (hA.lw r4 rfl) hB.b8)) fun a hA=>?_
 refine Yf hA rfl rfl (fun b w2 hB=>Zj hB (Yg (hA.lw r4 rfl) hB.b8)) fun a hA=>?_
 refine Yf hA rfl rfl (fun b w2 hB=>Zj hB (Za (f:=⟨_,_,_⟩) (hA.lw r9 rfl) hB.b3)) fun a hA=>?_
 refine Yf hA rfl rfl (fun b w2 hB=>Zj hB (Za (f:=⟨_,_,_⟩) (hA.lw r10 rfl) hB.b2)) fun a hA=>?_
 refine Vz 3 hA rfl rfl rfl (fun b w2 hB=>Zd hB (Xb func53 (by kernel_rfl) rfl hA.g2 hA.g1 hA.g0 rfl) h53 (Ti _ _ _ _ w2 hB.sees.sum)) fun a hA=>?_
 refine Yf hA rfl rfl (fun b w2 hB=>Zj hB (Za (f:=⟨_,_,_⟩) (hA.lw r11 rfl) hB.b1)) fun a hA=>?_
 refine Vz 3 hA rfl rfl rfl (fun b w2 hB=>Zd hB (Xb func54 (by kernel_rfl) rfl hA.g2 hA.g1 hA.g0 rfl) h103 (Ue _ _ _ _ w2 hB.sees.sum)) fun a hA=>?_
 refine Yf hA rfl rfl (fun b w2 hB=>Zj hB (Za (f:=⟨_,_,_⟩) (hA.lw r12 rfl) hB.b0)) fun a hA=>?_
 refine Vz 3 hA rfl rfl rfl (fun b w2 hB=>Zd hB (Xb func54 (by kernel_rfl) rfl hA.g2 hA.g1 hA.g0 rfl) h105 (Ue _ _ _ _ w2 hB.sees.sum)) fun a hA=>?_
 refine Vz 2 hA rfl rfl rfl (fun b w2 hB=>Zd hB (Iu func98 (by kernel_rfl) rfl hA.g1 hA.g0) h106 (Gq _ _ _ _ w2 hB.sees.sum hB.b8 hne (fun w3 h3=>hGl w3 (hB.sees.sm.trans h3)))) fun a hA=>?_
 refine Yf hA rfl rfl (fun b w2 hB=>Xm hB (hA.lw r14 rfl)) fun a hA=>?_
 refine Yf hA rfl rfl (fun b w2 hB=>Zj hB (Yg (hA.lw r4 rfl) hB.b8)) fun a hA=>?_
 refine Yf hA rfl rfl (fun b w2 hB=>Zj hB (Yg (hA.lw r4 rfl) hB.b8)) fun a hA=>?_
 refine Yf hA rfl rfl (fun b w2 hB=>Zj hB (Yg (hA.lw r4 rfl) hB.b8)) fun a hA=>?_
 refine Yf hA rfl rfl (fun b w2 hB=>Zj hB (Za (f:=⟨_,_,_⟩) (hA.lw r9 rfl) hB.b3)) fun a hA=>?_
 refine Yf hA rfl rfl (fun b w2 hB=>Zj hB (Za (f:=⟨_,_,_⟩) (hA.lw r10 rfl) hB.b2)) fun a hA=>?_
 refine Vz 3 hA rfl rfl rfl (fun b w2 hB=>Zd hB (Xb func54 (by kernel_rfl) rfl hA.g2 hA.g1 hA.g0 rfl) h65 (Ue _ _ _ _ w2 hB.sees.sum)) fun a hA=>?_
 refine Yf hA rfl rfl (fun b w2 hB=>Zj hB (Za (f:=⟨_,_,_⟩) (hA.lw r11 rfl) hB.b1)) fun a hA=>?_
 refine Vz 3 hA rfl rfl rfl (fun b w2 hB=>Zd hB (Xb func54 (by kernel_rfl) rfl hA.g2 hA.g1 hA.g0 rfl) h115 (Ue _ _ _ _ w2 hB.sees.sum)) fun a hA=>?_
 refine Yf hA rfl rfl (fun b w2 hB=>Zj hB (Za (f:=⟨_,_,_⟩) (hA.lw r12 rfl) hB.b0)) fun a hA=>?_
 refine Vz 3 hA rfl rfl rfl (fun b w2 hB=>Zd hB (Xb func53 (by kernel_rfl) rfl hA.g2 hA.g1 hA.g0 rfl) h117 (Ti _ _ _ _ w2 hB.sees.sum)) fun a hA=>?_
 refine Vz 2 hA rfl rfl rfl (fun b w2 hB=>Zd hB (Iu func98 (by kernel_rfl) rfl hA.g1 hA.g0) h118 (Gq _ _ _ _ w2 hB.sees.sum hB.b8 hne (fun w3 h3=>hGl w3 (hB.sees.sm.trans h3)))) fun a hA=>?_
 refine Yf hA rfl rfl (fun b w2 hB=>Zj hB (Yg (hA.lw r4 rfl) hB.b8)) fun a hA=>?_
 refine Yf hA rfl rfl (fun b w2 hB=>Zj hB (Yg (hA.lw r4 rfl) hB.b8)) fun a hA=>?_
 refine Yf hA rfl rfl (fun b w2 hB=>Xm hB (hA.lw r13 rfl)) fun a hA=>?_
 refine Yf hA rfl rfl (fun b w2 hB=>Zj hB (Za (f:=⟨_,_,_⟩) (hA.lw r5 rfl) hB.b7)) fun a hA=>?_
 refine Yf hA rfl rfl (fun b w2 hB=>Zj hB (Za (f:=⟨_,_,_⟩) (hA.lw r6 rfl) hB.b6)) fun a hA=>?_
 refine Vz 3 hA rfl rfl rfl (fun b w2 hB=>Zd hB (Xa func97 (by kernel_rfl) rfl hA.g2 hA.g1 hA.g0) h76 (Wq _ _ _ _ _ w2 hB.sees.sum hB.b8 hne)) fun a hA=>?_
 refine Yf hA rfl rfl (fun b w2 hB=>Xm hB (hA.lw r13 rfl)) fun a hA=>?_
 refine Yf hA rfl rfl (fun b w2 hB=>Zj hB (Za (f:=⟨_,_,_⟩) (hA.lw r7 rfl) hB.b5)) fun a hA=>?_
 refine Yf hA rfl rfl (fun b w2 hB=>Zj hB (Za (f:=⟨_,_,_⟩) (hA.lw r8 rfl) hB.b4)) fun a hA=>?_
 refine Vz 3 hA rfl rfl rfl (fun b w2 hB=>Zd hB (Xa func97 (by kernel_rfl) rfl hA.g2 hA.g1 hA.g0) h80 (Wq _ _ _ _ _ w2 hB.sees.sum hB.b8 hne)) fun a hA=>?_
 refine Vz 3 hA rfl rfl rfl (fun b w2 hB=>Zd hB (Xb func54 (by kernel_rfl) rfl hA.g2 hA.g1 hA.g0 rfl) h129 (Ue _ _ _ _ w2 hB.sees.sum)) fun a hA=>?_
 refine Vz 2 hA rfl rfl rfl (fun b w2 hB=>Zd hB (Vf func55 (by kernel_rfl) rfl hA.g1 hA.g0 rfl) h130 (Ny _ _ _ w2 hB.sees.sum)) fun a hA=>?_
 refine Yf hA rfl rfl (fun b w2 hB=>Zj hB (Yg (hA.lw r4 rfl) hB.b8)) fun a hA=>?_
 refine Yf hA rfl rfl (fun b w2 hB=>Zj hB (Yg (hA.lw r4 rfl) hB.b8)) fun a hA=>?_
 refine Yf hA rfl rfl (fun b w2 hB=>Xm hB (hA.lw r13 rfl)) fun a hA=>?_
 refine Yf hA rfl rfl (fun b w2 hB=>Zj hB (Za (f:=⟨_,_,_⟩) (hA.lw r6 rfl) hB.b6)) fun a hA=>?_
 refine Yf hA rfl rfl (fun b w2 hB=>Zj hB (Za (f:=⟨_,_,_⟩) (hA.lw r5 rfl) hB.b7)) fun a hA=>?_
 refine Vz 3 hA rfl rfl rfl (fun b w2 hB=>Zd hB (Xa func97 (by kernel_rfl) rfl hA.g2 hA.g1 hA.g0) h88 (Wq _ _ _ _ _ w2 hB.sees.sum hB.b8 hne)) fun a hA=>?_
 refine Yf hA rfl rfl (fun b w2 hB=>Xm hB (hA.lw r13 rfl)) fun a hA=>?_
 refine Yf hA rfl rfl (fun b w2 hB=>Zj hB (Za (f:=⟨_,_,_⟩) (hA.lw r8 rfl) hB.b4)) fun a hA=>?_
 refine Yf hA rfl rfl (fun b w2 hB=>Zj hB (Za (f:=⟨_,_,_⟩) (hA.lw r7 rfl) hB.b5)) fun a hA=>?_
 refine Vz 3 hA rfl rfl rfl (fun b w2 hB=>Zd hB (Xa func97 (by kernel_rfl) rfl hA.g2 hA.g1 hA.g0) h92 (Wq _ _ _ _ _ w2 hB.sees.sum hB.b8 hne)) fun a hA=>?_
 refine Vz 3 hA rfl rfl rfl (fun b w2 hB=>Zd hB (Xb func54 (by kernel_rfl) rfl hA.g2 hA.g1 hA.g0 rfl) h141 (Ue _ _ _ _ w2 hB.sees.sum)) fun a hA=>?_
 refine Vz 2 hA rfl rfl rfl (fun b w2 hB=>Zd hB (Vf func56 (by kernel_rfl) rfl hA.g1 hA.g0 rfl) h142 (Nx _ _ _ w2 hB.sees.sum)) fun a hA=>?_
 refine Yf hA rfl rfl (fun b w2 hB=>Zj hB (Yg (hA.lw r4 rfl) hB.b8)) fun a hA=>?_
 refine Yf hA rfl rfl (fun b w2 hB=>Zj hB (Yg (hA.lw r4 rfl) hB.b8)) fun a hA=>?_
 refine Yf hA rfl rfl (fun b w2 hB=>Xm hB (hA.lw r13 rfl)) fun a hA=>?_
 refine Yf hA rfl rfl (fun b w2 hB=>Zj hB (Za (f:=⟨_,_,_⟩) (hA.lw r5 rfl) hB.b7)) fun a hA=>?_
 refine Yf hA rfl rfl (fun b w2 hB=>Zj hB (Za (f:=⟨_,_,_⟩) (hA.lw r7 rfl) hB.b5)) fun a hA=>?_
 refine Vz 3 hA rfl rfl rfl (fun b w2 hB=>Zd hB (Xa func97 (by kernel_rfl) rfl hA.g2 hA.g1 hA.g0) h148 (Wq _ _ _ _ _ w2 hB.sees.sum hB.b8 hne)) fun a hA=>?_
 refine Yf hA rfl rfl (fun b w2 hB=>Xm hB (hA.lw r13 rfl)) fun a hA=>?_
 refine Yf hA rfl rfl (fun b w2 hB=>Zj hB (Za (f:=⟨_,_,_⟩) (hA.lw r6 rfl) hB.b6)) fun a hA=>?_
 refine Yf hA rfl rfl (fun b w2 hB=>Zj hB (Za (f:=⟨_,_,_⟩) (hA.lw r8 rfl) hB.b4)) fun a hA=>?_
 refine Vz 3 hA rfl rfl rfl (fun b w2 hB=>Zd hB (Xa func97 (by kernel_rfl) rfl hA.g2 hA.g1 hA.g0) h152 (Wq _ _ _ _ _ w2 hB.sees.sum hB.b8 hne)) fun a hA=>?_
 refine Vz 3 hA rfl rfl rfl (fun b w2 hB=>Zd hB (Xb func53 (by kernel_rfl) rfl hA.g2 hA.g1 hA.g0 rfl) h153 (Ti _ _ _ _ w2 hB.sees.sum)) fun a hA=>?_
 refine Vz 2 hA rfl rfl rfl (fun b w2 hB=>Zd hB (Vf func55 (by kernel_rfl) rfl hA.g1 hA.g0 rfl) h154 (Ny _ _ _ w2 hB.sees.sum)) fun a hA=>?_
 refine Yf hA rfl rfl (fun b w2 hB=>Zj hB (Yg (hA.lw r4 rfl) hB.b8)) fun a hA=>?_
 refine Yf hA rfl rfl (fun b w2 hB=>Zj hB (Yg (hA.lw r4 rfl) hB.b8)) fun a hA=>?_
 refine Yf hA rfl rfl (fun b w2 hB=>Xm hB (hA.lw r13 rfl)) fun a hA=>?_
 refine Yf hA rfl rfl (fun b w2 hB=>Zj hB (Za (f:=⟨_,_,_⟩) (hA.lw r5 rfl) hB.b7)) fun a hA=>?_
 refine Yf hA rfl rfl (fun b w2 hB=>Zj hB (Za (f:=⟨_,_,_⟩) (hA.lw r7 rfl) hB.b5)) fun a hA=>?_
 refine Vz 3 hA rfl rfl rfl (fun b w2 hB=>Zd hB (Xa func97 (by kernel_rfl) rfl hA.g2 hA.g1 hA.g0) h148 (Wq _ _ _ _ _ w2 hB.sees.sum hB.b8 hne)) fun a hA=>?_
 refine Yf hA rfl rfl (fun b w2 hB=>Xm hB (hA.lw r13 rfl)) fun a hA=>?_
 refine Yf hA rfl rfl (fun b w2 hB=>Zj hB (Za (f:=⟨_,_,_⟩) (hA.lw r6 rfl) hB.b6)) fun a hA=>?_
 refine Yf hA rfl rfl (fun b w2 hB=>Zj hB (Za (f:=⟨_,_,_⟩) (hA.lw r8 rfl) hB.b4)) fun a hA=>?_
 refine Vz 3 hA rfl rfl rfl (fun b w2 hB=>Zd hB (Xa func97 (by kernel_rfl) rfl hA.g2 hA.g1 hA.g0) h152 (Wq _ _ _ _ _ w2 hB.sees.sum hB.b8 hne)) fun a hA=>?_
 refine Vz 3 hA rfl rfl rfl (fun b w2 hB=>Zd hB (Xb func54 (by kernel_rfl) rfl hA.g2 hA.g1 hA.g0 rfl) h165 (Ue _ _ _ _ w2 hB.sees.sum)) fun a hA=>?_
 refine Vz 2 hA rfl rfl rfl (fun b w2 hB=>Zd hB (Vf func55 (by kernel_rfl) rfl hA.g1 hA.g0 rfl) h166 (Ny _ _ _ w2 hB.sees.sum)) fun a hA=>?_
 refine Yf hA rfl rfl (fun b w2 hB=>Zj hB (Yg (hA.lw r4 rfl) hB.b8)) fun a hA=>?_
 refine Yf hA rfl rfl (fun b w2 hB=>Zj hB (Yg (hA.lw r4 rfl) hB.b8)) fun a hA=>?_
 refine Yf hA rfl rfl (fun b w2 hB=>Xm hB (hA.lw r13 rfl)) fun a hA=>?_
 refine Yf hA rfl rfl (fun b w2 hB=>Zj hB (Za (f:=⟨_,_,_⟩) (hA.lw r5 rfl) hB.b7)) fun a hA=>?_
 refine Yf hA rfl rfl (fun b w2 hB=>Zj hB (Za (f:=⟨_,_,_⟩) (hA.lw r8 rfl) hB.b4)) fun a hA=>?_
 refine Vz 3 hA rfl rfl rfl (fun b w2 hB=>Zd hB (Xa func97 (by kernel_rfl) rfl hA.g2 hA.g1 hA.g0) h172 (Wq _ _ _ _ _ w2 hB.sees.sum hB.b8 hne)) fun a hA=>?_
 refine Yf hA rfl rfl (fun b w2 hB=>Xm hB (hA.lw r13 rfl)) fun a hA=>?_
 refine Yf hA rfl rfl (fun b w2 hB=>Zj hB (Za (f:=⟨_,_,_⟩) (hA.lw r6 rfl) hB.b6)) fun a hA=>?_
 refine Yf hA rfl rfl (fun b w2 hB=>Zj hB (Za (f:=⟨_,_,_⟩) (hA.lw r7 rfl) hB.b5)) fun a hA=>?_
 refine Vz 3 hA rfl rfl rfl (fun b w2 hB=>Zd hB (Xa func97 (by kernel_rfl) rfl hA.g2 hA.g1 hA.g0) h176 (Wq _ _ _ _ _ w2 hB.sees.sum hB.b8 hne)) fun a hA=>?_
 refine Vz 3 hA rfl rfl rfl (fun b w2 hB=>Zd hB (Xb func53 (by kernel_rfl) rfl hA.g2 hA.g1 hA.g0 rfl) h177 (Ti _ _ _ _ w2 hB.sees.sum)) fun a hA=>?_
 refine Vz 2 hA rfl rfl rfl (fun b w2 hB=>Zd hB (Vf func55 (by kernel_rfl) rfl hA.g1 hA.g0 rfl) h178 (Ny _ _ _ w2 hB.sees.sum)) fun a hA=>?_
 refine Yf hA rfl rfl (fun b w2 hB=>Zj hB (Yg (hA.lw r4 rfl) hB.b8)) fun a hA=>?_
 refine Yf hA rfl rfl (fun b w2 hB=>Zj hB (Yg (hA.lw r4 rfl) hB.b8)) fun a hA=>?_
 refine Yf hA rfl rfl (fun b w2 hB=>Xm hB (hA.lw r13 rfl)) fun a hA=>?_
 refine Yf hA rfl rfl (fun b w2 hB=>Zj hB (Za (f:=⟨_,_,_⟩) (hA.lw r6 rfl) hB.b6)) fun a hA=>?_
 refine Yf hA rfl rfl (fun b w2 hB=>Zj hB (Za (f:=⟨_,_,_⟩) (hA.lw r7 rfl) hB.b5)) fun a hA=>?_
 refine Vz 3 hA rfl rfl rfl (fun b w2 hB=>Zd hB (Xa func97 (by kernel_rfl) rfl hA.g2 hA.g1 hA.g0) h176 (Wq _ _ _ _ _ w2 hB.sees.sum hB.b8 hne)) fun a hA=>?_
 refine Yf hA rfl rfl (fun b w2 hB=>Xm hB (hA.lw r13 rfl)) fun a hA=>?_
 refine Yf hA rfl rfl (fun b w2 hB=>Zj hB (Za (f:=⟨_,_,_⟩) (hA.lw r5 rfl) hB.b7)) fun a hA=>?_
 refine Yf hA rfl rfl (fun b w2 hB=>Zj hB (Za (f:=⟨_,_,_⟩) (hA.lw r8 rfl) hB.b4)) fun a hA=>?_
 refine Vz 3 hA rfl rfl rfl (fun b w2 hB=>Zd hB (Xa func97 (by kernel_rfl) rfl hA.g2 hA.g1 hA.g0) h172 (Wq _ _ _ _ _ w2 hB.sees.sum hB.b8 hne)) fun a hA=>?_
 refine Vz 3 hA rfl rfl rfl (fun b w2 hB=>Zd hB (Xb func54 (by kernel_rfl) rfl hA.g2 hA.g1 hA.g0 rfl) h189 (Ue _ _ _ _ w2 hB.sees.sum)) fun a hA=>?_
 refine Vz 2 hA rfl rfl rfl (fun b w2 hB=>Zd hB (Vf func56 (by kernel_rfl) rfl hA.g1 hA.g0 rfl) h190 (Nx _ _ _ w2 hB.sees.sum)) fun a hA=>?_
 refine Yf hA rfl rfl (fun b w2 hB=>Zj hB (Yg (hA.lw r4 rfl) hB.b8)) fun a hA=>?_
 refine Yf hA rfl rfl (fun b w2 hB=>Zj hB (Yg (hA.lw r4 rfl) hB.b8)) fun a hA=>?_
 refine Yf hA rfl rfl (fun b w2 hB=>Xm hB (hA.lw r13 rfl)) fun a hA=>?_
 refine Yf hA rfl rfl (fun b w2 hB=>Zj hB (Za (f:=⟨_,_,_⟩) (hA.lw r5 rfl) hB.b7)) fun a hA=>?_
 refine Yf hA rfl rfl (fun b w2 hB=>Zj hB (Za (f:=⟨_,_,_⟩) (hA.lw r7 rfl) hB.b5)) fun a hA=>?_
 refine Vz 3 hA rfl rfl rfl (fun b w2 hB=>Zd hB (Xa func97 (by kernel_rfl) rfl hA.g2 hA.g1 hA.g0) h148 (Wq _ _ _ _ _ w2 hB.sees.sum hB.b8 hne)) fun a hA=>?_
 refine Yf hA rfl rfl (fun b w2 hB=>Xm hB (hA.lw r13 rfl)) fun a hA=>?_
 refine Yf hA rfl rfl (fun b w2 hB=>Zj hB (Za (f:=⟨_,_,_⟩) (hA.lw r6 rfl) hB.b6)) fun a hA=>?_
 refine Yf hA rfl rfl (fun b w2 hB=>Zj hB (Za (f:=⟨_,_,_⟩) (hA.lw r8 rfl) hB.b4)) fun a hA=>?_
 refine Vz 3 hA rfl rfl rfl (fun b w2 hB=>Zd hB (Xa func97 (by kernel_rfl) rfl hA.g2 hA.g1 hA.g0) h152 (Wq _ _ _ _ _ w2 hB.sees.sum hB.b8 hne)) fun a hA=>?_
 refine Vz 3 hA rfl rfl rfl (fun b w2 hB=>Zd hB (Xb func53 (by kernel_rfl) rfl hA.g2 hA.g1 hA.g0 rfl) h153 (Ti _ _ _ _ w2 hB.sees.sum)) fun a hA=>?_
 refine Vz 2 hA rfl rfl rfl (fun b w2 hB=>Zd hB (Vf func56 (by kernel_rfl) rfl hA.g1 hA.g0 rfl) h202 (Nx _ _ _ w2 hB.sees.sum)) fun a hA=>?_
 refine Yf hA rfl rfl (fun b w2 hB=>Zj hB (Yg (hA.lw r4 rfl) hB.b8)) fun a hA=>?_
 refine Yf hA rfl rfl (fun b w2 hB=>Zj hB (Yg (hA.lw r4 rfl) hB.b8)) fun a hA=>?_
 refine Yf hA rfl rfl (fun b w2 hB=>Xm hB (hA.lw r13 rfl)) fun a hA=>?_
 refine Yf hA rfl rfl (fun b w2 hB=>Zj hB (Za (f:=⟨_,_,_⟩) (hA.lw r5 rfl) hB.b7)) fun a hA=>?_
 refine Yf hA rfl rfl (fun b w2 hB=>Zj hB (Za (f:=⟨_,_,_⟩) (hA.lw r7 rfl) hB.b5)) fun a hA=>?_
 refine Vz 3 hA rfl rfl rfl (fun b w2 hB=>Zd hB (Xa func97 (by kernel_rfl) rfl hA.g2 hA.g1 hA.g0) h148 (Wq _ _ _ _ _ w2 hB.sees.sum hB.b8 hne)) fun a hA=>?_
 refine Yf hA rfl rfl (fun b w2 hB=>Xm hB (hA.lw r13 rfl)) fun a hA=>?_
 refine Yf hA rfl rfl (fun b w2 hB=>Zj hB (Za (f:=⟨_,_,_⟩) (hA.lw r6 rfl) hB.b6)) fun a hA=>?_
 refine Yf hA rfl rfl (fun b w2 hB=>Zj hB (Za (f:=⟨_,_,_⟩) (hA.lw r8 rfl) hB.b4)) fun a hA=>?_
 refine Vz 3 hA rfl rfl rfl (fun b w2 hB=>Zd hB (Xa func97 (by kernel_rfl) rfl hA.g2 hA.g1 hA.g0) h152 (Wq _ _ _ _ _ w2 hB.sees.sum hB.b8 hne)) fun a hA=>?_
 refine Vz 3 hA rfl rfl rfl (fun b w2 hB=>Zd hB (Xb func54 (by kernel_rfl) rfl hA.g2 hA.g1 hA.g0 rfl) h165 (Ue _ _ _ _ w2 hB.sees.sum)) fun a hA=>?_
 refine Vz 2 hA rfl rfl rfl (fun b w2 hB=>Zd hB (Vf func56 (by kernel_rfl) rfl hA.g1 hA.g0 rfl) h214 (Nx _ _ _ w2 hB.sees.sum)) fun a hA=>?_
 refine Yf hA rfl rfl (fun b w2 hB=>Zj hB (Yg (hA.lw r4 rfl) hB.b8)) fun a hA=>?_
 refine Yf hA rfl rfl (fun b w2 hB=>Zj hB (Yg (hA.lw r4 rfl) hB.b8)) fun a hA=>?_
 refine Yf hA rfl rfl (fun b w2 hB=>Xm hB (hA.lw r13 rfl)) fun a hA=>?_
 refine Yf hA rfl rfl (fun b w2 hB=>Zj hB (Za (f:=⟨_,_,_⟩) (hA.lw r5 rfl) hB.b7)) fun a hA=>?_
 refine Yf hA rfl rfl (fun b w2 hB=>Zj hB (Za (f:=⟨_,_,_⟩) (hA.lw r8 rfl) hB.b4)) fun a hA=>?_
 refine Vz 3 hA rfl rfl rfl (fun b w2 hB=>Zd hB (Xa func97 (by kernel_rfl) rfl hA.g2 hA.g1 hA.g0) h172 (Wq _ _ _ _ _ w2 hB.sees.sum hB.b8 hne)) fun a hA=>?_
 refine Yf hA rfl rfl (fun b w2 hB=>Xm hB (hA.lw r13 rfl)) fun a hA=>?_
 refine Yf hA rfl rfl (fun b w2 hB=>Zj hB (Za (f:=⟨_,_,_⟩) (hA.lw r6 rfl) hB.b6)) fun a hA=>?_
 refine Yf hA rfl rfl (fun b w2 hB=>Zj hB (Za (f:=⟨_,_,_⟩) (hA.lw r7 rfl) hB.b5)) fun a hA=>?_
 refine Vz 3 hA rfl rfl rfl (fun b w2 hB=>Zd hB (Xa func97 (by kernel_rfl) rfl hA.g2 hA.g1 hA.g0) h176 (Wq _ _ _ _ _ w2 hB.sees.sum hB.b8 hne)) fun a hA=>?_
 refine Vz 3 hA rfl rfl rfl (fun b w2 hB=>Zd hB (Xb func53 (by kernel_rfl) rfl hA.g2 hA.g1 hA.g0 rfl) h177 (Ti _ _ _ _ w2 hB.sees.sum)) fun a hA=>?_
 refine Vz 2 hA rfl rfl rfl (fun b w2 hB=>Zd hB (Vf func56 (by kernel_rfl) rfl hA.g1 hA.g0 rfl) h226 (Nx _ _ _ w2 hB.sees.sum)) fun a hA=>?_
 refine Yf hA rfl rfl (fun b w2 hB=>Zj hB (Yg (hA.lw r4 rfl) hB.b8)) fun a hA=>?_
 refine Yf hA rfl rfl (fun b w2 hB=>Zj hB (Yg (hA.lw r4 rfl) hB.b8)) fun a hA=>?_
 refine Yf hA rfl rfl (fun b w2 hB=>Xm hB (hA.lw r13 rfl)) fun a hA=>?_
 refine Yf hA rfl rfl (fun b w2 hB=>Zj hB (Za (f:=⟨_,_,_⟩) (hA.lw r5 rfl) hB.b7)) fun a hA=>?_
 refine Yf hA rfl rfl (fun b w2 hB=>Zj hB (Za (f:=⟨_,_,_⟩) (hA.lw r8 rfl) hB.b4)) fun a hA=>?_
 refine Vz 3 hA rfl rfl rfl (fun b w2 hB=>Zd hB (Xa func97 (by kernel_rfl) rfl hA.g2 hA.g1 hA.g0) h172 (Wq _ _ _ _ _ w2 hB.sees.sum hB.b8 hne)) fun a hA=>?_
 refine Yf hA rfl rfl (fun b w2 hB=>Xm hB (hA.lw r13 rfl)) fun a hA=>?_
 refine Yf hA rfl rfl (fun b w2 hB=>Zj hB (Za (f:=⟨_,_,_⟩) (hA.lw r6 rfl) hB.b6)) fun a hA=>?_
 refine Yf hA rfl rfl (fun b w2 hB=>Zj hB (Za (f:=⟨_,_,_⟩) (hA.lw r7 rfl) hB.b5)) fun a hA=>?_
 refine Vz 3 hA rfl rfl rfl (fun b w2 hB=>Zd hB (Xa func97 (by kernel_rfl) rfl hA.g2 hA.g1 hA.g0) h176 (Wq _ _ _ _ _ w2 hB.sees.sum hB.b8 hne)) fun a hA=>?_
 refine Vz 3 hA rfl rfl rfl (fun b w2 hB=>Zd hB (Xb func54 (by kernel_rfl) rfl hA.g2 hA.g1 hA.g0 rfl) h237 (Ue _ _ _ _ w2 hB.sees.sum)) fun a hA=>?_
 refine Vz 2 hA rfl rfl rfl (fun b w2 hB=>Zd hB (Vf func55 (by kernel_rfl) rfl hA.g1 hA.g0 rfl) h238 (Ny _ _ _ w2 hB.sees.sum)) fun a hA=>?_
 refine Jz (t:=239) (v:= .agg (Zm [v58,v70,v82,v94,v106,v118,v130,v142,v154,v166,v178,v190,v202,v214,v226,v238])) (L:=[]) 16 hA rfl rfl rfl (by decide) (by decide) rfl (fun b w2 hB=>Zj hB (Ztw (hA.get (58,_) (Tk 15 rfl)) (hA.get (70,_) (Tk 14 rfl)) (hA.get (82,_) (Tk 13 rfl)) (hA.get (94,_) (Tk 12 rfl)) (hA.get (106,_) (Tk 11 rfl)) (hA.get (118,_) (Tk 10 rfl)) (hA.get (130,_) (Tk 9 rfl)) (hA.get (142,_) (Tk 8 rfl)) (hA.get (154,_) (Tk 7 rfl)) (hA.get (166,_) (Tk 6 rfl)) (hA.get (178,_) (Tk 5 rfl)) (hA.get (190,_) (Tk 4 rfl)) (hA.get (202,_) (Tk 3 rfl)) hA.g2 hA.g1 hA.g0)) ?_;intro a hA;refine Jz (t:=240) (v:= .agg (Zm [v58,v70,v82,v94,v106,v118,v130,v142,v154,v166,v178,v190,v202,v214,v226,v238])) (L:=[]) 1 hA rfl rfl rfl (by decide) (by decide) rfl (fun b w2 hB=>Zj hB (Zpm hA.g0)) ?_;intro a hA;refine Zn ?_;have hv:=hA.get (240,_) (.head _);simp only at hv;refine⟨fun i hi=>?_,fun i hi=>?_,fun i hi=>?_,fun gg wy hz hbx hne2=>?_⟩
 ·obtain rfl:i=0:=by omega
  exact⟨_,rfl,Ztv⟩
 ·obtain rfl:i=0:=by omega
  refine⟨_,rfl,?_⟩;simp only;rw[hv];exact Xh (Yy rfl) rfl (Zb _) (fun _ _ _ hg h=>h.setRow hg _)
 ·show 15<_;rw[hA.size];decide
 obtain⟨hgg,hbt⟩:=hbx 0 (by omega);simp only at hbt hgg;refine(show wpList _ _ _ ([]:List Oper) (Act.put a (some 15) (.pointer (some ⟨gg 0,0,none⟩))) wy from ?_);clear hbx hne2;go_upto_region 7 with fail;have hS3:=InS.join hS2 hz;obtain⟨e0,he0,hS4⟩:∃e0,e0=_∧Zl w wy W0.heap.size e0 _:=⟨_,rfl,hS3⟩
 have hT:Nw (⟨a1,a2,a3⟩:Fr) (⟨b1,b2,b3⟩:Fr) (⟨c1,c2,c3⟩:Fr) (⟨d1,d2,d3⟩:Fr) (⟨pa1,pa2,pa3⟩:Fr) (⟨pb1,pb2,pb3⟩:Fr) (⟨pc1,pc2,pc3⟩:Fr) (⟨pd1,pd2,pd3⟩:Fr)=[(v58,k58),(v70,k70),(v82,k82),(v94,k94),(v106,k106),(v118,k118),(v130,k130),(v142,k142),(v154,k154),(v166,k166),(v178,k178),(v190,k190),(v202,k202),(v214,k214),(v226,k226),(v238,k238)]:=by simp only[Nw,h53,h55,h57,h58,h65,h67,h69,h70,h76,h80,h81,h82,h88,h92,h93,h94,h103,h105,h106,h115,h117,h118,h129,h130,h141,h142,h148,h152,h153,h154,h165,h166,h172,h176,h177,h178,h189,h190,h202,h214,h226,h237,h238]
 have hF:Has 246 0 r (Act.put a (some 15) (.pointer (some ⟨(gg 0),0,none⟩))) [(15, .pointer (some ⟨(gg 0),0,none⟩)),(4, .pointer (some ⟨wn.heap.size,0,none⟩)),(2, .pointer (some ⟨(w.heap.size+1),0,none⟩))]:=by
  refine⟨by rw[Act.size_put];exact hA.size,fun t ht=>absurd ht (Nat.not_lt_zero t),fun x hx=>?_,by rw[Act.defers_put'];exact hA.def0⟩;simp only[List.mem_cons,List.not_mem_nil,or_false] at hx;rcases hx with rfl|rfl|rfl
  ·exact Act.eval_put_same _ _ _ (by rw[hA.size];decide)
  ·exact(Act.eval_put_ne _ _ _ _ (show(15:Nat)≠4 by decide)).trans ((hA.low 4 (by decide)).trans r4)
  ·exact(Act.eval_put_ne _ _ _ _ (show(15:Nat)≠2 by decide)).trans ((hA.low 2 (by decide)).trans r2)
 generalize Act.put a (some 15) (.pointer (some ⟨(gg 0),0,none⟩))=aF at hF ⊢;have bRes:=hS4.boxes.2.2.2.2.2.2.2.2.2.1;have bPs:=hS4.boxes.2.2.2.2.2.2.2.2.1;rcases e0 with _|_
 ·have hcond:(mv&&List.all [(v58,k58),(v70,k70),(v82,k82),(v94,k94),(v106,k106),(v118,k118),(v130,k130),(v142,k142),(v154,k154),(v166,k166),(v178,k178),(v190,k190),(v202,k202),(v214,k214),(v226,k226),(v238,k238)] (·.2))=true:=by
   have he1:=he0.symm;simp only[Bool.or_eq_false_iff,Bool.not_eq_eq_eq_not,Bool.not_false] at he1;obtain⟨⟨⟨⟨⟨⟨⟨⟨⟨⟨⟨⟨⟨⟨⟨⟨⟨⟨⟨⟨⟨⟨⟨⟨⟨⟨⟨⟨⟨⟨⟨⟨⟨⟨⟨⟨⟨⟨⟨⟨⟨⟨⟨⟨⟨⟨⟨⟨⟨⟨⟨⟨⟨⟨⟨⟨⟨⟨⟨⟨⟨⟨⟨⟨⟨⟨⟨⟨q_mv,q_a⟩,q_b⟩,q_c⟩,q_d⟩,q53⟩,q55⟩,q57⟩,q58⟩,q65⟩,q67⟩,q69⟩,q70⟩,q76⟩,q80⟩,q81⟩,q82⟩,q88⟩,q92⟩,q93⟩,q94⟩, -⟩,q103⟩,q105⟩,q106⟩, -⟩,q115⟩,q117⟩,q118⟩, -⟩, -⟩,q129⟩,q130⟩, -⟩, -⟩,q141⟩,q142⟩,q148⟩,q152⟩,q153⟩,q154⟩, -⟩, -⟩,q165⟩,q166⟩,q172⟩,q176⟩,q177⟩,q178⟩, -⟩, -⟩,q189⟩,q190⟩, -⟩, -⟩, -⟩,q202⟩, -⟩, -⟩, -⟩,q214⟩, -⟩, -⟩, -⟩,q226⟩, -⟩, -⟩,q237⟩,q238⟩:=he1;simp only[List.all_cons,List.all_nil,q_mv,q106,q118,q130,q142,q154,q166,q178,q190,q202,q214,q226,q238,q58,q70,q82,q94,Bool.and_self,Bool.and_true]
  have HC:=Zz hcond;have HT:=Zz hT;clear hcond hT he0;refine wp_region_lit ?_;refine Sg (t:=241) (v:= .pointer (some ⟨W0.heap.size,0,none⟩)) (G:=fun w2=>w2=wy) (L:=[(15, .pointer (some ⟨(gg 0),0,none⟩)),(4, .pointer (some ⟨wn.heap.size,0,none⟩)),(2, .pointer (some ⟨(w.heap.size+1),0,none⟩))]) 0 hF rfl rfl rfl (by decide) (by decide) rfl (Tu (Yg (hF.get (4,_) (.tail _ (.head _))) bPs) ⟨rfl,rfl⟩) ?_;rintro a w2 hA1 rfl;refine Sg (t:=242) (v:= .agg (Zm [v58,v70,v82,v94,v106,v118,v130,v142,v154,v166,v178,v190,v202,v214,v226,v238])) (G:=fun w3=>w3=w2) (L:=[(241, .pointer (some ⟨W0.heap.size,0,none⟩)),(15, .pointer (some ⟨(gg 0),0,none⟩)),(4, .pointer (some ⟨wn.heap.size,0,none⟩)),(2, .pointer (some ⟨(w.heap.size+1),0,none⟩))]) 0 hA1 rfl rfl rfl (by decide) (by decide) rfl (Tu (Gp (hA1.get (15,_) (.tail _ (.head _))) hbt underlying85 rfl (Yy rfl)) ⟨rfl,rfl⟩) ?_;rintro a w3 hA2 rfl;refine Sg (t:=243) (v:= .tuple #[.agg (Zm [v58,v70,v82,v94,v106,v118,v130,v142,v154,v166,v178,v190,v202,v214,v226,v238]),true]) (G:=fun w4=>Ex w3 w4) (L:=[(4, .pointer (some ⟨wn.heap.size,0,none⟩)),(2, .pointer (some ⟨(w.heap.size+1),0,none⟩))]) 3 hA2 rfl rfl rfl (by decide) (by decide) rfl (Ln (Vf func100 (by kernel_rfl) rfl (hA2.get (241,_) (.tail _ (.head _))) (hA2.get (242,_) (.head _)) rfl) (Jx _ _ rfl (Zb _) w3 hS4.sum) (fun e w4 hh=>⟨_,hh.1,rfl,hh.2⟩)) ?_;rintro a w4 hA3 hx4;refine Sg (t:=244) (v:= .agg (Zm [v58,v70,v82,v94,v106,v118,v130,v142,v154,v166,v178,v190,v202,v214,v226,v238])) (G:=fun w5=>w5=w4) (L:=[(243, .tuple #[.agg (Zm [v58,v70,v82,v94,v106,v118,v130,v142,v154,v166,v178,v190,v202,v214,v226,v238]),true]),(4, .pointer (some ⟨wn.heap.size,0,none⟩)),(2, .pointer (some ⟨(w.heap.size+1),0,none⟩))]) 0 hA3 rfl rfl rfl (by decide) (by decide) rfl (Tu (Ztu (hA3.get (243,_) (.head _))) ⟨rfl,rfl⟩) ?_;rintro a w5 hA4 rfl;refine Sg (t:=245) (v:= .bool true) (G:=fun w6=>w6=w5) (L:=[(244, .agg (Zm [v58,v70,v82,v94,v106,v118,v130,v142,v154,v166,v178,v190,v202,v214,v226,v238])),(243, .tuple #[.agg (Zm [v58,v70,v82,v94,v106,v118,v130,v142,v154,v166,v178,v190,v202,v214,v226,v238]),true]),(4, .pointer (some ⟨wn.heap.size,0,none⟩)),(2, .pointer (some ⟨(w.heap.size+1),0,none⟩))]) 0 hA4 rfl rfl rfl (by decide) (by decide) rfl (Tu (Ztt (hA4.get (243,_) (.tail _ (.head _)))) ⟨rfl,rfl⟩) ?_;rintro a w6 hA5 rfl;refine Lo (G:=fun w7=>w7=w6.setRow (w.heap.size+1) (Zm [v58,v70,v82,v94,v106,v118,v130,v142,v154,v166,v178,v190,v202,v214,v226,v238])) rfl rfl (Jy (Il (hA5.get (2,_) (Tk 4 rfl)) (hA5.get (244,_) (.tail _ (.head _))) (bRes.ex hx4) (Yy rfl) (Yk.trans rfl) (Zb _)) rfl) ?_;rintro w7 rfl;refine Sg (t:=3) (v:= .bool true) (G:=fun w8=>w8=w6.setRow (w.heap.size+1) (Zm [v58,v70,v82,v94,v106,v118,v130,v142,v154,v166,v178,v190,v202,v214,v226,v238])) (L:=[(245, .bool true),(244, .agg (Zm [v58,v70,v82,v94,v106,v118,v130,v142,v154,v166,v178,v190,v202,v214,v226,v238])),(243, .tuple #[.agg (Zm [v58,v70,v82,v94,v106,v118,v130,v142,v154,v166,v178,v190,v202,v214,v226,v238]),true]),(4, .pointer (some ⟨wn.heap.size,0,none⟩)),(2, .pointer (some ⟨(w.heap.size+1),0,none⟩))]) 0 hA5 rfl rfl rfl (by decide) (by decide) rfl (Im (hA5.get (245,_) (.head _)) ⟨rfl,rfl⟩) ?_;rintro a8 w8 hA6 rfl;refine wpList_nil ?_;go_wp2_with fail;have e2:a8.tmps.getD 2 undef= .pointer (some ⟨(w.heap.size+1),0,none⟩):=hA6.get (2,_) (Tk 5 rfl);have e3:a8.tmps.getD 3 undef= .bool true:=hA6.get (3,_) (.head _);have hres:=Ze (P:=prog) results39 a8.tmps _ _ _ _ (0,0) _ e2 ((bRes.ex hx4).setRow ((Zm [v58,v70,v82,v94,v106,v118,v130,v142,v154,v166,v178,v190,v202,v214,v226,v238]))) underlying85 rfl (Yy rfl);rw[e3] at hres;refine Zu hres hA6.def0 ⟨?_,((hS4.rel hle).trans hx4).setRow (Nat.le_succ _) _⟩;rw[HR.out,HT.out,if_pos HC.out];rfl
 ·have hcond:¬(mv&&List.all [(v58,k58),(v70,k70),(v82,k82),(v94,k94),(v106,k106),(v118,k118),(v130,k130),(v142,k142),(v154,k154),(v166,k166),(v178,k178),(v190,k190),(v202,k202),(v214,k214),(v226,k226),(v238,k238)] (·.2))=true:=by
   intro hall;simp only[List.all_cons,List.all_nil,Bool.and_eq_true,Bool.and_true] at hall;obtain⟨q_mv,q58,q70,q82,q94,q106,q118,q130,q142,q154,q166,q178,q190,q202,q214,q226,q238⟩:=hall;have q237:=Us h237 Ut (Zpk h238 q238);have q172:=Us h172 Su (Ll h237 q237);have q176:=Us h176 Su (Fe h237 q237);have q177:=Us h177 Uu (Fd h226 q226);have q165:=Us h165 Ut (Fd h214 q214);have q153:=Us h153 Uu (Fd h202 q202);have q189:=Us h189 Ut (Fd h190 q190);have q148:=Us h148 Su (Ll h165 q165);have q152:=Us h152 Su (Fe h165 q165);have q141:=Us h141 Ut (Fd h142 q142);have q88:=Us h88 Su (Ll h141 q141);have q92:=Us h92 Su (Fe h141 q141);have q129:=Us h129 Ut (Zpk h130 q130);have q76:=Us h76 Su (Ll h129 q129);have q80:=Us h80 Su (Fe h129 q129);have q117:=Us h117 Uu (Zxd h118 q118);have q115:=Us h115 Ut (Zbv h117 q117);have q_d:=Us HD.out Uk (add_r h117 q117);have q65:=Us h65 Ut (Ll h115 q115);have q_c:=Us HC.out Uk (Fe h115 q115);have q105:=Us h105 Ut (Zxd h106 q106);have q103:=Us h103 Ut (Ll h105 q105);have q53:=Us h53 Uu (Ll h103 q103);have q93:=Us h93 Uu (Fd h94 q94);have q81:=Us h81 Uu (Zpk h82 q82);have q69:=Us h69 Ut (Zxd h70 q70);have q67:=Us h67 Uu (Ll h69 q69);have q_a:=Us HA.out Uk (Ll h65 q65);have q_b:=Us HB.out Uk (Fe h65 q65);have q57:=Us h57 Uu (Zxd h58 q58);have q55:=Us h55 Uu (Zbv h57 q57);simp only[q_mv,q_a,q_b,q_c,q_d,q53,q55,q57,q58,q65,q67,q69,q70,q76,q80,q81,q82,q88,q92,q93,q94,q103,q105,q106,q115,q117,q118,q129,q130,q141,q142,q148,q152,q153,q154,q165,q166,q172,q176,q177,q178,q189,q190,q202,q214,q226,q237,q238,Bool.not_true,Bool.or_false,Bool.or_self] at he0;cases he0
  have HC:=Zz hcond;have HT:=Zz hT;clear hcond hT he0;refine wp_region_lit ?_;refine Sg (t:=241) (v:= .pointer (some ⟨W0.heap.size,0,none⟩)) (G:=fun w2=>w2=wy) (L:=[(15, .pointer (some ⟨(gg 0),0,none⟩)),(4, .pointer (some ⟨wn.heap.size,0,none⟩)),(2, .pointer (some ⟨(w.heap.size+1),0,none⟩))]) 0 hF rfl rfl rfl (by decide) (by decide) rfl (Tu (Yg (hF.get (4,_) (.tail _ (.head _))) bPs) ⟨rfl,rfl⟩) ?_;rintro a w2 hA1 rfl;refine Sg (t:=242) (v:= .agg (Zm [v58,v70,v82,v94,v106,v118,v130,v142,v154,v166,v178,v190,v202,v214,v226,v238])) (G:=fun w3=>w3=w2) (L:=[(241, .pointer (some ⟨W0.heap.size,0,none⟩)),(15, .pointer (some ⟨(gg 0),0,none⟩)),(4, .pointer (some ⟨wn.heap.size,0,none⟩)),(2, .pointer (some ⟨(w.heap.size+1),0,none⟩))]) 0 hA1 rfl rfl rfl (by decide) (by decide) rfl (Tu (Gp (hA1.get (15,_) (.tail _ (.head _))) hbt underlying85 rfl (Yy rfl)) ⟨rfl,rfl⟩) ?_;rintro a w3 hA2 rfl;refine Sg (t:=243) (v:= .tuple #[.agg Z48,false]) (G:=fun w4=>Ex w3 w4) (L:=[(4, .pointer (some ⟨wn.heap.size,0,none⟩)),(2, .pointer (some ⟨(w.heap.size+1),0,none⟩))]) 3 hA2 rfl rfl rfl (by decide) (by decide) rfl (Ln (Vf func100 (by kernel_rfl) rfl (hA2.get (241,_) (.tail _ (.head _))) (hA2.get (242,_) (.head _)) rfl) (Ik _ _ rfl (Zb _) w3 hS4.sum) (fun e w4 hh=>⟨_,hh.1,rfl,hh.2⟩)) ?_;rintro a w4 hA3 hx4;refine Sg (t:=244) (v:= .agg Z48) (G:=fun w5=>w5=w4) (L:=[(243, .tuple #[.agg Z48,false]),(4, .pointer (some ⟨wn.heap.size,0,none⟩)),(2, .pointer (some ⟨(w.heap.size+1),0,none⟩))]) 0 hA3 rfl rfl rfl (by decide) (by decide) rfl (Tu (Ztu (hA3.get (243,_) (.head _))) ⟨rfl,rfl⟩) ?_;rintro a w5 hA4 rfl;refine Sg (t:=245) (v:= .bool false) (G:=fun w6=>w6=w5) (L:=[(244, .agg Z48),(243, .tuple #[.agg Z48,false]),(4, .pointer (some ⟨wn.heap.size,0,none⟩)),(2, .pointer (some ⟨(w.heap.size+1),0,none⟩))]) 0 hA4 rfl rfl rfl (by decide) (by decide) rfl (Tu (Ztt (hA4.get (243,_) (.tail _ (.head _)))) ⟨rfl,rfl⟩) ?_;rintro a w6 hA5 rfl;refine Lo (G:=fun w7=>w7=w6.setRow (w.heap.size+1) Z48) rfl rfl (Jy (Il (hA5.get (2,_) (Tk 4 rfl)) (hA5.get (244,_) (.tail _ (.head _))) (bRes.ex hx4) (Yy Yk) (Yk.trans rfl) Wi) rfl) ?_;rintro w7 rfl;refine Sg (t:=3) (v:= .bool false) (G:=fun w8=>w8=w6.setRow (w.heap.size+1) Z48) (L:=[(245, .bool false),(244, .agg Z48),(243, .tuple #[.agg Z48,false]),(4, .pointer (some ⟨wn.heap.size,0,none⟩)),(2, .pointer (some ⟨(w.heap.size+1),0,none⟩))]) 0 hA5 rfl rfl rfl (by decide) (by decide) rfl (Im (hA5.get (245,_) (.head _)) ⟨rfl,rfl⟩) ?_;rintro a8 w8 hA6 rfl;refine wpList_nil ?_;go_wp2_with fail;have e2:a8.tmps.getD 2 undef= .pointer (some ⟨(w.heap.size+1),0,none⟩):=hA6.get (2,_) (Tk 5 rfl);have e3:a8.tmps.getD 3 undef= .bool false:=hA6.get (3,_) (.head _);have hres:=Ze (P:=prog) results39 a8.tmps _ _ _ _ (0,0) _ e2 ((bRes.ex hx4).setRow (Z48)) underlying85 rfl (Yy Yk);rw[e3] at hres;refine Zu hres hA6.def0 ⟨?_,((hS4.rel hle).trans hx4).setRow (Nat.le_succ _) _⟩;rw[HR.out,HT.out,if_neg HC.out];rfl
end
section
theorem Ml{s:Int}{a b:Fr}(h:(Xr s a b).2=false):(Xr s a b).1=Fr.none:=by
 unfold Xr at h ⊢;split at h
 ·rename_i hv;rw[if_pos hv];exact De h
 ·rename_i hv;rw[if_neg hv]
theorem Ss{s:Int}{a b:Fr}(h:(Xr s a b).2=true):a.valid=true∧b.valid=true:=by
 unfold Xr at h;split at h
 ·rename_i hv;simpa using hv
 ·cases h
theorem Ca{s:Int}{a b:Fr}(h:(Xr s a b).2=true):(Xr s a b).1.valid=true:=by
 obtain⟨h1,h2⟩:=Ss h;have e:Xr s a b=flow (a.re*b.den+s*b.re*a.den) (a.im*b.den+s*b.im*a.den) (a.den*b.den):=by unfold Xr;rw[h1,h2];rfl
 rw[e] at h ⊢;obtain⟨-, -,⟨ad, -⟩, -⟩:=Fr.valid_out h1;obtain⟨-, -,⟨bd, -⟩, -⟩:=Fr.valid_out h2;exact Nk (Pe ad bd) h
theorem Zxc{s:Int}{a b:Fr}(h:(Xr s a b).2=true)(h1:a.im=0)(h2:b.im=0):(Xr s a b).1.im=0:=by
 obtain⟨v1,v2⟩:=Ss h;have e:Xr s a b=flow (a.re*b.den+s*b.re*a.den) (a.im*b.den+s*b.im*a.den) (a.den*b.den):=by unfold Xr;rw[v1,v2];rfl
 rw[e,h1,h2];have e2:0*b.den+s*0*a.den=0:=by simp
 rw[e2];exact Mp
theorem Zpj(x:Fr):Yr x x=Zc x:=by
 rw[Gt];unfold Yr;rcases h:(Yq x).2 with _|_
 ·rw[Lt h,Cn Vc];rfl
 ·rfl
theorem Lk{x:Fr}(h:(Zc x).2=true):(Zc x).1.valid=true∧(Zc x).1.im=0:=Zxk h
theorem Zkp{x:Fr}(h:(Zc x).2=false):(Zc x).1=Fr.none:=by
 unfold Zc at h ⊢;split at h
 ·rename_i hv;rw[if_pos hv];exact De h
 ·rename_i hv;rw[if_neg hv]
theorem Zpi{x:Fr}(h:x.valid=false):(Qb x).2=false:=by
 unfold Qb;rw[Fk h]
theorem Zph{a:Fr}(h:a.valid=true)(hi:a.im=0):Ua a 2 false=Qb a:=by
 obtain⟨-, -,⟨ad, -⟩, -⟩:=Fr.valid_out h;have e1:Mo ⟨2,0,1⟩=(⟨1,0,2⟩,true):=by decide
 have v2:(⟨2,0,1⟩:Fr).valid=true:=by decide
 have v3:(⟨1,0,2⟩:Fr).valid=true:=by decide
 have hn:Fp ⟨2,0,1⟩=false:=by decide
 unfold Qb Sa;rw[h,v2,hn,e1];simp only[Bool.not_false,Bool.and_self,if_true];unfold Zk Ua;rw[h,v3,hi];simp only[Bool.and_self,if_true,Bool.false_eq_true,if_false];rw[Int.max_eq_right ad];congr 1<;>simp
theorem Zhm{a:Fr}(h:a.valid=true):Ua a 1 false=Vh a:=by
 obtain⟨-, -,⟨ad, -⟩, -⟩:=Fr.valid_out h;unfold Vh Ua;rw[h,Int.max_eq_right ad,Int.mul_one];rfl
theorem Zhl{a:Fr}(h:a.valid=true):Ua a 1 true=Vg a:=by
 obtain⟨-, -,⟨ad, -⟩, -⟩:=Fr.valid_out h;unfold Vg Ua;rw[h,Int.max_eq_right ad,Int.mul_one];rfl
def Alk(x y:Fr×Bool):Prop:=x.2=y.2∧(y.2=true→x.1=y.1)
theorem Gn(s1 s2 s3:Int)(a b c d:Fr):Alk (Ff s1 s2 s3 a b c d) (Qb (Xr s3 (Xr s2 (Xr s1 (Zc a).1 (Zc b).1).1 (Zc c).1).1 (Zc d).1).1):=by
 unfold Ff;simp only[Zpj];rcases h3:(Xr s3 (Xr s2 (Xr s1 (Zc a).1 (Zc b).1).1 (Zc c).1).1 (Zc d).1).2 with _|_
 ·have e:=Zpi (x:=(Xr s3 (Xr s2 (Xr s1 (Zc a).1 (Zc b).1).1 (Zc c).1).1 (Zc d).1).1) (by rw[Ml h3];exact Vc);refine⟨?_,fun h=>?_⟩
  ·rw[e];simp
  ·rw[e] at h;cases h
 ·obtain⟨v2,vd⟩:=Ss h3;have vs:=Ca h3;have h2:(Xr s2 (Xr s1 (Zc a).1 (Zc b).1).1 (Zc c).1).2=true:=by
   cases h:(Xr s2 (Xr s1 (Zc a).1 (Zc b).1).1 (Zc c).1).2 with
   |true=>rfl
   |false=>rw[Ml h,Vc] at v2;cases v2
  obtain⟨v1,vc⟩:=Ss h2;have h1:(Xr s1 (Zc a).1 (Zc b).1).2=true:=by
   cases h:(Xr s1 (Zc a).1 (Zc b).1).2 with
   |true=>rfl
   |false=>rw[Ml h,Vc] at v1;cases v1
  obtain⟨va,vb⟩:=Ss h1;have pw:∀x:Fr,(Zc x).1.valid=true→(Zc x).2=true:=fun x hx=>by
   cases h:(Zc x).2 with
   |true=>rfl
   |false=>rw[Zkp h,Vc] at hx;cases hx
  have ka:=pw a va;have kb:=pw b vb;have kc:=pw c vc;have kd:=pw d vd;have hi:=Zxc h3 (Zxc h2 (Zxc h1 (Lk ka).2 (Lk kb).2) (Lk kc).2) (Lk kd).2;rw[Zph vs hi];refine⟨?_,fun _=>rfl⟩;rw[ka,kb,kc,kd,h1,h2];simp
theorem Tq(s:Int)(a b c d:Fr):Alk (Uw s false a b c d) (Vh (Xr s (Yr a b).1 (Yr c d).1).1)∧Alk (Uw s true a b c d) (Vg (Xr s (Yr a b).1 (Yr c d).1).1):=by
 unfold Uw;rcases h1:(Xr s (Yr a b).1 (Yr c d).1).2 with _|_
 ·have e1:(Vh (Xr s (Yr a b).1 (Yr c d).1).1).2=false:=by rw[Ml h1];rfl
  have e2:(Vg (Xr s (Yr a b).1 (Yr c d).1).1).2=false:=by rw[Ml h1];rfl
  refine⟨⟨?_,fun h=>?_⟩,⟨?_,fun h=>?_⟩⟩
  ·rw[e1];simp
  ·rw[e1] at h;cases h
  ·rw[e2];simp
  ·rw[e2] at h;cases h
 ·obtain⟨va,vb⟩:=Ss h1;have vs:=Ca h1;have pw:∀x y:Fr,(Yr x y).1.valid=true→(Yr x y).2=true:=fun x y hx=>by
   cases h:(Yr x y).2 with
   |true=>rfl
   |false=>rw[Su h,Vc] at hx;cases hx
  rw[pw a b va,pw c d vb,Zhm vs,Zhl vs];exact⟨⟨by simp,fun _=>rfl⟩,⟨by simp,fun _=>rfl⟩⟩
def Bz(a b c d:Fr):List (Fr×Bool):=[Ff 1 1 1 a b c d,Ff (-1) 1 (-1) a b c d,Uw 1 false a b c d,Uw 1 true b a d c,
 Ff 1 (-1) (-1) a b c d,Ff (-1) (-1) 1 a b c d,Uw (-1) false a b c d,Uw (-1) true b a d c,
 Uw 1 false a c b d,Uw (-1) false a c b d,Uw 1 false a d b c,Uw (-1) true b c a d,
 Uw 1 true a c b d,Uw (-1) true a c b d,Uw 1 true a d b c,Uw (-1) false a d b c]
inductive Zko:List (Fr×Bool)→List (Fr×Bool)→Prop
 |nil:Zko [] []
 |cons {x y:Fr×Bool} {l m:List (Fr×Bool)} (h:Alk x y) (t:Zko l m):Zko (x::l) (y::m)
theorem Zko.all{l m:List (Fr×Bool)}(h:Zko l m):l.all (·.2)=m.all (·.2)∧(m.all (·.2)=true→l.map (·.1)=m.map (·.1)):=by
 induction h with
 |nil=>exact⟨rfl,fun _=>rfl⟩
 |cons h t ih=>
  refine⟨?_,fun hm=>?_⟩
  ·simp only[List.all_cons,h.1,ih.1]
  ·simp only[List.all_cons,Bool.and_eq_true] at hm;simp only[List.map_cons,h.2 hm.1,ih.2 hm.2]
theorem Zts(a b c d:Fr):Zko (Bz a b c d) (Nw a b c d (Zc a).1 (Zc b).1 (Zc c).1 (Zc d).1):=by
 unfold Bz Nw;simp only[←Gu,←Zzj];exact .cons (Gn ..) (.cons (Gn ..) (.cons (Tq ..).1 (.cons (Tq ..).2 (.cons (Gn ..) (.cons (Gn ..) (.cons (Tq ..).1 (.cons (Tq ..).2
  (.cons (Tq ..).1 (.cons (Tq ..).1 (.cons (Tq ..).1 (.cons (Tq ..).2 (.cons (Tq ..).2 (.cons (Tq ..).2 (.cons (Tq ..).2 (.cons (Tq ..).1 .nil)))))))))))))))
theorem Zdo(m:M4):(if m.valid&&(Bz m.a m.b m.c m.d).all (·.2) then ((Bz m.a m.b m.c m.d).map (·.1),true) else (Wt 16,false))=Vv m:=by
 unfold Vv;obtain⟨h1,h2⟩:=(Zts m.a m.b m.c m.d).all;rw[h1];split
 ·rename_i h;rw[h2 (by simp only[Bool.and_eq_true] at h;exact h.2)]
 ·rfl
theorem Zzb(f:Fr):∀(l:List Fr) (i:Nat),(((l.flatMap Pd).set (3*i) (f.re)).set (3*i+1) (f.im)).set (3*i+2) (f.den)=(l.set i f).flatMap Pd
 |[],i=>by simp
 |x::l,0=>by simp[Pd]
 |x::l,i+1=>by
  have ih:=Zzb f l i
  rw[show 3*(i+1)=3*i+3 by omega,show 3*i+3+1=3*i+1+3 by omega,show 3*i+3+2=3*i+2+3 by omega]
  simp only[List.flatMap_cons,Pd,List.cons_append,List.nil_append,Zv]
  rw[←ih]
theorem Hp(l:List Fr)(i:Nat)(x y z:Int):(((Zm l).setIfInBounds (3*i) (x)).setIfInBounds (3*i+1) (y)).setIfInBounds (3*i+2) (z)=Zm (l.set i ⟨x,y,z⟩):=by
 unfold Zm;rw[←Zzb ⟨x,y,z⟩ l i];simp
end
section
open Go.RowKit

section
variable {w:World} {dst:Option Tmp} {ty:TypeId} {pos:String} {after:Array Edge} {ρ:Operand→Value} {x y:Operand} {g o:Nat} {u v z:Int} {p0 p1 p2:Value}
theorem Hn(hx:ρ x= .pointer (some ⟨g,o,none⟩))(hy:ρ y= .agg #[u,v,z])(q0:w.cell? ⟨g,o,none⟩=some p0)(q1:w.cell? ⟨g,o+1,none⟩=some p1)(q2:w.cell? ⟨g,o+2,none⟩=some p2)(qf:∀i,w.frozen? ⟨g,i,none⟩=false){guard:Option (Nat×Bool)}:
  (execOp ρ {dst:=dst,op:= .store 30 x y,type:=ty,pos:=pos,after:=after,guard:=guard}).run prog w= .ok .skip (((w.setCell ⟨g,o,none⟩ (u)).setCell ⟨g,o+1,none⟩ (v)).setCell ⟨g,o+2,none⟩ (z)):=by
 simp[execOp,go_sem,hx,hy,q0,q1,q2,qf]
end
theorem Lg:∀(l:List Fr) (i:Nat),i<l.length→∃p0 p1 p2,(l.flatMap Pd)[3*i]? =some p0∧(l.flatMap Pd)[3*i+1]? =some p1∧(l.flatMap Pd)[3*i+2]? =some p2
 |[],i,h=>by simp at h
 |x::l,0,h=>⟨_,_,_,by simp[Pd];rfl,by simp[Pd];rfl,by simp[Pd];rfl⟩
 |x::l,i+1,h=>by
  have ih:=Lg l i (by simpa using h)
  rw[show 3*(i+1)=3*i+3 by omega,show 3*i+3+1=3*i+1+3 by omega,show 3*i+3+2=3*i+2+3 by omega]
  simpa [Pd] using ih
theorem Zh.setF{W w:World}{bs g:Nat}{b:Bool}{t:TypeId}{l:List Fr}{L:Xx}(h:Zh W w bs b ((g,t,Zm l)::L))(hg:W.heap.size≤g)(hne:∀x∈L,x.1≠g)(i:Nat)(x y z:Int):
  Zh W (((w.setCell ⟨g,3*i,none⟩ (x)).setCell ⟨g,3*i+1,none⟩ (y)).setCell ⟨g,3*i+2,none⟩ (z)) bs b ((g,t,Zm (l.set i ⟨x,y,z⟩))::L):=by
 have hb:g≠bs:=h.far _ (.head _);refine⟨((h.sm.setNew (p:=⟨g,_,none⟩) hg _).setNew (p:=⟨g,_,none⟩) hg _).setNew (p:=⟨g,_,none⟩) hg _,((h.sum.far (p:=⟨g,_,none⟩) (Ne.symm hb) _).far (p:=⟨g,_,none⟩) (Ne.symm hb) _).far (p:=⟨g,_,none⟩) (Ne.symm hb) _,⟨?_,?_⟩,fun v hv=>?_⟩
 ·have h2:=((h.boxes.1.set_ (3*i) (x)).set_ (3*i+1) (y)).set_ (3*i+2) (z);rw[Hp] at h2;exact h2
 ·have:∀{M:Xx},(∀v∈M,v.1≠g)→Xy w M→Xy (((w.setCell ⟨g,3*i,none⟩ (x)).setCell ⟨g,3*i+1,none⟩ (y)).setCell ⟨g,3*i+2,none⟩ (z)) M:=by
   intro M;induction M with
   |nil=>exact fun _ _=>trivial
   |cons v M ih=>exact fun hv hB=>⟨((hB.1.far (p:=⟨g,_,none⟩) (hv _ (.head _)) _).far (p:=⟨g,_,none⟩) (hv _ (.head _)) _).far (p:=⟨g,_,none⟩) (hv _ (.head _)) _,ih (fun u hu=>hv u (.tail _ hu)) hB.2⟩
  exact this hne h.boxes.2
 ·rcases List.mem_cons.1 hv with rfl|hv
  ·exact hb
  ·exact h.far v (.tail _ hv)
theorem Zl.setF{W w:World}{bs g:Nat}{b:Bool}{t:TypeId}{l:List Fr}{L:Xx}(h:Zl W w bs b ((g,t,Zm l)::L))(hg:W.heap.size≤g)(hne:∀x∈L,x.1≠g)(i:Nat)(x y z:Int):
  Zl W (((w.setCell ⟨g,3*i,none⟩ (x)).setCell ⟨g,3*i+1,none⟩ (y)).setCell ⟨g,3*i+2,none⟩ (z)) bs b ((g,t,Zm (l.set i ⟨x,y,z⟩))::L):=by
 have hb:g≠bs:=h.far _ (.head _);refine⟨((h.sm.setNew (p:=⟨g,_,none⟩) hg _).setNew (p:=⟨g,_,none⟩) hg _).setNew (p:=⟨g,_,none⟩) hg _,((h.sum.far (p:=⟨g,_,none⟩) (Ne.symm hb) _).far (p:=⟨g,_,none⟩) (Ne.symm hb) _).far (p:=⟨g,_,none⟩) (Ne.symm hb) _,⟨?_,?_⟩,fun v hv=>?_⟩
 ·have h2:=((h.boxes.1.set_ (3*i) (x)).set_ (3*i+1) (y)).set_ (3*i+2) (z);rw[Hp] at h2;exact h2
 ·have:∀{M:Xx},(∀v∈M,v.1≠g)→Xy w M→Xy (((w.setCell ⟨g,3*i,none⟩ (x)).setCell ⟨g,3*i+1,none⟩ (y)).setCell ⟨g,3*i+2,none⟩ (z)) M:=by
   intro M;induction M with
   |nil=>exact fun _ _=>trivial
   |cons v M ih=>exact fun hv hB=>⟨((hB.1.far (p:=⟨g,_,none⟩) (hv _ (.head _)) _).far (p:=⟨g,_,none⟩) (hv _ (.head _)) _).far (p:=⟨g,_,none⟩) (hv _ (.head _)) _,ih (fun u hu=>hv u (.tail _ hu)) hB.2⟩
  exact this hne h.boxes.2
 ·rcases List.mem_cons.1 hv with rfl|hv
  ·exact hb
  ·exact h.far v (.tail _ hv)
theorem Zl.tail{W w:World}{bs:Nat}{b:Bool}{x:Nat×TypeId×Av}{L:Xx}(h:Zl W w bs b (x::L)):Zl W w bs b L:=⟨h.sm,h.sum,h.boxes.2,fun y hy=>h.far y (.tail _ hy)⟩
theorem Zh.tail{W w:World}{bs:Nat}{b:Bool}{x:Nat×TypeId×Av}{L:Xx}(h:Zh W w bs b (x::L)):Zh W w bs b L:=⟨h.sm,h.sum,h.boxes.2,fun y hy=>h.far y (.tail _ hy)⟩
theorem Ot{w:World}{g:Nat}{x:Av}:∀{L:Xx},(∀y∈L,y.1≠g)→Xy w L→Xy (w.setRow g x) L
 |[],_,_=>trivial
 |y::L,h,hb=>⟨hb.1.setRow_far (h y (.head _)) x,Ot (fun z hz=>h z (.tail _ hz)) hb.2⟩
theorem Zh.setRow{W w:World}{bs g:Nat}{b:Bool}{t:TypeId}{y:Av}{L:Xx}(h:Zh W w bs b ((g,t,y)::L))(hg:W.heap.size≤g)(hne:∀x∈L,x.1≠g)(x:Av):Zh W (w.setRow g x) bs b ((g,t,x)::L):=
 ⟨h.sm.setRow hg x,h.sum.setRow_far (Ne.symm (h.far _ (.head _))) x,⟨h.boxes.1.setRow x,Ot hne h.boxes.2⟩,fun v hv=>by
  rcases List.mem_cons.1 hv with rfl|hv
  ·exact h.far (g,t,y) (.head _)
  ·exact h.far v (.tail _ hv)⟩
theorem Zl.set3{W w:World}{bs g:Nat}{b:Bool}{t:TypeId}{p q r:Value}{L:Xx}(h:Zl W w bs b ((g,t,#[p,q,r])::L))(hg:W.heap.size≤g)(hne:∀x∈L,x.1≠g)(x y z:Value):
  Zl W (((w.setCell ⟨g,0,none⟩ x).setCell ⟨g,1,none⟩ y).setCell ⟨g,2,none⟩ z) bs b ((g,t,#[x,y,z])::L):=by
 have hb:g≠bs:=h.far _ (.head _);refine⟨((h.sm.setNew (p:=⟨g,0,none⟩) hg x).setNew (p:=⟨g,1,none⟩) hg y).setNew (p:=⟨g,2,none⟩) hg z,((h.sum.far (p:=⟨g,0,none⟩) (Ne.symm hb) x).far (p:=⟨g,1,none⟩) (Ne.symm hb) y).far (p:=⟨g,2,none⟩) (Ne.symm hb) z,⟨?_,?_⟩,fun v hv=>?_⟩
 ·have h2:=((h.boxes.1.set_ 0 x).set_ 1 y).set_ 2 z;simpa using h2
 ·have:∀{M:Xx},(∀v∈M,v.1≠g)→Xy w M→Xy (((w.setCell ⟨g,0,none⟩ x).setCell ⟨g,1,none⟩ y).setCell ⟨g,2,none⟩ z) M:=by
   intro M;induction M with
   |nil=>exact fun _ _=>trivial
   |cons v M ih=>exact fun hv hB=>⟨((hB.1.far (p:=⟨g,0,none⟩) (hv _ (.head _)) x).far (p:=⟨g,1,none⟩) (hv _ (.head _)) y).far (p:=⟨g,2,none⟩) (hv _ (.head _)) z,ih (fun u hu=>hv u (.tail _ hu)) hB.2⟩
  exact this hne h.boxes.2
 ·rcases List.mem_cons.1 hv with rfl|hv
  ·exact hb
  ·exact h.far v (.tail _ hv)
section
variable {W w:World} {bs g i:Nat} {b:Bool} {t:TypeId} {l:List Fr} {L:Xx} {ops:Array Oper} {rest:List Oper} {a:Act} {Q:Exit→Act→World→Prop} {x y:Operand} {u v z:Int} {ty:TypeId} {pos:String} {after:Array Edge}
theorem Jp{o:Oper}{w':World}(hd:o.dst=none)(hg:o.guard=none)(hr:(execOp a.eval o).run prog w= .ok .skip w')(h:wpList prog ops Q rest a w'):wpList prog ops Q (o::rest) a w:=
 Lo (G:=fun w2=>w2=w') hd hg (Jy hr rfl) fun w2 e=>e▸h
theorem Xs(h:Zh W w bs b ((g,t,Zm l)::L))(hg:W.heap.size≤g)(hne:∀x∈L,x.1≠g)(i:Nat)(hi:i<l.length)(hx:a.eval x= .pointer (some ⟨g,3*i,none⟩))(hy:a.eval y= .agg #[u,v,z])
  (hK:∀V,Zh W V bs b ((g,t,Zm (l.set i ⟨u,v,z⟩))::L)→wpList prog ops Q rest a V):
  wpList prog ops Q ({dst:=none,op:= .store 30 x y,type:=ty,pos:=pos,after:=after,guard:=none}::rest) a w:=by
 obtain⟨p0,p1,p2,q0,q1,q2⟩:=Lg l i hi;have hc:=h.boxes.1.cell;refine Jp rfl rfl (Hn hx hy ((hc _).trans (by simpa [Zm] using q0)) ((hc _).trans (by simpa [Zm] using q1)) ((hc _).trans (by simpa [Zm] using q2)) h.boxes.1.frozen) ?_;exact hK _ (h.setF hg hne i u v z)
theorem Id(h:Zl W w bs b ((g,t,Zm l)::L))(hg:W.heap.size≤g)(hne:∀x∈L,x.1≠g)(i:Nat)(hi:i<l.length)(hx:a.eval x= .pointer (some ⟨g,3*i,none⟩))(hy:a.eval y= .agg #[u,v,z])
  (hK:∀V,Zl W V bs b ((g,t,Zm (l.set i ⟨u,v,z⟩))::L)→wpList prog ops Q rest a V):
  wpList prog ops Q ({dst:=none,op:= .store 30 x y,type:=ty,pos:=pos,after:=after,guard:=none}::rest) a w:=by
 obtain⟨p0,p1,p2,q0,q1,q2⟩:=Lg l i hi;have hc:=h.boxes.1.cell;refine Jp rfl rfl (Hn hx hy ((hc _).trans (by simpa [Zm] using q0)) ((hc _).trans (by simpa [Zm] using q1)) ((hc _).trans (by simpa [Zm] using q2)) h.boxes.1.frozen) ?_;exact hK _ (h.setF hg hne i u v z)
theorem Zo.setF{W w:World}{g:Nat}{t:TypeId}{l:List Fr}{L:Xx}(h:Zo W w ((g,t,Zm l)::L))(hg:W.heap.size≤g)(hne:∀x∈L,x.1≠g)(i:Nat)(x y z:Int):
  Zo W (((w.setCell ⟨g,3*i,none⟩ (x)).setCell ⟨g,3*i+1,none⟩ (y)).setCell ⟨g,3*i+2,none⟩ (z)) ((g,t,Zm (l.set i ⟨x,y,z⟩))::L):=by
 refine⟨((h.ex.setCell (p:=⟨g,_,none⟩) hg _).setCell (p:=⟨g,_,none⟩) hg _).setCell (p:=⟨g,_,none⟩) hg _,?_,?_⟩
 ·have h2:=((h.boxes.1.set_ (3*i) (x)).set_ (3*i+1) (y)).set_ (3*i+2) (z);rw[Hp] at h2;exact h2
 ·have:∀{M:Xx},(∀v∈M,v.1≠g)→Xy w M→Xy (((w.setCell ⟨g,3*i,none⟩ (x)).setCell ⟨g,3*i+1,none⟩ (y)).setCell ⟨g,3*i+2,none⟩ (z)) M:=by
   intro M;induction M with
   |nil=>exact fun _ _=>trivial
   |cons v M ih=>exact fun hv hB=>⟨((hB.1.far (p:=⟨g,_,none⟩) (hv _ (.head _)) _).far (p:=⟨g,_,none⟩) (hv _ (.head _)) _).far (p:=⟨g,_,none⟩) (hv _ (.head _)) _,ih (fun u hu=>hv u (.tail _ hu)) hB.2⟩
  exact this hne h.boxes.2
theorem Si(h:Zo W w ((g,t,Zm l)::L))(hg:W.heap.size≤g)(hne:∀x∈L,x.1≠g)(i:Nat)(hi:i<l.length)(hx:a.eval x= .pointer (some ⟨g,3*i,none⟩))(hy:a.eval y= .agg #[u,v,z])
  (hK:∀V,Zo W V ((g,t,Zm (l.set i ⟨u,v,z⟩))::L)→wpList prog ops Q rest a V):
  wpList prog ops Q ({dst:=none,op:= .store 30 x y,type:=ty,pos:=pos,after:=after,guard:=none}::rest) a w:=by
 obtain⟨p0,p1,p2,q0,q1,q2⟩:=Lg l i hi;have hc:=h.boxes.1.cell;refine Jp rfl rfl (Hn hx hy ((hc _).trans (by simpa [Zm] using q0)) ((hc _).trans (by simpa [Zm] using q1)) ((hc _).trans (by simpa [Zm] using q2)) h.boxes.1.frozen) ?_;exact hK _ (h.setF hg hne i u v z)
end
end
section
open Go.RowKit

attribute [local go_sem] Zg Zf
section
variable {W w:World} {bs:Nat} {b:Bool} {L:Xx} {a1 a2 a3 b1 b2 b3 c1 c2 c3 d1 d2 d3 x y z s1 s2 s3:Int} {k:Bool}
theorem Zdb(h1:s1=1∨s1= -1)(h2:s2=1∨s2= -1)(h3:s3=1∨s3= -1)(hB:Zh W w bs (!b) L)(hr:Ff s1 s2 s3 ⟨a1,a2,a3⟩ ⟨b1,b2,b3⟩ ⟨c1,c2,c3⟩ ⟨d1,d2,d3⟩=(⟨x,y,z⟩,k)):Calls prog 111 #[.pointer (some ⟨bs,0,none⟩), .agg #[a1,a2,a3,b1,b2,b3,c1,c2,c3,d1,d2,d3],s1,s2,s3] w fun e w'=>e= .returned (.agg #[x,y,z])∧Zh W w' bs (!(b|| !k)) L∧SmO bs w w':=Fh hB (Zzt bs b ⟨a1,a2,a3⟩ ⟨b1,b2,b3⟩ ⟨c1,c2,c3⟩ ⟨d1,d2,d3⟩ s1 s2 s3 h1 h2 h3 w hB.sum) hr
theorem Ge(h1:s1=1∨s1= -1)(hB:Zh W w bs (!b) L)(hr:Uw s1 false ⟨a1,a2,a3⟩ ⟨b1,b2,b3⟩ ⟨c1,c2,c3⟩ ⟨d1,d2,d3⟩=(⟨x,y,z⟩,k)):Calls prog 112 #[.pointer (some ⟨bs,0,none⟩), .agg #[a1,a2,a3,b1,b2,b3,c1,c2,c3,d1,d2,d3],oo, .int .i64 1,s1, .int .i64 2, .int .i64 3,false] w fun e w'=>e= .returned (.agg #[x,y,z])∧Zh W w' bs (!(b|| !k)) L∧SmO bs w w':=Fh hB (Ck bs b ⟨a1,a2,a3⟩ ⟨b1,b2,b3⟩ ⟨c1,c2,c3⟩ ⟨d1,d2,d3⟩ s1 h1 w hB.sum) hr
theorem Gd(h1:s1=1∨s1= -1)(hB:Zh W w bs (!b) L)(hr:Uw s1 true ⟨b1,b2,b3⟩ ⟨a1,a2,a3⟩ ⟨d1,d2,d3⟩ ⟨c1,c2,c3⟩=(⟨x,y,z⟩,k)):Calls prog 112 #[.pointer (some ⟨bs,0,none⟩), .agg #[a1,a2,a3,b1,b2,b3,c1,c2,c3,d1,d2,d3], .int .i64 1,oo,s1, .int .i64 3, .int .i64 2,true] w fun e w'=>e= .returned (.agg #[x,y,z])∧Zh W w' bs (!(b|| !k)) L∧SmO bs w w':=Fh hB (Cj bs b ⟨a1,a2,a3⟩ ⟨b1,b2,b3⟩ ⟨c1,c2,c3⟩ ⟨d1,d2,d3⟩ s1 h1 w hB.sum) hr
theorem Gc(h1:s1=1∨s1= -1)(hB:Zh W w bs (!b) L)(hr:Uw s1 false ⟨a1,a2,a3⟩ ⟨c1,c2,c3⟩ ⟨b1,b2,b3⟩ ⟨d1,d2,d3⟩=(⟨x,y,z⟩,k)):Calls prog 112 #[.pointer (some ⟨bs,0,none⟩), .agg #[a1,a2,a3,b1,b2,b3,c1,c2,c3,d1,d2,d3],oo, .int .i64 2,s1, .int .i64 1, .int .i64 3,false] w fun e w'=>e= .returned (.agg #[x,y,z])∧Zh W w' bs (!(b|| !k)) L∧SmO bs w w':=Fh hB (Ci bs b ⟨a1,a2,a3⟩ ⟨b1,b2,b3⟩ ⟨c1,c2,c3⟩ ⟨d1,d2,d3⟩ s1 h1 w hB.sum) hr
theorem Gb(h1:s1=1∨s1= -1)(hB:Zh W w bs (!b) L)(hr:Uw s1 false ⟨a1,a2,a3⟩ ⟨d1,d2,d3⟩ ⟨b1,b2,b3⟩ ⟨c1,c2,c3⟩=(⟨x,y,z⟩,k)):Calls prog 112 #[.pointer (some ⟨bs,0,none⟩), .agg #[a1,a2,a3,b1,b2,b3,c1,c2,c3,d1,d2,d3],oo, .int .i64 3,s1, .int .i64 1, .int .i64 2,false] w fun e w'=>e= .returned (.agg #[x,y,z])∧Zh W w' bs (!(b|| !k)) L∧SmO bs w w':=Fh hB (Ch bs b ⟨a1,a2,a3⟩ ⟨b1,b2,b3⟩ ⟨c1,c2,c3⟩ ⟨d1,d2,d3⟩ s1 h1 w hB.sum) hr
theorem Zwj(h1:s1=1∨s1= -1)(hB:Zh W w bs (!b) L)(hr:Uw s1 true ⟨b1,b2,b3⟩ ⟨c1,c2,c3⟩ ⟨a1,a2,a3⟩ ⟨d1,d2,d3⟩=(⟨x,y,z⟩,k)):Calls prog 112 #[.pointer (some ⟨bs,0,none⟩), .agg #[a1,a2,a3,b1,b2,b3,c1,c2,c3,d1,d2,d3], .int .i64 1, .int .i64 2,s1,oo, .int .i64 3,true] w fun e w'=>e= .returned (.agg #[x,y,z])∧Zh W w' bs (!(b|| !k)) L∧SmO bs w w':=Fh hB (Cg bs b ⟨a1,a2,a3⟩ ⟨b1,b2,b3⟩ ⟨c1,c2,c3⟩ ⟨d1,d2,d3⟩ s1 h1 w hB.sum) hr
theorem Ga(h1:s1=1∨s1= -1)(hB:Zh W w bs (!b) L)(hr:Uw s1 true ⟨a1,a2,a3⟩ ⟨c1,c2,c3⟩ ⟨b1,b2,b3⟩ ⟨d1,d2,d3⟩=(⟨x,y,z⟩,k)):Calls prog 112 #[.pointer (some ⟨bs,0,none⟩), .agg #[a1,a2,a3,b1,b2,b3,c1,c2,c3,d1,d2,d3],oo, .int .i64 2,s1, .int .i64 1, .int .i64 3,true] w fun e w'=>e= .returned (.agg #[x,y,z])∧Zh W w' bs (!(b|| !k)) L∧SmO bs w w':=Fh hB (Cf bs b ⟨a1,a2,a3⟩ ⟨b1,b2,b3⟩ ⟨c1,c2,c3⟩ ⟨d1,d2,d3⟩ s1 h1 w hB.sum) hr
theorem Zwi(h1:s1=1∨s1= -1)(hB:Zh W w bs (!b) L)(hr:Uw s1 true ⟨a1,a2,a3⟩ ⟨d1,d2,d3⟩ ⟨b1,b2,b3⟩ ⟨c1,c2,c3⟩=(⟨x,y,z⟩,k)):Calls prog 112 #[.pointer (some ⟨bs,0,none⟩), .agg #[a1,a2,a3,b1,b2,b3,c1,c2,c3,d1,d2,d3],oo, .int .i64 3,s1, .int .i64 1, .int .i64 2,true] w fun e w'=>e= .returned (.agg #[x,y,z])∧Zh W w' bs (!(b|| !k)) L∧SmO bs w w':=Fh hB (Ce bs b ⟨a1,a2,a3⟩ ⟨b1,b2,b3⟩ ⟨c1,c2,c3⟩ ⟨d1,d2,d3⟩ s1 h1 w hB.sum) hr
end
theorem Bh(m:M4)(w:World):Calls prog 43 #[m.v] w (fun e w'=>e= .returned (Sl (Vv m))∧Ex w w'):=by
 obtain⟨RV,hRV⟩:∃v,v=Sl (Vv m):=⟨_,rfl⟩
 rw[←hRV];rw[←Zdo] at hRV;have kv:=fun w=>Iw m w
 generalize m.valid=mv at kv hRV;obtain⟨a,b,c,d⟩:=m;simp only[M4.v] at kv ⊢;unfold Bz at hRV;simp only[List.all_cons,List.all_nil,List.map_cons,List.map_nil] at hRV;rcases h0:Ff 1 1 1 a b c d with⟨⟨u0x,u0y,u0z⟩,k0⟩;rcases h1:Ff (-1) 1 (-1) a b c d with⟨⟨u1x,u1y,u1z⟩,k1⟩;rcases h2:Uw 1 false a b c d with⟨⟨u2x,u2y,u2z⟩,k2⟩;rcases h3:Uw 1 true b a d c with⟨⟨u3x,u3y,u3z⟩,k3⟩;rcases h4:Ff 1 (-1) (-1) a b c d with⟨⟨u4x,u4y,u4z⟩,k4⟩;rcases h5:Ff (-1) (-1) 1 a b c d with⟨⟨u5x,u5y,u5z⟩,k5⟩;rcases h6:Uw (-1) false a b c d with⟨⟨u6x,u6y,u6z⟩,k6⟩;rcases h7:Uw (-1) true b a d c with⟨⟨u7x,u7y,u7z⟩,k7⟩;rcases h8:Uw 1 false a c b d with⟨⟨u8x,u8y,u8z⟩,k8⟩;rcases h9:Uw (-1) false a c b d with⟨⟨u9x,u9y,u9z⟩,k9⟩;rcases h10:Uw 1 false a d b c with⟨⟨u10x,u10y,u10z⟩,k10⟩;rcases h11:Uw (-1) true b c a d with⟨⟨u11x,u11y,u11z⟩,k11⟩;rcases h12:Uw 1 true a c b d with⟨⟨u12x,u12y,u12z⟩,k12⟩;rcases h13:Uw (-1) true a c b d with⟨⟨u13x,u13y,u13z⟩,k13⟩;rcases h14:Uw 1 true a d b c with⟨⟨u14x,u14y,u14z⟩,k14⟩;rcases h15:Uw (-1) false a d b c with⟨⟨u15x,u15y,u15z⟩,k15⟩;rw[h0,h1,h2,h3,h4,h5,h6,h7,h8,h9,h10,h11,h12,h13,h14,h15] at hRV;simp only[Bool.and_true] at hRV;obtain⟨a1,a2,a3⟩:=a;obtain⟨b1,b2,b3⟩:=b;obtain⟨c1,c2,c3⟩:=c;obtain⟨d1,d2,d3⟩:=d;have H0:=Zz h0;have H1:=Zz h1;have H2:=Zz h2;have H3:=Zz h3;have H4:=Zz h4;have H5:=Zz h5;have H6:=Zz h6;have H7:=Zz h7;have H8:=Zz h8;have H9:=Zz h9;have H10:=Zz h10;have H11:=Zz h11;have H12:=Zz h12;have H13:=Zz h13;have H14:=Zz h14;have H15:=Zz h15;have HR:=Zz hRV;clear hRV h0 h1 h2 h3 h4 h5 h6 h7 h8 h9 h10 h11 h12 h13 h14 h15;simp only at kv ⊢;have KV:=Zz kv;clear kv;have hR:=Zo.refl w;go_in;go_upto_region 1 with fail;rw[We];have hV:Zo w ((w.alloc (.cells #[a1,a2,a3,b1,b2,b3,c1,c2,c3,d1,d2,d3] 79)).alloc (.cells Z48 85)) _:=inferInstance;clear hR;have hle:w.heap.size≤((w.alloc (.cells #[a1,a2,a3,b1,b2,b3,c1,c2,c3,d1,d2,d3] 79)).alloc (.cells Z48 85)).heap.size:=hV.ex.size;simp only[Zy] at hV;generalize (w.alloc (.cells #[a1,a2,a3,b1,b2,b3,c1,c2,c3,d1,d2,d3] 79)).alloc (.cells Z48 85)=W0 at*;have hC:=hV.rd;simp only[Zr,Zq] at hC;rcases mv with _|_
 ·have hn:=HR.out;simp only[Bool.false_and,Bool.false_eq_true,if_false,Sl] at hn;rw[←Zxe] at hn;subst hn;clear HR H0 H1 H2 H3 H4 H5 H6 H7 H8 H9 H10 H11 H12 H13 H14 H15;go_upto_region 2 with((with_reducible refine(KV.out _).mono ?_);rintro e wn ⟨rfl,hx⟩;replace hV:=Zo.after (W:=w) hx;clear hx;replace hC:=hV.rd;simp only[Zr,Zq] at hC);have hb:=hV.boxes.1;go_wp2_with (refine wpList_store_row rfl _ _ _ rfl _ _ rfl rfl _ _ (hb.alloc _) (Yy Yk) rfl Wi ?_);refine Zu (Ze results43 _ _ _ _ _ (0,0) _ rfl ((hb.alloc _).setRow _) underlying85 rfl (Yy Yk)) rfl ⟨rfl,(hV.ex.alloc _).setRow (Nat.le_succ _) _⟩
 ·go_upto_region 4 with((with_reducible refine(KV.out _).mono ?_);rintro e wn ⟨rfl,hx⟩;replace hV:=Zo.after (W:=w) hx;clear hx;replace hC:=hV.rd;simp only[Zr,Zq] at hC);have hV0:=hV.ex.size;have bT:Box ((wn.alloc (.cells #[true] 155)).alloc (.cells Z48 85)) (wn.heap.size+1) 85 Z48:=by
   have:=Box.new (wn.alloc (.cells #[true] 155)) Z48 85
   rwa[Zy] at this
  have hS0:Zh w ((wn.alloc (.cells #[true] 155)).alloc (.cells Z48 85)) wn.heap.size true _:=Zh.alloc (h:=Zh.start (h:=hV));simp only[Zy] at hS0;go_upto_region 5 with(refine wpList_store_row rfl _ _ _ rfl _ _ rfl rfl _ _ bT (Yy Yk) rfl Wi ?_);rw[We];clear bT;have hlt1:=hV.boxes.1.lt;have hlt2:=hV.boxes.2.1.lt;have hg:w.heap.size≤wn.heap.size+1:=Nat.le_succ_of_le hV.ex.size;have hne:∀x∈([(w.heap.size+1,85,Z48),(w.heap.size,79,#[a1,a2,a3,b1,b2,b3,c1,c2,c3,d1,d2,d3])]:Xx),x.1≠wn.heap.size+1:=by
   intro x hx;simp only[List.mem_cons,List.not_mem_nil,or_false] at hx;rcases hx with rfl|rfl
   ·exact Nat.ne_of_lt (Nat.lt_succ_of_lt hlt1)
   ·exact Nat.ne_of_lt (Nat.lt_succ_of_lt hlt2)
  replace hS0:=Zh.setRow hS0 hg hne Z48;generalize ((wn.alloc (.cells #[true] 155)).alloc (.cells Z48 85)).setRow (wn.heap.size+1) Z48=W5 at*;have hS:Zh w W5 wn.heap.size (!false) ((wn.heap.size+1,85,Zm [(⟨0,0,0⟩:Fr),(⟨0,0,0⟩:Fr),(⟨0,0,0⟩:Fr),(⟨0,0,0⟩:Fr),(⟨0,0,0⟩:Fr),(⟨0,0,0⟩:Fr),(⟨0,0,0⟩:Fr),(⟨0,0,0⟩:Fr),(⟨0,0,0⟩:Fr),(⟨0,0,0⟩:Fr),(⟨0,0,0⟩:Fr),(⟨0,0,0⟩:Fr),(⟨0,0,0⟩:Fr),(⟨0,0,0⟩:Fr),(⟨0,0,0⟩:Fr),(⟨0,0,0⟩:Fr)])::[(w.heap.size+1,85,Z48),(w.heap.size,79,#[a1,a2,a3,b1,b2,b3,c1,c2,c3,d1,d2,d3])]):=hS0;clear hS0 hC hV;have hC:=hS.rd;simp only[Zr,Zq] at hC;go_upto_region 6 with(first|((with_reducible refine(Zdb (.inl rfl) (.inl rfl) (.inl rfl) hS H0.out).mono ?_);rintro e wm ⟨rfl,hN, -⟩;clear hC)|(refine Xs hN hg hne 0 (by simp) rfl rfl ?_;intro V0 hS));clear hN H0;have hC:=hS.rd;simp only[Zr,Zq] at hC;go_upto_region 7 with(first|((with_reducible refine(Zdb (.inr rfl) (.inl rfl) (.inr rfl) hS H1.out).mono ?_);rintro e wm ⟨rfl,hN, -⟩;clear hC)|(refine Xs hN hg hne 1 (by simp) rfl rfl ?_;intro V1 hS));clear hN H1;have hC:=hS.rd;simp only[Zr,Zq] at hC;go_upto_region 8 with(first|((with_reducible refine(Ge (.inl rfl) hS H2.out).mono ?_);rintro e wm ⟨rfl,hN, -⟩;clear hC)|(refine Xs hN hg hne 2 (by simp) rfl rfl ?_;intro V2 hS));clear hN H2;have hC:=hS.rd;simp only[Zr,Zq] at hC;go_upto_region 9 with(first|((with_reducible refine(Gd (.inl rfl) hS H3.out).mono ?_);rintro e wm ⟨rfl,hN, -⟩;clear hC)|(refine Xs hN hg hne 3 (by simp) rfl rfl ?_;intro V3 hS));clear hN H3;have hC:=hS.rd;simp only[Zr,Zq] at hC;go_upto_region 10 with(first|((with_reducible refine(Zdb (.inl rfl) (.inr rfl) (.inr rfl) hS H4.out).mono ?_);rintro e wm ⟨rfl,hN, -⟩;clear hC)|(refine Xs hN hg hne 4 (by simp) rfl rfl ?_;intro V4 hS));clear hN H4;have hC:=hS.rd;simp only[Zr,Zq] at hC;go_upto_region 11 with(first|((with_reducible refine(Zdb (.inr rfl) (.inr rfl) (.inl rfl) hS H5.out).mono ?_);rintro e wm ⟨rfl,hN, -⟩;clear hC)|(refine Xs hN hg hne 5 (by simp) rfl rfl ?_;intro V5 hS));clear hN H5;have hC:=hS.rd;simp only[Zr,Zq] at hC;go_upto_region 12 with(first|((with_reducible refine(Ge (.inr rfl) hS H6.out).mono ?_);rintro e wm ⟨rfl,hN, -⟩;clear hC)|(refine Xs hN hg hne 6 (by simp) rfl rfl ?_;intro V6 hS));clear hN H6;have hC:=hS.rd;simp only[Zr,Zq] at hC;go_upto_region 13 with(first|((with_reducible refine(Gd (.inr rfl) hS H7.out).mono ?_);rintro e wm ⟨rfl,hN, -⟩;clear hC)|(refine Xs hN hg hne 7 (by simp) rfl rfl ?_;intro V7 hS));clear hN H7;have hC:=hS.rd;simp only[Zr,Zq] at hC;go_upto_region 14 with(first|((with_reducible refine(Gc (.inl rfl) hS H8.out).mono ?_);rintro e wm ⟨rfl,hN, -⟩;clear hC)|(refine Xs hN hg hne 8 (by simp) rfl rfl ?_;intro V8 hS));clear hN H8;have hC:=hS.rd;simp only[Zr,Zq] at hC;go_upto_region 15 with(first|((with_reducible refine(Gc (.inr rfl) hS H9.out).mono ?_);rintro e wm ⟨rfl,hN, -⟩;clear hC)|(refine Xs hN hg hne 9 (by simp) rfl rfl ?_;intro V9 hS));clear hN H9;have hC:=hS.rd;simp only[Zr,Zq] at hC;go_upto_region 16 with(first|((with_reducible refine(Gb (.inl rfl) hS H10.out).mono ?_);rintro e wm ⟨rfl,hN, -⟩;clear hC)|(refine Xs hN hg hne 10 (by simp) rfl rfl ?_;intro V10 hS));clear hN H10;have hC:=hS.rd;simp only[Zr,Zq] at hC;go_upto_region 17 with(first|((with_reducible refine(Zwj (.inr rfl) hS H11.out).mono ?_);rintro e wm ⟨rfl,hN, -⟩;clear hC)|(refine Xs hN hg hne 11 (by simp) rfl rfl ?_;intro V11 hS));clear hN H11;have hC:=hS.rd;simp only[Zr,Zq] at hC;go_upto_region 18 with(first|((with_reducible refine(Ga (.inl rfl) hS H12.out).mono ?_);rintro e wm ⟨rfl,hN, -⟩;clear hC)|(refine Xs hN hg hne 12 (by simp) rfl rfl ?_;intro V12 hS));clear hN H12;have hC:=hS.rd;simp only[Zr,Zq] at hC;go_upto_region 19 with(first|((with_reducible refine(Ga (.inr rfl) hS H13.out).mono ?_);rintro e wm ⟨rfl,hN, -⟩;clear hC)|(refine Xs hN hg hne 13 (by simp) rfl rfl ?_;intro V13 hS));clear hN H13;have hC:=hS.rd;simp only[Zr,Zq] at hC;go_upto_region 20 with(first|((with_reducible refine(Zwi (.inl rfl) hS H14.out).mono ?_);rintro e wm ⟨rfl,hN, -⟩;clear hC)|(refine Xs hN hg hne 14 (by simp) rfl rfl ?_;intro V14 hS));clear hN H14;have hC:=hS.rd;simp only[Zr,Zq] at hC;go_upto_region 21 with(first|((with_reducible refine(Gb (.inr rfl) hS H15.out).mono ?_);rintro e wm ⟨rfl,hN, -⟩;clear hC)|(refine Xs hN hg hne 15 (by simp) rfl rfl ?_;intro V15 hS));clear hN H15;have hn:=HR.out;have e:(true&&(k0&&(k1&&(k2&&(k3&&(k4&&(k5&&(k6&&(k7&&(k8&&(k9&&(k10&&(k11&&(k12&&(k13&&(k14&&k15))))))))))))))))= !((((((((((((((((false|| !k0)|| !k1)|| !k2)|| !k3)|| !k4)|| !k5)|| !k6)|| !k7)|| !k8)|| !k9)|| !k10)|| !k11)|| !k12)|| !k13)|| !k14)|| !k15):=by simp[Bool.and_assoc]
  rw[e] at hn;clear e HR;replace hS:Zh w V15 wn.heap.size (!((((((((((((((((false|| !k0)|| !k1)|| !k2)|| !k3)|| !k4)|| !k5)|| !k6)|| !k7)|| !k8)|| !k9)|| !k10)|| !k11)|| !k12)|| !k13)|| !k14)|| !k15)) ((wn.heap.size+1,85,Zm [⟨u0x,u0y,u0z⟩,⟨u1x,u1y,u1z⟩,⟨u2x,u2y,u2z⟩,⟨u3x,u3y,u3z⟩,⟨u4x,u4y,u4z⟩,⟨u5x,u5y,u5z⟩,⟨u6x,u6y,u6z⟩,⟨u7x,u7y,u7z⟩,⟨u8x,u8y,u8z⟩,⟨u9x,u9y,u9z⟩,⟨u10x,u10y,u10z⟩,⟨u11x,u11y,u11z⟩,⟨u12x,u12y,u12z⟩,⟨u13x,u13y,u13z⟩,⟨u14x,u14y,u14z⟩,⟨u15x,u15y,u15z⟩])::[(w.heap.size+1,85,Z48),(w.heap.size,79,#[a1,a2,a3,b1,b2,b3,c1,c2,c3,d1,d2,d3])]):=hS;have hb:=hS.boxes.1;have hr:=hS.boxes.2.1;have hE:=hS.rel hV0;rcases hK:(!((((((((((((((((false|| !k0)|| !k1)|| !k2)|| !k3)|| !k4)|| !k5)|| !k6)|| !k7)|| !k8)|| !k9)|| !k10)|| !k11)|| !k12)|| !k13)|| !k14)|| !k15)) with _|_
  ·rw[hK] at hS hn;simp only[Bool.false_eq_true,if_false,Sl] at hn;rw[←Zxe] at hn;subst hn;have hC:=hS.rd;simp only[Zr,Zq] at hC;go_wp2_with (refine wpList_store_row rfl _ _ _ rfl _ _ rfl rfl _ _ hr (Yy Yk) rfl Wi ?_);refine Zu (Ze results43 _ _ _ _ _ (0,0) _ rfl (hr.setRow _) underlying85 rfl (Yy Yk)) rfl ⟨rfl,hE.setRow (Nat.le_succ _) _⟩
  ·rw[hK] at hS hn;simp only[if_true,Sl] at hn;subst hn;have hC:=hS.rd;simp only[Zr,Zq] at hC;go_wp2_with (first|(refine wpList_load_row rfl _ _ rfl _ rfl _ _ (0,0) _ hb underlying85 rfl (Yy rfl) ?_)|(refine wpList_store_row rfl _ _ _ rfl _ _ rfl rfl _ _ hr (Yy rfl) rfl (Zb _) ?_));refine Zu (Ze results43 _ _ _ _ _ (0,0) _ rfl (hr.setRow _) underlying85 rfl (Yy rfl)) rfl ⟨rfl,hE.setRow (Nat.le_succ _) _⟩
end
end Go.Proofs.YtiommfmaleeibaaGreatDoor
