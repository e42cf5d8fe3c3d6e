/-
  Proved:what functions compute,part 26. No condition.
-/
import Derived.Laws.BitsAllLaws
import Derived.Test.YtiommfmaleeibaaGreatDoorB06
import Derived.Deep.RegionWith
set_option linter.unusedSimpArgs false
set_option linter.unusedVariables false
set_option maxRecDepth 20000
set_option maxHeartbeats 8000000
namespace Go.Proofs.YtiommfmaleeibaaGreatDoor
open Go.Proofs.Tryz
section
open Go.RowKit

theorem xor63(a b:Nat)(ha:a<9223372036854775808)(hb:b<9223372036854775808):bits .xor .i64 (a:Int) (b:Int)=((a ^^^ b:Nat):Int):=by
 have hx:a ^^^ b<2 ^ 63:=Nat.xor_lt_two_pow (by omega) (by omega);show IntKind.i64.wrap ((BitVec.ofInt 64 (a:Int) ^^^ BitVec.ofInt 64 (b:Int)).toNat:Int)=_;rw[BitVec.toNat_xor,ofInt_u64 a (by omega),ofInt_u64 b (by omega)];simp[IntKind.wrap,IntKind.bits,IntKind.signed];omega
theorem Zel{x:Int}(h0:0≤x)(h1:x<9223372036854775808):∃m:Nat,bits .xor .i64 x (x / 64)=(m:Int)∧m<9223372036854775808:=by
 obtain⟨n,rfl⟩:=Int.eq_ofNat_of_zero_le h0;have hd:(n:Int) / 64=((n / 64:Nat):Int):=by omega
 rw[hd,xor63 n (n / 64) (by omega) (by omega)];exact⟨_,rfl,Nat.xor_lt_two_pow (n:=63) (by omega) (by omega)⟩
theorem Zqm(a b:Nat):(a:Int).tmod b=((a % b:Nat):Int):=rfl
theorem Zek(a b:Nat):(a:Int).tdiv b=((a / b:Nat):Int):=rfl
def Pl(w:World)(A:Option Addr)(bs:List Int):Prop:=Slc w A (bs.map (Value.int .u8))∧∀n∈bs,0≤n∧n≤255
section
variable {w w1:World} {A:Option Addr} {bs:List Int}
theorem Pl.ex(h:Pl w A bs)(he:Ex w w1):Pl w1 A bs:=⟨h.1.ex he,h.2⟩
theorem Pl.alloc(h:Pl w A bs)(o:Obj):Pl (w.alloc o) A bs:=⟨h.1.alloc o,h.2⟩
theorem Pl.at(h:Pl w A bs)(hp:0<bs.length):∃b off,A=some ⟨b,off,none⟩∧∀k,k<bs.length→w.cell? ⟨b,off+k,none⟩=some (.int .u8 (bs.getD k 0))∧0≤bs.getD k 0∧bs.getD k 0≤255:=by
 obtain⟨b,off,rfl,hc⟩:=h.1 (by simpa using hp);refine⟨b,off,rfl,fun k hk=>⟨by rw[hc k (by simpa using hk)];simp[hk],?_⟩⟩;have:=h.2 bs[k] (List.getElem_mem hk)
 simpa [hk] using this
theorem Pl.take(h:Pl w A bs)(n:Nat):Pl w A (bs.take n):=by
 refine⟨fun hp=>?_,fun m hm=>h.2 m (List.mem_of_mem_take hm)⟩;have hp':0<n∧0<bs.length:=by simp at hp;omega
 obtain⟨b,off,rfl,hc⟩:=h.1 (by simpa using hp'.2);refine⟨b,off,rfl,fun k hk=>?_⟩;have hk':k<n∧k<bs.length:=by simp at hk;omega
 rw[hc k (by simpa using hk'.2)];simp[hk'.1,hk'.2]
end

def Zae(m:Int)(w:World)(bo:Nat)(a:Nat)(e:Ending)(w':World):Prop:=
 ∃(v:Int) (d:Nat),e= .returned (v)∧0≤v∧v<m∧w'=(w.setCell ⟨bo,1,none⟩ ((a+1:Int))).drewN d

theorem Zej(bo:Nat)(A:Option Addr)(bs:List Int)(cap:Nat)(a:Nat)(m:Int)(w:World)(hB:Pl w A bs)(hl:bs.length≤2000)(hb:Box w bo 102 #[.slice A bs.length cap,a])
  (hne:∀b off,A=some ⟨b,off,none⟩→0<bs.length→b≠bo) (ha:a≤1099511627776) (hm:1≤m) (hm2:m≤1099511627776):
  Calls prog 21 #[.pointer (some ⟨bo,0,none⟩),m] w (Zae m w bo a):=by
 have c:=hb.cell;have f:=hb.frozen;have hw:=Zt ((a:Int)+1) (by omega);rcases h0:((bs.length:Int)==0) with _|_
 case true=>
  go_in;go_wp2;go_ret;exact⟨0,0,rfl,by omega,by omega,rfl⟩
 have h0':bs.length≠0:=by simpa using h0
 obtain⟨b,off,rfl,hc⟩:=hB.at (by omega);have hbne:=hne b off rfl (by omega);clear hne hB;by_cases h1:a<bs.length
 ·obtain⟨hc1,hv1,hv2⟩:=hc a h1;obtain⟨x,hx⟩:∃x,x=bs.getD a 0:=⟨_,rfl⟩
  rw[←hx] at hc1 hv1 hv2;have hwx:=IntWalk.wrap64_in x (by omega);clear hc hx;go_in;go_wp2;go_ret;exact⟨x % m,0,rfl,Int.emod_nonneg _ (by omega),Int.emod_lt_of_pos _ (by omega),rfl⟩
 ·obtain⟨j1,hj1,hj1b⟩:∃j:Nat,(a:Int).tmod bs.length=j∧j<bs.length:=⟨a % bs.length,Zqm _ _,Nat.mod_lt _ (by omega)⟩
  obtain⟨j2,hj2,hj2b⟩:∃j:Nat,((a:Int)*7+3).tmod bs.length=j∧j<bs.length:=
   ⟨(a*7+3) % bs.length,by rw[←Zqm];simp,Nat.mod_lt _ (by omega)⟩
  obtain⟨d,hd,hdb⟩:∃d:Nat,(a:Int).tdiv bs.length=d∧d≤a:=⟨a / bs.length,Zek _ _,Nat.div_le_self _ _⟩
  obtain⟨hc1,hv1,hv2⟩:=hc j1 hj1b;obtain⟨hc2,hv3,hv4⟩:=hc j2 hj2b;obtain⟨x,hx⟩:∃x,x=bs.getD j1 0:=⟨_,rfl⟩
  obtain⟨y,hy⟩:∃y,y=bs.getD j2 0:=⟨_,rfl⟩
  rw[←hx] at hc1 hv1 hv2;rw[←hy] at hc2 hv3 hv4;have hwx:=IntWalk.wrap64_in x (by omega);have hwy:=IntWalk.wrap64_in y (by omega);have g1:=Zt (x*131) (by omega);have g2:=Zt ((a:Int)*7) (by omega);have g3:=Zt ((a:Int)*7+3) (by omega);have g4:=Zt (y*1117) (by omega);have g5:=Zt (x*131+y*1117) (by omega);have g6:=Zt ((a:Int)*29) (by omega);have g7:=Zt (x*131+y*1117+(a:Int)*29) (by omega);have g8:=Zt ((d:Int)*53) (by omega);have g9:=Zt (x*131+y*1117+(a:Int)*29+(d:Int)*53) (by omega);clear hc hx hy;go_in;go_wp2;go_quiet (fail)
  clear g1 g2 g3 g4 g5 g6 g7 g8 g9;obtain⟨z,hz,hzb⟩:=Zel (x:=x*131+y*1117+(a:Int)*29+(d:Int)*53) (by omega) (by omega);go_wp2;go_ret;exact⟨(z:Int) % m,_,rfl,Int.emod_nonneg _ (by omega),Int.emod_lt_of_pos _ (by omega),rfl⟩

structure Pk(bo:Nat)(w w':World):Prop where
 ex:∀W,Ex W w→W.heap.size≤bo→Ex W w'
 box:∀b t cs,b≠bo→3≠t→Box w b t cs→Box w' b t cs
 size:w.heap.size≤w'.heap.size
theorem Pk.trans{bo:Nat}{w w1 w2:World}(h:Pk bo w w1)(k:Pk bo w1 w2):Pk bo w w2:=
 ⟨fun W hW hl=>k.ex W (h.ex W hW hl) hl,fun b t cs h1 h2 h3=>k.box b t cs h1 h2 (h.box b t cs h1 h2 h3),Nat.le_trans h.size k.size⟩
theorem Pk.of_ex{bo:Nat}{w w1:World}(h:Ex w w1):Pk bo w w1:=⟨fun _ hW _=>hW.trans h,fun _ _ _ _ _ hb=>hb.ex h,h.size⟩
def PickedR(m:Int)(bo:Nat)(A:Option Addr)(n cap a:Nat)(w:World)(e:Ending)(w':World):Prop:=
 ∃v:Int,e= .returned (v)∧0≤v∧v<m∧Pk bo w w'∧Box w' bo 102 #[.slice A n cap,((a+1:Nat):Int)]∧
  (∀lo B cb ys,Un w lo B cb ys→Un w' lo B cb ys)∧w'.heap.size=w.heap.size
def OpenR(A:Option Addr)(xs:List Int)(w:World)(e:Ending)(w':World):Prop:=
 ∃(bs:List Int) (cap':Nat),e= .returned (.pointer (some ⟨w.heap.size,0,none⟩))∧Pl w A bs∧bs.length≤2000∧
  Box w' w.heap.size 102 #[.slice A bs.length cap',((0:Nat):Int)]∧Ex w w'∧∀W,Pl W A xs→Pl W A bs
theorem Zms(A:Option Addr)(xs:List Int)(cap:Nat)(w:World)(hB:Pl w A xs)(hl:xs.length≤9223372036854775807)(hcap:xs.length≤cap)(hcap2:cap≤9223372036854775807):
  Calls prog 20 #[.slice A xs.length cap] w (OpenR A xs w):=by
 by_cases h:(2000:Int)<xs.length
 ·go_in;go_wp2;go_ret;have hx:(xs.take 2000).length=2000:=by simp;omega
  refine⟨xs.take 2000,cap,rfl,hB.take 2000,by omega,?_,(Ex.refl _).alloc _,fun W h=>h.take 2000⟩;rw[hx];exact Box.new _ _ _
 ·go_in;go_wp2;go_ret;exact⟨xs,cap,rfl,hB,by omega,Box.new _ _ _,(Ex.refl _).alloc _,fun _ h=>h⟩
end
section
open Go.RowKit

structure Dr(bo:Nat)(w w':World):Prop where
  ex:∀W,Ex W w→W.heap.size≤bo→Ex W w'
  box:∀b t cs,b≠bo→Box w b t cs→Box w' b t cs
  own:∀lo e size v n cs,e≠102→Own w lo e size v n cs→Own w' lo e size v n cs
  size:w.heap.size≤w'.heap.size
theorem Dr.of_ex{bo:Nat}{w w':World}(h:Ex w w'):Dr bo w w':=⟨fun W hW _=>hW.trans h,fun _ _ _ _ hb=>hb.ex h,fun _ _ _ _ _ _ _ ho=>Own.ex ho h,h.size⟩
theorem Dr.refl(bo:Nat)(w:World):Dr bo w w:=Dr.of_ex (Ex.refl w)
theorem Dr.trans{bo:Nat}{w w1 w2:World}(h:Dr bo w w1)(k:Dr bo w1 w2):Dr bo w w2:=
  ⟨fun W hW hl=>k.ex W (h.ex W hW hl) hl,fun b t cs hne hb=>k.box b t cs hne (h.box b t cs hne hb),fun _ _ _ _ _ _ he ho=>k.own _ _ _ _ _ _ he (h.own _ _ _ _ _ _ he ho),Nat.le_trans h.size k.size⟩
theorem Dr.alloc{bo:Nat}{w w1:World}(h:Dr bo w w1)(o:Obj):Dr bo w (w1.alloc o):=h.trans (Dr.of_ex ((Ex.refl _).alloc o))
theorem Dr.setNew{bo:Nat}{w w1:World}(h:Dr bo w w1){p:Addr}(hp:w.heap.size≤p.block)(u:Value):Dr bo w (w1.setCell p u):=
  ⟨fun W hW hl=>(h.ex W hW hl).setCell (Nat.le_trans hW.size hp) u,fun b t cs hne hb=>(h.box b t cs hne hb).far (by have:=hb.lt;omega) u,
   fun lo e size v n cs he ho=>Own.setCell (h.own _ _ _ _ _ _ he ho) (fun g hg e=>by have:=(Own.lt ho g hg).2;omega) u,by have:=h.size;simpa using this⟩
def Rdr(w:World)(bo:Nat)(A:Option Addr)(n cap a:Nat):Prop:=Box w bo 102 #[.slice A n cap,(a:Int)]
def PickD(m:Int)(bo:Nat)(A:Option Addr)(n cap a:Nat)(w:World):Ending→World→Prop:=fun e w'=>
  ∃v:Int,e= .returned (v)∧0≤v∧v<m∧Dr bo w w'∧Rdr w' bo A n cap (a+1)
theorem Fs{W:World}{A:Option Addr}{bs:List Int}(hB:Pl W A bs)(hl:bs.length≤2000)(bo cap a:Nat)(m:Int)(w:World)(hE:Ex W w)(hbo:W.heap.size≤bo)
    (hb:Rdr w bo A bs.length cap a) (ha:a≤1099511627776) (hm:1≤m) (hm2:m≤1099511627776):
    Calls prog 21 #[.pointer (some ⟨bo,0,none⟩),m] w (PickD m bo A bs.length cap a w):=by
  refine(Zej bo A bs cap a m w (hB.ex hE) hl hb ?_ ha hm hm2).mono ?_
  · intro b off hA hp;obtain⟨b',off',hA',hc⟩:=hB.at hp;rw[hA] at hA';simp only[Option.some.injEq,Addr.mk.injEq,and_true] at hA';obtain⟨rfl,rfl⟩:=hA';have:=World.block_lt_of_cell? _ _ (hc 0 hp).1
    simp only at this;omega
  · rintro e w' ⟨v,d,rfl,h0,h1,rfl⟩;have hbs:=hb.set_ 1 (((a:Int)+1:Int));refine⟨v,rfl,h0,h1,⟨fun W' hW hw=>(hW.setCell hw _).drewN d,fun b t cs h1 h3=>?_,fun lo e size v n cs he ho=>?_,?_⟩,?_⟩
    · exact(h3.far (p:=⟨bo,1,none⟩) h1 _).ex ((Ex.refl _).drewN d)
    · exact Own.ex (Own.setCell (p:=⟨bo,1,none⟩) ho (fun g hg e=>by subst e;exact Own.ne ho hb he hg.symm) _) ((Ex.refl _).drewN d)
    · simp
    · have:=hbs.ex ((Ex.refl _).drewN d)
      unfold Rdr;simpa using this
def LFrac(bo:Nat)(A:Option Addr)(n cap a:Nat)(w:World):Ending→World→Prop:=fun e w'=>
  ∃(x:Fr) (a':Nat),e= .returned x.v∧a'≤a+5∧Dr bo w w'∧Rdr w' bo A n cap a'
end
end Go.Proofs.YtiommfmaleeibaaGreatDoor
