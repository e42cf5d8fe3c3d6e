/-
  Proved:what functions compute,part 27. No condition.
-/
import Derived.Test.YtiommfmaleeibaaGreatDoorB26
import Derived.Test.YtiommfmaleeibaaGreatDoorB16
set_option linter.unusedSimpArgs false
set_option linter.unusedVariables false
set_option maxRecDepth 20000
set_option maxHeartbeats 8000000
namespace Go.Proofs.YtiommfmaleeibaaGreatDoor
open Go.Proofs.Tryz
section
open Go.RowKit

def No(cs:Av)(m:Nat):Prop:=∀k,k<cs.size→∃s:ByteArray,cs[k]? =some (.string s)∧s.size≤m
def OfD(m bo:Nat)(A:Option Addr)(n cap a:Nat)(w:World):Ending→World→Prop:=fun e w'=>
 ∃s:ByteArray,e= .returned (.string s)∧s.size≤m∧Dr bo w w'∧Rdr w' bo A n cap (a+1)
theorem Zei{W:World}{A:Option Addr}{bs:List Int}(hB:Pl W A bs)(hl:bs.length≤2000)(bo cap a:Nat)(w:World)(hE:Ex W w)(hbo:W.heap.size≤bo)
  (hb:Rdr w bo A bs.length cap a) (ha:a≤1000000) (g n m:Nat) (cs:Av) (t:TypeId) (hg:Box w g t cs) (hne:g≠bo) (hn:cs.size=n) (h1:1≤n) (h2:n≤1000) (hs:No cs m):
  Calls prog 61 #[.pointer (some ⟨bo,0,none⟩), .slice (some ⟨g,0,none⟩) n n] w (OfD m bo A bs.length cap a w):=by
 have hp:=Fs hB hl bo cap a (n:Int) w hE hbo hb (by omega) (by omega) (by omega);have HP:=Zz hp;clear hp hB hl hb ha hE hbo;go_in;go_wp2_with fail;refine HP.out.mono ?_;rintro e w1 ⟨v,rfl,hv0,hv1,hd,hb1⟩;obtain⟨j,rfl⟩:=Int.eq_ofNat_of_zero_le hv0;have hj:j<cs.size:=by omega
 obtain⟨s,hs1,hs2⟩:=hs j hj;have hc:w1.cell? ⟨g,j,none⟩=some (.string s):=by rw[(hd.box _ _ _ hne hg).cell j,hs1]
 have hjI:(j:Int)<(n:Int):=hv1;clear HP;go_wp2;go_ret;exact⟨s,rfl,hs2,hd,hb1⟩
theorem Ui{ss:List ByteArray}{m:Nat}(h:∀s∈ss,s.size≤m):No ((ss.map Value.string).toArray) m:=by
 intro k hk;have hk2:k<ss.length:=by simpa using hk
 refine⟨ss[k],?_,h _ (List.getElem_mem hk2)⟩;simp[hk2]
end
section
open Go.RowKit

attribute [local go_sem] Zg Zf
def Zad(m c bo:Nat)(A:Option Addr)(n cap a:Nat)(w:World):Ending→World→Prop:=fun e w'=>
 ∃(s:ByteArray) (a':Nat),e= .returned (.string s)∧s.size≤m∧a'≤a+c∧Dr bo w w'∧Rdr w' bo A n cap a'
theorem Zuv(fb:Bool){W:World}{A:Option Addr}{bs:List Int}(hB:Pl W A bs)(hl:bs.length≤2000)(bo cap a:Nat)(w:World)(hE:Ex W w)(hbo:W.heap.size≤bo)
  (hb:Rdr w bo A bs.length cap a) (ha:a≤900000):Calls prog 125 #[.pointer (some ⟨bo,0,none⟩),fb] w (Zad 20 10 bo A bs.length cap a w):=by
 have HP:=Zz (fun a m w hE hb ha hm hm2=>Fs hB hl bo cap a m w hE hbo hb ha hm hm2);have hD:=Dr.refl bo w;clear hB hl;go_in;go_wp2_with fail;refine(HP.out a 5 _ hE hb (by omega) (by omega) (by omega)).mono ?_;rintro e u1 ⟨v1,rfl,hv1a,hv1b,hd,hb2⟩;replace hE:=hd.ex W hE hbo;replace hD:=hD.trans hd;replace hb:=hb2;clear hd hb2;have w1:IntKind.i64.wrap (v1-2)=v1-2:=Zt _ (by omega);go_wp2_with fail;refine(Uo (v1-2) (by omega) (by omega) _).mono ?_;rintro e u2 ⟨rfl,hx⟩;replace hE:=hE.trans hx;replace hD:=hD.trans (Dr.of_ex hx);replace hb:Rdr u2 bo A bs.length cap (a+1):=Box.ex hb hx;clear hx;have hzP:=Vl (n:=v1-2) (by omega) (by omega);obtain⟨P,hP⟩:∃S,S=Bs (Lib.itoa (v1-2)):=⟨_,rfl⟩
 rw[←hP];have hzP2:P.size≤4:=by rw[hP,Yu];exact hzP
 clear hP hzP;go_wp2_with fail;refine(HP.out (a+1) 2 _ hE hb (by omega) (by omega) (by omega)).mono ?_;rintro e u3 ⟨v2,rfl,hv2a,hv2b,hd,hb2⟩;replace hE:=hd.ex W hE hbo;replace hD:=hD.trans hd;replace hb:=hb2;clear hd hb2;have w2:IntKind.i64.wrap (1+v2)=1+v2:=Zt _ (by omega);go_wp2_with fail;refine(Uo (1+v2) (by omega) (by omega) _).mono ?_;rintro e u4 ⟨rfl,hx⟩;replace hE:=hE.trans hx;replace hD:=hD.trans (Dr.of_ex hx);replace hb:Rdr u4 bo A bs.length cap ((a+1)+1):=Box.ex hb hx;clear hx;have hzQ:=Vl (n:=1+v2) (by omega) (by omega);obtain⟨Q,hQ⟩:∃S,S=Bs (Lib.itoa (1+v2)):=⟨_,rfl⟩
 rw[←hQ];have hzQ2:Q.size≤4:=by rw[hQ,Yu];exact hzQ
 clear hQ hzQ;go_wp2_with fail;refine(HP.out ((a+1)+1) 5 _ hE hb (by omega) (by omega) (by omega)).mono ?_;rintro e u5 ⟨v3,rfl,hv3a,hv3b,hd,hb2⟩;replace hE:=hd.ex W hE hbo;replace hD:=hD.trans hd;replace hb:=hb2;clear hd hb2;obtain rfl|rfl|rfl|rfl|rfl:v3=0∨v3=1∨v3=2∨v3=3∨v3=4:=by omega
 ·go_wp2;go_ret;refine⟨_,_,rfl,?_,by omega,hD,hb⟩;simp only[ByteArray.size_append];have l1:(⟨#[58]⟩:ByteArray).size=1:=rfl;have l2:∀c:UInt8,(⟨#[c]⟩:ByteArray).size=1:=fun _=>rfl
  simp only[l2];omega
 ·go_wp2_with fail;refine(HP.out (((a+1)+1)+1) 4 _ hE hb (by omega) (by omega) (by omega)).mono ?_;rintro e u6 ⟨v4,rfl,hv4a,hv4b,hd,hb2⟩;replace hE:=hd.ex W hE hbo;replace hD:=hD.trans hd;replace hb:=hb2;clear hd hb2;go_wp2_with fail;refine(Uo (v4) (by omega) (by omega) _).mono ?_;rintro e u7 ⟨rfl,hx⟩;replace hE:=hE.trans hx;replace hD:=hD.trans (Dr.of_ex hx);replace hb:Rdr u7 bo A bs.length cap ((((a+1)+1)+1)+1):=Box.ex hb hx;clear hx;have hzR:=Vl (n:=v4) (by omega) (by omega);obtain⟨R,hR⟩:∃S,S=Bs (Lib.itoa (v4)):=⟨_,rfl⟩
  rw[←hR];have hzR2:R.size≤4:=by rw[hR,Yu];exact hzR
  clear hR hzR;go_wp2;go_ret;refine⟨_,_,rfl,?_,by omega,hD,hb⟩;simp only[ByteArray.size_append];have l1:(⟨#[58]⟩:ByteArray).size=1:=rfl;have l2:∀c:UInt8,(⟨#[c]⟩:ByteArray).size=1:=fun _=>rfl
  simp only[l2];omega
 ·go_wp2_with fail;refine(HP.out (((a+1)+1)+1) 4 _ hE hb (by omega) (by omega) (by omega)).mono ?_;rintro e u6 ⟨v4,rfl,hv4a,hv4b,hd,hb2⟩;replace hE:=hd.ex W hE hbo;replace hD:=hD.trans hd;replace hb:=hb2;clear hd hb2;go_wp2_with fail;refine(Uo (v4) (by omega) (by omega) _).mono ?_;rintro e u7 ⟨rfl,hx⟩;replace hE:=hE.trans hx;replace hD:=hD.trans (Dr.of_ex hx);replace hb:Rdr u7 bo A bs.length cap ((((a+1)+1)+1)+1):=Box.ex hb hx;clear hx;have hzR:=Vl (n:=v4) (by omega) (by omega);obtain⟨R,hR⟩:∃S,S=Bs (Lib.itoa (v4)):=⟨_,rfl⟩
  rw[←hR];have hzR2:R.size≤4:=by rw[hR,Yu];exact hzR
  clear hR hzR;go_wp2;go_ret;refine⟨_,_,rfl,?_,by omega,hD,hb⟩;simp only[ByteArray.size_append];have l1:(⟨#[58]⟩:ByteArray).size=1:=rfl;have l2:∀c:UInt8,(⟨#[c]⟩:ByteArray).size=1:=fun _=>rfl
  simp only[l2];omega
 ·go_wp2;go_ret;refine⟨_,_,rfl,?_,by omega,hD,hb⟩;simp only[ByteArray.size_append];have l1:(⟨#[58]⟩:ByteArray).size=1:=rfl;have l2:∀c:UInt8,(⟨#[c]⟩:ByteArray).size=1:=fun _=>rfl
  simp only[l2];omega
 ·go_wp2_with fail;refine(HP.out (((a+1)+1)+1) 4 _ hE hb (by omega) (by omega) (by omega)).mono ?_;rintro e u6 ⟨v4,rfl,hv4a,hv4b,hd,hb2⟩;replace hE:=hd.ex W hE hbo;replace hD:=hD.trans hd;replace hb:=hb2;clear hd hb2;have w3:IntKind.i64.wrap (1+v4)=1+v4:=Zt _ (by omega);have w4:IntKind.i64.wrap (1+v4+1)=1+v4+1:=Zt _ (by omega)
  skip
  rcases fb with _|_
  ·go_wp2_with fail;refine(HP.out ((((a+1)+1)+1)+1) (1+v4+1) _ hE hb (by omega) (by omega) (by omega)).mono ?_;rintro e u7 ⟨v5,rfl,hv5a,hv5b,hd,hb2⟩;replace hE:=hd.ex W hE hbo;replace hD:=hD.trans hd;replace hb:=hb2;clear hd hb2;go_wp2_with fail;refine(Uo (v5) (by omega) (by omega) _).mono ?_;rintro e u8 ⟨rfl,hx⟩;replace hE:=hE.trans hx;replace hD:=hD.trans (Dr.of_ex hx);replace hb:Rdr u8 bo A bs.length cap (((((a+1)+1)+1)+1)+1):=Box.ex hb hx;clear hx;have hzR:=Vl (n:=v5) (by omega) (by omega);obtain⟨R,hR⟩:∃S,S=Bs (Lib.itoa (v5)):=⟨_,rfl⟩
   rw[←hR];have hzR2:R.size≤4:=by rw[hR,Yu];exact hzR
   clear hR hzR;go_wp2_with fail;refine(Uo (1+v4) (by omega) (by omega) _).mono ?_;rintro e u9 ⟨rfl,hx⟩;replace hE:=hE.trans hx;replace hD:=hD.trans (Dr.of_ex hx);replace hb:Rdr u9 bo A bs.length cap (((((a+1)+1)+1)+1)+1):=Box.ex hb hx;clear hx;have hzT:=Vl (n:=1+v4) (by omega) (by omega);obtain⟨T,hT⟩:∃S,S=Bs (Lib.itoa (1+v4)):=⟨_,rfl⟩
   rw[←hT];have hzT2:T.size≤4:=by rw[hT,Yu];exact hzT
   clear hT hzT;go_wp2;go_ret;refine⟨_,_,rfl,?_,by omega,hD,hb⟩;simp only[ByteArray.size_append];have l1:(⟨#[58]⟩:ByteArray).size=1:=rfl;have l2:∀c:UInt8,(⟨#[c]⟩:ByteArray).size=1:=fun _=>rfl
   simp only[l2];omega
  ·go_wp2_with fail;refine(HP.out ((((a+1)+1)+1)+1) 2 _ hE hb (by omega) (by omega) (by omega)).mono ?_;rintro e u7 ⟨v5,rfl,hv5a,hv5b,hd,hb2⟩;replace hE:=hd.ex W hE hbo;replace hD:=hD.trans hd;replace hb:=hb2;clear hd hb2;by_cases h5:v5=0
   ·have h5b:(v5==0)=true:=by simpa using h5
    go_wp2_with fail;refine(HP.out (((((a+1)+1)+1)+1)+1) (1+v4+1) _ hE hb (by omega) (by omega) (by omega)).mono ?_;rintro e u8 ⟨v6,rfl,hv6a,hv6b,hd,hb2⟩;replace hE:=hd.ex W hE hbo;replace hD:=hD.trans hd;replace hb:=hb2;clear hd hb2;go_wp2_with fail;refine(Uo (v6) (by omega) (by omega) _).mono ?_;rintro e u9 ⟨rfl,hx⟩;replace hE:=hE.trans hx;replace hD:=hD.trans (Dr.of_ex hx);replace hb:Rdr u9 bo A bs.length cap ((((((a+1)+1)+1)+1)+1)+1):=Box.ex hb hx;clear hx;have hzR:=Vl (n:=v6) (by omega) (by omega);obtain⟨R,hR⟩:∃S,S=Bs (Lib.itoa (v6)):=⟨_,rfl⟩
    rw[←hR];have hzR2:R.size≤4:=by rw[hR,Yu];exact hzR
    clear hR hzR;go_wp2_with fail;refine(Uo (1+v4) (by omega) (by omega) _).mono ?_;rintro e u10 ⟨rfl,hx⟩;replace hE:=hE.trans hx;replace hD:=hD.trans (Dr.of_ex hx);replace hb:Rdr u10 bo A bs.length cap ((((((a+1)+1)+1)+1)+1)+1):=Box.ex hb hx;clear hx;have hzT:=Vl (n:=1+v4) (by omega) (by omega);obtain⟨T,hT⟩:∃S,S=Bs (Lib.itoa (1+v4)):=⟨_,rfl⟩
    rw[←hT];have hzT2:T.size≤4:=by rw[hT,Yu];exact hzT
    clear hT hzT;go_wp2;go_ret;refine⟨_,_,rfl,?_,by omega,hD,hb⟩;simp only[ByteArray.size_append];have l1:(⟨#[58]⟩:ByteArray).size=1:=rfl;have l2:∀c:UInt8,(⟨#[c]⟩:ByteArray).size=1:=fun _=>rfl
    simp only[l2];omega
   ·have h5b:(v5==0)=false:=by simpa using h5
    go_wp2_with fail;refine(HP.out (((((a+1)+1)+1)+1)+1) (1+v4+1) _ hE hb (by omega) (by omega) (by omega)).mono ?_;rintro e u8 ⟨v6,rfl,hv6a,hv6b,hd,hb2⟩;replace hE:=hd.ex W hE hbo;replace hD:=hD.trans hd;replace hb:=hb2;clear hd hb2;go_wp2_with fail;refine(Uo (v6) (by omega) (by omega) _).mono ?_;rintro e u9 ⟨rfl,hx⟩;replace hE:=hE.trans hx;replace hD:=hD.trans (Dr.of_ex hx);replace hb:Rdr u9 bo A bs.length cap ((((((a+1)+1)+1)+1)+1)+1):=Box.ex hb hx;clear hx;have hzR:=Vl (n:=v6) (by omega) (by omega);obtain⟨R,hR⟩:∃S,S=Bs (Lib.itoa (v6)):=⟨_,rfl⟩
    rw[←hR];have hzR2:R.size≤4:=by rw[hR,Yu];exact hzR
    clear hR hzR;go_wp2_with fail;refine(Uo (1+v4) (by omega) (by omega) _).mono ?_;rintro e u10 ⟨rfl,hx⟩;replace hE:=hE.trans hx;replace hD:=hD.trans (Dr.of_ex hx);replace hb:Rdr u10 bo A bs.length cap ((((((a+1)+1)+1)+1)+1)+1):=Box.ex hb hx;clear hx;have hzT:=Vl (n:=1+v4) (by omega) (by omega);obtain⟨T,hT⟩:∃S,S=Bs (Lib.itoa (1+v4)):=⟨_,rfl⟩
    rw[←hT];have hzT2:T.size≤4:=by rw[hT,Yu];exact hzT
    clear hT hzT;go_wp2;go_ret;refine⟨_,_,rfl,?_,by omega,hD,hb⟩;simp only[ByteArray.size_append];have l1:(⟨#[58]⟩:ByteArray).size=1:=rfl;have l2:∀c:UInt8,(⟨#[c]⟩:ByteArray).size=1:=fun _=>rfl
    simp only[l2];omega
end
section
open Go.RowKit

attribute [local go_sem] Zg Zf
theorem Zca:No #[.string ⟨#[32]⟩, .string ⟨#[120]⟩, .string ⟨#[114,48,58,48]⟩, .string ⟨#[32,119,49,58,49,58,52]⟩, .string ⟨#[32,97,51,58,50]⟩, .string ⟨#[32,102,48,49,58,49]⟩, .string ⟨#[32,114,45,48,58,49]⟩, .string ⟨#[32,100,49,58,48]⟩] 20:=by
  refine Ui (ss:=[⟨#[32]⟩,⟨#[120]⟩,⟨#[114,48,58,48]⟩,⟨#[32,119,49,58,49,58,52]⟩,⟨#[32,97,51,58,50]⟩,⟨#[32,102,48,49,58,49]⟩,⟨#[32,114,45,48,58,49]⟩,⟨#[32,100,49,58,48]⟩]) ?_;intro s hs;simp only[List.mem_cons,List.not_mem_nil,or_false] at hs;rcases hs with rfl|rfl|rfl|rfl|rfl|rfl|rfl|rfl<;>decide
theorem Zuu(fb:Bool){W:World}{A:Option Addr}{bs:List Int}(hB:Pl W A bs)(hl:bs.length≤2000)(bo cap a:Nat)(w:World)(hE:Ex W w)(hbo:W.heap.size≤bo)
    (hb:Rdr w bo A bs.length cap a) (ha:a≤800000):Calls prog 62 #[.pointer (some ⟨bo,0,none⟩),fb] w (Zad 200 60 bo A bs.length cap a w):=by
  have HP:=Zz (fun a m w hE hb ha hm hm2=>Fs hB hl bo cap a m w hE hbo hb ha hm hm2);have HPc:=Zz (fun a w hE hb ha=>Zuv fb hB hl bo cap a w hE hbo hb ha);have HOf:=Zz (fun a w hE hb ha g n m cs t hg hne hn h1 h2 hs=>Zei hB hl bo cap a w hE hbo hb ha g n m cs t hg hne hn h1 h2 hs);have hD:=Dr.refl bo w;clear hB hl;go_in;go_wp2_with fail;refine(HP.out a 4 _ hE hb (by omega) (by omega) (by omega)).mono ?_;rintro e u1 ⟨v1,rfl,hv1a,hv1b,hd,hb2⟩;replace hE:=hd.ex W hE hbo;replace hD:=hD.trans hd;replace hb:=hb2;clear hd hb2;obtain⟨n,rfl⟩:=Int.eq_ofNat_of_zero_le hv1a;have HE:=Zz hE;have HD:=Zz hD;have HR:=Zz hb;clear hE hD hb;go_wp2_with fail;go_loopw [7,5] (fun i o wr=>∃(k:Nat) (s:ByteArray) (a2:Nat),i= .int .i64 k∧o= .string s∧k≤n∧s.size≤21*k∧a2≤a+1+10*k∧Hid (Ex W wr)∧Hid (Dr bo w wr)∧Hid (Rdr wr bo A bs.length cap a2)) (fun i _ _=>5-(intOf i).toNat)
  case atStart=>exact⟨0,⟨#[]⟩,_,rfl,rfl,by omega,by decide,by omega,HE,HD,HR⟩
  case round=>
    clear HE HD HR;obtain⟨k,s,a2,rfl,rfl,hk,hs,ha2,HE,HD,HR⟩:=hrel;by_cases hlt:k<n
    · have hI:(k:Int)<(n:Int):=by omega
      have hwk:=wr1 k (by omega);rcases Nat.eq_zero_or_pos k with h0|h0
      · have h0b:¬(0:Int)<(k:Int):=by omega
        go_wp2_with fail;refine(HPc.out a2 _ HE.out HR.out (by omega)).mono ?_;rintro e u2 ⟨t,a3,rfl,ht,ha3,hd,hb2⟩;have HE2:=Zz (hd.ex W HE.out hbo);have HD2:=Zz (HD.out.trans hd);have HR2:=Zz hb2;clear hd hb2 HE HD HR;have hsz:(s++t).size≤21*(k+1):=by rw[ByteArray.size_append];omega
        go_wp2_with fail;go_roundw
        case rel=>exact⟨k+1,_,a3,by go_num,rfl,by omega,hsz,by omega,HE2,HD2,HR2⟩
        case measure=>simp[intOf]<;>omega
      · have h0b:(0:Int)<(k:Int):=by omega
        go_wp2_with fail;refine(HPc.out a2 _ HE.out HR.out (by omega)).mono ?_;rintro e u2 ⟨t,a3,rfl,ht,ha3,hd,hb2⟩;have HE2:=Zz (hd.ex W HE.out hbo);have HD2:=Zz (HD.out.trans hd);have HR2:=Zz hb2;clear hd hb2 HE HD HR;have hsz:(s++⟨#[32]⟩++t).size≤21*(k+1):=by
         have l2:∀c:UInt8,(⟨#[c]⟩:ByteArray).size=1:=fun _=>rfl
         rw[ByteArray.size_append,ByteArray.size_append,l2];omega
        go_wp2_with fail;go_roundw
        case rel=>exact⟨k+1,_,a3,by go_num,rfl,by omega,hsz,by omega,HE2,HD2,HR2⟩
        case measure=>simp[intOf]<;>omega
    · obtain rfl:k=n:=by omega
      have hI:¬(k:Int)<(k:Int):=by omega
      have hE:=HE.out;have hD:=HD.out;have hb:=HR.out;clear HE HD HR hlt;go_wp2_with fail;refine(HP.out a2 20 _ hE hb (by omega) (by omega) (by omega)).mono ?_;rintro e u6 ⟨v2,rfl,hv2a,hv2b,hd,hb2⟩;replace hE:=hd.ex W hE hbo;replace hD:=hD.trans hd;replace hb:=hb2;clear hd hb2;have hlt2:=hb.lt;by_cases h2:v2=0
      · have h2b:(v2==0)=true:=by simpa using h2
        go_wp2_with fail;refine(HOf.out (a2+1) _ (hE.alloc _) (Box.alloc hb _) (by omega) u6.heap.size 8 20 _ 9 (Box.new u6 _ _) (by omega) rfl (by omega) (by omega) Zca).mono ?_;rintro e u7 ⟨t,rfl,ht,hd,hb2⟩;go_wp2;go_ret;refine⟨_,_,rfl,?_,?_,hD.trans ((Dr.of_ex ((Ex.refl _).alloc _)).trans hd),hb2⟩
        · rw[ByteArray.size_append];omega
        · omega
      · have h2b:(v2==0)=false:=by simpa using h2
        go_wp2;go_ret;exact⟨_,_,rfl,by omega,by omega,hD,hb⟩
end
section
open Go.RowKit

attribute [local go_sem] Zg Zf
theorem Zql:No #[.string ⟨#[98,101,110,99,104,32]⟩, .string ⟨#[97,100,100,32]⟩] 10:=by
 refine Ui (ss:=[⟨#[98,101,110,99,104,32]⟩,⟨#[97,100,100,32]⟩]) ?_;intro s hs;simp only[List.mem_cons,List.not_mem_nil,or_false] at hs;rcases hs with rfl|rfl<;>decide
theorem Zeh:No #[.string ⟨#[50,32,49]⟩, .string ⟨#[49,32,49]⟩, .string ⟨#[48,32,48]⟩, .string ⟨#[120,32,49]⟩, .string ⟨#[49]⟩] 10:=by
 refine Ui (ss:=[⟨#[50,32,49]⟩,⟨#[49,32,49]⟩,⟨#[48,32,48]⟩,⟨#[120,32,49]⟩,⟨#[49]⟩]) ?_;intro s hs;simp only[List.mem_cons,List.not_mem_nil,or_false] at hs;rcases hs with rfl|rfl|rfl|rfl|rfl<;>decide
theorem Zqk:No #[.string ⟨#[49,32,48,32,48,32,49]⟩, .string ⟨#[49,32,48,32,49,32,48]⟩, .string ⟨#[50,32,45,49,32,48,32,51]⟩, .string ⟨#[48,32,48,32,48,32,48]⟩, .string ⟨#[49,32,50,32,51]⟩, .string ⟨#[120,32,48,32,48,32,48]⟩] 10:=by
 refine Ui (ss:=[⟨#[49,32,48,32,48,32,49]⟩,⟨#[49,32,48,32,49,32,48]⟩,⟨#[50,32,45,49,32,48,32,51]⟩,⟨#[48,32,48,32,48,32,48]⟩,⟨#[49,32,50,32,51]⟩,⟨#[120,32,48,32,48,32,48]⟩]) ?_;intro s hs;simp only[List.mem_cons,List.not_mem_nil,or_false] at hs;rcases hs with rfl|rfl|rfl|rfl|rfl|rfl<;>decide
theorem Zeg:No #[.string ⟨#[114,111,119,32]⟩, .string ⟨#[112,111,114,116,32]⟩] 10:=by
 refine Ui (ss:=[⟨#[114,111,119,32]⟩,⟨#[112,111,114,116,32]⟩]) ?_;intro s hs;simp only[List.mem_cons,List.not_mem_nil,or_false] at hs;rcases hs with rfl|rfl<;>decide
theorem Zef:No #[.string ⟨#[48]⟩, .string ⟨#[49]⟩, .string ⟨#[51]⟩, .string ⟨#[52]⟩, .string ⟨#[45,49]⟩] 10:=by
 refine Ui (ss:=[⟨#[48]⟩,⟨#[49]⟩,⟨#[51]⟩,⟨#[52]⟩,⟨#[45,49]⟩]) ?_;intro s hs;simp only[List.mem_cons,List.not_mem_nil,or_false] at hs;rcases hs with rfl|rfl|rfl|rfl|rfl<;>decide
theorem Zee:No #[.string ⟨#[49,32,48]⟩, .string ⟨#[50,32,49]⟩, .string ⟨#[48,32,48]⟩, .string ⟨#[49]⟩] 10:=by
 refine Ui (ss:=[⟨#[49,32,48]⟩,⟨#[50,32,49]⟩,⟨#[48,32,48]⟩,⟨#[49]⟩]) ?_;intro s hs;simp only[List.mem_cons,List.not_mem_nil,or_false] at hs;rcases hs with rfl|rfl|rfl|rfl<;>decide
theorem Zed:No #[.string ⟨#[]⟩, .string ⟨#[122,122,122]⟩, .string ⟨#[115,104,111,119,32,49]⟩, .string ⟨#[98,101,110,99,104]⟩, .string ⟨#[114,111,119]⟩, .string ⟨#[114,117,110,32]⟩, .string ⟨#[98,97,99,107,32,50]⟩] 10:=by
 refine Ui (ss:=[⟨#[]⟩,⟨#[122,122,122]⟩,⟨#[115,104,111,119,32,49]⟩,⟨#[98,101,110,99,104]⟩,⟨#[114,111,119]⟩,⟨#[114,117,110,32]⟩,⟨#[98,97,99,107,32,50]⟩]) ?_;intro s hs;simp only[List.mem_cons,List.not_mem_nil,or_false] at hs;rcases hs with rfl|rfl|rfl|rfl|rfl|rfl|rfl<;>decide
theorem Zec:No #[.string ⟨#[98,97,99,107]⟩, .string ⟨#[115,104,111,119]⟩, .string ⟨#[114,117,110]⟩, .string ⟨#[114,101,97,100]⟩, .string ⟨#[112,111,119,101,114]⟩, .string ⟨#[107,101,101,112,115]⟩, .string ⟨#[115,117,109]⟩] 10:=by
 refine Ui (ss:=[⟨#[98,97,99,107]⟩,⟨#[115,104,111,119]⟩,⟨#[114,117,110]⟩,⟨#[114,101,97,100]⟩,⟨#[112,111,119,101,114]⟩,⟨#[107,101,101,112,115]⟩,⟨#[115,117,109]⟩]) ?_;intro s hs;simp only[List.mem_cons,List.not_mem_nil,or_false] at hs;rcases hs with rfl|rfl|rfl|rfl|rfl|rfl|rfl<;>decide
theorem Zqj{W:World}{A:Option Addr}{bs:List Int}(hB:Pl W A bs)(hl:bs.length≤2000)(bo cap a:Nat)(w:World)(hE:Ex W w)(hbo:W.heap.size≤bo)
  (hb:Rdr w bo A bs.length cap a) (ha:a≤700000):Calls prog 22 #[.pointer (some ⟨bo,0,none⟩)] w (Zad 250 100 bo A bs.length cap a w):=by
 have HP:=Zz (fun a m w hE hb ha hm hm2=>Fs hB hl bo cap a m w hE hbo hb ha hm hm2);have HBe:=Zz (fun a w hE hb ha=>Zuu true hB hl bo cap a w hE hbo hb ha);have HOf:=Zz (fun a w hE hb ha g n m cs t hg hne hn h1 h2 hs=>Zei hB hl bo cap a w hE hbo hb ha g n m cs t hg hne hn h1 h2 hs);have hD:=Dr.refl bo w;clear hB hl;go_in;go_wp2_with fail;refine(HP.out a 12 _ hE hb (by omega) (by omega) (by omega)).mono ?_;rintro e u1 ⟨v1,rfl,hv1a,hv1b,hd,hb2⟩;replace hE:=hd.ex W hE hbo;replace hD:=hD.trans hd;replace hb:=hb2;clear hd hb2 HP;obtain rfl|rfl|rfl|rfl|rfl|rfl|rfl|rfl|h8:v1=0∨v1=1∨v1=2∨v1=3∨v1=4∨v1=5∨v1=6∨v1=7∨8≤v1:=by omega
 ·go_wp2_with fail;have hlts1:=hb.lt;refine(HOf.out (a+1) _ (hE.alloc _) (Box.alloc hb _) (by omega) u1.heap.size 2 10 _ 9 (Box.new u1 _ _) (by omega) rfl (by omega) (by omega) Zql).mono ?_;rintro e ws1 ⟨s1,rfl,hs1,hd,hb2⟩;replace hD:=hD.trans ((Dr.of_ex ((Ex.refl _).alloc _)).trans hd);replace hE:=hd.ex W (hE.alloc _) hbo;replace hb:=hb2;clear hd hb2 hlts1;go_wp2_with fail;refine(HBe.out (a+2) _ hE hb (by omega)).mono ?_;rintro e w2 ⟨s2,a2,rfl,hs2,ha2,hd,hb2⟩;replace hD:=hD.trans hd;replace hb:=hb2;clear hd hb2 HBe HOf;have hsz:(s1++s2).size≤250:=by rw[ByteArray.size_append];omega
  go_wp2;go_ret;exact⟨_,_,rfl,hsz,by omega,hD,hb⟩
 ·go_wp2_with fail;have hlts1:=hb.lt;refine(HOf.out (a+1) _ (hE.alloc _) (Box.alloc hb _) (by omega) u1.heap.size 2 10 _ 9 (Box.new u1 _ _) (by omega) rfl (by omega) (by omega) Zql).mono ?_;rintro e ws1 ⟨s1,rfl,hs1,hd,hb2⟩;replace hD:=hD.trans ((Dr.of_ex ((Ex.refl _).alloc _)).trans hd);replace hE:=hd.ex W (hE.alloc _) hbo;replace hb:=hb2;clear hd hb2 hlts1;go_wp2_with fail;refine(HBe.out (a+2) _ hE hb (by omega)).mono ?_;rintro e w2 ⟨s2,a2,rfl,hs2,ha2,hd,hb2⟩;replace hD:=hD.trans hd;replace hb:=hb2;clear hd hb2 HBe HOf;have hsz:(s1++s2).size≤250:=by rw[ByteArray.size_append];omega
  go_wp2;go_ret;exact⟨_,_,rfl,hsz,by omega,hD,hb⟩
 ·go_wp2_with fail;have hlts1:=hb.lt;refine(HOf.out (a+1) _ (hE.alloc _) (Box.alloc hb _) (by omega) u1.heap.size 5 10 _ 9 (Box.new u1 _ _) (by omega) rfl (by omega) (by omega) Zeh).mono ?_;rintro e ws1 ⟨s1,rfl,hs1,hd,hb2⟩;replace hD:=hD.trans ((Dr.of_ex ((Ex.refl _).alloc _)).trans hd);replace hE:=hd.ex W (hE.alloc _) hbo;replace hb:=hb2;clear hd hb2 hlts1;clear HBe HOf;have hsz:(⟨#[116,117,114,110,32]⟩++s1).size≤250:=by rw[ByteArray.size_append,show(⟨#[116,117,114,110,32]⟩:ByteArray).size=5 from rfl];omega
  go_wp2;go_ret;exact⟨_,_,rfl,hsz,by omega,hD,hb⟩
 ·go_wp2_with fail;have hlts1:=hb.lt;refine(HOf.out (a+1) _ (hE.alloc _) (Box.alloc hb _) (by omega) u1.heap.size 6 10 _ 9 (Box.new u1 _ _) (by omega) rfl (by omega) (by omega) Zqk).mono ?_;rintro e ws1 ⟨s1,rfl,hs1,hd,hb2⟩;replace hD:=hD.trans ((Dr.of_ex ((Ex.refl _).alloc _)).trans hd);replace hE:=hd.ex W (hE.alloc _) hbo;replace hb:=hb2;clear hd hb2 hlts1;clear HBe HOf;have hsz:(⟨#[108,105,103,104,116,32]⟩++s1).size≤250:=by rw[ByteArray.size_append,show(⟨#[108,105,103,104,116,32]⟩:ByteArray).size=6 from rfl];omega
  go_wp2;go_ret;exact⟨_,_,rfl,hsz,by omega,hD,hb⟩
 ·go_wp2_with fail;have hlts1:=hb.lt;refine(HOf.out (a+1) _ (hE.alloc _) (Box.alloc hb _) (by omega) u1.heap.size 6 10 _ 9 (Box.new u1 _ _) (by omega) rfl (by omega) (by omega) Zqk).mono ?_;rintro e ws1 ⟨s1,rfl,hs1,hd,hb2⟩;replace hD:=hD.trans ((Dr.of_ex ((Ex.refl _).alloc _)).trans hd);replace hE:=hd.ex W (hE.alloc _) hbo;replace hb:=hb2;clear hd hb2 hlts1;clear HBe HOf;have hsz:(⟨#[108,105,103,104,116,32]⟩++s1).size≤250:=by rw[ByteArray.size_append,show(⟨#[108,105,103,104,116,32]⟩:ByteArray).size=6 from rfl];omega
  go_wp2;go_ret;exact⟨_,_,rfl,hsz,by omega,hD,hb⟩
 ·go_wp2_with fail;have hlts1:=hb.lt;refine(HOf.out (a+1) _ (hE.alloc _) (Box.alloc hb _) (by omega) u1.heap.size 2 10 _ 9 (Box.new u1 _ _) (by omega) rfl (by omega) (by omega) Zeg).mono ?_;rintro e ws1 ⟨s1,rfl,hs1,hd,hb2⟩;replace hD:=hD.trans ((Dr.of_ex ((Ex.refl _).alloc _)).trans hd);replace hE:=hd.ex W (hE.alloc _) hbo;replace hb:=hb2;clear hd hb2 hlts1;go_wp2_with fail;have hlts2:=hb.lt;refine(HOf.out (a+2) _ (hE.alloc _) (Box.alloc hb _) (by omega) ws1.heap.size 5 10 _ 9 (Box.new ws1 _ _) (by omega) rfl (by omega) (by omega) Zef).mono ?_;rintro e ws2 ⟨s2,rfl,hs2,hd,hb2⟩;replace hD:=hD.trans ((Dr.of_ex ((Ex.refl _).alloc _)).trans hd);replace hE:=hd.ex W (hE.alloc _) hbo;replace hb:=hb2;clear hd hb2 hlts2;clear HBe HOf;have hsz:(s1++s2).size≤250:=by rw[ByteArray.size_append];omega
  go_wp2;go_ret;exact⟨_,_,rfl,hsz,by omega,hD,hb⟩
 ·go_wp2_with fail;have hlts1:=hb.lt;refine(HOf.out (a+1) _ (hE.alloc _) (Box.alloc hb _) (by omega) u1.heap.size 4 10 _ 9 (Box.new u1 _ _) (by omega) rfl (by omega) (by omega) Zee).mono ?_;rintro e ws1 ⟨s1,rfl,hs1,hd,hb2⟩;replace hD:=hD.trans ((Dr.of_ex ((Ex.refl _).alloc _)).trans hd);replace hE:=hd.ex W (hE.alloc _) hbo;replace hb:=hb2;clear hd hb2 hlts1;clear HBe HOf;have hsz:(⟨#[109,101,116,101,114,32]⟩++s1).size≤250:=by rw[ByteArray.size_append,show(⟨#[109,101,116,101,114,32]⟩:ByteArray).size=6 from rfl];omega
  go_wp2;go_ret;exact⟨_,_,rfl,hsz,by omega,hD,hb⟩
 ·go_wp2_with fail;have hlts1:=hb.lt;refine(HOf.out (a+1) _ (hE.alloc _) (Box.alloc hb _) (by omega) u1.heap.size 7 10 _ 9 (Box.new u1 _ _) (by omega) rfl (by omega) (by omega) Zed).mono ?_;rintro e ws1 ⟨s1,rfl,hs1,hd,hb2⟩;replace hD:=hD.trans ((Dr.of_ex ((Ex.refl _).alloc _)).trans hd);replace hE:=hd.ex W (hE.alloc _) hbo;replace hb:=hb2;clear hd hb2 hlts1;clear HBe HOf;go_wp2;go_ret;exact⟨_,_,rfl,by omega,by omega,hD,hb⟩
 ·have n0:(v1==0)=false:=by rw[beq_eq_false_iff_ne];omega
  have n1:(v1==1)=false:=by rw[beq_eq_false_iff_ne];omega
  have n2:(v1==2)=false:=by rw[beq_eq_false_iff_ne];omega
  have n3:(v1==3)=false:=by rw[beq_eq_false_iff_ne];omega
  have n4:(v1==4)=false:=by rw[beq_eq_false_iff_ne];omega
  have n5:(v1==5)=false:=by rw[beq_eq_false_iff_ne];omega
  have n6:(v1==6)=false:=by rw[beq_eq_false_iff_ne];omega
  have n7:(v1==7)=false:=by rw[beq_eq_false_iff_ne];omega
  go_wp2_with fail;have hlts1:=hb.lt;refine(HOf.out (a+1) _ (hE.alloc _) (Box.alloc hb _) (by omega) u1.heap.size 7 10 _ 9 (Box.new u1 _ _) (by omega) rfl (by omega) (by omega) Zec).mono ?_;rintro e ws1 ⟨s1,rfl,hs1,hd,hb2⟩;replace hD:=hD.trans ((Dr.of_ex ((Ex.refl _).alloc _)).trans hd);replace hE:=hd.ex W (hE.alloc _) hbo;replace hb:=hb2;clear hd hb2 hlts1;clear HBe HOf;go_wp2;go_ret;exact⟨_,_,rfl,by omega,by omega,hD,hb⟩
theorem Zil(n z o:Nat):(o+(if n % 2=1 then z else 0))+n / 2*(z+z)=o+n*z:=by
 have h:n*z=(2*(n / 2)+n % 2)*z:=by rw[Nat.div_add_mod]
 rw[h,Nat.add_mul,Nat.mul_assoc,Nat.mul_add];rcases Nat.mod_two_eq_zero_or_one n with e|e
 ·rw[e];simp;omega
 ·rw[e];simp;omega
theorem Zeb{n z:Nat}(h:0<n):z≤n*z:=Nat.le_mul_of_pos_left z h
theorem Zmr(S:ByteArray)(n:Nat)(hn:n≤1000)(hz:n*S.size≤1000)(hs:S.size≤1000)(w:World):Calls prog 23 #[S,n] w (fun e w'=>(∃T:ByteArray,e= .returned (.string T)∧T.size≤1000)∧Ex w w'):=by
 go_in;have HZ:=Zz hz;clear hz;go_wp2_with fail;go_loopw [5,0,1] (fun o s n wr=>∃(T S:ByteArray) (k:Nat),o= .string T∧s= .string S∧n= .int .i64 k∧k≤1000∧S.size≤2000∧Hid (T.size+k*S.size≤1000)∧wr=w) (fun _ _ n _=>(intOf n).toNat)
 case atStart=>exact⟨_,S,n,rfl,rfl,rfl,hn,by omega,Zz (by have:=HZ.out;rw[show(⟨#[]⟩:ByteArray).size=0 from rfl];omega),rfl⟩
 case round=>
  clear HZ hn hs;obtain⟨T,S,k,rfl,rfl,rfl,hk,hs,HT,rfl⟩:=hrel;by_cases h0:0<k
  ·have hI:(0:Int)<(k:Int):=by omega
   have h1:T.size+S.size≤1000:=by have:=HT.out;have:=Zeb (z:=S.size) h0;omega
   have hsz:(T++S).size≤1000:=by rw[ByteArray.size_append];exact h1
   have hsz2:(S++S).size≤2000:=by rw[ByteArray.size_append];omega
   have hw:IntKind.i64.wrap ((k:Int) / 2)=((k / 2:Nat):Int):=by rw[Zt _ (by omega)];omega
   have hst:=Zil k S.size T.size;rcases Nat.mod_two_eq_zero_or_one k with e|e
   ·have hm:((k:Int) % 2==1)=false:=by rw[beq_eq_false_iff_ne];omega
    rw[e] at hst;have HT2:Hid (T.size+k / 2*(S++S).size≤1000):=Zz (by rw[ByteArray.size_append];have:=HT.out;simp at hst;omega);clear hst e;go_wp2;go_roundw
    case rel=>exact⟨T,S++S,k / 2,rfl,rfl,by go_num,by omega,hsz2,HT2,by trivial⟩
    case measure=>simp[intOf]<;>omega
   ·have hm:((k:Int) % 2==1)=true:=by rw[beq_iff_eq];omega
    rw[e] at hst;have HT2:Hid ((T++S).size+k / 2*(S++S).size≤1000):=Zz (by rw[ByteArray.size_append,ByteArray.size_append];have:=HT.out;simp at hst;omega);clear hst e;go_wp2;go_roundw
    case rel=>exact⟨T++S,S++S,k / 2,rfl,rfl,by go_num,by omega,hsz2,HT2,by trivial⟩
    case measure=>simp[intOf]<;>omega
  ·have hI:¬(0:Int)<(k:Int):=by omega
   have HT2:Hid (T.size≤1000):=Zz (by have:=HT.out;omega);clear HT h0;go_wp2;refine Zu (v:= .string T) ?_ rfl ⟨⟨T,rfl,HT2.out⟩,Ex.refl _⟩;simp[results,results23,go_sem]
def DrwX(w:World):Ending→World→Prop:=fun e w'=>∃s:ByteArray,e= .returned (.string s)∧s.size≤4000∧Ex w w'
theorem Jd(A:Option Addr)(xs:List Int)(cap:Nat)(w:World)(hB:Pl w A xs)(hl:xs.length≤9223372036854775807)(hcap:xs.length≤cap)(hcap2:cap≤9223372036854775807):
  Calls prog 8 #[.slice A xs.length cap] w (DrwX w):=by
 have KO:=Zz (fun w hB=>Zms A xs cap w hB hl hcap hcap2);go_in;go_wp2_with fail;refine(KO.out _ hB).mono ?_;rintro e u1 ⟨bs,cap2,rfl,hBs,hbl,hb,hE, -⟩;clear KO hB hl hcap hcap2;have HP:=Zz (fun a m u hE hb ha hm hm2=>Fs hBs hbl w.heap.size cap2 a m u hE (Nat.le_refl _) hb ha hm hm2);have HLi:=Zz (fun a u hE hb ha=>Zqj hBs hbl w.heap.size cap2 a u hE (Nat.le_refl _) hb ha);clear hBs hbl;go_wp2_with fail;refine(HP.out 0 9 _ hE hb (by omega) (by omega) (by omega)).mono ?_;rintro e u2 ⟨v1,rfl,hv1a,hv1b,hd,hb2⟩;replace hE:=hd.ex w hE (Nat.le_refl _);replace hb:=hb2;clear hd hb2;obtain⟨n,rfl⟩:=Int.eq_ofNat_of_zero_le hv1a;have hn:n<9:=by omega
 clear hv1a hv1b;have HE:=Zz hE;have HR:=Zz hb;clear hE hb;go_wp2_with fail;go_loopw [6,4] (fun i o wr=>∃(k:Nat) (s:ByteArray) (a2:Nat),i= .int .i64 k∧o= .string s∧k≤n∧s.size≤251*k∧a2≤1+100*k∧Hid (Ex w wr)∧Hid (Rdr wr w.heap.size _ _ cap2 a2)) (fun i _ _=>10-(intOf i).toNat)
 case atStart=>exact⟨0,⟨#[]⟩,_,rfl,rfl,by omega,by decide,by omega,HE,HR⟩
 case round=>
  clear HE HR;obtain⟨k,s,a2,rfl,rfl,hk,hs,ha2,HE,HR⟩:=hrel;by_cases hlt:k<n
  ·have hI:(k:Int)<(n:Int):=by omega
   have hwk:=wr1 k (by omega);go_wp2_with fail;refine(HLi.out a2 _ HE.out HR.out (by omega)).mono ?_;rintro e u3 ⟨t,a3,rfl,ht,ha3,hd,hb2⟩;have HE2:=Zz (hd.ex w HE.out (Nat.le_refl _));have HR2:=Zz hb2;clear hd hb2 HE HR;have hz1:(s++t).size≤251*k+250:=by rw[ByteArray.size_append];omega
   have hsz:(s++t++⟨#[10]⟩).size≤251*(k+1):=by rw[ByteArray.size_append,show(⟨#[10]⟩:ByteArray).size=1 from rfl];omega
   go_wp2_with fail;go_roundw
   case rel=>exact⟨k+1,_,a3,by go_num,rfl,by omega,hsz,by omega,HE2,HR2⟩
   case measure=>simp[intOf]<;>omega
  ·obtain rfl:k=n:=by omega
   have hI:¬(k:Int)<(k:Int):=by omega
   have hE:=HE.out;have hb:=HR.out;clear HE HR hlt HLi;go_wp2_with fail;refine(HP.out a2 24 _ hE hb (by omega) (by omega) (by omega)).mono ?_;rintro e u6 ⟨v2,rfl,hv2a,hv2b,hd,hb2⟩;replace hE:=hd.ex w hE (Nat.le_refl _);clear hd hb2 hb HP;obtain rfl|rfl|h2:v2=0∨v2=1∨2≤v2:=by omega
   ·have hsz:(s++⟨#[115,104,111,119]⟩).size≤4000:=by rw[ByteArray.size_append,show(⟨#[115,104,111,119]⟩:ByteArray).size=4 from rfl];omega
    go_wp2;go_ret;exact⟨_,rfl,hsz,hE⟩
   ·go_wp2_with fail;refine(Zmr ⟨#[115,104,111,119,10]⟩ 150 (by omega) (by decide) (by decide) _).mono ?_;rintro e u7 ⟨⟨T,rfl,hT⟩,hx⟩;have hsz:(s++T).size≤4000:=by rw[ByteArray.size_append];omega
    go_wp2;go_ret;exact⟨_,rfl,hsz,hE.trans hx⟩
   ·have n0:(v2==0)=false:=by rw[beq_eq_false_iff_ne];omega
    have n1:(v2==1)=false:=by rw[beq_eq_false_iff_ne];omega
    go_wp2;go_ret;exact⟨_,rfl,by omega,hE⟩
end
end Go.Proofs.YtiommfmaleeibaaGreatDoor
