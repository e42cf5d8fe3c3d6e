/-
  Proved:what functions compute,part 21. No condition.
-/
import Derived.Test.YtiommfmaleeibaaGreatDoorB16
import Derived.Shelf.Strings.SlTrimAscii
import Derived.Lib.Join
set_option linter.unusedSimpArgs false
set_option linter.unusedVariables false
set_option maxRecDepth 20000
set_option maxHeartbeats 8000000
namespace Go.Proofs.YtiommfmaleeibaaGreatDoor
open Go.Proofs.Tryz
section
open Go.RowKit

attribute [local go_sem] Zg Zf
theorem Zou(k:UInt8)(t:Ub)(ht0:t≠[])(hk119:k=119)(hl:(k::t).length≤1048576)(w:World):Calls prog 167 #[(Bs (k::t))] w (Ho w (k::t)):=by
 have HK119:=Zz hk119;clear hk119;have hlt:t.length≤1048576:=by simp at hl;omega
 have hx1:=Ou k t;obtain⟨S,HS⟩:=nm (Bs (k::t));have hsz:S.size=t.length+1:=by rw[HS.out];rfl
 obtain⟨hs0,hk0⟩:∃hs:0<S.size,S[0]'hs=k:=by
  obtain⟨h1,h2⟩:=Rq HS.out (i:=0) (by simp);exact⟨h1,h2⟩
 rw[←HS.out] at hx1 ⊢;have ks:=fun w=>Zmc t hlt w
 have HW:Hid (∀x∈cds t,x.length≤1048576):=Zz fun x hx=>by
  have h1:=Sr t x hx;omega
 have HCL:Hid ((cds t).length≤1048576):=Zz (by have h1:=Nb t;simp only[List.length_cons] at hl;omega);have hs2:¬(S.size:Int)<2:=by
  have:t.length≠0:=fun e=>ht0 (List.length_eq_zero_iff.1 e)
  omega
 generalize hT:Bs t=T at hx1 ks;have KS:=Zz ks;have HX1:=Zz hx1;clear ks hT ht0;obtain⟨hS,hC⟩:=s0 w;go_in;go_upto_region 4 with fail;have bR:=((Box.new w #[.int .u8 0, .slice none 0 0] 193).alloc (.cells #[] 3)).alloc (.cells #[.int .u8 (k.toNat:Int), .slice (some ⟨w.heap.size+1,0,none⟩) 0 0] 193);have bP:=Box.new ((w.alloc (.cells #[.int .u8 0, .slice none 0 0] 193)).alloc (.cells #[] 3)) #[.int .u8 (k.toNat:Int), .slice (some ⟨w.heap.size+1,0,none⟩) 0 0] 193;have hO0:=(Hc (w.alloc (.cells #[.int .u8 0, .slice none 0 0] 193)) (w.heap.size+1) (by simp)).alloc (.cells #[.int .u8 (k.toNat:Int), .slice (some ⟨w.heap.size+1,0,none⟩) 0 0] 193);simp only[Zy] at bP hO0;have hE1:Ex w (((w.alloc (.cells #[.int .u8 0, .slice none 0 0] 193)).alloc (.cells #[] 3)).alloc (.cells #[.int .u8 (k.toNat:Int), .slice (some ⟨w.heap.size+1,0,none⟩) 0 0] 193)):=(((Ex.refl w).alloc _).alloc _).alloc _;have hz1:(((w.alloc (.cells #[.int .u8 0, .slice none 0 0] 193)).alloc (.cells #[] 3)).alloc (.cells #[.int .u8 (k.toNat:Int), .slice (some ⟨w.heap.size+1,0,none⟩) 0 0] 193)).heap.size=w.heap.size+3:=by simp only[Zy]
 generalize ((w.alloc (.cells #[.int .u8 0, .slice none 0 0] 193)).alloc (.cells #[] 3)).alloc (.cells #[.int .u8 (k.toNat:Int), .slice (some ⟨w.heap.size+1,0,none⟩) 0 0] 193)=W1 at*;clear hC hS hk0;have hs1:(1:Int)≤(S.size:Int):=by omega
 clear hsz hl hlt;go_wp2_with fail;refine(KS.out _).mono ?_;rintro e W2 ⟨g,gc,cur,rfl,hg,bG,HG,hx⟩;replace bR:=bR.ex hx;replace bP:=bP.ex hx;have hO1:=hO0.ex hx;have hE2:=hE1.trans hx;have hz2:=hx.size;clear hx hE1 KS hO0;go_wp2_with fail;go_loopw [6,7,8] (fun i n o wr=>∃(j:Nat) (A:Option Addr) (cap:Nat) (ns:List Int),i= .int .i64 j∧j≤(cds t).length∧Hid (Xg Xt ((cds t).take j)=some ns)∧Box wr (w.heap.size+2) 193 #[.int .u8 (k.toNat:Int), .slice A ns.length cap]∧
   Box wr w.heap.size 193 #[.int .u8 0, .slice none 0 0]∧Box wr g 9 cur∧Hid (Un wr (w.heap.size+1) A cap ns)∧Hid (Ex w wr)) (fun i _ _ _=>(cds t).length+1-(intOf i).toNat)
 case atStart=>exact⟨0,some ⟨w.heap.size+1,0,none⟩,0,[],rfl,by omega,Zz rfl,bP,bR,bG,Zz hO1,Zz hE2⟩
 case round=>
  clear bP bR bG hO1 hE2 hz2;obtain⟨j,A,cap,ns,rfl,hj,HN,bP,bR,bG,HO,HE⟩:=hrel;have hnl:ns.length≤1048576:=by
   have h1:=Wd HN.out;have h2:=List.length_take_le j (cds t);have h3:=HCL.out;omega
  by_cases hlt:j<(cds t).length
  ·have hcell:=HG.out j hlt;have hmem:(cds t)[j]∈cds t:=List.getElem_mem hlt;have hxl:=HW.out _ hmem;have HMs:Hid (Xg Xt ((cds t).take (j+1))=Xg Xt ((cds t).take j++[(cds t)[j]])):=Zz (by rw[Xf hlt]);generalize (cds t)[j]=x at*;have kp:=fun w=>Ov x hxl w
   have hlI:(j:Int)<((cds t).length:Int):=by omega
   have hw5:=wr1 j (by have:=HCL.out;omega);obtain⟨X,HX⟩:=nm (Bs x);rw[←HX.out] at hcell kp;have KP:=Zz kp;have HMem:=Zz hmem;have cG:=bG.cell;have zG:=bG.lt;clear kp hmem hxl;go_wp2_with fail;refine(KP.out _).mono ?_;rintro e w2 ⟨n,ok,rfl,hx,hn⟩;have HNn:=Zz hn;replace bP:=bP.ex hx;replace bR:=bR.ex hx;replace bG:=bG.ex hx;have HE2:=Zz (HE.out.trans hx);have HO2:=Zz (HO.out.ex hx);clear hx hn cG zG KP hcell;have cP:=bP.cell;have fP:=bP.frozen;have zP:=bP.lt;have cR:=bR.cell;have fR:=bR.frozen;have zR:=bR.lt;rcases ok with _|_
   ·have HNo:Hid (Yl (k::t)=none):=Zz (Ox HMem.out HNn.out);go_wp2;refine Zu ?_ rfl (.inr ⟨k.toNat,A,ns.length,cap,HNo.out,rfl,?_⟩)
    ·simp[results,results167,go_sem,cP,cR]
    ·have hE:=HE2.out;(have:=Exi.mk hE;exact Exi.out)
   ·have hs2:=HE2.out.size;go_wp2_with (at_builtin;refine Vj rfl _ _ w2 rfl (w.heap.size+1) A cap ns n rfl HO2.out rfl hnl (by omega) ?_);intro A' cap' w' hown' hk';have HE3:=Zz (hk'.ex w HE2.out (by omega));replace bP:=hk'.box _ _ _ bP (by decide);replace bR:=hk'.box _ _ _ bR (by decide);replace bG:=hk'.box _ _ _ bG (by decide);have HO3:=Zz hown';have cP:=bP.cell;have fP:=bP.frozen;have zP:=bP.lt;clear hown' hk' HO2 HE2 cR fR zR;have HN3:Hid (Xg Xt ((cds t).take (j+1))=some (ns++[n])):=Zz (by rw[HMs.out];exact Ve HNn.out HN.out);clear HNn HMs;go_wp2;have bP3:Box (w'.setCell ⟨w.heap.size+2,1,none⟩ (.slice A' (ns.length+1) cap')) (w.heap.size+2) 193 #[.int .u8 (k.toNat:Int), .slice A' (ns++[n]).length cap']:=by
     have h:=bP.set_ 1 (.slice A' (ns.length+1) cap');simpa using h
    have bR3:=bR.far (p:=⟨w.heap.size+2,1,none⟩) (by simp) (.slice A' (ns.length+1) cap');have bG3:=bG.far (p:=⟨w.heap.size+2,1,none⟩) (by simp;omega) (.slice A' (ns.length+1) cap');have HO4:Hid (Un _ (w.heap.size+1) A' cap' (ns++[n])):=Zz (Own.setCell (p:=⟨w.heap.size+2,1,none⟩) HO3.out (fun g hg e=>by subst e;exact Own.ne HO3.out bP (by decide) hg.symm) (.slice A' (ns.length+1) cap'));have HE4:=Zz (HE3.out.setCell (p:=⟨w.heap.size+2,1,none⟩) (by simp) (.slice A' (ns.length+1) cap'));go_roundw
    case rel=>exact⟨j+1,A',cap',ns++[n],by go_num,by omega,HN3,bP3,bR3,bG3,HO4,HE4⟩
    case measure=>simp[intOf]<;>omega
  ·
   have hk119:=HK119.out;obtain rfl:j=(cds t).length:=by omega
   have hlI:¬((cds t).length:Int)<((cds t).length:Int):=by omega
   have HNN:Hid (Xg Xt (cds t)=some ns):=Zz (by have:=HN.out;rwa[List.take_length] at this);clear HN HG bG hj hnl HW HX1;clear hlt;go_upto_region 12 with fail;clear hlI;have ek:((k.toNat:Nat):Int)=119:=by rw[hk119];rfl
   rw[ek] at bP;have EK:=Zz ek;clear ek;by_cases hn:ns.length=3
   ·obtain⟨p,q,m,rfl⟩:=Zbs hn;clear hn;obtain⟨ga,ca,rfl,hga,bA,hca⟩:=Own.box HO.out (by simp);clear HO;simp only[List.length_cons,List.length_nil,Nat.reduceAdd] at bP;have d0:ca[0]? =some (.int .i64 p):=(hca 0 (by simp)).trans rfl;have d1:ca[1]? =some (.int .i64 q):=(hca 1 (by simp)).trans rfl;have d2:ca[2]? =some (.int .i64 m):=(hca 2 (by simp)).trans rfl;have HCA:Hid (∀j,j<[p,q,m].length→ca[j]? =some (.int .i64 ([p,q,m].getD j 0))):=Zz fun j hj=>by
     simp only[List.length_cons,List.length_nil,Nat.reduceAdd] at hj;obtain rfl|rfl|rfl:j=0∨j=1∨j=2:=by omega
     ·exact d0
     ·exact d1
     ·exact d2
    clear hca;have kd:=fun w=>Rh p q w
    rcases hd:Wl p q with _|_
    ·simp only[Rf,hd,Bool.false_eq_true,if_false,Fr.v,Fr.none] at kd;have HP:Hid (Yl (k::t)=none):=Zz (by rw[Xv HNN.out,hk119];simp[Wx,hd]);clear HNN;clear hk119;clear hd;have KD:=Zz kd;clear kd;have hS:Zo w wr _:=Zo.put (Zo.put (⟨HE.out,trivial⟩:Zo w wr []) bR) bP;replace hS:=Zo.put hS bA;have hC:=hS.rd;simp only[Zr,Zq] at hC;have hE:=hS.ex;go_upto_region 23 with fail;clear hC hE;have hS0:=hS;refine Kg hS0 13 1 30 13 14 91 92 Oa Oa Oa Oa (by kernel_rfl) rfl ?_;iterate 8 (apply Zp;rfl;intro b u B Q q;have hS:=B.sees;have hC:=hS.rd;simp only[Zr,Zq] at hC;go_wp2;exact q _ (Ex.refl _) B;exact⟨_,rfl⟩)
     (apply Zp;rfl;intro b u B Q q;go_wp2_with (with_reducible refine Yw (KD.out _) fun wn hx=>?_);exact q _ hx (B.go hx);exact⟨_,rfl⟩);iterate 4 (apply Zp;rfl;intro b u B Q q;go_wp2;exact q _ (Ex.refl _) B;exact⟨_,rfl⟩)
     refine Zn ⟨⟨_,rfl,Yt⟩,⟨_,rfl,Yt⟩,⟨_,rfl,Wy Ym rfl (by kernel_rfl)⟩,⟨_,rfl,Wy Ym rfl (by kernel_rfl)⟩,show(13:Nat)<128 by decide,show(14:Nat)<128 by decide,fun g0 g1 wz hg0 hg1 hS=>?_⟩;simp only[Act.put,Zx,Zw,Zv,Nat.reduceAdd,List.drop_succ_cons,List.drop_zero];clear hS0;replace hS:=hS.tail.tail;clear hg0 hg1;have hC:=hS.rd;simp only[Zr,Zq] at hC;have hE:=hS.ex;have hbA:=hS.boxes.1;have hl1:=hS.boxes.2.1.lt;go_upto_region 24 with fail;clear hC hE hbA hl1;refine Hw (fun b w2=>Zo w w2 [(ga,3,ca),(w.heap.size+2,193,#[.int .u8 119, .slice (some ⟨ga,0,none⟩) 3 cap]),(w.heap.size,193,if b then #[.int .u8 119, .slice (some ⟨ga,0,none⟩) 3 cap] else #[.int .u8 0, .slice none 0 0])]) false (by kernel_rfl) (hS.drewW) ?_;iterate 3 (apply Zp;rfl;intro b u B Q q;have hS:=B;have hC:=hS.rd;simp only[Zr,Zq] at hC;go_wp2;exact q _ trivial B;exact⟨_,rfl⟩)
     refine Yv (by rfl) (by simp only[Act.put,Zx,Zw,Zv];rfl) ?_;refine Yv (by rfl) (by simp only[Act.put,Zx,Zw,Zv];rfl) ?_;refine Yv (by rfl) (by simp only[Act.put,Zx,Zw,Zv];rfl) ?_;refine Yv (by rfl) (by simp only[Act.put,Zx,Zw,Zv];rfl) ?_;refine Yv (by rfl) (by simp only[Act.put,Zx,Zw,Zv];rfl) ?_;(apply Zp;rfl;intro b u B Q q;go_wp2;exact q _ trivial B;exact⟨_,rfl⟩);apply Zi (d:=true)
     ·rfl
     ·intro b wb hB Q1 hQ1;have hB2:=Zo.ret2 (by omega) (by omega) hB;have hS:=hB;have hC:=hS.rd;simp only[Zr,Zq] at hC;rcases b with _|_
      ·simp only[Bool.false_eq_true,if_false] at hC;go_wp2_with fail;exact hQ1 _ trivial hB2
      ·simp only[if_true] at hC;go_wp2_with fail;exact hQ1 _ trivial hB2
     ·exact⟨undef,rfl⟩
     (apply Zp;rfl;intro b u B Q q;go_wp2;exact q _ trivial B;exact⟨_,rfl⟩);refine Zn ?_;intro wy hy;simp only[Bool.or_true,Bool.or_false,Bool.false_or,if_true] at hy;have hC:=hy.rd;simp only[Zr,Zq] at hC;have hE:=hy.ex;have hbA:=hy.boxes.1;have hl1:=hy.boxes.2.1.lt;go_wp2_with fail;refine Zu ?_ rfl (.inr ⟨(k.toNat:Int),(some ⟨ga,0,none⟩),3,cap,HP.out,rfl,?_⟩)
     ·simp[results,results167,go_sem,hC,EK.out]
     ·(have:=Exi.mk hE;exact Exi.out)
    ·simp only[Rf,hd,if_true,Fr.v] at kd;generalize Tm p q=c at kd;generalize Tl p q=e at kd;obtain⟨c1,c2,c3⟩:=c;obtain⟨e1,e2,e3⟩:=e;simp only at kd;rcases hm:Xw m 0 3 with _|_
     all_goals
      first|(have hq:Xw m 0 3=false:=hm;clear hq;have HP:Hid (Yl (k::t)=none):=Zz (by rw[Xv HNN.out,hk119];simp[Wx,hd,hm]))|(have HP:Hid (Yl (k::t)=some (k,[p,q,m])):=Zz (by rw[Xv HNN.out,hk119];simp[Wx,hd,hm]))
      clear HNN;clear hk119;have kw:=fun w=>Tf m 0 3 w
      rw[hm] at kw;clear hm;have KW:=Zz kw;clear kw;clear hd;have KD:=Zz kd;clear kd;have hS:Zo w wr _:=Zo.put (Zo.put (⟨HE.out,trivial⟩:Zo w wr []) bR) bP;replace hS:=Zo.put hS bA;have hC:=hS.rd;simp only[Zr,Zq] at hC;have hE:=hS.ex;go_upto_region 23 with fail;clear hC hE;have hS0:=hS;refine Kg hS0 13 1 30 13 14 91 92 Oa Oa #[c1,c2,c3] #[e1,e2,e3] (by kernel_rfl) rfl ?_;iterate 8 (apply Zp;rfl;intro b u B Q q;have hS:=B.sees;have hC:=hS.rd;simp only[Zr,Zq] at hC;go_wp2;exact q _ (Ex.refl _) B;exact⟨_,rfl⟩)
      (apply Zp;rfl;intro b u B Q q;go_wp2_with (with_reducible refine Yw (KD.out _) fun wn hx=>?_);exact q _ hx (B.go hx);exact⟨_,rfl⟩);iterate 4 (apply Zp;rfl;intro b u B Q q;go_wp2;exact q _ (Ex.refl _) B;exact⟨_,rfl⟩)
      refine Zn ⟨⟨_,rfl,Yt⟩,⟨_,rfl,Yt⟩,⟨_,rfl,Wy Ym rfl (by kernel_rfl)⟩,⟨_,rfl,Wy Ym rfl (by kernel_rfl)⟩,show(13:Nat)<128 by decide,show(14:Nat)<128 by decide,fun g0 g1 wz hg0 hg1 hS=>?_⟩;simp only[Act.put,Zx,Zw,Zv,Nat.reduceAdd,List.drop_succ_cons,List.drop_zero];clear hS0;replace hS:=hS.tail.tail;clear hg0 hg1;have hC:=hS.rd;simp only[Zr,Zq] at hC;have hE:=hS.ex;have hbA:=hS.boxes.1;have hl1:=hS.boxes.2.1.lt;go_upto_region 24 with fail;clear hC hE hbA hl1;refine Hw (fun b w2=>Zo w w2 [(ga,3,ca),(w.heap.size+2,193,#[.int .u8 119, .slice (some ⟨ga,0,none⟩) 3 cap]),(w.heap.size,193,if b then #[.int .u8 119, .slice (some ⟨ga,0,none⟩) 3 cap] else #[.int .u8 0, .slice none 0 0])]) false (by kernel_rfl) (hS.drewW) ?_;iterate 7 (apply Zp;rfl;intro b u B Q q;have hS:=B;have hC:=hS.rd;simp only[Zr,Zq] at hC;go_wp2;exact q _ trivial B;exact⟨_,rfl⟩)
      iterate 2 (apply Zp;rfl;intro b u B Q q;go_wp2_with ((with_reducible refine(KW.out _).mono ?_);rintro e wn ⟨rfl,rfl⟩);exact q _ trivial B;exact⟨_,rfl⟩)
      apply Zi (d:=true)
      ·rfl
      ·intro b wb hB Q1 hQ1;have hB2:=Zo.ret2 (by omega) (by omega) hB;have hS:=hB;have hC:=hS.rd;simp only[Zr,Zq] at hC;rcases b with _|_
       ·simp only[Bool.false_eq_true,if_false] at hC;go_wp2_with fail;exact hQ1 _ trivial hB2
       ·simp only[if_true] at hC;go_wp2_with fail;exact hQ1 _ trivial hB2
      ·exact⟨undef,rfl⟩
      (apply Zp;rfl;intro b u B Q q;go_wp2;exact q _ trivial B;exact⟨_,rfl⟩);refine Zn ?_;intro wy hy;simp only[Bool.or_true,Bool.or_false,Bool.false_or,if_true] at hy;have hC:=hy.rd;simp only[Zr,Zq] at hC;have hE:=hy.ex;have hbA:=hy.boxes.1;have hl1:=hy.boxes.2.1.lt;go_wp2_with fail
     ·refine Zu ?_ rfl (.inr ⟨(k.toNat:Int),(some ⟨ga,0,none⟩),3,cap,HP.out,rfl,?_⟩)
      ·simp[results,results167,go_sem,hC,EK.out]
      ·(have:=Exi.mk hE;exact Exi.out)
     ·refine Zu ?_ rfl (.inl ⟨⟨k,ga,cap,ca,[p,q,m],⟨#[]⟩⟩,HP.out,rfl,⟨?_,?_⟩,?_⟩)
      ·simp[results,results167,go_sem,hC,Pc.ci,Pc.cs,EK.out]
      ·repeat' (with_reducible first|exact hbA|refine Box.far ?_ (by simp<;>omega) _)
      ·exact HCA.out
      ·(have:=Exi.mk hE;exact Exi.out)
   ·have hnI:((ns.length:Int)==3)=false:=by rw[beq_eq_false_iff_ne];omega
    have hnI2:¬(ns.length:Int)=3:=by omega
    have HP:Hid (Yl (k::t)=none):=Zz (by rw[Xv HNN.out,hk119];simp[Wx,hn]);clear hn HNN HO;clear hk119;have hS:Zo w wr _:=Zo.put (Zo.put (⟨HE.out,trivial⟩:Zo w wr []) bR) bP;have hC:=hS.rd;simp only[Zr,Zq] at hC;have hE:=hS.ex;go_wp2_with fail;refine Zu ?_ rfl (.inr ⟨(k.toNat:Int),A,ns.length,cap,HP.out,rfl,?_⟩)
    ·simp[results,results167,go_sem,hC,EK.out]
    ·(have:=Exi.mk hE;exact Exi.out)
end
section
open Go.RowKit

attribute [local go_sem] Zg Zf
theorem Zyt(c:UInt8)(hc:c=97∨c=100)(k:UInt8)(t:Ub)(ht0:t≠[])(hk97:k=c)(hl:(k::t).length≤1048576)(w:World):Calls prog 167 #[(Bs (k::t))] w (Ho w (k::t)):=by
 obtain⟨C,hC⟩:∃C:Int,Hid (C=((c.toNat:Nat):Int)):=⟨_,Zz rfl⟩
 have q119:(C==119)=false:=by rw[hC.out];rcases hc with rfl|rfl<;>rfl
 have q114:(C==114)=false:=by rw[hC.out];rcases hc with rfl|rfl<;>rfl
 have q102:(C==102)=false:=by rw[hC.out];rcases hc with rfl|rfl<;>rfl
 rcases hc with rfl|rfl
 all_goals
  have q1:=congrArg (fun x:Int=>x==97) hC.out;have q2:=congrArg (fun x:Int=>x==100) hC.out;simp only[show(((97:UInt8).toNat:Nat):Int)=97 from rfl,show(((100:UInt8).toNat:Nat):Int)=100 from rfl,Int.reduceBEq] at q1 q2;have HK97:=Zz hk97;clear hk97;have hlt:t.length≤1048576:=by simp at hl;omega
  have hx1:=Ou k t;obtain⟨S,HS⟩:=nm (Bs (k::t));have hsz:S.size=t.length+1:=by rw[HS.out];rfl
  obtain⟨hs0,hk0⟩:∃hs:0<S.size,S[0]'hs=k:=by
   obtain⟨h1,h2⟩:=Rq HS.out (i:=0) (by simp);exact⟨h1,h2⟩
  rw[←HS.out] at hx1 ⊢;have ks:=fun w=>Zmc t hlt w
  have HW:Hid (∀x∈cds t,x.length≤1048576):=Zz fun x hx=>by
   have h1:=Sr t x hx;omega
  have HCL:Hid ((cds t).length≤1048576):=Zz (by have h1:=Nb t;simp only[List.length_cons] at hl;omega);have hs2:¬(S.size:Int)<2:=by
   have:t.length≠0:=fun e=>ht0 (List.length_eq_zero_iff.1 e)
   omega
  generalize hT:Bs t=T at hx1 ks;have KS:=Zz ks;have HX1:=Zz hx1;clear ks hT ht0;obtain⟨hS,hC⟩:=s0 w;go_in;go_upto_region 4 with fail;have bR:=((Box.new w #[.int .u8 0, .slice none 0 0] 193).alloc (.cells #[] 3)).alloc (.cells #[.int .u8 (k.toNat:Int), .slice (some ⟨w.heap.size+1,0,none⟩) 0 0] 193);have bP:=Box.new ((w.alloc (.cells #[.int .u8 0, .slice none 0 0] 193)).alloc (.cells #[] 3)) #[.int .u8 (k.toNat:Int), .slice (some ⟨w.heap.size+1,0,none⟩) 0 0] 193;have hO0:=(Hc (w.alloc (.cells #[.int .u8 0, .slice none 0 0] 193)) (w.heap.size+1) (by simp)).alloc (.cells #[.int .u8 (k.toNat:Int), .slice (some ⟨w.heap.size+1,0,none⟩) 0 0] 193);simp only[Zy] at bP hO0;have hE1:Ex w (((w.alloc (.cells #[.int .u8 0, .slice none 0 0] 193)).alloc (.cells #[] 3)).alloc (.cells #[.int .u8 (k.toNat:Int), .slice (some ⟨w.heap.size+1,0,none⟩) 0 0] 193)):=(((Ex.refl w).alloc _).alloc _).alloc _;have hz1:(((w.alloc (.cells #[.int .u8 0, .slice none 0 0] 193)).alloc (.cells #[] 3)).alloc (.cells #[.int .u8 (k.toNat:Int), .slice (some ⟨w.heap.size+1,0,none⟩) 0 0] 193)).heap.size=w.heap.size+3:=by simp only[Zy]
  generalize ((w.alloc (.cells #[.int .u8 0, .slice none 0 0] 193)).alloc (.cells #[] 3)).alloc (.cells #[.int .u8 (k.toNat:Int), .slice (some ⟨w.heap.size+1,0,none⟩) 0 0] 193)=W1 at*;clear hC hS hk0;have hs1:(1:Int)≤(S.size:Int):=by omega
  clear hsz hl hlt;go_wp2_with fail;refine(KS.out _).mono ?_;rintro e W2 ⟨g,gc,cur,rfl,hg,bG,HG,hx⟩;replace bR:=bR.ex hx;replace bP:=bP.ex hx;have hO1:=hO0.ex hx;have hE2:=hE1.trans hx;have hz2:=hx.size;clear hx hE1 KS hO0;go_wp2_with fail;go_loopw [6,7,8] (fun i n o wr=>∃(j:Nat) (A:Option Addr) (cap:Nat) (ns:List Int),i= .int .i64 j∧j≤(cds t).length∧Hid (Xg Xt ((cds t).take j)=some ns)∧Box wr (w.heap.size+2) 193 #[.int .u8 (k.toNat:Int), .slice A ns.length cap]∧
    Box wr w.heap.size 193 #[.int .u8 0, .slice none 0 0]∧Box wr g 9 cur∧Hid (Un wr (w.heap.size+1) A cap ns)∧Hid (Ex w wr)) (fun i _ _ _=>(cds t).length+1-(intOf i).toNat)
  case atStart=>exact⟨0,some ⟨w.heap.size+1,0,none⟩,0,[],rfl,by omega,Zz rfl,bP,bR,bG,Zz hO1,Zz hE2⟩
  case round=>
   clear bP bR bG hO1 hE2 hz2;obtain⟨j,A,cap,ns,rfl,hj,HN,bP,bR,bG,HO,HE⟩:=hrel;have hnl:ns.length≤1048576:=by
    have h1:=Wd HN.out;have h2:=List.length_take_le j (cds t);have h3:=HCL.out;omega
   by_cases hlt:j<(cds t).length
   ·have hcell:=HG.out j hlt;have hmem:(cds t)[j]∈cds t:=List.getElem_mem hlt;have hxl:=HW.out _ hmem;have HMs:Hid (Xg Xt ((cds t).take (j+1))=Xg Xt ((cds t).take j++[(cds t)[j]])):=Zz (by rw[Xf hlt]);generalize (cds t)[j]=x at*;have kp:=fun w=>Ov x hxl w
    have hlI:(j:Int)<((cds t).length:Int):=by omega
    have hw5:=wr1 j (by have:=HCL.out;omega);obtain⟨X,HX⟩:=nm (Bs x);rw[←HX.out] at hcell kp;have KP:=Zz kp;have HMem:=Zz hmem;have cG:=bG.cell;have zG:=bG.lt;clear kp hmem hxl;go_wp2_with fail;refine(KP.out _).mono ?_;rintro e w2 ⟨n,ok,rfl,hx,hn⟩;have HNn:=Zz hn;replace bP:=bP.ex hx;replace bR:=bR.ex hx;replace bG:=bG.ex hx;have HE2:=Zz (HE.out.trans hx);have HO2:=Zz (HO.out.ex hx);clear hx hn cG zG KP hcell;have cP:=bP.cell;have fP:=bP.frozen;have zP:=bP.lt;have cR:=bR.cell;have fR:=bR.frozen;have zR:=bR.lt;rcases ok with _|_
    ·have HNo:Hid (Yl (k::t)=none):=Zz (Ox HMem.out HNn.out);go_wp2;refine Zu ?_ rfl (.inr ⟨k.toNat,A,ns.length,cap,HNo.out,rfl,?_⟩)
     ·simp[results,results167,go_sem,cP,cR]
     ·have hE:=HE2.out;(have:=Exi.mk hE;exact Exi.out)
    ·have hs2:=HE2.out.size;go_wp2_with (at_builtin;refine Vj rfl _ _ w2 rfl (w.heap.size+1) A cap ns n rfl HO2.out rfl hnl (by omega) ?_);intro A' cap' w' hown' hk';have HE3:=Zz (hk'.ex w HE2.out (by omega));replace bP:=hk'.box _ _ _ bP (by decide);replace bR:=hk'.box _ _ _ bR (by decide);replace bG:=hk'.box _ _ _ bG (by decide);have HO3:=Zz hown';have cP:=bP.cell;have fP:=bP.frozen;have zP:=bP.lt;clear hown' hk' HO2 HE2 cR fR zR;have HN3:Hid (Xg Xt ((cds t).take (j+1))=some (ns++[n])):=Zz (by rw[HMs.out];exact Ve HNn.out HN.out);clear HNn HMs;go_wp2;have bP3:Box (w'.setCell ⟨w.heap.size+2,1,none⟩ (.slice A' (ns.length+1) cap')) (w.heap.size+2) 193 #[.int .u8 (k.toNat:Int), .slice A' (ns++[n]).length cap']:=by
      have h:=bP.set_ 1 (.slice A' (ns.length+1) cap');simpa using h
     have bR3:=bR.far (p:=⟨w.heap.size+2,1,none⟩) (by simp) (.slice A' (ns.length+1) cap');have bG3:=bG.far (p:=⟨w.heap.size+2,1,none⟩) (by simp;omega) (.slice A' (ns.length+1) cap');have HO4:Hid (Un _ (w.heap.size+1) A' cap' (ns++[n])):=Zz (Own.setCell (p:=⟨w.heap.size+2,1,none⟩) HO3.out (fun g hg e=>by subst e;exact Own.ne HO3.out bP (by decide) hg.symm) (.slice A' (ns.length+1) cap'));have HE4:=Zz (HE3.out.setCell (p:=⟨w.heap.size+2,1,none⟩) (by simp) (.slice A' (ns.length+1) cap'));go_roundw
     case rel=>exact⟨j+1,A',cap',ns++[n],by go_num,by omega,HN3,bP3,bR3,bG3,HO4,HE4⟩
     case measure=>simp[intOf]<;>omega
   ·
    have hk97:=HK97.out;obtain rfl:j=(cds t).length:=by omega
    have hlI:¬((cds t).length:Int)<((cds t).length:Int):=by omega
    have HNN:Hid (Xg Xt (cds t)=some ns):=Zz (by have:=HN.out;rwa[List.take_length] at this);clear HN HG bG hj hnl HW HX1;clear hlt;go_upto_region 12 with fail;clear hlI;have ek:((k.toNat:Nat):Int)=C:=by rw[hk97];exact hC.out.symm
    rw[ek] at bP;have EK:=Zz ek;clear ek;by_cases hn:ns.length=2
    ·obtain⟨p,q,rfl⟩:=Ztd hn;clear hn;obtain⟨ga,ca,rfl,hga,bA,hca⟩:=Own.box HO.out (by simp);clear HO;simp only[List.length_cons,List.length_nil,Nat.reduceAdd] at bP;have d0:ca[0]? =some (.int .i64 p):=(hca 0 (by simp)).trans rfl;have d1:ca[1]? =some (.int .i64 q):=(hca 1 (by simp)).trans rfl;have HCA:Hid (∀j,j<[p,q].length→ca[j]? =some (.int .i64 ([p,q].getD j 0))):=Zz fun j hj=>by
      simp only[List.length_cons,List.length_nil,Nat.reduceAdd] at hj;obtain rfl|rfl:j=0∨j=1:=by omega
      ·exact d0
      ·exact d1
     clear hca;rcases hw1:Xw q 1 100 with _|_
     ·have HP:Hid (Yl (k::t)=none):=Zz (by rw[Xv HNN.out,hk97];simp[Wx,hw1]);clear HNN;clear hk97;have kw1:=fun w=>Tf q 1 100 w
      rw[hw1] at kw1;clear hw1;have KW1:=Zz kw1;clear kw1;have hS:Zo w wr _:=Zo.put (Zo.put (⟨HE.out,trivial⟩:Zo w wr []) bR) bP;replace hS:=Zo.put hS bA;have hC:=hS.rd;simp only[Zr,Zq] at hC;have hE:=hS.ex;go_upto_region 27 with fail;clear hC hE;refine Hw (fun b w2=>Zo w w2 [(ga,3,ca),(w.heap.size+2,193,#[.int .u8 C, .slice (some ⟨ga,0,none⟩) 2 cap]),(w.heap.size,193,if b then #[.int .u8 C, .slice (some ⟨ga,0,none⟩) 2 cap] else #[.int .u8 0, .slice none 0 0])]) false (by kernel_rfl) (hS.drewW) ?_;iterate 8 (apply Zp;rfl;intro b u B Q q;have hS:=B;have hC:=hS.rd;simp only[Zr,Zq] at hC;go_wp2;exact q _ trivial B;exact⟨_,rfl⟩)
      iterate 3 (apply Zp;rfl;intro b u B Q q;go_wp2_with ((with_reducible refine(KW1.out _).mono ?_);rintro e wn ⟨rfl,rfl⟩);exact q _ trivial B;exact⟨_,rfl⟩)
      refine Yv (by rfl) (by simp only[Act.put,Zx,Zw,Zv];rfl) ?_;refine Yv (by rfl) (by simp only[Act.put,Zx,Zw,Zv];rfl) ?_;refine Yv (by rfl) (by simp only[Act.put,Zx,Zw,Zv];rfl) ?_;refine Yv (by rfl) (by simp only[Act.put,Zx,Zw,Zv];rfl) ?_;refine Yv (by rfl) (by simp only[Act.put,Zx,Zw,Zv];rfl) ?_;refine Yv (by rfl) (by simp only[Act.put,Zx,Zw,Zv];rfl) ?_;refine Yv (by rfl) (by simp only[Act.put,Zx,Zw,Zv];rfl) ?_;refine Yv (by rfl) (by simp only[Act.put,Zx,Zw,Zv];rfl) ?_;refine Yv (by rfl) (by simp only[Act.put,Zx,Zw,Zv];rfl) ?_;(apply Zp;rfl;intro b u B Q q;go_wp2;exact q _ trivial B;exact⟨_,rfl⟩);apply Zi (d:=true)
      ·rfl
      ·intro b wb hB Q1 hQ1;have hB2:=Zo.ret2 (by omega) (by omega) hB;have hS:=hB;have hC:=hS.rd;simp only[Zr,Zq] at hC;rcases b with _|_
       ·simp only[Bool.false_eq_true,if_false] at hC;go_wp2_with fail;exact hQ1 _ trivial hB2
       ·simp only[if_true] at hC;go_wp2_with fail;exact hQ1 _ trivial hB2
      ·exact⟨undef,rfl⟩
      (apply Zp;rfl;intro b u B Q q;go_wp2;exact q _ trivial B;exact⟨_,rfl⟩);refine Zn ?_;intro wy hy;simp only[Bool.or_true,Bool.or_false,Bool.false_or,if_true] at hy;have hC:=hy.rd;simp only[Zr,Zq] at hC;have hE:=hy.ex;have hbA:=hy.boxes.1;have hl1:=hy.boxes.2.1.lt;go_wp2_with fail;refine Zu ?_ rfl (.inr ⟨(k.toNat:Int),(some ⟨ga,0,none⟩),2,cap,HP.out,rfl,?_⟩)
      ·simp[results,results167,go_sem,hC,EK.out]
      ·(have:=Exi.mk hE;exact Exi.out)
     ·rcases hw2:Xw p 0 q with _|_
      all_goals
       first|(have hq:Xw p 0 q=false:=hw2;clear hq;have HP:Hid (Yl (k::t)=none):=Zz (by rw[Xv HNN.out,hk97];simp[Wx,hw1,hw2]))|(have HP:Hid (Yl (k::t)=some (k,[p,q])):=Zz (by rw[Xv HNN.out,hk97];simp[Wx,hw1,hw2]))
       clear HNN;clear hk97;have kw1:=fun w=>Tf q 1 100 w
       rw[hw1] at kw1;have kw2:=fun w=>Tf p 0 q w
       rw[hw2] at kw2;clear hw1 hw2;have KW1:=Zz kw1;have KW2:=Zz kw2;clear kw1 kw2;have hS:Zo w wr _:=Zo.put (Zo.put (⟨HE.out,trivial⟩:Zo w wr []) bR) bP;replace hS:=Zo.put hS bA;have hC:=hS.rd;simp only[Zr,Zq] at hC;have hE:=hS.ex;go_upto_region 27 with fail;clear hC hE;refine Hw (fun b w2=>Zo w w2 [(ga,3,ca),(w.heap.size+2,193,#[.int .u8 C, .slice (some ⟨ga,0,none⟩) 2 cap]),(w.heap.size,193,if b then #[.int .u8 C, .slice (some ⟨ga,0,none⟩) 2 cap] else #[.int .u8 0, .slice none 0 0])]) false (by kernel_rfl) (hS.drewW) ?_;iterate 8 (apply Zp;rfl;intro b u B Q q;have hS:=B;have hC:=hS.rd;simp only[Zr,Zq] at hC;go_wp2;exact q _ trivial B;exact⟨_,rfl⟩)
       iterate 4 (apply Zp;rfl;intro b u B Q q;go_wp2_with ((with_reducible refine(KW1.out _).mono ?_);rintro e wn ⟨rfl,rfl⟩);exact q _ trivial B;exact⟨_,rfl⟩)
       iterate 7 (apply Zp;rfl;intro b u B Q q;have hS:=B;have hC:=hS.rd;simp only[Zr,Zq] at hC;go_wp2;exact q _ trivial B;exact⟨_,rfl⟩)
       iterate 2 (apply Zp;rfl;intro b u B Q q;go_wp2_with ((with_reducible refine(KW2.out _).mono ?_);rintro e wn ⟨rfl,rfl⟩);exact q _ trivial B;exact⟨_,rfl⟩)
       apply Zi (d:=true)
       ·rfl
       ·intro b wb hB Q1 hQ1;have hB2:=Zo.ret2 (by omega) (by omega) hB;have hS:=hB;have hC:=hS.rd;simp only[Zr,Zq] at hC;rcases b with _|_
        ·simp only[Bool.false_eq_true,if_false] at hC;go_wp2_with fail;exact hQ1 _ trivial hB2
        ·simp only[if_true] at hC;go_wp2_with fail;exact hQ1 _ trivial hB2
       ·exact⟨undef,rfl⟩
       (apply Zp;rfl;intro b u B Q q;go_wp2;exact q _ trivial B;exact⟨_,rfl⟩);refine Zn ?_;intro wy hy;simp only[Bool.or_true,Bool.or_false,Bool.false_or,if_true] at hy;have hC:=hy.rd;simp only[Zr,Zq] at hC;have hE:=hy.ex;have hbA:=hy.boxes.1;have hl1:=hy.boxes.2.1.lt;go_wp2_with fail
      ·refine Zu ?_ rfl (.inr ⟨(k.toNat:Int),(some ⟨ga,0,none⟩),2,cap,HP.out,rfl,?_⟩)
       ·simp[results,results167,go_sem,hC,EK.out]
       ·(have:=Exi.mk hE;exact Exi.out)
      ·refine Zu ?_ rfl (.inl ⟨⟨k,ga,cap,ca,[p,q],⟨#[]⟩⟩,HP.out,rfl,⟨?_,?_⟩,?_⟩)
       ·simp[results,results167,go_sem,hC,Pc.ci,Pc.cs,EK.out]
       ·repeat' (with_reducible first|exact hbA|refine Box.far ?_ (by simp<;>omega) _)
       ·exact HCA.out
       ·(have:=Exi.mk hE;exact Exi.out)
    ·have hnI:((ns.length:Int)==2)=false:=by rw[beq_eq_false_iff_ne];omega
     have hnI2:¬(ns.length:Int)=2:=by omega
     have HP:Hid (Yl (k::t)=none):=Zz (by rw[Xv HNN.out,hk97];simp[Wx,hn]);clear hn HNN HO;clear hk97;have hS:Zo w wr _:=Zo.put (Zo.put (⟨HE.out,trivial⟩:Zo w wr []) bR) bP;have hC:=hS.rd;simp only[Zr,Zq] at hC;have hE:=hS.ex;go_upto_region 27 with fail;clear hC hE;refine Hw (fun b w2=>Zo w w2 [(w.heap.size+2,193,#[.int .u8 C, .slice A ns.length cap]),(w.heap.size,193,if b then #[.int .u8 C, .slice A ns.length cap] else #[.int .u8 0, .slice none 0 0])]) false (by kernel_rfl) (hS.drewW) ?_;iterate 4 (apply Zp;rfl;intro b u B Q q;have hS:=B;have hC:=hS.rd;simp only[Zr,Zq] at hC;go_wp2;exact q _ trivial B;exact⟨_,rfl⟩)
     refine Yv (by rfl) (by simp only[Act.put,Zx,Zw,Zv];rfl) ?_;refine Yv (by rfl) (by simp only[Act.put,Zx,Zw,Zv];rfl) ?_;refine Yv (by rfl) (by simp only[Act.put,Zx,Zw,Zv];rfl) ?_;refine Yv (by rfl) (by simp only[Act.put,Zx,Zw,Zv];rfl) ?_;refine Yv (by rfl) (by simp only[Act.put,Zx,Zw,Zv];rfl) ?_;iterate 2 (apply Zp;rfl;intro b u B Q q;go_wp2;exact q _ trivial B;exact⟨_,rfl⟩)
     refine Yv (by rfl) (by simp only[Act.put,Zx,Zw,Zv];rfl) ?_;refine Yv (by rfl) (by simp only[Act.put,Zx,Zw,Zv];rfl) ?_;refine Yv (by rfl) (by simp only[Act.put,Zx,Zw,Zv];rfl) ?_;refine Yv (by rfl) (by simp only[Act.put,Zx,Zw,Zv];rfl) ?_;refine Yv (by rfl) (by simp only[Act.put,Zx,Zw,Zv];rfl) ?_;refine Yv (by rfl) (by simp only[Act.put,Zx,Zw,Zv];rfl) ?_;refine Yv (by rfl) (by simp only[Act.put,Zx,Zw,Zv];rfl) ?_;refine Yv (by rfl) (by simp only[Act.put,Zx,Zw,Zv];rfl) ?_;refine Yv (by rfl) (by simp only[Act.put,Zx,Zw,Zv];rfl) ?_;(apply Zp;rfl;intro b u B Q q;go_wp2;exact q _ trivial B;exact⟨_,rfl⟩);apply Zi (d:=true)
     ·rfl
     ·intro b wb hB Q1 hQ1;have hB2:=Zo.ret2n (by omega) hB;have hS:=hB;have hC:=hS.rd;simp only[Zr,Zq] at hC;rcases b with _|_
      ·simp only[Bool.false_eq_true,if_false] at hC;go_wp2_with fail;exact hQ1 _ trivial hB2
      ·simp only[if_true] at hC;go_wp2_with fail;exact hQ1 _ trivial hB2
     ·exact⟨undef,rfl⟩
     (apply Zp;rfl;intro b u B Q q;go_wp2;exact q _ trivial B;exact⟨_,rfl⟩);refine Zn ?_;intro wy hy;simp only[Bool.or_true,Bool.or_false,Bool.false_or,if_true] at hy;have hC:=hy.rd;simp only[Zr,Zq] at hC;have hE:=hy.ex;go_wp2_with fail;refine Zu ?_ rfl (.inr ⟨(k.toNat:Int),A,ns.length,cap,HP.out,rfl,?_⟩)
     ·simp[results,results167,go_sem,hC,EK.out]
     ·(have:=Exi.mk hE;exact Exi.out)
end
section
open Go.RowKit

attribute [local go_sem] Zg Zf
theorem Ztc(k:UInt8)(t:Ub)(ht0:t≠[])(hk119:k≠119)(hk114:k≠114)(hk102:k≠102)(hk97:k≠97)(hk100:k≠100)(hl:(k::t).length≤1048576)(w:World):Calls prog 167 #[(Bs (k::t))] w (Ho w (k::t)):=by
 have HK119:=Zz hk119;have HK114:=Zz hk114;have HK102:=Zz hk102;have HK97:=Zz hk97;have HK100:=Zz hk100;clear hk119 hk114 hk102 hk97 hk100;have hlt:t.length≤1048576:=by simp at hl;omega
 have hx1:=Ou k t;obtain⟨S,HS⟩:=nm (Bs (k::t));have hsz:S.size=t.length+1:=by rw[HS.out];rfl
 obtain⟨hs0,hk0⟩:∃hs:0<S.size,S[0]'hs=k:=by
  obtain⟨h1,h2⟩:=Rq HS.out (i:=0) (by simp);exact⟨h1,h2⟩
 rw[←HS.out] at hx1 ⊢;have ks:=fun w=>Zmc t hlt w
 have HW:Hid (∀x∈cds t,x.length≤1048576):=Zz fun x hx=>by
  have h1:=Sr t x hx;omega
 have HCL:Hid ((cds t).length≤1048576):=Zz (by have h1:=Nb t;simp only[List.length_cons] at hl;omega);have hs2:¬(S.size:Int)<2:=by
  have:t.length≠0:=fun e=>ht0 (List.length_eq_zero_iff.1 e)
  omega
 generalize hT:Bs t=T at hx1 ks;have KS:=Zz ks;have HX1:=Zz hx1;clear ks hT ht0;obtain⟨hS,hC⟩:=s0 w;go_in;go_upto_region 4 with fail;have bR:=((Box.new w #[.int .u8 0, .slice none 0 0] 193).alloc (.cells #[] 3)).alloc (.cells #[.int .u8 (k.toNat:Int), .slice (some ⟨w.heap.size+1,0,none⟩) 0 0] 193);have bP:=Box.new ((w.alloc (.cells #[.int .u8 0, .slice none 0 0] 193)).alloc (.cells #[] 3)) #[.int .u8 (k.toNat:Int), .slice (some ⟨w.heap.size+1,0,none⟩) 0 0] 193;have hO0:=(Hc (w.alloc (.cells #[.int .u8 0, .slice none 0 0] 193)) (w.heap.size+1) (by simp)).alloc (.cells #[.int .u8 (k.toNat:Int), .slice (some ⟨w.heap.size+1,0,none⟩) 0 0] 193);simp only[Zy] at bP hO0;have hE1:Ex w (((w.alloc (.cells #[.int .u8 0, .slice none 0 0] 193)).alloc (.cells #[] 3)).alloc (.cells #[.int .u8 (k.toNat:Int), .slice (some ⟨w.heap.size+1,0,none⟩) 0 0] 193)):=(((Ex.refl w).alloc _).alloc _).alloc _;have hz1:(((w.alloc (.cells #[.int .u8 0, .slice none 0 0] 193)).alloc (.cells #[] 3)).alloc (.cells #[.int .u8 (k.toNat:Int), .slice (some ⟨w.heap.size+1,0,none⟩) 0 0] 193)).heap.size=w.heap.size+3:=by simp only[Zy]
 generalize ((w.alloc (.cells #[.int .u8 0, .slice none 0 0] 193)).alloc (.cells #[] 3)).alloc (.cells #[.int .u8 (k.toNat:Int), .slice (some ⟨w.heap.size+1,0,none⟩) 0 0] 193)=W1 at*;clear hC hS hk0;have hs1:(1:Int)≤(S.size:Int):=by omega
 clear hsz hl hlt;go_wp2_with fail;refine(KS.out _).mono ?_;rintro e W2 ⟨g,gc,cur,rfl,hg,bG,HG,hx⟩;replace bR:=bR.ex hx;replace bP:=bP.ex hx;have hO1:=hO0.ex hx;have hE2:=hE1.trans hx;have hz2:=hx.size;clear hx hE1 KS hO0;go_wp2_with fail;go_loopw [6,7,8] (fun i n o wr=>∃(j:Nat) (A:Option Addr) (cap:Nat) (ns:List Int),i= .int .i64 j∧j≤(cds t).length∧Hid (Xg Xt ((cds t).take j)=some ns)∧Box wr (w.heap.size+2) 193 #[.int .u8 (k.toNat:Int), .slice A ns.length cap]∧
   Box wr w.heap.size 193 #[.int .u8 0, .slice none 0 0]∧Box wr g 9 cur∧Hid (Un wr (w.heap.size+1) A cap ns)∧Hid (Ex w wr)) (fun i _ _ _=>(cds t).length+1-(intOf i).toNat)
 case atStart=>exact⟨0,some ⟨w.heap.size+1,0,none⟩,0,[],rfl,by omega,Zz rfl,bP,bR,bG,Zz hO1,Zz hE2⟩
 case round=>
  clear bP bR bG hO1 hE2 hz2;obtain⟨j,A,cap,ns,rfl,hj,HN,bP,bR,bG,HO,HE⟩:=hrel;have hnl:ns.length≤1048576:=by
   have h1:=Wd HN.out;have h2:=List.length_take_le j (cds t);have h3:=HCL.out;omega
  by_cases hlt:j<(cds t).length
  ·have hcell:=HG.out j hlt;have hmem:(cds t)[j]∈cds t:=List.getElem_mem hlt;have hxl:=HW.out _ hmem;have HMs:Hid (Xg Xt ((cds t).take (j+1))=Xg Xt ((cds t).take j++[(cds t)[j]])):=Zz (by rw[Xf hlt]);generalize (cds t)[j]=x at*;have kp:=fun w=>Ov x hxl w
   have hlI:(j:Int)<((cds t).length:Int):=by omega
   have hw5:=wr1 j (by have:=HCL.out;omega);obtain⟨X,HX⟩:=nm (Bs x);rw[←HX.out] at hcell kp;have KP:=Zz kp;have HMem:=Zz hmem;have cG:=bG.cell;have zG:=bG.lt;clear kp hmem hxl;go_wp2_with fail;refine(KP.out _).mono ?_;rintro e w2 ⟨n,ok,rfl,hx,hn⟩;have HNn:=Zz hn;replace bP:=bP.ex hx;replace bR:=bR.ex hx;replace bG:=bG.ex hx;have HE2:=Zz (HE.out.trans hx);have HO2:=Zz (HO.out.ex hx);clear hx hn cG zG KP hcell;have cP:=bP.cell;have fP:=bP.frozen;have zP:=bP.lt;have cR:=bR.cell;have fR:=bR.frozen;have zR:=bR.lt;rcases ok with _|_
   ·have HNo:Hid (Yl (k::t)=none):=Zz (Ox HMem.out HNn.out);go_wp2;refine Zu ?_ rfl (.inr ⟨k.toNat,A,ns.length,cap,HNo.out,rfl,?_⟩)
    ·simp[results,results167,go_sem,cP,cR]
    ·have hE:=HE2.out;(have:=Exi.mk hE;exact Exi.out)
   ·have hs2:=HE2.out.size;go_wp2_with (at_builtin;refine Vj rfl _ _ w2 rfl (w.heap.size+1) A cap ns n rfl HO2.out rfl hnl (by omega) ?_);intro A' cap' w' hown' hk';have HE3:=Zz (hk'.ex w HE2.out (by omega));replace bP:=hk'.box _ _ _ bP (by decide);replace bR:=hk'.box _ _ _ bR (by decide);replace bG:=hk'.box _ _ _ bG (by decide);have HO3:=Zz hown';have cP:=bP.cell;have fP:=bP.frozen;have zP:=bP.lt;clear hown' hk' HO2 HE2 cR fR zR;have HN3:Hid (Xg Xt ((cds t).take (j+1))=some (ns++[n])):=Zz (by rw[HMs.out];exact Ve HNn.out HN.out);clear HNn HMs;go_wp2;have bP3:Box (w'.setCell ⟨w.heap.size+2,1,none⟩ (.slice A' (ns.length+1) cap')) (w.heap.size+2) 193 #[.int .u8 (k.toNat:Int), .slice A' (ns++[n]).length cap']:=by
     have h:=bP.set_ 1 (.slice A' (ns.length+1) cap');simpa using h
    have bR3:=bR.far (p:=⟨w.heap.size+2,1,none⟩) (by simp) (.slice A' (ns.length+1) cap');have bG3:=bG.far (p:=⟨w.heap.size+2,1,none⟩) (by simp;omega) (.slice A' (ns.length+1) cap');have HO4:Hid (Un _ (w.heap.size+1) A' cap' (ns++[n])):=Zz (Own.setCell (p:=⟨w.heap.size+2,1,none⟩) HO3.out (fun g hg e=>by subst e;exact Own.ne HO3.out bP (by decide) hg.symm) (.slice A' (ns.length+1) cap'));have HE4:=Zz (HE3.out.setCell (p:=⟨w.heap.size+2,1,none⟩) (by simp) (.slice A' (ns.length+1) cap'));go_roundw
    case rel=>exact⟨j+1,A',cap',ns++[n],by go_num,by omega,HN3,bP3,bR3,bG3,HO4,HE4⟩
    case measure=>simp[intOf]<;>omega
  ·
   have hk119:=HK119.out;have hk114:=HK114.out;have hk102:=HK102.out;have hk97:=HK97.out;have hk100:=HK100.out;obtain rfl:j=(cds t).length:=by omega
   have hlI:¬((cds t).length:Int)<((cds t).length:Int):=by omega
   have HNN:Hid (Xg Xt (cds t)=some ns):=Zz (by have:=HN.out;rwa[List.take_length] at this);clear HN HG bG hj hnl HW HX1;clear hlt;go_upto_region 12 with fail;clear hlI;have e119:=Ig hk119;have e114:=Ig hk114;have e102:=Ig hk102;have e97:=Ig hk97;have e100:=Ig hk100;simp only[show((119:UInt8).toNat:Int)=119 from rfl] at e119;simp only[show((114:UInt8).toNat:Int)=114 from rfl] at e114;simp only[show((102:UInt8).toNat:Int)=102 from rfl] at e102;simp only[show((97:UInt8).toNat:Int)=97 from rfl] at e97;simp only[show((100:UInt8).toNat:Int)=100 from rfl] at e100;have HP:Hid (Yl (k::t)=none):=Zz (by rw[Xv HNN.out];simp[Wx,hk119,hk114,hk102,hk97,hk100]);clear HNN HO;clear hk119 hk114 hk102 hk97 hk100;have hS:Zo w wr _:=Zo.put (Zo.put (⟨HE.out,trivial⟩:Zo w wr []) bR) bP;have hC:=hS.rd;simp only[Zr,Zq] at hC;have hE:=hS.ex;go_wp2_with fail;refine Zu ?_ rfl (.inr ⟨(k.toNat:Int),A,ns.length,cap,HP.out,rfl,?_⟩)
   ·simp[results,results167,go_sem,hC]
   ·(have:=Exi.mk hE;exact Exi.out)
end
section
open Go.RowKit

attribute [local go_sem] Zg Zf
theorem Da(t:Ub):(wds t).length≤t.length+1:=by
 rw[←Dd t];unfold tot;generalize wds t=ws;induction ws with
 |nil=>simp
 |cons x ws ih=>simp only[List.map_cons,List.sum_cons,List.length_cons];omega
theorem Zbc:SlT 133 169 (.agg #[.int .u8 0, .slice none 0 0, .string ⟨#[]⟩]) 3 48:=⟨underlying133,by kernel_rfl,rfl,by omega,by omega⟩
theorem slPS:SlT 141 193 (.agg #[.int .u8 0, .slice none 0 0]) 2 32:=⟨underlying141,by kernel_rfl,rfl,by omega,by omega⟩
theorem Zgy(q:Pc):∀u∈q.ci,u.oneCell'=true:=fun u hu=>by
 simp only[Pc.ci,List.mem_cons,List.not_mem_nil,or_false] at hu
 rcases hu with rfl|rfl|rfl<;>rfl
theorem Zbb(q:Pc):∀u∈q.cs,u.oneCell'=true:=fun u hu=>by
 simp only[Pc.cs,List.mem_cons,List.not_mem_nil,or_false] at hu
 rcases hu with rfl|rfl<;>rfl
def Zgx(l:Ub):List ByteArray:=if l=[] then [] else (wds l).map Bs
def Pp(cells:List Pc→List Value)(w:World)(l:Ub):Ending→World→Prop:=fun e w'=>
 (∃(qs:List Pc) (g cap:Nat),Ys l=some (qs.map Pc.p)∧e= .returned (.tuple #[.slice (some ⟨g,0,none⟩) qs.length cap,true])∧Own w' w.heap.size 169 3 (.slice (some ⟨g,0,none⟩) qs.length cap) qs.length (cells qs)∧Hid (qs.map Pc.S=Zgx l)∧Pcs w' qs∧Ex w w')∨
 (Ys l=none∧e= .returned (.tuple #[.slice none 0 0,false])∧Ex w w')
theorem Zzq(hp:∀l:Ub,l.length≤1048576→∀w,Wn w→Calls prog 149 #[(Bs l)] w (Ey w l))(l:Ub)(hl:l.length≤1048576)(w:World)(hm:Wn w):Calls prog 85 #[(Bs l)] w (Pp Xp w l):=by
 by_cases hne:l=[]
 ·subst hne;have he:Bs []=(⟨#[]⟩:ByteArray):=rfl;rw[he];clear hm hp;obtain⟨hS,hC⟩:=s0 w;go_in;go_wp2;refine Zu ?_ rfl (.inl ⟨[],w.heap.size,0,rfl,rfl,Ow w w.heap.size 169 3 (Nat.le_refl _),Zz rfl,Pcs.nil _,?_⟩)
  ·simp[results,results85,go_sem]
  ·exact Exi.out
 ·have ks:=fun w hm=>Zde l (by omega) w hm
  have HW:Hid (∀x∈wds l,x.length≤1048576):=Zz fun x hx=>by
   have h1:=Mj l x hx;omega
  have hE0:Bs l≠(⟨#[]⟩:ByteArray):=fun e=>hne (by
   have:=congrArg (fun b:ByteArray=>b.data.toList) e
   simpa [Bs] using this)
  have hne2:(Bs l).toList.isEmpty=false:=by simpa using Ta hE0
  have HNE:=Zz hne;have HWL:Hid ((wds l).length≤1048577):=Zz (by have h1:=Da l;omega);generalize Bs l=S at ks hne2 ⊢;have HP:=Zz hp;have HM:=Zz hm;have KS:=Zz ks;clear hp hm ks hE0 hne hl;go_in;go_wp2_with fail;refine(KS.out _ (HM.out.alloc _)).mono ?_;rintro e W2 ⟨g,gc,cur,rfl,hg,bG,HG,hx⟩;have hE2:=((Ex.refl w).alloc (.cells #[] 169)).trans hx;have hO0:Own W2 w.heap.size 169 3 (.slice (some ⟨w.heap.size,0,none⟩) 0 0) 0 []:=(Ow w w.heap.size 169 3 (Nat.le_refl _)).ex hx;clear hx KS hg;go_wp2_with fail;go_loopw [16,4,6,7,8] (fun i v f p o wr=>∃(j:Nat) (A:Option Addr) (cap:Nat) (qs:List Pc),i= .int .i64 j∧v= .slice A qs.length cap∧j≤(wds l).length∧qs.length≤12∧Hid (Xg Yl ((wds l).take j)=some (qs.map Pc.p))∧Hid (qs.map Pc.S=((wds l).take j).map Bs)∧
    Hid (Own wr w.heap.size 169 3 (.slice A qs.length cap) qs.length (Xp qs))∧Hid (Pcs wr qs)∧Box wr g 9 cur∧Hid (Ex w wr)) (fun i _ _ _ _ _=>(wds l).length+1-(intOf i).toNat)
  case atStart=>exact⟨0,_,0,[],rfl,rfl,by omega,by simp,Zz rfl,Zz rfl,Zz hO0,Zz (Pcs.nil _),bG,Zz hE2⟩
  case round=>
   clear bG hO0 hE2;obtain⟨j,A,cap,qs,rfl,rfl,hj,hq,HN,HTX,HO,HQ,bG,HE⟩:=hrel;have hsz:=HE.out.size;by_cases hlt:j<(wds l).length
   ·have hcell:=HG.out j hlt;have hmem:(wds l)[j]∈wds l:=List.getElem_mem hlt;have hxl:=HW.out _ hmem;have HMs:Hid (Xg Yl ((wds l).take (j+1))=Xg Yl ((wds l).take j++[(wds l)[j]])):=Zz (by rw[Xf hlt]);have HMt:Hid (((wds l).take (j+1)).map Bs=((wds l).take j).map Bs++[Bs (wds l)[j]]):=Zz (by rw[Xf hlt,List.map_append];rfl);have HLN:Hid (qs.length=j):=Zz (by have:=Wd HN.out;rw[List.length_map,List.length_take] at this;omega);generalize (wds l)[j]=x at*;have kp:=fun w hm=>HP.out x hxl w hm
    have hlI:(j:Int)<((wds l).length:Int):=by omega
    have hw5:=wr1 j (by have:=HWL.out;omega);obtain⟨X,HX⟩:=nm (Bs x);rw[←HX.out] at hcell kp;have KP:=Zz kp;have HMem:=Zz hmem;have cG:=bG.cell;have zG:=bG.lt;clear kp hmem hxl;go_wp2_with fail;refine(KP.out _ (HM.out.ex HE.out)).mono ?_;rintro e w2 (⟨q,hq2,rfl,hqS,hqo,hx⟩|⟨k2,A2,n2,c2,S2,hq2,rfl,hx⟩)
    ·have HO2:=Zz (Own.ex HO.out hx);have HQ2:=Zz ((HQ.out.ex hx));have HQo:=Zz hqo;have HE2:=Zz (HE.out.trans hx);have bG2:=bG.ex hx;have HN3:Hid (Xg Yl ((wds l).take (j+1))=some ((qs++[q]).map Pc.p)):=Zz (by rw[HMs.out,List.map_append];exact Ve hq2 HN.out);have HTX3:Hid ((qs++[q]).map Pc.S=((wds l).take (j+1)).map Bs):=Zz (by rw[HMt.out,List.map_append,HTX.out,List.map_cons,List.map_nil,hqS.out]);clear hx hqo hq2 hqS cG zG KP hcell bG HMt HTX;simp only[Pc.ci];by_cases h12:qs.length=12
     ·have h12I:((qs.length:Int)==12)=true:=by simp;omega
      have HB:Hid (Ys l=none):=Zz (Zww HNE.out (by have:=HLN.out;omega));go_wp2;refine Zu ?_ rfl (.inr ⟨HB.out,rfl,?_⟩)
      ·simp[results,results85,go_sem]
      ·have hE:=HE2.out;repeat' (with_reducible first|exact hE|refine Ex.alloc ?_ _)
     ·have h12I:((qs.length:Int)==12)=false:=by simp;omega
      have HO3:=Zz (Own.alloc HO2.out (.cells #[.int .u8 q.k.toNat, .slice (some ⟨q.g,0,none⟩) q.ns.length q.cap,q.S] 169));have HQ3:=Zz (HQ2.out.snoc HQo.out);have hs2:=HE2.out.size;have hq3:(qs++[q]).length=qs.length+1:=by simp
      have HQL:=Zz hq3;clear HQ2 HQo HO2 hq3;go_wp2_with (at_builtin;refine Vq Zbc rfl _ _ (w2.alloc (.cells #[.int .u8 q.k.toNat, .slice (some ⟨q.g,0,none⟩) q.ns.length q.cap,q.S] 169)) rfl w.heap.size A cap qs.length (Xp qs) [.int .u8 q.k.toNat, .slice (some ⟨q.g,0,none⟩) q.ns.length q.cap, .string q.S] rfl (Zgy q) rfl HO3.out (by rw[Zy];rfl) (by omega) (by simp;omega) ?_);intro A' cap' w' hown' hk';have HE3:=Zz (hk'.ex w (HE2.out.alloc _) (Nat.le_refl _));have HQ4:=Zz (Pcs.keeps (HQ3.out.ex ((Ex.refl w2).alloc (.cells #[.int .u8 q.k.toNat, .slice (some ⟨q.g,0,none⟩) q.ns.length q.cap,q.S] 169))) hk' (by decide));have bG3:=hk'.box _ _ _ (bG2.alloc (.cells #[.int .u8 q.k.toNat, .slice (some ⟨q.g,0,none⟩) q.ns.length q.cap,q.S] 169)) (by decide);have HO4:Hid (Own w' w.heap.size 169 3 (.slice A' (qs++[q]).length cap') (qs++[q]).length (Xp (qs++[q]))):=Zz (by rw[HQL.out,Ei];exact hown');clear hown' hk' HO3 HQ3 HE2 bG2;go_wp2;go_roundw
      case rel=>exact⟨j+1,A',cap',qs++[q],by go_num,by rw[HQL.out],by omega,by rw[HQL.out];omega,HN3,HTX3,HO4,HQ4,bG3,HE3⟩
      case measure=>simp[intOf]<;>omega
    ·have HB:Hid (Ys l=none):=Zz (Ek HNE.out HMem.out hq2);have HE2:=Zz (HE.out.trans hx);clear hx hq2 cG zG KP hcell;go_wp2;refine Zu ?_ rfl (.inr ⟨HB.out,rfl,?_⟩)
     ·simp[results,results85,go_sem]
     ·have hE:=HE2.out;repeat' (with_reducible first|exact hE|refine Ex.alloc ?_ _)
   ·obtain rfl:j=(wds l).length:=by omega
    have hlI:¬((wds l).length:Int)<((wds l).length:Int):=by omega
    have HB:Hid (Ys l=some (qs.map Pc.p)):=Zz (by
     have h1:=HN.out;rw[List.take_length] at h1;rw[Li HNE.out h1,if_pos (by rw[List.length_map];exact hq)])
    obtain⟨g9,hA9⟩:∃g9,A=some ⟨g9,0,none⟩:=by
     rcases HO.out.2 with⟨-,h2⟩|⟨g9,c9,cur9,h1, -⟩
     ·have h3:=Wd HN.out;rw[List.take_length,List.length_map] at h3;have h4:=List.length_pos_iff.2 (Tc l);omega
     ·injection h1 with e1 e2 e3;exact⟨g9,e1⟩
    subst hA9;have HTE:Hid (qs.map Pc.S=Zgx l):=Zz (by rw[HTX.out,List.take_length,Zgx,if_neg HNE.out]);clear hlt;go_wp2;refine Zu ?_ rfl (.inl ⟨qs,g9,cap,HB.out,rfl,HO.out,HTE,HQ.out,HE.out⟩);simp[results,results85,go_sem]
theorem Ztb(hp:∀l:Ub,l.length≤1048576→∀w,Calls prog 167 #[(Bs l)] w (Ho w l))(l:Ub)(hl:l.length≤1048576)(w:World):Calls prog 90 #[(Bs l)] w (Zbt Vr w l):=by
 by_cases hne:l=[]
 ·subst hne;have he:Bs []=(⟨#[]⟩:ByteArray):=rfl;rw[he];clear hp;obtain⟨hS,hC⟩:=s0 w;go_in;go_wp2;refine Zu ?_ rfl (.inl ⟨[],some ⟨w.heap.size,0,none⟩,0,rfl,rfl,Slc.nil _ _,Pcs.nil _,?_⟩)
  ·simp[results,results90,go_sem]
  ·exact Exi.out
 ·have ks:=fun w=>Zhe l (by omega) w
  have HW:Hid (∀x∈wds l,x.length≤1048576):=Zz fun x hx=>by
   have h1:=Mj l x hx;omega
  have hE0:Bs l≠(⟨#[]⟩:ByteArray):=fun e=>hne (by
   have:=congrArg (fun b:ByteArray=>b.data.toList) e
   simpa [Bs] using this)
  have hne2:(Bs l).toList.isEmpty=false:=by simpa using Ta hE0
  have HNE:=Zz hne;have HWL:Hid ((wds l).length≤1048577):=Zz (by have h1:=Da l;omega);have hsz:(Bs l).size=l.length:=Yu l;generalize Bs l=S at ks hne2 hsz ⊢;have HP:=Zz hp;have KS:=Zz ks;clear hp ks hE0 hne;by_cases h300:300<l.length
  ·have h3:300<(S.size:Int):=by omega
   have HB:Hid (Ys l=none):=Zz (by
    cases hb:Ys l with
    |none=>rfl
    |some ps=>have:=Ztl hb;omega)
   clear hsz hl h300;obtain⟨hS,hC⟩:=s0 w;go_in;go_wp2;refine Zu ?_ rfl (.inr ⟨some ⟨w.heap.size,0,none⟩,0,0,HB.out,rfl,?_⟩)
   ·simp[results,results90,go_sem]
   ·exact Exi.out
  have h3:¬300<(S.size:Int):=by omega
  have HL:=Zz h300;clear hsz hl h300;go_in;go_wp2_with fail;refine(KS.out _).mono ?_;rintro e W2 ⟨g,gc,cur,rfl,hg,bG,HG,hx⟩;have hE2:=((Ex.refl w).alloc (.cells #[] 193)).trans hx;have hO0:Own W2 w.heap.size 193 2 (.slice (some ⟨w.heap.size,0,none⟩) 0 0) 0 []:=(Ow w w.heap.size 193 2 (Nat.le_refl _)).ex hx;clear hx KS hg;go_wp2_with fail;go_loopw [6,4,7,8] (fun i v p o wr=>∃(j:Nat) (A:Option Addr) (cap:Nat) (qs:List Pc),i= .int .i64 j∧v= .slice A qs.length cap∧j≤(wds l).length∧qs.length=j∧Hid (Xg Yl ((wds l).take j)=some (qs.map Pc.p))∧
    Hid (Own wr w.heap.size 193 2 (.slice A qs.length cap) qs.length (Vr qs))∧Hid (Pcs wr qs)∧Box wr g 9 cur∧Hid (Ex w wr)) (fun i _ _ _ _=>(wds l).length+1-(intOf i).toNat)
  case atStart=>exact⟨0,_,0,[],rfl,rfl,by omega,rfl,Zz rfl,Zz hO0,Zz (Pcs.nil _),bG,Zz hE2⟩
  case round=>
   clear bG hO0 hE2;obtain⟨j,A,cap,qs,rfl,rfl,hj,hq,HN,HO,HQ,bG,HE⟩:=hrel;have hsz:=HE.out.size;by_cases hlt:j<(wds l).length
   ·have hcell:=HG.out j hlt;have hmem:(wds l)[j]∈wds l:=List.getElem_mem hlt;have hxl:=HW.out _ hmem;have HMs:Hid (Xg Yl ((wds l).take (j+1))=Xg Yl ((wds l).take j++[(wds l)[j]])):=Zz (by rw[Xf hlt]);have HLN:=Zz hq;clear hq;have hq:qs.length≤1000001:=by have h1:=HLN.out;have h2:=Da l;have h4:=HL.out;omega
    generalize (wds l)[j]=x at*;have kp:=fun w=>HP.out x hxl w
    have hlI:(j:Int)<((wds l).length:Int):=by omega
    have hw5:=wr1 j (by have:=HWL.out;omega);obtain⟨X,HX⟩:=nm (Bs x);rw[←HX.out] at hcell kp;have KP:=Zz kp;have HMem:=Zz hmem;have cG:=bG.cell;have zG:=bG.lt;clear kp hmem hxl;go_wp2_with fail;refine(KP.out _).mono ?_;rintro e w2 (⟨q,hq2,rfl,hqo,hx⟩|⟨k2,A2,n2,c2,hq2,rfl,hx⟩)
    ·have HO2:=Zz (Own.ex HO.out hx);have HQ2:=Zz ((HQ.out.ex hx));have HQo:=Zz hqo;have HE2:=Zz (HE.out.trans hx);have bG2:=bG.ex hx;have HN3:Hid (Xg Yl ((wds l).take (j+1))=some ((qs++[q]).map Pc.p)):=Zz (by rw[HMs.out,List.map_append];exact Ve hq2 HN.out);clear hx hqo hq2 cG zG KP hcell bG;simp only[Pc.cs];have HO3:=Zz (Own.alloc HO2.out (.cells #[.int .u8 q.k.toNat, .slice (some ⟨q.g,0,none⟩) q.ns.length q.cap] 193));have HQ3:=Zz (HQ2.out.snoc HQo.out);have hs2:=HE2.out.size;have hq3:(qs++[q]).length=qs.length+1:=by simp
     have HQL:=Zz hq3;clear HQ2 HQo HO2 hq3;go_wp2_with (at_builtin;refine Vq slPS rfl _ _ (w2.alloc (.cells #[.int .u8 q.k.toNat, .slice (some ⟨q.g,0,none⟩) q.ns.length q.cap] 193)) rfl w.heap.size A cap qs.length (Vr qs) [.int .u8 q.k.toNat, .slice (some ⟨q.g,0,none⟩) q.ns.length q.cap] rfl (Zbb q) rfl HO3.out (by rw[Zy];rfl) (by omega) (by simp;omega) ?_);intro A' cap' w' hown' hk';have HE3:=Zz (hk'.ex w (HE2.out.alloc _) (Nat.le_refl _));have HQ4:=Zz (Pcs.keeps (HQ3.out.ex ((Ex.refl w2).alloc (.cells #[.int .u8 q.k.toNat, .slice (some ⟨q.g,0,none⟩) q.ns.length q.cap] 193))) hk' (by decide));have bG3:=hk'.box _ _ _ (bG2.alloc (.cells #[.int .u8 q.k.toNat, .slice (some ⟨q.g,0,none⟩) q.ns.length q.cap] 193)) (by decide);have HO4:Hid (Own w' w.heap.size 193 2 (.slice A' (qs++[q]).length cap') (qs++[q]).length (Vr (qs++[q]))):=Zz (by rw[HQL.out,Zte];exact hown');clear hown' hk' HO3 HQ3 HE2 bG2;go_wp2;go_roundw
     case rel=>exact⟨j+1,A',cap',qs++[q],by go_num,by rw[HQL.out],by omega,by rw[HQL.out,HLN.out],HN3,HO4,HQ4,bG3,HE3⟩
     case measure=>simp[intOf]<;>omega
    ·have HB:Hid (Ys l=none):=Zz (Ek HNE.out HMem.out hq2);have HE2:=Zz (HE.out.trans hx);clear hx hq2 cG zG KP hcell;go_wp2;refine Zu ?_ rfl (.inr ⟨A,qs.length,cap,HB.out,rfl,?_⟩)
     ·simp[results,results90,go_sem]
     ·have hE:=HE2.out;repeat' (with_reducible first|exact hE|refine Ex.alloc ?_ _)
   ·obtain rfl:j=(wds l).length:=by omega
    have hlI:¬((wds l).length:Int)<((wds l).length:Int):=by omega
    have h1:=HN.out;rw[List.take_length] at h1;have h2:=Li HNE.out h1;rw[List.length_map] at h2;clear h1 hlt;by_cases h12:qs.length≤12
    ·have h12I:(qs.length:Int)≤12:=by omega
     rw[if_pos h12] at h2;have HB:=Zz h2;have HQL:=Zz hq;clear h2 h12 hq;go_wp2;refine Zu ?_ rfl (.inl ⟨qs,A,cap,HB.out,rfl,Own.slc HO.out,HQ.out,HE.out⟩);simp[results,results90,go_sem]
    ·have h12I:¬(qs.length:Int)≤12:=by omega
     rw[if_neg h12] at h2;have HB:=Zz h2;clear h2 h12 hq;go_wp2;refine Zu ?_ rfl (.inr ⟨A,qs.length,cap,HB.out,rfl,HE.out⟩);simp[results,results90,go_sem]
end
section
open Go.RowKit

attribute [local go_sem] Zg Zf
theorem Zot(l:Ub)(hl:l.length≤1048576)(w:World)(hm:Wn w):Calls prog 149 #[(Bs l)] w (Ey w l):=by
 cases l with
 |nil=>
  have he:Bs []=(⟨#[]⟩:ByteArray):=rfl;rw[he];clear hm;obtain⟨hS,hC⟩:=s0 w;go_in;go_wp2;refine Zu ?_ rfl (.inr ⟨0,none,0,0,⟨#[]⟩,rfl,rfl,?_⟩)
  ·simp[results,results149,go_sem]
  ·exact Exi.out
 |cons k t=>
  by_cases h1:k=114
  ·exact If 114 (.inl rfl) k t h1 hl w hm
  by_cases h2:k=119
  ·exact Bl k t h2 hl w hm
  by_cases h3:k=102
  ·exact If 102 (.inr rfl) k t h3 hl w hm
  by_cases h4:k=97
  ·exact Ie 97 (.inl rfl) k t h4 hl w hm
  by_cases h5:k=100
  ·exact Ie 100 (.inr rfl) k t h5 hl w hm
  exact Do k t h2 h1 h3 h4 h5 hl w hm
theorem Gi(l:Ub)(h:l.length<2)(w:World):Calls prog 167 #[(Bs l)] w (Ho w l):=by
 have hsz:((Bs l).size:Int)<2:=by rw[Yu];omega
 have hn:=Zzs h;generalize Bs l=S at hsz ⊢;have HN:=Zz hn;clear hn h;obtain⟨hS,hC⟩:=s0 w;go_in;go_wp2;refine Zu ?_ rfl (.inr ⟨0,none,0,0,HN.out,rfl,?_⟩)
 ·simp[results,results167,go_sem]
 ·exact Exi.out
theorem Zba(l:Ub)(hl:l.length≤1048576)(w:World):Calls prog 167 #[(Bs l)] w (Ho w l):=by
 match l,hl with
 |[],_=>exact Gi [] (by decide) w
 |[k],_=>exact Gi [k] (by simp) w
 |k::c::t,hl=>
  have ht0:c::t≠[]:=by simp
  by_cases h1:k=114
  ·exact Zyu 114 (.inl rfl) k _ ht0 h1 hl w
  by_cases h2:k=119
  ·exact Zou k _ ht0 h2 hl w
  by_cases h3:k=102
  ·exact Zyu 102 (.inr rfl) k _ ht0 h3 hl w
  by_cases h4:k=97
  ·exact Zyt 97 (.inl rfl) k _ ht0 h4 hl w
  by_cases h5:k=100
  ·exact Zyt 100 (.inr rfl) k _ ht0 h5 hl w
  exact Ztc k _ ht0 h2 h1 h3 h4 h5 hl w
theorem Ts(l:Ub)(hl:l.length≤1048576)(w:World)(hm:Wn w):Calls prog 85 #[(Bs l)] w (Pp Xp w l):=Zzq Zot l hl w hm
theorem Me(l:Ub)(hl:l.length≤1048576)(w:World):Calls prog 90 #[(Bs l)] w (Zbt Vr w l):=Ztb Zba l hl w
end
section
theorem Cz{α:Type}{l:List α}(h:l≠[]):∃x r,l=x::r:=by
 cases l with
 |nil=>exact absurd rfl h
 |cons x r=>exact⟨x,r,rfl⟩
theorem Zlz:∀l:Ub,l.length+1=((wds l).map (fun x=>x.length+1)).sum
 |[]=>rfl
 |b::t=>by
  have ih:=Zlz t
  obtain⟨x,r,e⟩:=Cz (Tc t)
  by_cases hb:b=32
  ·subst hb
   rw[Tz,List.map_cons,List.sum_cons,←ih]
   simp
   omega
  ·rw[To hb,e]
   rw[e] at ih
   simp only[pre,List.headD_cons,List.tail_cons,List.map_cons,List.sum_cons,List.length_cons,List.length_append,List.length_nil] at ih ⊢
   omega
theorem Zwr:∀(l:Ub),∀b∈l,b=32∨∃x∈wds l,b∈x
 |[],b,h=>by cases h
 |c::t,b,h=>by
  obtain⟨x,r,e⟩:=Cz (Tc t)
  by_cases hc:c=32
  ·subst hc
   rcases List.mem_cons.1 h with rfl|h
   ·exact .inl rfl
   ·rcases Zwr t b h with h1|⟨y,hy,hb⟩
    ·exact .inl h1
    ·exact .inr ⟨y,by rw[Tz];exact List.mem_cons_of_mem _ hy,hb⟩
  ·rw[To hc,e]
   simp only[pre,List.headD_cons,List.tail_cons]
   rcases List.mem_cons.1 h with rfl|h
   ·exact .inr ⟨_,List.mem_cons_self,by simp⟩
   ·rcases Zwr t b h with h1|⟨y,hy,hb⟩
    ·exact .inl h1
    ·rw[e] at hy
     rcases List.mem_cons.1 hy with rfl|hy
     ·exact .inr ⟨_,List.mem_cons_self,by simp[hb]⟩
     ·exact .inr ⟨y,List.mem_cons_of_mem _ hy,hb⟩
theorem Zly:∀l:Ub,l.length+1=((cds l).map (fun x=>x.length+1)).sum
 |[]=>rfl
 |b::t=>by
  have ih:=Zly t
  obtain⟨x,r,e⟩:=Cz (Jv t)
  by_cases hb:b=58
  ·subst hb
   rw[On,List.map_cons,List.sum_cons,←ih]
   simp
   omega
  ·rw[Om hb,e]
   rw[e] at ih
   simp only[pre,List.headD_cons,List.tail_cons,List.map_cons,List.sum_cons,List.length_cons,List.length_append,List.length_nil] at ih ⊢
   omega
theorem Zwq:∀(l:Ub),∀b∈l,b=58∨∃x∈cds l,b∈x
 |[],b,h=>by cases h
 |c::t,b,h=>by
  obtain⟨x,r,e⟩:=Cz (Jv t)
  by_cases hc:c=58
  ·subst hc
   rcases List.mem_cons.1 h with rfl|h
   ·exact .inl rfl
   ·rcases Zwq t b h with h1|⟨y,hy,hb⟩
    ·exact .inl h1
    ·exact .inr ⟨y,by rw[On];exact List.mem_cons_of_mem _ hy,hb⟩
  ·rw[Om hc,e]
   simp only[pre,List.headD_cons,List.tail_cons]
   rcases List.mem_cons.1 h with rfl|h
   ·exact .inr ⟨_,List.mem_cons_self,by simp⟩
   ·rcases Zwq t b h with h1|⟨y,hy,hb⟩
    ·exact .inl h1
    ·rw[e] at hy
     rcases List.mem_cons.1 hy with rfl|hy
     ·exact .inr ⟨_,List.mem_cons_self,by simp[hb]⟩
     ·exact .inr ⟨y,List.mem_cons_of_mem _ hy,hb⟩
theorem Zor{m:Nat}:∀(l:List Ub),(∀x∈l,x.length≤m)→(l.map (fun x=>x.length+1)).sum≤l.length*(m+1)
 |[],_=>by simp
 |x::l,h=>by
  have h1:=h x List.mem_cons_self
  have ih:=Zor l fun y hy=>h y (List.mem_cons_of_mem _ hy)
  rw[List.map_cons,List.sum_cons,List.length_cons,Nat.add_mul]
  omega
theorem Zdc{n:Int}{c:UInt8}(h:c∈Lib.itoa n):c≠10:=by
 obtain⟨p,t,e⟩:=List.append_of_mem h;have hb:=Bt e rfl;intro hc;subst hc;unfold Zwy at hb;simp only[Bool.or_eq_true,Bool.and_eq_true,decide_eq_true_eq] at hb;rcases hb with⟨-,hb⟩|hb
 ·exact absurd hb (by decide)
 ·exact absurd hb (by decide)
theorem Zoq{x:Ub}{k:UInt8}{ns:List Int}(h:Yl x=some (k,ns)):x.length≤15∧∀b∈x,b≠10:=by
 obtain⟨t,rfl,hm,hv⟩:=Jt h;obtain⟨hl,hbd,hk⟩:=Sd hv;have each:∀y∈cds t,y.length≤4∧∀b∈y,b≠10:=by
  intro y hy;obtain⟨n,hn,he⟩:=Mh hm y hy;obtain⟨-,hi⟩:=Rs he;have h1:=hbd n hn;exact⟨by rw[←hi];exact Vl h1.1 h1.2,fun b hb=>Zdc (n:=n) (by rw[hi];exact hb)⟩
 have hs:=Zly t;have h2:=Zor (m:=4) (cds t) fun y hy=>(each y hy).1
 have h3:=Wd hm;refine⟨?_,fun b hb=>?_⟩
 ·rw[List.length_cons];have:(cds t).length≤3:=by omega
  have h4:(cds t).length*(4+1)≤3*(4+1):=Nat.mul_le_mul_right _ this;omega
 ·rcases List.mem_cons.1 hb with rfl|hb
  ·intro e;subst e;rcases hk with⟨h1|h1, -⟩|⟨h1, -⟩|⟨h1|h1, -⟩<;>exact absurd h1 (by decide)
  ·rcases Zwq t b hb with rfl|⟨y,hy,hb⟩
   ·decide
   ·exact(each y hy).2 b hb
theorem Vx{l:Ub}{ps:List (UInt8×List Int)}(h:Ys l=some ps):l.length≤191∧(∀b∈l,b≠10)∧ps.length≤12:=by
 unfold Ys at h;split at h
 ·rename_i he;subst he;injection h with h;subst h;exact⟨by simp,by simp,by simp⟩
 ·split at h
  ·rename_i ps' hm;split at h
   ·rename_i hn;injection h with h;subst h;have each:∀x∈wds l,x.length≤15∧∀b∈x,b≠10:=by
     intro x hx;obtain⟨⟨k,ns⟩, -,he⟩:=Mh hm x hx;exact Zoq he
    have hs:=Zlz l;have h2:=Zor (m:=15) (wds l) fun y hy=>(each y hy).1
    have h3:=Wd hm;have h4:(wds l).length*(15+1)≤12*(15+1):=Nat.mul_le_mul_right _ (by omega);refine⟨by omega,fun b hb=>?_,hn⟩;rcases Zwr l b hb with rfl|⟨y,hy,hb⟩
    ·decide
    ·exact(each y hy).2 b hb
   ·cases h
  ·cases h
end
section
structure Con where
 b:Ub
 x:Fr
 y:Fr
def Con.new:Con:=⟨[],⟨1,0,1⟩,⟨0,0,1⟩⟩
def Con.cells(c:Con):Av:=#[(Bs c.b),c.x.re,c.x.im,c.x.den,c.y.re,c.y.im,c.y.den]
def Pw(l:Ub):Int:=match Ys l with
 |some ps=>ps.length
 |none=> -1
section
variable (st:Con→Ub→Con×Ub)
def Qm:Con→List Ub→Ub→Con×Ub
 |c,[],o=>(c,o)
 |c,l::ls,o=>Qm (st c l).1 ls (o++((st c l).2++[10]))
theorem Zgv(c:Con)(ls:List Ub)(o:Ub):Qm st c (ls.drop ls.length) o=(c,o):=by
 rw[List.drop_length];rfl
theorem Zkb{ls:List Ub}{i:Nat}(hi:i<ls.length)(c:Con)(o:Ub):Qm st c (ls.drop i) o=Qm st (st c ls[i]).1 (ls.drop (i+1)) (o++((st c ls[i]).2++[10])):=by
 rw[List.drop_eq_getElem_cons hi];rfl
def Gf(r:Con×Ub):Ub:=r.2++([112,105,101,99,101,115,32]++(Lib.itoa (Pw r.1.b)++[10]))
def Pv(text:Ub):Ub:=Gf (Qm st Con.new (lns text).dropLast [])
end
def Zwn(o:ByteArray)(ok told:Bool):ByteArray:=if told then if ok then o else ⟨#[110,111]⟩ else ⟨#[119,104,97,116]⟩
def Pu(l:Ub):Ub×Ub×Bool:=Lib.cut l [32]
theorem Zwm(l:Ub): -1≤Pw l∧Pw l≤12:=by
 unfold Pw;split
 ·rename_i h;have:=(Vx h).2.2
  omega
 ·omega
end
section
open Go.RowKit

attribute [local go_sem] Zg Zf
theorem Zwc:∀l:Ub,(lns l).length≤l.length+1
 |[]=>by simp[lns]
 |b::t=>by
  have ih:=Zwc t
  by_cases hb:b=10
  ·subst hb
   rw[Oj,List.length_cons,List.length_cons]
   omega
  ·rw[Mc hb]
   have:=List.length_pos_iff.2 (Hm t)
   simp only[pre,List.length_cons,List.length_tail]
   omega
theorem Zog(l:Ub)(hl:l.length≤1048576)(w:World)(hm:Wn w):Calls prog 24 #[(Bs l), .string ⟨#[10]⟩] w fun e w'=>
  e= .returned (.slice (some ⟨w.heap.size,0,none⟩) (lns l).length (lns l).length)∧w'=w.alloc (.cells (Wh (lns l)).toArray 9):=by
 obtain⟨m,hm⟩:=hm.max;refine(Tryz.strings_Split (Bs l) ⟨#[10]⟩ m w (by rw[Yu];omega) hm (by decide)).mono ?_;rintro e w' ⟨rfl,rfl⟩;rw[Zyp _ l rfl,Zkc];refine⟨rfl,?_⟩;unfold Wh;rw[List.map_map];rfl
theorem Zgg(l:Ub)(hl:l.length≤1048576)(w:World)(hm:Wn w):Calls prog 25 #[(Bs l), .string ⟨#[32]⟩] w fun e w'=>
  e= .returned (.tuple #[.string (Bs (Pu l).1), .string (Bs (Pu l).2.1), .bool (Pu l).2.2])∧Ex w w':=by
 obtain⟨m,hm⟩:=hm.max;refine(Tryz.strings_Cut (Bs l) ⟨#[32]⟩ m w (by rw[Yu];omega) hm).mono ?_;rintro e w' ⟨rfl,n,rfl⟩;exact⟨rfl,(Ex.refl _).drewN n⟩
def Uh(bc:Nat)(w:World)(r:Con×Ub):Ending→World→Prop:=fun e w'=>
 ∃(o:ByteArray) (ok told:Bool),e= .returned (.tuple #[o,ok,told])∧Zwn o ok told=Bs r.2∧w.grownBy w' (some bc)∧Box w' bc 55 r.1.cells
def Zgf(st:Con→Ub→Con×Ub)(Q:Con→Prop)(l:Ub):Prop:=∀c,Q c→Q (st c l).1∧(st c l).2.length≤10000∧
 ∀(bc:Nat) (w:World),Xz w→Wn w→Box w bc 55 c.cells→
  (if (Pu l).2.2 then Calls prog 26 #[.pointer (some ⟨bc,0,none⟩), .string (Bs (Pu l).1), .string (Bs (Pu l).2.1)] w (Uh bc w (st c l))
  else Calls prog 27 #[.pointer (some ⟨bc,0,none⟩), .string (Bs (Pu l).1)] w (Uh bc w (st c l)))
theorem Bld.far{w w':World}{lo b bc:Nat}{p v:Value}{bs:List Value}(h:Bld w lo b p v bs)(hg:w.grownBy w' (some bc))(hne:b≠bc)(hbc:bc<lo):Bld w' lo b p v bs:=by
 refine⟨h.box.grown hg (fun e=>hne (by injection e)),h.own.kept hg ?_,h.ptr⟩;cases hv:v.ownBlock with
 |none=>exact .inl rfl
 |some g=>
  right;intro e;injection e with e;have:=(Own.lt h.own g hv).1
  omega
theorem Bld.ex{w w':World}{lo b:Nat}{p v:Value}{bs:List Value}(h:Bld w lo b p v bs)(hx:Ex w w'):Bld w' lo b p v bs:=⟨h.box.ex hx,Own.ex h.own hx,h.ptr⟩
structure ExS(W w:World)(bc bo bl lo:Nat)(c:Con)(o:Ub)(p v:Value)(ls:Av):Prop where
 ex:Ex W w
 con:Box w bc 55 c.cells
 bld:Bld w lo bo p v (Lib.byteCells o)
 lines:Box w bl 9 ls
section
variable {W w w':World} {bc bo bl lo:Nat} {c:Con} {o:Ub} {p v:Value} {ls:Av}
theorem ExS.go(h:ExS W w bc bo bl lo c o p v ls)(hx:Ex w w'):ExS W w' bc bo bl lo c o p v ls:=⟨h.ex.trans hx,h.con.ex hx,h.bld.ex hx,h.lines.ex hx⟩
theorem ExS.ans{c':Con}(h:ExS W w bc bo bl lo c o p v ls)(hbc:W.heap.size≤bc)(h1:bo≠bc)(h2:bl≠bc)(h3:bc<lo)(hg:w.grownBy w' (some bc))(hb:Box w' bc 55 c'.cells):ExS W w' bc bo bl lo c' o p v ls:=
 ⟨h.ex.grown hg (fun k hk=>by injection hk with hk;omega),hb,h.bld.far hg h1 h3,h.lines.grown hg (fun e=>h2 (by injection e))⟩
theorem ExS.wrote{t:Ub}{p' v':Value}(h:ExS W w bc bo bl lo c o p v ls)(h0:W.heap.size≤lo)(h1:W.heap.size≤bo)(h2:bc≠bo)(h3:bl≠bo)(hb:Bld w' lo bo p' v' (Lib.byteCells o++Lib.strCells (Bs t)))(hk:Sh w w' lo bo):
  ExS W w' bc bo bl lo c (o++t) p' v' ls:=
 ⟨hk.ex W h.ex h0 h1,hk.box _ _ _ h2 (by decide) h.con,by rw[Lib.byteCells_append];exact hb,hk.box _ _ _ h3 (by decide) h.lines⟩
end
end
section
open Go.RowKit

attribute [local go_sem] Zg Zf
theorem Zge(st:Con→Ub→Con×Ub)(Q:Con→Prop)(text:Ub)(hl:text.length≤700)(hQ:Q Con.new)(hL:∀l∈(lns text).dropLast,Zgf st Q l)
  (hP:∀c,Q c→∀w,Xz w→Wn w→Calls prog 30 #[(Bs c.b)] w fun e w'=>e= .returned (.int .i64 (Pw c.b))∧Ex w w') (w:World) [hG:Xz w] (hm:Wn w):
  Calls prog 9 #[(Bs text)] w fun e w'=>e= .returned (.string (Bs (Pv st text)))∧Ex w w':=by
 have KL:=Zz (fun w hm=>Zog text (by omega) w hm);obtain⟨R,HR⟩:=nm (Qm st Con.new (lns text).dropLast []);have HE:Hid (Pv st text=Gf R):=Zz (by rw[HR.out];rfl);have hn1:1≤(lns text).length:=by have:=List.length_pos_iff.2 (Hm text);omega
 have hn2:(lns text).length≤701:=by have:=Zwc text;omega
 have HB:=Zz (fun x (hx:x∈(lns text).dropLast)=>Ew text x (List.dropLast_subset _ hx));have HLN:Hid ((lns text).dropLast.length=(lns text).length-1):=Zz List.length_dropLast;have HAT:Hid (∀k (h:k<(lns text).dropLast.length),(Wh (lns text)).toArray[k]? =some (.string (Bs (lns text).dropLast[k]))):=Zz fun k h=>by
  have h2:k<(lns text).length:=by have:=HLN.out;omega
  simp[Wh,List.getElem?_eq_getElem h2]
 have hsz:(Bs text).size=text.length:=Yu text;have HM:=Zz hm;have HG:=Zz hG;have HP:=Zz hP;have HL:=Zz hL;have HQ0:=Zz hQ;clear hm hP hL hQ;generalize Bs text=S at*;generalize Pv st text=RES at*;generalize hll:(lns text).length=n1 at*;generalize hld:(lns text).dropLast=ls at*;generalize hlc:(Wh (lns text)).toArray=lc at*;clear hll hld hlc;have hsz2:¬(700:Int)<(S.size:Int):=by omega
 have HSZ:=Zz hsz;clear hsz;have hs1:IntKind.i64.wrap ((n1:Int)-1)=((n1-1:Nat):Int):=by have:=Zt ((n1:Int)-1) (by omega);rw[this];omega
 have hs2:(0:Int)≤((n1-1:Nat):Int):=by omega
 have hs3:((n1-1:Nat):Int)≤(n1:Int):=by omega
 have hg:=hG.rd;have hR:=Zo.refl w;go_in;go_upto_region 5 with fail;have bC:Box ((w.alloc (.cells #[.string ⟨#[]⟩, .int .i64 1,oo, .int .i64 1,oo,oo, .int .i64 1] 55)).alloc (.cells #[.pointer none, .slice none 0 0] 58)) w.heap.size 55 #[.string ⟨#[]⟩, .int .i64 1,oo, .int .i64 1,oo,oo, .int .i64 1]:=(Box.new w _ _).alloc _;have bB:Box ((w.alloc (.cells #[.string ⟨#[]⟩, .int .i64 1,oo, .int .i64 1,oo,oo, .int .i64 1] 55)).alloc (.cells #[.pointer none, .slice none 0 0] 58)) (w.heap.size+1) 58 #[.pointer none, .slice none 0 0]:=by
  have h:=Box.new (w.alloc (.cells #[.string ⟨#[]⟩, .int .i64 1,oo, .int .i64 1,oo,oo, .int .i64 1] 55)) #[.pointer none, .slice none 0 0] 58;rwa[Zy] at h
 have hE1:Ex w ((w.alloc (.cells #[.string ⟨#[]⟩, .int .i64 1,oo, .int .i64 1,oo,oo, .int .i64 1] 55)).alloc (.cells #[.pointer none, .slice none 0 0] 58)):=((Ex.refl w).alloc _).alloc _;have hz1:((w.alloc (.cells #[.string ⟨#[]⟩, .int .i64 1,oo, .int .i64 1,oo,oo, .int .i64 1] 55)).alloc (.cells #[.pointer none, .slice none 0 0] 58)).heap.size=w.heap.size+2:=by simp only[Zy]
 generalize (w.alloc (.cells #[.string ⟨#[]⟩, .int .i64 1,oo, .int .i64 1,oo,oo, .int .i64 1] 55)).alloc (.cells #[.pointer none, .slice none 0 0] 58)=W1 at*;clear hR hg;go_wp2_with fail;refine(KL.out _ (HM.out.ex hE1)).mono ?_;rintro e w2 ⟨rfl,rfl⟩;have hS:ExS w (W1.alloc (.cells lc 9)) w.heap.size (w.heap.size+1) W1.heap.size (w.heap.size+1) Con.new [] (.pointer none) (.slice none 0 0) lc:=
  ⟨hE1.alloc _,bC.alloc _,⟨bB.alloc _,⟨by simp[Lib.byteCells], .inl ⟨rfl,rfl⟩⟩, .inl rfl⟩,Box.new W1 lc _⟩
 have hsz0:w.heap.size+1≤(W1.alloc (.cells lc 9)).heap.size:=by rw[Zy];omega
 have hb1:w.heap.size≠W1.heap.size:=by omega
 have hb2:w.heap.size+1≠W1.heap.size:=by omega
 have HB1:=Zz hb1;have HB2:=Zz hb2;have HS0:=Zz hS;generalize W1.alloc (.cells lc 9)=W2 at*;generalize W1.heap.size=bl at*;clear hE1 bC bB hz1 hS KL hb1 hb2;go_wp2_with fail;go_loopw [32,7,8,9,10,11,12,13] (fun i _ _ _ _ _ _ _ wr=>∃(k:Nat) (c:Con) (o:Ub) (p v:Value),i= .int .i64 k∧k≤ls.length∧Hid (R=Qm st c (ls.drop k) o)∧Hid (Q c)∧o.length≤10001*k∧Hid (ExS w wr w.heap.size (w.heap.size+1) bl (w.heap.size+1) c o p v lc)) (fun i _ _ _ _ _ _ _ _=>702-(intOf i).toNat)
 case atStart=>exact⟨0,Con.new,[],_,_,rfl,by omega,HR,HQ0,by simp,HS0⟩
 case round=>
  clear HS0 HR HQ0 hsz0;obtain⟨k,c,o,p,v,rfl,hk,HR,HQ,ho,HS⟩:=hrel;have hsz0:=HS.out.ex.size;have hlo:w.heap.size+1≤wr.heap.size:=by have:=HS.out.bld.box.lt;omega
  by_cases hlt:k<ls.length
  ·have hI:(k:Int)<((n1-1:Nat):Int):=by have:=HLN.out;omega
   have hw5:=wr1 k (by have:=HLN.out;omega);have d0:=(HS.out.lines.cell k).trans (HAT.out k hlt);have hmem:=List.getElem_mem hlt;have hll:=HB.out _ hmem;have HST:=Zz (Zkb st hlt c o);obtain⟨hQ2,hr2,hcall⟩:=HL.out _ hmem c HQ.out;have HK:=Zz hlt;clear hmem;generalize ls[k]=l at d0 hll HST hQ2 hr2 hcall;clear hlt HQ;have KC:=Zz (fun w hm=>Zgg l (by omega) w hm);generalize Pu l=cc at KC hcall;obtain⟨x,y,f⟩:=cc;generalize st c l=r at HST hQ2 hr2 hcall;generalize Bs l=LN at d0 KC;simp only at KC hcall;generalize Bs x=X at KC hcall;generalize Bs y=Y at KC hcall;have HCALL:=Zz hcall;have HQ2:=Zz hQ2;have HR2:Hid (R=Qm st r.1 (ls.drop (k+1)) (o++(r.2++[10]))):=Zz (HR.out.trans HST.out);clear hcall hQ2 HR HST hll;go_wp2_with fail;refine Yw (KC.out _ (HM.out.ex HS.out.ex)) fun w3 hx=>?_
   have HS3:=Zz (HS.out.go hx);have hsz3:w.heap.size+1≤w3.heap.size:=Nat.le_trans hlo hx.size;clear hx HS d0 hlo hsz0 KC;rcases f with _|_
   all_goals
    simp only[Bool.false_eq_true,if_false,if_true] at HCALL;go_wp2_with fail;refine(HCALL.out _ _ (HG.out.ex HS3.out.ex) (HM.out.ex HS3.out.ex) HS3.out.con).mono ?_;rintro e w4 ⟨a,ok,told,rfl,hans,hg4,hb4⟩;have HS4:=Zz (HS3.out.ans (Nat.le_refl _) (by omega) (fun e=>HB1.out e.symm) (by omega) hg4 hb4);have hsz4:w.heap.size+1≤w4.heap.size:=Nat.le_trans hsz3 hg4.size;clear HCALL hg4 hb4 HS3 hsz3;obtain⟨A,HA⟩:=nm (Zwn a ok told);have HT:Hid (A++⟨#[10]⟩=Bs (r.2++[10])):=Zz (by rw[HA.out,hans];exact Xk r.2 [10]);have HTS:Hid ((A++⟨#[10]⟩).size≤10001):=Zz (by rw[HT.out,Yu,List.length_append];simp;omega);clear hans;rcases told with _|_
    rotate_left;rcases ok with _|_
    all_goals
     simp only[Zwn,Bool.false_eq_true,if_false,if_true] at HA;rw[HA.out] at HT HTS;clear HA;have hzA:=HTS.out;rw[ByteArray.size_append,show(⟨#[10]⟩:ByteArray).size=1 from rfl] at hzA;go_wp2_with fail;refine(Zgh _ _ _ _ _ _ _ HS4.out.bld hsz4 ?_).mono ?_
     ·rw[Lib.byteCells_length];have:=HTS.out;have:=HLN.out;have:=HK.out;omega
     rintro e w5 ⟨rfl,v5,hb5,hk5⟩;rw[HT.out] at hb5;have HS5:=Zz (HS4.out.wrote (by omega) (by omega) (by omega) (fun e=>HB2.out e.symm) hb5 hk5);clear hb5 hk5 HS4 hsz4;go_wp2_with fail;go_roundw
     case rel=>exact⟨k+1,r.1,_,_,_,by go_num,by have:=HK.out;omega,HR2,HQ2,by simp;omega,HS5⟩
     case measure=>have:=HK.out;have:=HLN.out;simp[intOf];omega
  ·obtain rfl:k=ls.length:=by omega
   have hI:¬((ls.length:Nat):Int)<((n1-1:Nat):Int):=by have:=HLN.out;omega
   have HRE:Hid (R=(c,o)):=Zz (HR.out.trans (Zgv st c ls o));have c0:=HS.out.con.cell;have z0:=HS.out.con.lt;have hbd:=Zwm c.b;have kp:=fun w hg hm=>HP.out c HQ.out w hg hm
   have HEE:Hid (RES=o++([112,105,101,99,101,115,32]++(Lib.itoa (Pw c.b)++[10]))):=Zz (by rw[HE.out,HRE.out];rfl);unfold Con.cells at c0;clear HRE HE HR HQ hlt HL HAT HB;generalize Pw c.b=n at*;generalize Bs c.b=CB at kp c0;have KP:=Zz kp;clear kp;go_wp2_with fail;refine Yw (KP.out _ (HG.out.ex HS.out.ex) (HM.out.ex HS.out.ex)) fun w3 hx=>?_
   have HS3:=Zz (HS.out.go hx);have hsz3:w.heap.size+1≤w3.heap.size:=Nat.le_trans hlo hx.size;clear hx HS c0 z0 hlo hsz0 KP;go_wp2_with fail;refine(Oh n (by omega) (by omega) _ (HM.out.ex HS3.out.ex).tab).mono ?_;rintro e w4 ⟨rfl,hx⟩;have HS4:=Zz (HS3.out.go hx);have hsz4:w.heap.size+1≤w4.heap.size:=Nat.le_trans hsz3 hx.size;clear hx HS3 hsz3;have hil:=Vi n (by omega) (by omega);have HT:Hid ((⟨#[112,105,101,99,101,115,32]⟩:ByteArray)++Bs (Lib.itoa n)++⟨#[10]⟩=Bs ([112,105,101,99,101,115,32]++(Lib.itoa n++[10]))):=Zz (by
    rw[←List.append_assoc,←Xk,←Xk];rfl)
   have HTS:Hid (((⟨#[112,105,101,99,101,115,32]⟩:ByteArray)++Bs (Lib.itoa n)++⟨#[10]⟩).size≤100):=Zz (by rw[HT.out,Yu];simp;omega);have hzI:(Bs (Lib.itoa n)).size≤21:=by rw[Yu];exact hil
   generalize Bs (Lib.itoa n)=IT at HT HTS hzI ⊢;go_wp2_with fail;refine(Zgh _ _ _ _ _ _ _ HS4.out.bld hsz4 ?_).mono ?_
   ·rw[Lib.byteCells_length];have:=HTS.out;have:=HLN.out;omega
   rintro e w5 ⟨rfl,v5,hb5,hk5⟩;rw[HT.out] at hb5;have HS5:=Zz (HS4.out.wrote (by omega) (by omega) (by omega) (fun e=>HB2.out e.symm) hb5 hk5);have hsz5:w.heap.size+1≤w5.heap.size:=Nat.le_trans hsz4 hk5.size;rw[←HEE.out] at HS5;clear hb5 hk5 HS4 hsz4;go_wp2_with fail;have hB:=HS5.out.bld;refine(Tryz.Builder_String_any (w.heap.size+1) (w.heap.size+1) RES w5 (.inr ⟨Nat.le_refl _,v5,hB.box,by have:=hB.own;rw[Lib.byteCells_length] at this ⊢;exact this,fun e=>Own.ne hB.own hB.box (by decide) e.symm⟩) hsz5).mono ?_;rintro e w6 ⟨rfl,hb6⟩;go_wp2;refine Zu (v:= .string (Bs RES)) ?_ rfl ⟨rfl,Below.trans HS5.out.ex (Below.mono hb6 (by omega))⟩;simp[results,results9,go_sem];rfl
end
section
def Nr(l:Ub):Option Int:=
 if 1≤(Xl l).length∧(Xl l).length≤3∧(Xl l).all Wz=true then some (sg l*((Xl l).foldl Vu 0:Nat)) else none
def Yj(l:Ub)(m:Nat):Option (List Int):=match Xg Nr (wds l) with
 |some ns=>if ns.length=m then some ns else none
 |none=>none
theorem Bc(l:Ub):(sg l=1∧Xl l=l)∨(sg l= -1∧l=45::Xl l):=by
 cases l with
 |nil=>exact .inl ⟨rfl,rfl⟩
 |cons c t=>
  by_cases hc:c=45
  ·subst hc;exact .inr ⟨rfl,rfl⟩
  ·refine .inl ⟨?_,?_⟩
   ·simp[sg,hc]
   ·simp[Xl,hc]
theorem Zsm{l:Ub}{n:Int}(h:Nr l=some n): -999≤n∧n≤999∧l.length≤4:=by
 unfold Nr at h;split at h
 ·rename_i hc;obtain⟨h1,h2,h3⟩:=hc;have hb:=Gl (Xl l) (fun c hc=>List.all_eq_true.1 h3 c hc);have hp:10 ^ (Xl l).length≤10 ^ 3:=Nat.pow_le_pow_right (by omega) h2;injection h with h;rcases Bc l with⟨e1,e2⟩|⟨e1,e2⟩
  ·rw[e1] at h;rw[e2] at h2;omega
  ·rw[e1] at h;have:l.length=(Xl l).length+1:=by rw[e2];simp[Xl]
   omega
 ·cases h
theorem Zvy:∀(l:Ub) (acc:Nat),l.all Wz=true→acc*10 ^ l.length≤1000000→l.length≤3→Lib.parseUint10 acc l= .ok (l.foldl Vu acc)
 |[],acc,_,_,_=>rfl
 |c::t,acc,h,ha,hl=>by
  simp only[List.all_cons,Bool.and_eq_true] at h
  obtain⟨hc,ht⟩:=h
  have hc':48≤c.toNat∧c.toNat≤57:=by simpa [Wz] using hc
  have hacc:acc≤1000000:=Nat.le_trans (Nat.le_mul_of_pos_right acc (Nat.pow_pos (by omega))) ha
  rw[Lib.parseUint10,if_pos hc',if_neg (by omega),if_neg (by omega)]
  have e:acc*10+(c.toNat-48)=Vu acc c:=by unfold Vu;omega
  rw[e]
  exact parse_digits3 t acc c ht hc' hacc (by simpa using hl)
where
 parse_digits3 (t:Ub) (acc:Nat) (c:UInt8) (ht:t.all Wz=true) (hc:48≤c.toNat∧c.toNat≤57) (hacc:acc≤1000000) (hl:t.length≤2):Lib.parseUint10 (Vu acc c) t= .ok (t.foldl Vu (Vu acc c)):=by
  have hn:Vu acc c≤10000009:=by unfold Vu;omega
  generalize Vu acc c=a at hn ⊢;match t,ht,hl with
  |[],_,_=>rfl
  |[x],ht,_=>
   have hx:48≤x.toNat∧x.toNat≤57:=by simpa [Wz] using ht
   rw[Lib.parseUint10,if_pos hx,if_neg (by omega),if_neg (by omega)];have e:a*10+(x.toNat-48)=Vu a x:=by unfold Vu;omega
   rw[e];rfl
  |[x,y],ht,_=>
   have hxy:(48≤x.toNat∧x.toNat≤57)∧(48≤y.toNat∧y.toNat≤57):=by simpa [Wz] using ht
   obtain⟨hx,hy⟩:=hxy;rw[Lib.parseUint10,if_pos hx,if_neg (by omega),if_neg (by omega)];have e:a*10+(x.toNat-48)=Vu a x:=by unfold Vu;omega
   rw[e];have hn2:Vu a x≤100000099:=by unfold Vu;omega
   rw[Lib.parseUint10,if_pos hy,if_neg (by omega),if_neg (by omega)];have e2:Vu a x*10+(y.toNat-48)=Vu (Vu a x) y:=by unfold Vu;omega
   rw[e2];rfl
theorem Zsl{l:Ub}(h:l.all Wz=true)(h1:1≤l.length)(h3:l.length≤3):Lib.atoiAll l= .ok ((l.foldl Vu 0:Nat):Int):=by
 cases l with
 |nil=>simp at h1
 |cons c t=>
  have hc:48≤c.toNat∧c.toNat≤57:=by
   simp only[List.all_cons,Bool.and_eq_true] at h;simpa [Wz] using h.1
  rw[Lib.atoiAll_plain c t (by omega) (by omega)];have hb:=Gl (c::t) (fun x hx=>List.all_eq_true.1 h x hx);have hp:10 ^ (c::t).length≤10 ^ 3:=Nat.pow_le_pow_right (by omega) h3;have e:Lib.parseMag (c::t)= .ok ((c::t).foldl Vu 0):=by
   unfold Lib.parseMag;rw[if_neg (by simp),Zvy (c::t) 0 h (by simp) h3]
  rw[e];unfold Lib.signless;simp only;rw[if_neg (by omega)]
def Lc:Ub:=[48,49,50,51,52,53,54,55,56,57]
theorem Zoc(c:UInt8):Lc.contains c=Wz c:=by
 have key:∀n:Fin 256,Lc.contains (UInt8.ofNat n.val)=Wz (UInt8.ofNat n.val):=by decide
 have:=key ⟨c.toNat,c.toNat_lt⟩
 simpa using this
theorem Fz{p:UInt8→Bool}:∀{l:Ub},l.dropWhile p=[]↔l.all p=true
 |[]=>by simp
 |c::t=>by
  by_cases hc:p c=true
  ·simp[hc,Fz (l:=t)]
  ·simp[hc]
theorem Zyi{p:UInt8→Bool}:∀{l:Ub} {x:UInt8} {t:Ub},l.dropWhile p=x::t→p x=false
 |[],_,_,h=>by simp at h
 |c::l,x,t,h=>by
  rw[List.dropWhile_cons] at h
  split at h
  ·exact Zyi h
  ·rename_i hc
   injection h with h1 h2
   subst h1
   simpa using hc
theorem Ee(l:Ub):Lib.trimS l Lc=[]↔l.all Wz=true:=by
 have hp:(fun x=>Lc.contains x)=Wz:=funext Zoc;unfold Lib.trimS Lib.trimLeftS Lib.trimRightS;rw[hp,Fz];constructor
 ·intro h;have h2:∀x∈l.reverse.dropWhile Wz,Wz x=true:=fun x hx=>List.all_eq_true.1 h x (List.mem_reverse.2 hx)
  cases hd:l.reverse.dropWhile Wz with
  |nil=>
   have:=(Fz (p:=Wz) (l:=l.reverse)).1 hd
   simpa using this
  |cons x t=>
   have hx:=h2 x (by rw[hd];exact List.mem_cons_self);rw[Zyi hd] at hx;cases hx
 ·intro h;have:l.reverse.all Wz=true:=by simpa using h
  rw[(Fz (p:=Wz) (l:=l.reverse)).2 this];rfl
end
section
open Go.RowKit

attribute [local go_sem] Zg Zf
theorem Zsk(l:Ub)(w:World):Calls prog 131 #[(Bs l), .string ⟨#[45]⟩] w fun e w'=>e= .returned (.string (Bs (Xl l)))∧w'=w:=by
 refine(Tryz.strings_TrimPrefix (Bs l) ⟨#[45]⟩ w).mono ?_;rintro e w' ⟨rfl,rfl⟩;refine⟨?_,rfl⟩;have e:Lib.trimPrefix l [45]=Xl l:=by
  cases l with
  |nil=>rfl
  |cons c t=>
   unfold Lib.trimPrefix;by_cases hc:c=45
   ·subst hc;simp[Xl,Lib.hasPrefix,List.isPrefixOf]
   ·have hp:Lib.hasPrefix (c::t) [45]=false:=by
     simp[Lib.hasPrefix,List.isPrefixOf];exact fun e=>hc e.symm
    rw[hp];simp[Xl,hc]
 show Ending.returned (.string (Bs (Lib.trimPrefix l [45])))=_;rw[e]
theorem Zsj(l:Ub)(hl:l.length≤1048576)(w:World):Calls prog 132 #[(Bs l), .string ⟨#[48,49,50,51,52,53,54,55,56,57]⟩] w fun e w'=>e= .returned (.string (Bs (Lib.trimS l Lc)))∧Ex w w':=by
 refine(Any.strings_Trim_laid Tryz.lays160 (by kernel_rfl) (Bs l) ⟨#[48,49,50,51,52,53,54,55,56,57]⟩ w (by rw[Yu];omega) (by decide) (ascii_of_all (by decide))).mono ?_;rintro e w' ⟨rfl,hb⟩;exact⟨rfl,hb⟩
theorem Zsi(l:Ub)(h:l.all Wz=true)(h1:1≤l.length)(h3:l.length≤3)(w:World)(hm:Wn w):Calls prog 133 #[(Bs l)] w fun e w'=>
  e= .returned (.tuple #[((l.foldl Vu 0:Nat):Int), .nilIface])∧Ex w w':=by
 refine(Zla l (by omega) w hm).mono ?_;rintro e w' ⟨v,er,rfl,hx, -,hv⟩;obtain⟨rfl,rfl⟩:=hv _ (Zsl h h1 h3);exact⟨rfl,hx⟩
def GotN(w:World)(r:Option (List Int)):Ending→World→Prop:=fun e w'=>
 (∃(ns:List Int) (A:Option Addr) (cap:Nat),r=some ns∧e= .returned (.tuple #[.slice A ns.length cap,true])∧Un w' w.heap.size A cap ns∧Ex w w')∨
 (r=none∧e= .returned (.tuple #[.slice none 0 0,false])∧Ex w w')
theorem Cy{l:Ub}(h:¬(1≤(Xl l).length∧(Xl l).length≤3∧(Xl l).all Wz=true)):Nr l=none:=if_neg h
theorem Zsh{l:Ub}(h:1≤(Xl l).length∧(Xl l).length≤3∧(Xl l).all Wz=true):Nr l=some (sg l*((Xl l).foldl Vu 0:Nat)):=if_pos h
theorem Zyh{l:Ub}{m:Nat}{x:Ub}(hx:x∈wds l)(h:Nr x=none):Yj l m=none:=by
 unfold Yj;rw[Qp h hx]
theorem Bb{l:Ub}{m:Nat}(h:(wds l).length≠m):Yj l m=none:=by
 unfold Yj;cases hm:Xg Nr (wds l) with
 |none=>rfl
 |some ns=>
  have:=Wd hm
  simp only;rw[if_neg (by omega)]
theorem Ba{l:Ub}{ns:List Int}(h:Xg Nr (wds l)=some ns):Yj l (wds l).length=some ns:=by
 unfold Yj;rw[h];simp only;rw[if_pos (Wd h)]
theorem Jj(l:Ub)(hl:l.length≤1048576)(m:Nat)(hm4:m≤100)(w:World)(hm:Wn w):Calls prog 68 #[(Bs l),m] w (GotN w (Yj l m)):=by
 have KS:=Zz (Zoz l hl w hm);have HWB:Hid (∀x∈wds l,x.length≤1048576):=Zz fun x hx=>Nat.le_trans (Mj l x hx) hl
 obtain⟨R,HR⟩:=nm (Yj l m);rw[←HR.out];generalize Bs l=S at*;have HM:=Zz hm;clear hm hl;go_in;go_wp2_with fail;refine KS.out.mono ?_;rintro e w1 ⟨A,cap,rfl,hST,hx⟩;have HE1:=Zz hx;have HST:=Zz hST;clear hx hST KS;by_cases hlen:(wds l).length=m;rotate_left
 ·have hn:((((wds l).length:Nat):Int)==(m:Int))=false:=by rw[beq_eq_false_iff_ne];omega
  have hn2:¬(((wds l).length:Nat):Int)=(m:Int):=by omega
  have HNO:=Zz (HR.out.trans (Bb hlen));clear hlen;go_wp2;refine Zu (v:= .tuple #[.slice none 0 0,false]) ?_ rfl (.inr ⟨HNO.out,rfl,HE1.out⟩);simp[results,results68,go_sem]
 have HY:=Zz (fun ns h=>HR.out.trans ((congrArg (Yj l) hlen.symm).trans (Ba (l:=l) (ns:=ns) h)));have HN:=Zz (fun x hx h=>HR.out.trans (Zyh (l:=l) (m:=m) (x:=x) hx h));generalize wds l=ls at*;have hlm:ls.length≤100:=by omega
 subst hlen;clear HR hm4;have HO0:=Zz (Ow w1 w1.heap.size 3 1 (Nat.le_refl _));have hE0:=(Ex.refl w1).alloc (.cells #[] 3);go_upto_region 6 with fail;have HE0:=Zz hE0;clear hE0;go_loopw [22,7,9,10,11,12] (fun i o _ _ _ _ wr=>∃(j:Nat) (B:Option Addr) (cb:Nat) (ns:List Int),i= .int .i64 j∧j≤ls.length∧o= .slice B ns.length cb∧Hid (Xg Nr (ls.take j)=some ns)∧Hid (Un wr w1.heap.size B cb ns)∧Hid (Ex w1 wr)) (fun i _ _ _ _ _ _=>ls.length+1-(intOf i).toNat)
 case atStart=>exact⟨0,_,0,[],rfl,by omega,rfl,Zz rfl,HO0,HE0⟩
 case round=>
  clear HO0 HE0;obtain⟨j,B,cb,ns,rfl,hj,rfl,HM1,HO,HE⟩:=hrel;have hnl:ns.length≤100:=by
   have h1:=Wd HM1.out;have h2:=List.length_take_le j ls;omega
  by_cases hlt:j<ls.length
  ·obtain⟨b,off,rfl,hc⟩:=(HST.out.ex HE.out) (by simp only[Wh,List.length_map];omega)
   have hcell:=hc j (by simp only[Wh,List.length_map];omega);simp only[Wh,List.getElem?_map,List.getElem?_eq_getElem hlt,Option.map_some] at hcell;have hmem:=List.getElem_mem hlt;have HXL:=Zz (HWB.out _ hmem);have HNX:=Zz (HN.out _ hmem);have HMs:Hid (Xg Nr (ls.take (j+1))=Xg Nr (ls.take j++[ls[j]])):=Zz (by rw[Xf hlt]);have hI:(j:Int)<(ls.length:Int):=by omega
   have hw5:=wr1 j (by omega);clear hc hmem;generalize ls[j]=x at*;have KT:=Zz (fun w=>Zsk x w);have hsg:=Bc x;have hdl:(Xl x).length≤1048576:=by
    rcases hsg with⟨-,h⟩|⟨-,h⟩
    ·rw[h];exact HXL.out
    ·have h2:=HXL.out;rw[h] at h2;simp only[List.length_cons] at h2;omega
   have KD:=Zz (fun w=>Zsj (Xl x) hdl w);have KW:=Zz (fun w=>Wu ((Xl x).length:Nat) 1 3 w);have hsz:(Bs (Xl x)).size=(Xl x).length:=Yu _;have HEw:=Zz (HE1.out.trans HE.out);by_cases hin:1≤(Xl x).length∧(Xl x).length≤3;rotate_left
   ·have hb:Xw ((Xl x).length:Nat) 1 3=false:=by
     unfold Xw;simp only[Bool.and_eq_false_iff,decide_eq_false_iff_not];omega
    have HNO:=Zz (HNX.out (Cy (fun h=>hin ⟨h.1,h.2.1⟩)));rw[hb] at KW;clear hb hin KD hdl hsg;generalize Bs (Xl x)=D at*;generalize (Xl x).length=dn at*;generalize Bs x=X at*;go_wp2_with (first|((with_reducible refine(KT.out _).mono ?_);rintro e wn ⟨rfl,rfl⟩)|((with_reducible refine(KW.out _).mono ?_);rintro e wn ⟨rfl,rfl⟩));refine Zu (v:= .tuple #[.slice none 0 0,false]) ?_ rfl (.inr ⟨HNO.out,rfl,HEw.out⟩);simp[results,results68,go_sem]
   have hb:Xw ((Xl x).length:Nat) 1 3=true:=by
    unfold Xw;simp only[Bool.and_eq_true,decide_eq_true_eq];omega
   rw[hb] at KW;clear hb;by_cases hall:(Xl x).all Wz=true;rotate_left
   ·have hne:=fun e=>hall ((Ee (Xl x)).1 e)
    have hst:=Ta (Ih (a:=Lib.trimS (Xl x) Lc) (b:=[]) hne);have e0:Bs []=(⟨#[]⟩:ByteArray):=rfl;rw[e0] at hst;have hst2:(Bs (Lib.trimS (Xl x) Lc)).toList.isEmpty=false:=by simpa using hst
    have HNO:=Zz (HNX.out (Cy (fun h=>hall h.2.2)));clear hst e0 hne hall hin hdl hsg;generalize Bs (Lib.trimS (Xl x) Lc)=T at*;generalize Bs (Xl x)=D at*;generalize (Xl x).length=dn at*;generalize Bs x=X at*;go_wp2_with (first|((with_reducible refine(KT.out _).mono ?_);rintro e wn ⟨rfl,rfl⟩)|((with_reducible refine(KW.out _).mono ?_);rintro e wn ⟨rfl,rfl⟩)|((with_reducible refine(KD.out _).mono ?_);rintro e wn ⟨rfl,hx⟩));refine Zu (v:= .tuple #[.slice none 0 0,false]) ?_ rfl (.inr ⟨HNO.out,rfl,HEw.out.trans hx⟩);simp[results,results68,go_sem]
   have htr:Lib.trimS (Xl x) Lc=[]:=(Ee (Xl x)).2 hall;rw[htr] at KD;have KA:=Zz (fun w hm=>Zsi (Xl x) hall hin.1 hin.2 w hm);have hn3:=Zsh (l:=x) ⟨hin.1,hin.2,hall⟩;have hfb:=Gl (Xl x) (fun c hc=>List.all_eq_true.1 hall c hc);have hfb2:(Xl x).foldl Vu 0<1000:=Nat.lt_of_lt_of_le hfb (Nat.pow_le_pow_right (by omega) hin.2);have HM3:Hid (∀n,Nr x=some n→Xg Nr (ls.take (j+1))=some (ns++[n])):=Zz fun n h=>by rw[HMs.out];exact Ve h HM1.out
   have e0:Bs []=(⟨#[]⟩:ByteArray):=rfl;rw[e0] at KD;have HE2w:=HE.out.size;have hlo1:=HE1.out.size;have hsg2:(sg x=1∧Bs (Xl x)=Bs x)∨(sg x= -1∧¬Bs x=Bs (Xl x)):=by
    rcases hsg with⟨h1,h2⟩|⟨h1,h2⟩
    ·exact .inl ⟨h1,by rw[h2]⟩
    ·refine .inr ⟨h1,Ih fun e=>?_⟩;have:=congrArg List.length (e.symm.trans h2)
     simp at this
   clear hsg hall hin htr e0 hdl hfb HNX HXL HMs;generalize Bs (Xl x)=D at*;generalize (Xl x).length=dn at*;generalize (Xl x).foldl Vu 0=f at*;generalize Bs x=X at*;generalize sg x=sx at*;rcases hsg2 with⟨rfl,rfl⟩|⟨rfl,hXD⟩
   ·have HM4:=Zz (HM3.out _ (by rw[hn3,Int.one_mul]));clear HM3 hn3;go_wp2_with (first|((with_reducible refine(KT.out _).mono ?_);rintro e wn ⟨rfl,rfl⟩)|((with_reducible refine(KW.out _).mono ?_);rintro e wn ⟨rfl,rfl⟩)|((with_reducible refine(KD.out _).mono ?_);rintro e w8 ⟨rfl,hx8⟩)|((with_reducible refine(KA.out _ (HM.out.ex (HEw.out.trans hx8))).mono ?_);rintro e w9 ⟨rfl,hx9⟩;have HE9:=Zz ((HE.out.trans hx8).trans hx9);have HO9:=Zz ((HO.out.ex hx8).ex hx9);have hlo9:w1.heap.size≤w9.heap.size:=HE9.out.size)|(at_builtin;refine Vj rfl _ _ w9 rfl w1.heap.size B cb ns _ rfl HO9.out rfl (by omega) hlo9 ?_;intro A' cap' w' hown' hk'));refine⟨⟨j+1,A',cap',_,by go_num,by omega,by simp,HM4,Zz hown',Zz (hk'.ex w1 HE9.out (Nat.le_refl _))⟩,?_⟩;simp[intOf]<;>omega
   ·have HM4:=Zz (HM3.out _ hn3);rw[Int.neg_mul,Int.one_mul] at HM4;have hng:IntKind.i64.wrap (-(f:Int))= -(f:Int):=Zt _ (by omega);have hst:=Ta hXD;clear HM3 hn3 hXD;go_wp2_with (first|((with_reducible refine(KT.out _).mono ?_);rintro e wn ⟨rfl,rfl⟩)|((with_reducible refine(KW.out _).mono ?_);rintro e wn ⟨rfl,rfl⟩)|((with_reducible refine(KD.out _).mono ?_);rintro e w8 ⟨rfl,hx8⟩)|((with_reducible refine(KA.out _ (HM.out.ex (HEw.out.trans hx8))).mono ?_);rintro e w9 ⟨rfl,hx9⟩;have HE9:=Zz ((HE.out.trans hx8).trans hx9);have HO9:=Zz ((HO.out.ex hx8).ex hx9);have hlo9:w1.heap.size≤w9.heap.size:=HE9.out.size)|(at_builtin;refine Vj rfl _ _ w9 rfl w1.heap.size B cb ns _ rfl HO9.out rfl (by omega) hlo9 ?_;intro A' cap' w' hown' hk'));refine⟨⟨j+1,A',cap',_,by go_num,by omega,by simp,HM4,Zz hown',Zz (hk'.ex w1 HE9.out (Nat.le_refl _))⟩,?_⟩;simp[intOf]<;>omega
  ·obtain rfl:j=ls.length:=by omega
   have hI:¬((ls.length:Nat):Int)<(ls.length:Int):=by omega
   have HRS:=Zz (HY.out ns (by have:=HM1.out;rwa[List.take_length] at this));have HEw:=Zz (HE1.out.trans HE.out);have hlo1:=HE1.out.size;clear hlt;go_wp2;refine Zu (v:= .tuple #[.slice B ns.length cb,true]) ?_ rfl (.inl ⟨ns,B,cb,HRS.out,rfl,HO.out.wide hlo1,HEw.out⟩);simp[results,results68,go_sem]
end
section
open Go.RowKit

theorem Fy{xs:List Fr}{k:Nat}(hk:k<xs.length):(xs.take (k+1)).map txt=(xs.take k).map txt++[txt (xs.getD k .zero)]:=by
 rw[List.take_succ_eq_append_getElem hk,List.map_append];simp[hk]

theorem Zfw(ls:List Ub):(ls.map Bs).map (·.data.toList)=ls:=by
 rw[List.map_map];exact List.map_id ls
theorem Pq.join{w:World}{lo:Nat}{B:Option Addr}{cb:Nat}{ls:List Ub}(h:Pq w lo B cb ls)(hp:0<ls.length)(hl:ls.length≤1048576)(hlen:(Lib.join ls [32]).length≤1048576):
  Calls prog 136 #[.slice B ls.length cb, .string ⟨#[32]⟩] w fun e w'=>e= .returned (.string (Bs (Lib.join ls [32])))∧Ex w w':=by
 obtain⟨b,off,hB,hc⟩:=Own.slc h (by simpa [Wh] using hp);subst hB;have hcl:(Wh ls).length=ls.length:=by simp[Wh]
 have hcell:∀(j:Nat) x,(ls.map Bs)[j]? =some x→w.cell? ⟨b,off+j,none⟩=some (.string x):=fun j x hx=>by
  have hj:j<ls.length:=by
   rcases Nat.lt_or_ge j ls.length with hj|hj
   ·exact hj
   ·rw[List.getElem?_eq_none (by simpa using hj)] at hx;cases hx
  rw[hc j (by omega)];unfold Wh;rw[List.getElem?_map] at hx ⊢;cases hq:ls[j]? with
  |none=>rw[hq] at hx;cases hx
  |some l=>rw[hq] at hx;injection hx with hx;rw[←hx];rfl
 have hcap:ls.length≤cb:=by
  rcases h.2 with⟨h0,h1⟩|⟨g,cap,cur,hv,hg,hh,h1,h2,h3⟩
  ·omega
  ·injection hv with e1 e2 e3;omega
 have hb0:w.cell? ⟨b,off+0,none⟩=(Wh ls)[0]? :=hc 0 (by omega);have hlt:b<w.heap.size:=by
  rw[List.getElem?_eq_getElem (by omega)] at hb0;exact World.block_lt_of_cell? w _ hb0
 have hj:=Tryz.strings_Join b off cb (ls.map Bs) ⟨#[32]⟩ w hcell hlt (by rw[List.length_map];omega) (by rw[List.length_map];exact hcap) (by rw[Zfw];show(Lib.join ls [32]).length≤_;omega);rw[Zfw,List.length_map] at hj;exact hj.mono fun e w' ⟨h1,h2⟩=>⟨h1,h2⟩

theorem Zyg(A:Option Addr)(xs:List Fr)(cap:Nat)(w:World)(hS:Uq w A xs)(hl:xs.length≤4)(hp:0<xs.length)(hj:(Lib.join (xs.map txt) [32]).length≤1048576)(hv:∀k,k<xs.length→(xs.getD k .zero).valid=true)(ht:Tab w):
  Calls prog 72 #[.slice A xs.length cap] w fun e w'=>e= .returned (.tuple #[.string (Bs (Lib.join (xs.map txt) [32])),true])∧Ex w w':=by
 have HT:=Zz ht;have HV:=Zz hv;clear ht hv;go_in;go_wp2;have hO:=Jq w _ (Nat.le_refl _);have hE:=(Ex.refl w).alloc (.cells #[] 9);go_loopw [12,4,6,7,8] (fun i v f s1 k1 wr=>∃(k:Nat) (B:Option Addr) (cb:Nat) (ys:List Ub),k≤xs.length∧i= .int .i64 k∧v= .slice B ys.length cb∧Hid (ys=(xs.take k).map txt)∧Hid (Pq wr w.heap.size B cb ys)∧Ex w wr) (fun i _ _ _ _ _=>xs.length-(intOf i).toNat)
 case atStart=>exact⟨0,_,0,[],by omega,rfl,rfl,Zz (by simp),Zz hO,hE⟩
 case round=>
  obtain⟨k,B,cb,ys,hk,rfl,rfl,HY,HO,hEr⟩:=hrel;have hsz:=hEr.size;by_cases hlt:k<xs.length
  ·obtain⟨b,off,rfl,hc⟩:=(hS.ex hEr).at (by omega);obtain⟨c1,c2,c3⟩:=hc k hlt;have hyl:ys.length≤1048576:=by rw[HY.out,List.length_map,List.length_take];omega
   have HYn:Hid (ys++[txt (xs.getD k .zero)]=(xs.take (k+1)).map txt):=Zz (by rw[Fy hlt,HY.out]);have hvk:=HV.out k hlt;have hft:Ms (xs.getD k .zero)=(txt (xs.getD k .zero),true):=by simp only[Ms,hvk,if_true]
   have k2:∀w,Tab w→Calls _ _ #[.agg #[.int .i64 (xs.getD k .zero).re, .int .i64 (xs.getD k .zero).im, .int .i64 (xs.getD k .zero).den]] w (Zkn w (Ms (xs.getD k .zero))):=fun w ht=>Zza (xs.getD k .zero) w ht
   rw[hft] at k2;have k3:∀w,Tab w→Calls _ _ #[.agg #[.int .i64 (xs.getD k .zero).re, .int .i64 (xs.getD k .zero).im, .int .i64 (xs.getD k .zero).den]] w fun e w'=>e= .returned (.tuple #[.string (Bs (txt (xs.getD k .zero))),true])∧Ex w w':=k2
   clear hvk hft k2;generalize txt (xs.getD k .zero)=l at k3 HYn;generalize (xs.getD k .zero).re=r1 at c1 k3;generalize (xs.getD k .zero).im=r2 at c2 k3;generalize (xs.getD k .zero).den=r3 at c3 k3;have K3:=Zz k3;have HT2:Hid (Tab wr):=Zz (HT.out.ex hEr);clear hc k3;go_wp2_with fail;refine Yw (K3.out _ (HT2.out.ex ((Ex.refl _).alloc _))) fun w2 hx=>?_
   have HO2:=Zz ((HO.out.ex ((Ex.refl _).alloc _)).ex hx);have hE2:=(hEr.alloc _).trans hx;have hs2:=hE2.size;clear hx K3 c1 c2 c3;go_wp2_with (at_builtin;refine Vq slS rfl _ _ w2 rfl w.heap.size B cb ys.length (Wh ys) [.string (Bs l)] rfl (by simp[Value.oneCell']) rfl HO2.out rfl hyl hs2 ?_);intro A' cap' w' hown' hk';have hE3:=hk'.ex w hE2 (Nat.le_refl _);have HO3:=Zz (Pq.snoc (l:=l) hown');clear hown' hk';go_wp2;go_roundw
   case rel=>exact⟨k+1,A',cap',ys++[l],by omega,by go_num,by simp,HYn,HO3,hE3⟩
   case measure=>simp[intOf];omega
  ·have e1:ys=xs.map txt:=by rw[HY.out,List.take_of_length_le (by omega)]
   have hjn:=fun(hO:Pq wr w.heap.size B cb ys)=>Pq.join hO (by rw[e1,List.length_map];exact hp) (by rw[e1,List.length_map];omega) (by rw[e1];exact hj)
   have hjn:=hjn HO.out;obtain⟨S,HS⟩:=nm (Bs (Lib.join (xs.map txt) [32]));rw[e1,←HS.out,←e1] at hjn;clear e1 HY HO hO hE hj;go_wp2_with fail;refine hjn.mono ?_;rintro e w2 ⟨rfl,hx⟩;go_wp2;refine Zu (v:= .tuple #[S,true]) ?_ rfl ⟨by rw[HS.out],hEr.trans hx⟩;simp[results,results72,go_sem]

def Zvx(a b c d:Fr):Ub:=Lib.join [txt a,txt b,txt c,txt d] [32]
def Jh(a b c d:Fr):Ub×Bool:=if Nv a b c d then (Zvx a b c d,true) else ([],false)
theorem Zcu(a b c d:Fr):Zvx a b c d=txt a++32::(txt b++32::(txt c++32::txt d)):=by
 unfold Zvx;rw[Lib.join_cons];simp[Lib.joinTail]
theorem Az{a b c d:Fr}(h:Nv a b c d=true):a.valid=true∧b.valid=true∧c.valid=true∧d.valid=true:=by
 unfold Nv rok at h;simp only[Bool.and_eq_true] at h;exact⟨h.1.1,h.2.1.1,h.2.2.1.1,h.2.2.2.1⟩
theorem Znz{w:World}{b:Nat}{t:TypeId}{x y z u:Fr}(h:Box w b t #[x.re,x.im,x.den,y.re,y.im,y.den,z.re,z.im,z.den,u.re,u.im,u.den]):Uq w (some ⟨b,0,none⟩) [x,y,z,u]:=by
 intro _;refine⟨b,0,rfl,fun k _=>?_⟩;rw[Nat.zero_add,h.cell k];simp[Tg,Fr.cs]
theorem Zsd(a b c d:Fr)(w:World)(ht:Tab w):Calls prog 77 #[Sv a b c d] w (Zkn w (Jh a b c d)):=by
 have kv:=fun w=>Rg a b c d w
 rcases hv:Nv a b c d with _|_
 ·have e:Jh a b c d=([],false):=by simp[Jh,hv]
  rw[e];rw[hv] at kv;clear e hv;have KV:Hid (∀w,Calls prog 57 #[.agg #[a.re,a.im,a.den,b.re,b.im,b.den,c.re,c.im,c.den,d.re,d.im,d.den]] w fun e w'=>e= .returned (.bool false)∧Ex w w'):=kv;show Calls _ _ #[.agg #[a.re,a.im,a.den,b.re,b.im,b.den,c.re,c.im,c.den,d.re,d.im,d.den]] _ _;clear kv ht;go_in;go_wp2_with fail;refine Yw (KV.out _) fun w1 hx=>?_
  go_wp2;refine Zu (v:= .tuple #[.string ⟨#[]⟩,false]) ?_ rfl ⟨rfl,?_⟩
  ·simp[results,results77,go_sem]
  ·exact((Ex.refl _).alloc _).trans hx
 ·have e:Jh a b c d=(Zvx a b c d,true):=by simp[Jh,hv]
  rw[e];rw[hv] at kv;obtain⟨va,vb,vc,vd⟩:=Az hv;obtain⟨-, -, -, -,la⟩:=Rt va;obtain⟨-, -, -, -,lb⟩:=Rt vb;obtain⟨-, -, -, -,lc⟩:=Rt vc;obtain⟨-, -, -, -,ld⟩:=Rt vd;have hj:(Lib.join ([a,b,c,d].map txt) [32]).length≤1048576:=by
   show(Zvx a b c d).length≤_;rw[Zcu];simp;omega
  have hvs:∀k,k<[a,b,c,d].length→([a,b,c,d].getD k .zero).valid=true:=fun k hk=>by
   match k,hk with
   |0,_=>exact va
   |1,_=>exact vb
   |2,_=>exact vc
   |3,_=>exact vd
   |k+4,hk=>exact absurd hk (by simp)
  have kt:∀A w,Uq w A [a,b,c,d]→Tab w→Calls prog 72 #[.slice A 4 4] w fun e w'=>e= .returned (.tuple #[(Bs (Zvx a b c d)),true])∧Ex w w':=fun A w hS ht=>Zyg A [a,b,c,d] 4 w hS (by simp) (by simp) hj hvs ht
  show Calls _ _ _ w fun e w'=>e= .returned (.tuple #[(Bs (Zvx a b c d)),true])∧Ex w w'
  generalize Bs (Zvx a b c d)=ST at kt ⊢;clear e hv va vb vc vd la lb lc ld hj hvs;have KV:Hid (∀w,Calls prog 57 #[.agg #[a.re,a.im,a.den,b.re,b.im,b.den,c.re,c.im,c.den,d.re,d.im,d.den]] w fun e w'=>e= .returned (.bool true)∧Ex w w'):=kv;have KT:=Zz kt;have HT:=Zz ht;show Calls _ _ #[.agg #[a.re,a.im,a.den,b.re,b.im,b.den,c.re,c.im,c.den,d.re,d.im,d.den]] _ _;clear kv kt ht;go_in;go_wp2_with fail;refine Yw (KV.out _) fun w1 hx=>?_
  have bA:=(Box.new w #[a.re,a.im,a.den,b.re,b.im,b.den,c.re,c.im,c.den,d.re,d.im,d.den] 35).ex hx;have hE:=((Ex.refl _).alloc _).trans hx;clear hx KV;go_wp2_with fail;refine Yw (KT.out _ _ (Znz bA) (HT.out.ex hE)) fun w2 hx2=>?_
  go_wp2;refine Zu (v:= .tuple #[ST,true]) ?_ rfl ⟨rfl,hE.trans hx2⟩;simp[results,results77,go_sem]
end
section
open Go.RowKit

def Sn(xs:List Fr):Ub×Bool:=if xs.all (·.valid) then (Lib.join (xs.map txt) [32],true) else ([],false)
theorem Lb:∀(xs:List Fr),xs.all (·.valid)=true→(Lib.join (xs.map txt) [32]).length≤68*xs.length
 |[],_=>by simp[Lib.join_nil]
 |x::xs,h=>by
  rw[List.map_cons,Lib.join_length]
  have key:∀ys:List Fr,ys.all (·.valid)=true→Lib.lens (ys.map txt)≤67*ys.length:=by
   intro ys;induction ys with
   |nil=>intro _;simp[Lib.lens]
   |cons y ys ih=>
    intro hy;simp only[List.all_cons,Bool.and_eq_true] at hy;have h1:=(Rt hy.1).2.2.2.2;have h2:=ih hy.2;simp only[Lib.lens,List.map_cons,List.sum_cons,List.length_cons] at h2 ⊢;omega
  have:=key (x::xs) h
  simp only[List.map_cons,List.length_cons,List.length_map,List.length_nil] at this ⊢;omega
theorem Ev(xs:List Fr):(Sn xs).1.length≤68*xs.length:=by
 unfold Sn;split
 ·rename_i h;exact Lb xs h
 ·simp
theorem Hi{xs:List Fr}(h:xs.all (·.valid)=true){k:Nat}(hk:k<xs.length):(xs.getD k .zero).valid=true:=by
 rw[List.getD_eq_getElem?_getD,List.getElem?_eq_getElem hk];exact List.all_eq_true.1 h _ (List.getElem_mem hk)
theorem Zfv{xs:List Fr}{k:Nat}(hk:k<xs.length)(h:(xs.getD k .zero).valid=false):Sn xs=([],false):=by
 unfold Sn;rw[if_neg];intro ha;rw[Hi ha hk] at h;cases h
theorem Mb(A:Option Addr)(xs:List Fr)(cap:Nat)(w:World)(hS:Uq w A xs)(hl:xs.length≤4)(hp:0<xs.length)(ht:Tab w):
  Calls prog 72 #[.slice A xs.length cap] w (Zkn w (Sn xs)):=by
 by_cases hall:xs.all (·.valid)=true
 ·refine(Zyg A xs cap w hS hl hp (by have:=Lb xs hall;omega) (fun k hk=>Hi hall hk) ht).mono ?_;rintro e w' ⟨rfl,hx⟩;unfold Sn;rw[if_pos hall];exact⟨rfl,hx⟩
 have HT:=Zz ht;clear ht;obtain⟨R,HR⟩:=nm (Sn xs);rw[←HR.out];have HNA:=Zz hall;clear hall;go_in;go_wp2;have hO:=Jq w _ (Nat.le_refl _);have hE:=(Ex.refl w).alloc (.cells #[] 9);go_loopw [12,4,6,7,8] (fun i v f s1 k1 wr=>∃(k:Nat) (B:Option Addr) (cb:Nat) (ys:List Ub),k≤xs.length∧i= .int .i64 k∧v= .slice B ys.length cb∧ys.length≤k∧Hid (∀j,j<k→(xs.getD j .zero).valid=true)∧Hid (Pq wr w.heap.size B cb ys)∧Ex w wr) (fun i _ _ _ _ _=>xs.length+1-(intOf i).toNat)
 case atStart=>exact⟨0,_,0,[],by omega,rfl,rfl,by simp,Zz (fun j hj=>by omega),Zz hO,hE⟩
 case round=>
  obtain⟨k,B,cb,ys,hk,rfl,rfl,hyk,HV,HO,hEr⟩:=hrel;have hsz:=hEr.size;by_cases hlt:k<xs.length
  ·obtain⟨b,off,rfl,hc⟩:=(hS.ex hEr).at (by omega);obtain⟨c1,c2,c3⟩:=hc k hlt;have hyl:ys.length≤1048576:=by omega
   have k2:∀w,Tab w→Calls _ _ #[.agg #[.int .i64 (xs.getD k .zero).re, .int .i64 (xs.getD k .zero).im, .int .i64 (xs.getD k .zero).den]] w (Zkn w (Ms (xs.getD k .zero))):=fun w ht=>Zza (xs.getD k .zero) w ht
   have HT2:Hid (Tab wr):=Zz (HT.out.ex hEr);rcases hvk:(xs.getD k .zero).valid with _|_
   ·have hft:Ms (xs.getD k .zero)=([],false):=by simp only[Ms,hvk,Bool.false_eq_true,if_false]
    have HN:=Zz (HR.out.trans (Zfv hlt hvk));rw[hft] at k2;have k3:∀w,Tab w→Calls _ _ #[.agg #[.int .i64 (xs.getD k .zero).re, .int .i64 (xs.getD k .zero).im, .int .i64 (xs.getD k .zero).den]] w fun e w'=>e= .returned (.tuple #[.string ⟨#[]⟩,false])∧Ex w w':=k2
    clear hvk hft k2;generalize (xs.getD k .zero).re=r1 at c1 k3;generalize (xs.getD k .zero).im=r2 at c2 k3;generalize (xs.getD k .zero).den=r3 at c3 k3;have K3:=Zz k3;clear hc k3;go_wp2_with fail;refine Yw (K3.out _ (HT2.out.ex ((Ex.refl _).alloc _))) fun w2 hx=>?_
    have hE2:=(hEr.alloc _).trans hx;clear hx K3 c1 c2 c3;go_wp2;refine Zu (v:= .tuple #[.string ⟨#[]⟩,false]) ?_ rfl ⟨by rw[HN.out];rfl,hE2⟩;simp[results,results72,go_sem]
   ·have hft:Ms (xs.getD k .zero)=(txt (xs.getD k .zero),true):=by simp only[Ms,hvk,if_true]
    rw[hft] at k2;have k3:∀w,Tab w→Calls _ _ #[.agg #[.int .i64 (xs.getD k .zero).re, .int .i64 (xs.getD k .zero).im, .int .i64 (xs.getD k .zero).den]] w fun e w'=>e= .returned (.tuple #[.string (Bs (txt (xs.getD k .zero))),true])∧Ex w w':=k2
    have HV2:Hid (∀j,j<k+1→(xs.getD j .zero).valid=true):=Zz fun j hj=>by
     rcases Nat.lt_or_ge j k with h|h
     ·exact HV.out j h
     ·obtain rfl:j=k:=by omega
      exact hvk
    clear hft k2 HV hvk;generalize txt (xs.getD k .zero)=l at k3;generalize (xs.getD k .zero).re=r1 at c1 k3;generalize (xs.getD k .zero).im=r2 at c2 k3;generalize (xs.getD k .zero).den=r3 at c3 k3;have K3:=Zz k3;clear hc k3;go_wp2_with fail;refine Yw (K3.out _ (HT2.out.ex ((Ex.refl _).alloc _))) fun w2 hx=>?_
    have HO2:=Zz ((HO.out.ex ((Ex.refl _).alloc _)).ex hx);have hE2:=(hEr.alloc _).trans hx;have hs2:=hE2.size;clear hx K3 c1 c2 c3;go_wp2_with (at_builtin;refine Vq slS rfl _ _ w2 rfl w.heap.size B cb ys.length (Wh ys) [.string (Bs l)] rfl (by simp[Value.oneCell']) rfl HO2.out rfl hyl hs2 ?_);intro A' cap' w' hown' hk';have hE3:=hk'.ex w hE2 (Nat.le_refl _);have HO3:=Zz (Pq.snoc (l:=l) hown');clear hown' hk';go_wp2;go_roundw
    case rel=>exact⟨k+1,A',cap',ys++[l],by omega,by go_num,by simp,by simp;omega,HV2,HO3,hE3⟩
    case measure=>simp[intOf];omega
  ·exfalso;refine HNA.out (List.all_eq_true.2 fun x hx=>?_);obtain⟨j,hj,rfl⟩:=List.getElem_of_mem hx;have:=HV.out j (by omega)
   rw[List.getD_eq_getElem?_getD,List.getElem?_eq_getElem hj] at this;exact this
end
section
theorem Qh(w:Ub)(ws:List Ub):Lib.joinTail [32] (w::ws)=32::Lib.join (w::ws) [32]:=by
 rw[Lib.join_cons];simp[Lib.joinTail]
theorem Zft(b:UInt8){ws:List Ub}(h:ws≠[]):Lib.join (pre [b] ws) [32]=b::Lib.join ws [32]:=by
 cases ws with
 |nil=>exact absurd rfl h
 |cons w ws=>simp[pre,Lib.join_cons]
theorem Ma:∀l:Ub,Lib.join (wds l) [32]=l
 |[]=>by simp[wds,Lib.join_one]
 |b::t=>by
  have ih:=Ma t
  by_cases hb:b=32
  ·subst hb
   rw[Tz,Lib.join_cons]
   cases hw:wds t with
   |nil=>exact absurd hw (Tc t)
   |cons w ws=>rw[Qh,←hw,ih];rfl
  ·rw[To hb,Zft b (Tc t),ih]
theorem Zsa{xs ys:List Ub}(h1:xs≠[])(h2:ys≠[]):Lib.join (xs++ys) [32]=Lib.join xs [32]++32::Lib.join ys [32]:=by
 cases xs with
 |nil=>exact absurd rfl h1
 |cons x xs=>
  cases ys with
  |nil=>exact absurd rfl h2
  |cons y ys=>
   have e:Lib.joinTail [32] (xs++y::ys)=Lib.joinTail [32] xs++Lib.joinTail [32] (y::ys):=by simp[Lib.joinTail]
   rw[List.cons_append,Lib.join_cons,e,Qh,Lib.join_cons x xs,List.append_assoc]
theorem Zlq:∀a b:Ub,wds (a++32::b)=wds a++wds b
 |[],b=>by rw[List.nil_append,Tz];rfl
 |c::a,b=>by
  have ih:=Zlq a b
  rw[List.cons_append]
  by_cases hc:c=32
  ·subst hc
   rw[Tz,Tz,ih]
   rfl
  ·rw[To hc,To hc,ih]
   cases hw:wds a with
   |nil=>exact absurd hw (Tc a)
   |cons w ws=>rfl
theorem Zyf:∀(l:Ub),∀x∈wds l,∀c∈x,c≠32
 |[],x,hx,c,hc=>by
  simp only[wds,List.mem_singleton] at hx
  subst hx
  cases hc
 |b::t,x,hx,c,hc=>by
  have ih:=Zyf t
  by_cases hb:b=32
  ·subst hb
   rw[Tz] at hx
   rcases List.mem_cons.1 hx with rfl|hx
   ·cases hc
   ·exact ih x hx c hc
  ·rw[To hb] at hx
   cases hw:wds t with
   |nil=>exact absurd hw (Tc t)
   |cons w ws=>
    rw[hw] at hx ih
    simp only[pre,List.headD_cons,List.tail_cons] at hx
    rcases List.mem_cons.1 hx with rfl|hx
    ·rcases List.mem_cons.1 hc with rfl|hc
     ·exact hb
     ·exact ih w List.mem_cons_self c hc
    ·exact ih x (List.mem_cons_of_mem _ hx) c hc
theorem Zrz:∀{ws:List Ub},ws≠[]→(∀x∈ws,∀c∈x,c≠32)→wds (Lib.join ws [32])=ws
 |[],h,_=>absurd rfl h
 |[x],_,h=>by rw[Lib.join_one,Zmf x (h x List.mem_cons_self)]
 |x::y::ws,_,h=>by
  rw[Lib.join_cons,Qh,Zmg x _ (h x List.mem_cons_self),Zrz (by simp) fun z hz=>h z (List.mem_cons_of_mem _ hz)]
section
variable {α β:Type} {f:α→Option β}
theorem Zry:∀{xs ys:List α} {p q:List β},Xg f xs=some p→Xg f ys=some q→Xg f (xs++ys)=some (p++q)
 |[],ys,p,q,h,k=>by
  simp only[Xg,Option.some.injEq] at h
  subst h
  exact k
 |x::xs,ys,p,q,h,k=>by
  obtain⟨b,r,h1,h2,rfl⟩:=Qq h
  exact Ez h1 (Zry h2 k)
theorem Zrx:∀{xs:List α} {p:List β},Xg f xs=some p→Xg f xs.reverse=some p.reverse
 |[],p,h=>by
  simp only[Xg,Option.some.injEq] at h
  subst h
  rfl
 |x::xs,p,h=>by
  obtain⟨b,r,h1,h2,rfl⟩:=Qq h
  rw[List.reverse_cons,List.reverse_cons]
  exact Ve h1 (Zrx h2)
end
def Ty(l:Ub):Ub×Bool:=if (Ys l).isSome then (Lib.join (wds l).reverse [32],true) else ([],false)
theorem Ay{l:Ub}{ps:List (UInt8×List Int)}(h:Ys l=some ps):(Ty l).2=true∧Ys (Ty l).1=some ps.reverse:=by
 unfold Ty;rw[h];refine⟨rfl,?_⟩;simp only[Option.isSome_some,if_true];by_cases hne:l=[]
 ·subst hne;injection h with h;subst h;rfl
 ·obtain⟨h1,h2⟩:=Tb h hne;have hr:(wds l).reverse≠[]:=by simp[Tc]
  have hw:=Zrz hr fun x hx=>Zyf l x (List.mem_reverse.1 hx)
  have hn:Lib.join (wds l).reverse [32]≠[]:=by
   intro e;rw[e] at hw;have e2:wds l=[[]]:=by
    have:=congrArg List.reverse hw
    rw[List.reverse_reverse] at this;rw[←this];rfl
   apply hne;rw[←Ma l,e2];rfl
  rw[Li hn (by rw[hw];exact Zrx h1),if_pos (by rw[List.length_reverse];exact h2)]
def Ra(a b:Ub):Ub:=if a=[] then b else if b=[] then a else a++32::b
def Wk(a b:Ub):Ub×Bool:=if (Ys a).isSome&&(Ys b).isSome&&(Ys (Ra a b)).isSome then (Ra a b,true) else ([],false)
theorem Ax{a b:Ub}{x y:List (UInt8×List Int)}(ha:Ys a=some x)(hb:Ys b=some y):Ys (Ra a b)=if x.length+y.length≤12 then some (x++y) else none:=by
 unfold Ra;by_cases h1:a=[]
 ·subst h1;injection ha with ha;subst ha;rw[if_pos rfl,hb,if_pos]
  ·rfl
  ·have:=(Vx hb).2.2
   simpa using this
 ·rw[if_neg h1];by_cases h2:b=[]
  ·subst h2;injection hb with hb;subst hb;rw[if_pos rfl,ha,if_pos,List.append_nil];have:=(Vx ha).2.2
   simpa using this
  ·rw[if_neg h2];have k:=Zry (Tb ha h1).1 (Tb hb h2).1;rw[←Zlq] at k;rw[Li (by simp) k,List.length_append]
theorem Zrw{a b:Ub}(h:Ys a=none∨Ys b=none):Wk a b=([],false):=by
 unfold Wk;rcases h with h|h<;>simp[h]
theorem Znw{a b:Ub}{x y:List (UInt8×List Int)}(ha:Ys a=some x)(hb:Ys b=some y)(h:12<x.length+y.length):Wk a b=([],false):=by
 have e:=Ax ha hb;rw[if_neg (by omega)] at e;unfold Wk;rw[e];simp
theorem Zjt{a b:Ub}{x y:List (UInt8×List Int)}(ha:Ys a=some x)(hb:Ys b=some y)(h:x.length+y.length≤12):Wk a b=(Ra a b,true):=by
 have e:=Ax ha hb;rw[if_pos h] at e;unfold Wk;rw[e,ha,hb];rfl
theorem Aw{a b:Ub}(h:(Wk a b).2=true):(Ys (Wk a b).1).isSome=true∧(Ys a).isSome=true∧(Ys b).isSome=true:=by
 unfold Wk at h ⊢;split
 ·rename_i hc;simp only[Bool.and_eq_true] at hc;exact⟨hc.2,hc.1.1,hc.1.2⟩
 ·rename_i hc;rw[if_neg hc] at h;cases h
theorem Au(a b:Ub):Lib.join ((if a=[] then [] else wds a)++(if b=[] then [] else wds b)) [32]=Ra a b:=by
 unfold Ra;by_cases h1:a=[]
 ·rw[if_pos h1,if_pos h1,List.nil_append];by_cases h2:b=[]
  ·rw[if_pos h2,h2];rfl
  ·rw[if_neg h2,Ma]
 ·rw[if_neg h1,if_neg h1];by_cases h2:b=[]
  ·rw[if_pos h2,if_pos h2,List.append_nil,Ma]
  ·rw[if_neg h2,if_neg h2,Zsa (Tc a) (Tc b),Ma,Ma]
theorem At(l:Ub):Lib.join (if l=[] then [] else wds l).reverse [32]=Lib.join (wds l).reverse [32]:=by
 by_cases h:l=[]
 ·subst h;rfl
 ·rw[if_neg h]
def rot(p q:Int):Ub:=114::(Lib.itoa p++58::Lib.itoa q)
end
section
open Go.RowKit

attribute [local go_sem] Zg Zf
theorem Zez{d:Ub}{k:Nat}(hk:k<d.length)(h:(d.take k).all Wz=true)(hc:Wz d[k]=true):(d.take (k+1)).all Wz=true:=by
 rw[Xf hk,List.all_append,h];simp[hc]
theorem Zjb{d:Ub}{k:Nat}(hk:k<d.length):(d.take (k+1)).foldl Vu 0=10*((d.take k).foldl Vu 0)+(d[k].toNat-48):=by
 rw[Xf hk,List.foldl_append];simp[Vu]
theorem Zak{d:Ub}{k:Nat}(hk:k<d.length)(hc:Wz d[k]=false):d.all Wz=false:=by
 rw[List.all_eq_false];exact⟨d[k],List.getElem_mem hk,by simp[hc]⟩
theorem Zci(l:Ub)(w:World):Calls prog 221 #[(Bs l)] w fun e w'=>e= .returned (.tuple #[((Nr l).getD 0:Int), .bool (Nr l).isSome])∧Ex w w':=by
 obtain⟨S,HS⟩:=nm (Bs l);obtain⟨V,HV⟩:=nm (Nr l);rw[←HS.out,←HV.out];obtain⟨d,HDL⟩:=nm (Xl l);obtain⟨D,HD⟩:=nm (Bs d);have hsz:D.size=d.length:=by rw[HD.out];rfl
 have HZ:=Zz hsz;obtain⟨dn,HDN⟩:=nm (d.length);have ki:=fun w=>Tf (D.size:Int) 1 3 w
 have hc:(∃(c:UInt8) (hs:0<S.size),S[0]'hs=c∧((c.toNat:Int)==45)=true∧S.extract 1 S.size=D∧(0:Int)<(S.size:Int)∧Hid (sg l= -1))∨(∃(c:UInt8) (hs:0<S.size),S[0]'hs=c∧((c.toNat:Int)==45)=false∧D=S∧(0:Int)<(S.size:Int)∧Hid (sg l=1))∨(D=S∧¬(0:Int)<(S.size:Int)∧Hid (sg l=1)):=by
  cases l with
  |nil=>exact .inr (.inr ⟨by rw[HS.out,HD.out,HDL.out];rfl,by rw[HS.out];decide,Zz rfl⟩)
  |cons c t=>
   obtain⟨h1,h2⟩:=Rq HS.out (i:=0) (by simp);rcases Bc (c::t) with⟨e1,e2⟩|⟨e1,e2⟩
   ·refine .inr (.inl ⟨c,h1,h2,?_,by rw[HS.out,HD.out,HDL.out,e2],by omega,Zz e1⟩);rw[beq_eq_false_iff_ne];intro e;have hc:c=45:=UInt8.toNat_inj.1 (by show c.toNat=45;omega);subst hc;simp[sg] at e1
   ·refine .inl ⟨c,h1,h2,?_,?_,by omega,Zz e1⟩
    ·have hc:c=45:=by injection e2
     rw[hc];rfl
    ·rw[HS.out,Ou,HD.out,HDL.out];have ht:t=Xl (c::t):=by injection e2
     rw[←ht]
 by_cases hr:1≤d.length∧d.length≤3
 ·have e:Xw (D.size:Int) 1 3=true:=by rw[hsz];simp[Xw];omega
  rw[e] at ki;have KI:=Zz ki;have hd3:d.length≤3:=hr.2;have HY:Hid (∀s:Int,sg l=s→d.all Wz=true→V=some (s*((d.foldl Vu 0:Nat):Int))):=Zz fun s h1 h2=>by rw[HV.out,Zsh (by rw[←HDL.out];exact⟨hr.1,hr.2,h2⟩),h1,HDL.out]
  have HN:Hid (d.all Wz=false→V=none):=Zz fun h=>by rw[HV.out];exact Cy (by rw[←HDL.out,h];simp)
  have HFB:=Zz (fun(h:d.all Wz=true)=>Gl d (fun c hc=>List.all_eq_true.1 h c hc));have HFK:=Zz (fun k (h:(d.take k).all Wz=true)=>Gl (d.take k) (fun c hc=>List.all_eq_true.1 h c hc));clear ki e hsz hr HV HDL HS;rcases hc with⟨c0,hs0,hb0,hb1,hx1,hp1,HSG⟩|⟨c0,hs0,hb0,hb1,rfl,hp1,HSG⟩|⟨rfl,hp1,HSG⟩
  all_goals
   go_in;go_upto_region 8 with((with_reducible refine(KI.out _).mono ?_);rintro e wn ⟨rfl,rfl⟩);first|clear hb0 hb1 hx1 hs0 hp1|clear hb0 hb1 hs0 hp1|clear hp1
   go_loopw [6,5] (fun i n wr=>∃(k m:Nat),i= .int .i64 k∧n= .int .i64 m∧k≤d.length∧Hid ((d.take k).all Wz=true)∧Hid (m=(d.take k).foldl Vu 0)∧Hid (Ex wn wr)) (fun i _ _=>5-(intOf i).toNat)
   case atStart=>exact⟨0,0,rfl,rfl,by omega,Zz (by simp),Zz (by simp),Zz (Ex.refl _)⟩
   case round=>
    obtain⟨k,m,rfl,rfl,hk,HA,HM,HE⟩:=hrel;have hm:m<1000:=by
     have h1:=HFK.out k HA.out;rw[←HM.out] at h1;have h2:(d.take k).length≤3:=by rw[List.length_take];omega
     exact Nat.lt_of_lt_of_le h1 (Nat.pow_le_pow_right (by omega) h2)
    by_cases hlt:k<d.length
    ·obtain⟨hs,hc⟩:=Rq HD.out hlt;have hkI:(k:Int)<(D.size:Int):=by rw[HZ.out];omega
     have hw5:=wr1 k (by omega);have HND:Hid (Wz d[k]=true→(d.take (k+1)).all Wz=true):=Zz (Zez hlt HA.out);have HNM:Hid (10*m+(d[k].toNat-48)=(d.take (k+1)).foldl Vu 0):=Zz (by rw[Zjb hlt,HM.out]);have HNB:Hid (Wz d[k]=false→d.all Wz=false):=Zz (Zak hlt);generalize d[k]=c at hc HND HNM HNB;by_cases hd:48≤c.toNat∧c.toNat≤57
     ·have HN2:=Zz (HND.out (by simp only[Wz,decide_eq_true_eq];exact hd));have b1:¬(c.toNat:Int)<48:=by omega
      have b2:¬(57:Int)<(c.toNat:Int):=by omega
      have w1:IntKind.i64.wrap (10*(m:Int))=10*(m:Int):=Zt _ (by omega);have w2:IntKind.u8.wrap ((c.toNat:Int)-48)=(c.toNat:Int)-48:=by
       show((c.toNat:Int)-48) % 256=_;omega
      have w3:IntKind.i64.wrap ((c.toNat:Int)-48)=(c.toNat:Int)-48:=Zt _ (by omega);have w4:IntKind.i64.wrap (10*(m:Int)+((c.toNat:Int)-48))=10*(m:Int)+((c.toNat:Int)-48):=Zt _ (by omega);have hd1:=hd.1;clear HND HNB hd;go_wp2;go_roundw
      case rel=>exact⟨k+1,10*m+(c.toNat-48),by go_num,by go_num,by omega,HN2,HNM,HE⟩
      case measure=>simp[intOf]<;>omega
     ·have hv:V=none:=HN.out (HNB.out (by simp only[Wz,decide_eq_false_iff_not];exact hd));subst hv;by_cases hd1:48≤c.toNat
      ·have b1:¬(c.toNat:Int)<48:=by omega
       have b2:(57:Int)<(c.toNat:Int):=by omega
       clear hd hd1 HND HNB HNM HY HN;go_wp2;refine Zu (v:= .tuple #[oo,false]) ?_ rfl ⟨rfl,HE.out⟩;simp[results,results221,go_sem]
      ·have b1:(c.toNat:Int)<48:=by omega
       clear hd hd1 HND HNB HNM HY HN;go_wp2;refine Zu (v:= .tuple #[oo,false]) ?_ rfl ⟨rfl,HE.out⟩;simp[results,results221,go_sem]
    ·have hka:d.take k=d:=List.take_of_length_le (by omega);have hkI:¬(k:Int)<(D.size:Int):=by rw[HZ.out];omega
     have hv:=HY.out _ HSG.out (by rw[←hka];exact HA.out);rw[←hka,←HM.out] at hv;have hng:IntKind.i64.wrap (0-(m:Int))= -(m:Int):=by rw[Zt _ (by omega)];omega
     have hng2:IntKind.i64.wrap (-(m:Int))= -(m:Int):=Zt _ (by omega);clear hka hlt HN HY HM HA;first
      |have hv2:V=some (m:Int):=by rw[hv,Int.one_mul]
       subst hv2;clear hv;go_wp2;refine Zu (v:= .tuple #[(m:Int),true]) ?_ rfl ⟨rfl,HE.out⟩;simp[results,results221,go_sem]
      |have hv2:V=some (-(m:Int)):=by rw[hv];congr 1;omega
       subst hv2;clear hv;go_wp2;refine Zu (v:= .tuple #[(-(m:Int):Int),true]) ?_ rfl ⟨rfl,HE.out⟩;simp[results,results221,go_sem]
 ·have e:Xw (D.size:Int) 1 3=false:=by rw[hsz];simp only[Xw,Bool.and_eq_false_iff,decide_eq_false_iff_not];omega
  rw[e] at ki;have KI:=Zz ki;have hv:V=none:=by rw[HV.out];exact Cy (by rw[←HDL.out];omega)
  subst hv;clear ki e hsz hr HV HDL HS HZ HD HDN;rcases hc with⟨c0,hs0,hb0,hb1,hx1,hp1,HSG⟩|⟨c0,hs0,hb0,hb1,rfl,hp1,HSG⟩|⟨rfl,hp1,HSG⟩
  all_goals
   go_in;go_wp2_with ((with_reducible refine(KI.out _).mono ?_);rintro e wn ⟨rfl,rfl⟩);refine Zu (v:= .tuple #[oo,false]) ?_ rfl ⟨rfl,Ex.refl _⟩;simp[results,results221,go_sem]
def GotNS(w:World)(r:Option (List Int)):Ending→World→Prop:=fun e w'=>
 (∃(ns:List Int) (g cap:Nat),r=some ns∧e= .returned (.tuple #[.slice (some ⟨g,0,none⟩) ns.length cap,true])∧Un w' w.heap.size (some ⟨g,0,none⟩) cap ns∧Ex w w')∨
 (∃(A:Option Addr) (n cap:Nat),r=none∧e= .returned (.tuple #[.slice A n cap,false])∧Ex w w')
theorem Je(l:Ub)(hl:l.length≤1048575)(m:Nat)(hm1:1≤m)(hm4:m≤100)(w:World):Calls prog 161 #[(Bs l),m] w (GotNS w (Yj l m)):=by
 have KS:=Zz (Zhe l (by omega) w);have hwl:(wds l).length≤1048576:=by
  have h1:=Dd l;have h2:(wds l).length≤tot (wds l):=by
   unfold tot;generalize wds l=ls;induction ls with
   |nil=>simp
   |cons x t ih=>simp only[List.map_cons,List.sum_cons,List.length_cons];omega
  omega
 obtain⟨R,HR⟩:=nm (Yj l m);rw[←HR.out];have HLEN:=Zz (fun(h:(wds l).length≠m)=>HR.out.trans (Bb h));have HY:Hid (∀ns,Xg Nr (wds l)=some ns→(wds l).length=m→R=some ns):=Zz (fun ns h e=>by subst e;exact HR.out.trans (Ba h));have HN:=Zz (fun x hx h=>HR.out.trans (Zyh (l:=l) (m:=m) (x:=x) hx h));generalize Bs l=S at*;generalize wds l=ls at*;clear hl HR;go_in;go_wp2_with fail;refine KS.out.mono ?_;rintro e w1 ⟨g,gc,cur,rfl,hg,bG,HG,hx⟩;have HE1:=Zz hx;have HO0:=Zz (Ow w1 w1.heap.size 3 1 (Nat.le_refl _));have hE0:=(Ex.refl w1).alloc (.cells #[] 3);have HE0:=Zz hE0;have HBG:=Zz bG;clear hx KS bG hg hE0;go_upto_region 4 with fail;go_loopw [8,7] (fun i o wr=>∃(j:Nat) (B:Option Addr) (cb:Nat) (ns:List Int),i= .int .i64 j∧j≤ls.length∧o= .slice B ns.length cb∧Hid (Xg Nr (ls.take j)=some ns)∧Hid (Un wr w1.heap.size B cb ns)∧Hid (Ex w1 wr)) (fun i _ _=>ls.length+1-(intOf i).toNat)
 case atStart=>exact⟨0,_,0,[],rfl,by omega,rfl,Zz rfl,HO0,HE0⟩
 case round=>
  clear HO0 HE0;obtain⟨j,B,cb,ns,rfl,hj,rfl,HM1,HO,HE⟩:=hrel;have hnl:ns.length=j:=by
   have h1:=Wd HM1.out;rw[List.length_take] at h1;omega
  by_cases hlt:j<ls.length
  ·have hcell:=((HBG.out.ex HE.out).cell j).trans (HG.out j hlt);have hmem:=List.getElem_mem hlt;have HNX:=Zz (HN.out _ hmem);have HMs:Hid (Xg Nr (ls.take (j+1))=Xg Nr (ls.take j++[ls[j]])):=Zz (by rw[Xf hlt]);have hI:(j:Int)<(ls.length:Int):=by omega
   have hw5:=wr1 j (by omega);have hnl2:ns.length≤1048576:=by omega
   clear hmem hnl;generalize ls[j]=x at*;have kn:=fun w=>Zci x w
   have HM3:Hid (∀n,Nr x=some n→Xg Nr (ls.take (j+1))=some (ns++[n])):=Zz fun n h=>by rw[HMs.out];exact Ve h HM1.out
   generalize Bs x=X at*;have hlo1:=HE1.out.size;have HEw:=Zz (HE1.out.trans HE.out);rcases hn:Nr x with _|n
   ·rw[hn] at kn;have HNO:=Zz (HNX.out hn);simp only[Option.getD_none,Option.isSome_none] at kn;have KN:=Zz kn;clear kn hn HM3 HNX HMs;go_wp2_with fail;refine Yw (KN.out _) fun w2 hx=>?_
    go_wp2;refine Zu (v:= .tuple #[.slice B ns.length cb,false]) ?_ rfl (.inr ⟨B,ns.length,cb,HNO.out,rfl,HEw.out.trans hx⟩);simp[results,results161,go_sem]
   ·rw[hn] at kn;have HM4:=Zz (HM3.out n hn);simp only[Option.getD_some,Option.isSome_some] at kn;have KN:=Zz kn;clear kn hn HM3 HNX HMs;go_wp2_with fail;refine Yw (KN.out _) fun w2 hx=>?_
    have HO2:=Zz (Own.ex HO.out hx);have hE2:=HE.out.trans hx;have HE2:=Zz hE2;have hs2:=hE2.size;clear hx hcell KN hE2;go_wp2_with (at_builtin;refine Vj rfl _ _ w2 rfl w1.heap.size B cb ns _ rfl HO2.out rfl hnl2 hs2 ?_);intro A' cap' w' hown' hk';have HE3:=Zz (hk'.ex w1 HE2.out (Nat.le_refl _));have HO3:Hid (Un w' w1.heap.size A' cap' (ns++[n])):=Zz hown';clear hown' hk';go_wp2;go_roundw
    case rel=>exact⟨j+1,A',cap',ns++[n],by go_num,by omega,by simp,HM4,HO3,HE3⟩
    case measure=>simp[intOf]<;>omega
  ·obtain rfl:j=ls.length:=by omega
   have hI:¬((ls.length:Nat):Int)<(ls.length:Int):=by omega
   have HEw:=Zz (HE1.out.trans HE.out);have hlo1:=HE1.out.size;have hMM:=HM1.out;rw[List.take_length] at hMM;have HMM:=Zz hMM;have HNL:=Zz hnl;clear hlt hMM HM1 hnl;by_cases hlm:ls.length=m
   ·have HRS:=Zz (HY.out ns HMM.out hlm);have hq:(((ns.length:Nat):Int)==(m:Int))=true:=by have hnl:=HNL.out;rw[beq_iff_eq];omega
    obtain⟨g9,hA9⟩:∃g9,B=some ⟨g9,0,none⟩:=by
     obtain⟨g9,h9, -⟩:=HO.out.at (by have hnl:=HNL.out;omega);exact⟨g9,h9⟩
    subst hA9;go_wp2;refine Zu (v:= .tuple #[.slice (some ⟨g9,0,none⟩) ns.length cb,true]) ?_ rfl (.inl ⟨ns,g9,cb,HRS.out,rfl,HO.out.wide hlo1,HEw.out⟩);simp[results,results161,go_sem]
   ·have HRS:=Zz (HLEN.out hlm);have hq:(((ns.length:Nat):Int)==(m:Int))=false:=by have hnl:=HNL.out;rw[beq_eq_false_iff_ne];omega
    go_wp2;refine Zu (v:= .tuple #[.slice B ns.length cb,false]) ?_ rfl (.inr ⟨B,ns.length,cb,HRS.out,rfl,HEw.out⟩);simp[results,results161,go_sem]
end
section
open Go.RowKit

attribute [local go_sem] Zg Zf
theorem Zix{xs:List Ub}(h:xs≠[])(y:Ub):Lib.join (xs++[y]) [32]=Lib.join xs [32]++32::y:=by
 rw[Zsa h (by simp),Lib.join_one]
theorem sSaid(A:Option Addr)(xs:List Fr)(cap:Nat)(w:World)(hS:Uq w A xs)(hl:xs.length≤4)(hv:∀k,k<xs.length→(xs.getD k .zero).valid=true):
  Calls prog 153 #[.slice A xs.length cap,true] w fun e w'=>e= .returned (.string (Bs (Lib.join (xs.map txt) [32]++[10])))∧Ex w w':=by
 have HV:=Zz hv;have HSL:=Zz hS;obtain⟨R,HR⟩:=nm (Bs (Lib.join (xs.map txt) [32]++[10]));rw[←HR.out];clear hv hS;have e0:Bs []=(⟨#[]⟩:ByteArray):=rfl;go_in;go_upto_region 5 with fail;go_loopw [6,5] (fun i o wr=>∃(k:Nat) (O:ByteArray),i= .int .i64 k∧k≤xs.length∧o= .string O∧Hid (O=Bs (Lib.join ((xs.take k).map txt) [32]))∧O.size≤70*k∧Hid (Ex w wr)) (fun i _ _=>6-(intOf i).toNat)
 case atStart=>exact⟨0,⟨#[]⟩,rfl,by omega,rfl,Zz rfl,by decide,Zz (Ex.refl _)⟩
 case round=>
  obtain⟨k,O,rfl,hk,rfl,HO,hOz,HE⟩:=hrel;by_cases hlt:k<xs.length
  ·obtain⟨b,off,rfl,hc⟩:=(HSL.out.ex HE.out).at (by omega);obtain⟨c1,c2,c3⟩:=hc k hlt;have hvk:=HV.out k hlt;have hI:(k:Int)<(xs.length:Int):=by omega
   have hw5:=wr1 k (by omega);have HT:Hid ((xs.take (k+1)).map txt=(xs.take k).map txt++[txt (xs.getD k .zero)]):=Zz (Fy hlt);have hxl:=(Rt hvk).2.2.2.2;have k2:=fun w=>Ztr (xs.getD k .zero) hvk w
   generalize xs.getD k .zero=x at*;have hTz:(Bs (txt x)).size≤67:=by rw[Yu];exact hxl
   obtain⟨T,HTT⟩:=nm (Bs (txt x));rw[←HTT.out] at k2 hTz;obtain⟨x1,x2,x3⟩:=x;simp only[Fr.v] at k2 c1 c2 c3;have K2:=Zz k2;clear k2 hvk hc hxl;by_cases hk0:k=0
   ·have hk1:¬(0:Int)<(k:Int):=by omega
    have HN:Hid (O++T=Bs (Lib.join ((xs.take (k+1)).map txt) [32])):=Zz (by
     rw[HO.out,HTT.out,HT.out,Xk,hk0];simp[Lib.join_nil,Lib.join_one])
    have hz:(O++T).size≤70*(k+1):=by rw[ByteArray.size_append];omega
    clear hk0;go_wp2_with fail;refine Yw (K2.out _) fun w2 hx=>?_
    have HE2:=Zz (HE.out.trans hx);clear hx c1 c2 c3;go_wp2;go_roundw
    case rel=>exact⟨k+1,O++T,by go_num,by omega,rfl,HN,hz,HE2⟩
    case measure=>simp[intOf]<;>omega
   ·have hk1:(0:Int)<(k:Int):=by omega
    have HN:Hid (O++⟨#[32]⟩++T=Bs (Lib.join ((xs.take (k+1)).map txt) [32])):=Zz (by
     have hne:(xs.take k).map txt≠[]:=by
      intro e;have:=congrArg List.length e
      rw[List.length_map,List.length_take,List.length_nil] at this;omega
     rw[HO.out,HTT.out,HT.out,Zix hne];apply Te;simp[Mt,Bs])
    have hz:(O++⟨#[32]⟩++T).size≤70*(k+1):=by
     rw[ByteArray.size_append,ByteArray.size_append,show(⟨#[32]⟩:ByteArray).size=1 from rfl];omega
    clear hk0;go_wp2_with fail;refine Yw (K2.out _) fun w2 hx=>?_
    have HE2:=Zz (HE.out.trans hx);clear hx c1 c2 c3;go_wp2;go_roundw
    case rel=>exact⟨k+1,O++⟨#[32]⟩++T,by go_num,by omega,rfl,HN,hz,HE2⟩
    case measure=>simp[intOf]<;>omega
  ·have hI:¬(k:Int)<(xs.length:Int):=by omega
   have HN:Hid (O++⟨#[10]⟩=R):=Zz (by
    rw[HO.out,HR.out,List.take_of_length_le (by omega)];apply Te;simp[Mt,Bs])
   clear hlt;go_wp2;refine Zu (v:= .string (O++⟨#[10]⟩)) ?_ rfl ⟨by rw[HN.out],HE.out⟩;simp[results,results153,go_sem]
theorem Zlh(A:Option Addr)(n cap:Nat)(w:World):Calls prog 153 #[.slice A n cap,false] w fun e w'=>e= .returned (.string ⟨#[110,111,10]⟩)∧Ex w w':=by
 go_in;go_wp2;refine Zu (v:= .string ⟨#[110,111,10]⟩) ?_ rfl ⟨rfl,Ex.refl _⟩;simp[results,results153,go_sem]
end
end Go.Proofs.YtiommfmaleeibaaGreatDoor
