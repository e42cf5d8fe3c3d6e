/-
  Proved:what functions compute,part 9. No condition.
-/
import Derived.Test.YtiommfmaleeibaaGreatDoorB01
import Derived.ProofKit
import Derived.LaidMore
import Derived.OpenShut
import Derived.OpenVars
import Derived.Stop.Joined
import Derived.Lib.LaidU8
set_option linter.unusedSimpArgs false
set_option linter.unusedVariables false
set_option maxRecDepth 20000
set_option maxHeartbeats 8000000
namespace Go.Proofs.YtiommfmaleeibaaGreatDoor
open Go.Proofs.Tryz
section
open Go.RowKit

theorem Zie:Tryz.prog.cellsOf 30=3:=by kernel_rfl
theorem Zxn:Tryz.prog.cellsOf 3=1:=by kernel_rfl
theorem Og{H:Type}{enc:TypeId×Value→H}{w:World}{base:Nat}{sp:Nat→Bool}{held:Bool}{fuel:Nat}{cs:List Value}{a b c:Int}{p:List MemPlace}
  (h:DataW.trod enc prog w base sp held fuel 30 cs=some (.agg [.lit (.int .i64 a), .lit (.int .i64 b), .lit (.int .i64 c)],p)):cs=[.int .i64 a, .int .i64 b, .int .i64 c]:=by
 have:=Lib.ints_of_struct (k:= .i64) (zs:=[a,b,c]) underlying30 (fun i f hf=>by
  match i,hf with
  |0,hf=>simp at hf;subst hf;exact⟨underlying3,rfl,Zxn⟩
  |1,hf=>simp at hf;subst hf;exact⟨underlying3,rfl,Zxn⟩
  |2,hf=>simp at hf;subst hf;exact⟨underlying3,rfl,Zxn⟩
  |n+3,hf=>simp at hf) Zie h
 simpa using this
theorem Zuq{n:String}{g:Nat}{a b c:Int}{w:World}(hn:Tryz.prog.globalNamed n=some g)(ht:(Tryz.prog.globals[g]?).map (·.type)=some 30)
  (h:Lib.VarReads prog w n (.agg [.lit (.int .i64 a), .lit (.int .i64 b), .lit (.int .i64 c)])):∀i,w.cell? ⟨g,i,none⟩=(#[.int .i64 a, .int .i64 b, .int .i64 c]:Av)[i]? :=by
 obtain⟨g',t,cs,fuel,p,h1,h2,h3,h4⟩:=h;obtain rfl:g=g':=Option.some.inj (hn.symm.trans h1);obtain rfl:30=t:=Option.some.inj (ht.symm.trans h2);have hc:=Og h4;intro i;rw[World.var?_cell hn h3 i];have:cs=#[.int .i64 a, .int .i64 b, .int .i64 c]:=by
  apply Array.toList_inj.1;simpa using hc
 rw[this]
theorem Er{H:Type}{enc:TypeId×Value→H}{w:World}{base:Nat}{sp:Nat→Bool}{held:Bool}{fuel:Nat}{l:List Value}{a0 a1 a2 b0 b1 b2 c0 c1 c2 d0 d1 d2:Int}{p:List MemPlace}
  (h4:DataW.trod enc prog w base sp held fuel 31 l=some ((.agg [.agg [.lit (.int .i64 a0), .lit (.int .i64 a1), .lit (.int .i64 a2)], .agg [.lit (.int .i64 b0), .lit (.int .i64 b1), .lit (.int .i64 b2)], .agg [.lit (.int .i64 c0), .lit (.int .i64 c1), .lit (.int .i64 c2)], .agg [.lit (.int .i64 d0), .lit (.int .i64 d1), .lit (.int .i64 d2)]]),p)):l=[.int .i64 a0, .int .i64 a1, .int .i64 a2, .int .i64 b0, .int .i64 b1, .int .i64 b2, .int .i64 c0, .int .i64 c1, .int .i64 c2, .int .i64 d0, .int .i64 d1, .int .i64 d2]:=by
 obtain⟨xs,m,_,hx,hl,hxl,hall⟩:=DataW.trod_array underlying31 h4;have hl12:l.length=12:=by rw[hl];kernel_rfl
 rw[Zie] at hall;have hxs:=congrArg Prod.fst hx;simp only[DataW.agg.injEq] at hxs;match xs,hxl with
 |[x0,x1,x2,x3],_=>
  simp only[List.map_cons,List.map_nil,List.cons.injEq,and_true] at hxs;obtain⟨e0,e1,e2,e3⟩:=hxs;obtain⟨y0,q0⟩:=x0;obtain⟨y1,q1⟩:=x1;obtain⟨y2,q2⟩:=x2;obtain⟨y3,q3⟩:=x3;simp only at e0 e1 e2 e3;subst e0 e1 e2 e3;have k0:=Og (hall 0 (by omega));have k1:=Og (hall 1 (by omega));have k2:=Og (hall 2 (by omega));have k3:=Og (hall 3 (by omega));have hcs:l=(l.drop 0).take 3++((l.drop 3).take 3++((l.drop 6).take 3++(l.drop 9).take 3)):=by
   match l,hl12 with
   |[_,_,_,_,_,_,_,_,_,_,_,_],_=>rfl
  simp only[Nat.zero_mul,Nat.one_mul,Nat.reduceMul] at k0 k1 k2 k3;rw[k0,k1,k2,k3] at hcs;exact hcs
theorem Zlc{n:String}{g:Nat}{a0 a1 a2 b0 b1 b2 c0 c1 c2 d0 d1 d2:Int}{w:World}(hn:Tryz.prog.globalNamed n=some g)(ht:(Tryz.prog.globals[g]?).map (·.type)=some 31)
  (h:Lib.VarReads prog w n (.agg [.agg [.lit (.int .i64 a0), .lit (.int .i64 a1), .lit (.int .i64 a2)], .agg [.lit (.int .i64 b0), .lit (.int .i64 b1), .lit (.int .i64 b2)], .agg [.lit (.int .i64 c0), .lit (.int .i64 c1), .lit (.int .i64 c2)], .agg [.lit (.int .i64 d0), .lit (.int .i64 d1), .lit (.int .i64 d2)]])):
  ∀i,w.cell? ⟨g,i,none⟩=(#[.int .i64 a0, .int .i64 a1, .int .i64 a2, .int .i64 b0, .int .i64 b1, .int .i64 b2, .int .i64 c0, .int .i64 c1, .int .i64 c2, .int .i64 d0, .int .i64 d1, .int .i64 d2]:Av)[i]? :=by
 obtain⟨g',t,cs,fuel,p,h1,h2,h3,h4⟩:=h;obtain rfl:g=g':=Option.some.inj (hn.symm.trans h1);obtain rfl:31=t:=Option.some.inj (ht.symm.trans h2);intro i;rw[World.var?_cell hn h3 i,show cs=#[.int .i64 a0, .int .i64 a1, .int .i64 a2, .int .i64 b0, .int .i64 b1, .int .i64 b2, .int .i64 c0, .int .i64 c1, .int .i64 c2, .int .i64 d0, .int .i64 d1, .int .i64 d2] from Array.toList_inj.1 (Er h4)]
theorem Zdx{n:String}{g:Nat}{a0 a1 a2 b0 b1 b2 c0 c1 c2 d0 d1 d2:Int}{w:World}(hn:Tryz.prog.globalNamed n=some g)(ht:(Tryz.prog.globals[g]?).map (·.type)=some 79)
  (h:Lib.VarReads prog w n (.agg [(.agg [.agg [.lit (.int .i64 a0), .lit (.int .i64 a1), .lit (.int .i64 a2)], .agg [.lit (.int .i64 b0), .lit (.int .i64 b1), .lit (.int .i64 b2)], .agg [.lit (.int .i64 c0), .lit (.int .i64 c1), .lit (.int .i64 c2)], .agg [.lit (.int .i64 d0), .lit (.int .i64 d1), .lit (.int .i64 d2)]])])):
  ∀i,w.cell? ⟨g,i,none⟩=(#[.int .i64 a0, .int .i64 a1, .int .i64 a2, .int .i64 b0, .int .i64 b1, .int .i64 b2, .int .i64 c0, .int .i64 c1, .int .i64 c2, .int .i64 d0, .int .i64 d1, .int .i64 d2]:Av)[i]? :=by
 obtain⟨g',t,cs,fuel,p,h1,h2,h3,h4⟩:=h;obtain rfl:g=g':=Option.some.inj (hn.symm.trans h1);obtain rfl:79=t:=Option.some.inj (ht.symm.trans h2);obtain⟨⟨y,q⟩,m,hx,hl,h0⟩:=Go.ChangeShapes.trod_struct1 underlying79 h4;have e:=congrArg Prod.fst hx;simp only[DataW.agg.injEq,List.cons.injEq,and_true] at e;subst e;have hl12:cs.toList.length=12:=by rw[hl];kernel_rfl
 have e2:=Er h0;rw[show Tryz.prog.cellsOf 31=12 by kernel_rfl,List.drop_zero,List.take_of_length_le (by omega)] at e2;intro i;rw[World.var?_cell hn h3 i,show cs=#[.int .i64 a0, .int .i64 a1, .int .i64 a2, .int .i64 b0, .int .i64 b1, .int .i64 b2, .int .i64 c0, .int .i64 c1, .int .i64 c2, .int .i64 d0, .int .i64 d1, .int .i64 d2] from Array.toList_inj.1 e2]
theorem Kk{H:Type}{enc:TypeId×Value→H}{P:Program}{w:World}{sp:Nat→Bool}:∀{ns:List String} {gs:List (DataW H)} {ps:List MemPlace},DataW.TrodVars enc P w sp ns gs ps→gs.length=ns.length
 |[],[],_,_=>rfl
 |[],_::_,_,h=>h.elim
 |_::_,[],_,h=>h.elim
 |_::_,_::_,_,h=>by
  obtain⟨_,_,_,_,_,_,_,_,_,_,hs,_⟩:=h
  simp[Kk hs]
theorem Zdw : Tryz.prog.globalNamed "loop.example/polarisedlight/impl.zero" = some 1 := by kernel_rfl
theorem Zbl : Tryz.prog.globalNamed "loop.example/polarisedlight/impl.one" = some 0 := by kernel_rfl
theorem Zid : Tryz.prog.globalNamed "loop.example/polarisedlight/impl.turns" = some 2 := by kernel_rfl
theorem Zdv : Tryz.prog.globalNamed "loop.example/polarisedlight/impl.same" = some 3 := by kernel_rfl
end
end Go.Proofs.YtiommfmaleeibaaGreatDoor
