/-
  The walk of the law FnExactExecute.
-/
import Derived.Test.YtiommfmaleeibaaGreatDoorB24
import Derived.Test.YtiommfmaleeibaaGreatDoorB03
set_option linter.unusedSimpArgs false
set_option linter.unusedVariables false
namespace Go.Proofs.YtiommfmaleeibaaGreatDoor
open Go.RowKit

attribute [local go_sem] Zg Zf
set_option maxRecDepth 10000 in
set_option maxHeartbeats 1000000 in
theorem law_FnExactExecute(v0:Value)(w:World)(h0:Zbz w v0)(hm:Wn w∧Xz w):Calls Tryz.prog 7 #[v0] w fun e w'=>e= .returned (.bool true)∧Ex w w':=by
 obtain⟨s,rfl,hs⟩:=h0;have ki:=fun w hG hm=>Np s w hG hm
 have ks:=fun w=>Zva s w
 generalize Kq s=T at ki ks;have KI:=Zz ki;have KS:=Zz ks;have HM:=Zz hm.1;have HG:=Zz hm.2;clear ki ks hm;by_cases hl:s.size≤1048576
 ·have hlI:¬(1048576:Int)<(s.size:Int):=by omega
  obtain⟨hS,hC⟩:=s0 w;go_in;go_wp2_with (first|((with_reducible refine(KS.out _).mono ?_);rintro e wn ⟨rfl,hx⟩;replace hS:=Zo.after (W:=w) hx;clear hx)|((with_reducible refine(KI.out _ (HG.out.ex Zo.exOf) (HM.out.ex Zo.exOf)).mono ?_);rintro e wn ⟨rfl,hx⟩;replace hS:=Zo.after (W:=w) hx;clear hx));exact Yp (v:= .bool true) (by simp[results,Tryz.results7,go_sem]) rfl
 ·have hlI:(1048576:Int)<(s.size:Int):=by omega
  go_in;go_wp2;go_ret;exact⟨rfl,Ex.refl _⟩
end Go.Proofs.YtiommfmaleeibaaGreatDoor
