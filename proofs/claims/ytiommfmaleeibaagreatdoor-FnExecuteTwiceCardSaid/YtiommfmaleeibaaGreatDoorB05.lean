/-
  Proved:what functions compute,part 5. No condition.
-/

set_option linter.unusedSimpArgs false
set_option linter.unusedVariables false
set_option maxRecDepth 20000
set_option maxHeartbeats 8000000
section
/-
 Plain mathematics of fractions:no program in sight.
-/
namespace Go.Proofs.YtiommfmaleeibaaGreatDoor

def Wo(a b c:Int):Int:=(Nat.gcd (Nat.gcd a.natAbs b.natAbs) c.natAbs:Nat)
theorem Zur(x y:Nat):Nat.gcd y (x % y)=Nat.gcd x y:=by
 rw[Nat.gcd_comm x y,Nat.gcd_comm y (x % y)];exact(Nat.gcd_rec y x).symm
theorem Dt(a b:Int):Nat.gcd b.natAbs (a.tmod b).natAbs=Nat.gcd a.natAbs b.natAbs:=by
 rw[Int.natAbs_tmod];exact Zur _ _
theorem Ct(a b:Int)(hb:b≠0):(a.tmod b).natAbs<b.natAbs:=by
 rw[Int.natAbs_tmod];exact Nat.mod_lt _ (by omega)
end Go.Proofs.YtiommfmaleeibaaGreatDoor
end
