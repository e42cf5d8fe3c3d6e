/-
  Proved:what functions compute,part 19. No condition.
-/
import Derived.Test.YtiommfmaleeibaaGreatDoorB06
import Derived.Test.YtiommfmaleeibaaGreatDoorB18
set_option linter.unusedSimpArgs false
set_option linter.unusedVariables false
set_option maxRecDepth 20000
set_option maxHeartbeats 8000000
namespace Go.Proofs.YtiommfmaleeibaaGreatDoor
open Go.Proofs.Tryz
section
open Go.RowKit

def Vo(a:Fr):Nat×Nat×Bool:=if a.valid then (Rr a.re a.den,Rr a.im a.den,true) else (0,0,false)
def Rc(a:Fr):Nat×Nat×Bool:=if a.valid then (Sp a.re a.den,Sp a.im a.den,true) else (0,0,false)
def Zwt(k:FloatKind)(w:World)(r:Nat×Nat×Bool):Ending→World→Prop:=fun e w'=>e= .returned (.tuple #[.complex k r.1 r.2.1,r.2.2])∧Ex w w'
theorem Gk{n d:Int}(h1: -2000000000≤n∧n≤2000000000)(h2:1≤d∧d≤2000000000):
  ∀t w,(binOp .quo t (.float .f64 (floatOfInt .f64 n)) (.float .f64 (floatOfInt .f64 d))).run prog w= .ok (.float .f64 (Sp n d)) w:=
 fun t w=>run_float_arith w .quo t .f64 _ _ _ (Zwu n d h1.1 h1.2 h2.1 h2.2).1
theorem Zth{n m d:Int}(h1: -2000000000≤n∧n≤2000000000)(h3: -2000000000≤m∧m≤2000000000)(h2:1≤d∧d≤2000000000):
  ∀w,(convert 223 178 (.complex .f64 (Sp n d) (Sp m d))).run prog w= .ok (.complex .f32 (Rr n d) (Rr m d)) w:=by
 intro w;refine run_convert_complex w _ _ .f64 .f32 _ _ _ _ (by kernel_rfl) (by kernel_rfl) ?_;unfold cConvBits;rw[(Zwu n d h1.1 h1.2 h2.1 h2.2).2.1,(Zwu m d h3.1 h3.2 h2.1 h2.2).2.1];rfl

theorem Zkk(a:Fr)(w:World):Calls prog 205 #[a.v] w (Zwt .f64 w (Rc a)):=by
 obtain⟨a1,a2,a3⟩:=a;show Calls _ _ #[.agg #[a1,a2,a3]] _ _;have k1:=fun w=>Xj a1 a2 a3 w
 rcases h1:Yx a1 a2 a3 with _|_
 ·have hr:Rc ⟨a1,a2,a3⟩=(0,0,false):=by simp[Rc,Fr.valid,h1]
  simp only[h1] at k1;rw[hr];have K1:=Zz k1;clear k1 hr h1;go_in;go_wp2_with fail;refine Yw (K1.out _) fun w1 hx=>?_
  go_wp2;refine Zu (v:= .tuple #[.complex .f64 0 0,false]) ?_ rfl ⟨rfl,?_⟩
  ·simp[results,results205,go_sem]
  ·exact((Ex.refl _).alloc _).trans hx
 ·have hr:Rc ⟨a1,a2,a3⟩=(Sp a1 a3,Sp a2 a3,true):=by simp[Rc,Fr.valid,h1]
  obtain⟨p1,p2,p3, -⟩:=Xe h1;have o1:=Gk p1 p3;have o2:=Gk p2 p3;simp only[h1] at k1;rw[hr];have K1:=Zz k1;clear k1 hr h1;go_in;go_wp2_with fail;refine Yw (K1.out _) fun w1 hx=>?_
  have b:=(Box.new _ _ _).ex hx;have c:=b.cell;go_wp2_with (simp only[o1,o2]);refine Zu (v:= .tuple #[.complex .f64 (Sp a1 a3) (Sp a2 a3),true]) ?_ rfl ⟨rfl,?_⟩
  ·simp[results,results205,go_sem]
  ·exact((Ex.refl _).alloc _).trans hx
theorem Zkj(a:Fr)(w:World):Calls prog 269 #[a.v] w (Zwt .f64 w (Rc a)):=by
 obtain⟨a1,a2,a3⟩:=a;show Calls _ _ #[.agg #[a1,a2,a3]] _ _;have k1:=fun w=>Xc a1 a2 a3 w
 rcases h1:Yx a1 a2 a3 with _|_
 ·have hr:Rc ⟨a1,a2,a3⟩=(0,0,false):=by simp[Rc,Fr.valid,h1]
  simp only[h1] at k1;rw[hr];have K1:=Zz k1;clear k1 hr h1;go_in;go_wp2_with fail;refine Yw (K1.out _) fun w1 hx=>?_
  go_wp2;refine Zu (v:= .tuple #[.complex .f64 0 0,false]) ?_ rfl ⟨rfl,?_⟩
  ·simp[results,results269,go_sem]
  ·exact((Ex.refl _).alloc _).trans hx
 ·have hr:Rc ⟨a1,a2,a3⟩=(Sp a1 a3,Sp a2 a3,true):=by simp[Rc,Fr.valid,h1]
  obtain⟨p1,p2,p3, -⟩:=Xe h1;have o1:=Gk p1 p3;have o2:=Gk p2 p3;simp only[h1] at k1;rw[hr];have K1:=Zz k1;clear k1 hr h1;go_in;go_wp2_with fail;refine Yw (K1.out _) fun w1 hx=>?_
  have b:=(Box.new _ _ _).ex hx;have c:=b.cell;go_wp2_with (simp only[o1,o2]);refine Zu (v:= .tuple #[.complex .f64 (Sp a1 a3) (Sp a2 a3),true]) ?_ rfl ⟨rfl,?_⟩
  ·simp[results,results269,go_sem]
  ·exact((Ex.refl _).alloc _).trans hx
theorem Zki:∀w,(convert 223 178 (.complex .f64 0 0)).run prog w= .ok (.complex .f32 0 0) w:=by
 intro w;exact run_convert_complex w _ _ .f64 .f32 _ _ _ _ (by kernel_rfl) (by kernel_rfl) (by decide+kernel)
theorem Nf(a:Fr)(w:World):Calls prog 144 #[a.v] w (Zwt .f32 w (Vo a)):=by
 have k1:=fun w=>Zkk a w
 obtain⟨a1,a2,a3⟩:=a;show Calls _ _ #[.agg #[a1,a2,a3]] _ _;rcases h1:Yx a1 a2 a3 with _|_
 ·have hr:Vo ⟨a1,a2,a3⟩=(0,0,false):=by simp[Vo,Fr.valid,h1]
  have hr2:Rc ⟨a1,a2,a3⟩=(0,0,false):=by simp[Rc,Fr.valid,h1]
  simp only[hr2] at k1;rw[hr];have K1:=Zz k1;have o:=Zki;clear k1 hr h1 hr2;go_in;go_wp2_with fail;refine Yw (K1.out _) fun w1 hx=>?_
  go_wp2_with (simp only[o]);refine Zu (v:= .tuple #[.complex .f32 0 0,false]) ?_ rfl ⟨rfl,?_⟩
  ·simp[results,results144,go_sem]
  ·exact((Ex.refl _).alloc _).trans hx
 ·have hr:Vo ⟨a1,a2,a3⟩=(Rr a1 a3,Rr a2 a3,true):=by simp[Vo,Fr.valid,h1]
  have hr2:Rc ⟨a1,a2,a3⟩=(Sp a1 a3,Sp a2 a3,true):=by simp[Rc,Fr.valid,h1]
  obtain⟨p1,p2,p3, -⟩:=Xe h1;have o:=Zth p1 p2 p3;simp only[hr2] at k1;rw[hr];have K1:=Zz k1;clear k1 hr h1 hr2;go_in;go_wp2_with fail;refine Yw (K1.out _) fun w1 hx=>?_
  go_wp2_with (simp only[o]);refine Zu (v:= .tuple #[.complex .f32 (Rr a1 a3) (Rr a2 a3),true]) ?_ rfl ⟨rfl,?_⟩
  ·simp[results,results144,go_sem]
  ·exact((Ex.refl _).alloc _).trans hx
theorem Nd(a:Fr)(w:World):Calls prog 255 #[a.v] w (Zwt .f32 w (Vo a)):=by
 have k1:=fun w=>Zkj a w
 obtain⟨a1,a2,a3⟩:=a;show Calls _ _ #[.agg #[a1,a2,a3]] _ _;rcases h1:Yx a1 a2 a3 with _|_
 ·have hr:Vo ⟨a1,a2,a3⟩=(0,0,false):=by simp[Vo,Fr.valid,h1]
  have hr2:Rc ⟨a1,a2,a3⟩=(0,0,false):=by simp[Rc,Fr.valid,h1]
  simp only[hr2] at k1;rw[hr];have K1:=Zz k1;clear k1 hr h1 hr2;go_in;go_wp2_with fail;refine Yw (K1.out _) fun w1 hx=>?_
  go_wp2;refine Zu (v:= .tuple #[.complex .f32 0 0,false]) ?_ rfl ⟨rfl,?_⟩
  ·simp[results,results255,go_sem]
  ·exact((Ex.refl _).alloc _).trans hx
 ·have hr:Vo ⟨a1,a2,a3⟩=(Rr a1 a3,Rr a2 a3,true):=by simp[Vo,Fr.valid,h1]
  have hr2:Rc ⟨a1,a2,a3⟩=(Sp a1 a3,Sp a2 a3,true):=by simp[Rc,Fr.valid,h1]
  obtain⟨p1,p2,p3, -⟩:=Xe h1;have o:=Zth p1 p2 p3;simp only[hr2] at k1;rw[hr];have K1:=Zz k1;clear k1 hr h1 hr2;go_in;go_wp2_with fail;refine Yw (K1.out _) fun w1 hx=>?_
  go_wp2_with (simp only[o]);refine Zu (v:= .tuple #[.complex .f32 (Rr a1 a3) (Rr a2 a3),true]) ?_ rfl ⟨rfl,?_⟩
  ·simp[results,results255,go_sem]
  ·exact((Ex.refl _).alloc _).trans hx

def gfarN(a b:Fr):Nat:=sfar (Rr a.re a.den) (Rr a.im a.den) (Rr b.re b.den) (Rr b.im b.den)
def gfar(a b:Fr):Nat×Bool:=if a.valid&&b.valid then (gfarN a b,true) else (0,false)
def FarGot(w:World)(r:Nat×Bool):Ending→World→Prop:=fun e w'=>e= .returned (.tuple #[.float .f32 r.1,r.2])∧Ex w w'
end
end Go.Proofs.YtiommfmaleeibaaGreatDoor
