/-
  Proved:what functions compute,part 2. No condition.
-/
import Derived.Test.YtiommfmaleeibaaGreatDoorB01
import Derived.Lib.SmallJoins
set_option linter.unusedSimpArgs false
set_option linter.unusedVariables false
set_option maxRecDepth 20000
set_option maxHeartbeats 8000000
namespace Go.Proofs.YtiommfmaleeibaaGreatDoor
open Go.Proofs.Tryz
section
open Go.ChangeShapes Go.WideShapes Go.ChangeAt Go.RowKit Go.Joins Go.Deep
open Go.ChangeMaps (open_string shut_string)

theorem Dm:ownKnob Tryz.prog.godebug=none:=by kernel_rfl
theorem Tw:laidOutB prog=true:=by kernel_rfl

def Zac(n:Int):Prop:= -9223372036854775808≤n∧n≤9223372036854775807

section
variable {H:Type} {enc:TypeId×Value→H} {w:World} {base:Nat} {r:Reach} {b0:Nat} {d:DataW H} {p:List MemPlace} {v:Value}

theorem Zxr{A:Addr}{k:IntKind}{len:Nat}{zs:List Int}(hl:len≤zs.length)(hcell:∀i,i<zs.length→w.cell? (A.add i)=some (.int k (zs.getD i 0))):
  Slc w (some A) ((zs.take len).map (Value.int k)):=by
 intro hp;have hp':0<len:=by
  rcases Nat.eq_zero_or_pos len with h|h
  ·subst h;simp at hp
  ·exact h
 obtain⟨b,off,rfl,hc⟩:=ints_at hcell (by omega);refine⟨b,off,rfl,fun j hj=>?_⟩;have hj':j<len:=by simp at hj;omega
 rw[hc j (by omega)];have hz:j<zs.length:=by omega
 simp[hj',hz]

def Dl(w:World)(v:Value):Prop:=∃(A:Option Addr) (cap:Nat) (xs:List Int),v= .slice A xs.length cap∧xs.length≤9223372036854775807∧xs.length≤cap∧cap≤9223372036854775807∧Slc w A (xs.map (Value.int .u8))∧∀n∈xs,0≤n∧n≤255
theorem Ib(hv:Value.okWide prog w r b0 22 v)(h:DataW.Trod enc prog w base (fun _=>true) true 22 v d p):Dl w v:=by
 obtain⟨a0,len0,cap0,rfl⟩:=okWide_slice underlying22 hv;obtain⟨fuel,hf⟩:=h;rcases open_ints underlying22 underlying5 (by kernel_rfl) hf with⟨hcs,_⟩|⟨x,l,c,zs,hcs,_,hl,hm,hz,_,hcell,hwz⟩
 ·simp[Value.cells] at hcs;obtain⟨rfl,rfl,rfl⟩:=hcs;exact⟨none,0,[],rfl,by simp,by simp,by simp,Slc.nil _ _,by simp⟩
 ·simp[Value.cells] at hcs;obtain⟨rfl,rfl,rfl⟩:=hcs;have hz':zs.length=cap0:=by simpa using hz
  unfold maxLen at hm;refine⟨_,cap0,zs.take len0,by rw[List.length_take,Nat.min_eq_left (by omega)],by rw[List.length_take];omega,by rw[List.length_take];omega,hm,Zxr (by omega) hcell,fun n hn=>?_⟩;have hb:=bounds_u8 (hwz n (List.mem_of_mem_take hn));omega

def IsInt(_:World)(v:Value):Prop:=∃n:Int,v= .int .i64 n∧Zac n
end
end
end Go.Proofs.YtiommfmaleeibaaGreatDoor
