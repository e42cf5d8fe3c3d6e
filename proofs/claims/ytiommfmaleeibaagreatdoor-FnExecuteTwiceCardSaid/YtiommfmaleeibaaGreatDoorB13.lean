/-
  Proved:what functions compute,part 13. No condition.
-/
import Derived.Deep.DrawnRows
import Derived.Test.YtiommfmaleeibaaGreatDoorB12
set_option linter.unusedSimpArgs false
set_option linter.unusedVariables false
set_option maxRecDepth 20000
set_option maxHeartbeats 8000000
namespace Go.Proofs.YtiommfmaleeibaaGreatDoor
open Go.Proofs.Tryz
section
open Go.RowKit

attribute [local go_sem ↓] Go.wp_at_zero Go.wp_at_succ
theorem Zpt(bs:Nat)(bad:Bool)(a b c d e f g h:Fr)(ps pa pb:Nat)(w:World)(hb:Box w bs 92 #[bad])(hs:Box w ps 90 #[.pointer (some ⟨bs,0,none⟩)])(ha:Box w pa 79 #[a.re,a.im,a.den,b.re,b.im,b.den,c.re,c.im,c.den,d.re,d.im,d.den])(hc:Box w pb 79 #[e.re,e.im,e.den,f.re,f.im,f.den,g.re,g.im,g.den,h.re,h.im,h.den])(n1:ps≠bs)(n2:pa≠bs)(n3:pb≠bs):Calls prog 169 #[oo,oo, .pointer (some ⟨ps,0,none⟩), .pointer (some ⟨pa,0,none⟩), .pointer (some ⟨pb,0,none⟩)] w (Vn bs bad w (Xd a e b g)):=by
 obtain⟨a1,a2,a3⟩:=a;obtain⟨b1,b2,b3⟩:=b;obtain⟨c1,c2,c3⟩:=c;obtain⟨d1,d2,d3⟩:=d;obtain⟨e1,e2,e3⟩:=e;obtain⟨f1,f2,f3⟩:=f;obtain⟨g1,g2,g3⟩:=g;obtain⟨h1,h2,h3⟩:=h;have hfo:=Oq ⟨a1,a2,a3⟩ ⟨e1,e2,e3⟩ ⟨b1,b2,b3⟩ ⟨g1,g2,g3⟩ bad;have hS:=((((Zl.init hb).put hs n1).put ha n2).put hc n3)
 have hC:=hS.rd;simp only[Zr,Zq,Zy] at hC;have m1:w.heap.size≠ps:=Nat.ne_of_gt hs.lt;have m2:w.heap.size≠pa:=Nat.ne_of_gt ha.lt;have m3:w.heap.size≠pb:=Nat.ne_of_gt hc.lt;have m4:w.heap.size≠bs:=Nat.ne_of_gt hb.lt;have q0:IntKind.i64.wrap 0=0:=by decide
 have q1:IntKind.i64.wrap 1=1:=by decide
 have q2:IntKind.i64.wrap 2=2:=by decide
 have q3:IntKind.i64.wrap 3=3:=by decide
 clear hb hs ha hc;go_in;go_wp2;go_region_held3 (fun w'=>w'.cell? ⟨ps,0,none⟩=some (.pointer (some ⟨bs,0,none⟩))∧w'.cell? ⟨pa,0,none⟩=some (.int .i64 a1)∧w'.cell? ⟨pa,1,none⟩=some (.int .i64 a2)∧w'.cell? ⟨pa,2,none⟩=some (.int .i64 a3)∧w'.cell? ⟨pa,3,none⟩=some (.int .i64 b1)∧w'.cell? ⟨pa,4,none⟩=some (.int .i64 b2)∧w'.cell? ⟨pa,5,none⟩=some (.int .i64 b3)∧w'.cell? ⟨pb,0,none⟩=some (.int .i64 e1)∧w'.cell? ⟨pb,1,none⟩=some (.int .i64 e2)∧w'.cell? ⟨pb,2,none⟩=some (.int .i64 e3)∧w'.cell? ⟨pb,6,none⟩=some (.int .i64 g1)∧w'.cell? ⟨pb,7,none⟩=some (.int .i64 g2)∧w'.cell? ⟨pb,8,none⟩=some (.int .i64 g3)) (go_keep) (first
   |(go_at_call 53;((with_reducible refine(Df w (a1:=x1) (a2:=y1) (a3:=z1) (b1:=x2) (b2:=y2) (b3:=z2)).mono ?_);rintro e wn ⟨x3,y3,z3,k3,H3,rfl,hS⟩;replace hC:=hS.rd;simp only[Zr,Zq,Zy] at hC))
   |(go_at_call 49;((with_reducible refine(Rz w (a1:=b1) (a2:=b2) (a3:=b3) (b1:=g1) (b2:=g2) (b3:=g3)).mono ?_);rintro e wn ⟨x2,y2,z2,k2,H2,rfl,hS⟩;replace hC:=hS.rd;simp only[Zr,Zq,Zy] at hC))
   |(go_at_call 49;((with_reducible refine(Rz w (a1:=a1) (a2:=a2) (a3:=a3) (b1:=e1) (b2:=e2) (b3:=e3)).mono ?_);rintro e wn ⟨x1,y1,z1,k1,H1,rfl,hS⟩;replace hC:=hS.rd;simp only[Zr,Zq,Zy] at hC)))
 go_wp2;have hf:Xd ⟨a1,a2,a3⟩ ⟨e1,e2,e3⟩ ⟨b1,b2,b3⟩ ⟨g1,g2,g3⟩=(⟨x3,y3,z3⟩,k3):=by
  unfold Xd;rw[←H1.out,←H2.out];exact H3.out.symm
 have hg:(bad|| !k1|| !k2|| !k3)=(bad|| !k3):=by
  rw[hf,←H1.out,←H2.out] at hfo;exact hfo
 have hb:=hS.sum;rw[hg] at hb;rw[hf];clear hf hg hfo H1 H2 H3;refine Zu (v:= .agg #[x3,y3,z3]) ?_ rfl ⟨rfl,?_,?_⟩
 ·simp[results,results169,go_sem,hC]
 ·repeat' (first
  |exact hS.sm
  |refine Sm.setNew ?_ (by simp) _)
 ·repeat' (first
  |exact hb
  |refine Box.far ?_ (by simp;omega) _)
theorem Zps(bs:Nat)(bad:Bool)(a b c d e f g h:Fr)(ps pa pb:Nat)(w:World)(hb:Box w bs 92 #[bad])(hs:Box w ps 90 #[.pointer (some ⟨bs,0,none⟩)])(ha:Box w pa 79 #[a.re,a.im,a.den,b.re,b.im,b.den,c.re,c.im,c.den,d.re,d.im,d.den])(hc:Box w pb 79 #[e.re,e.im,e.den,f.re,f.im,f.den,g.re,g.im,g.den,h.re,h.im,h.den])(n1:ps≠bs)(n2:pa≠bs)(n3:pb≠bs):Calls prog 169 #[oo, .int .i64 1, .pointer (some ⟨ps,0,none⟩), .pointer (some ⟨pa,0,none⟩), .pointer (some ⟨pb,0,none⟩)] w (Vn bs bad w (Xd a f b h)):=by
 obtain⟨a1,a2,a3⟩:=a;obtain⟨b1,b2,b3⟩:=b;obtain⟨c1,c2,c3⟩:=c;obtain⟨d1,d2,d3⟩:=d;obtain⟨e1,e2,e3⟩:=e;obtain⟨f1,f2,f3⟩:=f;obtain⟨g1,g2,g3⟩:=g;obtain⟨h1,h2,h3⟩:=h;have hfo:=Oq ⟨a1,a2,a3⟩ ⟨f1,f2,f3⟩ ⟨b1,b2,b3⟩ ⟨h1,h2,h3⟩ bad;have hS:=((((Zl.init hb).put hs n1).put ha n2).put hc n3)
 have hC:=hS.rd;simp only[Zr,Zq,Zy] at hC;have m1:w.heap.size≠ps:=Nat.ne_of_gt hs.lt;have m2:w.heap.size≠pa:=Nat.ne_of_gt ha.lt;have m3:w.heap.size≠pb:=Nat.ne_of_gt hc.lt;have m4:w.heap.size≠bs:=Nat.ne_of_gt hb.lt;have q0:IntKind.i64.wrap 0=0:=by decide
 have q1:IntKind.i64.wrap 1=1:=by decide
 have q2:IntKind.i64.wrap 2=2:=by decide
 have q3:IntKind.i64.wrap 3=3:=by decide
 clear hb hs ha hc;go_in;go_wp2;go_region_held3 (fun w'=>w'.cell? ⟨ps,0,none⟩=some (.pointer (some ⟨bs,0,none⟩))∧w'.cell? ⟨pa,0,none⟩=some (.int .i64 a1)∧w'.cell? ⟨pa,1,none⟩=some (.int .i64 a2)∧w'.cell? ⟨pa,2,none⟩=some (.int .i64 a3)∧w'.cell? ⟨pa,3,none⟩=some (.int .i64 b1)∧w'.cell? ⟨pa,4,none⟩=some (.int .i64 b2)∧w'.cell? ⟨pa,5,none⟩=some (.int .i64 b3)∧w'.cell? ⟨pb,3,none⟩=some (.int .i64 f1)∧w'.cell? ⟨pb,4,none⟩=some (.int .i64 f2)∧w'.cell? ⟨pb,5,none⟩=some (.int .i64 f3)∧w'.cell? ⟨pb,9,none⟩=some (.int .i64 h1)∧w'.cell? ⟨pb,10,none⟩=some (.int .i64 h2)∧w'.cell? ⟨pb,11,none⟩=some (.int .i64 h3)) (go_keep) (first
   |(go_at_call 53;((with_reducible refine(Df w (a1:=x1) (a2:=y1) (a3:=z1) (b1:=x2) (b2:=y2) (b3:=z2)).mono ?_);rintro e wn ⟨x3,y3,z3,k3,H3,rfl,hS⟩;replace hC:=hS.rd;simp only[Zr,Zq,Zy] at hC))
   |(go_at_call 49;((with_reducible refine(Rz w (a1:=b1) (a2:=b2) (a3:=b3) (b1:=h1) (b2:=h2) (b3:=h3)).mono ?_);rintro e wn ⟨x2,y2,z2,k2,H2,rfl,hS⟩;replace hC:=hS.rd;simp only[Zr,Zq,Zy] at hC))
   |(go_at_call 49;((with_reducible refine(Rz w (a1:=a1) (a2:=a2) (a3:=a3) (b1:=f1) (b2:=f2) (b3:=f3)).mono ?_);rintro e wn ⟨x1,y1,z1,k1,H1,rfl,hS⟩;replace hC:=hS.rd;simp only[Zr,Zq,Zy] at hC)))
 go_wp2;have hf:Xd ⟨a1,a2,a3⟩ ⟨f1,f2,f3⟩ ⟨b1,b2,b3⟩ ⟨h1,h2,h3⟩=(⟨x3,y3,z3⟩,k3):=by
  unfold Xd;rw[←H1.out,←H2.out];exact H3.out.symm
 have hg:(bad|| !k1|| !k2|| !k3)=(bad|| !k3):=by
  rw[hf,←H1.out,←H2.out] at hfo;exact hfo
 have hb:=hS.sum;rw[hg] at hb;rw[hf];clear hf hg hfo H1 H2 H3;refine Zu (v:= .agg #[x3,y3,z3]) ?_ rfl ⟨rfl,?_,?_⟩
 ·simp[results,results169,go_sem,hC]
 ·repeat' (first
  |exact hS.sm
  |refine Sm.setNew ?_ (by simp) _)
 ·repeat' (first
  |exact hb
  |refine Box.far ?_ (by simp;omega) _)
theorem Zpr(bs:Nat)(bad:Bool)(a b c d e f g h:Fr)(ps pa pb:Nat)(w:World)(hb:Box w bs 92 #[bad])(hs:Box w ps 90 #[.pointer (some ⟨bs,0,none⟩)])(ha:Box w pa 79 #[a.re,a.im,a.den,b.re,b.im,b.den,c.re,c.im,c.den,d.re,d.im,d.den])(hc:Box w pb 79 #[e.re,e.im,e.den,f.re,f.im,f.den,g.re,g.im,g.den,h.re,h.im,h.den])(n1:ps≠bs)(n2:pa≠bs)(n3:pb≠bs):Calls prog 169 #[.int .i64 1,oo, .pointer (some ⟨ps,0,none⟩), .pointer (some ⟨pa,0,none⟩), .pointer (some ⟨pb,0,none⟩)] w (Vn bs bad w (Xd c e d g)):=by
 obtain⟨a1,a2,a3⟩:=a;obtain⟨b1,b2,b3⟩:=b;obtain⟨c1,c2,c3⟩:=c;obtain⟨d1,d2,d3⟩:=d;obtain⟨e1,e2,e3⟩:=e;obtain⟨f1,f2,f3⟩:=f;obtain⟨g1,g2,g3⟩:=g;obtain⟨h1,h2,h3⟩:=h;have hfo:=Oq ⟨c1,c2,c3⟩ ⟨e1,e2,e3⟩ ⟨d1,d2,d3⟩ ⟨g1,g2,g3⟩ bad;have hS:=((((Zl.init hb).put hs n1).put ha n2).put hc n3)
 have hC:=hS.rd;simp only[Zr,Zq,Zy] at hC;have m1:w.heap.size≠ps:=Nat.ne_of_gt hs.lt;have m2:w.heap.size≠pa:=Nat.ne_of_gt ha.lt;have m3:w.heap.size≠pb:=Nat.ne_of_gt hc.lt;have m4:w.heap.size≠bs:=Nat.ne_of_gt hb.lt;have q0:IntKind.i64.wrap 0=0:=by decide
 have q1:IntKind.i64.wrap 1=1:=by decide
 have q2:IntKind.i64.wrap 2=2:=by decide
 have q3:IntKind.i64.wrap 3=3:=by decide
 clear hb hs ha hc;go_in;go_wp2;go_region_held3 (fun w'=>w'.cell? ⟨ps,0,none⟩=some (.pointer (some ⟨bs,0,none⟩))∧w'.cell? ⟨pa,6,none⟩=some (.int .i64 c1)∧w'.cell? ⟨pa,7,none⟩=some (.int .i64 c2)∧w'.cell? ⟨pa,8,none⟩=some (.int .i64 c3)∧w'.cell? ⟨pa,9,none⟩=some (.int .i64 d1)∧w'.cell? ⟨pa,10,none⟩=some (.int .i64 d2)∧w'.cell? ⟨pa,11,none⟩=some (.int .i64 d3)∧w'.cell? ⟨pb,0,none⟩=some (.int .i64 e1)∧w'.cell? ⟨pb,1,none⟩=some (.int .i64 e2)∧w'.cell? ⟨pb,2,none⟩=some (.int .i64 e3)∧w'.cell? ⟨pb,6,none⟩=some (.int .i64 g1)∧w'.cell? ⟨pb,7,none⟩=some (.int .i64 g2)∧w'.cell? ⟨pb,8,none⟩=some (.int .i64 g3)) (go_keep) (first
   |(go_at_call 53;((with_reducible refine(Df w (a1:=x1) (a2:=y1) (a3:=z1) (b1:=x2) (b2:=y2) (b3:=z2)).mono ?_);rintro e wn ⟨x3,y3,z3,k3,H3,rfl,hS⟩;replace hC:=hS.rd;simp only[Zr,Zq,Zy] at hC))
   |(go_at_call 49;((with_reducible refine(Rz w (a1:=d1) (a2:=d2) (a3:=d3) (b1:=g1) (b2:=g2) (b3:=g3)).mono ?_);rintro e wn ⟨x2,y2,z2,k2,H2,rfl,hS⟩;replace hC:=hS.rd;simp only[Zr,Zq,Zy] at hC))
   |(go_at_call 49;((with_reducible refine(Rz w (a1:=c1) (a2:=c2) (a3:=c3) (b1:=e1) (b2:=e2) (b3:=e3)).mono ?_);rintro e wn ⟨x1,y1,z1,k1,H1,rfl,hS⟩;replace hC:=hS.rd;simp only[Zr,Zq,Zy] at hC)))
 go_wp2;have hf:Xd ⟨c1,c2,c3⟩ ⟨e1,e2,e3⟩ ⟨d1,d2,d3⟩ ⟨g1,g2,g3⟩=(⟨x3,y3,z3⟩,k3):=by
  unfold Xd;rw[←H1.out,←H2.out];exact H3.out.symm
 have hg:(bad|| !k1|| !k2|| !k3)=(bad|| !k3):=by
  rw[hf,←H1.out,←H2.out] at hfo;exact hfo
 have hb:=hS.sum;rw[hg] at hb;rw[hf];clear hf hg hfo H1 H2 H3;refine Zu (v:= .agg #[x3,y3,z3]) ?_ rfl ⟨rfl,?_,?_⟩
 ·simp[results,results169,go_sem,hC]
 ·repeat' (first
  |exact hS.sm
  |refine Sm.setNew ?_ (by simp) _)
 ·repeat' (first
  |exact hb
  |refine Box.far ?_ (by simp;omega) _)
theorem Zpq(bs:Nat)(bad:Bool)(a b c d e f g h:Fr)(ps pa pb:Nat)(w:World)(hb:Box w bs 92 #[bad])(hs:Box w ps 90 #[.pointer (some ⟨bs,0,none⟩)])(ha:Box w pa 79 #[a.re,a.im,a.den,b.re,b.im,b.den,c.re,c.im,c.den,d.re,d.im,d.den])(hc:Box w pb 79 #[e.re,e.im,e.den,f.re,f.im,f.den,g.re,g.im,g.den,h.re,h.im,h.den])(n1:ps≠bs)(n2:pa≠bs)(n3:pb≠bs):Calls prog 169 #[.int .i64 1, .int .i64 1, .pointer (some ⟨ps,0,none⟩), .pointer (some ⟨pa,0,none⟩), .pointer (some ⟨pb,0,none⟩)] w (Vn bs bad w (Xd c f d h)):=by
 obtain⟨a1,a2,a3⟩:=a;obtain⟨b1,b2,b3⟩:=b;obtain⟨c1,c2,c3⟩:=c;obtain⟨d1,d2,d3⟩:=d;obtain⟨e1,e2,e3⟩:=e;obtain⟨f1,f2,f3⟩:=f;obtain⟨g1,g2,g3⟩:=g;obtain⟨h1,h2,h3⟩:=h;have hfo:=Oq ⟨c1,c2,c3⟩ ⟨f1,f2,f3⟩ ⟨d1,d2,d3⟩ ⟨h1,h2,h3⟩ bad;have hS:=((((Zl.init hb).put hs n1).put ha n2).put hc n3)
 have hC:=hS.rd;simp only[Zr,Zq,Zy] at hC;have m1:w.heap.size≠ps:=Nat.ne_of_gt hs.lt;have m2:w.heap.size≠pa:=Nat.ne_of_gt ha.lt;have m3:w.heap.size≠pb:=Nat.ne_of_gt hc.lt;have m4:w.heap.size≠bs:=Nat.ne_of_gt hb.lt;have q0:IntKind.i64.wrap 0=0:=by decide
 have q1:IntKind.i64.wrap 1=1:=by decide
 have q2:IntKind.i64.wrap 2=2:=by decide
 have q3:IntKind.i64.wrap 3=3:=by decide
 clear hb hs ha hc;go_in;go_wp2;go_region_held3 (fun w'=>w'.cell? ⟨ps,0,none⟩=some (.pointer (some ⟨bs,0,none⟩))∧w'.cell? ⟨pa,6,none⟩=some (.int .i64 c1)∧w'.cell? ⟨pa,7,none⟩=some (.int .i64 c2)∧w'.cell? ⟨pa,8,none⟩=some (.int .i64 c3)∧w'.cell? ⟨pa,9,none⟩=some (.int .i64 d1)∧w'.cell? ⟨pa,10,none⟩=some (.int .i64 d2)∧w'.cell? ⟨pa,11,none⟩=some (.int .i64 d3)∧w'.cell? ⟨pb,3,none⟩=some (.int .i64 f1)∧w'.cell? ⟨pb,4,none⟩=some (.int .i64 f2)∧w'.cell? ⟨pb,5,none⟩=some (.int .i64 f3)∧w'.cell? ⟨pb,9,none⟩=some (.int .i64 h1)∧w'.cell? ⟨pb,10,none⟩=some (.int .i64 h2)∧w'.cell? ⟨pb,11,none⟩=some (.int .i64 h3)) (go_keep) (first
   |(go_at_call 53;((with_reducible refine(Df w (a1:=x1) (a2:=y1) (a3:=z1) (b1:=x2) (b2:=y2) (b3:=z2)).mono ?_);rintro e wn ⟨x3,y3,z3,k3,H3,rfl,hS⟩;replace hC:=hS.rd;simp only[Zr,Zq,Zy] at hC))
   |(go_at_call 49;((with_reducible refine(Rz w (a1:=d1) (a2:=d2) (a3:=d3) (b1:=h1) (b2:=h2) (b3:=h3)).mono ?_);rintro e wn ⟨x2,y2,z2,k2,H2,rfl,hS⟩;replace hC:=hS.rd;simp only[Zr,Zq,Zy] at hC))
   |(go_at_call 49;((with_reducible refine(Rz w (a1:=c1) (a2:=c2) (a3:=c3) (b1:=f1) (b2:=f2) (b3:=f3)).mono ?_);rintro e wn ⟨x1,y1,z1,k1,H1,rfl,hS⟩;replace hC:=hS.rd;simp only[Zr,Zq,Zy] at hC)))
 go_wp2;have hf:Xd ⟨c1,c2,c3⟩ ⟨f1,f2,f3⟩ ⟨d1,d2,d3⟩ ⟨h1,h2,h3⟩=(⟨x3,y3,z3⟩,k3):=by
  unfold Xd;rw[←H1.out,←H2.out];exact H3.out.symm
 have hg:(bad|| !k1|| !k2|| !k3)=(bad|| !k3):=by
  rw[hf,←H1.out,←H2.out] at hfo;exact hfo
 have hb:=hS.sum;rw[hg] at hb;rw[hf];clear hf hg hfo H1 H2 H3;refine Zu (v:= .agg #[x3,y3,z3]) ?_ rfl ⟨rfl,?_,?_⟩
 ·simp[results,results169,go_sem,hC]
 ·repeat' (first
  |exact hS.sm
  |refine Sm.setNew ?_ (by simp) _)
 ·repeat' (first
  |exact hb
  |refine Box.far ?_ (by simp;omega) _)
end
section
open Go.RowKit

theorem Ht{W w:World}{bs ps pa pb:Nat}{bad:Bool}{r:Nat×TypeId×Av}{L:Xx}{a1 a2 a3 b1 b2 b3 c1 c2 c3 d1 d2 d3 e1 e2 e3 f1 f2 f3 g1 g2 g3 h1 h2 h3 x y z:Int}{k:Bool}(hB:Zl W w bs bad ((ps,90,#[.pointer (some ⟨bs,0,none⟩)])::r::(pb,79,#[e1,e2,e3,f1,f2,f3,g1,g2,g3,h1,h2,h3])::(pa,79,#[a1,a2,a3,b1,b2,b3,c1,c2,c3,d1,d2,d3])::L))(hr:Xd ⟨a1,a2,a3⟩ ⟨e1,e2,e3⟩ ⟨b1,b2,b3⟩ ⟨g1,g2,g3⟩=(⟨x,y,z⟩,k)):
    Calls prog 169 #[oo,oo, .pointer (some ⟨ps,0,none⟩), .pointer (some ⟨pa,0,none⟩), .pointer (some ⟨pb,0,none⟩)] w fun e w'=>e= .returned (.agg #[x,y,z])∧Zl W w' bs (bad|| !k) ((ps,90,#[.pointer (some ⟨bs,0,none⟩)])::r::(pb,79,#[e1,e2,e3,f1,f2,f3,g1,g2,g3,h1,h2,h3])::(pa,79,#[a1,a2,a3,b1,b2,b3,c1,c2,c3,d1,d2,d3])::L)∧Sm bs w w':=
  Nz hB (Zpt bs bad ⟨a1,a2,a3⟩ ⟨b1,b2,b3⟩ ⟨c1,c2,c3⟩ ⟨d1,d2,d3⟩ ⟨e1,e2,e3⟩ ⟨f1,f2,f3⟩ ⟨g1,g2,g3⟩ ⟨h1,h2,h3⟩ ps pa pb w hB.sum hB.boxes.1 hB.boxes.2.2.2.1 hB.boxes.2.2.1 (hB.far _ (.head _)) (hB.far _ (.tail _ (.tail _ (.tail _ (.head _))))) (hB.far _ (.tail _ (.tail _ (.head _))))) hr
theorem Hs{W w:World}{bs ps pa pb:Nat}{bad:Bool}{r:Nat×TypeId×Av}{L:Xx}{a1 a2 a3 b1 b2 b3 c1 c2 c3 d1 d2 d3 e1 e2 e3 f1 f2 f3 g1 g2 g3 h1 h2 h3 x y z:Int}{k:Bool}(hB:Zl W w bs bad ((ps,90,#[.pointer (some ⟨bs,0,none⟩)])::r::(pb,79,#[e1,e2,e3,f1,f2,f3,g1,g2,g3,h1,h2,h3])::(pa,79,#[a1,a2,a3,b1,b2,b3,c1,c2,c3,d1,d2,d3])::L))(hr:Xd ⟨a1,a2,a3⟩ ⟨f1,f2,f3⟩ ⟨b1,b2,b3⟩ ⟨h1,h2,h3⟩=(⟨x,y,z⟩,k)):
    Calls prog 169 #[oo, .int .i64 1, .pointer (some ⟨ps,0,none⟩), .pointer (some ⟨pa,0,none⟩), .pointer (some ⟨pb,0,none⟩)] w fun e w'=>e= .returned (.agg #[x,y,z])∧Zl W w' bs (bad|| !k) ((ps,90,#[.pointer (some ⟨bs,0,none⟩)])::r::(pb,79,#[e1,e2,e3,f1,f2,f3,g1,g2,g3,h1,h2,h3])::(pa,79,#[a1,a2,a3,b1,b2,b3,c1,c2,c3,d1,d2,d3])::L)∧Sm bs w w':=
  Nz hB (Zps bs bad ⟨a1,a2,a3⟩ ⟨b1,b2,b3⟩ ⟨c1,c2,c3⟩ ⟨d1,d2,d3⟩ ⟨e1,e2,e3⟩ ⟨f1,f2,f3⟩ ⟨g1,g2,g3⟩ ⟨h1,h2,h3⟩ ps pa pb w hB.sum hB.boxes.1 hB.boxes.2.2.2.1 hB.boxes.2.2.1 (hB.far _ (.head _)) (hB.far _ (.tail _ (.tail _ (.tail _ (.head _))))) (hB.far _ (.tail _ (.tail _ (.head _))))) hr
theorem Hr{W w:World}{bs ps pa pb:Nat}{bad:Bool}{r:Nat×TypeId×Av}{L:Xx}{a1 a2 a3 b1 b2 b3 c1 c2 c3 d1 d2 d3 e1 e2 e3 f1 f2 f3 g1 g2 g3 h1 h2 h3 x y z:Int}{k:Bool}(hB:Zl W w bs bad ((ps,90,#[.pointer (some ⟨bs,0,none⟩)])::r::(pb,79,#[e1,e2,e3,f1,f2,f3,g1,g2,g3,h1,h2,h3])::(pa,79,#[a1,a2,a3,b1,b2,b3,c1,c2,c3,d1,d2,d3])::L))(hr:Xd ⟨c1,c2,c3⟩ ⟨e1,e2,e3⟩ ⟨d1,d2,d3⟩ ⟨g1,g2,g3⟩=(⟨x,y,z⟩,k)):
    Calls prog 169 #[.int .i64 1,oo, .pointer (some ⟨ps,0,none⟩), .pointer (some ⟨pa,0,none⟩), .pointer (some ⟨pb,0,none⟩)] w fun e w'=>e= .returned (.agg #[x,y,z])∧Zl W w' bs (bad|| !k) ((ps,90,#[.pointer (some ⟨bs,0,none⟩)])::r::(pb,79,#[e1,e2,e3,f1,f2,f3,g1,g2,g3,h1,h2,h3])::(pa,79,#[a1,a2,a3,b1,b2,b3,c1,c2,c3,d1,d2,d3])::L)∧Sm bs w w':=
  Nz hB (Zpr bs bad ⟨a1,a2,a3⟩ ⟨b1,b2,b3⟩ ⟨c1,c2,c3⟩ ⟨d1,d2,d3⟩ ⟨e1,e2,e3⟩ ⟨f1,f2,f3⟩ ⟨g1,g2,g3⟩ ⟨h1,h2,h3⟩ ps pa pb w hB.sum hB.boxes.1 hB.boxes.2.2.2.1 hB.boxes.2.2.1 (hB.far _ (.head _)) (hB.far _ (.tail _ (.tail _ (.tail _ (.head _))))) (hB.far _ (.tail _ (.tail _ (.head _))))) hr
theorem Hq{W w:World}{bs ps pa pb:Nat}{bad:Bool}{r:Nat×TypeId×Av}{L:Xx}{a1 a2 a3 b1 b2 b3 c1 c2 c3 d1 d2 d3 e1 e2 e3 f1 f2 f3 g1 g2 g3 h1 h2 h3 x y z:Int}{k:Bool}(hB:Zl W w bs bad ((ps,90,#[.pointer (some ⟨bs,0,none⟩)])::r::(pb,79,#[e1,e2,e3,f1,f2,f3,g1,g2,g3,h1,h2,h3])::(pa,79,#[a1,a2,a3,b1,b2,b3,c1,c2,c3,d1,d2,d3])::L))(hr:Xd ⟨c1,c2,c3⟩ ⟨f1,f2,f3⟩ ⟨d1,d2,d3⟩ ⟨h1,h2,h3⟩=(⟨x,y,z⟩,k)):
    Calls prog 169 #[.int .i64 1, .int .i64 1, .pointer (some ⟨ps,0,none⟩), .pointer (some ⟨pa,0,none⟩), .pointer (some ⟨pb,0,none⟩)] w fun e w'=>e= .returned (.agg #[x,y,z])∧Zl W w' bs (bad|| !k) ((ps,90,#[.pointer (some ⟨bs,0,none⟩)])::r::(pb,79,#[e1,e2,e3,f1,f2,f3,g1,g2,g3,h1,h2,h3])::(pa,79,#[a1,a2,a3,b1,b2,b3,c1,c2,c3,d1,d2,d3])::L)∧Sm bs w w':=
  Nz hB (Zpq bs bad ⟨a1,a2,a3⟩ ⟨b1,b2,b3⟩ ⟨c1,c2,c3⟩ ⟨d1,d2,d3⟩ ⟨e1,e2,e3⟩ ⟨f1,f2,f3⟩ ⟨g1,g2,g3⟩ ⟨h1,h2,h3⟩ ps pa pb w hB.sum hB.boxes.1 hB.boxes.2.2.2.1 hB.boxes.2.2.1 (hB.far _ (.head _)) (hB.far _ (.tail _ (.tail _ (.tail _ (.head _))))) (hB.far _ (.tail _ (.tail _ (.head _))))) hr
theorem Ztz{a b c d:Bool}(h:(a&&b&&c&&d)=false):((((false|| !true)|| !a)|| !b)|| !c|| !d)=true:=by
  cases a<;>cases b<;>cases c<;>cases d<;>first|rfl|cases h
theorem Zpp(a b c d:Bool):((((false|| !false)|| !a)|| !b)|| !c|| !d)=true:=by simp
theorem Tp(x y:M4)(w:World):Calls prog 92 #[x.v,y.v] w (fun e w'=>e= .returned (m4v (Yi x y))∧Ex w w'):=by
  have kx:=fun w=>Ix x w
  have ky:=fun w=>Ix y w
  unfold Yi Nn;generalize x.valid=vx at*;generalize y.valid=vy at*;obtain⟨⟨a1,a2,a3⟩,⟨b1,b2,b3⟩,⟨c1,c2,c3⟩,⟨d1,d2,d3⟩⟩:=x;obtain⟨⟨e1,e2,e3⟩,⟨f1,f2,f3⟩,⟨g1,g2,g3⟩,⟨h1,h2,h3⟩⟩:=y;simp only[M4.v] at kx ky ⊢;rcases hss:(Xd ⟨a1,a2,a3⟩ ⟨e1,e2,e3⟩ ⟨b1,b2,b3⟩ ⟨g1,g2,g3⟩) with⟨⟨s1,s2,s3⟩,sk⟩;rcases htt:(Xd ⟨a1,a2,a3⟩ ⟨f1,f2,f3⟩ ⟨b1,b2,b3⟩ ⟨h1,h2,h3⟩) with⟨⟨t1,t2,t3⟩,tk⟩;rcases huu:(Xd ⟨c1,c2,c3⟩ ⟨e1,e2,e3⟩ ⟨d1,d2,d3⟩ ⟨g1,g2,g3⟩) with⟨⟨u1,u2,u3⟩,uk⟩;rcases hvv:(Xd ⟨c1,c2,c3⟩ ⟨f1,f2,f3⟩ ⟨d1,d2,d3⟩ ⟨h1,h2,h3⟩) with⟨⟨v1,v2,v3⟩,vk⟩;simp only;rcases vx with _|_
  · simp only[m4v,M4.v,M4.none,Fr.none,Bool.false_and,Bool.and_false,Bool.false_eq_true,if_false];have HS:=Zz hss;have HT:=Zz htt;have HU:=Zz huu;have HV:=Zz hvv;clear hss htt huu hvv;have KX:=Zz kx;have KY:=Zz ky;clear kx ky;obtain⟨hS,hC⟩:=s0 w;go_in;go_wp2_with (first|((with_reducible apply Zl.see w;first|exact KX.out _|exact KY.out _);clear hS hC;intro wn hS hC;(try simp only[Zy] at hS hC);simp only[Zr,Zq] at hC)|(go_at_call 46;(with_reducible refine(Uc w).mono ?_);rintro e wn ⟨rfl,hS⟩;have hC:=hS.rd;simp only[Zr,Zq] at hC));refine Ux (fun b w'=>Zl w w' _ b _) 11 _ (by kernel_rfl) ((Zl.alloc (h:=hS)).drewW) (by exact fun _ _ _ _ _ h=>h) ?_;repeat (first
      | (apply Zp
         · rfl
         · intro b wb hB Q1 hQ1;have hS:=hB;have hC:=hS.rd;simp only[Zr,Zq] at hC;go_wp2_with fail;exact hQ1 _ trivial hB
         · exact⟨_,rfl⟩)
      | (apply Zi
         · rfl
         · intro b wb hB Q1 hQ1;have hS:=hB;have hC:=hS.rd;simp only[Zr,Zq] at hC;go_wp2_with (first|((with_reducible refine(Ht hB HS.out).mono ?_);rintro e wn ⟨rfl,hN,hM⟩)|((with_reducible refine(Hs hB HT.out).mono ?_);rintro e wn ⟨rfl,hN,hM⟩)|((with_reducible refine(Hr hB HU.out).mono ?_);rintro e wn ⟨rfl,hN,hM⟩)|((with_reducible refine(Hq hB HV.out).mono ?_);rintro e wn ⟨rfl,hN,hM⟩));exact hQ1 _ trivial hN
         · exact⟨_,rfl⟩))
    refine Zn ?_;intro wz hz;rw[Zpp] at hz;go_wp2_with ((with_reducible refine(Rx _ _ _ _ _ _ _ _ _ _ _ _ _ _ hz.sum).mono ?_);rintro e wn ⟨rfl,hx⟩;have hS:=Zl.ex hz hx;have hC:=hS.rd;simp only[Zr,Zq] at hC;have hE:=hS.rel (by omega));have:=Exi.mk hE
    exact Yp (by simp[results,results92,go_sem,hC]) rfl
  · rcases vy with _|_
    · simp only[m4v,M4.v,M4.none,Fr.none,Bool.false_and,Bool.and_false,Bool.false_eq_true,if_false];have HS:=Zz hss;have HT:=Zz htt;have HU:=Zz huu;have HV:=Zz hvv;clear hss htt huu hvv;have KX:=Zz kx;have KY:=Zz ky;clear kx ky;obtain⟨hS,hC⟩:=s0 w;go_in;go_wp2_with (first|((with_reducible apply Zl.see w;first|exact KX.out _|exact KY.out _);clear hS hC;intro wn hS hC;(try simp only[Zy] at hS hC);simp only[Zr,Zq] at hC)|(go_at_call 46;(with_reducible refine(Uc w).mono ?_);rintro e wn ⟨rfl,hS⟩;have hC:=hS.rd;simp only[Zr,Zq] at hC));refine Ux (fun b w'=>Zl w w' _ b _) 11 _ (by kernel_rfl) ((Zl.alloc (h:=hS)).drewW) (by exact fun _ _ _ _ _ h=>h) ?_;repeat (first
        | (apply Zp
           · rfl
           · intro b wb hB Q1 hQ1;have hS:=hB;have hC:=hS.rd;simp only[Zr,Zq] at hC;go_wp2_with fail;exact hQ1 _ trivial hB
           · exact⟨_,rfl⟩)
        | (apply Zi
           · rfl
           · intro b wb hB Q1 hQ1;have hS:=hB;have hC:=hS.rd;simp only[Zr,Zq] at hC;go_wp2_with (first|((with_reducible refine(Ht hB HS.out).mono ?_);rintro e wn ⟨rfl,hN,hM⟩)|((with_reducible refine(Hs hB HT.out).mono ?_);rintro e wn ⟨rfl,hN,hM⟩)|((with_reducible refine(Hr hB HU.out).mono ?_);rintro e wn ⟨rfl,hN,hM⟩)|((with_reducible refine(Hq hB HV.out).mono ?_);rintro e wn ⟨rfl,hN,hM⟩));exact hQ1 _ trivial hN
           · exact⟨_,rfl⟩))
      refine Zn ?_;intro wz hz;rw[Zpp] at hz;go_wp2_with ((with_reducible refine(Rx _ _ _ _ _ _ _ _ _ _ _ _ _ _ hz.sum).mono ?_);rintro e wn ⟨rfl,hx⟩;have hS:=Zl.ex hz hx;have hC:=hS.rd;simp only[Zr,Zq] at hC;have hE:=hS.rel (by omega));have:=Exi.mk hE
      exact Yp (by simp[results,results92,go_sem,hC]) rfl
    · rcases hK:(sk&&tk&&uk&&vk) with _|_
      all_goals
        first|(have HK:=Zz (Ztz hK);(have e:(true&&true&&sk&&tk&&uk&&vk)=false:=by rw[Bool.and_self,Bool.true_and];exact hK);rw[e];simp only[m4v,M4.v,M4.none,Fr.none,Bool.false_eq_true,if_false];clear e hK)|(simp only[Bool.and_eq_true] at hK;obtain⟨⟨⟨rfl,rfl⟩,rfl⟩,rfl⟩:=hK;simp only[m4v,M4.v,Bool.and_self,if_true])
        have HS:=Zz hss;have HT:=Zz htt;have HU:=Zz huu;have HV:=Zz hvv;clear hss htt huu hvv;have KX:=Zz kx;have KY:=Zz ky;clear kx ky;obtain⟨hS,hC⟩:=s0 w;go_in;go_wp2_with (first|((with_reducible apply Zl.see w;first|exact KX.out _|exact KY.out _);clear hS hC;intro wn hS hC;(try simp only[Zy] at hS hC);simp only[Zr,Zq] at hC)|(go_at_call 46;(with_reducible refine(Uc w).mono ?_);rintro e wn ⟨rfl,hS⟩;have hC:=hS.rd;simp only[Zr,Zq] at hC));refine Ux (fun b w'=>Zl w w' _ b _) 11 _ (by kernel_rfl) ((Zl.alloc (h:=hS)).drewW) (by exact fun _ _ _ _ _ h=>h) ?_;repeat (first
          | (apply Zp
             · rfl
             · intro b wb hB Q1 hQ1;have hS:=hB;have hC:=hS.rd;simp only[Zr,Zq] at hC;go_wp2_with fail;exact hQ1 _ trivial hB
             · exact⟨_,rfl⟩)
          | (apply Zi
             · rfl
             · intro b wb hB Q1 hQ1;have hS:=hB;have hC:=hS.rd;simp only[Zr,Zq] at hC;go_wp2_with (first|((with_reducible refine(Ht hB HS.out).mono ?_);rintro e wn ⟨rfl,hN,hM⟩)|((with_reducible refine(Hs hB HT.out).mono ?_);rintro e wn ⟨rfl,hN,hM⟩)|((with_reducible refine(Hr hB HU.out).mono ?_);rintro e wn ⟨rfl,hN,hM⟩)|((with_reducible refine(Hq hB HV.out).mono ?_);rintro e wn ⟨rfl,hN,hM⟩));exact hQ1 _ trivial hN
             · exact⟨_,rfl⟩))
        refine Zn ?_;intro wz hz
      · rw[HK.out] at hz;go_wp2_with ((with_reducible refine(Rx _ _ _ _ _ _ _ _ _ _ _ _ _ _ hz.sum).mono ?_);rintro e wn ⟨rfl,hx⟩;have hS:=Zl.ex hz hx;have hC:=hS.rd;simp only[Zr,Zq] at hC;have hE:=hS.rel (by omega));have:=Exi.mk hE
        exact Yp (by simp[results,results92,go_sem,hC]) rfl
      · replace hz:Zl w wz _ false _:=hz;go_wp2_with ((with_reducible refine(Lp _ _ _ _ _ _ _ _ _ _ _ _ _ _ hz.sum).mono ?_);rintro e wn ⟨rfl,hx⟩;have hS:=Zl.ex hz hx;have hC:=hS.rd;simp only[Zr,Zq] at hC;have hE:=hS.rel (by omega));have:=Exi.mk hE
        exact Yp (by simp[results,results92,go_sem,hC]) rfl
theorem Zdq{a b c d:Bool}(h:(a&&b&&c&&d)=false):((((false|| !a)|| !b)|| !c)|| !d)=true:=by
  cases a<;>cases b<;>cases c<;>cases d<;>first|rfl|cases h
theorem Pz(x:M4)(w:World):Calls prog 93 #[x.v] w (fun e w'=>e= .returned (m4v (Tx x))∧Ex w w'):=by
  unfold Tx Nn;obtain⟨⟨a1,a2,a3⟩,⟨b1,b2,b3⟩,⟨c1,c2,c3⟩,⟨d1,d2,d3⟩⟩:=x;simp only[M4.v];rcases hss:Yq ⟨a1,a2,a3⟩ with⟨⟨s1,s2,s3⟩,sk⟩;rcases htt:Yq ⟨c1,c2,c3⟩ with⟨⟨t1,t2,t3⟩,tk⟩;rcases huu:Yq ⟨b1,b2,b3⟩ with⟨⟨u1,u2,u3⟩,uk⟩;rcases hvv:Yq ⟨d1,d2,d3⟩ with⟨⟨v1,v2,v3⟩,vk⟩;simp only;rcases hK:(sk&&tk&&uk&&vk) with _|_
  all_goals
    first|(have HK:=Zz (Zdq hK);(have e:(true&&sk&&tk&&uk&&vk)=false:=by rw[Bool.true_and];exact hK);rw[e];simp only[m4v,M4.v,M4.none,Fr.none,Bool.false_eq_true,if_false];clear e hK)|(simp only[Bool.and_eq_true] at hK;obtain⟨⟨⟨rfl,rfl⟩,rfl⟩,rfl⟩:=hK;simp only[m4v,M4.v,Bool.and_self,if_true])
    have HS:=Zz hss;have HT:=Zz htt;have HU:=Zz huu;have HV:=Zz hvv;clear hss htt huu hvv;obtain⟨hS,hC⟩:=s0 w;go_in;go_wp2_with fail;refine Ux (fun b w'=>Zl w w' (w.heap.size+1+1) b [(w.heap.size+1,79,Oc),(w.heap.size,79,#[a1,a2,a3,b1,b2,b3,c1,c2,c3,d1,d2,d3])]) 23 false (by kernel_rfl) (Zl.drewW (Zl.cast (by simp only[Zy]) (by simp only[Zy]))) (by exact fun _ _ _ _ _ h=>h) ?_;repeat (first
      | (apply Zp
         · rfl
         · intro b wb hB Q1 hQ1;have hS:=hB;have hC:=hS.rd;simp only[Zr,Zq] at hC;go_wp2_with fail;exact hQ1 _ trivial hB
         · exact⟨_,rfl⟩)
      | (apply Zi
         · rfl
         · intro b wb hB Q1 hQ1;have hS:=hB;have hC:=hS.rd;simp only[Zr,Zq] at hC;go_wp2_with (first|((with_reducible refine(Qv hB HS.out).mono ?_);rintro e wn ⟨rfl,hN,hM⟩)|((with_reducible refine(Qv hB HT.out).mono ?_);rintro e wn ⟨rfl,hN,hM⟩)|((with_reducible refine(Qv hB HU.out).mono ?_);rintro e wn ⟨rfl,hN,hM⟩)|((with_reducible refine(Qv hB HV.out).mono ?_);rintro e wn ⟨rfl,hN,hM⟩));exact hQ1 _ trivial hN
         · exact⟨_,rfl⟩))
    refine Zn ?_;intro wz hz
  · rw[HK.out] at hz;go_wp2_with ((with_reducible refine(Rx _ _ _ _ _ _ _ _ _ _ _ _ _ _ hz.sum).mono ?_);rintro e wn ⟨rfl,hx⟩;have hS:=Zl.ex hz hx;have hC:=hS.rd;simp only[Zr,Zq] at hC;have hE:=hS.rel (by omega));have:=Exi.mk hE
    exact Yp (by simp[results,results93,go_sem,hC]) rfl
  · replace hz:Zl w wz _ false _:=hz;go_wp2_with ((with_reducible refine(Lp _ _ _ _ _ _ _ _ _ _ _ _ _ _ hz.sum).mono ?_);rintro e wn ⟨rfl,hx⟩;have hS:=Zl.ex hz hx;have hC:=hS.rd;simp only[Zr,Zq] at hC;have hE:=hS.rel (by omega));have:=Exi.mk hE
    exact Yp (by simp[results,results93,go_sem,hC]) rfl
end
section
open Go.RowKit

attribute [local go_sem] Zg Zf
theorem Zkr(f1 f2 f3:Int)(h1: -2000000000≤f1∧f1≤2000000000)(h2: -2000000000≤f2∧f2≤2000000000)(w:World):Calls prog 168 #[.agg #[f1,f2,f3]] w (fun e w'=>e= .returned (.agg #[(-f1:Int),(-f2:Int),f3])∧Ex w w'):=by
 have w1:=Zt (-f1) (by omega);have w2:=Zt (-f2) (by omega);obtain⟨hS,hC⟩:=s0 w;go_in;go_wp2;exact Yp (by simp[results,results168,go_sem,hC]) rfl
theorem Ru(p q:Int)(w:World):Calls prog 91 #[p,q] w (fun e w'=>e= .returned (m4v (Xu p q))∧Ex w w'):=by
 have kd:=fun w=>Sf p q w
 rcases h:Wl p q with _|_
 ·have e:Xu p q=(M4.none,false):=by simp[Xu,h]
  rw[e];simp only[Rf,h,Bool.false_eq_true,if_false,Fr.none,Fr.v] at kd;simp only[m4v,M4.v,M4.none,Fr.none];clear e h;have KD:=Zz kd;clear kd;obtain⟨hS,hC⟩:=s0 w;go_in;go_wp2_with ((with_reducible apply Zo.see w;exact KD.out _);clear hS hC;intro w1 hS hC;simp only[Zr,Zq,Zy] at hC);exact Yp (by simp[results,results91,go_sem,hC]) rfl
 ·have e:Xu p q=(⟨Tm p q,Kp (Tl p q),Tl p q,Tm p q⟩,true):=by simp[Xu,h]
  rw[e];simp only[Rf,h,if_true] at kd;obtain⟨-,v2, -,i2⟩:=Zhp h;generalize Tm p q=c at*;generalize Tl p q=s at*;obtain⟨c1,c2,c3⟩:=c;obtain⟨s1,s2,s3⟩:=s;obtain⟨q1,q2, -, -⟩:=Fr.valid_out v2;simp only at q1 q2;have ko:=fun w=>Zkr s1 s2 s3 q1 q2 w
  simp only[Fr.v] at kd;simp only[m4v,M4.v,Kp];clear e h v2 i2;have KD:=Zz kd;have KO:=Zz ko;clear kd ko;obtain⟨hS,hC⟩:=s0 w;go_in;go_wp2_with ((with_reducible apply Zo.see w;exact KD.out _);clear hS hC;intro w1 hS hC;simp only[Zr,Zq,Zy] at hC);refine Ux (fun _ w'=>Zo w w' [(w1.heap.size+1,30,#[s1,s2,s3]),(w1.heap.size,30,#[c1,c2,c3]),(w.heap.size,79,Oc)]) 7 false (by kernel_rfl) (Zo.drewW (Zo.cast (by simp only[Zy]))) (by exact fun _ _ _ _ _ h=>h) ?_;iterate 2 (apply Zp;rfl;intro b u B Q q;have hS:=B;have hC:=hS.rd;simp only[Zr,Zq] at hC;go_wp2;exact q _ trivial B;exact⟨_,rfl⟩)
  (apply Zp;rfl;intro b u B Q q;go_wp2_with (with_reducible refine Yw (KO.out _) fun wn hx=>?_);exact q _ trivial (B.go hx);exact⟨_,rfl⟩);iterate 4 (apply Zp;rfl;intro b u B Q q;have hS:=B;have hC:=hS.rd;simp only[Zr,Zq] at hC;go_wp2;exact q _ trivial B;exact⟨_,rfl⟩)
  refine Zn ?_;intro wz hz;have hS:=hz;have hC:=hS.rd;simp only[Zr,Zq] at hC;clear hz;go_wp2_with fail;exact Yp (by simp[results,results91,go_sem,hC]) rfl
theorem Cl(p q:Int)(w:World):Calls prog 38 #[p,q] w (fun e w'=>e= .returned (m4v (Ww p q))∧Ex w w'):=by
 have kd:=fun w=>Sf p q w
 rcases h:Wl p q with _|_
 ·have e:Ww p q=(M4.none,false):=by simp[Ww,h]
  rw[e];simp only[Rf,h,Bool.false_eq_true,if_false,Fr.none,Fr.v] at kd;simp only[m4v,M4.v,M4.none,Fr.none];clear e h;have HZ:Hid (Zk ⟨0,0,0⟩ ⟨0,0,0⟩=(⟨0,0,0⟩,false)):=Zz (by decide);have KD:=Zz kd;clear kd;obtain⟨hS,hC⟩:=s0 w;go_in;go_wp2_with (first|((with_reducible apply Zo.see w;exact KD.out _);clear hS hC;intro w1 hS hC;simp only[Zr,Zq,Zy] at hC)|(go_at_call 46;(with_reducible refine(Uc w (h:=Zl.cast (by simp only[Zy]) rfl)).mono ?_);rintro e wn ⟨rfl,hS⟩;(try simp only[Zy] at hS);have hC:=hS.rd;simp only[Zr,Zq] at hC));refine Ux (fun b w'=>Zl w w' _ b _) 19 _ (by kernel_rfl) (hS.drewW) (by exact fun _ _ _ _ _ h=>h) ?_;iterate 4 (apply Zp;rfl;intro b u B Q q;have hS:=B;have hC:=hS.rd;simp only[Zr,Zq] at hC;go_wp2;exact q _ trivial B;exact⟨_,rfl⟩)
  (apply Zi;rfl;intro b u B Q q;go_wp2_with ((with_reducible refine(Ye B HZ.out).mono ?_);rintro e wn ⟨rfl,hN,hM⟩);exact q _ trivial hN;exact⟨_,rfl⟩);iterate 3 (apply Zp;rfl;intro b u B Q q;have hS:=B;have hC:=hS.rd;simp only[Zr,Zq] at hC;go_wp2;exact q _ trivial B;exact⟨_,rfl⟩)
  (apply Zi;rfl;intro b u B Q q;go_wp2_with ((with_reducible refine(Ye B HZ.out).mono ?_);rintro e wn ⟨rfl,hN,hM⟩);exact q _ trivial hN;exact⟨_,rfl⟩);iterate 3 (apply Zp;rfl;intro b u B Q q;have hS:=B;have hC:=hS.rd;simp only[Zr,Zq] at hC;go_wp2;exact q _ trivial B;exact⟨_,rfl⟩)
  (apply Zi;rfl;intro b u B Q q;go_wp2_with ((with_reducible refine(Ye B HZ.out).mono ?_);rintro e wn ⟨rfl,hN,hM⟩);exact q _ trivial hN;exact⟨_,rfl⟩);iterate 3 (apply Zp;rfl;intro b u B Q q;have hS:=B;have hC:=hS.rd;simp only[Zr,Zq] at hC;go_wp2;exact q _ trivial B;exact⟨_,rfl⟩)
  (apply Zi;rfl;intro b u B Q q;go_wp2_with ((with_reducible refine(Ye B HZ.out).mono ?_);rintro e wn ⟨rfl,hN,hM⟩);exact q _ trivial hN;exact⟨_,rfl⟩);iterate 2 (apply Zp;rfl;intro b u B Q q;go_wp2;exact q _ trivial B;exact⟨_,rfl⟩)
  refine Zn ?_;intro wz hz;rw[Zpp] at hz;go_wp2_with ((with_reducible refine(Rx _ _ _ _ _ _ _ _ _ _ _ _ _ _ hz.sum).mono ?_);rintro e wn ⟨rfl,hx⟩;have hS:=Zl.ex hz hx;have hC:=hS.rd;simp only[Zr,Zq] at hC;have hE:=hS.rel (by omega));have:=Exi.mk hE
  exact Yp (by simp[results,results38,go_sem,hC]) rfl
 ·have e:Ww p q=Nn (Zk (Tm p q) (Tm p q)) (Zk (Tm p q) (Tl p q)) (Zk (Tm p q) (Tl p q)) (Zk (Tl p q) (Tl p q)) true:=by simp[Ww,h]
  rw[e];unfold Nn;simp only[Rf,h,if_true] at kd;clear e h;generalize Tm p q=c at*;generalize Tl p q=d at*;obtain⟨c1,c2,c3⟩:=c;obtain⟨d1,d2,d3⟩:=d;rcases hss:Zk ⟨c1,c2,c3⟩ ⟨c1,c2,c3⟩ with⟨⟨s1,s2,s3⟩,sk⟩;rcases htt:Zk ⟨c1,c2,c3⟩ ⟨d1,d2,d3⟩ with⟨⟨t1,t2,t3⟩,tk⟩;rcases huu:Zk ⟨d1,d2,d3⟩ ⟨d1,d2,d3⟩ with⟨⟨u1,u2,u3⟩,uk⟩;simp only[Fr.v] at kd;rcases hK:(sk&&tk&&tk&&uk) with _|_
  all_goals
   first|(have HK:=Zz (Ztz hK);(have e:(true&&sk&&tk&&tk&&uk)=false:=by rw[Bool.true_and];exact hK);rw[e];simp only[m4v,M4.v,M4.none,Fr.none,Bool.false_eq_true,if_false];clear e hK)|(simp only[Bool.and_eq_true] at hK;obtain⟨⟨⟨rfl,rfl⟩, -⟩,rfl⟩:=hK;simp only[m4v,M4.v,Bool.and_self,if_true])
   have KD:=Zz kd;have HSS:=Zz hss;have HTT:=Zz htt;have HUU:=Zz huu;clear kd hss htt huu;obtain⟨hS,hC⟩:=s0 w;go_in;go_wp2_with (first|((with_reducible apply Zo.see w;exact KD.out _);clear hS hC;intro w1 hS hC;simp only[Zr,Zq,Zy] at hC)|(go_at_call 46;(with_reducible refine(Uc w (h:=Zl.cast (by simp only[Zy]) rfl)).mono ?_);rintro e wn ⟨rfl,hS⟩;(try simp only[Zy] at hS);have hC:=hS.rd;simp only[Zr,Zq] at hC));refine Ux (fun b w'=>Zl w w' _ b _) 19 _ (by kernel_rfl) (hS.drewW) (by exact fun _ _ _ _ _ h=>h) ?_;iterate 4 (apply Zp;rfl;intro b u B Q q;have hS:=B;have hC:=hS.rd;simp only[Zr,Zq] at hC;go_wp2;exact q _ trivial B;exact⟨_,rfl⟩)
   (apply Zi;rfl;intro b u B Q q;go_wp2_with ((with_reducible refine(Ye B HSS.out).mono ?_);rintro e wn ⟨rfl,hN,hM⟩);exact q _ trivial hN;exact⟨_,rfl⟩);iterate 3 (apply Zp;rfl;intro b u B Q q;have hS:=B;have hC:=hS.rd;simp only[Zr,Zq] at hC;go_wp2;exact q _ trivial B;exact⟨_,rfl⟩)
   (apply Zi;rfl;intro b u B Q q;go_wp2_with ((with_reducible refine(Ye B HTT.out).mono ?_);rintro e wn ⟨rfl,hN,hM⟩);exact q _ trivial hN;exact⟨_,rfl⟩);iterate 3 (apply Zp;rfl;intro b u B Q q;have hS:=B;have hC:=hS.rd;simp only[Zr,Zq] at hC;go_wp2;exact q _ trivial B;exact⟨_,rfl⟩)
   (apply Zi;rfl;intro b u B Q q;go_wp2_with ((with_reducible refine(Ye B HTT.out).mono ?_);rintro e wn ⟨rfl,hN,hM⟩);exact q _ trivial hN;exact⟨_,rfl⟩);iterate 3 (apply Zp;rfl;intro b u B Q q;have hS:=B;have hC:=hS.rd;simp only[Zr,Zq] at hC;go_wp2;exact q _ trivial B;exact⟨_,rfl⟩)
   (apply Zi;rfl;intro b u B Q q;go_wp2_with ((with_reducible refine(Ye B HUU.out).mono ?_);rintro e wn ⟨rfl,hN,hM⟩);exact q _ trivial hN;exact⟨_,rfl⟩);iterate 2 (apply Zp;rfl;intro b u B Q q;go_wp2;exact q _ trivial B;exact⟨_,rfl⟩)
   refine Zn ?_;intro wz hz
  ·rw[HK.out] at hz;go_wp2_with ((with_reducible refine(Rx _ _ _ _ _ _ _ _ _ _ _ _ _ _ hz.sum).mono ?_);rintro e wn ⟨rfl,hx⟩;have hS:=Zl.ex hz hx;have hC:=hS.rd;simp only[Zr,Zq] at hC;have hE:=hS.rel (by omega));have:=Exi.mk hE
   exact Yp (by simp[results,results38,go_sem,hC]) rfl
  ·replace hz:Zl w wz _ false _:=hz;go_wp2_with ((with_reducible refine(Lp _ _ _ _ _ _ _ _ _ _ _ _ _ _ hz.sum).mono ?_);rintro e wn ⟨rfl,hx⟩;have hS:=Zl.ex hz hx;have hC:=hS.rd;simp only[Zr,Zq] at hC;have hE:=hS.rel (by omega));have:=Exi.mk hE
   exact Yp (by simp[results,results38,go_sem,hC]) rfl
end
section
open Go.RowKit

attribute [local go_sem] Zg Zf
section
variable {W w:World} {bs:Nat} {b:Bool} {L:Xx} {a1 a2 a3 b1 b2 b3 x y z s:Int} {k:Bool}
theorem Fh{f:FuncId}{args:Av}{r:Fr×Bool}(hB:Zh W w bs (!b) L)(hc:Calls prog f args w (Vw bs (!b) w r))(hr:r=(⟨x,y,z⟩,k)):
  Calls prog f args w fun e w'=>e= .returned (.agg #[x,y,z])∧Zh W w' bs (!(b|| !k)) L∧SmO bs w w':=by
 subst hr;refine hc.mono ?_;rintro e w' ⟨rfl,hs,hb⟩;refine⟨rfl,?_,hs⟩;rw[Bool.not_or,Bool.not_not];exact hB.call hs hb
theorem Rd(hB:Zh W w bs (!b) L)(hr:Yr ⟨a1,a2,a3⟩ ⟨b1,b2,b3⟩=(⟨x,y,z⟩,k)):Calls prog 176 #[.pointer (some ⟨bs,0,none⟩), .agg #[a1,a2,a3], .agg #[b1,b2,b3]] w fun e w'=>e= .returned (.agg #[x,y,z])∧Zh W w' bs (!(b|| !k)) L∧SmO bs w w':=Fh hB (Zue bs (!b) ⟨a1,a2,a3⟩ ⟨b1,b2,b3⟩ w hB.sum) hr
theorem Fg(hs:s=1∨s= -1)(hB:Zh W w bs (!b) L)(hr:Xr s ⟨a1,a2,a3⟩ ⟨b1,b2,b3⟩=(⟨x,y,z⟩,k)):Calls prog 177 #[.pointer (some ⟨bs,0,none⟩), .agg #[a1,a2,a3],s, .agg #[b1,b2,b3]] w fun e w'=>e= .returned (.agg #[x,y,z])∧Zh W w' bs (!(b|| !k)) L∧SmO bs w w':=Fh hB (Zpu bs (!b) ⟨a1,a2,a3⟩ s ⟨b1,b2,b3⟩ w hB.sum hs) hr
theorem Zbh(hbd: -2000000000≤a1∧a1≤2000000000∧ -2000000000≤a2∧a2≤2000000000∧0≤a3∧a3≤2000000000)(hB:Zh W w bs (!b) L)(hr:Ua ⟨a1,a2,a3⟩ 2 false=(⟨x,y,z⟩,k)):Calls prog 178 #[.pointer (some ⟨bs,0,none⟩), .agg #[a1,a2,a3], .int .i64 2,false] w fun e w'=>e= .returned (.agg #[x,y,z])∧Zh W w' bs (!(b|| !k)) L∧SmO bs w w':=Fh hB (Zud bs (!b) ⟨a1,a2,a3⟩ w hB.sum hbd) hr
end
def Ff(s1 s2 s3:Int)(a b c d:Fr):Fr×Bool:=
 ((Ua (Xr s3 (Xr s2 (Xr s1 (Yr a a).1 (Yr b b).1).1 (Yr c c).1).1 (Yr d d).1).1 2 false).1,
  (Yr a a).2&&(Yr b b).2&&(Xr s1 (Yr a a).1 (Yr b b).1).2&&(Yr c c).2&&(Xr s2 (Xr s1 (Yr a a).1 (Yr b b).1).1 (Yr c c).1).2&&(Yr d d).2&&(Xr s3 (Xr s2 (Xr s1 (Yr a a).1 (Yr b b).1).1 (Yr c c).1).1 (Yr d d).1).2&&(Ua (Xr s3 (Xr s2 (Xr s1 (Yr a a).1 (Yr b b).1).1 (Yr c c).1).1 (Yr d d).1).1 2 false).2)
theorem Zdp{re im den:Int}(h:1≤den): -2000000000≤(flow re im den).1.re∧(flow re im den).1.re≤2000000000∧ -2000000000≤(flow re im den).1.im∧(flow re im den).1.im≤2000000000∧0≤(flow re im den).1.den∧(flow re im den).1.den≤2000000000:=by
 rcases hk:(flow re im den).2 with _|_
 ·rw[De hk];decide
 ·have:=Nk h hk
  obtain⟨⟨p1,p2⟩,⟨p3,p4⟩,⟨p5,p6⟩, -⟩:=Fr.valid_out this;exact⟨p1,p2,p3,p4,by omega,p6⟩
theorem Ng(s:Int)(a b:Fr): -2000000000≤(Xr s a b).1.re∧(Xr s a b).1.re≤2000000000∧ -2000000000≤(Xr s a b).1.im∧(Xr s a b).1.im≤2000000000∧0≤(Xr s a b).1.den∧(Xr s a b).1.den≤2000000000:=by
 unfold Xr;split
 ·rename_i h;rw[Bool.and_eq_true] at h;obtain⟨-, -,⟨ad, -⟩, -⟩:=Fr.valid_out h.1;obtain⟨-, -,⟨bd, -⟩, -⟩:=Fr.valid_out h.2;exact Zdp (by exact Pe ‹_› ‹_›)
 ·decide
theorem Zzt(bs:Nat)(e:Bool)(a b c d:Fr)(s1 s2 s3:Int)(h1:s1=1∨s1= -1)(h2:s2=1∨s2= -1)(h3:s3=1∨s3= -1)(w:World)(hb:Box w bs 155 #[.bool (!e)]):
  Calls prog 111 #[.pointer (some ⟨bs,0,none⟩), .agg #[a.re,a.im,a.den,b.re,b.im,b.den,c.re,c.im,c.den,d.re,d.im,d.den],s1,s2,s3] w (Vw bs (!e) w (Ff s1 s2 s3 a b c d)):=by
 have hbd:=Ng s3 (Xr s2 (Xr s1 (Yr a a).1 (Yr b b).1).1 (Yr c c).1).1 (Yr d d).1;unfold Ff;rcases hx:Yr a a with⟨⟨x1,x2,x3⟩,kx⟩;rcases hp:Yr b b with⟨⟨p1,p2,p3⟩,kp⟩;rcases hq:Yr c c with⟨⟨q1,q2,q3⟩,kq⟩;rcases hr:Yr d d with⟨⟨r1,r2,r3⟩,kr⟩;rw[hx,hp,hq,hr] at hbd;simp only at hbd ⊢;rcases ht:Xr s1 ⟨x1,x2,x3⟩ ⟨p1,p2,p3⟩ with⟨⟨t1,t2,t3⟩,kt⟩;rw[ht] at hbd;simp only at hbd ⊢;rcases hu:Xr s2 ⟨t1,t2,t3⟩ ⟨q1,q2,q3⟩ with⟨⟨u1,u2,u3⟩,ku⟩;rw[hu] at hbd;simp only at hbd ⊢;rcases hv:Xr s3 ⟨u1,u2,u3⟩ ⟨r1,r2,r3⟩ with⟨⟨v1,v2,v3⟩,kv⟩;rw[hv] at hbd;simp only at hbd ⊢;rcases hy:Ua ⟨v1,v2,v3⟩ 2 false with⟨⟨y1,y2,y3⟩,ky⟩;simp only;obtain⟨a1,a2,a3⟩:=a;obtain⟨b1,b2,b3⟩:=b;obtain⟨c1,c2,c3⟩:=c;obtain⟨d1,d2,d3⟩:=d;have HX:=Zz hx;have HP:=Zz hp;have HQ:=Zz hq;have HR:=Zz hr;have HT:=Zz ht;have HU:=Zz hu;have HV:=Zz hv;have HY:=Zz hy;have HBD:=Zz hbd;clear hx hp hq hr ht hu hv hy hbd;unfold Vw;simp only[Fr.v];have hS:=Zh.init hb;have hC:=hS.rd;simp only[Zr,Zq] at hC;have hbl:=hb.lt;have m2:w.heap.size≠bs:=Nat.ne_of_gt hb.lt;go_in;go_wp2_with ((with_reducible refine(Rd (W:=w) (b:=e) (Zh.cast (W:=w) rfl rfl) HX.out).mono ?_);rintro e1 wn ⟨rfl,hS, -⟩;(try simp only[Zy] at hS);replace hC:=hS.rd;simp only[Zr,Zq] at hC);have hl1:=hS.boxes.1.lt;have hl2:=hS.boxes.2.1.lt;have hg0:w.heap.size≤wn.heap.size:=hS.sm.size;have hne0:∀x∈([(w.heap.size+1,30,Oa),(w.heap.size,79,#[a1,a2,a3,b1,b2,b3,c1,c2,c3,d1,d2,d3])]:Xx),x.1≠wn.heap.size:=by
  intro x hx;simp only[List.mem_cons,List.not_mem_nil,or_false] at hx;rcases hx with rfl|rfl
  ·exact Nat.ne_of_lt hl1
  ·exact Nat.ne_of_lt hl2
 replace hS:=Zh.alloc (h:=hS) (cs:=#[x1,x2,x3]) (t:=30);clear hC hl1 hl2;refine Ux (fun b w2=>Zh w w2 bs (!b) [(wn.heap.size,30,#[x1,x2,x3]),(w.heap.size+1,30,Oa),(w.heap.size,79,#[a1,a2,a3,b1,b2,b3,c1,c2,c3,d1,d2,d3])]) 11 _ (by kernel_rfl) (Zh.drewW hS) (by exact fun _ _ _ _ _ h=>h) ?_;iterate 10 (apply Zp;rfl;intro b u B Q q;have hS:=B;have hC:=hS.rd;simp only[Zr,Zq] at hC;go_wp2;exact q _ trivial B;exact⟨_,rfl⟩)
 (apply Zi;rfl;intro b u B Q q;go_wp2_with ((with_reducible refine(Rd B HP.out).mono ?_);rintro e wn ⟨rfl,hN,hM⟩);exact q _ trivial hN;exact⟨_,rfl⟩);refine Zn ?_;intro wz hz;have hC:=hz.rd;simp only[Zr,Zq] at hC;go_wp2_with ((with_reducible refine(Fg h1 hz HT.out).mono ?_);rintro e1 wm ⟨rfl,hN, -⟩;have hC:=hN.rd;simp only[Zr,Zq] at hC);replace hS:=Zh.set3 hN hg0 hne0 (t1) (t2) (t3);refine Ux (fun b w2=>Zh w w2 bs (!b) [(wn.heap.size,30,#[t1,t2,t3]),(w.heap.size+1,30,Oa),(w.heap.size,79,#[a1,a2,a3,b1,b2,b3,c1,c2,c3,d1,d2,d3])]) 11 _ (by kernel_rfl) (Zh.drewW hS) (by exact fun _ _ _ _ _ h=>h) ?_;iterate 10 (apply Zp;rfl;intro b u B Q q;have hS:=B;have hC:=hS.rd;simp only[Zr,Zq] at hC;go_wp2;exact q _ trivial B;exact⟨_,rfl⟩)
 (apply Zi;rfl;intro b u B Q q;go_wp2_with ((with_reducible refine(Rd B HQ.out).mono ?_);rintro e wn ⟨rfl,hN,hM⟩);exact q _ trivial hN;exact⟨_,rfl⟩);refine Zn ?_;intro wz hz;have hC:=hz.rd;simp only[Zr,Zq] at hC;go_wp2_with ((with_reducible refine(Fg h2 hz HU.out).mono ?_);rintro e1 wm ⟨rfl,hN, -⟩;have hC:=hN.rd;simp only[Zr,Zq] at hC);replace hS:=Zh.set3 hN hg0 hne0 (u1) (u2) (u3);refine Ux (fun b w2=>Zh w w2 bs (!b) [(wn.heap.size,30,#[u1,u2,u3]),(w.heap.size+1,30,Oa),(w.heap.size,79,#[a1,a2,a3,b1,b2,b3,c1,c2,c3,d1,d2,d3])]) 11 _ (by kernel_rfl) (Zh.drewW hS) (by exact fun _ _ _ _ _ h=>h) ?_;iterate 10 (apply Zp;rfl;intro b u B Q q;have hS:=B;have hC:=hS.rd;simp only[Zr,Zq] at hC;go_wp2;exact q _ trivial B;exact⟨_,rfl⟩)
 (apply Zi;rfl;intro b u B Q q;go_wp2_with ((with_reducible refine(Rd B HR.out).mono ?_);rintro e wn ⟨rfl,hN,hM⟩);exact q _ trivial hN;exact⟨_,rfl⟩);refine Zn ?_;intro wz hz;have hC:=hz.rd;simp only[Zr,Zq] at hC;go_wp2_with ((with_reducible refine(Fg h3 hz HV.out).mono ?_);rintro e1 wm ⟨rfl,hN, -⟩;have hC:=hN.rd;simp only[Zr,Zq] at hC);replace hS:=Zh.set3 hN hg0 hne0 (v1) (v2) (v3);have hC:=hS.rd;simp only[Zr,Zq] at hC;go_wp2_with ((with_reducible refine(Zbh HBD.out hS HY.out).mono ?_);rintro e1 wk ⟨rfl,hS5, -⟩;have hC:=hS5.rd;simp only[Zr,Zq] at hC);have hm2:=hS5.sm;have hs2:=hS5.sum;have ef:(!e&&(kx&&kp&&kt&&kq&&ku&&kr&&kv&&ky))= !(((((((((e|| !kx)|| !kp)|| !kt)|| !kq)|| !ku)|| !kr)|| !kv))|| !ky):=by simp[Bool.and_assoc]
 rw[ef];refine Zu ?_ rfl ⟨rfl,?_,?_⟩
 ·simp[results,results111,go_sem,hC]
 ·repeat' (with_reducible first
   |exact hm2
   |refine SmO.setNew ?_ (by simp<;>omega) _)
 ·repeat' (with_reducible first
   |exact hs2
   |refine Box.far ?_ (by simp<;>omega) _)
end
section
open Go.RowKit

attribute [local go_sem] Zg Zf
section
variable {W w:World} {bs:Nat} {b:Bool} {L:Xx} {a1 a2 a3 x y z:Int} {k:Bool}
theorem Zpo(hbd: -2000000000≤a1∧a1≤2000000000∧ -2000000000≤a2∧a2≤2000000000∧0≤a3∧a3≤2000000000)(hB:Zh W w bs (!b) L)(hr:Ua ⟨a1,a2,a3⟩ 1 false=(⟨x,y,z⟩,k)):Calls prog 178 #[.pointer (some ⟨bs,0,none⟩), .agg #[a1,a2,a3], .int .i64 1,false] w fun e w'=>e= .returned (.agg #[x,y,z])∧Zh W w' bs (!(b|| !k)) L∧SmO bs w w':=Fh hB (Zuc bs (!b) ⟨a1,a2,a3⟩ w hB.sum hbd) hr
theorem Zxg(hbd: -2000000000≤a1∧a1≤2000000000∧ -2000000000≤a2∧a2≤2000000000∧0≤a3∧a3≤2000000000)(hB:Zh W w bs (!b) L)(hr:Ua ⟨a1,a2,a3⟩ 1 true=(⟨x,y,z⟩,k)):Calls prog 178 #[.pointer (some ⟨bs,0,none⟩), .agg #[a1,a2,a3], .int .i64 1,true] w fun e w'=>e= .returned (.agg #[x,y,z])∧Zh W w' bs (!(b|| !k)) L∧SmO bs w w':=Fh hB (Zub bs (!b) ⟨a1,a2,a3⟩ w hB.sum hbd) hr
end
def Uw(s:Int)(im:Bool)(a b c d:Fr):Fr×Bool:=
 ((Ua (Xr s (Yr a b).1 (Yr c d).1).1 1 im).1,(Yr a b).2&&(Yr c d).2&&(Xr s (Yr a b).1 (Yr c d).1).2&&(Ua (Xr s (Yr a b).1 (Yr c d).1).1 1 im).2)
theorem Ck(bs:Nat)(e:Bool)(a b c d:Fr)(s:Int)(h1:s=1∨s= -1)(w:World)(hb:Box w bs 155 #[.bool (!e)]):
  Calls prog 112 #[.pointer (some ⟨bs,0,none⟩), .agg #[a.re,a.im,a.den,b.re,b.im,b.den,c.re,c.im,c.den,d.re,d.im,d.den],oo, .int .i64 1,s, .int .i64 2, .int .i64 3,false] w (Vw bs (!e) w (Uw s false a b c d)):=by
 have hbd:=Ng s (Yr a b).1 (Yr c d).1;unfold Uw;rcases hx:Yr a b with⟨⟨x1,x2,x3⟩,kx⟩;rcases hp:Yr c d with⟨⟨p1,p2,p3⟩,kp⟩;rw[hx,hp] at hbd;simp only at hbd ⊢;rcases ht:Xr s ⟨x1,x2,x3⟩ ⟨p1,p2,p3⟩ with⟨⟨t1,t2,t3⟩,kt⟩;rw[ht] at hbd;simp only at hbd ⊢;rcases hy:Ua ⟨t1,t2,t3⟩ 1 false with⟨⟨y1,y2,y3⟩,ky⟩;simp only;obtain⟨a1,a2,a3⟩:=a;obtain⟨b1,b2,b3⟩:=b;obtain⟨c1,c2,c3⟩:=c;obtain⟨d1,d2,d3⟩:=d;have HX:=Zz hx;have HP:=Zz hp;have HT:=Zz ht;have HY:=Zz hy;have HBD:=Zz hbd;clear hx hp ht hy hbd;unfold Vw;simp only[Fr.v];have hS:=Zh.init hb;have hC:=hS.rd;simp only[Zr,Zq] at hC;have hbl:=hb.lt;have m2:w.heap.size≠bs:=Nat.ne_of_gt hb.lt;go_in;go_wp2_with fail;replace hS:Zh w ((w.alloc (.cells #[a1,a2,a3,b1,b2,b3,c1,c2,c3,d1,d2,d3] 79)).alloc (.cells Oa 30)) bs (!e) [(w.heap.size+1,30,Oa),(w.heap.size,79,#[a1,a2,a3,b1,b2,b3,c1,c2,c3,d1,d2,d3])]:=Zh.cast (W:=w) rfl (by simp only[Zy]);have hS0:=hS;have hbs0:=hS0.sum.lt;refine Yh (St:=SmO bs) (B:=fun b w'=>InO _ bs _ (!b) w') 10 1 0 _ 30 (fun _=>17) (fun _=>28) (fun _=>Oa) (fun _=>#[x1,x2,x3]) _ (by kernel_rfl) (by kernel_rfl) (InO.drew (InO.start hS0)) (fun x y h1 h2 _=>by omega) (fun x y _ _=>by decide) (fun _ _ h g cs hg hb=>h.box _ _ _ (Nat.ne_of_gt (Nat.lt_of_lt_of_le hbs0 hg)) hb) (fun _ _ cs h=>h.alloc _) (fun _ _ h=>h.size) ?_;iterate 9 (apply Zp;rfl;intro b u B Q q;have hS:=B.sees;have hC:=hS.rd;simp only[Zr,Zq] at hC;go_wp2;exact q _ (SmO.refl _ _) B;exact⟨_,rfl⟩)
 (apply Zi;rfl;intro b u B Q q;go_wp2_with ((with_reducible refine(Rd B.sees HX.out).mono ?_);rintro e wn ⟨rfl,hN,hM⟩);exact q _ hM (B.call hN);exact⟨_,rfl⟩);refine Zn ?_;refine⟨fun i hi=>?_,fun i hi=>?_,fun i hi=>?_,fun gg wz hz hbx hne=>?_⟩
 ·obtain rfl:i=0:=by omega
  all_goals exact⟨_,rfl,Yt⟩
 ·obtain rfl:i=0:=by omega
  all_goals exact⟨_,rfl,Xh Ym rfl (by kernel_rfl) (fun _ _ _ hg h=>h.setRow hg _)⟩
 ·obtain rfl:i=0:=by omega
  ·exact(show(17:Nat)<47 by decide)
 obtain⟨hg0,hb0⟩:=hbx 0 (by omega);replace hS:=InO.join hS0 hz;replace hS:=Zh.put hS hb0 (by omega);simp only[frN,Act.put,Zx,Zw,Zv,Nat.reduceAdd,List.drop_succ_cons,List.drop_zero];generalize gg 0=g0 at*;clear hbx hz hS0 hne;simp only at hS;go_wp2_with fail;have hS0:=hS;have hbs0:=hS0.sum.lt;refine Yh (St:=SmO bs) (B:=fun b w'=>InO _ bs _ (!b) w') 10 1 0 _ 30 (fun _=>18) (fun _=>38) (fun _=>Oa) (fun _=>#[p1,p2,p3]) _ (by kernel_rfl) (by kernel_rfl) (InO.drew (InO.start hS0)) (fun x y h1 h2 _=>by omega) (fun x y _ _=>by decide) (fun _ _ h g cs hg hb=>h.box _ _ _ (Nat.ne_of_gt (Nat.lt_of_lt_of_le hbs0 hg)) hb) (fun _ _ cs h=>h.alloc _) (fun _ _ h=>h.size) ?_;iterate 9 (apply Zp;rfl;intro b u B Q q;have hS:=B.sees;have hC:=hS.rd;simp only[Zr,Zq] at hC;go_wp2;exact q _ (SmO.refl _ _) B;exact⟨_,rfl⟩)
 (apply Zi;rfl;intro b u B Q q;go_wp2_with ((with_reducible refine(Rd B.sees HP.out).mono ?_);rintro e wn ⟨rfl,hN,hM⟩);exact q _ hM (B.call hN);exact⟨_,rfl⟩);refine Zn ?_;refine⟨fun i hi=>?_,fun i hi=>?_,fun i hi=>?_,fun gg wz hz hbx hne=>?_⟩
 ·obtain rfl:i=0:=by omega
  all_goals exact⟨_,rfl,Yt⟩
 ·obtain rfl:i=0:=by omega
  all_goals exact⟨_,rfl,Xh Ym rfl (by kernel_rfl) (fun _ _ _ hg h=>h.setRow hg _)⟩
 ·obtain rfl:i=0:=by omega
  ·exact(show(18:Nat)<47 by decide)
 obtain⟨hq0,hp0⟩:=hbx 0 (by omega);replace hS:=InO.join hS0 hz;replace hS:=Zh.put hS hp0 (by omega);simp only[frN,Act.put,Zx,Zw,Zv,Nat.reduceAdd,List.drop_succ_cons,List.drop_zero];generalize gg 0=g1 at*;clear hbx hz hS0 hne;simp only at hS
 skip
 have hC:=hS.rd;simp only[Zr,Zq] at hC;go_wp2_with (first|((with_reducible refine(Fg h1 hS HT.out).mono ?_);rintro e1 wm ⟨rfl,hS, -⟩;have hC:=hS.rd;simp only[Zr,Zq] at hC)|((with_reducible refine(Zpo HBD.out hS HY.out).mono ?_);rintro e1 wk ⟨rfl,hS, -⟩;have hC:=hS.rd;simp only[Zr,Zq] at hC));have hm2:=hS.sm;have hs2:=hS.sum;have ef:(!e&&(kx&&kp&&kt&&ky))= !((((e|| !kx)|| !kp)|| !kt)|| !ky):=by simp[Bool.and_assoc]
 rw[ef];refine Zu ?_ rfl ⟨rfl,?_,?_⟩
 ·simp[results,results112,go_sem,hC]
 ·repeat' (with_reducible first
   |exact hm2
   |refine SmO.setNew ?_ (by simp<;>omega) _)
 ·repeat' (with_reducible first
   |exact hs2
   |refine Box.far ?_ (by simp<;>omega) _)
theorem Cj(bs:Nat)(e:Bool)(a b c d:Fr)(s:Int)(h1:s=1∨s= -1)(w:World)(hb:Box w bs 155 #[.bool (!e)]):
  Calls prog 112 #[.pointer (some ⟨bs,0,none⟩), .agg #[a.re,a.im,a.den,b.re,b.im,b.den,c.re,c.im,c.den,d.re,d.im,d.den], .int .i64 1,oo,s, .int .i64 3, .int .i64 2,true] w (Vw bs (!e) w (Uw s true b a d c)):=by
 have hbd:=Ng s (Yr b a).1 (Yr d c).1;unfold Uw;rcases hx:Yr b a with⟨⟨x1,x2,x3⟩,kx⟩;rcases hp:Yr d c with⟨⟨p1,p2,p3⟩,kp⟩;rw[hx,hp] at hbd;simp only at hbd ⊢;rcases ht:Xr s ⟨x1,x2,x3⟩ ⟨p1,p2,p3⟩ with⟨⟨t1,t2,t3⟩,kt⟩;rw[ht] at hbd;simp only at hbd ⊢;rcases hy:Ua ⟨t1,t2,t3⟩ 1 true with⟨⟨y1,y2,y3⟩,ky⟩;simp only;obtain⟨a1,a2,a3⟩:=a;obtain⟨b1,b2,b3⟩:=b;obtain⟨c1,c2,c3⟩:=c;obtain⟨d1,d2,d3⟩:=d;have HX:=Zz hx;have HP:=Zz hp;have HT:=Zz ht;have HY:=Zz hy;have HBD:=Zz hbd;clear hx hp ht hy hbd;unfold Vw;simp only[Fr.v];have hS:=Zh.init hb;have hC:=hS.rd;simp only[Zr,Zq] at hC;have hbl:=hb.lt;have m2:w.heap.size≠bs:=Nat.ne_of_gt hb.lt;go_in;go_wp2_with fail;replace hS:Zh w ((w.alloc (.cells #[a1,a2,a3,b1,b2,b3,c1,c2,c3,d1,d2,d3] 79)).alloc (.cells Oa 30)) bs (!e) [(w.heap.size+1,30,Oa),(w.heap.size,79,#[a1,a2,a3,b1,b2,b3,c1,c2,c3,d1,d2,d3])]:=Zh.cast (W:=w) rfl (by simp only[Zy]);have hS0:=hS;have hbs0:=hS0.sum.lt;refine Yh (St:=SmO bs) (B:=fun b w'=>InO _ bs _ (!b) w') 10 1 0 _ 30 (fun _=>17) (fun _=>28) (fun _=>Oa) (fun _=>#[x1,x2,x3]) _ (by kernel_rfl) (by kernel_rfl) (InO.drew (InO.start hS0)) (fun x y h1 h2 _=>by omega) (fun x y _ _=>by decide) (fun _ _ h g cs hg hb=>h.box _ _ _ (Nat.ne_of_gt (Nat.lt_of_lt_of_le hbs0 hg)) hb) (fun _ _ cs h=>h.alloc _) (fun _ _ h=>h.size) ?_;iterate 9 (apply Zp;rfl;intro b u B Q q;have hS:=B.sees;have hC:=hS.rd;simp only[Zr,Zq] at hC;go_wp2;exact q _ (SmO.refl _ _) B;exact⟨_,rfl⟩)
 (apply Zi;rfl;intro b u B Q q;go_wp2_with ((with_reducible refine(Rd B.sees HX.out).mono ?_);rintro e wn ⟨rfl,hN,hM⟩);exact q _ hM (B.call hN);exact⟨_,rfl⟩);refine Zn ?_;refine⟨fun i hi=>?_,fun i hi=>?_,fun i hi=>?_,fun gg wz hz hbx hne=>?_⟩
 ·obtain rfl:i=0:=by omega
  all_goals exact⟨_,rfl,Yt⟩
 ·obtain rfl:i=0:=by omega
  all_goals exact⟨_,rfl,Xh Ym rfl (by kernel_rfl) (fun _ _ _ hg h=>h.setRow hg _)⟩
 ·obtain rfl:i=0:=by omega
  ·exact(show(17:Nat)<47 by decide)
 obtain⟨hg0,hb0⟩:=hbx 0 (by omega);replace hS:=InO.join hS0 hz;replace hS:=Zh.put hS hb0 (by omega);simp only[frN,Act.put,Zx,Zw,Zv,Nat.reduceAdd,List.drop_succ_cons,List.drop_zero];generalize gg 0=g0 at*;clear hbx hz hS0 hne;simp only at hS;go_wp2_with fail;have hS0:=hS;have hbs0:=hS0.sum.lt;refine Yh (St:=SmO bs) (B:=fun b w'=>InO _ bs _ (!b) w') 10 1 0 _ 30 (fun _=>18) (fun _=>38) (fun _=>Oa) (fun _=>#[p1,p2,p3]) _ (by kernel_rfl) (by kernel_rfl) (InO.drew (InO.start hS0)) (fun x y h1 h2 _=>by omega) (fun x y _ _=>by decide) (fun _ _ h g cs hg hb=>h.box _ _ _ (Nat.ne_of_gt (Nat.lt_of_lt_of_le hbs0 hg)) hb) (fun _ _ cs h=>h.alloc _) (fun _ _ h=>h.size) ?_;iterate 9 (apply Zp;rfl;intro b u B Q q;have hS:=B.sees;have hC:=hS.rd;simp only[Zr,Zq] at hC;go_wp2;exact q _ (SmO.refl _ _) B;exact⟨_,rfl⟩)
 (apply Zi;rfl;intro b u B Q q;go_wp2_with ((with_reducible refine(Rd B.sees HP.out).mono ?_);rintro e wn ⟨rfl,hN,hM⟩);exact q _ hM (B.call hN);exact⟨_,rfl⟩);refine Zn ?_;refine⟨fun i hi=>?_,fun i hi=>?_,fun i hi=>?_,fun gg wz hz hbx hne=>?_⟩
 ·obtain rfl:i=0:=by omega
  all_goals exact⟨_,rfl,Yt⟩
 ·obtain rfl:i=0:=by omega
  all_goals exact⟨_,rfl,Xh Ym rfl (by kernel_rfl) (fun _ _ _ hg h=>h.setRow hg _)⟩
 ·obtain rfl:i=0:=by omega
  ·exact(show(18:Nat)<47 by decide)
 obtain⟨hq0,hp0⟩:=hbx 0 (by omega);replace hS:=InO.join hS0 hz;replace hS:=Zh.put hS hp0 (by omega);simp only[frN,Act.put,Zx,Zw,Zv,Nat.reduceAdd,List.drop_succ_cons,List.drop_zero];generalize gg 0=g1 at*;clear hbx hz hS0 hne;simp only at hS
 skip
 have hC:=hS.rd;simp only[Zr,Zq] at hC;go_wp2_with (first|((with_reducible refine(Fg h1 hS HT.out).mono ?_);rintro e1 wm ⟨rfl,hS, -⟩;have hC:=hS.rd;simp only[Zr,Zq] at hC)|((with_reducible refine(Zxg HBD.out hS HY.out).mono ?_);rintro e1 wk ⟨rfl,hS, -⟩;have hC:=hS.rd;simp only[Zr,Zq] at hC));have hm2:=hS.sm;have hs2:=hS.sum;have ef:(!e&&(kx&&kp&&kt&&ky))= !((((e|| !kx)|| !kp)|| !kt)|| !ky):=by simp[Bool.and_assoc]
 rw[ef];refine Zu ?_ rfl ⟨rfl,?_,?_⟩
 ·simp[results,results112,go_sem,hC]
 ·repeat' (with_reducible first
   |exact hm2
   |refine SmO.setNew ?_ (by simp<;>omega) _)
 ·repeat' (with_reducible first
   |exact hs2
   |refine Box.far ?_ (by simp<;>omega) _)
theorem Ci(bs:Nat)(e:Bool)(a b c d:Fr)(s:Int)(h1:s=1∨s= -1)(w:World)(hb:Box w bs 155 #[.bool (!e)]):
  Calls prog 112 #[.pointer (some ⟨bs,0,none⟩), .agg #[a.re,a.im,a.den,b.re,b.im,b.den,c.re,c.im,c.den,d.re,d.im,d.den],oo, .int .i64 2,s, .int .i64 1, .int .i64 3,false] w (Vw bs (!e) w (Uw s false a c b d)):=by
 have hbd:=Ng s (Yr a c).1 (Yr b d).1;unfold Uw;rcases hx:Yr a c with⟨⟨x1,x2,x3⟩,kx⟩;rcases hp:Yr b d with⟨⟨p1,p2,p3⟩,kp⟩;rw[hx,hp] at hbd;simp only at hbd ⊢;rcases ht:Xr s ⟨x1,x2,x3⟩ ⟨p1,p2,p3⟩ with⟨⟨t1,t2,t3⟩,kt⟩;rw[ht] at hbd;simp only at hbd ⊢;rcases hy:Ua ⟨t1,t2,t3⟩ 1 false with⟨⟨y1,y2,y3⟩,ky⟩;simp only;obtain⟨a1,a2,a3⟩:=a;obtain⟨b1,b2,b3⟩:=b;obtain⟨c1,c2,c3⟩:=c;obtain⟨d1,d2,d3⟩:=d;have HX:=Zz hx;have HP:=Zz hp;have HT:=Zz ht;have HY:=Zz hy;have HBD:=Zz hbd;clear hx hp ht hy hbd;unfold Vw;simp only[Fr.v];have hS:=Zh.init hb;have hC:=hS.rd;simp only[Zr,Zq] at hC;have hbl:=hb.lt;have m2:w.heap.size≠bs:=Nat.ne_of_gt hb.lt;go_in;go_wp2_with fail;replace hS:Zh w ((w.alloc (.cells #[a1,a2,a3,b1,b2,b3,c1,c2,c3,d1,d2,d3] 79)).alloc (.cells Oa 30)) bs (!e) [(w.heap.size+1,30,Oa),(w.heap.size,79,#[a1,a2,a3,b1,b2,b3,c1,c2,c3,d1,d2,d3])]:=Zh.cast (W:=w) rfl (by simp only[Zy]);have hS0:=hS;have hbs0:=hS0.sum.lt;refine Yh (St:=SmO bs) (B:=fun b w'=>InO _ bs _ (!b) w') 10 1 0 _ 30 (fun _=>17) (fun _=>28) (fun _=>Oa) (fun _=>#[x1,x2,x3]) _ (by kernel_rfl) (by kernel_rfl) (InO.drew (InO.start hS0)) (fun x y h1 h2 _=>by omega) (fun x y _ _=>by decide) (fun _ _ h g cs hg hb=>h.box _ _ _ (Nat.ne_of_gt (Nat.lt_of_lt_of_le hbs0 hg)) hb) (fun _ _ cs h=>h.alloc _) (fun _ _ h=>h.size) ?_;iterate 9 (apply Zp;rfl;intro b u B Q q;have hS:=B.sees;have hC:=hS.rd;simp only[Zr,Zq] at hC;go_wp2;exact q _ (SmO.refl _ _) B;exact⟨_,rfl⟩)
 (apply Zi;rfl;intro b u B Q q;go_wp2_with ((with_reducible refine(Rd B.sees HX.out).mono ?_);rintro e wn ⟨rfl,hN,hM⟩);exact q _ hM (B.call hN);exact⟨_,rfl⟩);refine Zn ?_;refine⟨fun i hi=>?_,fun i hi=>?_,fun i hi=>?_,fun gg wz hz hbx hne=>?_⟩
 ·obtain rfl:i=0:=by omega
  all_goals exact⟨_,rfl,Yt⟩
 ·obtain rfl:i=0:=by omega
  all_goals exact⟨_,rfl,Xh Ym rfl (by kernel_rfl) (fun _ _ _ hg h=>h.setRow hg _)⟩
 ·obtain rfl:i=0:=by omega
  ·exact(show(17:Nat)<47 by decide)
 obtain⟨hg0,hb0⟩:=hbx 0 (by omega);replace hS:=InO.join hS0 hz;replace hS:=Zh.put hS hb0 (by omega);simp only[frN,Act.put,Zx,Zw,Zv,Nat.reduceAdd,List.drop_succ_cons,List.drop_zero];generalize gg 0=g0 at*;clear hbx hz hS0 hne;simp only at hS;go_wp2_with fail;have hS0:=hS;have hbs0:=hS0.sum.lt;refine Yh (St:=SmO bs) (B:=fun b w'=>InO _ bs _ (!b) w') 10 1 0 _ 30 (fun _=>18) (fun _=>38) (fun _=>Oa) (fun _=>#[p1,p2,p3]) _ (by kernel_rfl) (by kernel_rfl) (InO.drew (InO.start hS0)) (fun x y h1 h2 _=>by omega) (fun x y _ _=>by decide) (fun _ _ h g cs hg hb=>h.box _ _ _ (Nat.ne_of_gt (Nat.lt_of_lt_of_le hbs0 hg)) hb) (fun _ _ cs h=>h.alloc _) (fun _ _ h=>h.size) ?_;iterate 9 (apply Zp;rfl;intro b u B Q q;have hS:=B.sees;have hC:=hS.rd;simp only[Zr,Zq] at hC;go_wp2;exact q _ (SmO.refl _ _) B;exact⟨_,rfl⟩)
 (apply Zi;rfl;intro b u B Q q;go_wp2_with ((with_reducible refine(Rd B.sees HP.out).mono ?_);rintro e wn ⟨rfl,hN,hM⟩);exact q _ hM (B.call hN);exact⟨_,rfl⟩);refine Zn ?_;refine⟨fun i hi=>?_,fun i hi=>?_,fun i hi=>?_,fun gg wz hz hbx hne=>?_⟩
 ·obtain rfl:i=0:=by omega
  all_goals exact⟨_,rfl,Yt⟩
 ·obtain rfl:i=0:=by omega
  all_goals exact⟨_,rfl,Xh Ym rfl (by kernel_rfl) (fun _ _ _ hg h=>h.setRow hg _)⟩
 ·obtain rfl:i=0:=by omega
  ·exact(show(18:Nat)<47 by decide)
 obtain⟨hq0,hp0⟩:=hbx 0 (by omega);replace hS:=InO.join hS0 hz;replace hS:=Zh.put hS hp0 (by omega);simp only[frN,Act.put,Zx,Zw,Zv,Nat.reduceAdd,List.drop_succ_cons,List.drop_zero];generalize gg 0=g1 at*;clear hbx hz hS0 hne;simp only at hS
 skip
 have hC:=hS.rd;simp only[Zr,Zq] at hC;go_wp2_with (first|((with_reducible refine(Fg h1 hS HT.out).mono ?_);rintro e1 wm ⟨rfl,hS, -⟩;have hC:=hS.rd;simp only[Zr,Zq] at hC)|((with_reducible refine(Zpo HBD.out hS HY.out).mono ?_);rintro e1 wk ⟨rfl,hS, -⟩;have hC:=hS.rd;simp only[Zr,Zq] at hC));have hm2:=hS.sm;have hs2:=hS.sum;have ef:(!e&&(kx&&kp&&kt&&ky))= !((((e|| !kx)|| !kp)|| !kt)|| !ky):=by simp[Bool.and_assoc]
 rw[ef];refine Zu ?_ rfl ⟨rfl,?_,?_⟩
 ·simp[results,results112,go_sem,hC]
 ·repeat' (with_reducible first
   |exact hm2
   |refine SmO.setNew ?_ (by simp<;>omega) _)
 ·repeat' (with_reducible first
   |exact hs2
   |refine Box.far ?_ (by simp<;>omega) _)
theorem Ch(bs:Nat)(e:Bool)(a b c d:Fr)(s:Int)(h1:s=1∨s= -1)(w:World)(hb:Box w bs 155 #[.bool (!e)]):
  Calls prog 112 #[.pointer (some ⟨bs,0,none⟩), .agg #[a.re,a.im,a.den,b.re,b.im,b.den,c.re,c.im,c.den,d.re,d.im,d.den],oo, .int .i64 3,s, .int .i64 1, .int .i64 2,false] w (Vw bs (!e) w (Uw s false a d b c)):=by
 have hbd:=Ng s (Yr a d).1 (Yr b c).1;unfold Uw;rcases hx:Yr a d with⟨⟨x1,x2,x3⟩,kx⟩;rcases hp:Yr b c with⟨⟨p1,p2,p3⟩,kp⟩;rw[hx,hp] at hbd;simp only at hbd ⊢;rcases ht:Xr s ⟨x1,x2,x3⟩ ⟨p1,p2,p3⟩ with⟨⟨t1,t2,t3⟩,kt⟩;rw[ht] at hbd;simp only at hbd ⊢;rcases hy:Ua ⟨t1,t2,t3⟩ 1 false with⟨⟨y1,y2,y3⟩,ky⟩;simp only;obtain⟨a1,a2,a3⟩:=a;obtain⟨b1,b2,b3⟩:=b;obtain⟨c1,c2,c3⟩:=c;obtain⟨d1,d2,d3⟩:=d;have HX:=Zz hx;have HP:=Zz hp;have HT:=Zz ht;have HY:=Zz hy;have HBD:=Zz hbd;clear hx hp ht hy hbd;unfold Vw;simp only[Fr.v];have hS:=Zh.init hb;have hC:=hS.rd;simp only[Zr,Zq] at hC;have hbl:=hb.lt;have m2:w.heap.size≠bs:=Nat.ne_of_gt hb.lt;go_in;go_wp2_with fail;replace hS:Zh w ((w.alloc (.cells #[a1,a2,a3,b1,b2,b3,c1,c2,c3,d1,d2,d3] 79)).alloc (.cells Oa 30)) bs (!e) [(w.heap.size+1,30,Oa),(w.heap.size,79,#[a1,a2,a3,b1,b2,b3,c1,c2,c3,d1,d2,d3])]:=Zh.cast (W:=w) rfl (by simp only[Zy]);have hS0:=hS;have hbs0:=hS0.sum.lt;refine Yh (St:=SmO bs) (B:=fun b w'=>InO _ bs _ (!b) w') 10 1 0 _ 30 (fun _=>17) (fun _=>28) (fun _=>Oa) (fun _=>#[x1,x2,x3]) _ (by kernel_rfl) (by kernel_rfl) (InO.drew (InO.start hS0)) (fun x y h1 h2 _=>by omega) (fun x y _ _=>by decide) (fun _ _ h g cs hg hb=>h.box _ _ _ (Nat.ne_of_gt (Nat.lt_of_lt_of_le hbs0 hg)) hb) (fun _ _ cs h=>h.alloc _) (fun _ _ h=>h.size) ?_;iterate 9 (apply Zp;rfl;intro b u B Q q;have hS:=B.sees;have hC:=hS.rd;simp only[Zr,Zq] at hC;go_wp2;exact q _ (SmO.refl _ _) B;exact⟨_,rfl⟩)
 (apply Zi;rfl;intro b u B Q q;go_wp2_with ((with_reducible refine(Rd B.sees HX.out).mono ?_);rintro e wn ⟨rfl,hN,hM⟩);exact q _ hM (B.call hN);exact⟨_,rfl⟩);refine Zn ?_;refine⟨fun i hi=>?_,fun i hi=>?_,fun i hi=>?_,fun gg wz hz hbx hne=>?_⟩
 ·obtain rfl:i=0:=by omega
  all_goals exact⟨_,rfl,Yt⟩
 ·obtain rfl:i=0:=by omega
  all_goals exact⟨_,rfl,Xh Ym rfl (by kernel_rfl) (fun _ _ _ hg h=>h.setRow hg _)⟩
 ·obtain rfl:i=0:=by omega
  ·exact(show(17:Nat)<47 by decide)
 obtain⟨hg0,hb0⟩:=hbx 0 (by omega);replace hS:=InO.join hS0 hz;replace hS:=Zh.put hS hb0 (by omega);simp only[frN,Act.put,Zx,Zw,Zv,Nat.reduceAdd,List.drop_succ_cons,List.drop_zero];generalize gg 0=g0 at*;clear hbx hz hS0 hne;simp only at hS;go_wp2_with fail;have hS0:=hS;have hbs0:=hS0.sum.lt;refine Yh (St:=SmO bs) (B:=fun b w'=>InO _ bs _ (!b) w') 10 1 0 _ 30 (fun _=>18) (fun _=>38) (fun _=>Oa) (fun _=>#[p1,p2,p3]) _ (by kernel_rfl) (by kernel_rfl) (InO.drew (InO.start hS0)) (fun x y h1 h2 _=>by omega) (fun x y _ _=>by decide) (fun _ _ h g cs hg hb=>h.box _ _ _ (Nat.ne_of_gt (Nat.lt_of_lt_of_le hbs0 hg)) hb) (fun _ _ cs h=>h.alloc _) (fun _ _ h=>h.size) ?_;iterate 9 (apply Zp;rfl;intro b u B Q q;have hS:=B.sees;have hC:=hS.rd;simp only[Zr,Zq] at hC;go_wp2;exact q _ (SmO.refl _ _) B;exact⟨_,rfl⟩)
 (apply Zi;rfl;intro b u B Q q;go_wp2_with ((with_reducible refine(Rd B.sees HP.out).mono ?_);rintro e wn ⟨rfl,hN,hM⟩);exact q _ hM (B.call hN);exact⟨_,rfl⟩);refine Zn ?_;refine⟨fun i hi=>?_,fun i hi=>?_,fun i hi=>?_,fun gg wz hz hbx hne=>?_⟩
 ·obtain rfl:i=0:=by omega
  all_goals exact⟨_,rfl,Yt⟩
 ·obtain rfl:i=0:=by omega
  all_goals exact⟨_,rfl,Xh Ym rfl (by kernel_rfl) (fun _ _ _ hg h=>h.setRow hg _)⟩
 ·obtain rfl:i=0:=by omega
  ·exact(show(18:Nat)<47 by decide)
 obtain⟨hq0,hp0⟩:=hbx 0 (by omega);replace hS:=InO.join hS0 hz;replace hS:=Zh.put hS hp0 (by omega);simp only[frN,Act.put,Zx,Zw,Zv,Nat.reduceAdd,List.drop_succ_cons,List.drop_zero];generalize gg 0=g1 at*;clear hbx hz hS0 hne;simp only at hS
 skip
 have hC:=hS.rd;simp only[Zr,Zq] at hC;go_wp2_with (first|((with_reducible refine(Fg h1 hS HT.out).mono ?_);rintro e1 wm ⟨rfl,hS, -⟩;have hC:=hS.rd;simp only[Zr,Zq] at hC)|((with_reducible refine(Zpo HBD.out hS HY.out).mono ?_);rintro e1 wk ⟨rfl,hS, -⟩;have hC:=hS.rd;simp only[Zr,Zq] at hC));have hm2:=hS.sm;have hs2:=hS.sum;have ef:(!e&&(kx&&kp&&kt&&ky))= !((((e|| !kx)|| !kp)|| !kt)|| !ky):=by simp[Bool.and_assoc]
 rw[ef];refine Zu ?_ rfl ⟨rfl,?_,?_⟩
 ·simp[results,results112,go_sem,hC]
 ·repeat' (with_reducible first
   |exact hm2
   |refine SmO.setNew ?_ (by simp<;>omega) _)
 ·repeat' (with_reducible first
   |exact hs2
   |refine Box.far ?_ (by simp<;>omega) _)
theorem Cg(bs:Nat)(e:Bool)(a b c d:Fr)(s:Int)(h1:s=1∨s= -1)(w:World)(hb:Box w bs 155 #[.bool (!e)]):
  Calls prog 112 #[.pointer (some ⟨bs,0,none⟩), .agg #[a.re,a.im,a.den,b.re,b.im,b.den,c.re,c.im,c.den,d.re,d.im,d.den], .int .i64 1, .int .i64 2,s,oo, .int .i64 3,true] w (Vw bs (!e) w (Uw s true b c a d)):=by
 have hbd:=Ng s (Yr b c).1 (Yr a d).1;unfold Uw;rcases hx:Yr b c with⟨⟨x1,x2,x3⟩,kx⟩;rcases hp:Yr a d with⟨⟨p1,p2,p3⟩,kp⟩;rw[hx,hp] at hbd;simp only at hbd ⊢;rcases ht:Xr s ⟨x1,x2,x3⟩ ⟨p1,p2,p3⟩ with⟨⟨t1,t2,t3⟩,kt⟩;rw[ht] at hbd;simp only at hbd ⊢;rcases hy:Ua ⟨t1,t2,t3⟩ 1 true with⟨⟨y1,y2,y3⟩,ky⟩;simp only;obtain⟨a1,a2,a3⟩:=a;obtain⟨b1,b2,b3⟩:=b;obtain⟨c1,c2,c3⟩:=c;obtain⟨d1,d2,d3⟩:=d;have HX:=Zz hx;have HP:=Zz hp;have HT:=Zz ht;have HY:=Zz hy;have HBD:=Zz hbd;clear hx hp ht hy hbd;unfold Vw;simp only[Fr.v];have hS:=Zh.init hb;have hC:=hS.rd;simp only[Zr,Zq] at hC;have hbl:=hb.lt;have m2:w.heap.size≠bs:=Nat.ne_of_gt hb.lt;go_in;go_wp2_with fail;replace hS:Zh w ((w.alloc (.cells #[a1,a2,a3,b1,b2,b3,c1,c2,c3,d1,d2,d3] 79)).alloc (.cells Oa 30)) bs (!e) [(w.heap.size+1,30,Oa),(w.heap.size,79,#[a1,a2,a3,b1,b2,b3,c1,c2,c3,d1,d2,d3])]:=Zh.cast (W:=w) rfl (by simp only[Zy]);have hS0:=hS;have hbs0:=hS0.sum.lt;refine Yh (St:=SmO bs) (B:=fun b w'=>InO _ bs _ (!b) w') 10 1 0 _ 30 (fun _=>17) (fun _=>28) (fun _=>Oa) (fun _=>#[x1,x2,x3]) _ (by kernel_rfl) (by kernel_rfl) (InO.drew (InO.start hS0)) (fun x y h1 h2 _=>by omega) (fun x y _ _=>by decide) (fun _ _ h g cs hg hb=>h.box _ _ _ (Nat.ne_of_gt (Nat.lt_of_lt_of_le hbs0 hg)) hb) (fun _ _ cs h=>h.alloc _) (fun _ _ h=>h.size) ?_;iterate 9 (apply Zp;rfl;intro b u B Q q;have hS:=B.sees;have hC:=hS.rd;simp only[Zr,Zq] at hC;go_wp2;exact q _ (SmO.refl _ _) B;exact⟨_,rfl⟩)
 (apply Zi;rfl;intro b u B Q q;go_wp2_with ((with_reducible refine(Rd B.sees HX.out).mono ?_);rintro e wn ⟨rfl,hN,hM⟩);exact q _ hM (B.call hN);exact⟨_,rfl⟩);refine Zn ?_;refine⟨fun i hi=>?_,fun i hi=>?_,fun i hi=>?_,fun gg wz hz hbx hne=>?_⟩
 ·obtain rfl:i=0:=by omega
  all_goals exact⟨_,rfl,Yt⟩
 ·obtain rfl:i=0:=by omega
  all_goals exact⟨_,rfl,Xh Ym rfl (by kernel_rfl) (fun _ _ _ hg h=>h.setRow hg _)⟩
 ·obtain rfl:i=0:=by omega
  ·exact(show(17:Nat)<47 by decide)
 obtain⟨hg0,hb0⟩:=hbx 0 (by omega);replace hS:=InO.join hS0 hz;replace hS:=Zh.put hS hb0 (by omega);simp only[frN,Act.put,Zx,Zw,Zv,Nat.reduceAdd,List.drop_succ_cons,List.drop_zero];generalize gg 0=g0 at*;clear hbx hz hS0 hne;simp only at hS;go_wp2_with fail;have hS0:=hS;have hbs0:=hS0.sum.lt;refine Yh (St:=SmO bs) (B:=fun b w'=>InO _ bs _ (!b) w') 10 1 0 _ 30 (fun _=>18) (fun _=>38) (fun _=>Oa) (fun _=>#[p1,p2,p3]) _ (by kernel_rfl) (by kernel_rfl) (InO.drew (InO.start hS0)) (fun x y h1 h2 _=>by omega) (fun x y _ _=>by decide) (fun _ _ h g cs hg hb=>h.box _ _ _ (Nat.ne_of_gt (Nat.lt_of_lt_of_le hbs0 hg)) hb) (fun _ _ cs h=>h.alloc _) (fun _ _ h=>h.size) ?_;iterate 9 (apply Zp;rfl;intro b u B Q q;have hS:=B.sees;have hC:=hS.rd;simp only[Zr,Zq] at hC;go_wp2;exact q _ (SmO.refl _ _) B;exact⟨_,rfl⟩)
 (apply Zi;rfl;intro b u B Q q;go_wp2_with ((with_reducible refine(Rd B.sees HP.out).mono ?_);rintro e wn ⟨rfl,hN,hM⟩);exact q _ hM (B.call hN);exact⟨_,rfl⟩);refine Zn ?_;refine⟨fun i hi=>?_,fun i hi=>?_,fun i hi=>?_,fun gg wz hz hbx hne=>?_⟩
 ·obtain rfl:i=0:=by omega
  all_goals exact⟨_,rfl,Yt⟩
 ·obtain rfl:i=0:=by omega
  all_goals exact⟨_,rfl,Xh Ym rfl (by kernel_rfl) (fun _ _ _ hg h=>h.setRow hg _)⟩
 ·obtain rfl:i=0:=by omega
  ·exact(show(18:Nat)<47 by decide)
 obtain⟨hq0,hp0⟩:=hbx 0 (by omega);replace hS:=InO.join hS0 hz;replace hS:=Zh.put hS hp0 (by omega);simp only[frN,Act.put,Zx,Zw,Zv,Nat.reduceAdd,List.drop_succ_cons,List.drop_zero];generalize gg 0=g1 at*;clear hbx hz hS0 hne;simp only at hS
 skip
 have hC:=hS.rd;simp only[Zr,Zq] at hC;go_wp2_with (first|((with_reducible refine(Fg h1 hS HT.out).mono ?_);rintro e1 wm ⟨rfl,hS, -⟩;have hC:=hS.rd;simp only[Zr,Zq] at hC)|((with_reducible refine(Zxg HBD.out hS HY.out).mono ?_);rintro e1 wk ⟨rfl,hS, -⟩;have hC:=hS.rd;simp only[Zr,Zq] at hC));have hm2:=hS.sm;have hs2:=hS.sum;have ef:(!e&&(kx&&kp&&kt&&ky))= !((((e|| !kx)|| !kp)|| !kt)|| !ky):=by simp[Bool.and_assoc]
 rw[ef];refine Zu ?_ rfl ⟨rfl,?_,?_⟩
 ·simp[results,results112,go_sem,hC]
 ·repeat' (with_reducible first
   |exact hm2
   |refine SmO.setNew ?_ (by simp<;>omega) _)
 ·repeat' (with_reducible first
   |exact hs2
   |refine Box.far ?_ (by simp<;>omega) _)
theorem Cf(bs:Nat)(e:Bool)(a b c d:Fr)(s:Int)(h1:s=1∨s= -1)(w:World)(hb:Box w bs 155 #[.bool (!e)]):
  Calls prog 112 #[.pointer (some ⟨bs,0,none⟩), .agg #[a.re,a.im,a.den,b.re,b.im,b.den,c.re,c.im,c.den,d.re,d.im,d.den],oo, .int .i64 2,s, .int .i64 1, .int .i64 3,true] w (Vw bs (!e) w (Uw s true a c b d)):=by
 have hbd:=Ng s (Yr a c).1 (Yr b d).1;unfold Uw;rcases hx:Yr a c with⟨⟨x1,x2,x3⟩,kx⟩;rcases hp:Yr b d with⟨⟨p1,p2,p3⟩,kp⟩;rw[hx,hp] at hbd;simp only at hbd ⊢;rcases ht:Xr s ⟨x1,x2,x3⟩ ⟨p1,p2,p3⟩ with⟨⟨t1,t2,t3⟩,kt⟩;rw[ht] at hbd;simp only at hbd ⊢;rcases hy:Ua ⟨t1,t2,t3⟩ 1 true with⟨⟨y1,y2,y3⟩,ky⟩;simp only;obtain⟨a1,a2,a3⟩:=a;obtain⟨b1,b2,b3⟩:=b;obtain⟨c1,c2,c3⟩:=c;obtain⟨d1,d2,d3⟩:=d;have HX:=Zz hx;have HP:=Zz hp;have HT:=Zz ht;have HY:=Zz hy;have HBD:=Zz hbd;clear hx hp ht hy hbd;unfold Vw;simp only[Fr.v];have hS:=Zh.init hb;have hC:=hS.rd;simp only[Zr,Zq] at hC;have hbl:=hb.lt;have m2:w.heap.size≠bs:=Nat.ne_of_gt hb.lt;go_in;go_wp2_with fail;replace hS:Zh w ((w.alloc (.cells #[a1,a2,a3,b1,b2,b3,c1,c2,c3,d1,d2,d3] 79)).alloc (.cells Oa 30)) bs (!e) [(w.heap.size+1,30,Oa),(w.heap.size,79,#[a1,a2,a3,b1,b2,b3,c1,c2,c3,d1,d2,d3])]:=Zh.cast (W:=w) rfl (by simp only[Zy]);have hS0:=hS;have hbs0:=hS0.sum.lt;refine Yh (St:=SmO bs) (B:=fun b w'=>InO _ bs _ (!b) w') 10 1 0 _ 30 (fun _=>17) (fun _=>28) (fun _=>Oa) (fun _=>#[x1,x2,x3]) _ (by kernel_rfl) (by kernel_rfl) (InO.drew (InO.start hS0)) (fun x y h1 h2 _=>by omega) (fun x y _ _=>by decide) (fun _ _ h g cs hg hb=>h.box _ _ _ (Nat.ne_of_gt (Nat.lt_of_lt_of_le hbs0 hg)) hb) (fun _ _ cs h=>h.alloc _) (fun _ _ h=>h.size) ?_;iterate 9 (apply Zp;rfl;intro b u B Q q;have hS:=B.sees;have hC:=hS.rd;simp only[Zr,Zq] at hC;go_wp2;exact q _ (SmO.refl _ _) B;exact⟨_,rfl⟩)
 (apply Zi;rfl;intro b u B Q q;go_wp2_with ((with_reducible refine(Rd B.sees HX.out).mono ?_);rintro e wn ⟨rfl,hN,hM⟩);exact q _ hM (B.call hN);exact⟨_,rfl⟩);refine Zn ?_;refine⟨fun i hi=>?_,fun i hi=>?_,fun i hi=>?_,fun gg wz hz hbx hne=>?_⟩
 ·obtain rfl:i=0:=by omega
  all_goals exact⟨_,rfl,Yt⟩
 ·obtain rfl:i=0:=by omega
  all_goals exact⟨_,rfl,Xh Ym rfl (by kernel_rfl) (fun _ _ _ hg h=>h.setRow hg _)⟩
 ·obtain rfl:i=0:=by omega
  ·exact(show(17:Nat)<47 by decide)
 obtain⟨hg0,hb0⟩:=hbx 0 (by omega);replace hS:=InO.join hS0 hz;replace hS:=Zh.put hS hb0 (by omega);simp only[frN,Act.put,Zx,Zw,Zv,Nat.reduceAdd,List.drop_succ_cons,List.drop_zero];generalize gg 0=g0 at*;clear hbx hz hS0 hne;simp only at hS;go_wp2_with fail;have hS0:=hS;have hbs0:=hS0.sum.lt;refine Yh (St:=SmO bs) (B:=fun b w'=>InO _ bs _ (!b) w') 10 1 0 _ 30 (fun _=>18) (fun _=>38) (fun _=>Oa) (fun _=>#[p1,p2,p3]) _ (by kernel_rfl) (by kernel_rfl) (InO.drew (InO.start hS0)) (fun x y h1 h2 _=>by omega) (fun x y _ _=>by decide) (fun _ _ h g cs hg hb=>h.box _ _ _ (Nat.ne_of_gt (Nat.lt_of_lt_of_le hbs0 hg)) hb) (fun _ _ cs h=>h.alloc _) (fun _ _ h=>h.size) ?_;iterate 9 (apply Zp;rfl;intro b u B Q q;have hS:=B.sees;have hC:=hS.rd;simp only[Zr,Zq] at hC;go_wp2;exact q _ (SmO.refl _ _) B;exact⟨_,rfl⟩)
 (apply Zi;rfl;intro b u B Q q;go_wp2_with ((with_reducible refine(Rd B.sees HP.out).mono ?_);rintro e wn ⟨rfl,hN,hM⟩);exact q _ hM (B.call hN);exact⟨_,rfl⟩);refine Zn ?_;refine⟨fun i hi=>?_,fun i hi=>?_,fun i hi=>?_,fun gg wz hz hbx hne=>?_⟩
 ·obtain rfl:i=0:=by omega
  all_goals exact⟨_,rfl,Yt⟩
 ·obtain rfl:i=0:=by omega
  all_goals exact⟨_,rfl,Xh Ym rfl (by kernel_rfl) (fun _ _ _ hg h=>h.setRow hg _)⟩
 ·obtain rfl:i=0:=by omega
  ·exact(show(18:Nat)<47 by decide)
 obtain⟨hq0,hp0⟩:=hbx 0 (by omega);replace hS:=InO.join hS0 hz;replace hS:=Zh.put hS hp0 (by omega);simp only[frN,Act.put,Zx,Zw,Zv,Nat.reduceAdd,List.drop_succ_cons,List.drop_zero];generalize gg 0=g1 at*;clear hbx hz hS0 hne;simp only at hS
 skip
 have hC:=hS.rd;simp only[Zr,Zq] at hC;go_wp2_with (first|((with_reducible refine(Fg h1 hS HT.out).mono ?_);rintro e1 wm ⟨rfl,hS, -⟩;have hC:=hS.rd;simp only[Zr,Zq] at hC)|((with_reducible refine(Zxg HBD.out hS HY.out).mono ?_);rintro e1 wk ⟨rfl,hS, -⟩;have hC:=hS.rd;simp only[Zr,Zq] at hC));have hm2:=hS.sm;have hs2:=hS.sum;have ef:(!e&&(kx&&kp&&kt&&ky))= !((((e|| !kx)|| !kp)|| !kt)|| !ky):=by simp[Bool.and_assoc]
 rw[ef];refine Zu ?_ rfl ⟨rfl,?_,?_⟩
 ·simp[results,results112,go_sem,hC]
 ·repeat' (with_reducible first
   |exact hm2
   |refine SmO.setNew ?_ (by simp<;>omega) _)
 ·repeat' (with_reducible first
   |exact hs2
   |refine Box.far ?_ (by simp<;>omega) _)
theorem Ce(bs:Nat)(e:Bool)(a b c d:Fr)(s:Int)(h1:s=1∨s= -1)(w:World)(hb:Box w bs 155 #[.bool (!e)]):
  Calls prog 112 #[.pointer (some ⟨bs,0,none⟩), .agg #[a.re,a.im,a.den,b.re,b.im,b.den,c.re,c.im,c.den,d.re,d.im,d.den],oo, .int .i64 3,s, .int .i64 1, .int .i64 2,true] w (Vw bs (!e) w (Uw s true a d b c)):=by
 have hbd:=Ng s (Yr a d).1 (Yr b c).1;unfold Uw;rcases hx:Yr a d with⟨⟨x1,x2,x3⟩,kx⟩;rcases hp:Yr b c with⟨⟨p1,p2,p3⟩,kp⟩;rw[hx,hp] at hbd;simp only at hbd ⊢;rcases ht:Xr s ⟨x1,x2,x3⟩ ⟨p1,p2,p3⟩ with⟨⟨t1,t2,t3⟩,kt⟩;rw[ht] at hbd;simp only at hbd ⊢;rcases hy:Ua ⟨t1,t2,t3⟩ 1 true with⟨⟨y1,y2,y3⟩,ky⟩;simp only;obtain⟨a1,a2,a3⟩:=a;obtain⟨b1,b2,b3⟩:=b;obtain⟨c1,c2,c3⟩:=c;obtain⟨d1,d2,d3⟩:=d;have HX:=Zz hx;have HP:=Zz hp;have HT:=Zz ht;have HY:=Zz hy;have HBD:=Zz hbd;clear hx hp ht hy hbd;unfold Vw;simp only[Fr.v];have hS:=Zh.init hb;have hC:=hS.rd;simp only[Zr,Zq] at hC;have hbl:=hb.lt;have m2:w.heap.size≠bs:=Nat.ne_of_gt hb.lt;go_in;go_wp2_with fail;replace hS:Zh w ((w.alloc (.cells #[a1,a2,a3,b1,b2,b3,c1,c2,c3,d1,d2,d3] 79)).alloc (.cells Oa 30)) bs (!e) [(w.heap.size+1,30,Oa),(w.heap.size,79,#[a1,a2,a3,b1,b2,b3,c1,c2,c3,d1,d2,d3])]:=Zh.cast (W:=w) rfl (by simp only[Zy]);have hS0:=hS;have hbs0:=hS0.sum.lt;refine Yh (St:=SmO bs) (B:=fun b w'=>InO _ bs _ (!b) w') 10 1 0 _ 30 (fun _=>17) (fun _=>28) (fun _=>Oa) (fun _=>#[x1,x2,x3]) _ (by kernel_rfl) (by kernel_rfl) (InO.drew (InO.start hS0)) (fun x y h1 h2 _=>by omega) (fun x y _ _=>by decide) (fun _ _ h g cs hg hb=>h.box _ _ _ (Nat.ne_of_gt (Nat.lt_of_lt_of_le hbs0 hg)) hb) (fun _ _ cs h=>h.alloc _) (fun _ _ h=>h.size) ?_;iterate 9 (apply Zp;rfl;intro b u B Q q;have hS:=B.sees;have hC:=hS.rd;simp only[Zr,Zq] at hC;go_wp2;exact q _ (SmO.refl _ _) B;exact⟨_,rfl⟩)
 (apply Zi;rfl;intro b u B Q q;go_wp2_with ((with_reducible refine(Rd B.sees HX.out).mono ?_);rintro e wn ⟨rfl,hN,hM⟩);exact q _ hM (B.call hN);exact⟨_,rfl⟩);refine Zn ?_;refine⟨fun i hi=>?_,fun i hi=>?_,fun i hi=>?_,fun gg wz hz hbx hne=>?_⟩
 ·obtain rfl:i=0:=by omega
  all_goals exact⟨_,rfl,Yt⟩
 ·obtain rfl:i=0:=by omega
  all_goals exact⟨_,rfl,Xh Ym rfl (by kernel_rfl) (fun _ _ _ hg h=>h.setRow hg _)⟩
 ·obtain rfl:i=0:=by omega
  ·exact(show(17:Nat)<47 by decide)
 obtain⟨hg0,hb0⟩:=hbx 0 (by omega);replace hS:=InO.join hS0 hz;replace hS:=Zh.put hS hb0 (by omega);simp only[frN,Act.put,Zx,Zw,Zv,Nat.reduceAdd,List.drop_succ_cons,List.drop_zero];generalize gg 0=g0 at*;clear hbx hz hS0 hne;simp only at hS;go_wp2_with fail;have hS0:=hS;have hbs0:=hS0.sum.lt;refine Yh (St:=SmO bs) (B:=fun b w'=>InO _ bs _ (!b) w') 10 1 0 _ 30 (fun _=>18) (fun _=>38) (fun _=>Oa) (fun _=>#[p1,p2,p3]) _ (by kernel_rfl) (by kernel_rfl) (InO.drew (InO.start hS0)) (fun x y h1 h2 _=>by omega) (fun x y _ _=>by decide) (fun _ _ h g cs hg hb=>h.box _ _ _ (Nat.ne_of_gt (Nat.lt_of_lt_of_le hbs0 hg)) hb) (fun _ _ cs h=>h.alloc _) (fun _ _ h=>h.size) ?_;iterate 9 (apply Zp;rfl;intro b u B Q q;have hS:=B.sees;have hC:=hS.rd;simp only[Zr,Zq] at hC;go_wp2;exact q _ (SmO.refl _ _) B;exact⟨_,rfl⟩)
 (apply Zi;rfl;intro b u B Q q;go_wp2_with ((with_reducible refine(Rd B.sees HP.out).mono ?_);rintro e wn ⟨rfl,hN,hM⟩);exact q _ hM (B.call hN);exact⟨_,rfl⟩);refine Zn ?_;refine⟨fun i hi=>?_,fun i hi=>?_,fun i hi=>?_,fun gg wz hz hbx hne=>?_⟩
 ·obtain rfl:i=0:=by omega
  all_goals exact⟨_,rfl,Yt⟩
 ·obtain rfl:i=0:=by omega
  all_goals exact⟨_,rfl,Xh Ym rfl (by kernel_rfl) (fun _ _ _ hg h=>h.setRow hg _)⟩
 ·obtain rfl:i=0:=by omega
  ·exact(show(18:Nat)<47 by decide)
 obtain⟨hq0,hp0⟩:=hbx 0 (by omega);replace hS:=InO.join hS0 hz;replace hS:=Zh.put hS hp0 (by omega);simp only[frN,Act.put,Zx,Zw,Zv,Nat.reduceAdd,List.drop_succ_cons,List.drop_zero];generalize gg 0=g1 at*;clear hbx hz hS0 hne;simp only at hS
 skip
 have hC:=hS.rd;simp only[Zr,Zq] at hC;go_wp2_with (first|((with_reducible refine(Fg h1 hS HT.out).mono ?_);rintro e1 wm ⟨rfl,hS, -⟩;have hC:=hS.rd;simp only[Zr,Zq] at hC)|((with_reducible refine(Zxg HBD.out hS HY.out).mono ?_);rintro e1 wk ⟨rfl,hS, -⟩;have hC:=hS.rd;simp only[Zr,Zq] at hC));have hm2:=hS.sm;have hs2:=hS.sum;have ef:(!e&&(kx&&kp&&kt&&ky))= !((((e|| !kx)|| !kp)|| !kt)|| !ky):=by simp[Bool.and_assoc]
 rw[ef];refine Zu ?_ rfl ⟨rfl,?_,?_⟩
 ·simp[results,results112,go_sem,hC]
 ·repeat' (with_reducible first
   |exact hm2
   |refine SmO.setNew ?_ (by simp<;>omega) _)
 ·repeat' (with_reducible first
   |exact hs2
   |refine Box.far ?_ (by simp<;>omega) _)
end
section
open Go.RowKit

attribute [local go_sem] Zg Zf
attribute [local go_sem ↓] Go.wp_at_zero Go.wp_at_succ
theorem Zka(x y:Fr):(if (Zc x).2&&(Zc y).2 then Yo (Zc x).1 (Zc y).1 else (Fr.none,false))=Vm x y:=by
 unfold Vm;rcases h1:(Zc x).2 with _|_
 ·rw[Uk h1,Fj Vc];rfl
 rcases h2:(Zc y).2 with _|_
 ·rw[Uk h2,Fi Vc];rfl
 rfl
theorem Jm(x y:Fr)(w:World):Calls prog 155 #[jvv x y] w (fun e w'=>e= .returned (frv (Vm x y))∧Ex w w'):=by
 rw[←Zka];have k1:=fun w=>Yc.opn (Lu x w)
 have k2:=fun w=>Yc.opn (Lu y w)
 have k3:=fun w=>Yc.opn (Qd (Zc x).1 (Zc y).1 w)
 generalize Yo (Zc x).1 (Zc y).1=s at*;generalize Zc x=t at*;generalize Zc y=u at*;obtain⟨x1,x2,x3⟩:=x;obtain⟨y1,y2,y3⟩:=y;obtain⟨⟨s1,s2,s3⟩,sk⟩:=s;obtain⟨⟨t1,t2,t3⟩,tk⟩:=t;obtain⟨⟨u1,u2,u3⟩,uk⟩:=u;simp only[frv,Fr.v,jvv,Fr.none] at k1 k2 k3 ⊢;rcases tk with _|_
 ·try simp only[Bool.false_and,Bool.and_false,Bool.false_eq_true,if_false,Bool.true_and,Bool.and_true]
  have K1:=Zz k1;have K2:=Zz k2;have K3:=Zz k3;clear k1 k2 k3;obtain⟨hS,hC⟩:=s0 w;go_in;go_wp2_with ((with_reducible apply Zo.see w;first|exact K1.out _|exact K2.out _|exact K3.out _);clear hS hC;intro wn hS hC;simp only[Zr,Zq,Zy] at hC);exact Yp (by simp[results,results155,go_sem,hC]) rfl
 ·rcases uk with _|_
  ·try simp only[Bool.false_and,Bool.and_false,Bool.false_eq_true,if_false,Bool.true_and,Bool.and_true]
   have K1:=Zz k1;have K2:=Zz k2;have K3:=Zz k3;clear k1 k2 k3;obtain⟨hS,hC⟩:=s0 w;go_in;go_wp2_with ((with_reducible apply Zo.see w;first|exact K1.out _|exact K2.out _|exact K3.out _);clear hS hC;intro wn hS hC;simp only[Zr,Zq,Zy] at hC);exact Yp (by simp[results,results155,go_sem,hC]) rfl
  ·try simp only[Bool.and_self,if_true]
   have K1:=Zz k1;have K2:=Zz k2;have K3:=Zz k3;clear k1 k2 k3;obtain⟨hS,hC⟩:=s0 w;go_in;go_wp2_with ((with_reducible apply Zo.see w;first|exact K1.out _|exact K2.out _|exact K3.out _);clear hS hC;intro wn hS hC;simp only[Zr,Zq,Zy] at hC);exact Yp (by simp[results,results155,go_sem,hC]) rfl
theorem Zjz(m:M4)(x y:Fr)(w:World):Calls prog 213 #[m.v,jvv x y] w (fun e w'=>e= .returned (v2v (Ul m x y))∧Ex w w'):=by
 unfold Ul two;have kx:=fun w=>Iw m w
 have ky:=fun w=>En x y w
 have k1:=fun w=>Mm m.a x m.b y w
 have k2:=fun w=>Mm m.c x m.d y w
 generalize Xd m.a x m.b y=s at*;generalize Xd m.c x m.d y=t at*;generalize m.valid=vx at*;generalize (x.valid&&y.valid)=vy at*;obtain⟨⟨a1,a2,a3⟩,⟨b1,b2,b3⟩,⟨c1,c2,c3⟩,⟨d1,d2,d3⟩⟩:=m;obtain⟨x1,x2,x3⟩:=x;obtain⟨y1,y2,y3⟩:=y;obtain⟨⟨s1,s2,s3⟩,sk⟩:=s;obtain⟨⟨t1,t2,t3⟩,tk⟩:=t;simp only[v2v,M4.v,frv,Fr.v,jvv,Fr.none] at kx ky k1 k2 ⊢;rcases vx with _|_
 ·try simp only[Bool.false_and,Bool.and_false,Bool.false_eq_true,if_false,Bool.true_and,Bool.and_true]
  have KX:=Zz kx;have KY:=Zz ky;have K1:=Zz k1;have K2:=Zz k2;clear kx ky k1 k2;obtain⟨hS,hC⟩:=s0 w;go_in;go_wp2_with ((with_reducible apply Zo.see w;first|exact KX.out _|exact KY.out _|exact K1.out _|exact K2.out _);clear hS hC;intro wn hS hC;simp only[Zr,Zq,Zy] at hC);exact Yp (by simp[results,results213,go_sem,hC]) rfl
 ·rcases vy with _|_
  ·try simp only[Bool.false_and,Bool.and_false,Bool.false_eq_true,if_false,Bool.true_and,Bool.and_true]
   have KX:=Zz kx;have KY:=Zz ky;have K1:=Zz k1;have K2:=Zz k2;clear kx ky k1 k2;obtain⟨hS,hC⟩:=s0 w;go_in;go_wp2_with ((with_reducible apply Zo.see w;first|exact KX.out _|exact KY.out _|exact K1.out _|exact K2.out _);clear hS hC;intro wn hS hC;simp only[Zr,Zq,Zy] at hC);exact Yp (by simp[results,results213,go_sem,hC]) rfl
  ·rcases sk with _|_
   ·try simp only[Bool.false_and,Bool.and_false,Bool.false_eq_true,if_false,Bool.true_and,Bool.and_true]
    have KX:=Zz kx;have KY:=Zz ky;have K1:=Zz k1;have K2:=Zz k2;clear kx ky k1 k2;obtain⟨hS,hC⟩:=s0 w;go_in;go_wp2_with ((with_reducible apply Zo.see w;first|exact KX.out _|exact KY.out _|exact K1.out _|exact K2.out _);clear hS hC;intro wn hS hC;simp only[Zr,Zq,Zy] at hC);exact Yp (by simp[results,results213,go_sem,hC]) rfl
   ·rcases tk with _|_
    ·try simp only[Bool.false_and,Bool.and_false,Bool.false_eq_true,if_false,Bool.true_and,Bool.and_true]
     have KX:=Zz kx;have KY:=Zz ky;have K1:=Zz k1;have K2:=Zz k2;clear kx ky k1 k2;obtain⟨hS,hC⟩:=s0 w;go_in;go_wp2_with ((with_reducible apply Zo.see w;first|exact KX.out _|exact KY.out _|exact K1.out _|exact K2.out _);clear hS hC;intro wn hS hC;simp only[Zr,Zq,Zy] at hC);exact Yp (by simp[results,results213,go_sem,hC]) rfl
    ·try simp only[Bool.and_self,if_true]
     have KX:=Zz kx;have KY:=Zz ky;have K1:=Zz k1;have K2:=Zz k2;clear kx ky k1 k2;obtain⟨hS,hC⟩:=s0 w;go_in;go_wp2_with ((with_reducible apply Zo.see w;first|exact KX.out _|exact KY.out _|exact K1.out _|exact K2.out _);clear hS hC;intro wn hS hC;simp only[Zr,Zq,Zy] at hC);exact Yp (by simp[results,results213,go_sem,hC]) rfl
theorem Zyn(p q k:Int)(w:World):Calls prog 41 #[p,q,k] w (fun e w'=>e= .returned (m4v (Xq p q k))∧Ex w w'):=by
 have kr:=fun w=>Em p q w
 have ki:=fun w=>Tf k 0 3 w
 have hrd:=Oo p q;rcases h1:(Xu p q).2 with _|_
 ·have e:Xq p q k=(M4.none,false):=by unfold Xq;rw[←hrd,h1];rfl
  rw[e];generalize Xu p q=r at*;obtain⟨⟨⟨a1,a2,a3⟩,⟨b1,b2,b3⟩,⟨c1,c2,c3⟩,⟨d1,d2,d3⟩⟩,rk⟩:=r;simp only at h1;subst h1;simp only[m4v,M4.v,M4.none,Fr.none] at kr ⊢;clear e hrd ki;have KR:=Zz kr;clear kr;obtain⟨hS,hC⟩:=s0 w;go_in;go_wp2_with ((with_reducible apply Zo.see w;exact KR.out _);clear hS hC;intro w1 hS hC;simp only[Zr,Zq,Zy] at hC);exact Yp (by simp[results,results41,go_sem,hC]) rfl
 ·rcases h2:Xw k 0 3 with _|_
  ·have e:Xq p q k=(M4.none,false):=by unfold Xq;rw[h2,Bool.and_false];rfl
   rw[e];generalize Xu p q=r at*;obtain⟨⟨⟨a1,a2,a3⟩,⟨b1,b2,b3⟩,⟨c1,c2,c3⟩,⟨d1,d2,d3⟩⟩,rk⟩:=r;simp only at h1;subst h1;rw[h2] at ki;simp only[m4v,M4.v,M4.none,Fr.none] at kr ⊢;clear e hrd h2;have KR:=Zz kr;have KI:=Zz ki;clear kr ki;obtain⟨hS,hC⟩:=s0 w;go_in;go_wp2_with (first|((with_reducible apply Zo.see w;exact KR.out _);clear hS hC;intro w1 hS hC;simp only[Zr,Zq,Zy] at hC)|((with_reducible refine(KI.out _).mono ?_);rintro e wn ⟨rfl,rfl⟩));exact Yp (by simp[results,results41,go_sem,hC]) rfl
  ·have e:Xq p q k=(if (Yi (Xu p q).1 ⟨Fr.one,Fr.nul,Fr.nul,Yd k⟩).2&&(Yi (Yi (Xu p q).1 ⟨Fr.one,Fr.nul,Fr.nul,Yd k⟩).1 (Tx (Xu p q).1).1).2 then Yi (Yi (Xu p q).1 ⟨Fr.one,Fr.nul,Fr.nul,Yd k⟩).1 (Tx (Xu p q).1).1 else (M4.none,false)):=by unfold Xq;rw[←hrd,h1,h2];rfl
   rw[e];clear e;have hk:=Wj h2;rw[h2] at ki;clear h2;have kj:=fun w=>Eo (Xu p q).1 w
   have kp:=fun w=>Kf k hk.1 hk.2 w
   have ko:=fun w=>Zxi Fr.one (Yd k) w
   have kz:=fun w=>Kf 0 (by omega) (by omega) w
   have e0:(Yd 0).v= .agg #[.int .i64 1,oo, .int .i64 1]:=rfl;rw[e0] at kz;clear e0;have ka:=fun w=>Iv (Xu p q).1 ⟨Fr.one,Fr.nul,Fr.nul,Yd k⟩ w
   have kb:=fun w=>Iv (Yi (Xu p q).1 ⟨Fr.one,Fr.nul,Fr.nul,Yd k⟩).1 (Tx (Xu p q).1).1 w
   generalize Yi (Yi (Xu p q).1 ⟨Fr.one,Fr.nul,Fr.nul,Yd k⟩).1 (Tx (Xu p q).1).1=t at*;generalize Yi (Xu p q).1 ⟨Fr.one,Fr.nul,Fr.nul,Yd k⟩=g at*;generalize Tx (Xu p q).1=j at*;generalize Xu p q=r at*;generalize Yd k=f at*;obtain⟨f1,f2,f3⟩:=f;obtain⟨⟨⟨a1,a2,a3⟩,⟨b1,b2,b3⟩,⟨c1,c2,c3⟩,⟨d1,d2,d3⟩⟩,rk⟩:=r;obtain⟨⟨⟨ta1,ta2,ta3⟩,⟨tb1,tb2,tb3⟩,⟨tc1,tc2,tc3⟩,⟨td1,td2,td3⟩⟩,tk⟩:=t;obtain⟨⟨⟨ga1,ga2,ga3⟩,⟨gb1,gb2,gb3⟩,⟨gc1,gc2,gc3⟩,⟨gd1,gd2,gd3⟩⟩,gk⟩:=g;obtain⟨⟨⟨ja1,ja2,ja3⟩,⟨jb1,jb2,jb3⟩,⟨jc1,jc2,jc3⟩,⟨jd1,jd2,jd3⟩⟩,jk⟩:=j;simp only at h1;subst h1;clear hrd;simp only[m4v,M4.v,M4.none,Fr.none,Fr.v,Fr.one,Fr.nul] at kr ki kj ka kb kp ko kz ⊢;have KR:=Zz kr;have KI:=Zz ki;have KJ:=Zz kj;have KA:=Zz ka;have KB:=Zz kb;have KP:=Zz kp;have KO:=Zz ko;have KZ:=Zz kz;clear kr ki kj ka kb kp ko kz;obtain⟨hS,hC⟩:=s0 w;go_in;go_wp2_with (first|((with_reducible apply Zo.see w;exact KR.out _);clear hS hC;intro w1 hS hC;simp only[Zr,Zq,Zy] at hC)|((with_reducible refine(KI.out _).mono ?_);rintro e wn ⟨rfl,rfl⟩)|((with_reducible apply Zo.see w;exact KJ.out _);clear hS hC;intro w2 hS hC;simp only[Zr,Zq,Zy] at hC));have hS0:=Zo.alloc (h:=hS) (cs:=#[ja1,ja2,ja3,jb1,jb2,jb3,jc1,jc2,jc3,jd1,jd2,jd3]) (t:=79);refine Rv hS0 9 1 79 12 42 Oc #[ga1,ga2,ga3,gb1,gb2,gb3,gc1,gc2,gc3,gd1,gd2,gd3] (by kernel_rfl) (by decide) ?_;(apply Zp;rfl;intro b u B Q q;have hC:=B.sees.rd;simp only[Zr,Zq] at hC;go_wp2;exact q _ (Ex.refl _) B;exact⟨_,rfl⟩);(apply Zp;rfl;intro b u B Q q;go_wp2_with (with_reducible refine Yw (KZ.out _) fun wn hx=>?_);exact q _ hx (B.go hx);exact⟨_,rfl⟩);(apply Zp;rfl;intro b u B Q q;go_wp2;exact q _ (Ex.refl _) B;exact⟨_,rfl⟩);(apply Zp;rfl;intro b u B Q q;go_wp2_with (with_reducible refine Yw (KP.out _) fun wn hx=>?_);exact q _ hx (B.go hx);exact⟨_,rfl⟩);(apply Zp;rfl;intro b u B Q q;go_wp2_with (with_reducible refine Yw (KO.out _) fun wn hx=>?_);exact q _ hx (B.go hx);exact⟨_,rfl⟩);(apply Zp;rfl;intro b u B Q q;go_wp2_with (with_reducible refine Yw (KA.out _) fun wn hx=>?_);exact q _ hx (B.go hx);exact⟨_,rfl⟩);iterate 3 (apply Zp;rfl;intro b u B Q q;go_wp2;exact q _ (Ex.refl _) B;exact⟨_,rfl⟩)
   refine Zn ⟨⟨_,rfl,Mn⟩,⟨_,rfl,Wy Kh rfl (by kernel_rfl)⟩,show(12:Nat)<58 by decide,fun g0 wz hg0 hS=>?_⟩;simp only[Act.put,Zx,Zw,Zv,Nat.reduceAdd,List.drop_succ_cons,List.drop_zero];clear hS0;replace hC:=hS.rd;simp only[Zr,Zq] at hC;have z0:=hS.ex.size;rcases gk with _|_
   all_goals rcases tk with _|_
   all_goals
    go_wp2_with ((with_reducible apply Zo.see w;exact KB.out _);clear hS hC;intro w4 hS hC;simp only[Zr,Zq,Zy] at hC);exact Yp (by simp[results,results41,go_sem,hC]) rfl
end
section
open Go.RowKit

attribute [local go_sem] Zg Zf
attribute [local go_sem ↓] Go.wp_at_zero Go.wp_at_succ
theorem Zok(p q:Int)(w:World)[hG:Xz w](h1:(Xu p q).2=true):Calls prog 37 #[p,q,oo] w (fun e w'=>e= .returned (m4v (Xq p q 0))∧Ex w w'):=by
 have kr:=fun w=>Ru p q w
 have ki:=fun w=>Wu 0 0 3 w
 have hrd:=Oo p q;have h2:Xw 0 0 3=true:=by decide
 have e:Xq p q 0=(if (Yi (Xu p q).1 ⟨Fr.one,Fr.nul,Fr.nul,Yd 0⟩).2&&(Yi (Yi (Xu p q).1 ⟨Fr.one,Fr.nul,Fr.nul,Yd 0⟩).1 (Tx (Xu p q).1).1).2 then Yi (Yi (Xu p q).1 ⟨Fr.one,Fr.nul,Fr.nul,Yd 0⟩).1 (Tx (Xu p q).1).1 else (M4.none,false)):=by unfold Xq;rw[←hrd,h1,h2];rfl
 rw[e];clear e;rw[h2] at ki;clear h2;have kj:=fun w=>Pz (Xu p q).1 w
 have ka:=fun w=>Tp (Xu p q).1 ⟨Fr.one,Fr.nul,Fr.nul,Yd 0⟩ w
 have kb:=fun w=>Tp (Yi (Xu p q).1 ⟨Fr.one,Fr.nul,Fr.nul,Yd 0⟩).1 (Tx (Xu p q).1).1 w
 generalize Yi (Yi (Xu p q).1 ⟨Fr.one,Fr.nul,Fr.nul,Yd 0⟩).1 (Tx (Xu p q).1).1=t at*;generalize Yi (Xu p q).1 ⟨Fr.one,Fr.nul,Fr.nul,Yd 0⟩=g at*;generalize Tx (Xu p q).1=j at*;generalize Xu p q=r at*;obtain⟨⟨⟨a1,a2,a3⟩,⟨b1,b2,b3⟩,⟨c1,c2,c3⟩,⟨d1,d2,d3⟩⟩,rk⟩:=r;obtain⟨⟨⟨ta1,ta2,ta3⟩,⟨tb1,tb2,tb3⟩,⟨tc1,tc2,tc3⟩,⟨td1,td2,td3⟩⟩,tk⟩:=t;obtain⟨⟨⟨ga1,ga2,ga3⟩,⟨gb1,gb2,gb3⟩,⟨gc1,gc2,gc3⟩,⟨gd1,gd2,gd3⟩⟩,gk⟩:=g;obtain⟨⟨⟨ja1,ja2,ja3⟩,⟨jb1,jb2,jb3⟩,⟨jc1,jc2,jc3⟩,⟨jd1,jd2,jd3⟩⟩,jk⟩:=j;simp only at h1;subst h1;clear hrd;simp only[Yd,if_true,m4v,M4.v,M4.none,Fr.none,Fr.v,Fr.one,Fr.nul] at kr ki kj ka kb ⊢;have KR:=Zz kr;have KI:=Zz ki;have KJ:=Zz kj;have KA:=Zz ka;have KB:=Zz kb;clear kr ki kj ka kb;obtain⟨hS,hC⟩:=s0 w;go_in;go_wp2_with (first|((with_reducible apply Zo.see w;exact KR.out _);clear hS hC;intro w1 hS hC;simp only[Zr,Zq,Zy] at hC)|((with_reducible refine(KI.out _).mono ?_);rintro e wn ⟨rfl,rfl⟩));have hG1:=hG.ex ((Zo.alloc (h:=hS) (cs:=#[a1,a2,a3,b1,b2,b3,c1,c2,c3,d1,d2,d3]) (t:=79)).ex);have hS0:=Zo.alloc (h:=hS) (cs:=#[a1,a2,a3,b1,b2,b3,c1,c2,c3,d1,d2,d3]) (t:=79);refine Rv hS0 13 1 79 10 41 Oc #[ga1,ga2,ga3,gb1,gb2,gb3,gc1,gc2,gc3,gd1,gd2,gd3] (by kernel_rfl) (by decide) ?_;(apply Zp;rfl;intro b u B Q q;have hC:=B.sees.rd;simp only[Zr,Zq] at hC;go_wp2;exact q _ (Ex.refl _) B;exact⟨_,rfl⟩);iterate 8 (apply Zp;rfl;intro b u B Q q;have hg:=(hG1.ex B.sees.ex).rd;go_wp2;exact q _ (Ex.refl _) B;exact⟨_,rfl⟩)
 (apply Zp;rfl;intro b u B Q q;go_wp2_with (with_reducible refine Yw (KA.out _) fun wn hx=>?_);exact q _ hx (B.go hx);exact⟨_,rfl⟩);iterate 3 (apply Zp;rfl;intro b u B Q q;go_wp2;exact q _ (Ex.refl _) B;exact⟨_,rfl⟩)
 refine Zn ⟨⟨_,rfl,Mn⟩,⟨_,rfl,Wy Kh rfl (by kernel_rfl)⟩,show(10:Nat)<62 by decide,fun g0 wz hg0 hS=>?_⟩;simp only[Act.put,Zx,Zw,Zv,Nat.reduceAdd,List.drop_succ_cons,List.drop_zero];clear hS0;replace hC:=hS.rd;simp only[Zr,Zq] at hC;have z0:=hS.ex.size;rcases gk with _|_
 all_goals rcases tk with _|_
 all_goals
  go_wp2_with (first|((with_reducible apply Zo.see w;exact KB.out _);clear hS hC;intro w4 hS hC;simp only[Zr,Zq,Zy] at hC)|((with_reducible apply Zo.see w;exact KJ.out _);clear hS hC;intro w3 hS hC;simp only[Zr,Zq,Zy] at hC));exact Yp (by simp[results,results37,go_sem,hC]) rfl
theorem Zoj(p q:Int)(w:World)[hG:Xz w](h1:(Xu p q).2=true):Calls prog 37 #[p,q, .int .i64 1] w (fun e w'=>e= .returned (m4v (Xq p q 1))∧Ex w w'):=by
 have kr:=fun w=>Ru p q w
 have ki:=fun w=>Wu 1 0 3 w
 have hrd:=Oo p q;have h2:Xw 1 0 3=true:=by decide
 have e:Xq p q 1=(if (Yi (Xu p q).1 ⟨Fr.one,Fr.nul,Fr.nul,Yd 1⟩).2&&(Yi (Yi (Xu p q).1 ⟨Fr.one,Fr.nul,Fr.nul,Yd 1⟩).1 (Tx (Xu p q).1).1).2 then Yi (Yi (Xu p q).1 ⟨Fr.one,Fr.nul,Fr.nul,Yd 1⟩).1 (Tx (Xu p q).1).1 else (M4.none,false)):=by unfold Xq;rw[←hrd,h1,h2];rfl
 rw[e];clear e;rw[h2] at ki;clear h2;have kj:=fun w=>Pz (Xu p q).1 w
 have ka:=fun w=>Tp (Xu p q).1 ⟨Fr.one,Fr.nul,Fr.nul,Yd 1⟩ w
 have kb:=fun w=>Tp (Yi (Xu p q).1 ⟨Fr.one,Fr.nul,Fr.nul,Yd 1⟩).1 (Tx (Xu p q).1).1 w
 generalize Yi (Yi (Xu p q).1 ⟨Fr.one,Fr.nul,Fr.nul,Yd 1⟩).1 (Tx (Xu p q).1).1=t at*;generalize Yi (Xu p q).1 ⟨Fr.one,Fr.nul,Fr.nul,Yd 1⟩=g at*;generalize Tx (Xu p q).1=j at*;generalize Xu p q=r at*;obtain⟨⟨⟨a1,a2,a3⟩,⟨b1,b2,b3⟩,⟨c1,c2,c3⟩,⟨d1,d2,d3⟩⟩,rk⟩:=r;obtain⟨⟨⟨ta1,ta2,ta3⟩,⟨tb1,tb2,tb3⟩,⟨tc1,tc2,tc3⟩,⟨td1,td2,td3⟩⟩,tk⟩:=t;obtain⟨⟨⟨ga1,ga2,ga3⟩,⟨gb1,gb2,gb3⟩,⟨gc1,gc2,gc3⟩,⟨gd1,gd2,gd3⟩⟩,gk⟩:=g;obtain⟨⟨⟨ja1,ja2,ja3⟩,⟨jb1,jb2,jb3⟩,⟨jc1,jc2,jc3⟩,⟨jd1,jd2,jd3⟩⟩,jk⟩:=j;simp only at h1;subst h1;clear hrd;simp only[Yd,Int.one_ne_zero,if_true,if_false,m4v,M4.v,M4.none,Fr.none,Fr.v,Fr.one,Fr.nul] at kr ki kj ka kb ⊢;have KR:=Zz kr;have KI:=Zz ki;have KJ:=Zz kj;have KA:=Zz ka;have KB:=Zz kb;clear kr ki kj ka kb;obtain⟨hS,hC⟩:=s0 w;go_in;go_wp2_with (first|((with_reducible apply Zo.see w;exact KR.out _);clear hS hC;intro w1 hS hC;simp only[Zr,Zq,Zy] at hC)|((with_reducible refine(KI.out _).mono ?_);rintro e wn ⟨rfl,rfl⟩));have hG1:=hG.ex ((Zo.alloc (h:=hS) (cs:=#[a1,a2,a3,b1,b2,b3,c1,c2,c3,d1,d2,d3]) (t:=79)).ex);have hS0:=Zo.alloc (h:=hS) (cs:=#[a1,a2,a3,b1,b2,b3,c1,c2,c3,d1,d2,d3]) (t:=79);refine Rv hS0 13 1 79 10 41 Oc #[ga1,ga2,ga3,gb1,gb2,gb3,gc1,gc2,gc3,gd1,gd2,gd3] (by kernel_rfl) (by decide) ?_;(apply Zp;rfl;intro b u B Q q;have hC:=B.sees.rd;simp only[Zr,Zq] at hC;go_wp2;exact q _ (Ex.refl _) B;exact⟨_,rfl⟩);iterate 8 (apply Zp;rfl;intro b u B Q q;have hg:=(hG1.ex B.sees.ex).rd;go_wp2;exact q _ (Ex.refl _) B;exact⟨_,rfl⟩)
 (apply Zp;rfl;intro b u B Q q;go_wp2_with (with_reducible refine Yw (KA.out _) fun wn hx=>?_);exact q _ hx (B.go hx);exact⟨_,rfl⟩);iterate 3 (apply Zp;rfl;intro b u B Q q;go_wp2;exact q _ (Ex.refl _) B;exact⟨_,rfl⟩)
 refine Zn ⟨⟨_,rfl,Mn⟩,⟨_,rfl,Wy Kh rfl (by kernel_rfl)⟩,show(10:Nat)<62 by decide,fun g0 wz hg0 hS=>?_⟩;simp only[Act.put,Zx,Zw,Zv,Nat.reduceAdd,List.drop_succ_cons,List.drop_zero];clear hS0;replace hC:=hS.rd;simp only[Zr,Zq] at hC;have z0:=hS.ex.size;rcases gk with _|_
 all_goals rcases tk with _|_
 all_goals
  go_wp2_with (first|((with_reducible apply Zo.see w;exact KB.out _);clear hS hC;intro w4 hS hC;simp only[Zr,Zq,Zy] at hC)|((with_reducible apply Zo.see w;exact KJ.out _);clear hS hC;intro w3 hS hC;simp only[Zr,Zq,Zy] at hC));exact Yp (by simp[results,results37,go_sem,hC]) rfl
end
section
open Go.RowKit

attribute [local go_sem] Zg Zf
attribute [local go_sem ↓] Go.wp_at_zero Go.wp_at_succ
theorem Zoi(p q:Int)(w:World)[hG:Xz w](h1:(Xu p q).2=true):Calls prog 37 #[p,q, .int .i64 2] w (fun e w'=>e= .returned (m4v (Xq p q 2))∧Ex w w'):=by
 have kr:=fun w=>Ru p q w
 have ki:=fun w=>Wu 2 0 3 w
 have hrd:=Oo p q;have h2:Xw 2 0 3=true:=by decide
 have e:Xq p q 2=(if (Yi (Xu p q).1 ⟨Fr.one,Fr.nul,Fr.nul,Yd 2⟩).2&&(Yi (Yi (Xu p q).1 ⟨Fr.one,Fr.nul,Fr.nul,Yd 2⟩).1 (Tx (Xu p q).1).1).2 then Yi (Yi (Xu p q).1 ⟨Fr.one,Fr.nul,Fr.nul,Yd 2⟩).1 (Tx (Xu p q).1).1 else (M4.none,false)):=by unfold Xq;rw[←hrd,h1,h2];rfl
 rw[e];clear e;rw[h2] at ki;clear h2;have kj:=fun w=>Pz (Xu p q).1 w
 have ka:=fun w=>Tp (Xu p q).1 ⟨Fr.one,Fr.nul,Fr.nul,Yd 2⟩ w
 have kb:=fun w=>Tp (Yi (Xu p q).1 ⟨Fr.one,Fr.nul,Fr.nul,Yd 2⟩).1 (Tx (Xu p q).1).1 w
 generalize Yi (Yi (Xu p q).1 ⟨Fr.one,Fr.nul,Fr.nul,Yd 2⟩).1 (Tx (Xu p q).1).1=t at*;generalize Yi (Xu p q).1 ⟨Fr.one,Fr.nul,Fr.nul,Yd 2⟩=g at*;generalize Tx (Xu p q).1=j at*;generalize Xu p q=r at*;obtain⟨⟨⟨a1,a2,a3⟩,⟨b1,b2,b3⟩,⟨c1,c2,c3⟩,⟨d1,d2,d3⟩⟩,rk⟩:=r;obtain⟨⟨⟨ta1,ta2,ta3⟩,⟨tb1,tb2,tb3⟩,⟨tc1,tc2,tc3⟩,⟨td1,td2,td3⟩⟩,tk⟩:=t;obtain⟨⟨⟨ga1,ga2,ga3⟩,⟨gb1,gb2,gb3⟩,⟨gc1,gc2,gc3⟩,⟨gd1,gd2,gd3⟩⟩,gk⟩:=g;obtain⟨⟨⟨ja1,ja2,ja3⟩,⟨jb1,jb2,jb3⟩,⟨jc1,jc2,jc3⟩,⟨jd1,jd2,jd3⟩⟩,jk⟩:=j;simp only at h1;subst h1;clear hrd;simp only[Yd,if_true,if_false,show ¬((2:Int)=0) by decide,show ¬((2:Int)=1) by decide,m4v,M4.v,M4.none,Fr.none,Fr.v,Fr.one,Fr.nul] at kr ki kj ka kb ⊢;have KR:=Zz kr;have KI:=Zz ki;have KJ:=Zz kj;have KA:=Zz ka;have KB:=Zz kb;clear kr ki kj ka kb;obtain⟨hS,hC⟩:=s0 w;go_in;go_wp2_with (first|((with_reducible apply Zo.see w;exact KR.out _);clear hS hC;intro w1 hS hC;simp only[Zr,Zq,Zy] at hC)|((with_reducible refine(KI.out _).mono ?_);rintro e wn ⟨rfl,rfl⟩));have hG1:=hG.ex ((Zo.alloc (h:=hS) (cs:=#[a1,a2,a3,b1,b2,b3,c1,c2,c3,d1,d2,d3]) (t:=79)).ex);have hS0:=Zo.alloc (h:=hS) (cs:=#[a1,a2,a3,b1,b2,b3,c1,c2,c3,d1,d2,d3]) (t:=79);refine Rv hS0 13 1 79 10 41 Oc #[ga1,ga2,ga3,gb1,gb2,gb3,gc1,gc2,gc3,gd1,gd2,gd3] (by kernel_rfl) (by decide) ?_;(apply Zp;rfl;intro b u B Q q;have hC:=B.sees.rd;simp only[Zr,Zq] at hC;go_wp2;exact q _ (Ex.refl _) B;exact⟨_,rfl⟩);iterate 8 (apply Zp;rfl;intro b u B Q q;have hg:=(hG1.ex B.sees.ex).rd;go_wp2;exact q _ (Ex.refl _) B;exact⟨_,rfl⟩)
 (apply Zp;rfl;intro b u B Q q;go_wp2_with (with_reducible refine Yw (KA.out _) fun wn hx=>?_);exact q _ hx (B.go hx);exact⟨_,rfl⟩);iterate 3 (apply Zp;rfl;intro b u B Q q;go_wp2;exact q _ (Ex.refl _) B;exact⟨_,rfl⟩)
 refine Zn ⟨⟨_,rfl,Mn⟩,⟨_,rfl,Wy Kh rfl (by kernel_rfl)⟩,show(10:Nat)<62 by decide,fun g0 wz hg0 hS=>?_⟩;simp only[Act.put,Zx,Zw,Zv,Nat.reduceAdd,List.drop_succ_cons,List.drop_zero];clear hS0;replace hC:=hS.rd;simp only[Zr,Zq] at hC;have z0:=hS.ex.size;rcases gk with _|_
 all_goals rcases tk with _|_
 all_goals
  go_wp2_with (first|((with_reducible apply Zo.see w;exact KB.out _);clear hS hC;intro w4 hS hC;simp only[Zr,Zq,Zy] at hC)|((with_reducible apply Zo.see w;exact KJ.out _);clear hS hC;intro w3 hS hC;simp only[Zr,Zq,Zy] at hC));exact Yp (by simp[results,results37,go_sem,hC]) rfl
theorem Zoh(p q:Int)(w:World)[hG:Xz w](h1:(Xu p q).2=true):Calls prog 37 #[p,q, .int .i64 3] w (fun e w'=>e= .returned (m4v (Xq p q 3))∧Ex w w'):=by
 have kr:=fun w=>Ru p q w
 have ki:=fun w=>Wu 3 0 3 w
 have hrd:=Oo p q;have h2:Xw 3 0 3=true:=by decide
 have e:Xq p q 3=(if (Yi (Xu p q).1 ⟨Fr.one,Fr.nul,Fr.nul,Yd 3⟩).2&&(Yi (Yi (Xu p q).1 ⟨Fr.one,Fr.nul,Fr.nul,Yd 3⟩).1 (Tx (Xu p q).1).1).2 then Yi (Yi (Xu p q).1 ⟨Fr.one,Fr.nul,Fr.nul,Yd 3⟩).1 (Tx (Xu p q).1).1 else (M4.none,false)):=by unfold Xq;rw[←hrd,h1,h2];rfl
 rw[e];clear e;rw[h2] at ki;clear h2;have kj:=fun w=>Pz (Xu p q).1 w
 have ka:=fun w=>Tp (Xu p q).1 ⟨Fr.one,Fr.nul,Fr.nul,Yd 3⟩ w
 have kb:=fun w=>Tp (Yi (Xu p q).1 ⟨Fr.one,Fr.nul,Fr.nul,Yd 3⟩).1 (Tx (Xu p q).1).1 w
 generalize Yi (Yi (Xu p q).1 ⟨Fr.one,Fr.nul,Fr.nul,Yd 3⟩).1 (Tx (Xu p q).1).1=t at*;generalize Yi (Xu p q).1 ⟨Fr.one,Fr.nul,Fr.nul,Yd 3⟩=g at*;generalize Tx (Xu p q).1=j at*;generalize Xu p q=r at*;obtain⟨⟨⟨a1,a2,a3⟩,⟨b1,b2,b3⟩,⟨c1,c2,c3⟩,⟨d1,d2,d3⟩⟩,rk⟩:=r;obtain⟨⟨⟨ta1,ta2,ta3⟩,⟨tb1,tb2,tb3⟩,⟨tc1,tc2,tc3⟩,⟨td1,td2,td3⟩⟩,tk⟩:=t;obtain⟨⟨⟨ga1,ga2,ga3⟩,⟨gb1,gb2,gb3⟩,⟨gc1,gc2,gc3⟩,⟨gd1,gd2,gd3⟩⟩,gk⟩:=g;obtain⟨⟨⟨ja1,ja2,ja3⟩,⟨jb1,jb2,jb3⟩,⟨jc1,jc2,jc3⟩,⟨jd1,jd2,jd3⟩⟩,jk⟩:=j;simp only at h1;subst h1;clear hrd;simp only[Yd,if_false,show ¬((3:Int)=0) by decide,show ¬((3:Int)=1) by decide,show ¬((3:Int)=2) by decide,m4v,M4.v,M4.none,Fr.none,Fr.v,Fr.one,Fr.nul] at kr ki kj ka kb ⊢;have KR:=Zz kr;have KI:=Zz ki;have KJ:=Zz kj;have KA:=Zz ka;have KB:=Zz kb;clear kr ki kj ka kb;obtain⟨hS,hC⟩:=s0 w;go_in;go_wp2_with (first|((with_reducible apply Zo.see w;exact KR.out _);clear hS hC;intro w1 hS hC;simp only[Zr,Zq,Zy] at hC)|((with_reducible refine(KI.out _).mono ?_);rintro e wn ⟨rfl,rfl⟩));have hG1:=hG.ex ((Zo.alloc (h:=hS) (cs:=#[a1,a2,a3,b1,b2,b3,c1,c2,c3,d1,d2,d3]) (t:=79)).ex);have hS0:=Zo.alloc (h:=hS) (cs:=#[a1,a2,a3,b1,b2,b3,c1,c2,c3,d1,d2,d3]) (t:=79);refine Rv hS0 13 1 79 10 41 Oc #[ga1,ga2,ga3,gb1,gb2,gb3,gc1,gc2,gc3,gd1,gd2,gd3] (by kernel_rfl) (by decide) ?_;(apply Zp;rfl;intro b u B Q q;have hC:=B.sees.rd;simp only[Zr,Zq] at hC;go_wp2;exact q _ (Ex.refl _) B;exact⟨_,rfl⟩);iterate 8 (apply Zp;rfl;intro b u B Q q;have hg:=(hG1.ex B.sees.ex).rd;go_wp2;exact q _ (Ex.refl _) B;exact⟨_,rfl⟩)
 (apply Zp;rfl;intro b u B Q q;go_wp2_with (with_reducible refine Yw (KA.out _) fun wn hx=>?_);exact q _ hx (B.go hx);exact⟨_,rfl⟩);iterate 3 (apply Zp;rfl;intro b u B Q q;go_wp2;exact q _ (Ex.refl _) B;exact⟨_,rfl⟩)
 refine Zn ⟨⟨_,rfl,Mn⟩,⟨_,rfl,Wy Kh rfl (by kernel_rfl)⟩,show(10:Nat)<62 by decide,fun g0 wz hg0 hS=>?_⟩;simp only[Act.put,Zx,Zw,Zv,Nat.reduceAdd,List.drop_succ_cons,List.drop_zero];clear hS0;replace hC:=hS.rd;simp only[Zr,Zq] at hC;have z0:=hS.ex.size;rcases gk with _|_
 all_goals rcases tk with _|_
 all_goals
  go_wp2_with (first|((with_reducible apply Zo.see w;exact KB.out _);clear hS hC;intro w4 hS hC;simp only[Zr,Zq,Zy] at hC)|((with_reducible apply Zo.see w;exact KJ.out _);clear hS hC;intro w3 hS hC;simp only[Zr,Zq,Zy] at hC));exact Yp (by simp[results,results37,go_sem,hC]) rfl
end
section
open Go.RowKit

theorem Zym(p q k:Int)(w:World)[hG:Xz w]:Calls prog 37 #[p,q,k] w (fun e w'=>e= .returned (m4v (Xq p q k))∧Ex w w'):=by
 have kr:=fun w=>Ru p q w
 have ki:=fun w=>Wu k 0 3 w
 have hrd:=Oo p q;rcases h1:(Xu p q).2 with _|_
 ·have e:Xq p q k=(M4.none,false):=by unfold Xq;rw[←hrd,h1];rfl
  rw[e];generalize Xu p q=r at*;obtain⟨⟨⟨a1,a2,a3⟩,⟨b1,b2,b3⟩,⟨c1,c2,c3⟩,⟨d1,d2,d3⟩⟩,rk⟩:=r;simp only at h1;subst h1;simp only[m4v,M4.v,M4.none,Fr.none] at kr ⊢;clear e hrd ki;have KR:=Zz kr;clear kr;obtain⟨hS,hC⟩:=s0 w;go_in;go_wp2_with ((with_reducible apply Zo.see w;exact KR.out _);clear hS hC;intro w1 hS hC;simp only[Zr,Zq,Zy] at hC);exact Yp (by simp[results,results37,go_sem,hC]) rfl
 ·rcases h2:Xw k 0 3 with _|_
  ·have e:Xq p q k=(M4.none,false):=by unfold Xq;rw[h2,Bool.and_false];rfl
   rw[e];generalize Xu p q=r at*;obtain⟨⟨⟨a1,a2,a3⟩,⟨b1,b2,b3⟩,⟨c1,c2,c3⟩,⟨d1,d2,d3⟩⟩,rk⟩:=r;simp only at h1;subst h1;rw[h2] at ki;simp only[m4v,M4.v,M4.none,Fr.none] at kr ⊢;clear e hrd h2;have KR:=Zz kr;have KI:=Zz ki;clear kr ki;obtain⟨hS,hC⟩:=s0 w;go_in;go_wp2_with (first|((with_reducible apply Zo.see w;exact KR.out _);clear hS hC;intro w1 hS hC;simp only[Zr,Zq,Zy] at hC)|((with_reducible refine(KI.out _).mono ?_);rintro e wn ⟨rfl,rfl⟩));exact Yp (by simp[results,results37,go_sem,hC]) rfl
  ·have hk:=Wj h2;clear kr ki hrd;obtain rfl|rfl|rfl|rfl:k=0∨k=1∨k=2∨k=3:=by omega
   ·exact Zok p q w h1
   ·exact Zoj p q w h1
   ·exact Zoi p q w h1
   ·exact Zoh p q w h1
end
section
open Go.RowKit

attribute [local go_sem] Zg Zf
theorem Am{W w:World}{bs ps pa pv:Nat}{bad:Bool}{r:Nat×TypeId×Av}{L:Xx}{a1 a2 a3 b1 b2 b3 c1 c2 c3 d1 d2 d3 x1 x2 x3 y1 y2 y3 z1 z2 z3:Int}{k:Bool}(hB:Zl W w bs bad ((ps,90,#[.pointer (some ⟨bs,0,none⟩)])::r::(pv,39,#[x1,x2,x3,y1,y2,y3])::(pa,79,#[a1,a2,a3,b1,b2,b3,c1,c2,c3,d1,d2,d3])::L))(hr:Xd ⟨a1,a2,a3⟩ ⟨x1,x2,x3⟩ ⟨b1,b2,b3⟩ ⟨y1,y2,y3⟩=(⟨z1,z2,z3⟩,k)):Calls prog 203 #[oo, .pointer (some ⟨ps,0,none⟩), .pointer (some ⟨pa,0,none⟩), .pointer (some ⟨pv,0,none⟩)] w (fun e w'=>e= .returned (.agg #[z1,z2,z3])∧Zl W w' bs (bad|| !k) ((ps,90,#[.pointer (some ⟨bs,0,none⟩)])::r::(pv,39,#[x1,x2,x3,y1,y2,y3])::(pa,79,#[a1,a2,a3,b1,b2,b3,c1,c2,c3,d1,d2,d3])::L)∧Sm bs w w'):=by
 have hfo:=Oq ⟨a1,a2,a3⟩ ⟨x1,x2,x3⟩ ⟨b1,b2,b3⟩ ⟨y1,y2,y3⟩ bad;rcases hss:Zk ⟨a1,a2,a3⟩ ⟨x1,x2,x3⟩ with⟨⟨s1,s2,s3⟩,sk⟩;rcases htt:Zk ⟨b1,b2,b3⟩ ⟨y1,y2,y3⟩ with⟨⟨t1,t2,t3⟩,tk⟩;rcases huu:Yo ⟨s1,s2,s3⟩ ⟨t1,t2,t3⟩ with⟨⟨u1,u2,u3⟩,uk⟩;have hf:Xd ⟨a1,a2,a3⟩ ⟨x1,x2,x3⟩ ⟨b1,b2,b3⟩ ⟨y1,y2,y3⟩=(⟨u1,u2,u3⟩,uk):=by
  unfold Xd;rw[hss,htt];exact huu
 rw[hf,hss,htt] at hfo;simp only at hfo;rw[hf] at hr;simp only[Prod.mk.injEq,Fr.mk.injEq] at hr;obtain⟨⟨rfl,rfl,rfl⟩,rfl⟩:=hr;have HSS:=Zz hss;have HTT:=Zz htt;have HUU:=Zz huu;have HFO:=Zz hfo;clear hss htt huu hfo;clear hf;have hS:Zl w w bs bad [(ps,90,#[.pointer (some ⟨bs,0,none⟩)]),(pv,39,#[x1,x2,x3,y1,y2,y3]),(pa,79,#[a1,a2,a3,b1,b2,b3,c1,c2,c3,d1,d2,d3])]:=(((Zl.init hB.sum).put hB.boxes.2.2.2.1 (hB.far _ (.tail _ (.tail _ (.tail _ (.head _)))))).put hB.boxes.2.2.1 (hB.far _ (.tail _ (.tail _ (.head _))))).put hB.boxes.1 (hB.far _ (.head _));have hB0:=hB;clear hB;have hC:=hS.rd;simp only[Zr,Zq] at hC;have m1:w.heap.size≠ps:=Nat.ne_of_gt hS.boxes.1.lt;have m2:w.heap.size≠pv:=Nat.ne_of_gt hS.boxes.2.1.lt;have m3:w.heap.size≠pa:=Nat.ne_of_gt hS.boxes.2.2.1.lt;have m4:w.heap.size≠bs:=Nat.ne_of_gt hS.sum.lt;have q0:IntKind.i64.wrap 0=0:=by decide
 have q1:IntKind.i64.wrap 1=1:=by decide
 have q2:IntKind.i64.wrap 2=2:=by decide
 have q3:IntKind.i64.wrap 3=3:=by decide
 go_in;go_wp2_with fail;refine Ux (fun b w'=>Zl w w' _ b _) 21 _ (by kernel_rfl) (Zl.drewW (Zl.alloc (h:=hS))) (by exact fun _ _ _ _ _ h=>h) ?_;iterate 9 (apply Zp;rfl;intro b u B Q q;have hS:=B;have hC:=hS.rd;simp only[Zr,Zq] at hC;go_wp2;exact q _ trivial B;exact⟨_,rfl⟩)
 (apply Zi;rfl;intro b u B Q q;go_wp2_with ((with_reducible refine(Ye B HSS.out).mono ?_);rintro e wn ⟨rfl,hN,hM⟩);exact q _ trivial hN;exact⟨_,rfl⟩);iterate 9 (apply Zp;rfl;intro b u B Q q;have hS:=B;have hC:=hS.rd;simp only[Zr,Zq] at hC;go_wp2;exact q _ trivial B;exact⟨_,rfl⟩)
 (apply Zi;rfl;intro b u B Q q;go_wp2_with ((with_reducible refine(Ye B HTT.out).mono ?_);rintro e wn ⟨rfl,hN,hM⟩);exact q _ trivial hN;exact⟨_,rfl⟩);(apply Zi;rfl;intro b u B Q q;go_wp2_with ((with_reducible refine(Rj B HUU.out).mono ?_);rintro e wn ⟨rfl,hN,hM⟩);exact q _ trivial hN;exact⟨_,rfl⟩);refine Zn ?_;intro wz hz;rw[HFO.out] at hz;replace hC:=hz.rd;simp only[Zr,Zq] at hC;go_wp2_with fail;refine Zu ?_ rfl ⟨rfl,?_,?_⟩
 ·simp[results,results203,go_sem,hC]
 ·refine hB0.call ?_ ?_
  ·repeat' (first
    |exact hz.sm
    |refine Sm.setNew ?_ (by simp) _)
  ·repeat' (first
    |exact hz.sum
    |refine Box.far ?_ (by simp;omega) _)
 ·repeat' (first
   |exact hz.sm
   |refine Sm.setNew ?_ (by simp) _)
theorem Al{W w:World}{bs ps pa pv:Nat}{bad:Bool}{r:Nat×TypeId×Av}{L:Xx}{a1 a2 a3 b1 b2 b3 c1 c2 c3 d1 d2 d3 x1 x2 x3 y1 y2 y3 z1 z2 z3:Int}{k:Bool}(hB:Zl W w bs bad ((ps,90,#[.pointer (some ⟨bs,0,none⟩)])::r::(pv,39,#[x1,x2,x3,y1,y2,y3])::(pa,79,#[a1,a2,a3,b1,b2,b3,c1,c2,c3,d1,d2,d3])::L))(hr:Xd ⟨c1,c2,c3⟩ ⟨x1,x2,x3⟩ ⟨d1,d2,d3⟩ ⟨y1,y2,y3⟩=(⟨z1,z2,z3⟩,k)):Calls prog 203 #[.int .i64 1, .pointer (some ⟨ps,0,none⟩), .pointer (some ⟨pa,0,none⟩), .pointer (some ⟨pv,0,none⟩)] w (fun e w'=>e= .returned (.agg #[z1,z2,z3])∧Zl W w' bs (bad|| !k) ((ps,90,#[.pointer (some ⟨bs,0,none⟩)])::r::(pv,39,#[x1,x2,x3,y1,y2,y3])::(pa,79,#[a1,a2,a3,b1,b2,b3,c1,c2,c3,d1,d2,d3])::L)∧Sm bs w w'):=by
 have hfo:=Oq ⟨c1,c2,c3⟩ ⟨x1,x2,x3⟩ ⟨d1,d2,d3⟩ ⟨y1,y2,y3⟩ bad;rcases hss:Zk ⟨c1,c2,c3⟩ ⟨x1,x2,x3⟩ with⟨⟨s1,s2,s3⟩,sk⟩;rcases htt:Zk ⟨d1,d2,d3⟩ ⟨y1,y2,y3⟩ with⟨⟨t1,t2,t3⟩,tk⟩;rcases huu:Yo ⟨s1,s2,s3⟩ ⟨t1,t2,t3⟩ with⟨⟨u1,u2,u3⟩,uk⟩;have hf:Xd ⟨c1,c2,c3⟩ ⟨x1,x2,x3⟩ ⟨d1,d2,d3⟩ ⟨y1,y2,y3⟩=(⟨u1,u2,u3⟩,uk):=by
  unfold Xd;rw[hss,htt];exact huu
 rw[hf,hss,htt] at hfo;simp only at hfo;rw[hf] at hr;simp only[Prod.mk.injEq,Fr.mk.injEq] at hr;obtain⟨⟨rfl,rfl,rfl⟩,rfl⟩:=hr;have HSS:=Zz hss;have HTT:=Zz htt;have HUU:=Zz huu;have HFO:=Zz hfo;clear hss htt huu hfo;clear hf;have hS:Zl w w bs bad [(ps,90,#[.pointer (some ⟨bs,0,none⟩)]),(pv,39,#[x1,x2,x3,y1,y2,y3]),(pa,79,#[a1,a2,a3,b1,b2,b3,c1,c2,c3,d1,d2,d3])]:=(((Zl.init hB.sum).put hB.boxes.2.2.2.1 (hB.far _ (.tail _ (.tail _ (.tail _ (.head _)))))).put hB.boxes.2.2.1 (hB.far _ (.tail _ (.tail _ (.head _))))).put hB.boxes.1 (hB.far _ (.head _));have hB0:=hB;clear hB;have hC:=hS.rd;simp only[Zr,Zq] at hC;have m1:w.heap.size≠ps:=Nat.ne_of_gt hS.boxes.1.lt;have m2:w.heap.size≠pv:=Nat.ne_of_gt hS.boxes.2.1.lt;have m3:w.heap.size≠pa:=Nat.ne_of_gt hS.boxes.2.2.1.lt;have m4:w.heap.size≠bs:=Nat.ne_of_gt hS.sum.lt;have q0:IntKind.i64.wrap 0=0:=by decide
 have q1:IntKind.i64.wrap 1=1:=by decide
 have q2:IntKind.i64.wrap 2=2:=by decide
 have q3:IntKind.i64.wrap 3=3:=by decide
 go_in;go_wp2_with fail;refine Ux (fun b w'=>Zl w w' _ b _) 21 _ (by kernel_rfl) (Zl.drewW (Zl.alloc (h:=hS))) (by exact fun _ _ _ _ _ h=>h) ?_;iterate 9 (apply Zp;rfl;intro b u B Q q;have hS:=B;have hC:=hS.rd;simp only[Zr,Zq] at hC;go_wp2;exact q _ trivial B;exact⟨_,rfl⟩)
 (apply Zi;rfl;intro b u B Q q;go_wp2_with ((with_reducible refine(Ye B HSS.out).mono ?_);rintro e wn ⟨rfl,hN,hM⟩);exact q _ trivial hN;exact⟨_,rfl⟩);iterate 9 (apply Zp;rfl;intro b u B Q q;have hS:=B;have hC:=hS.rd;simp only[Zr,Zq] at hC;go_wp2;exact q _ trivial B;exact⟨_,rfl⟩)
 (apply Zi;rfl;intro b u B Q q;go_wp2_with ((with_reducible refine(Ye B HTT.out).mono ?_);rintro e wn ⟨rfl,hN,hM⟩);exact q _ trivial hN;exact⟨_,rfl⟩);(apply Zi;rfl;intro b u B Q q;go_wp2_with ((with_reducible refine(Rj B HUU.out).mono ?_);rintro e wn ⟨rfl,hN,hM⟩);exact q _ trivial hN;exact⟨_,rfl⟩);refine Zn ?_;intro wz hz;rw[HFO.out] at hz;replace hC:=hz.rd;simp only[Zr,Zq] at hC;go_wp2_with fail;refine Zu ?_ rfl ⟨rfl,?_,?_⟩
 ·simp[results,results203,go_sem,hC]
 ·refine hB0.call ?_ ?_
  ·repeat' (first
    |exact hz.sm
    |refine Sm.setNew ?_ (by simp) _)
  ·repeat' (first
    |exact hz.sum
    |refine Box.far ?_ (by simp;omega) _)
 ·repeat' (first
   |exact hz.sm
   |refine Sm.setNew ?_ (by simp) _)
theorem Zfk{a b:Bool}(h:(a&&b)=false):(((false|| !true)|| !a)|| !b)=true:=by
 cases a<;>cases b<;>first|rfl|cases h
theorem Zfj(a b:Bool):(((false|| !false)|| !a)|| !b)=true:=by simp
theorem Zjj(m:M4)(x y:Fr)(w:World):Calls prog 141 #[m.v,jvv x y] w (fun e w'=>e= .returned (v2v (Ul m x y))∧Ex w w'):=by
 have kx:=fun w=>Ix m w
 have ky:=fun w=>Qa x y w
 unfold Ul two;generalize m.valid=vx at*;generalize (x.valid&&y.valid)=vy at*;obtain⟨⟨a1,a2,a3⟩,⟨b1,b2,b3⟩,⟨c1,c2,c3⟩,⟨d1,d2,d3⟩⟩:=m;obtain⟨x1,x2,x3⟩:=x;obtain⟨y1,y2,y3⟩:=y;simp only[M4.v,jvv] at kx ky ⊢;rcases hss:Xd ⟨a1,a2,a3⟩ ⟨x1,x2,x3⟩ ⟨b1,b2,b3⟩ ⟨y1,y2,y3⟩ with⟨⟨s1,s2,s3⟩,sk⟩;rcases htt:Xd ⟨c1,c2,c3⟩ ⟨x1,x2,x3⟩ ⟨d1,d2,d3⟩ ⟨y1,y2,y3⟩ with⟨⟨t1,t2,t3⟩,tk⟩;simp only;rcases vx with _|_
 ·simp only[v2v,jvv,Fr.none,Bool.false_and,Bool.and_false,Bool.false_eq_true,if_false];have HSS:=Zz hss;have HTT:=Zz htt;have KX:=Zz kx;have KY:=Zz ky;clear hss htt kx ky;obtain⟨hS,hC⟩:=s0 w;go_in;go_wp2_with (first|((with_reducible apply Zl.see w;first|exact KX.out _|exact KY.out _);clear hS hC;intro wn hS hC;(try simp only[Zy] at hS hC);simp only[Zr,Zq] at hC)|(go_at_call 46;(with_reducible refine(Uc w).mono ?_);rintro e wn ⟨rfl,hS⟩;have hC:=hS.rd;simp only[Zr,Zq] at hC));refine Ux (fun b w'=>Zl w w' _ b _) 6 _ (by kernel_rfl) ((Zl.alloc (h:=hS)).drewW) (by exact fun _ _ _ _ _ h=>h) ?_;iterate 2 (apply Zp;rfl;intro b u B Q q;have hS:=B;have hC:=hS.rd;simp only[Zr,Zq] at hC;go_wp2;exact q _ trivial B;exact⟨_,rfl⟩)
  (apply Zi;rfl;intro b u B Q q;go_wp2_with ((with_reducible refine(Am B HSS.out).mono ?_);rintro e wn ⟨rfl,hN,hM⟩);exact q _ trivial hN;exact⟨_,rfl⟩);(apply Zp;rfl;intro b u B Q q;go_wp2;exact q _ trivial B;exact⟨_,rfl⟩);(apply Zi;rfl;intro b u B Q q;go_wp2_with ((with_reducible refine(Al B HTT.out).mono ?_);rintro e wn ⟨rfl,hN,hM⟩);exact q _ trivial hN;exact⟨_,rfl⟩);(apply Zp;rfl;intro b u B Q q;go_wp2;exact q _ trivial B;exact⟨_,rfl⟩);refine Zn ?_;intro wz hz;rw[Zfj] at hz;go_wp2_with ((with_reducible refine(Va _ _ _ _ _ _ _ _ hz.sum).mono ?_);rintro e wn ⟨rfl,hx⟩;have hS:=Zl.ex hz hx;have hC:=hS.rd;simp only[Zr,Zq] at hC;have hE:=hS.rel (by omega));have:=Exi.mk hE
  exact Yp (by simp[results,results141,go_sem,hC]) rfl
 ·rcases vy with _|_
  ·simp only[v2v,jvv,Fr.none,Bool.false_and,Bool.and_false,Bool.false_eq_true,if_false];have HSS:=Zz hss;have HTT:=Zz htt;have KX:=Zz kx;have KY:=Zz ky;clear hss htt kx ky;obtain⟨hS,hC⟩:=s0 w;go_in;go_wp2_with (first|((with_reducible apply Zl.see w;first|exact KX.out _|exact KY.out _);clear hS hC;intro wn hS hC;(try simp only[Zy] at hS hC);simp only[Zr,Zq] at hC)|(go_at_call 46;(with_reducible refine(Uc w).mono ?_);rintro e wn ⟨rfl,hS⟩;have hC:=hS.rd;simp only[Zr,Zq] at hC));refine Ux (fun b w'=>Zl w w' _ b _) 6 _ (by kernel_rfl) ((Zl.alloc (h:=hS)).drewW) (by exact fun _ _ _ _ _ h=>h) ?_;iterate 2 (apply Zp;rfl;intro b u B Q q;have hS:=B;have hC:=hS.rd;simp only[Zr,Zq] at hC;go_wp2;exact q _ trivial B;exact⟨_,rfl⟩)
   (apply Zi;rfl;intro b u B Q q;go_wp2_with ((with_reducible refine(Am B HSS.out).mono ?_);rintro e wn ⟨rfl,hN,hM⟩);exact q _ trivial hN;exact⟨_,rfl⟩);(apply Zp;rfl;intro b u B Q q;go_wp2;exact q _ trivial B;exact⟨_,rfl⟩);(apply Zi;rfl;intro b u B Q q;go_wp2_with ((with_reducible refine(Al B HTT.out).mono ?_);rintro e wn ⟨rfl,hN,hM⟩);exact q _ trivial hN;exact⟨_,rfl⟩);(apply Zp;rfl;intro b u B Q q;go_wp2;exact q _ trivial B;exact⟨_,rfl⟩);refine Zn ?_;intro wz hz;rw[Zfj] at hz;go_wp2_with ((with_reducible refine(Va _ _ _ _ _ _ _ _ hz.sum).mono ?_);rintro e wn ⟨rfl,hx⟩;have hS:=Zl.ex hz hx;have hC:=hS.rd;simp only[Zr,Zq] at hC;have hE:=hS.rel (by omega));have:=Exi.mk hE
   exact Yp (by simp[results,results141,go_sem,hC]) rfl
  ·rcases hK:(sk&&tk) with _|_
   all_goals
    first|(have HK:=Zz (Zfk hK);(have e:(true&&true&&sk&&tk)=false:=by rw[Bool.and_self,Bool.true_and];exact hK);rw[e];simp only[v2v,jvv,Fr.none,Bool.false_eq_true,if_false];clear e hK)|(simp only[Bool.and_eq_true] at hK;obtain⟨rfl,rfl⟩:=hK;simp only[v2v,jvv,Bool.and_self,if_true])
    have HSS:=Zz hss;have HTT:=Zz htt;have KX:=Zz kx;have KY:=Zz ky;clear hss htt kx ky;obtain⟨hS,hC⟩:=s0 w;go_in;go_wp2_with (first|((with_reducible apply Zl.see w;first|exact KX.out _|exact KY.out _);clear hS hC;intro wn hS hC;(try simp only[Zy] at hS hC);simp only[Zr,Zq] at hC)|(go_at_call 46;(with_reducible refine(Uc w).mono ?_);rintro e wn ⟨rfl,hS⟩;have hC:=hS.rd;simp only[Zr,Zq] at hC));refine Ux (fun b w'=>Zl w w' _ b _) 6 _ (by kernel_rfl) ((Zl.alloc (h:=hS)).drewW) (by exact fun _ _ _ _ _ h=>h) ?_;iterate 2 (apply Zp;rfl;intro b u B Q q;have hS:=B;have hC:=hS.rd;simp only[Zr,Zq] at hC;go_wp2;exact q _ trivial B;exact⟨_,rfl⟩)
    (apply Zi;rfl;intro b u B Q q;go_wp2_with ((with_reducible refine(Am B HSS.out).mono ?_);rintro e wn ⟨rfl,hN,hM⟩);exact q _ trivial hN;exact⟨_,rfl⟩);(apply Zp;rfl;intro b u B Q q;go_wp2;exact q _ trivial B;exact⟨_,rfl⟩);(apply Zi;rfl;intro b u B Q q;go_wp2_with ((with_reducible refine(Al B HTT.out).mono ?_);rintro e wn ⟨rfl,hN,hM⟩);exact q _ trivial hN;exact⟨_,rfl⟩);(apply Zp;rfl;intro b u B Q q;go_wp2;exact q _ trivial B;exact⟨_,rfl⟩);refine Zn ?_;intro wz hz
   ·rw[HK.out] at hz;go_wp2_with ((with_reducible refine(Va _ _ _ _ _ _ _ _ hz.sum).mono ?_);rintro e wn ⟨rfl,hx⟩;have hS:=Zl.ex hz hx;have hC:=hS.rd;simp only[Zr,Zq] at hC;have hE:=hS.rel (by omega));have:=Exi.mk hE
    exact Yp (by simp[results,results141,go_sem,hC]) rfl
   ·replace hz:Zl w wz _ false _:=hz;go_wp2_with ((with_reducible refine(Ri _ _ _ _ _ _ _ _ hz.sum).mono ?_);rintro e wn ⟨rfl,hx⟩;have hS:=Zl.ex hz hx;have hC:=hS.rd;simp only[Zr,Zq] at hC;have hE:=hS.rel (by omega));have:=Exi.mk hE
    exact Yp (by simp[results,results141,go_sem,hC]) rfl
end
end Go.Proofs.YtiommfmaleeibaaGreatDoor
