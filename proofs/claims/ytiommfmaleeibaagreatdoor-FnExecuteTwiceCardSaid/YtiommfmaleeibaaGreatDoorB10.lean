/-
  Proved:what functions compute,part 10. No condition.
-/
import Derived.Test.YtiommfmaleeibaaGreatDoorB08
import Derived.Test.YtiommfmaleeibaaGreatDoorB09
import Derived.Shelf.Vars
import Derived.SizedLaws
import Derived.Lay
set_option linter.unusedSimpArgs false
set_option linter.unusedVariables false
set_option maxRecDepth 20000
set_option maxHeartbeats 8000000
namespace Go.Proofs.YtiommfmaleeibaaGreatDoor
open Go.Proofs.Tryz
section
open Go.RowKit

section
variable {H:Type} {enc:TypeId×Value→H}
theorem Ni{a:Assume}{C:Checked}{os:Os}{f:FuncId}{fn:Func}{s:ChangeSpec}{X:World→Av→Prop}
  (hX:∀(w w':World) (args:Av),w.heap=w'.heap→X w args→X w' args) (own:ownKnob C.prog.godebug=none) (started:os.Started) (noInit:C.prog.inits.idxOf? f=none) (hfn:C.prog.funcs[f]? =some fn)
  (witness : ∃ (w : World) (tape : Tape) (i : Input), w.os = os ∧ (w.forCall tape i).Shaped C.prog ∧ i.vars = [] ∧ Input.okWide C.prog (w.forCall tape i) .any w.heap.size f i ∧
   ((s.pre enc C.prog fn [] false (w.forCall tape i).memory i.args∧X (w.forCall tape i).memory i.args)∧sizedMet enc C.prog fn (OpenSpec.ofChange s) false (w.forCall tape i).memory i.args)∧a.holds C.prog (lone (Frame.enter C.prog f i.args .normal) [] (w.forCall tape i)))
  (contract:∀(W:World) (base:Nat) (args:Av) (ds gs:List (DataW H)) (before:List MemPlace),
   (∀(j:Nat) t v,fn.params[j]? =some t→args[j]? =some v→Value.okWide C.prog W .any base t v)→
   DataW.Whole enc C.prog fn.params.toList s.vars false W args.toList ds gs before→X W args→W.ShapedOpen C.prog→
   Calls C.prog f args W fun e W'=>∃v,e= .returned v∧s.post enc C.prog fn false true false false W args v W'):
  ReturnsInHanded a C os f .any (fun w args=>(s.pre enc C.prog fn [] false w args∧X w args)∧sizedMet enc C.prog fn (OpenSpec.ofChange s) false w args) (s.post enc C.prog fn false true false false):=by
 refine returnsInHanded_of_calls own started noInit witness fun w tape i _ shape _ fits pre _=>?_
 obtain⟨_,_,_,g,hg,_,_,_,_,vals⟩:=fits;obtain rfl:g=fn:=Option.some.inj (hg.symm.trans hfn);obtain⟨⟨⟨ds,gs,before,whole, -⟩,x⟩, -⟩:=pre;refine(contract (w.forCall tape i) w.heap.size i.args ds gs before vals (DataW.Whole.of_heap (w':=w.forCall tape i) (by rfl) whole) (hX _ _ _ (by rfl) x) shape).mono ?_;rintro e W' ⟨v,rfl,post⟩;exact ChangeSpec.post_blind post
end

theorem Zul : "*" ++ "errors.errorString" = "*errors.errorString" := by decide
theorem Zmn (u : TypeId) (h : Tryz.prog.typeName? 3 u = some "*errors.errorString") : u = 277 :=
 typeName_ptr_named (nm := "errors.errorString") (by rw [Zul]; kernel_rfl) (by kernel_rfl) (by decide) u (by rw [Zul]; exact h)
theorem gSyn : Tryz.prog.globalNamed "strconv.ErrSyntax" = some 9 := by kernel_rfl
theorem gRng : Tryz.prog.globalNamed "strconv.ErrRange" = some 10 := by kernel_rfl
def Gw:=Rows.fnExecuteMeterRow.laid
theorem Gv{W:World}(h:laidMetH prog Gw W)(hs:W.ShapedOpen prog):Wn W∧Xz W:=by
 rw[MakeChecks.laidMetH_plain _ _ _ (by kernel_rfl)] at h;have h3:=laidMet.tail (laidMet.tail h);have h5:=laidMet.tail (laidMet.tail h3);have h6:=laidMet.tail h5;obtain⟨a1,t1,hv1, -⟩:=laid_sentinel (g:=10) h5 gRng (by kernel_rfl) underlying67 Zmn underlying277 underlying279 rfl rfl underlying9 (by kernel_rfl) (by kernel_rfl);obtain⟨a0,t0,hv0, -⟩:=laid_sentinel (g:=9) h6 gSyn (by kernel_rfl) underlying67 Zmn underlying277 underlying279 rfl rfl underlying9 (by kernel_rfl) (by kernel_rfl);refine⟨⟨Lib.tabIs_of_head gTab Zif underlying257 underlying132 (by kernel_rfl) (by kernel_rfl) h3,?_,⟨_,_,World.var?_cell gSyn hv0 0⟩,⟨_,_,World.var?_cell gRng hv1 0⟩⟩,?_⟩
 ·exact cell_of_shapedOpen_int (zero:=#[oo]) (t:=3) hs (of_decide_eq_true (by kernel_rfl)) (by kernel_rfl) rfl (by kernel_rfl) (by kernel_rfl) underlying3
 ·exact {triv:=trivial,zero:=Zuq Zdw (by kernel_rfl) (Lib.laidMet.reads h (.tail _ (.tail _ (.tail _ (.tail _ (.tail _ (.tail _ (.head _)))))))),one:=Zuq Zbl (by kernel_rfl) (Lib.laidMet.reads h (.tail _ (.tail _ (.tail _ (.tail _ (.tail _ (.tail _ (.tail _ (.head _))))))))),same:=Zdx Zdv (by kernel_rfl) (Lib.laidMet.reads h (.tail _ (.tail _ (.tail _ (.tail _ (.tail _ (.tail _ (.tail _ (.tail _ (.tail _ (.head _))))))))))),turns:=Zlc Zid (by kernel_rfl) (Lib.laidMet.reads h (.tail _ (.tail _ (.tail _ (.tail _ (.tail _ (.tail _ (.tail _ (.tail _ (.head _))))))))))}
end
end Go.Proofs.YtiommfmaleeibaaGreatDoor
