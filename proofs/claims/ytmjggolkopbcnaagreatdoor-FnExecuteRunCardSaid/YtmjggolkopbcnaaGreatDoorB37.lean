/-
  Proved: what functions compute, part 37. No condition.
-/
import Derived.Test.YtmjggolkopbcnaaGreatDoorB34
import Derived.Test.YtmjggolkopbcnaaGreatDoorB31
import Derived.Test.YtmjggolkopbcnaaGreatDoorB36
import Derived.Test.YtmjggolkopbcnaaGreatDoorB11
set_option linter.unusedSimpArgs false
set_option linter.unusedVariables false
set_option maxRecDepth 20000
set_option maxHeartbeats 8000000
namespace Go.Proofs.YtmjggolkopbcnaaGreatDoor
section
open Go.RowKit

attribute [local go_sem] Zq Zp
theorem fracs2 {w : World} {b : Nat} {t : TypeId} {x y : Fr} (h : Box w b t #[.int .i64 x.re, .int .i64 x.im, .int .i64 x.den, .int .i64 y.re, .int .i64 y.im, .int .i64 y.den]) : Vd w (some ⟨b, 0, none⟩) [x, y] := by
 intro _
 refine ⟨b, 0, rfl, fun k _ => ?_⟩
 rw [Nat.zero_add, h.cell k]
 simp [We, Fr.cs]
def runA (c : Con) : List UInt8 := if (Tv [(Wx c.b c.x c.y).1.1, (Wx c.b c.x c.y).1.2]).2 && (Wx c.b c.x c.y).2 then (Tv [(Wx c.b c.x c.y).1.1, (Wx c.b c.x c.y).1.2]).1 else [110, 111]
theorem runA_len (c : Con) : (runA c).length ≤ 1000 := by
 unfold runA
 split
 ·have := txsOf_len [(Wx c.b c.x c.y).1.1, (Wx c.b c.x c.y).1.2]
  simp only [List.length_cons, List.length_nil] at this
  omega
 ·simp
theorem word_run (c : Con) (hl : c.b.length ≤ 1048576) (bc : Nat) (w : World) (hG : Ym w) (hm : Xm w) (hb : Box w bc 67 c.cells) :
  Calls Tryz.prog 30 #[.pointer (some ⟨bc, 0, none⟩), .string ⟨#[114, 117, 110]⟩] w (Si bc w (c, runA c)) := by
 have k1 := fun w (_ : Ym w) hm => iBenchRun c.b hl (c.x, c.y) w hm
 obtain ⟨a, HA⟩ : ∃ a, Hid (a = runA c) := ⟨_, Oi rfl⟩
 rw [← HA.out]
 unfold runA at HA
 simp only at k1
 rcases hR : Wx c.b c.x c.y with ⟨⟨x, y⟩, fine⟩
 rw [hR] at k1 HA
 simp only at HA
 have kt := fun A w h ht => texts_gen A [x, y] 2 w h (by simp) (by simp) ht
 rcases hT : Tv [x, y] with ⟨t, okt⟩
 rw [hT] at kt HA
 simp only at HA
 clear hR hT hl
 obtain ⟨x1, x2, x3⟩ := x
 obtain ⟨y1, y2, y3⟩ := y
 simp only [jvv, v2v] at k1
 obtain ⟨TS, HTS⟩ : ∃ TS, Hid (TS = Bs t) := ⟨_, Oi rfl⟩
 have KT : Hid (∀ (A : Option Addr) (w : World), Vd w A [⟨x1, x2, x3⟩, ⟨y1, y2, y3⟩] → Tab w → Calls Tryz.prog 80 #[.slice A 2 2] w fun e w' => e = .returned (.tuple #[.string TS, .bool okt]) ∧ Ex w w') := Oi (by rw [HTS.out]; exact kt)
 have K1 := Oi k1
 have HM := Oi hm
 have HG := Oi hG
 have HB := Oi hb
 clear k1 kt hm hG
 have hS : Zw w w [(bc, 67, c.cells)] := ⟨Ex.refl w, hb, trivial⟩
 have z0 := hb.lt
 clear hb
 go_enter Tryz.func30, Tryz.ntmps30
 go_upto_region 11 with fail
 clear z0
 have hS0 := hS
 refine Zm (St := Ex) (B := fun _ w' => InE _ _ w') 12 1 1 _ 47 (fun _ => 7) (fun _ => 56) (fun _ => #[.int .i64 0, .int .i64 0, .int .i64 0, .int .i64 0, .int .i64 0, .int .i64 0]) (fun _ => #[.int .i64 x1, .int .i64 x2, .int .i64 x3, .int .i64 y1, .int .i64 y2, .int .i64 y3]) false (by kernel_rfl) (by kernel_rfl) (InE.drew (InE.start hS0)) (fun x y h1 h2 _ => by omega) (fun x y _ _ => by decide) (fun _ _ h g cs _ hb => hb.ex h) (fun _ _ cs h => h.alloc _) (fun _ _ h => h.size) ?_
 iterate 8 (apply Zx; (· rfl); (· intro b wb hB Q1 hQ1; have hS := hB.sees; have hC := hS.reads; simp only [Zz, Zy] at hC; unfold Con.cells at hC; go_wp2_with fail; exact hQ1 _ (Ex.refl _) hB); (· exact ⟨_, rfl⟩))
 (apply Zx; (· rfl); (· intro b wb hB Q1 hQ1; go_wp2_with (go_at_call 22; (with_reducible refine (K1.out _ (HG.out.ex hB.sees.ex) (HM.out.ex hB.sees.ex)).mono ?_); rintro e wn ⟨rfl, hx⟩); exact hQ1 _ hx (hB.go hx)); (· exact ⟨_, rfl⟩))
 iterate 3 (apply Zx; (· rfl); (· intro b wb hB Q1 hQ1; go_wp2_with fail; exact hQ1 _ (Ex.refl _) hB); (· exact ⟨_, rfl⟩))
 refine Zv ?_
 refine ⟨fun i hi => ?_, fun i hi => ?_, fun i hi => ?_, fun gg wz hz hbx hne => ?_⟩
 ·obtain rfl : i = 0 := by omega
  all_goals exact ⟨_, rfl, makes_Jones⟩
 ·obtain rfl : i = 0 := by omega
  all_goals exact ⟨_, rfl, Zf info_Jones rfl (by kernel_rfl) (fun _ _ _ hg h => h.setRow hg _)⟩
 ·obtain rfl : i = 0 := by omega
  ·exact (show (7 : Nat) < 164 by decide)
 obtain ⟨hg0, hb0⟩ := hbx 0 (by omega)
 replace hS := InE.join hS0 hz
 replace hS := Zw.put hS hb0
 simp only [frN, Act.put, Og, Of, Oe, Nat.reduceAdd, List.drop_succ_cons, List.drop_zero]
 generalize gg 0 = g0 at *
 clear hbx hz hS0 hne
 have hC := hS.reads
 simp only [Zz, Zy] at hC
 have hE := hS.ex
 go_upto_region 12 with fail
 go_wp2_with fail
 refine (KT.out _ _ (fracs2 (x := ⟨x1, x2, x3⟩) (y := ⟨y1, y2, y3⟩) (Box.new _ _ _)) (HM.out.ex (hE.alloc _)).tab).mono ?_
 rintro e w9 ⟨rfl, hx⟩
 replace hE := (hE.alloc _).trans hx
 clear hx hC hS hb0 hg0
 rcases okt with _ | _ <;> rcases fine with _ | _
 all_goals
  have e := HA.out
  simp only [Bool.and_false, Bool.false_and, Bool.and_self, Bool.false_eq_true, if_false, if_true] at e
  subst e
  go_wp2
 ·refine Od (v := .tuple #[.string TS, .bool false, .bool true]) ?_ rfl (Tx HB.out rfl hE)
  simp [results, Tryz.results30, go_sem]
 ·refine Od (v := .tuple #[.string TS, .bool false, .bool true]) ?_ rfl (Tx HB.out rfl hE)
  simp [results, Tryz.results30, go_sem]
 ·refine Od (v := .tuple #[.string TS, .bool false, .bool true]) ?_ rfl (Tx HB.out rfl hE)
  simp [results, Tryz.results30, go_sem]
 ·refine Od (v := .tuple #[.string TS, .bool true, .bool true]) ?_ rfl (Tx HB.out HTS.out hE)
  simp [results, Tryz.results30, go_sem]
end
section
open Go.RowKit

theorem neqMt (v u : M4) (w : World) : (binOp .neq 30 v.v u.v).run Tryz.prog w = .ok (.bool (!decide (v = u))) w := by
 have h := eqMt v u 9996 w
 unfold M4.v at h ⊢
 rw [run_neq_struct, h]
 rfl
def Qt : List UInt8 := [114, 117, 110]
theorem cutl_run : Sx Qt = (Qt, [], false) := by decide
def stR (c : Con) (l : List UInt8) : Con × List UInt8 := if l = Qt then (c, runA c) else Ve c (Sx l).2.1
theorem lineRun : Qv stR QB Qt := by
 intro c hQ
 have e : stR c Qt = (c, runA c) := if_pos rfl
 rw [e, cutl_run]
 refine ⟨hQ, ?_, fun bc w hG hm hb => ?_⟩
 ·have := runA_len c
  simp only
  omega
 ·simp only [Bool.false_eq_true, if_false]
  exact word_run c (by unfold QB at hQ; omega) bc w hG hm hb
theorem stR_bench (c : Con) (s : List UInt8) : stR c (Xy s) = Ve c s := by
 unfold stR
 rw [if_neg (by simp [Xy, Qt]), Sh]
theorem lineBenchR (s : List UInt8) (hs : s.length ≤ 1048576) : Qv stR QB (Xy s) := by
 intro c hQ
 have h := lineBench s hs c hQ
 rw [Qu] at h
 rw [stR_bench]
 exact h
def tRun (s : List UInt8) : List UInt8 := Xy s ++ 10 :: (Qt ++ 10 :: [])
theorem lns_run (s : List UInt8) (h : ∀ b ∈ s, b ≠ 10) : (lns (tRun s)).dropLast = [Xy s, Qt] := by
 unfold tRun
 have hb : ∀ c ∈ Xy s, c ≠ 10 := by
  intro c hc
  unfold Xy at hc
  simp only [List.mem_append, List.mem_cons, List.not_mem_nil, or_false] at hc
  rcases hc with (rfl | rfl | rfl | rfl | rfl) | rfl | hc
  ·decide
  ·decide
  ·decide
  ·decide
  ·decide
  ·decide
  ·exact h c hc
 rw [Sy _ _ hb, Sy Qt _ (by decide)]
 rfl
theorem exec_run {s : List UInt8} {ps : List (UInt8 × List Int)} (hv : Zj s = some ps) {x y : Fr} (hr : Wx s ⟨1, 0, 1⟩ ⟨0, 0, 1⟩ = ((x, y), true)) (hx : x.valid = true) (hy : y.valid = true) :
  exec stR (tRun s) = [111, 107, 10] ++ txt x ++ [32] ++ txt y ++ [10, 112, 105, 101, 99, 101, 115, 32] ++ Lib.itoa (Wk s) ++ [10] := by
 have ht := (Xa hv).2.1
 unfold exec
 rw [lns_run s ht]
 have e1 : stR Con.new (Xy s) = (⟨s, ⟨1, 0, 1⟩, ⟨0, 0, 1⟩⟩, [111, 107]) := by
  rw [stR_bench]
  unfold Ve
  rw [hv]
  rfl
 have e3 : runA ⟨s, ⟨1, 0, 1⟩, ⟨0, 0, 1⟩⟩ = txt x ++ ([32] ++ txt y) := by
  unfold runA
  simp only [hr]
  have e4 : Tv [x, y] = (txt x ++ ([32] ++ txt y), true) := by
   unfold Tv
   rw [if_pos (by simp [hx, hy])]
   rw [List.map_cons, Lib.join_cons]
   simp [Lib.joinTail]
  rw [e4]
  rfl
 have e2 : Rr stR Con.new [Xy s, Qt] [] = (⟨s, ⟨1, 0, 1⟩, ⟨0, 0, 1⟩⟩, ([111, 107, 10] ++ ((txt x ++ ([32] ++ txt y)) ++ [10]))) := by
  have h1 : stR ⟨s, ⟨1, 0, 1⟩, ⟨0, 0, 1⟩⟩ Qt = (⟨s, ⟨1, 0, 1⟩, ⟨0, 0, 1⟩⟩, txt x ++ ([32] ++ txt y)) := by
   unfold stR
   rw [if_pos rfl, e3]
  simp only [Rr, e1, h1]
  simp
 rw [e2]
 unfold said
 simp
theorem bmatOf_some {s : List UInt8} {m : M4} (h : Xo s = (m, true)) : ∃ ps, Zj s = some ps := by
 unfold Xo at h
 cases hb : Zj s with
 | some ps => exact ⟨ps, rfl⟩
 | none => rw [hb] at h; cases h
end
end Go.Proofs.YtmjggolkopbcnaaGreatDoor
