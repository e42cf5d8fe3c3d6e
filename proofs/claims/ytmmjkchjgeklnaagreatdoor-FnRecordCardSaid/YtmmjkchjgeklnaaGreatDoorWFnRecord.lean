/-
  The walk of the law FnRecord.
-/
import Derived.Test.YtmmjkchjgeklnaaGreatDoorK44
import Derived.Test.YtmmjkchjgeklnaaGreatDoorK47
import Derived.Test.YtmmjkchjgeklnaaGreatDoorK02
set_option linter.unusedSimpArgs false
set_option linter.unusedVariables false
namespace Go.Proofs.YtmmjkchjgeklnaaGreatDoor
open Go.RowKit

attribute [local go_sem] Zk Zj
set_option maxRecDepth 10000 in
set_option maxHeartbeats 2000000 in
theorem law_FnRecord (v0 : Value) (w : World) (h : Me w v0) (hm : Vv w ∧ Yf w) : Calls Tryz.prog 9 #[v0] w fun e w' => e = .returned (.bool true) ∧ Ex w w' := by
 obtain ⟨A, cap, xs, rfl, hl, hcap, hcap2, hS0, hbs⟩ := h
 have hB : Vd w A xs := ⟨hS0, hbs⟩
 clear hS0 hbs
 by_cases hbig : (1048576 : Int) < xs.length
 ·go_enter Tryz.func9, Tryz.ntmps9
  go_wp2
  go_ret
  exact ⟨rfl, Ex.refl _⟩
 have HM := Gv hm.1
 have HG := Gv hm.2
 clear hm
 have KD := Gv (fun w hB => Gz A xs cap w hB hl hcap hcap2)
 have hR := Zw.refl w
 go_enter Tryz.func9, Tryz.ntmps9
 go_wp2_with fail
 refine (KD.out _ hB).mono ?_
 rintro e u1 ⟨S, v, rfl, hs, hx⟩
 clear hB hbig hl hcap hcap2 KD
 have ki := fun w (_ : Yf w) hm => Qn S.data.toList (by rw [Wb]; omega) v w hm
 have ks := fun w => Ns S.data.toList (by rw [Wb]; omega) v w
 have kr := fun h w (_ : Yf w) hm => Wj S.data.toList (by rw [Wb]; omega) v h w hm
 rw [← Qm] at ki ks
 simp only [← Qm] at kr
 have hr1 := fun h => right_same (l := S.data.toList) (v := v) (h := h)
 have hr2 := fun h => right_next (l := S.data.toList) (v := v) (h := h)
 have hSb : Bs S.data.toList = S := (Qm S).symm
 generalize Vw S.data.toList v = R at *
 obtain ⟨h, ok⟩ := R
 simp only [Hk, hSb] at ki ks
 clear hSb hs
 have hS : Zw w u1 [] := ⟨hx, trivial⟩
 clear hx hR
 rcases ok with _ | _
 ·simp only [Bool.false_eq_true, if_false, Ws, M4.none, Fr.none] at ki ks
  clear hr1 hr2 kr
  have hn := fun w => neqRc ⟨#[]⟩ M4.none 0 w
  have hq := fun w => eqlRc ⟨#[]⟩ M4.none 0 w
  simp only [Ws, M4.none, Fr.none] at hn hq
  have HN := Gv hn
  have HQ := Gv hq
  clear hn hq
  obtain ⟨⟨a1, a2, a3⟩, ⟨b1, b2, b3⟩, ⟨c1, c2, c3⟩, ⟨d1, d2, d3⟩⟩ := v
  simp only [M4.v] at ki ks ⊢
  have KI := Gv ki
  have KS := Gv ks
  clear ki ks
  go_upto_region 4 with fail
  replace hS := Zw.alloc (h := hS) (cs := #[.int .i64 a1, .int .i64 a2, .int .i64 a3, .int .i64 b1, .int .i64 b2, .int .i64 b3, .int .i64 c1, .int .i64 c2, .int .i64 c3, .int .i64 d1, .int .i64 d2, .int .i64 d3]) (t := 35)
  (try simp only [Gu] at hS)
  generalize World.alloc _ _ = W1 at *
  have hC := hS.reads
  simp only [Zz, Zy] at hC
  go_upto_region 5 with (go_at_call 17; (with_reducible refine (KI.out _ (HG.out.ex hS.ex) (HM.out.ex hS.ex)).mono ?_); rintro e wn ⟨rfl, hx⟩; replace hS := Zw.after (W := w) hx; clear hx; replace hC := hS.reads; simp only [Zz, Zy, Gu] at hC)
  replace hS := Zw.alloc (h := hS) (cs := #[.string ⟨#[]⟩, .int .i64 0, .int .i64 0, .int .i64 0, .int .i64 0, .int .i64 0, .int .i64 0, .int .i64 0, .int .i64 0, .int .i64 0, .int .i64 0, .int .i64 0, .int .i64 0, .int .u32 0]) (t := 37)
  (try simp only [Gu] at hS)
  generalize World.alloc _ _ = W2 at *
  replace hC := hS.reads
  simp only [Zz, Zy] at hC
  go_upto_region 6 with (go_at_call 15; (with_reducible refine (KS.out _).mono ?_); rintro e wn ⟨rfl, hx⟩; replace hS := Zw.after (W := w) hx; clear hx; replace hC := hS.reads; simp only [Zz, Zy, Gu] at hC)
  replace hS := Zw.alloc (h := hS) (cs := #[.string ⟨#[]⟩, .int .i64 0, .int .i64 0, .int .i64 0, .int .i64 0, .int .i64 0, .int .i64 0, .int .i64 0, .int .i64 0, .int .i64 0, .int .i64 0, .int .i64 0, .int .i64 0, .int .u32 0]) (t := 37)
  (try simp only [Gu] at hS)
  generalize World.alloc _ _ = W3 at *
  replace hC := hS.reads
  simp only [Zz, Zy] at hC
  have hn := HN.out
  have hq := HQ.out
  go_wp2_with (simp only [hn, hq])
  refine Gq (v := .bool true) ?_ rfl ⟨rfl, ?_⟩
  ·simp [results, Tryz.results9, go_sem]
  ·repeat' (with_reducible first | exact hS.ex | exact Ex.refl _ | assumption | refine Ex.alloc ?_ _ | refine Ex.drewN ?_ _ | refine Ex.drew ?_ | refine Ex.setCell ?_ (by simp <;> omega) _)
 ·simp only [if_true] at ki ks
  have k1 := kr h
  have k2 := kr ((h + 1) % 4294967296)
  rw [hr1 h rfl] at k1
  rw [hr2 h rfl] at k2
  clear hr1 hr2 kr
  have hn := fun w => neqRc S v h w
  have hq := fun w => eqlRc S v h w
  have hst := fun w => eqlSt v v w
  simp only [decide_true] at hst
  obtain ⟨⟨a1, a2, a3⟩, ⟨b1, b2, b3⟩, ⟨c1, c2, c3⟩, ⟨d1, d2, d3⟩⟩ := v
  simp only [Ws, M4.v] at ki ks k1 k2 hn hq hst ⊢
  have HN := Gv hn
  have HQ := Gv hq
  have HST := Gv hst
  have K1 := Gv k1
  have K2 := Gv k2
  clear hn hq hst k1 k2
  have KI := Gv ki
  have KS := Gv ks
  clear ki ks
  go_upto_region 4 with fail
  replace hS := Zw.alloc (h := hS) (cs := #[.int .i64 a1, .int .i64 a2, .int .i64 a3, .int .i64 b1, .int .i64 b2, .int .i64 b3, .int .i64 c1, .int .i64 c2, .int .i64 c3, .int .i64 d1, .int .i64 d2, .int .i64 d3]) (t := 35)
  (try simp only [Gu] at hS)
  generalize World.alloc _ _ = W1 at *
  have hC := hS.reads
  simp only [Zz, Zy] at hC
  go_upto_region 5 with (go_at_call 17; (with_reducible refine (KI.out _ (HG.out.ex hS.ex) (HM.out.ex hS.ex)).mono ?_); rintro e wn ⟨rfl, hx⟩; replace hS := Zw.after (W := w) hx; clear hx; replace hC := hS.reads; simp only [Zz, Zy, Gu] at hC)
  replace hS := Zw.alloc (h := hS) (cs := #[.string S, .int .i64 a1, .int .i64 a2, .int .i64 a3, .int .i64 b1, .int .i64 b2, .int .i64 b3, .int .i64 c1, .int .i64 c2, .int .i64 c3, .int .i64 d1, .int .i64 d2, .int .i64 d3, .int .u32 h]) (t := 37)
  (try simp only [Gu] at hS)
  generalize World.alloc _ _ = W2 at *
  replace hC := hS.reads
  simp only [Zz, Zy] at hC
  go_upto_region 6 with (go_at_call 15; (with_reducible refine (KS.out _).mono ?_); rintro e wn ⟨rfl, hx⟩; replace hS := Zw.after (W := w) hx; clear hx; replace hC := hS.reads; simp only [Zz, Zy, Gu] at hC)
  replace hS := Zw.alloc (h := hS) (cs := #[.string S, .int .i64 a1, .int .i64 a2, .int .i64 a3, .int .i64 b1, .int .i64 b2, .int .i64 b3, .int .i64 c1, .int .i64 c2, .int .i64 c3, .int .i64 d1, .int .i64 d2, .int .i64 d3, .int .u32 h]) (t := 37)
  (try simp only [Gu] at hS)
  generalize World.alloc _ _ = W3 at *
  replace hC := hS.reads
  simp only [Zz, Zy] at hC
  have hn := HN.out
  go_upto_region 8 with (simp only [hn])
  clear hn
  go_upto_region 10 with fail
  replace hS := Zw.alloc (h := hS) (cs := #[.string S, .int .i64 a1, .int .i64 a2, .int .i64 a3, .int .i64 b1, .int .i64 b2, .int .i64 b3, .int .i64 c1, .int .i64 c2, .int .i64 c3, .int .i64 d1, .int .i64 d2, .int .i64 d3, .int .u32 ((h + 1) % 4294967296)]) (t := 37)
  (try simp only [Gu] at hS)
  generalize World.alloc _ _ = W4 at *
  replace hC := hS.reads
  simp only [Zz, Zy] at hC
  have hst := HST.out
  have hbb : (S.toList == S.toList) = true := beq_self_eq_true _
  go_wp2_with (first | (go_at_call 14; (first | (with_reducible refine (K1.out _ (HG.out.ex hS.ex) (HM.out.ex hS.ex)).mono ?_) | (with_reducible refine (K2.out _ (HG.out.ex hS.ex) (HM.out.ex hS.ex)).mono ?_)); rintro e wn ⟨rfl, hx⟩; replace hS := Zw.after (W := w) hx; clear hx; replace hC := hS.reads; simp only [Zz, Zy, Gu] at hC) | (simp only [hst]))
  refine Gq (v := .bool true) ?_ rfl ⟨rfl, ?_⟩
  ·simp [results, Tryz.results9, go_sem]
  ·repeat' (with_reducible first | exact hS.ex | exact Ex.refl _ | assumption | refine Ex.alloc ?_ _ | refine Ex.drewN ?_ _ | refine Ex.drew ?_ | refine Ex.setCell ?_ (by simp <;> omega) _)
end Go.Proofs.YtmmjkchjgeklnaaGreatDoor
