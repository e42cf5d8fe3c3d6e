/-
  The walk of the law FnStokesRead.
-/
import Derived.Test.YtklkfkgpjjpaiaaGreatDoorSrQ
import Derived.Test.YtklkfkgpjjpaiaaGreatDoorSrI
import Derived.Test.YtklkfkgpjjpaiaaGreatDoorSrS
import Derived.Test.YtklkfkgpjjpaiaaGreatDoorDrawZ
import Derived.Test.YtklkfkgpjjpaiaaGreatDoorRead
import Derived.Test.YtklkfkgpjjpaiaaGreatDoorLawR
import Derived.Test.YtklkfkgpjjpaiaaGreatDoorEqS
import Derived.Laws.StructEq
set_option linter.unusedSimpArgs false
set_option linter.unusedVariables false
namespace Go.Proofs.YtklkfkgpjjpaiaaGreatDoor
open Go.RowKit

set_option maxRecDepth 10000 in
set_option maxHeartbeats 2000000 in
theorem law_FnStokesRead (v : Value) (w : World) (h : IsBytes w v) (hm : Mem w) : Calls Tryz.prog 4 #[v] w fun e w' => e = .returned (.bool true) ∧ Ex w w' := by
  obtain ⟨A, cap, xs, rfl, hl, hcap, hcap2, hS, hbs⟩ := h
  have hB : Byts w A xs := ⟨hS, hbs⟩
  clear hS hbs
  by_cases hbig : (1048576 : Int) < xs.length
  · go_enter Tryz.func4, Tryz.ntmps4
    go_wp2
    go_ret
    exact ⟨rfl, Ex.refl _⟩
  have HM := Lib.hid hm
  clear hm
  go_enter Tryz.func4, Tryz.ntmps4
  go_wp2_with fail
  refine (drawStokesRead A xs cap w hB hl hcap hcap2).mono ?_
  rintro e w1 ⟨s, rfl, hs, hE⟩
  have ki := fun w hm => iStokesRead s.data.toList (by rw [bs_len]; omega) w hm
  have ks := fun w => sStokesRead s.data.toList (by rw [bs_len]; omega) w
  rw [← bs_of] at ki ks
  have hout := fun a b c d => skr_out (l := s.data.toList) (a := a) (b := b) (c := c) (d := d)
  clear hB hbig hl hcap hcap2
  generalize skr s.data.toList = R at ki ks hout
  obtain ⟨⟨a, b, c, d⟩, ok⟩ := R
  have KI : Hid (∀ w, Mem w → Calls Tryz.prog 8 #[.string s] w fun e w' => e = .returned (.tuple #[.agg #[.int .i64 a.re, .int .i64 a.im, .int .i64 a.den, .int .i64 b.re, .int .i64 b.im, .int .i64 b.den, .int .i64 c.re, .int .i64 c.im, .int .i64 c.den, .int .i64 d.re, .int .i64 d.im, .int .i64 d.den], .bool ok]) ∧ Ex w w') := ki
  have KS : Hid (∀ w, Calls Tryz.prog 10 #[.string s] w fun e w' => e = .returned (.tuple #[.agg #[.int .i64 a.re, .int .i64 a.im, .int .i64 a.den, .int .i64 b.re, .int .i64 b.im, .int .i64 b.den, .int .i64 c.re, .int .i64 c.im, .int .i64 c.den, .int .i64 d.re, .int .i64 d.im, .int .i64 d.den], .bool ok]) ∧ Ex w w') := ks
  clear ki ks
  have heq : ∀ w, (Op.equalIn 9999 25 (.agg #[.int .i64 a.re, .int .i64 a.im, .int .i64 a.den, .int .i64 b.re, .int .i64 b.im, .int .i64 b.den, .int .i64 c.re, .int .i64 c.im, .int .i64 c.den, .int .i64 d.re, .int .i64 d.im, .int .i64 d.den]) (.agg #[.int .i64 a.re, .int .i64 a.im, .int .i64 a.den, .int .i64 b.re, .int .i64 b.im, .int .i64 b.den, .int .i64 c.re, .int .i64 c.im, .int .i64 c.den, .int .i64 d.re, .int .i64 d.im, .int .i64 d.den])).run Tryz.prog w = .ok true w := fun w => eqA4 a.re a.im a.den b.re b.im b.den c.re c.im c.den d.re d.im d.den 9996 w
  rcases ok with _ | _
  · clear hout
    go_wp2_with fail
    refine (KI.out _ (HM.out.ex hE)).mono ?_
    rintro e w2 ⟨rfl, hx⟩
    replace hE := hE.trans hx
    clear hx
    go_wp2_with fail
    have bA := Box.new w2 #[.int .i64 a.re, .int .i64 a.im, .int .i64 a.den, .int .i64 b.re, .int .i64 b.im, .int .i64 b.den, .int .i64 c.re, .int .i64 c.im, .int .i64 c.den, .int .i64 d.re, .int .i64 d.im, .int .i64 d.den] 27
    replace hE := hE.alloc (.cells #[.int .i64 a.re, .int .i64 a.im, .int .i64 a.den, .int .i64 b.re, .int .i64 b.im, .int .i64 b.den, .int .i64 c.re, .int .i64 c.im, .int .i64 c.den, .int .i64 d.re, .int .i64 d.im, .int .i64 d.den] 27)
    refine (KS.out _).mono ?_
    rintro e w3 ⟨rfl, hx⟩
    replace bA := bA.ex hx
    replace hE := hE.trans hx
    have cA := bA.cell
    have zA := bA.lt
    clear hx
    go_wp2
    go_ret
    exact ⟨rfl, hE.alloc _⟩
  · obtain ⟨hv, hj⟩ := hout a b c d rfl
    have hft : stext a b c d = (s.data.toList, true) := by simp [stext, hv, hj]
    have kt2 := fun w ht => iStokesText a b c d w ht
    rw [hft] at kt2
    have kt3 : ∀ w, Tab w → Calls Tryz.prog 6 #[.agg #[.int .i64 a.re, .int .i64 a.im, .int .i64 a.den, .int .i64 b.re, .int .i64 b.im, .int .i64 b.den, .int .i64 c.re, .int .i64 c.im, .int .i64 c.den, .int .i64 d.re, .int .i64 d.im, .int .i64 d.den]] w fun e w' => e = .returned (.tuple #[.string (Bs s.data.toList), .bool true]) ∧ Ex w w' := kt2
    rw [← bs_of] at kt3
    have kv := fun w => iStokesValid a b c d w
    rw [hv] at kv
    have KV : Hid (∀ w, Calls Tryz.prog 11 #[.agg #[.int .i64 a.re, .int .i64 a.im, .int .i64 a.den, .int .i64 b.re, .int .i64 b.im, .int .i64 b.den, .int .i64 c.re, .int .i64 c.im, .int .i64 c.den, .int .i64 d.re, .int .i64 d.im, .int .i64 d.den]] w fun e w' => e = .returned (.bool true) ∧ Ex w w') := kv
    have KT := Lib.hid kt3
    clear kt2 kt3 hft hout hv hj kv
    go_wp2_with fail
    refine (KI.out _ (HM.out.ex hE)).mono ?_
    rintro e w2 ⟨rfl, hx⟩
    replace hE := hE.trans hx
    clear hx
    go_wp2_with fail
    have bA := Box.new w2 #[.int .i64 a.re, .int .i64 a.im, .int .i64 a.den, .int .i64 b.re, .int .i64 b.im, .int .i64 b.den, .int .i64 c.re, .int .i64 c.im, .int .i64 c.den, .int .i64 d.re, .int .i64 d.im, .int .i64 d.den] 27
    replace hE := hE.alloc (.cells #[.int .i64 a.re, .int .i64 a.im, .int .i64 a.den, .int .i64 b.re, .int .i64 b.im, .int .i64 b.den, .int .i64 c.re, .int .i64 c.im, .int .i64 c.den, .int .i64 d.re, .int .i64 d.im, .int .i64 d.den] 27)
    refine (KS.out _).mono ?_
    rintro e w3 ⟨rfl, hx⟩
    replace bA := (bA.ex hx).alloc (.cells #[.int .i64 a.re, .int .i64 a.im, .int .i64 a.den, .int .i64 b.re, .int .i64 b.im, .int .i64 b.den, .int .i64 c.re, .int .i64 c.im, .int .i64 c.den, .int .i64 d.re, .int .i64 d.im, .int .i64 d.den] 27)
    replace hE := (hE.trans hx).alloc (.cells #[.int .i64 a.re, .int .i64 a.im, .int .i64 a.den, .int .i64 b.re, .int .i64 b.im, .int .i64 b.den, .int .i64 c.re, .int .i64 c.im, .int .i64 c.den, .int .i64 d.re, .int .i64 d.im, .int .i64 d.den] 27)
    have bB := Box.new w3 #[.int .i64 a.re, .int .i64 a.im, .int .i64 a.den, .int .i64 b.re, .int .i64 b.im, .int .i64 b.den, .int .i64 c.re, .int .i64 c.im, .int .i64 c.den, .int .i64 d.re, .int .i64 d.im, .int .i64 d.den] 27
    have cA := bA.cell
    have cB := bB.cell
    clear hx
    go_wp2_with fail
    refine (KT.out _ (HM.out.ex hE).tab).mono ?_
    rintro e w4 ⟨rfl, hx⟩
    replace bA := bA.ex hx
    replace hE := hE.trans hx
    replace cA := bA.cell
    clear hx bB cB
    go_wp2_with fail
    refine (KV.out _).mono ?_
    rintro e w5 ⟨rfl, hx⟩
    replace hE := hE.trans hx
    go_wp2
    go_ret
    exact ⟨rfl, hE⟩
end Go.Proofs.YtklkfkgpjjpaiaaGreatDoor
