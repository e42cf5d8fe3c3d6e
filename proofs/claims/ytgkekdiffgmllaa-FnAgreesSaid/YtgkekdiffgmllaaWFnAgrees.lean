/-
  The walk of the law FnAgrees.
-/
import Derived.Test.YtgkekdiffgmllaaDrawT
import Derived.Test.YtgkekdiffgmllaaGrdA
import Derived.Test.YtgkekdiffgmllaaRead
namespace Go.Proofs.Ytgkekdiffgmllaa
open Go.RowKit

theorem gagrees_out {xs : List Fr} {a : Fr} (h : gagrees xs a = true) : ∃ n, gfit xs a = (n, true) ∧ gbest xs a = (n, true) := by
  unfold gagrees at h
  generalize gfit xs a = p at h ⊢
  generalize gbest xs a = q at h ⊢
  obtain ⟨p1, p2⟩ := p
  obtain ⟨q1, q2⟩ := q
  simp at h
  obtain ⟨⟨rfl, rfl⟩, rfl⟩ := h
  exact ⟨p1, rfl, rfl⟩

set_option maxRecDepth 4000 in
set_option maxHeartbeats 2000000 in
theorem law_FnAgrees (v : Value) (w : World) (h : IsBytes w v) : Calls Try.prog 13 #[v] w fun e w' => e = .returned (.bool true) ∧ Ex w w' := by
  obtain ⟨A, cap, xs, rfl, hl, hcap, hcap2, hS, hbs⟩ := h
  have hB : Byts w A xs := ⟨hS, hbs⟩
  clear hS hbs
  by_cases hbig : (1048576 : Int) < xs.length
  · go_enter Try.func13, Try.ntmps13
    go_wp2
    go_ret
    exact ⟨rfl, Ex.refl _⟩
  go_enter Try.func13, Try.ntmps13
  go_wp2_with fail
  refine (drawGridAgrees A xs cap w hB hl hcap hcap2).mono ?_
  rintro e w1 ⟨B, cb, ys, a, rfl, hy, hF, hE⟩
  have hl2 : ys.length ≤ 1048576 := by omega
  clear hB hy hbig
  have kA := fun w hS => iGridAgrees B ys cb a w hS hl2
  have sA := fun w hS => sGridAgrees B ys cb a w hS hl2
  have kF := fun w hS => iGridFit B ys cb a w hS hl2
  have kB := fun w hS => iGridBest B ys cb a w hS hl2
  have hout := gagrees_out (xs := ys) (a := a)
  generalize gagrees ys a = g at kA sA hout
  obtain ⟨a1, a2, a3⟩ := a
  have KA : Hid (∀ w, Fracs w B ys → Calls Try.prog 50 #[.slice B ys.length cb, .agg #[.int .i64 a1, .int .i64 a2, .int .i64 a3]] w fun e w' => e = .returned (.bool g) ∧ Ex w w') := kA
  have SA : Hid (∀ w, Fracs w B ys → Calls Try.prog 49 #[.slice B ys.length cb, .agg #[.int .i64 a1, .int .i64 a2, .int .i64 a3]] w fun e w' => e = .returned (.bool g) ∧ Ex w w') := sA
  have hFr := hF.fracs
  clear kA sA hF
  simp only [Fr.v]
  rcases g with _ | _
  · clear hout kF kB
    go_wp2_with fail
    refine (KA.out _ (hFr.alloc _)).mono ?_
    rintro e w2 ⟨rfl, hx⟩
    have bA := (Box.new _ _ _).ex hx
    have cA := bA.cell
    replace hx := ((Ex.refl _).alloc _).trans hx
    replace hFr := hFr.ex hx
    replace hE := hE.trans hx
    clear hx
    go_wp2_with fail
    refine (SA.out _ hFr).mono ?_
    rintro e w3 ⟨rfl, hx⟩
    replace hE := hE.trans hx
    go_wp2
    go_ret
    exact ⟨rfl, hE⟩
  · obtain ⟨n, e1, e2⟩ := hout rfl
    rw [e1] at kF
    rw [e2] at kB
    have KF : Hid (∀ w, Fracs w B ys → Calls Try.prog 24 #[.slice B ys.length cb, .agg #[.int .i64 a1, .int .i64 a2, .int .i64 a3]] w fun e w' => e = .returned (.tuple #[.int .i64 (n : Nat), .bool true]) ∧ Ex w w') := kF
    have KB : Hid (∀ w, Fracs w B ys → Calls Try.prog 39 #[.slice B ys.length cb, .agg #[.int .i64 a1, .int .i64 a2, .int .i64 a3]] w fun e w' => e = .returned (.tuple #[.int .i64 (n : Nat), .bool true]) ∧ Ex w w') := kB
    clear hout kF kB e1 e2
    go_wp2_with fail
    refine (KA.out _ (hFr.alloc _)).mono ?_
    rintro e w2 ⟨rfl, hx⟩
    have bA := (Box.new _ _ _).ex hx
    have cA := bA.cell
    replace hx := ((Ex.refl _).alloc _).trans hx
    replace hFr := hFr.ex hx
    replace hE := hE.trans hx
    clear hx
    go_wp2_with fail
    refine (SA.out _ hFr).mono ?_
    rintro e w3 ⟨rfl, hx⟩
    replace bA := bA.ex hx
    replace cA := bA.cell
    replace hFr := hFr.ex hx
    replace hE := hE.trans hx
    clear hx
    go_wp2_with fail
    refine (KF.out _ hFr).mono ?_
    rintro e w4 ⟨rfl, hx⟩
    replace bA := bA.ex hx
    replace cA := bA.cell
    replace hFr := hFr.ex hx
    replace hE := hE.trans hx
    clear hx
    go_wp2_with fail
    refine (KB.out _ hFr).mono ?_
    rintro e w5 ⟨rfl, hx⟩
    replace hE := hE.trans hx
    go_wp2
    go_ret
    exact ⟨rfl, hE⟩
end Go.Proofs.Ytgkekdiffgmllaa
