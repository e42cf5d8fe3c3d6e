/-
  Walks: GlassResidues, the reference's: one residue.
-/
import Derived.Test.YtploaldfkfjibaaGlsU
import Derived.Test.YtploaldfkfjibaaLib2
namespace Go.Proofs.Ytploaldfkfjibaa
open Go.RowKit

/-- The residue of four steps. -/
def gresOf (s1 s2 s3 s4 : Int) : Int := if s1 = 2 ∨ s2 = 2 ∨ s3 = 2 ∨ s4 = 2 then 9 else (s1 + s2 + s3 + s4).tdiv 4
def gres (a b c d : Int) : Int := gresOf (gshort a b) (gshort b c) (gshort c d) (gshort d a)

theorem tdiv4_bd {n : Int} (h1 : -4 ≤ n) (h2 : n ≤ 8) : -1 ≤ n.tdiv 4 ∧ n.tdiv 4 ≤ 2 := by
  by_cases h : 0 ≤ n
  · rw [Int.tdiv_eq_ediv_of_nonneg h]; omega
  · have : n = -1 ∨ n = -2 ∨ n = -3 ∨ n = -4 := by omega
    rcases this with rfl | rfl | rfl | rfl <;> decide
theorem ints_of_box {w : World} {g : Nat} {t : TypeId} {xs : List Int} (h : Box w g t (xs.map (Value.int .i64)).toArray) : Ints w (some ⟨g, 0, none⟩) xs := by
  intro _
  refine ⟨g, 0, rfl, fun k hk => ?_⟩
  rw [Nat.zero_add, h.cell]
  simp

theorem gwrapped_getD0 {r c : Int} {q : List Int} (h : gwrapped r c q = true) : ∀ k, k < q.length → 0 ≤ q.getD k 0 ∧ q.getD k 0 ≤ 3 := fun k hk => gwrapped_cell h k hk

/-- Partial sums of four steps. -/
theorem psums (s1 s2 s3 s4 : Int) (h1 : -1 ≤ s1 ∧ s1 ≤ 2) (h2 : -1 ≤ s2 ∧ s2 ≤ 2) (h3 : -1 ≤ s3 ∧ s3 ≤ 2) (h4 : -1 ≤ s4 ∧ s4 ≤ 2) :
    ∃ (ps : Nat → Int) (xs : List Int), xs = [s1, s2, s3, s4] ∧ xs.length = 4 ∧ ps 0 = 0 ∧ (∀ k, k < 4 → ps (k + 1) = ps k + xs.getD k 0) ∧ ps 4 = s1 + s2 + s3 + s4 ∧ (∀ k, k ≤ 4 → -4 ≤ ps k ∧ ps k ≤ 8) ∧
      (∀ k, k < 4 → -1 ≤ xs.getD k 0 ∧ xs.getD k 0 ≤ 2) ∧ (∀ k, k < 4 → xs.getD k 0 = 2 → gresOf s1 s2 s3 s4 = 9) ∧ ((∀ k, k < 4 → xs.getD k 0 ≠ 2) → gresOf s1 s2 s3 s4 = (s1 + s2 + s3 + s4).tdiv 4) := by
  refine ⟨fun k => match k with | 0 => 0 | 1 => s1 | 2 => s1 + s2 | 3 => s1 + s2 + s3 | _ => s1 + s2 + s3 + s4, _, rfl, rfl, rfl, ?_, rfl, ?_, ?_, ?_, ?_⟩
  · intro k hk
    match k, hk with
    | 0, _ => simp
    | 1, _ => simp
    | 2, _ => simp
    | 3, _ => simp
  · intro k hk
    match k, hk with
    | 0, _ => simp
    | 1, _ => simp; omega
    | 2, _ => simp; omega
    | 3, _ => simp; omega
    | 4, _ => simp; omega
  · intro k hk
    match k, hk with
    | 0, _ => simpa using h1
    | 1, _ => simpa using h2
    | 2, _ => simpa using h3
    | 3, _ => simpa using h4
  · intro k hk h
    unfold gresOf
    rw [if_pos]
    match k, hk with
    | 0, _ => simp at h; omega
    | 1, _ => simp at h; omega
    | 2, _ => simp at h; omega
    | 3, _ => simp at h; omega
  · intro h
    unfold gresOf
    rw [if_neg]
    have a1 := h 0 (by omega); have a2 := h 1 (by omega); have a3 := h 2 (by omega); have a4 := h 3 (by omega)
    simp at a1 a2 a3 a4
    omega

set_option maxHeartbeats 400000 in
theorem residue_any (a b c d : Int) (w : World) (ha : 0 ≤ a ∧ a ≤ 3) (hb : 0 ≤ b ∧ b ≤ 3) (hc : 0 ≤ c ∧ c ≤ 3) (hd : 0 ≤ d ∧ d ≤ 3) :
    Calls Try.prog 70 #[.int .i64 a, .int .i64 b, .int .i64 c, .int .i64 d] w fun e w' => e = .returned (.int .i64 (gres a b c d)) ∧ ∃ o, w' = w.alloc o := by
  obtain ⟨ps, xs, hxs, hlen, h0, hst, h4, hbd, hxb, hbad, hgood⟩ := psums _ _ _ _ (gshort_bd a b) (gshort_bd b c) (gshort_bd c d) (gshort_bd d a)
  have HB : Hid (∀ k, k < 4 → xs.getD k 0 = 2 → gres a b c d = 9) := hbad
  have HG : Hid ((∀ k, k < 4 → xs.getD k 0 ≠ 2) → gres a b c d = (ps 4).tdiv 4) := fun h => by rw [h4]; exact hgood h
  have HST := Lib.hid hst
  have HX := Lib.hid hxs
  have HL := Lib.hid hlen
  have H0 := Lib.hid h0
  clear hbad hgood hst h4 hxs hlen h0
  go_enter Try.func70, Try.ntmps70
  go_wp2_with (go_at_call 71; refine (step_any _ _ _ (by omega) (by omega) (by omega) (by omega)).mono ?_; rintro e w' ⟨rfl, rfl⟩)
  obtain ⟨W1, hW⟩ : ∃ W, W = w.alloc (.cells (xs.map (Value.int .i64)).toArray 3) := ⟨_, rfl⟩
  have hI : Ints W1 (some ⟨w.heap.size, 0, none⟩) xs := by rw [hW]; exact ints_of_box (Box.new _ _ _)
  rw [HX.out] at hW
  have hW' : W1 = w.alloc (.cells #[.int .i64 (gshort a b), .int .i64 (gshort b c), .int .i64 (gshort c d), .int .i64 (gshort d a)] 3) := hW
  rw [← hW']
  have HW := Lib.hid (show ∃ o, W1 = w.alloc o from ⟨_, hW'⟩)
  clear hW hW'
  go_loopw [10, 11] (fun s i wr => ∃ (k : Nat), k ≤ 4 ∧ s = .int .i64 (ps k) ∧ i = .int .i64 k ∧ Hid (∀ j, j < k → xs.getD j 0 ≠ 2) ∧ W1 = wr) (fun _ i _ => 4 - (intOf i).toNat)
  case atStart => exact ⟨0, by omega, by rw [H0.out], rfl, (fun j hj => by omega : ∀ j, j < 0 → xs.getD j 0 ≠ 2), rfl⟩
  case round =>
    obtain ⟨k, hk, rfl, rfl, HN, rfl⟩ := hrel
    by_cases hlt : k < 4
    · obtain ⟨gg, oo, hA, hcc⟩ := hI.at (by rw [HL.out]; omega)
      have hcell := hcc k (by rw [HL.out]; exact hlt)
      obtain ⟨rfl, rfl⟩ : w.heap.size = gg ∧ 0 = oo := by simpa using hA
      rw [Nat.zero_add] at hcell
      obtain ⟨p0, p1⟩ := hbd k hk
      obtain ⟨x0, x1⟩ := hxb k hlt
      have hps := HST.out k hlt
      have hbk := HB.out k hlt
      obtain ⟨x, hx⟩ : ∃ x, x = xs.getD k 0 := ⟨_, rfl⟩
      rw [← hx] at hcell x0 x1 hps hbk
      have HPS := Lib.hid hps
      have HBK := Lib.hid hbk
      have HXX := Lib.hid hx
      clear hcc hps hbk hx hA
      rcases hx2 : (x == 2) with _ | _
      · go_wp2
        go_roundw
        case rel =>
          refine ⟨k + 1, by omega, by rw [HPS.out], by go_num, ?_, trivial⟩
          intro j hj
          by_cases e : j = k
          · subst e; rw [← HXX.out]; simpa using hx2
          · exact HN.out j (by omega)
        case measure => simp [intOf]; omega
      · go_wp2
        go_ret
        exact ⟨ret_int (HBK.out (by simpa using hx2)).symm, HW.out⟩
    · obtain rfl : k = 4 := by omega
      go_wp2
      go_ret
      have hd := tdiv4_bd (hbd 4 (by omega)).1 (hbd 4 (by omega)).2
      exact ⟨ret_int (by first | rw [HG.out HN.out, IntWalk.wrap64_in _ (by omega)] | rw [HG.out HN.out]), HW.out⟩
end Go.Proofs.Ytploaldfkfjibaa
