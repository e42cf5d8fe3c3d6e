/-
  Texts of four numbers are cut into the four texts, and what is read has its text: plain mathematics.
-/
import Derived.Test.YtklkfkgpjjpaiaaGreatDoorSrP
set_option linter.unusedSimpArgs false
set_option linter.unusedVariables false
namespace Go.Proofs.YtklkfkgpjjpaiaaGreatDoor
open Go.RowKit

theorem digs_noblank {c : UInt8} (h : isDig c = true) : c ≠ 32 := fun e => by
  rw [e] at h
  exact absurd h (by decide)
theorem sgn_noblank (n : Int) : ∀ c ∈ sgn n, c ≠ 32 := by
  rw [sgn_form]
  intro c hc
  rcases List.mem_cons.1 hc with rfl | hc
  · unfold sign1
    split <;> decide
  · exact digs_noblank (dec_digs _ c hc)
theorem txt_noblank {x : Fr} (hv : x.valid = true) : ∀ c ∈ txt x, c ≠ 32 := by
  obtain ⟨-, -, b3⟩ := Fr.bounds hv
  rw [txt_split]
  intro c hc
  rcases List.mem_append.1 hc with hc | hc
  · exact sgn_noblank _ c hc
  rcases List.mem_append.1 hc with hc | hc
  · exact sgn_noblank _ c hc
  rcases List.mem_cons.1 hc with rfl | hc
  · decide
  · unfold tailT at hc
    split at hc
    · cases hc
    · rcases List.mem_cons.1 hc with rfl | hc
      · decide
      · rw [itoa_den b3.1] at hc
        exact digs_noblank (dec_digs _ c hc)
theorem wds_jtxt {a b c d : Fr} (h : svalid a b c d = true) : wds (jtxt a b c d) = [txt a, txt b, txt c, txt d] := by
  obtain ⟨va, vb, vc, vd⟩ := svalid_out h
  rw [jtxt_eq, wds_cut _ _ (txt_noblank va), wds_cut _ _ (txt_noblank vb), wds_cut _ _ (txt_noblank vc), wds_one _ (txt_noblank vd)]
theorem okR_rok {x : Fr} (h : rok x = true) : okR (x, true) = true := by
  unfold rok at h
  unfold okR
  simp at h ⊢
  exact h.2
theorem skr_jtxt {a b c d : Fr} (h : svalid a b c d = true) : skr (jtxt a b c d) = ((a, b, c, d), true) := by
  obtain ⟨va, vb, vc, vd⟩ := svalid_out h
  unfold skr
  rw [wds_jtxt h]
  simp only
  rw [rd_txt va, rd_txt vb, rd_txt vc, rd_txt vd]
  unfold svalid at h
  simp only [Bool.and_eq_true] at h
  unfold fin4
  rw [okR_rok h.1, okR_rok h.2.1, okR_rok h.2.2.1, okR_rok h.2.2.2]
  rfl
theorem join_pre (p : List UInt8) {ws : List (List UInt8)} (h : ws ≠ []) : Lib.join (pre p ws) [32] = p ++ Lib.join ws [32] := by
  cases ws with
  | nil => exact absurd rfl h
  | cons a r =>
    simp only [pre, List.headD_cons, List.tail_cons]
    rw [Lib.join_cons, Lib.join_cons, List.append_assoc]
theorem join_wds : ∀ l : List UInt8, Lib.join (wds l) [32] = l
  | [] => rfl
  | b :: t => by
    by_cases hb : b = 32
    · subst hb
      rw [wds_blank]
      obtain ⟨h, r, hr⟩ : ∃ h r, wds t = h :: r := by
        cases hw : wds t with
        | nil => exact absurd hw (wds_ne t)
        | cons h r => exact ⟨h, r, rfl⟩
      have ih := join_wds t
      rw [hr] at ih ⊢
      rw [Lib.join_cons] at ih ⊢
      simp only [Lib.joinTail, List.map_cons, List.flatten_cons, List.nil_append] at ih ⊢
      rw [List.append_assoc, ih]
      rfl
    · rw [wds_other hb, join_pre [b] (wds_ne t), join_wds t]
      rfl
theorem okR_out {l : List UInt8} (h : okR (rd l) = true) : rok (rd l).1 = true ∧ txt (rd l).1 = l := by
  rcases rd_spec l with ⟨x, h1, h2, h3⟩ | ⟨-, h3⟩
  · rw [h3] at h ⊢
    refine ⟨?_, h2⟩
    unfold okR at h
    unfold rok
    simp at h ⊢
    exact ⟨h1, h⟩
  · rw [h3] at h
    cases h
theorem skr_out {l : List UInt8} {a b c d : Fr} (h : skr l = ((a, b, c, d), true)) : svalid a b c d = true ∧ jtxt a b c d = l := by
  unfold skr at h
  split at h
  · rename_i wa wb wc wd hw
    unfold fin4 at h
    split at h
    · rename_i hok
      simp only [Bool.and_eq_true] at hok
      obtain ⟨ra, ta⟩ := okR_out hok.1
      obtain ⟨rb, tb⟩ := okR_out hok.2.1
      obtain ⟨rc, tc⟩ := okR_out hok.2.2.1
      obtain ⟨rdd, td⟩ := okR_out hok.2.2.2
      simp only [Prod.mk.injEq] at h
      obtain ⟨⟨rfl, rfl, rfl, rfl⟩, -⟩ := h
      refine ⟨by unfold svalid; rw [ra, rb, rc, rdd]; rfl, ?_⟩
      unfold jtxt
      rw [ta, tb, tc, td, ← hw]
      exact join_wds l
    · cases h
  · cases h
theorem jtxt_len {a b c d : Fr} (h : svalid a b c d = true) : (jtxt a b c d).length ≤ 200 := by
  obtain ⟨va, vb, vc, vd⟩ := svalid_out h
  have l1 := txt_len va
  have l2 := txt_len vb
  have l3 := txt_len vc
  have l4 := txt_len vd
  rw [jtxt_eq]
  simp
  omega
end Go.Proofs.YtklkfkgpjjpaiaaGreatDoor
