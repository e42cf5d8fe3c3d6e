/-
  Walks: words between blanks, the library's and the reference's.
-/
import Derived.Test.YtklkfkgpjjpaiaaGreatDoorWdP
import Derived.Test.YtklkfkgpjjpaiaaGreatDoorStkT
import Derived.Test.YtklkfkgpjjpaiaaGreatDoorRdI
import Derived.Test.YtklkfkgpjjpaiaaGreatDoorShelfS
set_option linter.unusedSimpArgs false
set_option linter.unusedVariables false
namespace Go.Proofs.YtklkfkgpjjpaiaaGreatDoor
open Go.RowKit

/-- A slice of strings that reads as these words. -/
def Strs (w : World) (A : Option Addr) (ls : List (List UInt8)) : Prop := Slc w A (stCells ls)
theorem Strs.ex {w w1 : World} {A : Option Addr} {ls : List (List UInt8)} (h : Strs w A ls) (he : Ex w w1) : Strs w1 A ls := Slc.ex h he
theorem OwnS.strs {w : World} {lo : Nat} {A : Option Addr} {cap : Nat} {ls : List (List UInt8)} (h : OwnS w lo A cap ls) : Strs w A ls := Own.slc h
def GotW (w : World) (ls : List (List UInt8)) : Ending → World → Prop := fun e w' => ∃ A cap, e = .returned (.slice A ls.length cap) ∧ Strs w' A ls ∧ Ex w w'
theorem split_any (l : List UInt8) (hl : l.length ≤ 1048576) (w : World) (hm : Mem w) : Calls Tryz.prog 17 #[.string (Bs l), .string ⟨#[32]⟩] w (GotW w (wds l)) := by
  obtain ⟨m, hm⟩ := hm.max
  refine (Tryz.strings_Split (Bs l) ⟨#[32]⟩ m w (by rw [Bs_size]; omega) hm (by decide)).mono ?_
  rintro e w' ⟨rfl, rfl⟩
  rw [split_wds _ l rfl]
  refine ⟨some ⟨w.heap.size, 0, none⟩, Lib.countB (Bs l) ⟨#[32]⟩ + 1, by rw [wds_count], fun _ => ⟨w.heap.size, 0, rfl, fun k hk => ?_⟩, (Ex.refl _).alloc _⟩
  rw [Nat.zero_add, (Box.new w _ 9).cell k]
  simp [stCells]
  rfl
theorem extract_mid (l : List UInt8) (a b : Nat) : (Bs l).extract a b = Bs ((l.drop a).take (b - a)) := ByteArray.extract_mk l a b
theorem take_more {l : List UInt8} {p k : Nat} {c : UInt8} {t : List UInt8} (hp : p ≤ k) (hk : k < l.length) (h : l.drop k = c :: t) : (l.drop p).take (k + 1 - p) = (l.drop p).take (k - p) ++ [c] := by
  have hl : k - p < (l.drop p).length := by rw [List.length_drop]; omega
  have e : k + 1 - p = (k - p) + 1 := by omega
  rw [e, List.take_succ_eq_append_getElem hl]
  congr 1
  have e2 : (l.drop p)[k - p] = l[k] := by
    rw [List.getElem_drop]
    congr 1
    omega
  rw [e2]
  have e3 := List.drop_eq_getElem_cons hk
  rw [h] at e3
  injection e3 with e3 e4
  rw [e3]
set_option maxRecDepth 10000 in
set_option maxHeartbeats 1000000 in
theorem l7Cut_any (l : List UInt8) (hl : l.length ≤ 1048576) (w : World) : Calls Tryz.prog 22 #[.string (Bs l), .int .u8 32] w (GotW w (wds l)) := by
  obtain ⟨S, HS⟩ : ∃ S, Hid (S = Bs l) := ⟨_, Lib.hid rfl⟩
  rw [← HS.out]
  have hsz : S.size = l.length := by rw [HS.out]; rfl
  have HZ := Lib.hid hsz
  clear hsz
  go_enter Tryz.func22, Tryz.ntmps22
  go_wp2
  have hO := ownS_nil w _ (Nat.le_refl _)
  have hE := (Ex.refl w).alloc (.cells #[] 9)
  go_loopw [7, 5, 6] (fun i v f wr => ∃ (k p : Nat) (B : Option Addr) (cb : Nat) (ys : List (List UInt8)), i = .int .i64 k ∧ v = .slice B ys.length cb ∧ f = .int .i64 p ∧ k ≤ l.length + 1 ∧ p ≤ k ∧ ys.length ≤ k ∧
      Hid ((k ≤ l.length → (∀ c ∈ (l.drop p).take (k - p), c ≠ 32) ∧ wds l = ys ++ pre ((l.drop p).take (k - p)) (wds (l.drop k))) ∧ (k = l.length + 1 → wds l = ys)) ∧ Hid (OwnS wr w.heap.size B cb ys) ∧ Ex w wr) (fun i _ _ _ => l.length + 2 - (intOf i).toNat)
  case atStart => exact ⟨0, 0, _, 0, [], rfl, rfl, rfl, by omega, by omega, by simp, Lib.hid ⟨fun _ => ⟨by simp, by simp [pre_nil (wds_ne l)]⟩, fun h => by omega⟩, Lib.hid hO, hE⟩
  case round =>
    obtain ⟨k, p, B, cb, ys, rfl, rfl, rfl, hk, hp, hyk, HI, HO, hEr⟩ := hrel
    have hsz2 := hEr.size
    by_cases h1 : k = l.length + 1
    · have hkI : ¬ (k : Int) ≤ (S.size : Int) := by rw [HZ.out]; omega
      have e1 := HI.out.2 h1
      clear HI
      go_wp2
      refine bodyPost_ret (v := .slice B ys.length cb) ?_ rfl ?_
      · simp [results, Tryz.results22, go_sem]
      · exact ⟨B, cb, rfl, HO.out.strs, hEr⟩
    · by_cases h2 : k = l.length
      · obtain rfl : k = S.size := by rw [HZ.out]; exact h2
        have H2 := Lib.hid h2
        clear h2 h1
        obtain ⟨x, Hx⟩ : ∃ x, Hid (x = (l.drop p).take (S.size - p)) := ⟨_, Lib.hid rfl⟩
        have hext : S.extract p S.size = Bs x := by rw [Hx.out, ← extract_mid, ← HS.out]
        have hw5 : IntKind.i64.wrap ((S.size : Int) + 1) = (S.size : Int) + 1 := IntWalk.i64_in _ (by have := H2.out; omega)
        have hpk : (p : Int) ≤ (S.size : Int) := by omega
        have hp0 : (0 : Int) ≤ (p : Int) := by omega
        have hk0 : (0 : Int) ≤ (S.size : Int) := by omega
        have hyl : ys.length ≤ 1048576 := by have := H2.out; omega
        have HNEW : Hid ((S.size + 1 ≤ l.length → (∀ c ∈ (l.drop (S.size + 1)).take (S.size + 1 - (S.size + 1)), c ≠ 32) ∧ wds l = (ys ++ [x]) ++ pre ((l.drop (S.size + 1)).take (S.size + 1 - (S.size + 1))) (wds (l.drop (S.size + 1)))) ∧ (S.size + 1 = l.length + 1 → wds l = ys ++ [x])) := Lib.hid (by
          obtain ⟨g1, g2⟩ := HI.out.1 (by have := H2.out; omega)
          rw [← Hx.out] at g1 g2
          refine ⟨fun h => by have := H2.out; omega, fun _ => ?_⟩
          rw [g2, drop_end (by have := H2.out; omega)]
          simp [pre, wds])
        go_wp2_with (at_builtin; refine wpList_appV slS rfl _ _ wr rfl w.heap.size B cb ys.length (stCells ys) [.string (Bs x)] rfl (by simp [Value.oneCell']) rfl HO.out rfl hyl hsz2 ?_)
        intro A' cap' w' hown' hk'
        have hE3 := hk'.ex w hEr (Nat.le_refl _)
        have HO3 := Lib.hid (OwnS.snoc (l := x) hown')
        clear hown' hk'
        go_wp2
        go_roundw
        case rel => exact ⟨S.size + 1, S.size + 1, A', cap', ys ++ [x], by go_num, by simp, by go_num, by have := H2.out; omega, by omega, by simp; omega, HNEW, HO3, hE3⟩
        case measure => have := H2.out; simp [intOf]; omega
      · have hlt : k < l.length := by omega
        obtain ⟨hs, hc⟩ := Bs_at HS.out hlt
        have hkI : (k : Int) ≤ (S.size : Int) := by rw [HZ.out]; omega
        have hkL : (k : Int) < (S.size : Int) := by rw [HZ.out]; omega
        have hkE : ¬ (k : Int) = (S.size : Int) := by rw [HZ.out]; omega
        have hkE2 : ((k : Int) == (S.size : Int)) = false := by simpa using hkE
        have hdr := drop_at hlt
        generalize l[k] = c at hc hdr
        by_cases h3 : c = 32
        · have h3n : (c.toNat : Int) = 32 := by rw [h3]; rfl
          obtain ⟨x, Hx⟩ : ∃ x, Hid (x = (l.drop p).take (k - p)) := ⟨_, Lib.hid rfl⟩
          have hext : S.extract p k = Bs x := by rw [HS.out, extract_mid, Hx.out]
          have hw5 : IntKind.i64.wrap ((k : Int) + 1) = (k : Int) + 1 := IntWalk.i64_in _ (by omega)
          have hpk : (p : Int) ≤ (k : Int) := by omega
          have hp0 : (0 : Int) ≤ (p : Int) := by omega
          have hk0 : (0 : Int) ≤ (k : Int) := by omega
          have hyl : ys.length ≤ 1048576 := by omega
          have HNEW : Hid ((k + 1 ≤ l.length → (∀ c ∈ (l.drop (k + 1)).take (k + 1 - (k + 1)), c ≠ 32) ∧ wds l = (ys ++ [x]) ++ pre ((l.drop (k + 1)).take (k + 1 - (k + 1))) (wds (l.drop (k + 1)))) ∧ (k + 1 = l.length + 1 → wds l = ys ++ [x])) := Lib.hid (by
            obtain ⟨g1, g2⟩ := HI.out.1 (by omega)
            rw [← Hx.out] at g1 g2
            refine ⟨fun _ => ⟨by simp, ?_⟩, fun h => by omega⟩
            rw [g2, hdr, h3, wds_blank, Nat.sub_self, List.take_zero, pre_nil (wds_ne _)]
            simp [pre])
          go_wp2_with (at_builtin; refine wpList_appV slS rfl _ _ wr rfl w.heap.size B cb ys.length (stCells ys) [.string (Bs x)] rfl (by simp [Value.oneCell']) rfl HO.out rfl hyl hsz2 ?_)
          intro A' cap' w' hown' hk'
          have hE3 := hk'.ex w hEr (Nat.le_refl _)
          have HO3 := Lib.hid (OwnS.snoc (l := x) hown')
          clear hown' hk'
          go_wp2
          go_roundw
          case rel => exact ⟨k + 1, k + 1, A', cap', ys ++ [x], by go_num, by simp, by go_num, by omega, by omega, by simp; omega, HNEW, HO3, hE3⟩
          case measure => simp [intOf]; omega
        · have h3n : ¬ (c.toNat : Int) = 32 := fun e => h3 (UInt8.toNat_inj.1 (by show c.toNat = 32; omega))
          have h3b : ((c.toNat : Int) == 32) = false := by simpa using h3n
          have hw5 : IntKind.i64.wrap ((k : Int) + 1) = (k : Int) + 1 := IntWalk.i64_in _ (by omega)
          have HNEW : Hid ((k + 1 ≤ l.length → (∀ d ∈ (l.drop p).take (k + 1 - p), d ≠ 32) ∧ wds l = ys ++ pre ((l.drop p).take (k + 1 - p)) (wds (l.drop (k + 1)))) ∧ (k + 1 = l.length + 1 → wds l = ys)) := Lib.hid (by
            obtain ⟨g1, g2⟩ := HI.out.1 (by omega)
            have e : (l.drop p).take (k + 1 - p) = (l.drop p).take (k - p) ++ [c] := take_more hp hlt hdr
            refine ⟨fun _ => ⟨?_, ?_⟩, fun h => by omega⟩
            · intro d hd
              rw [e] at hd
              rcases List.mem_append.1 hd with hd | hd
              · exact g1 d hd
              · rw [List.mem_singleton.1 hd]; exact h3
            · rw [g2, hdr, wds_other h3, pre_pre, e])
          clear hdr
          go_wp2
          go_roundw
          case rel => exact ⟨k + 1, p, B, cb, ys, by go_num, rfl, rfl, by omega, by omega, by omega, HNEW, HO, hEr⟩
          case measure => simp [intOf]; omega
end Go.Proofs.YtklkfkgpjjpaiaaGreatDoor
