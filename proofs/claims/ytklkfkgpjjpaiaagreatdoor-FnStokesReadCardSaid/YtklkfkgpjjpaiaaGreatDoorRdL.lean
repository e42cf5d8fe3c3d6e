/-
  Walks: the library's LastIndexAny at the two signs.
-/
import Derived.Test.YtklkfkgpjjpaiaaGreatDoorRdR
import Derived.Lib.TrimAscii
import Derived.Lib.TrimU
import Derived.Deep.WholeRow
set_option linter.unusedSimpArgs false
set_option linter.unusedVariables false
namespace Go.Proofs.YtklkfkgpjjpaiaaGreatDoor
open Go.RowKit

/-- What LastIndexAny at "+-" gives: some index or -1; where all bytes are ASCII, that of the last sign. -/
def LiaAt (l : List UInt8) (n : Int) : Prop := -1 ≤ n ∧ n < l.length ∧ ((∀ c ∈ l, c.toNat < 128) → n = lastSign l)
theorem alloc_size2 (w : World) (o : Obj) : (w.alloc o).heap.size = w.heap.size + 1 := by
  show (w.heap.push o).size = _
  exact Array.size_push ..
theorem contains_signs (x : UInt8) : ([43, 45] : List UInt8).contains x = isSign x := by
  unfold isSign
  simp only [List.contains_cons, List.contains_nil, Bool.or_false]
def Asc (l : List UInt8) : Prop := ∀ c ∈ l, c.toNat < 128
def NoSg (l : List UInt8) (i : Nat) : Prop := ∀ c ∈ l.drop i, isSign c = false
theorem nosg_zero {l : List UInt8} (h : NoSg l 0) : lastSign l = -1 := lastSign_none l h
theorem nosg_end (l : List UInt8) : NoSg l l.length := fun c hc => by rw [List.drop_length] at hc; cases hc
theorem split_at {l : List UInt8} {i : Nat} (hi : i < l.length) : l = l.take i ++ l[i] :: l.drop (i + 1) := by
  rw [← List.drop_eq_getElem_cons hi, List.take_append_drop]
theorem nosg_step {l : List UInt8} {i : Nat} (hi : i < l.length) (h : NoSg l (i + 1)) (hs : isSign l[i] = false) : NoSg l i := by
  intro c hc
  rw [List.drop_eq_getElem_cons hi] at hc
  rcases List.mem_cons.1 hc with rfl | hc
  · exact hs
  · exact h c hc
theorem sign_at {l : List UInt8} {i : Nat} (hi : i < l.length) (h : NoSg l (i + 1)) (hs : isSign l[i] = true) : lastSign l = i := by
  have e := split_at hi
  have h2 := lastSign_at (l.take i) l[i] (l.drop (i + 1)) hs h
  rw [← e] at h2
  rw [h2, List.length_take]
  omega
theorem isSign_iff (c : UInt8) : isSign c = true ↔ ((c.toNat : Int) = 43 ∨ (c.toNat : Int) = 45) := by
  unfold isSign
  simp only [Bool.or_eq_true, beq_iff_eq]
  constructor
  · rintro (rfl | rfl)
    · exact .inl rfl
    · exact .inr rfl
  · rintro (h | h)
    · exact .inl (UInt8.toNat_inj.1 (by show c.toNat = 43; omega))
    · exact .inr (UInt8.toNat_inj.1 (by show c.toNat = 45; omega))
theorem lia_none {l : List UInt8} (h : Asc l → NoSg l 0) : LiaAt l (-1) := ⟨by omega, by omega, fun ha => (nosg_zero (h ha)).symm⟩

set_option maxRecDepth 20000 in
set_option maxHeartbeats 1000000 in
/-- At most eight bytes, not one. -/
theorem lia_short (l : List UInt8) (hl : l.length ≤ 8) (h1 : l.length ≠ 1) (w : World) (hm : Mem w) : Calls Tryz.prog 35 #[.string (Bs l), .string ⟨#[43, 45]⟩] w fun e w' => ∃ n, e = .returned (.int .i64 n) ∧ Ex w w' ∧ LiaAt l n := by
  obtain ⟨S, HS⟩ : ∃ S, Hid (S = Bs l) := ⟨_, Lib.hid rfl⟩
  rw [← HS.out]
  have hsz : S.size = l.length := by rw [HS.out]; rfl
  have HZ := Lib.hid hsz
  have n1 : ¬ (S.size : Int) = 1 := by omega
  have n1b : ((S.size : Int) == 1) = false := by simpa using n1
  have n8 : decide ((8 : Int) < (S.size : Int)) = false := by simp; omega
  have ks := fun w => Tryz.strings_shouldUseASCIISet (S.size : Int) w
  rw [n8] at ks
  have KS := Lib.hid ks
  have HM := Lib.hid hm
  have HL := Lib.hid hl
  clear ks hsz hm
  go_enter Tryz.func35, Tryz.ntmps35
  go_wp2_with fail
  refine (KS.out _).mono ?_
  rintro e w1 ⟨rfl, rfl⟩
  go_wp2_with fail
  go_loopw [13, 14, 15] (fun i r0 s0 wr => ∃ k : Nat, i = .int .i64 k ∧ k ≤ l.length ∧ Hid (Asc l → NoSg l k) ∧ Ex w1 wr) (fun i _ _ _ => (intOf i).toNat)
  case atStart => exact ⟨l.length, by rw [HZ.out], by omega, Lib.hid fun _ => nosg_end l, Ex.refl _⟩
  case round =>
    obtain ⟨k, rfl, hk, HN, hE⟩ := hrel
    by_cases h0 : k = 0
    · subst h0
      have h00 : ¬ (0 : Int) < ((0 : Nat) : Int) := by omega
      go_wp2
      go_ret
      exact ⟨_, rfl, hE, lia_none HN.out⟩
    · have hkI : (0 : Int) < (k : Int) := by omega
      have hkS : (k : Int) ≤ (S.size : Int) := by rw [HZ.out]; omega
      have hk0 : (0 : Int) ≤ (k : Int) := by omega
      have hext : S.extract 0 k = Bs (l.take k) := by
        rw [HS.out]
        have := ByteArray.extract_mk l 0 k
        simpa [Bs] using this
      have kd := fun w hm => Tryz.utf8_DecodeLastRuneInString (Bs (l.take k)) w (by rw [Bs_size, List.length_take]; omega) hm
      have hb : (Bs (l.take k)).data.toList = l.take k := by simp [Bs]
      rw [hb] at kd
      have hlt : (l.take k).length = k := by rw [List.length_take]; omega
      have hw := Lib.decodeLastL_width (l.take k) (by omega)
      have hr := Lib.decodeLastL_rune (l.take k)
      have hasc : Asc l → ∃ h : k - 1 < l.length, Lib.decodeLastL (l.take k) = (l[k - 1].toNat, 1) := fun ha => by
        have hk1 : k - 1 < l.length := by omega
        refine ⟨hk1, ?_⟩
        have e : l.take k = l.take (k - 1) ++ [l[k - 1]] := by
          have := List.take_succ_eq_append_getElem hk1
          have e2 : k - 1 + 1 = k := by omega
          rwa [e2] at this
        rw [e]
        exact Lib.decodeLastL_ascii _ _ (ha _ (List.getElem_mem hk1))
      have HA := Lib.hid hasc
      rw [hlt] at hw
      generalize Bs (l.take k) = T at kd hext
      generalize Lib.decodeLastL (l.take k) = d at kd hw hr HA
      obtain ⟨r, sz⟩ := d
      simp only at kd hw hr
      have KD := Lib.hid kd
      have hsub : IntKind.i64.wrap ((k : Int) - (sz : Int)) = ((k - sz : Nat) : Int) := by
        rw [IntWalk.i64_in _ (by omega)]
        omega
      have ki := fun w => ir_any (r : Int) (by omega) w
      have KI := Lib.hid ki
      clear kd hb hlt hasc ki
      go_wp2_with fail
      refine (KD.out _ (HM.out.ex hE).utf).mono ?_
      rintro e w2 ⟨rfl, hx⟩
      replace hE := hE.trans hx
      clear hx
      go_wp2_with fail
      refine (KI.out _).mono ?_
      rintro e w3 ⟨n, rfl, hx, hn1, hn2, hn3⟩
      replace hE := hE.trans hx
      clear hx
      have HN3 := Lib.hid hn3
      clear hn3
      by_cases hn : 0 ≤ n
      · go_wp2
        go_ret
        refine ⟨_, rfl, hE, by omega, by omega, fun ha => ?_⟩
        obtain ⟨hk1, hd⟩ := HA.out ha
        simp only [Prod.mk.injEq] at hd
        obtain ⟨hd1, hd2⟩ := hd
        have hs : isSign l[k - 1] = true := by
          rw [isSign_iff, ← hd1]
          have hlt2 : (r : Int) < 128 := by have := ha _ (List.getElem_mem hk1); omega
          exact (HN3.out hlt2).1 hn
        have hng := HN.out ha
        have e2 : k - 1 + 1 = k := by omega
        rw [sign_at hk1 (by rw [e2]; exact hng) hs]
        omega
      · have hnew : Hid (Asc l → NoSg l (k - sz)) := Lib.hid fun ha => by
          obtain ⟨hk1, hd⟩ := HA.out ha
          simp only [Prod.mk.injEq] at hd
          obtain ⟨hd1, hd2⟩ := hd
          have hs : isSign l[k - 1] = false := by
            rw [← Bool.not_eq_true, isSign_iff, ← hd1]
            have hlt2 : (r : Int) < 128 := by have := ha _ (List.getElem_mem hk1); omega
            exact fun h => hn ((HN3.out hlt2).2 h)
          have e2 : k - 1 + 1 = k := by omega
          rw [hd2]
          exact nosg_step hk1 (by rw [e2]; exact HN.out ha) hs
        go_wp2
        go_roundw
        case rel => exact ⟨k - sz, rfl, by omega, hnew, hE⟩
        case measure => simp [intOf]; omega
set_option maxRecDepth 20000 in
set_option maxHeartbeats 1000000 in
/-- More than eight bytes. -/
theorem lia_long (l : List UInt8) (hl : l.length ≤ 1048576) (h8 : 8 < l.length) (w : World) : Calls Tryz.prog 35 #[.string (Bs l), .string ⟨#[43, 45]⟩] w fun e w' => ∃ n, e = .returned (.int .i64 n) ∧ Ex w w' ∧ LiaAt l n := by
  obtain ⟨S, HS⟩ : ∃ S, Hid (S = Bs l) := ⟨_, Lib.hid rfl⟩
  rw [← HS.out]
  have hsz : S.size = l.length := by rw [HS.out]; rfl
  have HZ := Lib.hid hsz
  have n1 : ¬ (S.size : Int) = 1 := by omega
  have n1b : ((S.size : Int) == 1) = false := by simpa using n1
  have n8 : decide ((8 : Int) < (S.size : Int)) = true := by simp; omega
  have ks := fun w => Tryz.strings_shouldUseASCIISet (S.size : Int) w
  rw [n8] at ks
  have KS := Lib.hid ks
  have hzc : ∀ w, (zeroValue 87).run Tryz.prog w = .ok (.agg (Array.replicate 256 (.bool false))) w := fun w => by rw [Tryz.zeroValue87]; rfl
  have km := fun w => Tryz.strings_makeASCIISet hzc ⟨#[43, 45]⟩ w (by decide) (by
    intro j b hj
    match j, hj with
    | 0, hj => injection hj with hj; subst hj; decide
    | 1, hj => injection hj with hj; subst hj; decide
    | j + 2, hj => cases hj)
  have hC := Lib.setCells_size (ByteArray.mk #[43, 45]).data.toList
  have hC1 := Lib.setCells_one (ByteArray.mk #[43, 45]).data.toList
  have hCa := Lib.setCells_at (ByteArray.mk #[43, 45]).data.toList
  generalize Lib.setCells (ByteArray.mk #[43, 45]).data.toList = C at km hC hC1 hCa
  have KM := Lib.hid km
  have HCA := Lib.hid hCa
  clear ks hsz km hCa
  go_enter Tryz.func35, Tryz.ntmps35
  go_wp2_with fail
  refine (KS.out _).mono ?_
  rintro e w1 ⟨rfl, rfl⟩
  go_wp2_with fail
  refine (KM.out _).mono ?_
  rintro e w2 ⟨rfl, rfl⟩
  go_wp2
  have hsc : (storeCells ⟨w1.heap.size + 1, 0, none⟩ C.toList 0).run Tryz.prog ((w1.alloc (.cells C 87)).alloc (.cells (Array.replicate 256 (.bool false)) 87)) = .ok () ((w1.alloc (.cells C 87)).alloc (.cells C 87)) := by
    have := run_storeCells_new (P := Tryz.prog) (w1.alloc (.cells C 87)) 87 (Array.replicate 256 (.bool false)) C (by rw [hC]; kernel_rfl) (by rw [hC, Array.size_replicate]) hC1
    rwa [alloc_size2] at this
  simp only [hsc, Result.andThen]
  rw [Oper.upon_skip]
  have bC : Box ((w1.alloc (.cells C 87)).alloc (.cells C 87)) (w1.heap.size + 1) 87 C := by
    have := Box.new (w1.alloc (.cells C 87)) C 87
    rwa [alloc_size2] at this
  have hE : Ex w1 ((w1.alloc (.cells C 87)).alloc (.cells C 87)) := ((Ex.refl _).alloc _).alloc _
  generalize (w1.alloc (.cells C 87)).alloc (.cells C 87) = w2 at bC hE ⊢
  have KC : Hid (∀ x : UInt8, Calls Tryz.prog 65 #[.pointer (some ⟨w1.heap.size + 1, 0, none⟩), .int .u8 x.toNat] w2 fun e w' => e = .returned (.bool (isSign x)) ∧ w' = w2) := Lib.hid fun x => Tryz.asciiSet_contains _ x _ w2 (by
    rw [bC.cell, HCA.out]
    exact congrArg (fun b => some (Value.bool b)) (contains_signs x))
  have hwS : IntKind.i64.wrap ((S.size : Int) - 1) = (S.size : Int) - 1 := IntWalk.i64_in _ (by have := HZ.out; omega)
  clear bC KM HCA hC hC1 hsc hzc
  go_wp2
  go_loopw [8] (fun i wr => ∃ k : Nat, i = .int .i64 ((k : Int) - 1) ∧ k ≤ l.length ∧ Hid (NoSg l k) ∧ wr = w2) (fun i _ => (intOf i + 1).toNat)
  case atStart => exact ⟨l.length, by rw [HZ.out], by omega, Lib.hid (nosg_end l), rfl⟩
  case round =>
    obtain ⟨k, rfl, hk, HN, rfl⟩ := hrel
    by_cases h0 : k = 0
    · subst h0
      have h00 : ¬ (0 : Int) ≤ ((0 : Nat) : Int) - 1 := by omega
      go_wp2
      go_ret
      exact ⟨_, rfl, hE, lia_none fun _ => HN.out⟩
    · obtain ⟨j, rfl⟩ : ∃ j, k = j + 1 := ⟨k - 1, by omega⟩
      have ej : ((j + 1 : Nat) : Int) - 1 = (j : Int) := by omega
      rw [ej]
      have hjl : j < l.length := by omega
      obtain ⟨hs, hc⟩ := Bs_at HS.out hjl
      have hlI : (j : Int) < (S.size : Int) := by rw [HZ.out]; omega
      have hwj : IntKind.i64.wrap ((j : Int) - 1) = (j : Int) - 1 := IntWalk.i64_in _ (by omega)
      have kc := KC.out l[j]
      rcases hsg : isSign l[j] with _ | _
      · have hnew := Lib.hid (nosg_step hjl HN.out hsg)
        rw [hsg] at kc
        generalize l[j] = c at kc hc
        have KC2 := Lib.hid kc
        clear kc hsg
        go_wp2_with fail
        refine (KC2.out).mono ?_
        rintro e w3 ⟨rfl, rfl⟩
        go_wp2
        go_roundw
        case rel => exact ⟨j, by go_num, by omega, hnew, trivial⟩
        case measure => simp [intOf]
      · have hfin := Lib.hid (sign_at hjl HN.out hsg)
        rw [hsg] at kc
        generalize l[j] = c at kc hc
        have KC2 := Lib.hid kc
        clear kc hsg
        go_wp2_with fail
        refine (KC2.out).mono ?_
        rintro e w3 ⟨rfl, rfl⟩
        go_wp2
        go_ret
        exact ⟨_, rfl, hE, by omega, by omega, fun _ => hfin.out.symm⟩
set_option maxRecDepth 20000 in
set_option maxHeartbeats 1000000 in
/-- One byte. -/
theorem lia_one (c : UInt8) (w : World) : Calls Tryz.prog 35 #[.string (Bs [c]), .string ⟨#[43, 45]⟩] w fun e w' => ∃ n, e = .returned (.int .i64 n) ∧ Ex w w' ∧ LiaAt [c] n := by
  obtain ⟨S, HS⟩ : ∃ S, Hid (S = Bs [c]) := ⟨_, Lib.hid rfl⟩
  rw [← HS.out]
  have hsz : (S.size : Int) = 1 := by rw [HS.out]; rfl
  obtain ⟨hs, hc⟩ := Bs_at HS.out (i := 0) (by simp)
  have hc0 : S[0]'hs = c := hc
  have hlc : c.toNat < 256 := UInt8.toNat_lt c
  have hwr : IntKind.i32.wrap (c.toNat : Int) = (c.toNat : Int) := IntWalk.i32_in _ (by omega)
  clear hc
  by_cases h : c.toNat < 128
  · have hI : ¬ (128 : Int) ≤ (c.toNat : Int) := by omega
    have KI := Lib.hid fun w => ir_any (c.toNat : Int) (by omega) w
    go_enter Tryz.func35, Tryz.ntmps35
    go_wp2_with fail
    refine (KI.out _).mono ?_
    rintro e w1 ⟨n, rfl, hE, hn1, hn2, hn3⟩
    have HN := Lib.hid (hn3 (by omega))
    clear hn3
    by_cases hn : 0 ≤ n
    · have hsg : isSign c = true := (isSign_iff c).2 (HN.out.1 hn)
      go_wp2
      go_ret
      exact ⟨_, rfl, hE, by omega, by simp, fun _ => by simp [lastSign, hsg]⟩
    · have hsg : isSign c = false := by
        rw [← Bool.not_eq_true, isSign_iff]
        exact fun h => hn (HN.out.2 h)
      go_wp2
      go_ret
      exact ⟨_, rfl, hE, by omega, by simp, fun _ => by simp [lastSign, hsg]⟩
  · have hI : (128 : Int) ≤ (c.toNat : Int) := by omega
    have KI := Lib.hid fun w => ir_any 65533 (by omega) w
    go_enter Tryz.func35, Tryz.ntmps35
    go_wp2_with fail
    refine (KI.out _).mono ?_
    rintro e w1 ⟨n, rfl, hE, hn1, hn2, hn3⟩
    clear hn3
    by_cases hn : 0 ≤ n
    · go_wp2
      go_ret
      exact ⟨_, rfl, hE, by omega, by simp, fun ha => absurd (ha c (by simp)) h⟩
    · go_wp2
      go_ret
      exact ⟨_, rfl, hE, by omega, by simp, fun ha => absurd (ha c (by simp)) h⟩
theorem lia_any (l : List UInt8) (hl : l.length ≤ 1048576) (w : World) (hm : Mem w) : Calls Tryz.prog 35 #[.string (Bs l), .string ⟨#[43, 45]⟩] w fun e w' => ∃ n, e = .returned (.int .i64 n) ∧ Ex w w' ∧ LiaAt l n := by
  by_cases h8 : 8 < l.length
  · exact lia_long l hl h8 w
  · by_cases h1 : l.length = 1
    · obtain ⟨c, rfl⟩ := List.length_eq_one_iff.1 h1
      exact lia_one c w
    · exact lia_short l (by omega) h1 w hm
end Go.Proofs.YtklkfkgpjjpaiaaGreatDoor
