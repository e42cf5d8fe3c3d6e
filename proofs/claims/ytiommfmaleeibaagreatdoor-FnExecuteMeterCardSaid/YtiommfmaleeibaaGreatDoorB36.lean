/-
  Proved: what functions compute, part 36. No condition.
-/
import Derived.Test.YtiommfmaleeibaaGreatDoorB31
import Derived.Test.YtiommfmaleeibaaGreatDoorB23
set_option linter.unusedSimpArgs false
set_option linter.unusedVariables false
set_option maxRecDepth 20000
set_option maxHeartbeats 8000000
namespace Go.Proofs.YtiommfmaleeibaaGreatDoor
section
open Go.RowKit

attribute [local go_sem] Zi Zh
theorem iExecute (st : Con → List UInt8 → Con × List UInt8) (Q : Con → Prop) (text : List UInt8) (hl : text.length ≤ 700) (hQ : Q Con.new) (hL : ∀ l ∈ (lns text).dropLast, LineOk st Q l)
  (hP : ∀ c, Q c → ∀ w, Yc w → Vs w → Calls Tryz.prog 30 #[.string (Bs c.b)] w fun e w' => e = .returned (.int .i64 (Nn c.b)) ∧ Ex w w') (w : World) [hG : Yc w] (hm : Vs w) :
  Calls Tryz.prog 9 #[.string (Bs text)] w fun e w' => e = .returned (.string (Bs (exec st text))) ∧ Ex w w' := by
 have KL := Kw (fun w hm => splitN_any text (by omega) w hm)
 obtain ⟨R, HR⟩ : ∃ R, Hid (R = crun st Con.new (lns text).dropLast []) := ⟨_, Kw rfl⟩
 have HE : Hid (exec st text = said R) := Kw (by rw [HR.out]; rfl)
 have hn1 : 1 ≤ (lns text).length := by have := List.length_pos_iff.2 (lns_ne text); omega
 have hn2 : (lns text).length ≤ 701 := by have := lns_len text; omega
 have HB := Kw (fun x (hx : x ∈ (lns text).dropLast) => lns_bytes text x (List.dropLast_subset _ hx))
 have HLN : Hid ((lns text).dropLast.length = (lns text).length - 1) := Kw List.length_dropLast
 have HAT : Hid (∀ k (h : k < (lns text).dropLast.length), (Wv (lns text)).toArray[k]? = some (.string (Bs (lns text).dropLast[k]))) := Kw fun k h => by
  have h2 : k < (lns text).length := by have := HLN.out; omega
  simp [Wv, List.getElem?_eq_getElem h2]
 have hsz : (Bs text).size = text.length := Xp text
 have HM := Kw hm
 have HG := Kw hG
 have HP := Kw hP
 have HL := Kw hL
 have HQ0 := Kw hQ
 clear hm hP hL hQ
 generalize Bs text = S at *
 generalize exec st text = RES at *
 generalize hll : (lns text).length = n1 at *
 generalize hld : (lns text).dropLast = ls at *
 generalize hlc : (Wv (lns text)).toArray = lc at *
 clear hll hld hlc
 have hsz2 : ¬ (700 : Int) < (S.size : Int) := by omega
 have HSZ := Kw hsz
 clear hsz
 have hs1 : IntKind.i64.wrap ((n1 : Int) - 1) = ((n1 - 1 : Nat) : Int) := by have := Kq ((n1 : Int) - 1) (by omega); rw [this]; omega
 have hs2 : (0 : Int) ≤ ((n1 - 1 : Nat) : Int) := by omega
 have hs3 : ((n1 - 1 : Nat) : Int) ≤ (n1 : Int) := by omega
 have hg := hG.reads
 have hR := Zw.refl w
 go_enter Tryz.func9, Tryz.ntmps9
 go_upto_region 5 with fail
 have bC : Box ((w.alloc (.cells #[.string ⟨#[]⟩, .int .i64 1, .int .i64 0, .int .i64 1, .int .i64 0, .int .i64 0, .int .i64 1] 55)).alloc (.cells #[.pointer none, .slice none 0 0] 58)) w.heap.size 55 #[.string ⟨#[]⟩, .int .i64 1, .int .i64 0, .int .i64 1, .int .i64 0, .int .i64 0, .int .i64 1] := (Box.new w _ _).alloc _
 have bB : Box ((w.alloc (.cells #[.string ⟨#[]⟩, .int .i64 1, .int .i64 0, .int .i64 1, .int .i64 0, .int .i64 0, .int .i64 1] 55)).alloc (.cells #[.pointer none, .slice none 0 0] 58)) (w.heap.size + 1) 58 #[.pointer none, .slice none 0 0] := by
  have h := Box.new (w.alloc (.cells #[.string ⟨#[]⟩, .int .i64 1, .int .i64 0, .int .i64 1, .int .i64 0, .int .i64 0, .int .i64 1] 55)) #[.pointer none, .slice none 0 0] 58
  rwa [Kv] at h
 have hE1 : Ex w ((w.alloc (.cells #[.string ⟨#[]⟩, .int .i64 1, .int .i64 0, .int .i64 1, .int .i64 0, .int .i64 0, .int .i64 1] 55)).alloc (.cells #[.pointer none, .slice none 0 0] 58)) := ((Ex.refl w).alloc _).alloc _
 have hz1 : ((w.alloc (.cells #[.string ⟨#[]⟩, .int .i64 1, .int .i64 0, .int .i64 1, .int .i64 0, .int .i64 0, .int .i64 1] 55)).alloc (.cells #[.pointer none, .slice none 0 0] 58)).heap.size = w.heap.size + 2 := by simp only [Kv]
 generalize (w.alloc (.cells #[.string ⟨#[]⟩, .int .i64 1, .int .i64 0, .int .i64 1, .int .i64 0, .int .i64 0, .int .i64 1] 55)).alloc (.cells #[.pointer none, .slice none 0 0] 58) = W1 at *
 clear hR hg
 go_wp2_with fail
 refine (KL.out _ (HM.out.ex hE1)).mono ?_
 rintro e w2 ⟨rfl, rfl⟩
 have hS : ExS w (W1.alloc (.cells lc 9)) w.heap.size (w.heap.size + 1) W1.heap.size (w.heap.size + 1) Con.new [] (.pointer none) (.slice none 0 0) lc :=
  ⟨hE1.alloc _, bC.alloc _, ⟨bB.alloc _, ⟨by simp [Lib.byteCells], .inl ⟨rfl, rfl⟩⟩, .inl rfl⟩, Box.new W1 lc _⟩
 have hsz0 : w.heap.size + 1 ≤ (W1.alloc (.cells lc 9)).heap.size := by rw [Kv]; omega
 have hb1 : w.heap.size ≠ W1.heap.size := by omega
 have hb2 : w.heap.size + 1 ≠ W1.heap.size := by omega
 have HB1 := Kw hb1
 have HB2 := Kw hb2
 have HS0 := Kw hS
 generalize W1.alloc (.cells lc 9) = W2 at *
 generalize W1.heap.size = bl at *
 clear hE1 bC bB hz1 hS KL hb1 hb2
 go_wp2_with fail
 go_loopw [32, 7, 8, 9, 10, 11, 12, 13] (fun i _ _ _ _ _ _ _ wr => ∃ (k : Nat) (c : Con) (o : List UInt8) (p v : Value), i = .int .i64 k ∧ k ≤ ls.length ∧ Hid (R = crun st c (ls.drop k) o) ∧ Hid (Q c) ∧ o.length ≤ 10001 * k ∧ Hid (ExS w wr w.heap.size (w.heap.size + 1) bl (w.heap.size + 1) c o p v lc)) (fun i _ _ _ _ _ _ _ _ => 702 - (intOf i).toNat)
 case atStart => exact ⟨0, Con.new, [], _, _, rfl, by omega, HR, HQ0, by simp, HS0⟩
 case round =>
  clear HS0 HR HQ0 hsz0
  obtain ⟨k, c, o, p, v, rfl, hk, HR, HQ, ho, HS⟩ := hrel
  have hsz0 := HS.out.ex.size
  have hlo : w.heap.size + 1 ≤ wr.heap.size := by have := HS.out.bld.box.lt; omega
  by_cases hlt : k < ls.length
  ·have hI : (k : Int) < ((n1 - 1 : Nat) : Int) := by have := HLN.out; omega
   have hw5 : IntKind.i64.wrap ((k : Int) + 1) = (k : Int) + 1 := Kq _ (by have := HLN.out; omega)
   have d0 := (HS.out.lines.cell k).trans (HAT.out k hlt)
   have hmem := List.getElem_mem hlt
   have hll := HB.out _ hmem
   have HST := Kw (crun_step st hlt c o)
   obtain ⟨hQ2, hr2, hcall⟩ := HL.out _ hmem c HQ.out
   have HK := Kw hlt
   clear hmem
   generalize ls[k] = l at d0 hll HST hQ2 hr2 hcall
   clear hlt HQ
   have KC := Kw (fun w hm => cutl_any l (by omega) w hm)
   generalize Nm l = cc at KC hcall
   obtain ⟨x, y, f⟩ := cc
   generalize st c l = r at HST hQ2 hr2 hcall
   generalize Bs l = LN at d0 KC
   simp only at KC hcall
   generalize Bs x = X at KC hcall
   generalize Bs y = Y at KC hcall
   have HCALL := Kw hcall
   have HQ2 := Kw hQ2
   have HR2 : Hid (R = crun st r.1 (ls.drop (k + 1)) (o ++ (r.2 ++ [10]))) := Kw (HR.out.trans HST.out)
   clear hcall hQ2 HR HST hll
   go_wp2_with fail
   refine (KC.out _ (HM.out.ex HS.out.ex)).mono ?_
   rintro e w3 ⟨rfl, hx⟩
   have HS3 := Kw (HS.out.go hx)
   have hsz3 : w.heap.size + 1 ≤ w3.heap.size := Nat.le_trans hlo hx.size
   clear hx HS d0 hlo hsz0 KC
   rcases f with _ | _
   all_goals
    simp only [Bool.false_eq_true, if_false, if_true] at HCALL
    go_wp2_with fail
    refine (HCALL.out _ _ (HG.out.ex HS3.out.ex) (HM.out.ex HS3.out.ex) HS3.out.con).mono ?_
    rintro e w4 ⟨a, ok, told, rfl, hans, hg4, hb4⟩
    have HS4 := Kw (HS3.out.ans (Nat.le_refl _) (by omega) (fun e => HB1.out e.symm) (by omega) hg4 hb4)
    have hsz4 : w.heap.size + 1 ≤ w4.heap.size := Nat.le_trans hsz3 hg4.size
    clear HCALL hg4 hb4 HS3 hsz3
    obtain ⟨A, HA⟩ : ∃ A, Hid (A = answer a ok told) := ⟨_, Kw rfl⟩
    have HT : Hid (A ++ ⟨#[10]⟩ = Bs (r.2 ++ [10])) := Kw (by rw [HA.out, hans]; exact Ue r.2 [10])
    have HTS : Hid ((A ++ ⟨#[10]⟩).size ≤ 10001) := Kw (by rw [HT.out, Xp, List.length_append]; simp; omega)
    clear hans
    rcases told with _ | _
    rotate_left
    rcases ok with _ | _
    all_goals
     simp only [answer, Bool.false_eq_true, if_false, if_true] at HA
     rw [HA.out] at HT HTS
     clear HA
     have hzA := HTS.out
     rw [ByteArray.size_append, show (⟨#[10]⟩ : ByteArray).size = 1 from rfl] at hzA
     go_wp2_with fail
     refine (ws_any _ _ _ _ _ _ _ HS4.out.bld hsz4 ?_).mono ?_
     ·rw [Lib.byteCells_length]; have := HTS.out; have := HLN.out; have := HK.out; omega
     rintro e w5 ⟨rfl, v5, hb5, hk5⟩
     rw [HT.out] at hb5
     have HS5 := Kw (HS4.out.wrote (by omega) (by omega) (by omega) (fun e => HB2.out e.symm) hb5 hk5)
     clear hb5 hk5 HS4 hsz4
     go_wp2_with fail
     go_roundw
     case rel => exact ⟨k + 1, r.1, _, _, _, by go_num, by have := HK.out; omega, HR2, HQ2, by simp; omega, HS5⟩
     case measure => have := HK.out; have := HLN.out; simp [intOf]; omega
  ·obtain rfl : k = ls.length := by omega
   have hI : ¬ ((ls.length : Nat) : Int) < ((n1 - 1 : Nat) : Int) := by have := HLN.out; omega
   have HRE : Hid (R = (c, o)) := Kw (HR.out.trans (crun_end st c ls o))
   have c0 := HS.out.con.cell
   have z0 := HS.out.con.lt
   have hbd := bpcs_bd c.b
   have kp := fun w hg hm => HP.out c HQ.out w hg hm
   have HEE : Hid (RES = o ++ ([112, 105, 101, 99, 101, 115, 32] ++ (Lib.itoa (Nn c.b) ++ [10]))) := Kw (by rw [HE.out, HRE.out]; rfl)
   unfold Con.cells at c0
   clear HRE HE HR HQ hlt HL HAT HB
   generalize Nn c.b = n at *
   generalize Bs c.b = CB at kp c0
   have KP := Kw kp
   clear kp
   go_wp2_with fail
   refine (KP.out _ (HG.out.ex HS.out.ex) (HM.out.ex HS.out.ex)).mono ?_
   rintro e w3 ⟨rfl, hx⟩
   have HS3 := Kw (HS.out.go hx)
   have hsz3 : w.heap.size + 1 ≤ w3.heap.size := Nat.le_trans hlo hx.size
   clear hx HS c0 z0 hlo hsz0 KP
   go_wp2_with fail
   refine (Pr n (by omega) (by omega) _ (HM.out.ex HS3.out.ex).tab).mono ?_
   rintro e w4 ⟨rfl, hx⟩
   have HS4 := Kw (HS3.out.go hx)
   have hsz4 : w.heap.size + 1 ≤ w4.heap.size := Nat.le_trans hsz3 hx.size
   clear hx HS3 hsz3
   have hil := Vk n (by omega) (by omega)
   have HT : Hid ((⟨#[112, 105, 101, 99, 101, 115, 32]⟩ : ByteArray) ++ Bs (Lib.itoa n) ++ ⟨#[10]⟩ = Bs ([112, 105, 101, 99, 101, 115, 32] ++ (Lib.itoa n ++ [10]))) := Kw (by
    rw [← List.append_assoc, ← Ue, ← Ue]
    rfl)
   have HTS : Hid (((⟨#[112, 105, 101, 99, 101, 115, 32]⟩ : ByteArray) ++ Bs (Lib.itoa n) ++ ⟨#[10]⟩).size ≤ 100) := Kw (by rw [HT.out, Xp]; simp; omega)
   have hzI : (Bs (Lib.itoa n)).size ≤ 21 := by rw [Xp]; exact hil
   generalize Bs (Lib.itoa n) = IT at HT HTS hzI ⊢
   go_wp2_with fail
   refine (ws_any _ _ _ _ _ _ _ HS4.out.bld hsz4 ?_).mono ?_
   ·rw [Lib.byteCells_length]; have := HTS.out; have := HLN.out; omega
   rintro e w5 ⟨rfl, v5, hb5, hk5⟩
   rw [HT.out] at hb5
   have HS5 := Kw (HS4.out.wrote (by omega) (by omega) (by omega) (fun e => HB2.out e.symm) hb5 hk5)
   have hsz5 : w.heap.size + 1 ≤ w5.heap.size := Nat.le_trans hsz4 hk5.size
   rw [← HEE.out] at HS5
   clear hb5 hk5 HS4 hsz4
   go_wp2_with fail
   have hB := HS5.out.bld
   refine (Tryz.Builder_String_any (w.heap.size + 1) (w.heap.size + 1) RES w5 (.inr ⟨Nat.le_refl _, v5, hB.box, by have := hB.own; rw [Lib.byteCells_length] at this ⊢; exact this, fun e => Own.ne hB.own hB.box (by decide) e.symm⟩) hsz5).mono ?_
   rintro e w6 ⟨rfl, hb6⟩
   go_wp2
   refine Kr (v := .string (Bs RES)) ?_ rfl ⟨rfl, Below.trans HS5.out.ex (Below.mono hb6 (by omega))⟩
   simp [results, Tryz.results9, go_sem]
   rfl
end
section
open Go.RowKit

theorem dig_nat (m : Nat) : m ≤ 1000000000 → ∀ w, Calls Tryz.prog 19 #[.int .i64 m] w fun e w' => e = .returned (.string (Bs (Lib.decDigits m))) ∧ Ex w w' := by
 induction m using Nat.strongRecOn with
 | _ m ih =>
  intro hm w
  have hlo0 : ¬ (m : Int) < -1000000000 := by omega
  have hlo1 : ¬ (m : Int) < 0 := by omega
  by_cases h10 : m < 10
  ·rw [Um h10]
   have h10i : (m : Int) < 10 := by omega
   have hw1 : IntKind.i64.wrap (48 + (m : Int)) = 48 + (m : Int) := Kq _ (by omega)
   have hcv := run_one (Box.new w #[.int .u8 (48 + (m : Int))] 5) (by omega) (by omega)
   have htn : (48 + (m : Int)).toNat = 48 + m := by omega
   rw [htn] at hcv
   clear htn
   generalize Bs [UInt8.ofNat (48 + m)] = S1 at hcv ⊢
   go_enter Tryz.func19, Tryz.ntmps19
   go_wp2
   go_ret
   exact ⟨rfl, (Ex.refl _).alloc _⟩
  ·rw [Qi h10]
   have h10i : ¬ (m : Int) < 10 := by omega
   have hih := ih (m / 10) (by omega) (by omega)
   have hl1 : (Lib.decDigits (m / 10)).length ≤ 21 := dec_len _ (by omega)
   obtain ⟨q, hq⟩ : ∃ q, q = m / 10 := ⟨_, rfl⟩
   obtain ⟨r, hr⟩ : ∃ r, r = m % 10 := ⟨_, rfl⟩
   have hqm : q ≤ 100000000 := by omega
   have hq2 : (m : Int).tdiv 10 = (q : Int) := by rw [hq]; exact (Int.ofNat_tdiv m 10).symm
   have hr2 : (m : Int).tmod 10 = (r : Int) := by rw [hr]; exact (Int.ofNat_tmod m 10).symm
   have hr3 : r < 10 := by omega
   rw [← hq] at hih hl1 ⊢
   rw [← hr]
   clear hq hr ih
   have hw1 : IntKind.i64.wrap (48 + (r : Int)) = 48 + (r : Int) := Kq _ (by omega)
   have hw2 : IntKind.i64.wrap (q : Int) = (q : Int) := Kq _ (by omega)
   have hw3 : IntKind.u8.wrap (48 + (r : Int)) = 48 + (r : Int) := by
    show (48 + (r : Int)) % 256 = _
    omega
   obtain ⟨hz, hcat⟩ := Ou (Lib.decDigits q) [UInt8.ofNat (48 + r)] (by simp; omega)
   have hone : ∀ W b, Box W b 5 #[.int .u8 (48 + (r : Int))] → (convert 22 9 (.slice (some ⟨b, 0, none⟩) 1 1)).run Tryz.prog W = .ok (.string (Bs [UInt8.ofNat (48 + r)])) W := fun W b hb => by
    have h := run_one hb (by omega) (by omega)
    have htn : (48 + (r : Int)).toNat = 48 + r := by omega
    rw [htn] at h
    exact h
   generalize Bs (Lib.decDigits q ++ [UInt8.ofNat (48 + r)]) = S3 at hcat ⊢
   generalize Bs [UInt8.ofNat (48 + r)] = S2 at hcat hz hone
   generalize Bs (Lib.decDigits q) = S1 at hcat hz hih
   have HO := Kw hone
   have HI := Kw hih
   clear hone hih hl1
   go_enter Tryz.func19, Tryz.ntmps19
   go_wp2_with fail
   have hcv0 := HO.out _ _ (Box.new w #[.int .u8 (48 + (r : Int))] 5)
   have hcv1 := HO.out (w.alloc (.cells #[.int .u8 (48 + (r : Int))] 5)).drew _ (Box.drew (Box.new w #[.int .u8 (48 + (r : Int))] 5))
   go_region_law (first
    | (go_simp; go_at_call 19; refine (HI.out w.drew).mono ?_; rintro e w3 ⟨rfl, hx3⟩; have hx4 : Ex w w3 := Ex.trans (Ex.refl _).drew hx3; have hcv2 := HO.out (w3.alloc (.cells #[.int .u8 (48 + (r : Int))] 5)) w3.heap.size (Box.new w3 _ _))
    | (go_simp; go_at_call 19; refine (HI.out (w.alloc (.cells #[.int .u8 (48 + (r : Int))] 5)).drew).mono ?_; rintro e w3 ⟨rfl, hx3⟩; have hx4 : Ex w w3 := Ex.trans ((Ex.refl _).alloc _).drew hx3; have hcv2 := HO.out w3 w.heap.size ((Box.drew (Box.new w _ _)).ex hx3)))
   all_goals
    go_wp2
    go_ret
    exact ⟨rfl, by repeat' (with_reducible first | exact Ex.refl _ | assumption | apply Ex.alloc | apply Ex.drewN | apply Ex.drew | refine Ex.setCell ?_ (by simp <;> omega) _)⟩
theorem dig_neg (m : Nat) (h1 : 1 ≤ m) (h : m ≤ 1000000000) (w : World) : Calls Tryz.prog 19 #[.int .i64 (-(m : Int))] w fun e w' => e = .returned (.string (Bs (45 :: Lib.decDigits m))) ∧ Ex w w' := by
 have hih := dig_nat m h
 have hl1 : (Lib.decDigits m).length ≤ 21 := dec_len _ (by omega)
 obtain ⟨hz, hcat⟩ := Ot 45 (Lib.decDigits m) (by omega)
 generalize Bs (45 :: Lib.decDigits m) = S3 at hcat ⊢
 generalize Bs (Lib.decDigits m) = S1 at hcat hz hih
 clear hl1
 have HI := Kw hih
 clear hih
 have hlo : ¬ (-(m : Int)) < -1000000000 := by omega
 have hlo2 : (-(m : Int)) < 0 := by omega
 have hng : IntKind.i64.wrap (0 - -(m : Int)) = (m : Int) := by rw [Int.sub_neg, Int.zero_add]; exact Kq _ (by omega)
 have hng2 : IntKind.i64.wrap (m : Int) = (m : Int) := Kq _ (by omega)
 go_enter Tryz.func19, Tryz.ntmps19
 go_wp2_with fail
 refine (HI.out _).mono ?_
 rintro e w1 ⟨rfl, hx⟩
 go_wp2
 go_ret
 exact ⟨rfl, hx⟩
theorem dig_any (n : Int) (h0 : -1000000000 ≤ n) (h1 : n ≤ 1000000000) (w : World) : Calls Tryz.prog 19 #[.int .i64 n] w fun e w' => e = .returned (.string (Bs (Lib.itoa n))) ∧ Ex w w' := by
 by_cases hn : n < 0
 ·obtain ⟨m, rfl⟩ : ∃ m : Nat, n = -(m : Int) := ⟨n.natAbs, by omega⟩
  rw [Lib.itoa_neg m (by omega)]
  exact dig_neg m (by omega) (by omega) w
 ·obtain ⟨m, rfl⟩ : ∃ m : Nat, n = (m : Int) := ⟨n.toNat, by omega⟩
  rw [Lib.itoa_nonneg]
  exact dig_nat m (by omega) w
end
end Go.Proofs.YtiommfmaleeibaaGreatDoor
