/-
  Walks: texts of four numbers, the program's and the reference's.
-/
import Derived.Test.YtklkfkgpjjpaiaaGreatDoorStkW
import Derived.Test.YtklkfkgpjjpaiaaGreatDoorShelfJ
import Derived.Test.YtklkfkgpjjpaiaaGreatDoorApp
import Derived.Test.YtklkfkgpjjpaiaaGreatDoorFrcQ
set_option linter.unusedSimpArgs false
set_option linter.unusedVariables false
namespace Go.Proofs.YtklkfkgpjjpaiaaGreatDoor
open Go.RowKit

theorem slS : SlT 42 9 (.string ⟨#[]⟩) 1 16 := ⟨Tryz.underlying42, by kernel_rfl, rfl, by omega, by omega⟩
/-- Strings as cells. -/
def stCells (ls : List (List UInt8)) : List Value := ls.map fun l => .string (Bs l)
/-- A slice of strings of the call's own. -/
def OwnS (w : World) (lo : Nat) (A : Option Addr) (cap : Nat) (ls : List (List UInt8)) : Prop := Own w lo 9 1 (.slice A ls.length cap) ls.length (stCells ls)
theorem ownS_nil (w : World) (lo : Nat) (hlo : lo ≤ w.heap.size) : OwnS (w.alloc (.cells #[] 9)) lo (some ⟨w.heap.size, 0, none⟩) 0 [] := own_nil w lo _ 1 hlo
theorem OwnS.ex {w w' : World} {lo : Nat} {A : Option Addr} {cap : Nat} {ls : List (List UInt8)} (h : OwnS w lo A cap ls) (he : Ex w w') : OwnS w' lo A cap ls := Own.ex h he
theorem OwnS.snoc {w' : World} {lo : Nat} {A : Option Addr} {cap : Nat} {ls : List (List UInt8)} {l : List UInt8} (h : Own w' lo 9 1 (.slice A (ls.length + 1) cap) (ls.length + 1) (stCells ls ++ [.string (Bs l)])) : OwnS w' lo A cap (ls ++ [l]) := by
  unfold OwnS
  unfold stCells at h ⊢
  simpa using h
theorem map_take_txt {xs : List Fr} {k : Nat} (hk : k < xs.length) : (xs.take (k + 1)).map txt = (xs.take k).map txt ++ [txt (xs.getD k .zero)] := by
  rw [List.take_succ_eq_append_getElem hk, List.map_append]
  simp [hk]

theorem map_bs (ls : List (List UInt8)) : (ls.map Bs).map (·.data.toList) = ls := by
  rw [List.map_map]
  exact List.map_id ls
theorem OwnS.join {w : World} {lo : Nat} {B : Option Addr} {cb : Nat} {ls : List (List UInt8)} (h : OwnS w lo B cb ls) (hp : 0 < ls.length) (hl : ls.length ≤ 1048576) (hlen : (Lib.join ls [32]).length ≤ 1048576) :
    Calls Tryz.prog 29 #[.slice B ls.length cb, .string ⟨#[32]⟩] w fun e w' => e = .returned (.string (Bs (Lib.join ls [32]))) ∧ Ex w w' := by
  obtain ⟨b, off, hB, hc⟩ := Own.slc h (by simpa [stCells] using hp)
  subst hB
  have hcl : (stCells ls).length = ls.length := by simp [stCells]
  have hcell : ∀ (j : Nat) x, (ls.map Bs)[j]? = some x → w.cell? ⟨b, off + j, none⟩ = some (.string x) := fun j x hx => by
    have hj : j < ls.length := by
      rcases Nat.lt_or_ge j ls.length with hj | hj
      · exact hj
      · rw [List.getElem?_eq_none (by simpa using hj)] at hx; cases hx
    rw [hc j (by omega)]
    unfold stCells
    rw [List.getElem?_map] at hx ⊢
    cases hq : ls[j]? with
    | none => rw [hq] at hx; cases hx
    | some l => rw [hq] at hx; injection hx with hx; rw [← hx]; rfl
  have hcap : ls.length ≤ cb := by
    rcases h.2 with ⟨h0, h1⟩ | ⟨g, cap, cur, hv, hg, hh, h1, h2, h3⟩
    · omega
    · injection hv with e1 e2 e3
      omega
  have hb0 : w.cell? ⟨b, off + 0, none⟩ = (stCells ls)[0]? := hc 0 (by omega)
  have hlt : b < w.heap.size := by
    rw [List.getElem?_eq_getElem (by omega)] at hb0
    exact World.block_lt_of_cell? w _ hb0
  have hj := Tryz.strings_Join b off cb (ls.map Bs) ⟨#[32]⟩ w hcell hlt (by rw [List.length_map]; omega) (by rw [List.length_map]; exact hcap) (by rw [map_bs]; show (Lib.join ls [32]).length ≤ _; omega)
  rw [map_bs, List.length_map] at hj
  exact hj.mono fun e w' ⟨h1, h2⟩ => ⟨h1, h2⟩

set_option maxRecDepth 10000 in
set_option maxHeartbeats 1000000 in
theorem texts_any (A : Option Addr) (xs : List Fr) (cap : Nat) (w : World) (hS : Fracs w A xs) (hl : xs.length ≤ 4) (hp : 0 < xs.length) (hj : (Lib.join (xs.map txt) [32]).length ≤ 1048576) (hv : ∀ k, k < xs.length → (xs.getD k .zero).valid = true) (ht : Tab w) :
    Calls Tryz.prog 14 #[.slice A xs.length cap] w fun e w' => e = .returned (.tuple #[.string (Bs (Lib.join (xs.map txt) [32])), .bool true]) ∧ Ex w w' := by
  have HT := Lib.hid ht
  have HV := Lib.hid hv
  clear ht hv
  go_enter Tryz.func14, Tryz.ntmps14
  go_wp2
  have hO := ownS_nil w _ (Nat.le_refl _)
  have hE := (Ex.refl w).alloc (.cells #[] 9)
  go_loopw [12, 4, 6, 7, 8] (fun i v f s1 k1 wr => ∃ (k : Nat) (B : Option Addr) (cb : Nat) (ys : List (List UInt8)), k ≤ xs.length ∧ i = .int .i64 k ∧ v = .slice B ys.length cb ∧ Hid (ys = (xs.take k).map txt) ∧ Hid (OwnS wr w.heap.size B cb ys) ∧ Ex w wr) (fun i _ _ _ _ _ => xs.length - (intOf i).toNat)
  case atStart => exact ⟨0, _, 0, [], by omega, rfl, rfl, Lib.hid (by simp), Lib.hid hO, hE⟩
  case round =>
    obtain ⟨k, B, cb, ys, hk, rfl, rfl, HY, HO, hEr⟩ := hrel
    have hsz := hEr.size
    by_cases hlt : k < xs.length
    · obtain ⟨b, off, rfl, hc⟩ := (hS.ex hEr).at (by omega)
      obtain ⟨c1, c2, c3⟩ := hc k hlt
      have hyl : ys.length ≤ 1048576 := by rw [HY.out, List.length_map, List.length_take]; omega
      have HYn : Hid (ys ++ [txt (xs.getD k .zero)] = (xs.take (k + 1)).map txt) := Lib.hid (by rw [map_take_txt hlt, HY.out])
      have hvk := HV.out k hlt
      have hft : ftext (xs.getD k .zero) = (txt (xs.getD k .zero), true) := by simp only [ftext, hvk, if_true]
      have k2 : ∀ w, Tab w → Calls _ _ #[.agg #[.int .i64 (xs.getD k .zero).re, .int .i64 (xs.getD k .zero).im, .int .i64 (xs.getD k .zero).den]] w (GotS w (ftext (xs.getD k .zero))) := fun w ht => iFracText (xs.getD k .zero) w ht
      rw [hft] at k2
      have k3 : ∀ w, Tab w → Calls _ _ #[.agg #[.int .i64 (xs.getD k .zero).re, .int .i64 (xs.getD k .zero).im, .int .i64 (xs.getD k .zero).den]] w fun e w' => e = .returned (.tuple #[.string (Bs (txt (xs.getD k .zero))), .bool true]) ∧ Ex w w' := k2
      clear hvk hft k2
      generalize txt (xs.getD k .zero) = l at k3 HYn
      generalize (xs.getD k .zero).re = r1 at c1 k3
      generalize (xs.getD k .zero).im = r2 at c2 k3
      generalize (xs.getD k .zero).den = r3 at c3 k3
      have K3 := Lib.hid k3
      have HT2 : Hid (Tab wr) := Lib.hid (HT.out.ex hEr)
      clear hc k3
      go_wp2_with fail
      refine (K3.out _ (HT2.out.ex ((Ex.refl _).alloc _))).mono ?_
      rintro e w2 ⟨rfl, hx⟩
      have HO2 := Lib.hid ((HO.out.ex ((Ex.refl _).alloc _)).ex hx)
      have hE2 := (hEr.alloc _).trans hx
      have hs2 := hE2.size
      clear hx K3 c1 c2 c3
      go_wp2_with (at_builtin; refine wpList_appV slS rfl _ _ w2 rfl w.heap.size B cb ys.length (stCells ys) [.string (Bs l)] rfl (by simp [Value.oneCell']) rfl HO2.out rfl hyl hs2 ?_)
      intro A' cap' w' hown' hk'
      have hE3 := hk'.ex w hE2 (Nat.le_refl _)
      have HO3 := Lib.hid (OwnS.snoc (l := l) hown')
      clear hown' hk'
      go_wp2
      go_roundw
      case rel => exact ⟨k + 1, A', cap', ys ++ [l], by omega, by go_num, by simp, HYn, HO3, hE3⟩
      case measure => simp [intOf]; omega
    · have e1 : ys = xs.map txt := by rw [HY.out, List.take_of_length_le (by omega)]
      have hjn := fun (hO : OwnS wr w.heap.size B cb ys) => OwnS.join hO (by rw [e1, List.length_map]; exact hp) (by rw [e1, List.length_map]; omega) (by rw [e1]; exact hj)
      have hjn := hjn HO.out
      obtain ⟨S, HS⟩ : ∃ S, Hid (S = Bs (Lib.join (xs.map txt) [32])) := ⟨_, Lib.hid rfl⟩
      rw [e1, ← HS.out, ← e1] at hjn
      clear e1 HY HO hO hE hj
      go_wp2_with fail
      refine hjn.mono ?_
      rintro e w2 ⟨rfl, hx⟩
      go_wp2
      refine bodyPost_ret (v := .tuple #[.string S, .bool true]) ?_ rfl ⟨by rw [HS.out], hEr.trans hx⟩
      simp [results, Tryz.results14, go_sem]

def jtxt (a b c d : Fr) : List UInt8 := Lib.join [txt a, txt b, txt c, txt d] [32]
def stext (a b c d : Fr) : List UInt8 × Bool := if svalid a b c d then (jtxt a b c d, true) else ([], false)
theorem jtxt_eq (a b c d : Fr) : jtxt a b c d = txt a ++ 32 :: (txt b ++ 32 :: (txt c ++ 32 :: txt d)) := by
  unfold jtxt
  rw [Lib.join_cons]
  simp [Lib.joinTail]
theorem svalid_out {a b c d : Fr} (h : svalid a b c d = true) : a.valid = true ∧ b.valid = true ∧ c.valid = true ∧ d.valid = true := by
  unfold svalid rok at h
  simp only [Bool.and_eq_true] at h
  exact ⟨h.1.1, h.2.1.1, h.2.2.1.1, h.2.2.2.1⟩
theorem fracs4 {w : World} {b : Nat} {t : TypeId} {x y z u : Fr} (h : Box w b t #[.int .i64 x.re, .int .i64 x.im, .int .i64 x.den, .int .i64 y.re, .int .i64 y.im, .int .i64 y.den, .int .i64 z.re, .int .i64 z.im, .int .i64 z.den, .int .i64 u.re, .int .i64 u.im, .int .i64 u.den]) : Fracs w (some ⟨b, 0, none⟩) [x, y, z, u] := by
  intro _
  refine ⟨b, 0, rfl, fun k _ => ?_⟩
  rw [Nat.zero_add, h.cell k]
  simp [frCells, Fr.cs]
set_option maxRecDepth 10000 in
set_option maxHeartbeats 1000000 in
theorem iStokesText (a b c d : Fr) (w : World) (ht : Tab w) : Calls Tryz.prog 6 #[Sv a b c d] w (GotS w (stext a b c d)) := by
  have kv := fun w => iStokesValid a b c d w
  rcases hv : svalid a b c d with _ | _
  · have e : stext a b c d = ([], false) := by simp [stext, hv]
    rw [e]
    rw [hv] at kv
    clear e hv
    have KV : Hid (∀ w, Calls Tryz.prog 11 #[.agg #[.int .i64 a.re, .int .i64 a.im, .int .i64 a.den, .int .i64 b.re, .int .i64 b.im, .int .i64 b.den, .int .i64 c.re, .int .i64 c.im, .int .i64 c.den, .int .i64 d.re, .int .i64 d.im, .int .i64 d.den]] w fun e w' => e = .returned (.bool false) ∧ Ex w w') := kv
    show Calls _ _ #[.agg #[.int .i64 a.re, .int .i64 a.im, .int .i64 a.den, .int .i64 b.re, .int .i64 b.im, .int .i64 b.den, .int .i64 c.re, .int .i64 c.im, .int .i64 c.den, .int .i64 d.re, .int .i64 d.im, .int .i64 d.den]] _ _
    clear kv ht
    go_enter Tryz.func6, Tryz.ntmps6
    go_wp2_with fail
    refine (KV.out _).mono ?_
    rintro e w1 ⟨rfl, hx⟩
    go_wp2
    refine bodyPost_ret (v := .tuple #[.string ⟨#[]⟩, .bool false]) ?_ rfl ⟨rfl, ?_⟩
    · simp [results, Tryz.results6, go_sem]
    · exact ((Ex.refl _).alloc _).trans hx
  · have e : stext a b c d = (jtxt a b c d, true) := by simp [stext, hv]
    rw [e]
    rw [hv] at kv
    obtain ⟨va, vb, vc, vd⟩ := svalid_out hv
    obtain ⟨-, -, -, -, la⟩ := txt_facts va
    obtain ⟨-, -, -, -, lb⟩ := txt_facts vb
    obtain ⟨-, -, -, -, lc⟩ := txt_facts vc
    obtain ⟨-, -, -, -, ld⟩ := txt_facts vd
    have hj : (Lib.join ([a, b, c, d].map txt) [32]).length ≤ 1048576 := by
      show (jtxt a b c d).length ≤ _
      rw [jtxt_eq]
      simp
      omega
    have hvs : ∀ k, k < [a, b, c, d].length → ([a, b, c, d].getD k .zero).valid = true := fun k hk => by
      match k, hk with
      | 0, _ => exact va
      | 1, _ => exact vb
      | 2, _ => exact vc
      | 3, _ => exact vd
      | k + 4, hk => exact absurd hk (by simp)
    have kt : ∀ A w, Fracs w A [a, b, c, d] → Tab w → Calls Tryz.prog 14 #[.slice A 4 4] w fun e w' => e = .returned (.tuple #[.string (Bs (jtxt a b c d)), .bool true]) ∧ Ex w w' := fun A w hS ht => texts_any A [a, b, c, d] 4 w hS (by simp) (by simp) hj hvs ht
    show Calls _ _ _ w fun e w' => e = .returned (.tuple #[.string (Bs (jtxt a b c d)), .bool true]) ∧ Ex w w'
    generalize Bs (jtxt a b c d) = ST at kt ⊢
    clear e hv va vb vc vd la lb lc ld hj hvs
    have KV : Hid (∀ w, Calls Tryz.prog 11 #[.agg #[.int .i64 a.re, .int .i64 a.im, .int .i64 a.den, .int .i64 b.re, .int .i64 b.im, .int .i64 b.den, .int .i64 c.re, .int .i64 c.im, .int .i64 c.den, .int .i64 d.re, .int .i64 d.im, .int .i64 d.den]] w fun e w' => e = .returned (.bool true) ∧ Ex w w') := kv
    have KT := Lib.hid kt
    have HT := Lib.hid ht
    show Calls _ _ #[.agg #[.int .i64 a.re, .int .i64 a.im, .int .i64 a.den, .int .i64 b.re, .int .i64 b.im, .int .i64 b.den, .int .i64 c.re, .int .i64 c.im, .int .i64 c.den, .int .i64 d.re, .int .i64 d.im, .int .i64 d.den]] _ _
    clear kv kt ht
    go_enter Tryz.func6, Tryz.ntmps6
    go_wp2_with fail
    refine (KV.out _).mono ?_
    rintro e w1 ⟨rfl, hx⟩
    have bA := (Box.new w #[.int .i64 a.re, .int .i64 a.im, .int .i64 a.den, .int .i64 b.re, .int .i64 b.im, .int .i64 b.den, .int .i64 c.re, .int .i64 c.im, .int .i64 c.den, .int .i64 d.re, .int .i64 d.im, .int .i64 d.den] 27).ex hx
    have hE := ((Ex.refl _).alloc _).trans hx
    clear hx KV
    go_wp2_with fail
    refine (KT.out _ _ (fracs4 bA) (HT.out.ex hE)).mono ?_
    rintro e w2 ⟨rfl, hx2⟩
    go_wp2
    refine bodyPost_ret (v := .tuple #[.string ST, .bool true]) ?_ rfl ⟨rfl, hE.trans hx2⟩
    simp [results, Tryz.results6, go_sem]
set_option maxRecDepth 10000 in
set_option maxHeartbeats 1000000 in
theorem sStokesText (a b c d : Fr) (w : World) : Calls Tryz.prog 7 #[Sv a b c d] w (GotS w (stext a b c d)) := by
  have kv := fun w => sStokesValid a b c d w
  rcases hv : svalid a b c d with _ | _
  · have e : stext a b c d = ([], false) := by simp [stext, hv]
    rw [e]
    rw [hv] at kv
    clear e hv
    have KV : Hid (∀ w, Calls Tryz.prog 15 #[.agg #[.int .i64 a.re, .int .i64 a.im, .int .i64 a.den, .int .i64 b.re, .int .i64 b.im, .int .i64 b.den, .int .i64 c.re, .int .i64 c.im, .int .i64 c.den, .int .i64 d.re, .int .i64 d.im, .int .i64 d.den]] w fun e w' => e = .returned (.bool false) ∧ Ex w w') := kv
    show Calls _ _ #[.agg #[.int .i64 a.re, .int .i64 a.im, .int .i64 a.den, .int .i64 b.re, .int .i64 b.im, .int .i64 b.den, .int .i64 c.re, .int .i64 c.im, .int .i64 c.den, .int .i64 d.re, .int .i64 d.im, .int .i64 d.den]] _ _
    clear kv
    go_enter Tryz.func7, Tryz.ntmps7
    go_wp2_with fail
    refine (KV.out _).mono ?_
    rintro e w1 ⟨rfl, hx⟩
    go_wp2
    refine bodyPost_ret (v := .tuple #[.string ⟨#[]⟩, .bool false]) ?_ rfl ⟨rfl, ?_⟩
    · simp [results, Tryz.results7, go_sem]
    · exact ((Ex.refl _).alloc _).trans hx
  · have e : stext a b c d = (jtxt a b c d, true) := by simp [stext, hv]
    rw [e]
    rw [hv] at kv
    obtain ⟨va, vb, vc, vd⟩ := svalid_out hv
    obtain ⟨-, -, -, -, la⟩ := txt_facts va
    obtain ⟨-, -, -, -, lb⟩ := txt_facts vb
    obtain ⟨-, -, -, -, lc⟩ := txt_facts vc
    obtain ⟨-, -, -, -, ld⟩ := txt_facts vd
    have ka := fun w => l14Text_any a va w
    have kb := fun w => l14Text_any b vb w
    have kc := fun w => l14Text_any c vc w
    have kd := fun w => l14Text_any d vd w
    obtain ⟨z0, t0⟩ := cat_facts [] (txt a) (by simp; omega)
    obtain ⟨z1, t1⟩ := cat_back (txt a) 32 (by omega)
    obtain ⟨z2, t2⟩ := cat_facts (txt a ++ [32]) (txt b) (by simp; omega)
    obtain ⟨z3, t3⟩ := cat_back (txt a ++ [32] ++ txt b) 32 (by simp; omega)
    obtain ⟨z4, t4⟩ := cat_facts (txt a ++ [32] ++ txt b ++ [32]) (txt c) (by simp; omega)
    obtain ⟨z5, t5⟩ := cat_back (txt a ++ [32] ++ txt b ++ [32] ++ txt c) 32 (by simp; omega)
    obtain ⟨z6, t6⟩ := cat_facts (txt a ++ [32] ++ txt b ++ [32] ++ txt c ++ [32]) (txt d) (by simp; omega)
    have ej : jtxt a b c d = txt a ++ [32] ++ txt b ++ [32] ++ txt c ++ [32] ++ txt d := by rw [jtxt_eq]; simp
    rw [List.nil_append] at t0
    show Calls _ _ _ w fun e w' => e = .returned (.tuple #[.string (Bs (jtxt a b c d)), .bool true]) ∧ Ex w w'
    rw [ej]
    have e0 : Bs [] = ⟨#[]⟩ := rfl
    rw [e0] at t0 z0
    generalize Bs (txt a ++ [32] ++ txt b ++ [32] ++ txt c ++ [32] ++ txt d) = S7 at t6 ⊢
    generalize Bs (txt a ++ [32] ++ txt b ++ [32] ++ txt c ++ [32]) = S6 at t6 z6 t5
    generalize Bs (txt a ++ [32] ++ txt b ++ [32] ++ txt c) = S5 at z5 t5 t4
    generalize Bs (txt a ++ [32] ++ txt b ++ [32]) = S4 at z4 t4 t3
    generalize Bs (txt a ++ [32] ++ txt b) = S3 at z3 t3 t2
    generalize Bs (txt a ++ [32]) = S2 at z2 t2 t1
    generalize Bs (txt a) = S1 at z0 t0 z1 t1 ka
    generalize Bs (txt b) = SB at z2 t2 kb
    generalize Bs (txt c) = SC at z4 t4 kc
    generalize Bs (txt d) = SD at z6 t6 kd
    clear e hv va vb vc vd la lb lc ld ej e0
    have KV : Hid (∀ w, Calls Tryz.prog 15 #[.agg #[.int .i64 a.re, .int .i64 a.im, .int .i64 a.den, .int .i64 b.re, .int .i64 b.im, .int .i64 b.den, .int .i64 c.re, .int .i64 c.im, .int .i64 c.den, .int .i64 d.re, .int .i64 d.im, .int .i64 d.den]] w fun e w' => e = .returned (.bool true) ∧ Ex w w') := kv
    have Ka : Hid (∀ w, Calls Tryz.prog 16 #[.agg #[.int .i64 a.re, .int .i64 a.im, .int .i64 a.den]] w fun e w' => e = .returned (.string S1) ∧ Ex w w') := Lib.hid ka
    have Kb : Hid (∀ w, Calls Tryz.prog 16 #[.agg #[.int .i64 b.re, .int .i64 b.im, .int .i64 b.den]] w fun e w' => e = .returned (.string SB) ∧ Ex w w') := Lib.hid kb
    have Kc : Hid (∀ w, Calls Tryz.prog 16 #[.agg #[.int .i64 c.re, .int .i64 c.im, .int .i64 c.den]] w fun e w' => e = .returned (.string SC) ∧ Ex w w') := Lib.hid kc
    have Kd : Hid (∀ w, Calls Tryz.prog 16 #[.agg #[.int .i64 d.re, .int .i64 d.im, .int .i64 d.den]] w fun e w' => e = .returned (.string SD) ∧ Ex w w') := Lib.hid kd
    show Calls _ _ #[.agg #[.int .i64 a.re, .int .i64 a.im, .int .i64 a.den, .int .i64 b.re, .int .i64 b.im, .int .i64 b.den, .int .i64 c.re, .int .i64 c.im, .int .i64 c.den, .int .i64 d.re, .int .i64 d.im, .int .i64 d.den]] _ _
    clear kv ka kb kc kd
    go_enter Tryz.func7, Tryz.ntmps7
    go_wp2_with fail
    refine (KV.out _).mono ?_
    rintro e w1 ⟨rfl, hx⟩
    have bA := (Box.new w #[.int .i64 a.re, .int .i64 a.im, .int .i64 a.den, .int .i64 b.re, .int .i64 b.im, .int .i64 b.den, .int .i64 c.re, .int .i64 c.im, .int .i64 c.den, .int .i64 d.re, .int .i64 d.im, .int .i64 d.den] 27).ex hx
    have cA := bA.cell
    have hE := ((Ex.refl _).alloc _).trans hx
    clear hx KV
    go_wp2
    refine wp_loop_rounds 5 ?_
    rw [rounds_succ]
    go_wp2_with fail
    refine (Ka.out _).mono ?_
    rintro e w2 ⟨rfl, hx⟩
    replace hE := hE.trans hx
    replace bA := bA.ex hx
    replace cA := bA.cell
    clear hx
    go_wp2_with fail
    rw [rounds_succ]
    go_wp2_with fail
    refine (Kb.out _).mono ?_
    rintro e w3 ⟨rfl, hx⟩
    replace hE := hE.trans hx
    replace bA := bA.ex hx
    replace cA := bA.cell
    clear hx
    go_wp2_with fail
    rw [rounds_succ]
    go_wp2_with fail
    refine (Kc.out _).mono ?_
    rintro e w4 ⟨rfl, hx⟩
    replace hE := hE.trans hx
    replace bA := bA.ex hx
    replace cA := bA.cell
    clear hx
    go_wp2_with fail
    rw [rounds_succ]
    go_wp2_with fail
    refine (Kd.out _).mono ?_
    rintro e w5 ⟨rfl, hx⟩
    replace hE := hE.trans hx
    replace bA := bA.ex hx
    replace cA := bA.cell
    clear hx
    go_wp2_with fail
    rw [rounds_succ]
    go_wp2
    refine bodyPost_ret (v := .tuple #[.string S7, .bool true]) ?_ rfl ⟨rfl, hE⟩
    simp [results, Tryz.results7, go_sem]
end Go.Proofs.YtklkfkgpjjpaiaaGreatDoor
