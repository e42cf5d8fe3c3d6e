/-
  Proved: what functions compute, part 55. No condition.
-/
import Derived.Test.YtmmjkchjgeklnaaGreatDoorK40
import Derived.Test.YtmmjkchjgeklnaaGreatDoorK53
import Derived.Test.YtmmjkchjgeklnaaGreatDoorK52
import Derived.Test.YtmmjkchjgeklnaaGreatDoorK50
set_option linter.unusedSimpArgs false
set_option linter.unusedVariables false
set_option maxRecDepth 20000
set_option maxHeartbeats 8000000
namespace Go.Proofs.YtmmjkchjgeklnaaGreatDoor
section
open Go.RowKit

attribute [local go_sem] Zk Zj
def OwnA (w : World) (lo : Nat) (A : Option Addr) (cap : Nat) (rs : List Rc) : Prop := Own w lo 37 14 (.slice A rs.length cap) rs.length (Yn rs)
theorem OwnA.snoc {w : World} {lo : Nat} {A : Option Addr} {cap : Nat} {rs : List Rc} {r : Rc} (h : Own w lo 37 14 (.slice A (rs.length + 1) cap) (rs.length + 1) (Yn rs ++ r.cs)) : OwnA w lo A cap (rs ++ [r]) := by
 unfold OwnA
 have e1 : (rs ++ [r]).length = rs.length + 1 := by simp
 have e2 : Yn (rs ++ [r]) = Yn rs ++ r.cs := by simp [Yn]
 rw [e1, e2]
 exact h
theorem slRc : SlT 52 37 (.agg #[.string ⟨#[]⟩, .int .i64 0, .int .i64 0, .int .i64 0, .int .i64 0, .int .i64 0, .int .i64 0, .int .i64 0, .int .i64 0, .int .i64 0, .int .i64 0, .int .i64 0, .int .i64 0, .int .u32 0]) 14 120 := ⟨Tryz.underlying52, by kernel_rfl, rfl, by omega, by omega⟩
theorem In {w : World} {lo : Nat} {e : TypeId} {size n m cap : Nat} {A : Option Addr} {cs : List Value} (h : Own w lo e size (.slice A m cap) n cs) : m ≤ cap := by
 rcases h.2 with ⟨h0, -⟩ | ⟨g, cap', cur, hv, -, -, h1, -⟩
 ·injection h0 with _ e1 e2
  omega
 ·injection hv with _ e1 e2
  omega
theorem Own.setRowBelow {w : World} {lo : Nat} {e : TypeId} {size n : Nat} {v : Value} {cs : List Value} (h : Own w lo e size v n cs) {g : Nat} (hg : g < lo) (x : Array Value) : Own (w.setRow g x) lo e size v n cs := by
 refine ⟨h.1, ?_⟩
 rcases h.2 with h0 | ⟨g', cap, cur, rfl, hg', hh, hr⟩
 ·exact .inl h0
 ·exact .inr ⟨g', cap, cur, rfl, hg', (setRow_other w g g' x (by omega)).trans hh, hr⟩
theorem cellIR2 : (Tryz.prog.info? 37 ).map (·.size) = some 14 := by kernel_rfl
theorem Xe {w : World} {b off : Nat} {rs : List Rc} (hc : ∀ k, k < (Yn rs).length → w.cell? ⟨b, off + k, none⟩ = (Yn rs)[k]?) (k : Nat) (hk : k < rs.length) (j : Nat) (hj : j < 14) : w.cell? ⟨b, off + k * 14 + j, none⟩ = rs[k].cs[j]? := by
 have h1 := hc (14 * k + j) (by rw [Zf]; omega)
 rw [Yw rs k hk j hj] at h1
 rw [← h1]
 congr 2
 omega
theorem rc_cell0 {w : World} {b off : Nat} {rs : List Rc} (hc : ∀ k, k < (Yn rs).length → w.cell? ⟨b, off + k, none⟩ = (Yn rs)[k]?) (k : Nat) (hk : k < rs.length) : w.cell? ⟨b, off + k * 14, none⟩ = rs[k].cs[0]? := Xe hc k hk 0 (by omega)
def DrwAF (w : World) : Ending → World → Prop := fun e w' => ∃ (A : Option Addr) (cap : Nat) (rs : List Rc) (v : M4), e = .returned (.tuple #[.slice A rs.length cap, v.v]) ∧ rs.length ≤ 3 ∧ rs.length ≤ cap ∧ (∀ r ∈ rs, r.S.size ≤ 1000) ∧ Slc w' A (Yn rs) ∧ Ex w w'
theorem It (A : Option Addr) (xs : List Int) (cap : Nat) (w : World) (hB : Vd w A xs) (hl : xs.length ≤ 9223372036854775807) (hcap : xs.length ≤ cap) (hcap2 : cap ≤ 9223372036854775807) :
  Calls Tryz.prog 27 #[.slice A xs.length cap] w (DrwAF w) := by
 have KO := Gv (fun w hB => Ou A xs cap w hB hl hcap hcap2)
 go_enter Tryz.func27, Tryz.ntmps27
 go_upto_region 1 with fail
 have bR0 := Box.new w #[.int .i64 0, .int .i64 0, .int .i64 0, .int .i64 0, .int .i64 0, .int .i64 0, .int .i64 0, .int .i64 0, .int .i64 0, .int .i64 0, .int .i64 0, .int .i64 0] 35
 have hE0 : Ex w (w.alloc (.cells #[.int .i64 0, .int .i64 0, .int .i64 0, .int .i64 0, .int .i64 0, .int .i64 0, .int .i64 0, .int .i64 0, .int .i64 0, .int .i64 0, .int .i64 0, .int .i64 0] 35)) := by repeat' (with_reducible first | exact Ex.refl _ | refine Ex.alloc ?_ _)
 have hB0 : Vd (w.alloc (.cells #[.int .i64 0, .int .i64 0, .int .i64 0, .int .i64 0, .int .i64 0, .int .i64 0, .int .i64 0, .int .i64 0, .int .i64 0, .int .i64 0, .int .i64 0, .int .i64 0] 35)) A xs := hB.ex hE0
 generalize (w.alloc (.cells #[.int .i64 0, .int .i64 0, .int .i64 0, .int .i64 0, .int .i64 0, .int .i64 0, .int .i64 0, .int .i64 0, .int .i64 0, .int .i64 0, .int .i64 0, .int .i64 0] 35)) = W0 at *
 have HN0 := Gv (Nat.ne_of_lt bR0.lt)
 have HL0 := Gv bR0.lt
 clear hB hcap hcap2 hl
 go_wp2_with fail
 refine (KO.out _ hB0).mono ?_
 rintro e u1 ⟨bs, cap2, rfl, hBs, hbl, hb, hE, -⟩
 clear KO hB0
 replace bR0 := bR0.ex hE
 have HP := Gv (fun a m w hE hb ha hm hm2 => To hBs hbl W0.heap.size cap2 a m w hE (Nat.le_refl _) hb ha hm hm2)
 have HR := Gv (fun a w hE hb ha => Te hBs hbl W0.heap.size cap2 a w hE (Nat.le_refl _) hb ha)
 have HLi := Gv (fun a w hE hb ha => Kv hBs hbl W0.heap.size cap2 a w hE (Nat.le_refl _) hb ha)
 have HBR := Gv (fun (r : Rc) (hr : r.S.size ≤ 1048576) w => Ri r.l (by rw [Rc.l, Array.length_toList]; exact hr) r.v w)
 clear hBs hbl
 have ho0 : OwnA (u1.alloc (.cells #[] 37)) u1.heap.size (some ⟨u1.heap.size, 0, none⟩) 0 [] := by
  have := Ip u1 u1.heap.size 37 14 (Nat.le_refl _)
  unfold OwnA
  simpa [Yn] using this
 have HLO := Gv hE.size
 have HE0 := Gv hE0
 clear hE0
 go_wp2_with fail
 refine (HP.out 0 4 _ (hE.alloc _) (Box.alloc hb _) (by omega) (by omega) (by omega)).mono ?_
 rintro e w1 ⟨v, rfl, hv0, hv1, hd, hb1⟩
 have HO := Gv (hd.own _ _ _ _ _ _ (by decide) ho0)
 have HE := Gv (hd.ex W0 (hE.alloc _) (Nat.le_refl _))
 have HR0 := Gv (hd.box _ _ _ HN0.out (bR0.alloc _))
 have HS : Hid (u1.heap.size ≤ w1.heap.size) := Gv (by have := hd.size; simp only [Gu] at this; omega)
 have HB := Gv hb1
 obtain ⟨n, rfl⟩ := Int.eq_ofNat_of_zero_le hv0
 have HN3 : Hid (n ≤ 3) := Gv (by omega)
 clear hd ho0 hb hE bR0 hv0 hv1 hb1
 generalize u1.heap.size = lo at *
 go_wp2_with fail
 go_loopw [5, 7] (fun s i wr => ∃ (k : Nat) (B : Option Addr) (cb : Nat) (ys : List Rc) (a : Nat), k ≤ n ∧ i = .int .i64 k ∧ s = .slice B ys.length cb ∧ Hid (ys.length = k) ∧ Hid (a ≤ 1 + 100 * k) ∧ Hid (∀ r ∈ ys, r.S.size ≤ 1000) ∧ Hid (OwnA wr lo B cb ys) ∧ Hid (Rdr wr W0.heap.size A bs.length cap2 a) ∧ Hid (Ex W0 wr) ∧ Hid (Box wr w.heap.size 35 #[.int .i64 0, .int .i64 0, .int .i64 0, .int .i64 0, .int .i64 0, .int .i64 0, .int .i64 0, .int .i64 0, .int .i64 0, .int .i64 0, .int .i64 0, .int .i64 0]) ∧ Hid (lo ≤ wr.heap.size)) (fun _ i _ => n + 1 - (intOf i).toNat)
 case atStart => exact ⟨0, _, 0, [], 1, by omega, rfl, rfl, Gv rfl, Gv (by omega), Gv (fun r hr => by cases hr), HO, HB, HE, HR0, HS⟩
 case round =>
  clear HO HB HE HR0 HS
  obtain ⟨k, B, cb, ys, a, hk, rfl, rfl, HY, HA, HZ, HO, HB, HE, HR0, HS⟩ := hrel
  by_cases hlt : k < n
  ·have hI : (k : Int) < (n : Int) := by omega
   have hwk : IntKind.i64.wrap ((k : Int) + 1) = (k : Int) + 1 := Gp _ (by have := HN3.out; omega)
   go_wp2_with fail
   refine (HR.out a _ HE.out HB.out (by have := HA.out; have := HN3.out; omega)).mono ?_
   rintro e w2 ⟨S, x, h, a2, rfl, hS, ha2, hd, hb2⟩
   have HO2 := Gv (hd.own _ _ _ _ _ _ (by decide) HO.out)
   have HE2 := Gv (hd.ex W0 HE.out (Nat.le_refl _))
   have HR2 := Gv (hd.box _ _ _ HN0.out HR0.out)
   have hs2 := Nat.le_trans HS.out hd.size
   have HB2 := Gv hb2
   clear hd HO HE HR0 HS HB hb2
   have hyl : ys.length ≤ 1048576 := by have := HY.out; have := HN3.out; omega
   have hone := Rc.one ⟨S, x, h⟩
   have HX := Gv hS
   have HA2 := Gv ha2
   clear hS ha2
   obtain ⟨⟨p1, p2, p3⟩, ⟨q1, q2, q3⟩, ⟨r1, r2, r3⟩, ⟨m1, m2, m3⟩⟩ := x
   simp only [Ws, Rc.cs] at hone ⊢
   have HONE := Gv hone
   clear hone
   go_wp2_with (at_builtin; refine Up slRc rfl _ _ w2 rfl lo B cb ys.length (Yn ys) [.string S, .int .i64 p1, .int .i64 p2, .int .i64 p3, .int .i64 q1, .int .i64 q2, .int .i64 q3, .int .i64 r1, .int .i64 r2, .int .i64 r3, .int .i64 m1, .int .i64 m2, .int .i64 m3, .int .u32 h] rfl HONE.out rfl HO2.out rfl hyl hs2 ?_)
   intro A' cap' w' hown' hk'
   have HB3 := Gv (hk'.box _ _ _ HB2.out (by decide))
   have HR3 := Gv (hk'.box _ _ _ HR2.out (by decide))
   have HE3 := Gv (hk'.ex W0 HE2.out HLO.out)
   have HS3 := Gv (Nat.le_trans hs2 hk'.size)
   have HO3 := Gv (OwnA.snoc (r := ⟨S, ⟨⟨p1, p2, p3⟩, ⟨q1, q2, q3⟩, ⟨r1, r2, r3⟩, ⟨m1, m2, m3⟩⟩, h⟩) hown')
   have HZ3 : Hid (∀ r ∈ ys ++ [(⟨S, ⟨⟨p1, p2, p3⟩, ⟨q1, q2, q3⟩, ⟨r1, r2, r3⟩, ⟨m1, m2, m3⟩⟩, h⟩ : Rc)], r.S.size ≤ 1000) := Gv (fun r hr => by
    rcases List.mem_append.1 hr with hr | hr
    ·exact HZ.out r hr
    ·rw [List.mem_singleton.1 hr]; exact HX.out)
   clear hown' hk' HO2 HB2 HR2 HE2 hs2 hyl
   go_wp2_with fail
   go_roundw
   case rel => exact ⟨k + 1, A', cap', ys ++ [⟨S, ⟨⟨p1, p2, p3⟩, ⟨q1, q2, q3⟩, ⟨r1, r2, r3⟩, ⟨m1, m2, m3⟩⟩, h⟩], a2, by omega, by go_num, by simp, Gv (by rw [List.length_append, HY.out]; rfl), Gv (by have := HA.out; have := HA2.out; omega), HZ3, HO3, HB3, HE3, HR3, HS3⟩
   case measure => simp [intOf] <;> omega
  ·obtain rfl : k = n := by omega
   have hI : ¬ ((k : Nat) : Int) < (k : Int) := by omega
   clear hlt hk
   by_cases hn0 : k = 0
   ·have hg : ((k : Nat) : Int) = 0 := by omega
    have hg0 : ¬ (0 : Int) < (k : Int) := by omega
    clear hI
    go_wp2_with fail
    refine (HLi.out a _ HE.out HB.out (by have := HA.out; have := HN3.out; omega)).mono ?_
    rintro e w7 ⟨x, a7, rfl, -, hd, -⟩
    have HO7 : Hid (Own w7 lo 37 14 (.slice B ys.length cb) ys.length (Yn ys)) := Gv (hd.own _ _ _ _ _ _ (by decide) HO.out)
    have bR := hd.box _ _ _ HN0.out HR0.out
    have HE7 := Gv (HE0.out.trans (hd.ex W0 HE.out (Nat.le_refl _)))
    clear hd HO HE HB HR0 HS
    obtain ⟨⟨p1, p2, p3⟩, ⟨q1, q2, q3⟩, ⟨r1, r2, r3⟩, ⟨m1, m2, m3⟩⟩ := x
    simp only [M4.v]
    have cR := bR.cell
    have zR := bR.lt
    have fR := bR.frozen
    go_wp2_with fail
    refine Gq (v := .tuple #[.slice B ys.length cb, .agg #[.int .i64 p1, .int .i64 p2, .int .i64 p3, .int .i64 q1, .int .i64 q2, .int .i64 q3, .int .i64 r1, .int .i64 r2, .int .i64 r3, .int .i64 m1, .int .i64 m2, .int .i64 m3]]) ?_ rfl ⟨B, cb, ys, ⟨⟨p1, p2, p3⟩, ⟨q1, q2, q3⟩, ⟨r1, r2, r3⟩, ⟨m1, m2, m3⟩⟩, rfl, by rw [HY.out]; exact HN3.out, In HO7.out, HZ.out, ?_, ?_⟩
    ·simp [results, Tryz.results27, go_sem, cR]
    ·refine Own.slc (lo := lo) (e := 37) (size := 14) (n := ys.length) (n' := ys.length) (cap := cb) ?_
     have hw0 : w.heap.size < lo := Nat.lt_of_lt_of_le HL0.out HLO.out
     repeat' (with_reducible first | exact HO7.out | refine Own.setBelow ?_ hw0 _)
    ·repeat' (with_reducible first | exact HE7.out | refine Ex.setCell ?_ (by simp <;> omega) _)
   ·have hg0 : (0 : Int) < (k : Int) := by omega
    clear hI
    go_wp2_with fail
    refine (HP.out a 3 _ HE.out HB.out (by have := HA.out; have := HN3.out; omega) (by omega) (by omega)).mono ?_
    rintro e w3 ⟨x, rfl, hx0, hx1, hd, hb3⟩
    replace HO := Gv (hd.own _ _ _ _ _ _ (by decide) HO.out)
    replace HE := Gv (hd.ex W0 HE.out (Nat.le_refl _))
    replace HR0 := Gv (hd.box _ _ _ HN0.out HR0.out)
    replace HS := Gv (Nat.le_trans HS.out hd.size)
    replace HB := Gv hb3
    clear hd hb3
    by_cases hx : 0 < x
    ·clear hx0 hx1
     go_wp2_with fail
     refine (HP.out (a + 1) k _ HE.out HB.out (by have := HA.out; have := HN3.out; omega) (by omega) (by have := HN3.out; omega)).mono ?_
     rintro e w4 ⟨y, rfl, hy0, hy1, hd, hb4⟩
     replace HO := Gv (hd.own _ _ _ _ _ _ (by decide) HO.out)
     replace HE := Gv (hd.ex W0 HE.out (Nat.le_refl _))
     replace HR0 := Gv (hd.box _ _ _ HN0.out HR0.out)
     replace HS := Gv (Nat.le_trans HS.out hd.size)
     replace HB := Gv hb4
     clear hd hb4
     obtain ⟨j, rfl⟩ := Int.eq_ofNat_of_zero_le hy0
     have hlt : j < ys.length := by have := HY.out; omega
     have hI : (j : Int) < (ys.length : Int) := by omega
     clear hy0 hy1 hx hg0 hn0
     obtain ⟨b, off, rfl, hc⟩ := Own.slc HO.out (by rw [Zf]; omega)
     have y0 := rc_cell0 hc j hlt
     have y1 := Xe hc j hlt 1 (by omega)
     have y2 := Xe hc j hlt 2 (by omega)
     have y3 := Xe hc j hlt 3 (by omega)
     have y4 := Xe hc j hlt 4 (by omega)
     have y5 := Xe hc j hlt 5 (by omega)
     have y6 := Xe hc j hlt 6 (by omega)
     have y7 := Xe hc j hlt 7 (by omega)
     have y8 := Xe hc j hlt 8 (by omega)
     have y9 := Xe hc j hlt 9 (by omega)
     have y10 := Xe hc j hlt 10 (by omega)
     have y11 := Xe hc j hlt 11 (by omega)
     have y12 := Xe hc j hlt 12 (by omega)
     have kb := fun w => HBR.out ys[j] (by have := HZ.out _ (List.getElem_mem hlt); omega) w
     clear hc
     generalize ys[j] = r at y0 y1 y2 y3 y4 y5 y6 y7 y8 y9 y10 y11 y12 kb
     clear hlt
     obtain ⟨S, v1, h1⟩ := r
     have hSb : Bs (Rc.l ⟨S, v1, h1⟩) = S := (bs_of' S).symm
     generalize Rc.l ⟨S, v1, h1⟩ = l at *
     simp only at kb
     rw [hSb] at kb
     clear hSb
     generalize Yj l v1 = X at kb
     obtain ⟨x2, ok⟩ := X
     obtain ⟨⟨d1, d2, d3⟩, ⟨e1, e2, e3⟩, ⟨f1, f2, f3⟩, ⟨g1, g2, g3⟩⟩ := v1
     obtain ⟨⟨p1, p2, p3⟩, ⟨q1, q2, q3⟩, ⟨r1, r2, r3⟩, ⟨m1, m2, m3⟩⟩ := x2
     simp only [Rc.cs, List.getElem?_cons_zero, List.getElem?_cons_succ] at y0 y1 y2 y3 y4 y5 y6 y7 y8 y9 y10 y11 y12
     simp only [m4v, M4.v] at kb
     have KB := Gv kb
     clear kb
     have hS := Zw.refl w4
     go_upto_region 10 with fail
     have hS0 := hS
     refine Zn (St := Ex) (B := fun _ w' => InE _ _ w') 14 1 1 _ 35 (fun _ => 9) (fun _ => 48) (fun _ => #[.int .i64 0, .int .i64 0, .int .i64 0, .int .i64 0, .int .i64 0, .int .i64 0, .int .i64 0, .int .i64 0, .int .i64 0, .int .i64 0, .int .i64 0, .int .i64 0]) (fun _ => #[.int .i64 p1, .int .i64 p2, .int .i64 p3, .int .i64 q1, .int .i64 q2, .int .i64 q3, .int .i64 r1, .int .i64 r2, .int .i64 r3, .int .i64 m1, .int .i64 m2, .int .i64 m3]) false (by kernel_rfl) (by kernel_rfl) (InE.drew (InE.start hS0)) (fun x y h1 h2 _ => by omega) (fun x y _ _ => by decide) (fun _ _ h g cs _ hb => hb.ex h) (fun _ _ cs h => h.alloc _) (fun _ _ h => h.size) ?_
     iterate 9 (apply Zx; (· rfl); (· intro b wb hB Q1 hQ1; have q0 := hB.sees.ex.get y0; go_wp2_with fail; exact hQ1 _ (Ex.refl _) hB); (· exact ⟨_, rfl⟩))
     (apply Zx; (· rfl); (· intro b wb hB Q1 hQ1; have q1 := hB.sees.ex.get y1; have q2 := hB.sees.ex.get y2; have q3 := hB.sees.ex.get y3; have q4 := hB.sees.ex.get y4; have q5 := hB.sees.ex.get y5; have q6 := hB.sees.ex.get y6; have q7 := hB.sees.ex.get y7; have q8 := hB.sees.ex.get y8; have q9 := hB.sees.ex.get y9; have q10 := hB.sees.ex.get y10; have q11 := hB.sees.ex.get y11; have q12 := hB.sees.ex.get y12; go_wp2_with fail; exact hQ1 _ (Ex.refl _) hB); (· exact ⟨_, rfl⟩))
     (apply Zx; (· rfl); (· intro b wb hB Q1 hQ1; go_wp2_with (go_at_call 37; (with_reducible refine (KB.out _).mono ?_); rintro e wn ⟨rfl, hx⟩); exact hQ1 _ hx (hB.go hx)); (· exact ⟨_, rfl⟩))
     iterate 3 (apply Zx; (· rfl); (· intro b wb hB Q1 hQ1; go_wp2_with fail; exact hQ1 _ (Ex.refl _) hB); (· exact ⟨_, rfl⟩))
     refine Zv ?_
     refine ⟨fun i hi => ?_, fun i hi => ?_, fun i hi => ?_, fun gg wz hz hbx hne => ?_⟩
     ·obtain rfl : i = 0 := by omega
      all_goals exact ⟨_, rfl, Oq⟩
     ·obtain rfl : i = 0 := by omega
      all_goals exact ⟨_, rfl, Zi Sr rfl (by kernel_rfl) (fun _ _ _ hg h => h.setRow hg _)⟩
     ·obtain rfl : i = 0 := by omega
      ·exact (show (9 : Nat) < 56 by decide)
     obtain ⟨hg0, hb0⟩ := hbx 0 (by omega)
     replace hS := InE.join hS0 hz
     replace hS := Zw.put hS hb0
     simp only [frN, Act.put, Gt, Gs, Gr, Nat.reduceAdd, List.drop_succ_cons, List.drop_zero]
     generalize gg 0 = g0 at *
     clear hbx hz hS0 hne
     clear y0 y1 y2 y3 y4 y5 y6 y7 y8 y9 y10 y11 y12
     replace HO := Gv (Own.ex HO.out hS.ex)
     replace HE := Gv (HE.out.trans hS.ex)
     replace HR0 := Gv (HR0.out.ex hS.ex)
     replace HB := Gv (Box.ex HB.out hS.ex)
     have HG := Gv hS.boxes.1
     have HNG : Hid (g0 ≠ w.heap.size) := Gv (by have := hg0; have := HR0.out; have := HL0.out; have := HLO.out; have := HS.out; omega)
     clear hS hI
     rcases ok with _ | _
     ·go_wp2_with fail
      refine (HLi.out (a + 1 + 1) _ HE.out HB.out (by have := HA.out; have := HN3.out; omega)).mono ?_
      rintro e w7 ⟨x, a7, rfl, -, hd, -⟩
      have HO7 : Hid (Own w7 lo 37 14 (.slice (some ⟨b, off, none⟩) ys.length cb) ys.length (Yn ys)) := Gv (hd.own _ _ _ _ _ _ (by decide) HO.out)
      have bR := hd.box _ _ _ HN0.out HR0.out
      have HE7 := Gv (HE0.out.trans (hd.ex W0 HE.out (Nat.le_refl _)))
      clear hd HO HE HB HR0 HS
      obtain ⟨⟨p1, p2, p3⟩, ⟨q1, q2, q3⟩, ⟨r1, r2, r3⟩, ⟨m1, m2, m3⟩⟩ := x
      simp only [M4.v]
      have cR := bR.cell
      have zR := bR.lt
      have fR := bR.frozen
      go_wp2_with fail
      refine Gq (v := .tuple #[.slice (some ⟨b, off, none⟩) ys.length cb, .agg #[.int .i64 p1, .int .i64 p2, .int .i64 p3, .int .i64 q1, .int .i64 q2, .int .i64 q3, .int .i64 r1, .int .i64 r2, .int .i64 r3, .int .i64 m1, .int .i64 m2, .int .i64 m3]]) ?_ rfl ⟨(some ⟨b, off, none⟩), cb, ys, ⟨⟨p1, p2, p3⟩, ⟨q1, q2, q3⟩, ⟨r1, r2, r3⟩, ⟨m1, m2, m3⟩⟩, rfl, by rw [HY.out]; exact HN3.out, In HO7.out, HZ.out, ?_, ?_⟩
      ·simp [results, Tryz.results27, go_sem, cR]
      ·refine Own.slc (lo := lo) (e := 37) (size := 14) (n := ys.length) (n' := ys.length) (cap := cb) ?_
       have hw0 : w.heap.size < lo := Nat.lt_of_lt_of_le HL0.out HLO.out
       repeat' (with_reducible first | exact HO7.out | refine Own.setBelow ?_ hw0 _)
      ·repeat' (with_reducible first | exact HE7.out | refine Ex.setCell ?_ (by simp <;> omega) _)
     ·go_upto_region 12 with fail
      have HE7 := Gv (HE0.out.trans HE.out)
      refine Td (σ := World → Prop) (St := fun w2 w3 => w3 = w2) (B := fun _ w2 => Box w2 g0 35 #[.int .i64 p1, .int .i64 p2, .int .i64 p3, .int .i64 q1, .int .i64 q2, .int .i64 q3, .int .i64 r1, .int .i64 r2, .int .i64 r3, .int .i64 m1, .int .i64 m2, .int .i64 m3]) (X := fun p w2 => p w2) [(0, false), (1, false), (2, false), (3, true)] (fun w2 => Ex w w2 ∧ Box w2 w.heap.size 35 #[.int .i64 0, .int .i64 0, .int .i64 0, .int .i64 0, .int .i64 0, .int .i64 0, .int .i64 0, .int .i64 0, .int .i64 0, .int .i64 0, .int .i64 0, .int .i64 0] ∧ OwnA w2 lo (some ⟨b, off, none⟩) cb ys) false (by kernel_rfl) (by kernel_rfl) (fun _ _ _ h h2 => h ▸ h2) HG.out ⟨HE7.out.drew, HR0.out, HO.out⟩ ?_
      refine Sd rfl ?_
      apply Zx
      ·rfl
      ·intro b2 wb hB Q1 hQ1
       go_wp2_with fail
       exact hQ1 _ rfl hB
      ·exact ⟨_, rfl⟩
      refine Zv ?_
      refine Sd rfl ?_
      apply Zx
      ·rfl
      ·intro b2 wb hB Q1 hQ1
       go_wp2_with (refine wpList_load_row rfl _ _ rfl _ rfl _ _ (0, 0) _ hB Tryz.underlying35 rfl Sr ?_)
       exact hQ1 _ rfl hB
      ·exact ⟨_, rfl⟩
      refine Zv ?_
      refine Sd rfl ?_
      apply Zx
      ·rfl
      ·intro b2 wb hB Q1 hQ1
       go_wp2_with fail
       exact hQ1 _ rfl hB
      ·exact ⟨_, rfl⟩
      refine Zv ?_
      refine Tc false (fun _ p => p = fun w2 => Ex w w2 ∧ Box w2 w.heap.size 35 #[.int .i64 p1, .int .i64 p2, .int .i64 p3, .int .i64 q1, .int .i64 q2, .int .i64 q3, .int .i64 r1, .int .i64 r2, .int .i64 r3, .int .i64 m1, .int .i64 m2, .int .i64 m3] ∧ OwnA w2 lo (some ⟨b, off, none⟩) cb ys) rfl rfl ?_ ?_
      ·intro b2 wb hB hp Q1 hQ1
       obtain ⟨h1, h2, h3⟩ := hp
       go_wp2_with (refine wpList_store_row rfl _ _ _ rfl _ _ rfl rfl _ _ h2 Sr rfl (by simp [Value.oneCell']) ?_)
       exact hQ1 undef _ _ rfl (Box.setRow_far hB HNG.out _) ⟨h1.setRow (Nat.le_refl _) _, h2.setRow _, Own.setRowBelow h3 (by have := HL0.out; have := HLO.out; omega) _⟩
      ·rintro u _ rfl
       intro w5 hB5 hp5
       obtain ⟨h1, h2, h3⟩ := hp5
       have cR := h2.cell
       go_wp2_with fail
       refine Gq (v := .tuple #[.slice (some ⟨b, off, none⟩) ys.length cb, .agg #[.int .i64 p1, .int .i64 p2, .int .i64 p3, .int .i64 q1, .int .i64 q2, .int .i64 q3, .int .i64 r1, .int .i64 r2, .int .i64 r3, .int .i64 m1, .int .i64 m2, .int .i64 m3]]) ?_ rfl ⟨some ⟨b, off, none⟩, cb, ys, ⟨⟨p1, p2, p3⟩, ⟨q1, q2, q3⟩, ⟨r1, r2, r3⟩, ⟨m1, m2, m3⟩⟩, rfl, by rw [HY.out]; exact HN3.out, In h3, HZ.out, Own.slc h3, h1⟩
       simp [results, Tryz.results27, go_sem, cR]
    ·have hx3 : x = 0 := by omega
     subst hx3
     clear hx hx0 hx1
     go_wp2_with fail
     refine (HLi.out (a + 1) _ HE.out HB.out (by have := HA.out; have := HN3.out; omega)).mono ?_
     rintro e w7 ⟨x, a7, rfl, -, hd, -⟩
     have HO7 : Hid (Own w7 lo 37 14 (.slice B ys.length cb) ys.length (Yn ys)) := Gv (hd.own _ _ _ _ _ _ (by decide) HO.out)
     have bR := hd.box _ _ _ HN0.out HR0.out
     have HE7 := Gv (HE0.out.trans (hd.ex W0 HE.out (Nat.le_refl _)))
     clear hd HO HE HB HR0 HS
     obtain ⟨⟨p1, p2, p3⟩, ⟨q1, q2, q3⟩, ⟨r1, r2, r3⟩, ⟨m1, m2, m3⟩⟩ := x
     simp only [M4.v]
     have cR := bR.cell
     have zR := bR.lt
     have fR := bR.frozen
     go_wp2_with fail
     refine Gq (v := .tuple #[.slice B ys.length cb, .agg #[.int .i64 p1, .int .i64 p2, .int .i64 p3, .int .i64 q1, .int .i64 q2, .int .i64 q3, .int .i64 r1, .int .i64 r2, .int .i64 r3, .int .i64 m1, .int .i64 m2, .int .i64 m3]]) ?_ rfl ⟨B, cb, ys, ⟨⟨p1, p2, p3⟩, ⟨q1, q2, q3⟩, ⟨r1, r2, r3⟩, ⟨m1, m2, m3⟩⟩, rfl, by rw [HY.out]; exact HN3.out, In HO7.out, HZ.out, ?_, ?_⟩
     ·simp [results, Tryz.results27, go_sem, cR]
     ·refine Own.slc (lo := lo) (e := 37) (size := 14) (n := ys.length) (n' := ys.length) (cap := cb) ?_
      have hw0 : w.heap.size < lo := Nat.lt_of_lt_of_le HL0.out HLO.out
      repeat' (with_reducible first | exact HO7.out | refine Own.setBelow ?_ hw0 _)
     ·repeat' (with_reducible first | exact HE7.out | refine Ex.setCell ?_ (by simp <;> omega) _)
end
end Go.Proofs.YtmmjkchjgeklnaaGreatDoor
