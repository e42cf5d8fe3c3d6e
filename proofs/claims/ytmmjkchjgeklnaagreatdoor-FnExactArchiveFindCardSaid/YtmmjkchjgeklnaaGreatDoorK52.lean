/-
  Proved: what functions compute, part 52. No condition.
-/
import Derived.Test.YtmmjkchjgeklnaaGreatDoorK35
import Derived.Test.YtmmjkchjgeklnaaGreatDoorK46
import Derived.Test.YtmmjkchjgeklnaaGreatDoorK07
set_option linter.unusedSimpArgs false
set_option linter.unusedVariables false
set_option maxRecDepth 20000
set_option maxHeartbeats 8000000
namespace Go.Proofs.YtmmjkchjgeklnaaGreatDoor
section
open Go.RowKit

structure Rc where
 S : ByteArray
 v : M4
 h : Int
def Rc.l (r : Rc) : List UInt8 := r.S.data.toList
def Rc.cs (r : Rc) : List Value := [.string r.S, .int .i64 r.v.a.re, .int .i64 r.v.a.im, .int .i64 r.v.a.den, .int .i64 r.v.b.re, .int .i64 r.v.b.im, .int .i64 r.v.b.den, .int .i64 r.v.c.re, .int .i64 r.v.c.im, .int .i64 r.v.c.den, .int .i64 r.v.d.re, .int .i64 r.v.d.im, .int .i64 r.v.d.den, .int .u32 r.h]
def Yn (rs : List Rc) : List Value := rs.flatMap Rc.cs
theorem Zf (rs : List Rc) : (Yn rs).length = 14 * rs.length := by
 induction rs with
 | nil => rfl
 | cons r t ih => simp only [Yn, List.flatMap_cons, List.length_append, Rc.cs, List.length_cons, List.length_nil] at ih ⊢; omega
theorem Yw : ∀ (rs : List Rc) (k : Nat) (hk : k < rs.length) (j : Nat), j < 14 → (Yn rs)[14 * k + j]? = (rs[k]).cs[j]?
 | [], k, hk, _, _ => by simp at hk
 | r :: t, 0, hk, j, hj => by
  simp only [Yn, List.flatMap_cons, Nat.mul_zero, Nat.zero_add, List.getElem_cons_zero]
  rw [List.getElem?_append_left (by simp [Rc.cs]; omega)]
 | r :: t, k + 1, hk, j, hj => by
  have ih := Yw t k (by simpa using hk) j hj
  simp only [Yn, List.flatMap_cons, List.getElem_cons_succ] at ih ⊢
  rw [List.getElem?_append_right (by simp [Rc.cs]; omega)]
  have : 14 * (k + 1) + j - r.cs.length = 14 * k + j := by simp [Rc.cs]; omega
  rw [this]
  exact ih
theorem bs_of' (s : ByteArray) : s = Bs s.data.toList := Pg (by simp [Bs])
def hit (r : Rc) (v : M4) : Bool := Yp r.l r.v r.h && decide ((Yj r.l r.v).1 = v)
theorem hit_eq (r : Rc) (v : M4) : hit r v = (Yp r.l r.v r.h && decide ((Yj r.l r.v).1 = v)) := rfl
theorem Np {l : List UInt8} {v : M4} {h : Int} (k : Yp l v h = true) : (Yj l v).2 = true := by
 unfold Yp Vw at k
 cases hb : (Yj l v).2 with
 | true => rfl
 | false => rw [hb] at k; simp at k
def Vt : List Rc → M4 → Nat → Int
 | [], _, _ => -1
 | r :: t, v, k => if hit r v then (k : Int) else Vt t v (k + 1)
theorem afind_hit {rs : List Rc} {v : M4} {k : Nat} (hk : k < rs.length) (h : hit rs[k] v = true) : Vt (rs.drop k) v k = (k : Int) := by
 rw [List.drop_eq_getElem_cons hk, Vt, if_pos h]
theorem Gx {rs : List Rc} {v : M4} {k : Nat} (hk : k < rs.length) (h : hit rs[k] v = false) : Vt (rs.drop k) v k = Vt (rs.drop (k + 1)) v (k + 1) := by
 rw [List.drop_eq_getElem_cons hk, Vt, if_neg (by rw [h]; decide)]
theorem afind_end (rs : List Rc) (v : M4) : Vt (rs.drop rs.length) v rs.length = -1 := by
 rw [List.drop_length]
 rfl
end
section
open Go.RowKit

attribute [local go_sem] Zk Zj
theorem Or (rs : List Rc) (A : Option Addr) (cap : Nat) (v : M4) (hn : rs.length ≤ 1048576) (hz : ∀ r ∈ rs, r.S.size ≤ 1048576) (w : World) [hG : Yf w] (hm : Vv w) (hs : Slc w A (Yn rs)) : Calls Tryz.prog 25 #[.slice A rs.length cap, v.v] w (fun e w' => e = .returned (.int .i64 (Vt rs v 0)) ∧ Ex w w') := by
 have HB := Gv (fun (r : Rc) (hr : r.S.size ≤ 1048576) w (_ : Yf w) (hm : Vv w) => Rj r.l (by rw [Rc.l, Array.length_toList]; exact hr) r.v w hm)
 have HRR := Gv (fun (r : Rc) (hr : r.S.size ≤ 1048576) w (_ : Yf w) (hm : Vv w) => Wj r.l (by rw [Rc.l, Array.length_toList]; exact hr) r.v r.h w hm)
 have HRE := Gv (fun (r : Rc) => hit_eq r v)
 have HOK := Gv (fun (r : Rc) => Np (l := r.l) (v := r.v) (h := r.h))
 have HEQ := Gv (fun (x : M4) w => eqlSt x v w)
 have HA0 : Hid (Vt rs v 0 = Vt (rs.drop 0) v 0) := Gv (by rw [List.drop_zero])
 have HHIT := Gv (fun k (hk : k < rs.length) => afind_hit (v := v) hk)
 have HMISS := Gv (fun k (hk : k < rs.length) => Gx (v := v) hk)
 have HEND := Gv (afind_end rs v)
 generalize Vt rs v 0 = R at HA0 ⊢
 have HZ := Gv hz
 have HN := Gv hn
 have HSL := Gv hs
 have HG := Gv hG
 have HM := Gv hm
 clear hG hm
 clear hz hn hs
 obtain ⟨V, hV⟩ : ∃ V, V = v := ⟨_, rfl⟩
 rw [← hV] at HRE HEQ HA0 HHIT HMISS HEND
 obtain ⟨⟨a1, a2, a3⟩, ⟨b1, b2, b3⟩, ⟨c1, c2, c3⟩, ⟨d1, d2, d3⟩⟩ := v
 simp only [M4.v]
 have HV := Gv hV
 clear hV
 have hR := Zw.refl w
 go_enter Tryz.func25, Tryz.ntmps25
 go_upto_region 1 with fail
 have hS : Zw w (w.alloc (.cells #[.int .i64 a1, .int .i64 a2, .int .i64 a3, .int .i64 b1, .int .i64 b2, .int .i64 b3, .int .i64 c1, .int .i64 c2, .int .i64 c3, .int .i64 d1, .int .i64 d2, .int .i64 d3] 35)) _ := inferInstance
 clear hR
 generalize w.alloc (.cells #[.int .i64 a1, .int .i64 a2, .int .i64 a3, .int .i64 b1, .int .i64 b2, .int .i64 b3, .int .i64 c1, .int .i64 c2, .int .i64 c3, .int .i64 d1, .int .i64 d2, .int .i64 d3] 35) = W0 at *
 go_wp2_with fail
 go_loopw [11, 5, 6, 7, 8] (fun m _ _ _ _ wr => ∃ k : Nat, m = .int .i64 k ∧ k ≤ rs.length ∧ Hid (R = Vt (rs.drop k) V k) ∧ Hid (Zw w wr [(w.heap.size, 35, #[.int .i64 a1, .int .i64 a2, .int .i64 a3, .int .i64 b1, .int .i64 b2, .int .i64 b3, .int .i64 c1, .int .i64 c2, .int .i64 c3, .int .i64 d1, .int .i64 d2, .int .i64 d3])])) (fun m _ _ _ _ _ => rs.length + 1 - (intOf m).toNat)
 case atStart => exact ⟨0, rfl, by omega, HA0, Gv hS⟩
 case round =>
  clear hS HA0
  obtain ⟨k, rfl, hk, HK, HS⟩ := hrel
  have hn := HN.out
  by_cases hlt : k < rs.length
  ·have hI : (k : Int) < (rs.length : Int) := by omega
   have hwk : IntKind.i64.wrap ((k : Int) + 1) = (k : Int) + 1 := Gp _ (by omega)
   have hS := HS.out
   have hc0 := Slc.ex HSL.out hS.ex
   obtain ⟨b, off, rfl, hc⟩ := hc0 (by rw [Zf]; omega)
   have y0 : wr.cell? ⟨b, off + k * 14, none⟩ = (rs[k]).cs[0]? := by have h1 := hc (14 * k + 0) (by rw [Zf]; omega); rw [Yw rs k hlt 0 (by omega)] at h1; rw [← h1]; congr 2; omega
   have y1 : wr.cell? ⟨b, off + k * 14 + 1, none⟩ = (rs[k]).cs[1]? := by have h1 := hc (14 * k + 1) (by rw [Zf]; omega); rw [Yw rs k hlt 1 (by omega)] at h1; rw [← h1]; congr 2; omega
   have y2 : wr.cell? ⟨b, off + k * 14 + 2, none⟩ = (rs[k]).cs[2]? := by have h1 := hc (14 * k + 2) (by rw [Zf]; omega); rw [Yw rs k hlt 2 (by omega)] at h1; rw [← h1]; congr 2; omega
   have y3 : wr.cell? ⟨b, off + k * 14 + 3, none⟩ = (rs[k]).cs[3]? := by have h1 := hc (14 * k + 3) (by rw [Zf]; omega); rw [Yw rs k hlt 3 (by omega)] at h1; rw [← h1]; congr 2; omega
   have y4 : wr.cell? ⟨b, off + k * 14 + 4, none⟩ = (rs[k]).cs[4]? := by have h1 := hc (14 * k + 4) (by rw [Zf]; omega); rw [Yw rs k hlt 4 (by omega)] at h1; rw [← h1]; congr 2; omega
   have y5 : wr.cell? ⟨b, off + k * 14 + 5, none⟩ = (rs[k]).cs[5]? := by have h1 := hc (14 * k + 5) (by rw [Zf]; omega); rw [Yw rs k hlt 5 (by omega)] at h1; rw [← h1]; congr 2; omega
   have y6 : wr.cell? ⟨b, off + k * 14 + 6, none⟩ = (rs[k]).cs[6]? := by have h1 := hc (14 * k + 6) (by rw [Zf]; omega); rw [Yw rs k hlt 6 (by omega)] at h1; rw [← h1]; congr 2; omega
   have y7 : wr.cell? ⟨b, off + k * 14 + 7, none⟩ = (rs[k]).cs[7]? := by have h1 := hc (14 * k + 7) (by rw [Zf]; omega); rw [Yw rs k hlt 7 (by omega)] at h1; rw [← h1]; congr 2; omega
   have y8 : wr.cell? ⟨b, off + k * 14 + 8, none⟩ = (rs[k]).cs[8]? := by have h1 := hc (14 * k + 8) (by rw [Zf]; omega); rw [Yw rs k hlt 8 (by omega)] at h1; rw [← h1]; congr 2; omega
   have y9 : wr.cell? ⟨b, off + k * 14 + 9, none⟩ = (rs[k]).cs[9]? := by have h1 := hc (14 * k + 9) (by rw [Zf]; omega); rw [Yw rs k hlt 9 (by omega)] at h1; rw [← h1]; congr 2; omega
   have y10 : wr.cell? ⟨b, off + k * 14 + 10, none⟩ = (rs[k]).cs[10]? := by have h1 := hc (14 * k + 10) (by rw [Zf]; omega); rw [Yw rs k hlt 10 (by omega)] at h1; rw [← h1]; congr 2; omega
   have y11 : wr.cell? ⟨b, off + k * 14 + 11, none⟩ = (rs[k]).cs[11]? := by have h1 := hc (14 * k + 11) (by rw [Zf]; omega); rw [Yw rs k hlt 11 (by omega)] at h1; rw [← h1]; congr 2; omega
   have y12 : wr.cell? ⟨b, off + k * 14 + 12, none⟩ = (rs[k]).cs[12]? := by have h1 := hc (14 * k + 12) (by rw [Zf]; omega); rw [Yw rs k hlt 12 (by omega)] at h1; rw [← h1]; congr 2; omega
   have y13 : wr.cell? ⟨b, off + k * 14 + 13, none⟩ = (rs[k]).cs[13]? := by have h1 := hc (14 * k + 13) (by rw [Zf]; omega); rw [Yw rs k hlt 13 (by omega)] at h1; rw [← h1]; congr 2; omega
   have hmem : rs[k] ∈ rs := List.getElem_mem hlt
   have hrz := HZ.out _ hmem
   have kb := fun w (hG : Yf w) (hm : Vv w) => HB.out rs[k] hrz w hG hm
   have kr := fun w (hG : Yf w) (hm : Vv w) => HRR.out rs[k] hrz w hG hm
   have hre := HRE.out rs[k]
   have hok := HOK.out rs[k]
   have hh := HHIT.out k hlt
   have hmi := HMISS.out k hlt
   clear hmem hc hc0
   generalize rs[k] = r at *
   obtain ⟨S, v1, h1⟩ := r
   have hSb : Bs (Rc.l ⟨S, v1, h1⟩) = S := (bs_of' S).symm
   generalize Rc.l ⟨S, v1, h1⟩ = l at *
   simp only at kb kr hre hok hrz
   rw [hSb] at kb kr
   clear hSb hrz
   generalize Yp l v1 h1 = rr at kr hre hok
   generalize Yj l v1 = X at kb hre hok
   obtain ⟨x, okx⟩ := X
   simp only at hre hok
   have heq := fun w => HEQ.out x w
   have heq := fun w => HEQ.out x w
   generalize decide (x = V) = dq at hre heq
   rw [HV.out] at heq
   generalize hit ⟨S, v1, h1⟩ V = ht at hre hh hmi
   obtain ⟨⟨e1, e2, e3⟩, ⟨f1, f2, f3⟩, ⟨g1, g2, g3⟩, ⟨j1, j2, j3⟩⟩ := v1
   obtain ⟨⟨m1, m2, m3⟩, ⟨n1, n2, n3⟩, ⟨o1, o2, o3⟩, ⟨p1, p2, p3⟩⟩ := x
   simp only [Rc.cs, List.getElem?_cons_zero, List.getElem?_cons_succ] at y0 y1 y2 y3 y4 y5 y6 y7 y8 y9 y10 y11 y12 y13
   simp only [Ws, m4v, M4.v] at kb kr heq
   have KB := Gv kb
   have KR := Gv kr
   have HEq := Gv heq
   have HRe := Gv hre
   have HHi := Gv hh
   have HMi := Gv hmi
   have HOk := Gv hok
   clear kb kr heq hre hh hmi hok HS
   go_upto_region 4 with fail
   replace hS := Zw.alloc (h := hS) (cs := #[.string S, .int .i64 e1, .int .i64 e2, .int .i64 e3, .int .i64 f1, .int .i64 f2, .int .i64 f3, .int .i64 g1, .int .i64 g2, .int .i64 g3, .int .i64 j1, .int .i64 j2, .int .i64 j3, .int .u32 h1]) (t := 37)
   generalize World.alloc _ _ = W1 at *
   clear y0 y1 y2 y3 y4 y5 y6 y7 y8 y9 y10 y11 y12 y13
   have hC := hS.reads
   simp only [Zz, Zy] at hC
   go_wp2_with fail
   refine (KB.out _ (HG.out.ex hS.ex) (HM.out.ex hS.ex)).mono ?_
   rintro e w1 ⟨rfl, hx⟩
   replace hS := Zw.after (h := hS) hx
   clear hx hC
   go_upto_region 5 with fail
   replace hS := Zw.alloc (h := hS) (cs := #[.int .i64 m1, .int .i64 m2, .int .i64 m3, .int .i64 n1, .int .i64 n2, .int .i64 n3, .int .i64 o1, .int .i64 o2, .int .i64 o3, .int .i64 p1, .int .i64 p2, .int .i64 p3]) (t := 35)
   generalize World.alloc _ _ = W2 at *
   have hC := hS.reads
   simp only [Zz, Zy] at hC
   go_wp2_with fail
   refine (KR.out _ (HG.out.ex hS.ex) (HM.out.ex hS.ex)).mono ?_
   rintro e w2 ⟨rfl, hx⟩
   replace hS := Zw.after (h := hS) hx
   clear hx hC
   have hC := hS.reads
   simp only [Zz, Zy] at hC
   have hE := hS.ex
   have HS2 := Gv (Zw.tl (Zw.tl hS))
   rcases rr with _ | _
   ·go_wp2_with fail
    have HK2 : Hid (R = Vt (rs.drop (k + 1)) V (k + 1)) := Gv (HK.out.trans (HMi.out (by rw [HRe.out]; rfl)))
    clear hC hE hS
    go_roundw
    case rel => exact ⟨k + 1, by go_num, by omega, HK2, HS2⟩
    case measure => simp [intOf] <;> omega
   ·have heq := HEq.out
    rcases dq with _ | _
    ·go_wp2_with (simp only [heq])
     clear heq
     have HK2 : Hid (R = Vt (rs.drop (k + 1)) V (k + 1)) := Gv (HK.out.trans (HMi.out (by rw [HRe.out]; rfl)))
     clear hC hE hS
     go_roundw
     case rel => exact ⟨k + 1, by go_num, by omega, HK2, HS2⟩
     case measure => simp [intOf] <;> omega
    ·go_wp2_with (simp only [heq])
     refine Gq (v := .int .i64 (k : Int)) ?_ rfl ⟨by rw [HK.out, HHi.out (by rw [HRe.out]; rfl)], hE⟩
     simp [results, Tryz.results25, go_sem]
  ·obtain rfl : k = rs.length := by omega
   have hI : ¬ ((rs.length : Nat) : Int) < (rs.length : Int) := by omega
   have hE := HS.out.ex
   have HY := Gv (HK.out.trans HEND.out)
   clear hlt HS HK hk hn
   go_wp2_with fail
   refine Gq (v := .int .i64 (-1)) ?_ rfl ⟨by rw [HY.out], hE⟩
   simp [results, Tryz.results25, go_sem]
end
section
open Go.RowKit

attribute [local go_sem] Zk Zj
theorem Oq {p : Nat} {ty' : TypeId} {pos : String} {after : Array Edge} : Km Tryz.prog 35 { dst := some p, op := .alloc 35, type := ty', pos := pos, after := after, guard := none } p #[.int .i64 0, .int .i64 0, .int .i64 0, .int .i64 0, .int .i64 0, .int .i64 0, .int .i64 0, .int .i64 0, .int .i64 0, .int .i64 0, .int .i64 0, .int .i64 0] := ⟨rfl, rfl, fun ρ w => by simp [execOp, go_sem]⟩
theorem Sr : (Tryz.prog.info? 35).map (·.size) = some 12 := by kernel_rfl
theorem Ks (rs : List Rc) (A : Option Addr) (cap : Nat) (v : M4) (hn : rs.length ≤ 1048576) (hz : ∀ r ∈ rs, r.S.size ≤ 1048576) (w : World) (hs : Slc w A (Yn rs)) : Calls Tryz.prog 23 #[.slice A rs.length cap, v.v] w (fun e w' => e = .returned (.int .i64 (Vt rs v 0)) ∧ Ex w w') := by
 have HB := Gv (fun (r : Rc) (hr : r.S.size ≤ 1048576) w => Ri r.l (by rw [Rc.l, Array.length_toList]; exact hr) r.v w)
 have HRR := Gv (fun (r : Rc) (hr : r.S.size ≤ 1048576) w => Tp r.l (by rw [Rc.l, Array.length_toList]; exact hr) r.v r.h w)
 have HRE := Gv (fun (r : Rc) => hit_eq r v)
 have HOK := Gv (fun (r : Rc) => Np (l := r.l) (v := r.v) (h := r.h))
 have HEQ := Gv (fun (x : M4) w => eqlSt x v w)
 have HA0 : Hid (Vt rs v 0 = Vt (rs.drop 0) v 0) := Gv (by rw [List.drop_zero])
 have HHIT := Gv (fun k (hk : k < rs.length) => afind_hit (v := v) hk)
 have HMISS := Gv (fun k (hk : k < rs.length) => Gx (v := v) hk)
 have HEND := Gv (afind_end rs v)
 generalize Vt rs v 0 = R at HA0 ⊢
 have HZ := Gv hz
 have HN := Gv hn
 have HSL := Gv hs
 clear hz hn hs
 obtain ⟨V, hV⟩ : ∃ V, V = v := ⟨_, rfl⟩
 rw [← hV] at HRE HEQ HA0 HHIT HMISS HEND
 obtain ⟨⟨a1, a2, a3⟩, ⟨b1, b2, b3⟩, ⟨c1, c2, c3⟩, ⟨d1, d2, d3⟩⟩ := v
 simp only [M4.v]
 have HV := Gv hV
 clear hV
 have hR := Zw.refl w
 go_enter Tryz.func23, Tryz.ntmps23
 go_upto_region 1 with fail
 have hS : Zw w (w.alloc (.cells #[.int .i64 a1, .int .i64 a2, .int .i64 a3, .int .i64 b1, .int .i64 b2, .int .i64 b3, .int .i64 c1, .int .i64 c2, .int .i64 c3, .int .i64 d1, .int .i64 d2, .int .i64 d3] 35)) _ := inferInstance
 clear hR
 generalize w.alloc (.cells #[.int .i64 a1, .int .i64 a2, .int .i64 a3, .int .i64 b1, .int .i64 b2, .int .i64 b3, .int .i64 c1, .int .i64 c2, .int .i64 c3, .int .i64 d1, .int .i64 d2, .int .i64 d3] 35) = W0 at *
 go_wp2_with fail
 go_loopw [5, 6, 7] (fun m _ _ wr => ∃ k : Nat, m = .int .i64 k ∧ k ≤ rs.length ∧ Hid (R = Vt (rs.drop k) V k) ∧ Hid (Zw w wr [(w.heap.size, 35, #[.int .i64 a1, .int .i64 a2, .int .i64 a3, .int .i64 b1, .int .i64 b2, .int .i64 b3, .int .i64 c1, .int .i64 c2, .int .i64 c3, .int .i64 d1, .int .i64 d2, .int .i64 d3])])) (fun m _ _ _ => rs.length + 1 - (intOf m).toNat)
 case atStart => exact ⟨0, rfl, by omega, HA0, Gv hS⟩
 case round =>
  clear hS HA0
  obtain ⟨k, rfl, hk, HK, HS⟩ := hrel
  have hn := HN.out
  by_cases hlt : k < rs.length
  ·have hI : (k : Int) < (rs.length : Int) := by omega
   have hwk : IntKind.i64.wrap ((k : Int) + 1) = (k : Int) + 1 := Gp _ (by omega)
   have hS := HS.out
   have hc0 := Slc.ex HSL.out hS.ex
   obtain ⟨b, off, rfl, hc⟩ := hc0 (by rw [Zf]; omega)
   have y0 : wr.cell? ⟨b, off + k * 14, none⟩ = (rs[k]).cs[0]? := by have h1 := hc (14 * k + 0) (by rw [Zf]; omega); rw [Yw rs k hlt 0 (by omega)] at h1; rw [← h1]; congr 2; omega
   have y1 : wr.cell? ⟨b, off + k * 14 + 1, none⟩ = (rs[k]).cs[1]? := by have h1 := hc (14 * k + 1) (by rw [Zf]; omega); rw [Yw rs k hlt 1 (by omega)] at h1; rw [← h1]; congr 2; omega
   have y2 : wr.cell? ⟨b, off + k * 14 + 2, none⟩ = (rs[k]).cs[2]? := by have h1 := hc (14 * k + 2) (by rw [Zf]; omega); rw [Yw rs k hlt 2 (by omega)] at h1; rw [← h1]; congr 2; omega
   have y3 : wr.cell? ⟨b, off + k * 14 + 3, none⟩ = (rs[k]).cs[3]? := by have h1 := hc (14 * k + 3) (by rw [Zf]; omega); rw [Yw rs k hlt 3 (by omega)] at h1; rw [← h1]; congr 2; omega
   have y4 : wr.cell? ⟨b, off + k * 14 + 4, none⟩ = (rs[k]).cs[4]? := by have h1 := hc (14 * k + 4) (by rw [Zf]; omega); rw [Yw rs k hlt 4 (by omega)] at h1; rw [← h1]; congr 2; omega
   have y5 : wr.cell? ⟨b, off + k * 14 + 5, none⟩ = (rs[k]).cs[5]? := by have h1 := hc (14 * k + 5) (by rw [Zf]; omega); rw [Yw rs k hlt 5 (by omega)] at h1; rw [← h1]; congr 2; omega
   have y6 : wr.cell? ⟨b, off + k * 14 + 6, none⟩ = (rs[k]).cs[6]? := by have h1 := hc (14 * k + 6) (by rw [Zf]; omega); rw [Yw rs k hlt 6 (by omega)] at h1; rw [← h1]; congr 2; omega
   have y7 : wr.cell? ⟨b, off + k * 14 + 7, none⟩ = (rs[k]).cs[7]? := by have h1 := hc (14 * k + 7) (by rw [Zf]; omega); rw [Yw rs k hlt 7 (by omega)] at h1; rw [← h1]; congr 2; omega
   have y8 : wr.cell? ⟨b, off + k * 14 + 8, none⟩ = (rs[k]).cs[8]? := by have h1 := hc (14 * k + 8) (by rw [Zf]; omega); rw [Yw rs k hlt 8 (by omega)] at h1; rw [← h1]; congr 2; omega
   have y9 : wr.cell? ⟨b, off + k * 14 + 9, none⟩ = (rs[k]).cs[9]? := by have h1 := hc (14 * k + 9) (by rw [Zf]; omega); rw [Yw rs k hlt 9 (by omega)] at h1; rw [← h1]; congr 2; omega
   have y10 : wr.cell? ⟨b, off + k * 14 + 10, none⟩ = (rs[k]).cs[10]? := by have h1 := hc (14 * k + 10) (by rw [Zf]; omega); rw [Yw rs k hlt 10 (by omega)] at h1; rw [← h1]; congr 2; omega
   have y11 : wr.cell? ⟨b, off + k * 14 + 11, none⟩ = (rs[k]).cs[11]? := by have h1 := hc (14 * k + 11) (by rw [Zf]; omega); rw [Yw rs k hlt 11 (by omega)] at h1; rw [← h1]; congr 2; omega
   have y12 : wr.cell? ⟨b, off + k * 14 + 12, none⟩ = (rs[k]).cs[12]? := by have h1 := hc (14 * k + 12) (by rw [Zf]; omega); rw [Yw rs k hlt 12 (by omega)] at h1; rw [← h1]; congr 2; omega
   have y13 : wr.cell? ⟨b, off + k * 14 + 13, none⟩ = (rs[k]).cs[13]? := by have h1 := hc (14 * k + 13) (by rw [Zf]; omega); rw [Yw rs k hlt 13 (by omega)] at h1; rw [← h1]; congr 2; omega
   have hmem : rs[k] ∈ rs := List.getElem_mem hlt
   have hrz := HZ.out _ hmem
   have kb := fun w => HB.out rs[k] hrz w
   have kr := fun w => HRR.out rs[k] hrz w
   have hre := HRE.out rs[k]
   have hok := HOK.out rs[k]
   have hh := HHIT.out k hlt
   have hmi := HMISS.out k hlt
   clear hmem hc hc0
   generalize rs[k] = r at *
   obtain ⟨S, v1, h1⟩ := r
   have hSb : Bs (Rc.l ⟨S, v1, h1⟩) = S := (bs_of' S).symm
   generalize Rc.l ⟨S, v1, h1⟩ = l at *
   simp only at kb kr hre hok hrz
   rw [hSb] at kb kr
   clear hSb hrz
   generalize Yp l v1 h1 = rr at kr hre hok
   generalize Yj l v1 = X at kb hre hok
   obtain ⟨x, okx⟩ := X
   simp only at hre hok
   have heq := fun w => HEQ.out x w
   have heq := fun w => HEQ.out x w
   generalize decide (x = V) = dq at hre heq
   rw [HV.out] at heq
   generalize hit ⟨S, v1, h1⟩ V = ht at hre hh hmi
   obtain ⟨⟨e1, e2, e3⟩, ⟨f1, f2, f3⟩, ⟨g1, g2, g3⟩, ⟨j1, j2, j3⟩⟩ := v1
   obtain ⟨⟨m1, m2, m3⟩, ⟨n1, n2, n3⟩, ⟨o1, o2, o3⟩, ⟨p1, p2, p3⟩⟩ := x
   simp only [Rc.cs, List.getElem?_cons_zero, List.getElem?_cons_succ] at y0 y1 y2 y3 y4 y5 y6 y7 y8 y9 y10 y11 y12 y13
   simp only [Ws, m4v, M4.v] at kb kr heq
   have KB := Gv kb
   have KR := Gv kr
   have HEq := Gv heq
   have HRe := Gv hre
   have HHi := Gv hh
   have HMi := Gv hmi
   have HOk := Gv hok
   clear kb kr heq hre hh hmi hok HS
   go_wp2_with fail
   refine (KR.out _).mono ?_
   rintro e w1 ⟨rfl, hx⟩
   replace hS := Zw.after (h := hS) hx
   replace y0 := hx.get y0
   replace y1 := hx.get y1
   replace y2 := hx.get y2
   replace y3 := hx.get y3
   replace y4 := hx.get y4
   replace y5 := hx.get y5
   replace y6 := hx.get y6
   replace y7 := hx.get y7
   replace y8 := hx.get y8
   replace y9 := hx.get y9
   replace y10 := hx.get y10
   replace y11 := hx.get y11
   replace y12 := hx.get y12
   replace y13 := hx.get y13
   clear hx
   rcases rr with _ | _
   ·have HS2 := Gv hS
    go_wp2_with fail
    have HK2 : Hid (R = Vt (rs.drop (k + 1)) V (k + 1)) := Gv (HK.out.trans (HMi.out (by rw [HRe.out]; rfl)))
    clear hS y0 y1 y2 y3 y4 y5 y6 y7 y8 y9 y10 y11 y12 y13
    go_roundw
    case rel => exact ⟨k + 1, by go_num, by omega, HK2, HS2⟩
    case measure => simp [intOf] <;> omega
   ·have hOk := HOk.out rfl
    subst hOk
    go_upto_region 5 with fail
    have hS0 := hS
    refine Zn (St := Ex) (B := fun _ w' => InE _ _ w') 14 1 1 _ 35 (fun _ => 6) (fun _ => 32) (fun _ => #[.int .i64 0, .int .i64 0, .int .i64 0, .int .i64 0, .int .i64 0, .int .i64 0, .int .i64 0, .int .i64 0, .int .i64 0, .int .i64 0, .int .i64 0, .int .i64 0]) (fun _ => #[.int .i64 m1, .int .i64 m2, .int .i64 m3, .int .i64 n1, .int .i64 n2, .int .i64 n3, .int .i64 o1, .int .i64 o2, .int .i64 o3, .int .i64 p1, .int .i64 p2, .int .i64 p3]) false (by kernel_rfl) (by kernel_rfl) (InE.drew (InE.start hS0)) (fun x y h1 h2 _ => by omega) (fun x y _ _ => by decide) (fun _ _ h g cs _ hb => hb.ex h) (fun _ _ cs h => h.alloc _) (fun _ _ h => h.size) ?_
    iterate 9 (apply Zx; (· rfl); (· intro b wb hB Q1 hQ1; have q0 := hB.sees.ex.get y0; go_wp2_with fail; exact hQ1 _ (Ex.refl _) hB); (· exact ⟨_, rfl⟩))
    (apply Zx; (· rfl); (· intro b wb hB Q1 hQ1; have q1 := hB.sees.ex.get y1; have q2 := hB.sees.ex.get y2; have q3 := hB.sees.ex.get y3; have q4 := hB.sees.ex.get y4; have q5 := hB.sees.ex.get y5; have q6 := hB.sees.ex.get y6; have q7 := hB.sees.ex.get y7; have q8 := hB.sees.ex.get y8; have q9 := hB.sees.ex.get y9; have q10 := hB.sees.ex.get y10; have q11 := hB.sees.ex.get y11; have q12 := hB.sees.ex.get y12; go_wp2_with fail; exact hQ1 _ (Ex.refl _) hB); (· exact ⟨_, rfl⟩))
    (apply Zx; (· rfl); (· intro b wb hB Q1 hQ1; go_wp2_with (go_at_call 37; (with_reducible refine (KB.out _).mono ?_); rintro e wn ⟨rfl, hx⟩); exact hQ1 _ hx (hB.go hx)); (· exact ⟨_, rfl⟩))
    iterate 3 (apply Zx; (· rfl); (· intro b wb hB Q1 hQ1; go_wp2_with fail; exact hQ1 _ (Ex.refl _) hB); (· exact ⟨_, rfl⟩))
    refine Zv ?_
    refine ⟨fun i hi => ?_, fun i hi => ?_, fun i hi => ?_, fun gg wz hz hbx hne => ?_⟩
    ·obtain rfl : i = 0 := by omega
     all_goals exact ⟨_, rfl, Oq⟩
    ·obtain rfl : i = 0 := by omega
     all_goals exact ⟨_, rfl, Zi Sr rfl (by kernel_rfl) (fun _ _ _ hg h => h.setRow hg _)⟩
    ·obtain rfl : i = 0 := by omega
     ·exact (show (6 : Nat) < 41 by decide)
    obtain ⟨hg0, hb0⟩ := hbx 0 (by omega)
    replace hS := InE.join hS0 hz
    replace hS := Zw.put hS hb0
    simp only [frN, Act.put, Gt, Gs, Gr, Nat.reduceAdd, List.drop_succ_cons, List.drop_zero]
    generalize gg 0 = g0 at *
    clear hbx hz hS0 hne
    clear y0 y1 y2 y3 y4 y5 y6 y7 y8 y9 y10 y11 y12 y13
    have hC := hS.reads
    simp only [Zz, Zy] at hC
    have hE := hS.ex
    have HS2 := Gv (Zw.tl hS)
    have heq := HEq.out
    rcases dq with _ | _
    ·go_wp2_with (simp only [heq])
     clear heq
     have HK2 : Hid (R = Vt (rs.drop (k + 1)) V (k + 1)) := Gv (HK.out.trans (HMi.out (by rw [HRe.out]; rfl)))
     clear hC hE hS
     go_roundw
     case rel => exact ⟨k + 1, by go_num, by omega, HK2, HS2⟩
     case measure => simp [intOf] <;> omega
    ·go_wp2_with (simp only [heq])
     refine Gq (v := .int .i64 (k : Int)) ?_ rfl ⟨by rw [HK.out, HHi.out (by rw [HRe.out]; rfl)], hE⟩
     simp [results, Tryz.results23, go_sem]
  ·obtain rfl : k = rs.length := by omega
   have hI : ¬ ((rs.length : Nat) : Int) < (rs.length : Int) := by omega
   have hE := HS.out.ex
   have HY := Gv (HK.out.trans HEND.out)
   clear hlt HS HK hk hn
   go_wp2_with fail
   refine Gq (v := .int .i64 (-1)) ?_ rfl ⟨by rw [HY.out], hE⟩
   simp [results, Tryz.results23, go_sem]
end
end Go.Proofs.YtmmjkchjgeklnaaGreatDoor
