/-
  Walks: the law FnExecuteMeter.
-/
import Derived.Test.YtiommfmaleeibaaGreatDoorB37
import Derived.Test.YtiommfmaleeibaaGreatDoorB12
import Derived.Test.YtiommfmaleeibaaGreatDoorB35
import Derived.Test.YtiommfmaleeibaaGreatDoorB24
import Derived.Test.YtiommfmaleeibaaGreatDoorB36
import Derived.Test.YtiommfmaleeibaaGreatDoorB02
set_option linter.unusedSimpArgs false
set_option linter.unusedVariables false
namespace Go.Proofs.YtiommfmaleeibaaGreatDoor
open Go.RowKit

attribute [local go_sem] Zi Zh
set_option maxRecDepth 10000 in
set_option maxHeartbeats 4000000 in
theorem law_FnExecuteMeter (v0 : Value) (w : World) (h : IsBytes w v0) (hm : Vs w ∧ Yc w) : Calls Tryz.prog 6 #[v0] w fun e w' => e = .returned (.bool true) ∧ Ex w w' := by
 obtain ⟨A, cap, xs, rfl, hl, hcap, hcap2, hS0, hbs⟩ := h
 have hB : Sz w A xs := ⟨hS0, hbs⟩
 clear hS0 hbs
 by_cases hbig : (1048576 : Int) < xs.length
 ·go_enter Tryz.func6, Tryz.ntmps6
  go_wp2
  go_ret
  exact ⟨rfl, Ex.refl _⟩
 have HM := Kw hm.1
 have HG := Kw hm.2
 clear hm
 have KD := Kw (fun w hB => drawMeterRow A xs cap w hB hl hcap hcap2)
 go_enter Tryz.func6, Tryz.ntmps6
 go_wp2_with fail
 refine (KD.out _ hB).mono ?_
 rintro e u1 ⟨P, Q, rfl, hp0, hp1, hq0, hq1, hx⟩
 clear hB hbig hl hcap hcap2 KD
 have ki := fun w (_ : Yc w) => iMeterRow P Q w
 have ks := fun w => sMeterRow P Q w
 have hml := mtrow_len P Q
 rcases hmt : Vm P Q with ⟨T, ok⟩
 rw [hmt] at ki ks hml
 simp only at ki ks hml
 clear hmt
 obtain ⟨m, rfl⟩ : ∃ m : M4, T = m.l := by
  match T, hml with
  | [a, b, c, d], _ => exact ⟨⟨a, b, c, d⟩, rfl⟩
 rw [← M4.l_arr] at ki ks
 have heq := fun w => eqlA4 m m w
 have hneq := fun w => neqA4 m m w
 simp only [decide_true, Bool.not_true] at heq hneq
 clear hml
 obtain ⟨⟨a1, a2, a3⟩, ⟨b1, b2, b3⟩, ⟨c1, c2, c3⟩, ⟨d1, d2, d3⟩⟩ := m
 simp only [M4.v] at ki ks heq hneq
 have KI := Kw ki
 have KS := Kw ks
 clear ki ks
 have hS : Zw w u1 [] := ⟨hx, trivial⟩
 have hC := True.intro
 clear hx
 rcases ok with _ | _
 ·go_wp2_with (first | (simp only [heq]) | (simp only [hneq]) | (go_at_call 14; (with_reducible refine (KI.out _ (HG.out.ex Zw.exOf)).mono ?_); rintro e wn ⟨rfl, hx⟩; replace hS := Zw.after (W := w) hx; clear hx; replace hC := hS.reads; simp only [Zz, Zy, Kv] at hC) | (go_at_call 15; (with_reducible refine (KS.out _).mono ?_); rintro e wn ⟨rfl, hx⟩; replace hS := Zw.after (W := w) hx; clear hx; replace hC := hS.reads; simp only [Zz, Zy, Kv] at hC))
  refine Kr (v := .bool true) ?_ rfl ⟨rfl, ?_⟩
  ·simp [results, Tryz.results6, go_sem]
  ·repeat' (with_reducible first | exact hS.ex | exact Ex.refl _ | assumption | refine Ex.alloc ?_ _ | refine Ex.drewN ?_ _ | refine Ex.drew ?_ | refine Ex.setCell ?_ (by simp <;> omega) _)
 ·have ko := fun w => iStokesOf ⟨1, 0, 1⟩ ⟨0, 0, 1⟩ w
  rcases hsf : sof ⟨1, 0, 1⟩ ⟨0, 0, 1⟩ with ⟨v, p⟩
  rw [hsf] at ko
  have km := fun b w (_ : Yc w) hb => My P Q v b w hb
  rcases hmr : Tp P Q v with ⟨f, q⟩
  rw [hmr] at km
  have HX : Hid (p = true → q = true → f.valid = true ∧ exec stM (Qs P Q) = txt f ++ [10, 112, 105, 101, 99, 101, 115, 32, 48, 10]) := Kw fun e1 e2 => by
   subst e1 e2
   refine ⟨?_, exec_meter (by omega) (by omega) (by omega) (by omega) hsf hmr⟩
   have h := Kz (p := P) (q := Q) (v := v) (by rw [hmr])
   rw [hmr] at h
   exact h.2
  clear hsf hmr
  obtain ⟨⟨e1, e2, e3⟩, ⟨f1, f2, f3⟩, ⟨g1, g2, g3⟩, ⟨h1, h2, h3⟩⟩ := v
  simp only [m4v, M4.v, jvv, MrGot] at ko km
  have KO := Kw ko
  have KR := Kw km
  clear ko km
  go_upto_region 9 with (first | (simp only [heq]) | (simp only [hneq]) | (go_at_call 14; (with_reducible refine (KI.out _ (HG.out.ex Zw.exOf)).mono ?_); rintro e wn ⟨rfl, hx⟩; replace hS := Zw.after (W := w) hx; clear hx; replace hC := hS.reads; simp only [Zz, Zy, Kv] at hC) | (go_at_call 15; (with_reducible refine (KS.out _).mono ?_); rintro e wn ⟨rfl, hx⟩; replace hS := Zw.after (W := w) hx; clear hx; replace hC := hS.reads; simp only [Zz, Zy, Kv] at hC) | (go_at_call 16; (with_reducible refine (KO.out _).mono ?_); rintro e wn ⟨rfl, hx⟩; replace hS := Zw.after (W := w) hx; clear hx; replace hC := hS.reads; simp only [Zz, Zy, Kv] at hC))
  replace hS : Zw w (wn.alloc (.cells #[.int .i64 e1, .int .i64 e2, .int .i64 e3, .int .i64 f1, .int .i64 f2, .int .i64 f3, .int .i64 g1, .int .i64 g2, .int .i64 g3, .int .i64 h1, .int .i64 h2, .int .i64 h3] 35)) _ := inferInstance
  try simp only [Kv] at hS
  generalize wn.alloc (.cells #[.int .i64 e1, .int .i64 e2, .int .i64 e3, .int .i64 f1, .int .i64 f2, .int .i64 f3, .int .i64 g1, .int .i64 g2, .int .i64 g3, .int .i64 h1, .int .i64 h2, .int .i64 h3] 35) = W1 at *
  clear heq hneq KI KS KO hC
  have hC := hS.reads
  simp only [Zz, Zy] at hC
  go_wp2_with fail
  refine (KR.out _ _ (HG.out.ex (hS.ex.alloc _)) (Box.new _ _ _)).mono ?_
  rintro e w4 ⟨B, n, cp, rfl, hx4, hown⟩
  replace hS := (hS.grow ((Ex.refl _).alloc _)).grow hx4
  clear hx4 hC KR
  have hC := hS.reads
  simp only [Zz, Zy] at hC
  rcases p with _ | _
  ·clear hown HX
   have hE := hS.ex
   go_wp2_with fail
   refine Kr (v := .bool true) ?_ rfl ⟨rfl, ?_⟩
   ·simp [results, Tryz.results6, go_sem]
   ·repeat' (with_reducible first | exact hE | exact Ex.refl _ | assumption | refine Ex.alloc ?_ _ | refine Ex.drewN ?_ _ | refine Ex.drew ?_ | refine Ex.setCell ?_ (by simp <;> omega) _)
  ·rcases q with _ | _
   ·clear hown HX
    have hE := hS.ex
    go_wp2_with fail
    refine Kr (v := .bool true) ?_ rfl ⟨rfl, ?_⟩
    ·simp [results, Tryz.results6, go_sem]
    ·repeat' (with_reducible first | exact hE | exact Ex.refl _ | assumption | refine Ex.alloc ?_ _ | refine Ex.drewN ?_ _ | refine Ex.drew ?_ | refine Ex.setCell ?_ (by simp <;> omega) _)
   ·obtain ⟨hvf, hex⟩ := HX.out rfl rfl
    obtain ⟨rfl, hO⟩ := hown rfl
    obtain ⟨fb, fo, rfl, hfc⟩ := (fracs1 hO).at (by simp)
    have cF := hfc 0 (by simp)
    simp only [List.getD_cons_zero, Nat.zero_mul, Nat.add_zero] at cF
    obtain ⟨cf1, cf2, cf3⟩ := cF
    clear hfc hO hown HX
    have kx := fun w ht => Nx f w ht
    have hfx : Tx f = (txt f, true) := by simp only [Tx, hvf, if_true]
    rw [hfx] at kx
    have hxl := (Ny hvf).2.2.2.2
    clear hfx hvf
    have k1 := fun w (_ : Yc w) hm => iExecute stM QB (Qs P Q) (by
     have h1 := Vk P (by omega) (by omega)
     have h2 := Vk Q (by omega) (by omega)
     simp [Qs, Ru]
     omega) (by simp [QB, Con.new]) (by
     rw [lns_meter]
     intro x hx
     simp only [List.mem_cons, List.not_mem_nil, or_false] at hx
     subst hx
     exact lineMeter (by omega) (by omega) (by omega) (by omega)) piecesQ w hm
    rw [hex] at k1
    clear hex
    have kp := fun w => dig_any P (by omega) (by omega) w
    have kq := fun w => dig_any Q (by omega) (by omega) w
    have hpl := Vk P (by omega) (by omega)
    have hql := Vk Q (by omega) (by omega)
    have harg : (⟨#[109, 101, 116, 101, 114, 32]⟩ : ByteArray) ++ Bs (Lib.itoa P) ++ ⟨#[32]⟩ ++ Bs (Lib.itoa Q) ++ ⟨#[10]⟩ = Bs (Qs P Q) := by
     unfold Qs Ru
     apply Su
     simp [Mi, Bs]
    have hres : Bs (txt f) ++ ⟨#[10, 112, 105, 101, 99, 101, 115, 32, 48, 10]⟩ = Bs (txt f ++ [10, 112, 105, 101, 99, 101, 115, 32, 48, 10]) := by
     apply Su
     simp [Mi, Bs]
    rw [← hres, ← harg] at k1
    clear hres harg
    have hpz : (Bs (Lib.itoa P)).size ≤ 21 := by rw [Xp]; exact hpl
    have hqz : (Bs (Lib.itoa Q)).size ≤ 21 := by rw [Xp]; exact hql
    have hxz : (Bs (txt f)).size ≤ 67 := by rw [Xp]; exact hxl
    clear hpl hql hxl
    have kx : ∀ w, Tab w → Calls _ _ #[f.v] w fun e w' => e = .returned (.tuple #[.string _, .bool _]) ∧ Ex w w' := kx
    generalize Bs (txt f) = TX at *
    generalize Bs (Lib.itoa P) = DP at *
    generalize Bs (Lib.itoa Q) = DQ at *
    obtain ⟨f1, f2, f3⟩ := f
    simp only [Fr.v] at kx cf1 cf2 cf3
    have KX := Kw kx
    have KP := Kw kp
    have KQ := Kw kq
    have K2 := Kw k1
    clear kx kp kq k1
    go_upto_region 13 with (go_at_call 18; (with_reducible refine (KX.out _ (HM.out.ex hS.ex).tab).mono ?_); rintro e w5 ⟨rfl, hx⟩; replace hS := hS.grow hx; clear hx)
    clear hC cf1 cf2 cf3
    refine Wi (St := fun _ _ => True) false (B := fun _ w2 => Zw w w2 _) (by kernel_rfl) (by kernel_rfl) (hS.drewW) ?_
    iterate 4 (apply Zx; (· rfl); (· intro b wb hB Q1 hQ1; have hC := hB.reads; simp only [Zz, Zy] at hC; go_wp2_with fail; exact hQ1 _ trivial hB); (· exact ⟨_, rfl⟩))
    (apply Zx; (· rfl); (· intro b wb hB Q1 hQ1; go_wp2_with (go_at_call 19; (with_reducible refine (KP.out _).mono ?_); rintro e wn ⟨rfl, hx⟩); exact hQ1 _ trivial (Zw.after (h := hB) hx)); (· exact ⟨_, rfl⟩))
    iterate 4 (apply Zx; (· rfl); (· intro b wb hB Q1 hQ1; have hC := hB.reads; simp only [Zz, Zy] at hC; go_wp2_with fail; exact hQ1 _ trivial hB); (· exact ⟨_, rfl⟩))
    (apply Zx; (· rfl); (· intro b wb hB Q1 hQ1; go_wp2_with (go_at_call 19; (with_reducible refine (KQ.out _).mono ?_); rintro e wn ⟨rfl, hx⟩); exact hQ1 _ trivial (Zw.after (h := hB) hx)); (· exact ⟨_, rfl⟩))
    iterate 2 (apply Zx; (· rfl); (· intro b wb hB Q1 hQ1; go_wp2_with fail; exact hQ1 _ trivial hB); (· exact ⟨_, rfl⟩))
    (apply Zx; (· rfl); (· intro b wb hB Q1 hQ1; go_wp2_with (go_at_call 9; (with_reducible refine (K2.out _ (HG.out.ex hB.ex) (HM.out.ex hB.ex)).mono ?_); rintro e wn ⟨rfl, hx⟩); exact hQ1 _ trivial (Zw.after (h := hB) hx)); (· exact ⟨_, rfl⟩))
    iterate 5 (apply Zx; (· rfl); (· intro b wb hB Q1 hQ1; go_wp2_with fail; exact hQ1 _ trivial hB); (· exact ⟨_, rfl⟩))
    refine Zq ?_
    intro wz hz
    have hE := hz.ex
    go_wp2_with fail
    refine Kr (v := .bool true) ?_ rfl ⟨rfl, ?_⟩
    ·simp [results, Tryz.results6, go_sem]
    ·repeat' (with_reducible first | exact hE | exact Ex.refl _ | assumption | refine Ex.alloc ?_ _ | refine Ex.drewN ?_ _ | refine Ex.drew ?_ | refine Ex.setCell ?_ (by simp <;> omega) _)
end Go.Proofs.YtiommfmaleeibaaGreatDoor
