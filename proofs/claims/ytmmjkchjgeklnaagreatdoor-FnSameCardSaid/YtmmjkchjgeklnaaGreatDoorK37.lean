/-
  Proved: what functions compute, part 37. No condition.
-/
import Derived.Test.YtmmjkchjgeklnaaGreatDoorK01
import Derived.Laws.BitsAllLaws
import Derived.Test.YtmmjkchjgeklnaaGreatDoorK04
import Derived.Deep.RegionWith
set_option linter.unusedSimpArgs false
set_option linter.unusedVariables false
set_option maxRecDepth 20000
set_option maxHeartbeats 8000000
namespace Go.Proofs.YtmmjkchjgeklnaaGreatDoor
section
open Go.RowKit

theorem xor63 (a b : Nat) (ha : a < 9223372036854775808) (hb : b < 9223372036854775808) : bits .xor .i64 (a : Int) (b : Int) = ((a ^^^ b : Nat) : Int) := by
 have hx : a ^^^ b < 2 ^ 63 := Nat.xor_lt_two_pow (by omega) (by omega)
 show IntKind.i64.wrap ((BitVec.ofInt 64 (a : Int) ^^^ BitVec.ofInt 64 (b : Int)).toNat : Int) = _
 rw [BitVec.toNat_xor, ofInt_u64 a (by omega), ofInt_u64 b (by omega)]
 simp [IntKind.wrap, IntKind.bits, IntKind.signed]
 omega
theorem xor63_bd {x : Int} (h0 : 0 ≤ x) (h1 : x < 9223372036854775808) : ∃ m : Nat, bits .xor .i64 x (x / 64) = (m : Int) ∧ m < 9223372036854775808 := by
 obtain ⟨n, rfl⟩ := Int.eq_ofNat_of_zero_le h0
 have hd : (n : Int) / 64 = ((n / 64 : Nat) : Int) := by omega
 rw [hd, xor63 n (n / 64) (by omega) (by omega)]
 exact ⟨_, rfl, Nat.xor_lt_two_pow (n := 63) (by omega) (by omega)⟩
theorem tmod_nat (a b : Nat) : (a : Int).tmod b = ((a % b : Nat) : Int) := rfl
theorem tdiv_nat (a b : Nat) : (a : Int).tdiv b = ((a / b : Nat) : Int) := rfl
def Vd (w : World) (A : Option Addr) (bs : List Int) : Prop := Slc w A (bs.map (Value.int .u8)) ∧ ∀ n ∈ bs, 0 ≤ n ∧ n ≤ 255
section
variable {w w1 : World} {A : Option Addr} {bs : List Int}
theorem Vd.ex (h : Vd w A bs) (he : Ex w w1) : Vd w1 A bs := ⟨h.1.ex he, h.2⟩
theorem Vd.alloc (h : Vd w A bs) (o : Obj) : Vd (w.alloc o) A bs := ⟨h.1.alloc o, h.2⟩
theorem Vd.at (h : Vd w A bs) (hp : 0 < bs.length) : ∃ b off, A = some ⟨b, off, none⟩ ∧ ∀ k, k < bs.length → w.cell? ⟨b, off + k, none⟩ = some (.int .u8 (bs.getD k 0)) ∧ 0 ≤ bs.getD k 0 ∧ bs.getD k 0 ≤ 255 := by
 obtain ⟨b, off, rfl, hc⟩ := h.1 (by simpa using hp)
 refine ⟨b, off, rfl, fun k hk => ⟨by rw [hc k (by simpa using hk)]; simp [hk], ?_⟩⟩
 have := h.2 bs[k] (List.getElem_mem hk)
 simpa [hk] using this
theorem Vd.take (h : Vd w A bs) (n : Nat) : Vd w A (bs.take n) := by
 refine ⟨fun hp => ?_, fun m hm => h.2 m (List.mem_of_mem_take hm)⟩
 have hp' : 0 < n ∧ 0 < bs.length := by simp at hp; omega
 obtain ⟨b, off, rfl, hc⟩ := h.1 (by simpa using hp'.2)
 refine ⟨b, off, rfl, fun k hk => ?_⟩
 have hk' : k < n ∧ k < bs.length := by simp at hk; omega
 rw [hc k (by simpa using hk'.2)]
 simp [hk'.1, hk'.2]
end

def Picked (m : Int) (w : World) (bo : Nat) (a : Nat) (e : Ending) (w' : World) : Prop :=
 ∃ (v : Int) (d : Nat), e = .returned (.int .i64 v) ∧ 0 ≤ v ∧ v < m ∧ w' = (w.setCell ⟨bo, 1, none⟩ (.int .i64 (a + 1))).drewN d

theorem pick_any (bo : Nat) (A : Option Addr) (bs : List Int) (cap : Nat) (a : Nat) (m : Int) (w : World) (hB : Vd w A bs) (hl : bs.length ≤ 2000) (hb : Box w bo 110 #[.slice A bs.length cap, .int .i64 a])
  (hne : ∀ b off, A = some ⟨b, off, none⟩ → 0 < bs.length → b ≠ bo) (ha : a ≤ 1099511627776) (hm : 1 ≤ m) (hm2 : m ≤ 1099511627776) :
  Calls Tryz.prog 42 #[.pointer (some ⟨bo, 0, none⟩), .int .i64 m] w (Picked m w bo a) := by
 have c := hb.cell
 have f := hb.frozen
 have hw := Gp ((a : Int) + 1) (by omega)
 rcases h0 : ((bs.length : Int) == 0) with _ | _
 case true =>
  go_enter Tryz.func42, Tryz.ntmps42
  go_wp2
  go_ret
  exact ⟨0, 0, rfl, by omega, by omega, rfl⟩
 have h0' : bs.length ≠ 0 := by simpa using h0
 obtain ⟨b, off, rfl, hc⟩ := hB.at (by omega)
 have hbne := hne b off rfl (by omega)
 clear hne hB
 by_cases h1 : a < bs.length
 ·obtain ⟨hc1, hv1, hv2⟩ := hc a h1
  obtain ⟨x, hx⟩ : ∃ x, x = bs.getD a 0 := ⟨_, rfl⟩
  rw [← hx] at hc1 hv1 hv2
  have hwx := IntWalk.wrap64_in x (by omega)
  clear hc hx
  go_enter Tryz.func42, Tryz.ntmps42
  go_wp2
  go_ret
  exact ⟨x % m, 0, rfl, Int.emod_nonneg _ (by omega), Int.emod_lt_of_pos _ (by omega), rfl⟩
 ·obtain ⟨j1, hj1, hj1b⟩ : ∃ j : Nat, (a : Int).tmod bs.length = j ∧ j < bs.length := ⟨a % bs.length, tmod_nat _ _, Nat.mod_lt _ (by omega)⟩
  obtain ⟨j2, hj2, hj2b⟩ : ∃ j : Nat, ((a : Int) * 7 + 3).tmod bs.length = j ∧ j < bs.length :=
   ⟨(a * 7 + 3) % bs.length, by rw [← tmod_nat]; simp, Nat.mod_lt _ (by omega)⟩
  obtain ⟨d, hd, hdb⟩ : ∃ d : Nat, (a : Int).tdiv bs.length = d ∧ d ≤ a := ⟨a / bs.length, tdiv_nat _ _, Nat.div_le_self _ _⟩
  obtain ⟨hc1, hv1, hv2⟩ := hc j1 hj1b
  obtain ⟨hc2, hv3, hv4⟩ := hc j2 hj2b
  obtain ⟨x, hx⟩ : ∃ x, x = bs.getD j1 0 := ⟨_, rfl⟩
  obtain ⟨y, hy⟩ : ∃ y, y = bs.getD j2 0 := ⟨_, rfl⟩
  rw [← hx] at hc1 hv1 hv2
  rw [← hy] at hc2 hv3 hv4
  have hwx := IntWalk.wrap64_in x (by omega)
  have hwy := IntWalk.wrap64_in y (by omega)
  have g1 := Gp (x * 131) (by omega)
  have g2 := Gp ((a : Int) * 7) (by omega)
  have g3 := Gp ((a : Int) * 7 + 3) (by omega)
  have g4 := Gp (y * 1117) (by omega)
  have g5 := Gp (x * 131 + y * 1117) (by omega)
  have g6 := Gp ((a : Int) * 29) (by omega)
  have g7 := Gp (x * 131 + y * 1117 + (a : Int) * 29) (by omega)
  have g8 := Gp ((d : Int) * 53) (by omega)
  have g9 := Gp (x * 131 + y * 1117 + (a : Int) * 29 + (d : Int) * 53) (by omega)
  clear hc hx hy
  go_enter Tryz.func42, Tryz.ntmps42
  go_wp2
  go_quiet (fail)
  clear g1 g2 g3 g4 g5 g6 g7 g8 g9
  obtain ⟨z, hz, hzb⟩ := xor63_bd (x := x * 131 + y * 1117 + (a : Int) * 29 + (d : Int) * 53) (by omega) (by omega)
  go_wp2
  go_ret
  exact ⟨(z : Int) % m, _, rfl, Int.emod_nonneg _ (by omega), Int.emod_lt_of_pos _ (by omega), rfl⟩

structure Pk (bo : Nat) (w w' : World) : Prop where
 ex : ∀ W, Ex W w → W.heap.size ≤ bo → Ex W w'
 box : ∀ b t cs, b ≠ bo → 3 ≠ t → Box w b t cs → Box w' b t cs
 size : w.heap.size ≤ w'.heap.size
theorem Pk.trans {bo : Nat} {w w1 w2 : World} (h : Pk bo w w1) (k : Pk bo w1 w2) : Pk bo w w2 :=
 ⟨fun W hW hl => k.ex W (h.ex W hW hl) hl, fun b t cs h1 h2 h3 => k.box b t cs h1 h2 (h.box b t cs h1 h2 h3), Nat.le_trans h.size k.size⟩
theorem Pk.of_ex {bo : Nat} {w w1 : World} (h : Ex w w1) : Pk bo w w1 := ⟨fun _ hW _ => hW.trans h, fun _ _ _ _ _ hb => hb.ex h, h.size⟩
def PickedR (m : Int) (bo : Nat) (A : Option Addr) (n cap a : Nat) (w : World) (e : Ending) (w' : World) : Prop :=
 ∃ v : Int, e = .returned (.int .i64 v) ∧ 0 ≤ v ∧ v < m ∧ Pk bo w w' ∧ Box w' bo 110 #[.slice A n cap, .int .i64 ((a + 1 : Nat) : Int)] ∧
  (∀ lo B cb ys, Vc w lo B cb ys → Vc w' lo B cb ys) ∧ w'.heap.size = w.heap.size
def OpenR (A : Option Addr) (xs : List Int) (w : World) (e : Ending) (w' : World) : Prop :=
 ∃ (bs : List Int) (cap' : Nat), e = .returned (.pointer (some ⟨w.heap.size, 0, none⟩)) ∧ Vd w A bs ∧ bs.length ≤ 2000 ∧
  Box w' w.heap.size 110 #[.slice A bs.length cap', .int .i64 ((0 : Nat) : Int)] ∧ Ex w w' ∧ ∀ W, Vd W A xs → Vd W A bs
theorem Ou (A : Option Addr) (xs : List Int) (cap : Nat) (w : World) (hB : Vd w A xs) (hl : xs.length ≤ 9223372036854775807) (hcap : xs.length ≤ cap) (hcap2 : cap ≤ 9223372036854775807) :
  Calls Tryz.prog 41 #[.slice A xs.length cap] w (OpenR A xs w) := by
 by_cases h : (2000 : Int) < xs.length
 ·go_enter Tryz.func41, Tryz.ntmps41
  go_wp2
  go_ret
  have hx : (xs.take 2000).length = 2000 := by simp; omega
  refine ⟨xs.take 2000, cap, rfl, hB.take 2000, by omega, ?_, (Ex.refl _).alloc _, fun W h => h.take 2000⟩
  rw [hx]
  exact Box.new _ _ _
 ·go_enter Tryz.func41, Tryz.ntmps41
  go_wp2
  go_ret
  exact ⟨xs, cap, rfl, hB, by omega, Box.new _ _ _, (Ex.refl _).alloc _, fun _ h => h⟩
end
section
open Go.RowKit

structure Dr (bo : Nat) (w w' : World) : Prop where
  ex : ∀ W, Ex W w → W.heap.size ≤ bo → Ex W w'
  box : ∀ b t cs, b ≠ bo → Box w b t cs → Box w' b t cs
  own : ∀ lo e size v n cs, e ≠ 110 → Own w lo e size v n cs → Own w' lo e size v n cs
  size : w.heap.size ≤ w'.heap.size
theorem Dr.of_ex {bo : Nat} {w w' : World} (h : Ex w w') : Dr bo w w' := ⟨fun W hW _ => hW.trans h, fun _ _ _ _ hb => hb.ex h, fun _ _ _ _ _ _ _ ho => Own.ex ho h, h.size⟩
theorem Dr.refl (bo : Nat) (w : World) : Dr bo w w := Dr.of_ex (Ex.refl w)
theorem Dr.trans {bo : Nat} {w w1 w2 : World} (h : Dr bo w w1) (k : Dr bo w1 w2) : Dr bo w w2 :=
  ⟨fun W hW hl => k.ex W (h.ex W hW hl) hl, fun b t cs hne hb => k.box b t cs hne (h.box b t cs hne hb), fun _ _ _ _ _ _ he ho => k.own _ _ _ _ _ _ he (h.own _ _ _ _ _ _ he ho), Nat.le_trans h.size k.size⟩
theorem Dr.alloc {bo : Nat} {w w1 : World} (h : Dr bo w w1) (o : Obj) : Dr bo w (w1.alloc o) := h.trans (Dr.of_ex ((Ex.refl _).alloc o))
theorem Dr.setNew {bo : Nat} {w w1 : World} (h : Dr bo w w1) {p : Addr} (hp : w.heap.size ≤ p.block) (u : Value) : Dr bo w (w1.setCell p u) :=
  ⟨fun W hW hl => (h.ex W hW hl).setCell (Nat.le_trans hW.size hp) u, fun b t cs hne hb => (h.box b t cs hne hb).far (by have := hb.lt; omega) u,
   fun lo e size v n cs he ho => Own.setCell (h.own _ _ _ _ _ _ he ho) (fun g hg e => by have := (Own.lt ho g hg).2; omega) u, by have := h.size; simpa using this⟩
def Rdr (w : World) (bo : Nat) (A : Option Addr) (n cap a : Nat) : Prop := Box w bo 110 #[.slice A n cap, .int .i64 (a : Int)]
def PickD (m : Int) (bo : Nat) (A : Option Addr) (n cap a : Nat) (w : World) : Ending → World → Prop := fun e w' =>
  ∃ v : Int, e = .returned (.int .i64 v) ∧ 0 ≤ v ∧ v < m ∧ Dr bo w w' ∧ Rdr w' bo A n cap (a + 1)
theorem To {W : World} {A : Option Addr} {bs : List Int} (hB : Vd W A bs) (hl : bs.length ≤ 2000) (bo cap a : Nat) (m : Int) (w : World) (hE : Ex W w) (hbo : W.heap.size ≤ bo)
    (hb : Rdr w bo A bs.length cap a) (ha : a ≤ 1099511627776) (hm : 1 ≤ m) (hm2 : m ≤ 1099511627776) :
    Calls Tryz.prog 42 #[.pointer (some ⟨bo, 0, none⟩), .int .i64 m] w (PickD m bo A bs.length cap a w) := by
  refine (pick_any bo A bs cap a m w (hB.ex hE) hl hb ?_ ha hm hm2).mono ?_
  · intro b off hA hp
    obtain ⟨b', off', hA', hc⟩ := hB.at hp
    rw [hA] at hA'
    simp only [Option.some.injEq, Addr.mk.injEq, and_true] at hA'
    obtain ⟨rfl, rfl⟩ := hA'
    have := World.block_lt_of_cell? _ _ (hc 0 hp).1
    simp only at this
    omega
  · rintro e w' ⟨v, d, rfl, h0, h1, rfl⟩
    have hbs := hb.set_ 1 (.int .i64 ((a : Int) + 1))
    refine ⟨v, rfl, h0, h1, ⟨fun W' hW hw => (hW.setCell hw _).drewN d, fun b t cs h1 h3 => ?_, fun lo e size v n cs he ho => ?_, ?_⟩, ?_⟩
    · exact (h3.far (p := ⟨bo, 1, none⟩) h1 _).ex ((Ex.refl _).drewN d)
    · exact Own.ex (Own.setCell (p := ⟨bo, 1, none⟩) ho (fun g hg e => by subst e; exact Own.ne ho hb he hg.symm) _) ((Ex.refl _).drewN d)
    · simp
    · have := hbs.ex ((Ex.refl _).drewN d)
      unfold Rdr
      simpa using this
def LFrac (bo : Nat) (A : Option Addr) (n cap a : Nat) (w : World) : Ending → World → Prop := fun e w' =>
  ∃ (x : Fr) (a' : Nat), e = .returned x.v ∧ a' ≤ a + 5 ∧ Dr bo w w' ∧ Rdr w' bo A n cap a'
theorem mul_pick {p q : Int} (h1 : 0 ≤ p) (h2 : p < 9) (h3 : 0 ≤ q) (h4 : q < 2) : -4 ≤ (p - 4) * q ∧ (p - 4) * q ≤ 4 := by
  have : q = 0 ∨ q = 1 := by omega
  rcases this with rfl | rfl <;> omega

theorem Jf {W : World} {A : Option Addr} {bs : List Int} (hB : Vd W A bs) (hl : bs.length ≤ 2000) (bo cap a : Nat) (w : World) (hE : Ex W w) (hbo : W.heap.size ≤ bo)
    (hb : Rdr w bo A bs.length cap a) (ha : a ≤ 1000000) :
    Calls Tryz.prog 163 #[.pointer (some ⟨bo, 0, none⟩)] w (LFrac bo A bs.length cap a w) := by
  have hpk := fun a m w hE hb ha hm hm2 => To hB hl bo cap a m w hE hbo hb ha hm hm2
  have HP := Gv hpk
  clear hpk hB hl
  go_enter Tryz.func163, Tryz.ntmps163
  go_wp2_with fail
  refine (HP.out a 40 _ (hE.alloc _) (hb.alloc _) (by omega) (by omega) (by omega)).mono ?_
  rintro e w1 ⟨v, rfl, hv0, hv1, hd, hb1⟩
  have hzb := hb.lt
  have bR := hd.box _ _ _ (by omega) (Box.new w #[.int .i64 0, .int .i64 0, .int .i64 0] 32)
  replace hd := (Dr.of_ex ((Ex.refl w).alloc _)).trans hd
  have cR := bR.cell
  have fR := bR.frozen
  have fin : ∀ x1 x2 x3 : Int, LFrac bo A bs.length cap a w (.returned (.agg #[.int .i64 x1, .int .i64 x2, .int .i64 x3])) (((w1.setCell ⟨w.heap.size, 0, none⟩ (.int .i64 x1)).setCell ⟨w.heap.size, 1, none⟩ (.int .i64 x2)).setCell ⟨w.heap.size, 2, none⟩ (.int .i64 x3)) := fun x1 x2 x3 =>
    ⟨⟨x1, x2, x3⟩, a + 1, rfl, by omega, ((hd.setNew (Nat.le_refl _) _).setNew (Nat.le_refl _) _).setNew (Nat.le_refl _) _, ((hb1.far (p := ⟨w.heap.size, 0, none⟩) (by simp only; omega) _).far (p := ⟨w.heap.size, 1, none⟩) (by simp only; omega) _).far (p := ⟨w.heap.size, 2, none⟩) (by simp only; omega) _⟩
  have HF := Gv fin
  clear fin
  rcases (by omega : v = 0 ∨ v = 1 ∨ v = 2 ∨ v = 3 ∨ 4 ≤ v) with rfl | rfl | rfl | rfl | hv
  · go_wp2
    refine Gq (v := .agg #[.int .i64 2, .int .i64 4, .int .i64 2]) ?_ rfl (HF.out _ _ _)
    simp [results, Tryz.results163, go_sem, cR]
  · go_wp2
    refine Gq (v := .agg #[.int .i64 1, .int .i64 0, .int .i64 0]) ?_ rfl (HF.out _ _ _)
    simp [results, Tryz.results163, go_sem, cR]
  · go_wp2
    refine Gq (v := .agg #[.int .i64 2000000000, .int .i64 1, .int .i64 7]) ?_ rfl (HF.out _ _ _)
    simp [results, Tryz.results163, go_sem, cR]
  · go_wp2
    refine Gq (v := .agg #[.int .i64 0, .int .i64 0, .int .i64 1]) ?_ rfl (HF.out _ _ _)
    simp [results, Tryz.results163, go_sem, cR]
  · have t0 : (v == 0) = false := by simp; omega
    have t1 : (v == 1) = false := by simp; omega
    have t2 : (v == 2) = false := by simp; omega
    have t3 : (v == 3) = false := by simp; omega
    clear HF
    go_wp2_with fail
    refine (HP.out (a + 1) 13 _ (hd.ex W hE hbo) hb1 (by omega) (by omega) (by omega)).mono ?_
    rintro e w2 ⟨u1, rfl, hu10, hu11, hd2, hb2⟩
    replace bR := hd2.box _ _ _ (by omega) bR
    replace hd := hd.trans hd2
    clear hd2 cR fR t0 t1 t2 t3
    go_wp2_with fail
    refine (HP.out (a + 1 + 1) 9 _ (hd.ex W hE hbo) hb2 (by omega) (by omega) (by omega)).mono ?_
    rintro e w3 ⟨u2, rfl, hu20, hu21, hd2, hb3⟩
    replace bR := hd2.box _ _ _ (by omega) bR
    replace hd := hd.trans hd2
    clear hd2 hb2
    go_wp2_with fail
    refine (HP.out (a + 1 + 1 + 1) 2 _ (hd.ex W hE hbo) hb3 (by omega) (by omega) (by omega)).mono ?_
    rintro e w4 ⟨u3, rfl, hu30, hu31, hd2, hb4⟩
    replace bR := hd2.box _ _ _ (by omega) bR
    replace hd := hd.trans hd2
    clear hd2 hb3
    have hm := mul_pick hu20 hu21 hu30 hu31
    obtain ⟨y, hy⟩ : ∃ y, (u2 - 4) * u3 = y := ⟨_, rfl⟩
    rw [hy] at hm
    go_wp2_with fail
    refine (HP.out (a + 1 + 1 + 1 + 1) 5 _ (hd.ex W hE hbo) hb4 (by omega) (by omega) (by omega)).mono ?_
    rintro e w5 ⟨u4, rfl, hu40, hu41, hd2, hb5⟩
    replace bR := hd2.box _ _ _ (by omega) bR
    replace hd := hd.trans hd2
    clear hd2 hb4
    have l1 := fun w => Sc (u1 - 6) y (1 + u4) w (by omega) (by omega) (by omega)
    generalize flow (u1 - 6) y (1 + u4) = r at l1
    obtain ⟨⟨r1, r2, r3⟩, ok⟩ := r
    replace l1 := fun w => Yu.spell (l1 w)
    have L1 := Gv l1
    clear l1
    go_wp2_with fail
    refine (L1.out _).mono ?_
    rintro e w6 ⟨rfl, hx⟩
    replace bR := bR.ex hx
    replace hd := hd.trans (Dr.of_ex hx)
    have hb6 : Rdr w6 bo A bs.length cap (a + 1 + 1 + 1 + 1 + 1) := Box.ex hb5 hx
    have cR := bR.cell
    have fR := bR.frozen
    have zR := bR.lt
    clear hx hb5 hy
    go_wp2
    refine Gq (v := .agg #[.int .i64 r1, .int .i64 r2, .int .i64 r3]) ?_ rfl ⟨⟨r1, r2, r3⟩, a + 1 + 1 + 1 + 1 + 1, rfl, by omega, ?_, ?_⟩
    · simp [results, Tryz.results163, go_sem, cR, zR]
    · repeat' (first
        | exact hd
        | refine Dr.alloc ?_ _
        | refine Dr.setNew ?_ (by simp) _)
    · unfold Rdr at hb6 ⊢
      repeat' (first
        | exact hb6
        | refine Box.alloc ?_ _
        | refine Box.far ?_ (by simp <;> omega) _)
end
end Go.Proofs.YtmmjkchjgeklnaaGreatDoor
