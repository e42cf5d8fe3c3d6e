/-
  Walks: the reader of codes that all draws use: l6Open, pick. What a draw gives is not told: only its bounds.
-/
import Derived.Test.YtklkfkgpjjpaiaaGreatDoorLib
import Derived.Laws.BitsAllLaws
set_option linter.unusedSimpArgs false
set_option linter.unusedVariables false
namespace Go.Proofs.YtklkfkgpjjpaiaaGreatDoor
open Go.RowKit

theorem xor63 (a b : Nat) (ha : a < 9223372036854775808) (hb : b < 9223372036854775808) : bits .xor .i64 (a : Int) (b : Int) = ((a ^^^ b : Nat) : Int) := by
  have hx : a ^^^ b < 2 ^ 63 := Nat.xor_lt_two_pow (by omega) (by omega)
  show IntKind.i64.wrap ((BitVec.ofInt 64 (a : Int) ^^^ BitVec.ofInt 64 (b : Int)).toNat : Int) = _
  rw [BitVec.toNat_xor, ofInt_u64 a (by omega), ofInt_u64 b (by omega)]
  simp [IntKind.wrap, IntKind.bits, IntKind.signed]
  omega
theorem xor63_bd {x : Int} (h0 : 0 ≤ x) (h1 : x < 9223372036854775808) : ∃ m : Nat, bits .xor .i64 x (x / 64) = (m : Int) ∧ m < 9223372036854775808 := by
  obtain ⟨n, rfl⟩ := Int.eq_ofNat_of_zero_le h0
  have hd : (n : Int) / 64 = ((n / 64 : Nat) : Int) := by omega
  rw [hd, xor63 n (n / 64) (by omega) (by omega)]
  exact ⟨_, rfl, Nat.xor_lt_two_pow (n := 63) (by omega) (by omega)⟩
theorem tmod_nat (a b : Nat) : (a : Int).tmod b = ((a % b : Nat) : Int) := rfl
theorem tdiv_nat (a b : Nat) : (a : Int).tdiv b = ((a / b : Nat) : Int) := rfl
/-- A slice of bytes that reads as bs. -/
def Byts (w : World) (A : Option Addr) (bs : List Int) : Prop := Slc w A (bs.map (Value.int .u8)) ∧ ∀ n ∈ bs, 0 ≤ n ∧ n ≤ 255
section
variable {w w1 : World} {A : Option Addr} {bs : List Int}
theorem Byts.ex (h : Byts w A bs) (he : Ex w w1) : Byts w1 A bs := ⟨h.1.ex he, h.2⟩
theorem Byts.alloc (h : Byts w A bs) (o : Obj) : Byts (w.alloc o) A bs := ⟨h.1.alloc o, h.2⟩
theorem Byts.at (h : Byts w A bs) (hp : 0 < bs.length) : ∃ b off, A = some ⟨b, off, none⟩ ∧ ∀ k, k < bs.length → w.cell? ⟨b, off + k, none⟩ = some (.int .u8 (bs.getD k 0)) ∧ 0 ≤ bs.getD k 0 ∧ bs.getD k 0 ≤ 255 := by
  obtain ⟨b, off, rfl, hc⟩ := h.1 (by simpa using hp)
  refine ⟨b, off, rfl, fun k hk => ⟨by rw [hc k (by simpa using hk)]; simp [hk], ?_⟩⟩
  have := h.2 bs[k] (List.getElem_mem hk)
  simpa [hk] using this
theorem Byts.take (h : Byts w A bs) (n : Nat) : Byts w A (bs.take n) := by
  refine ⟨fun hp => ?_, fun m hm => h.2 m (List.mem_of_mem_take hm)⟩
  have hp' : 0 < n ∧ 0 < bs.length := by simp at hp; omega
  obtain ⟨b, off, rfl, hc⟩ := h.1 (by simpa using hp'.2)
  refine ⟨b, off, rfl, fun k hk => ?_⟩
  have hk' : k < n ∧ k < bs.length := by simp at hk; omega
  rw [hc k (by simpa using hk'.2)]
  simp [hk'.1, hk'.2]
end

/-- What a pick leaves: the reader's place is one further; orders were drawn. -/
def Picked (m : Int) (w : World) (bo : Nat) (a : Nat) (e : Ending) (w' : World) : Prop :=
  ∃ (v : Int) (d : Nat), e = .returned (.int .i64 v) ∧ 0 ≤ v ∧ v < m ∧ w' = (w.setCell ⟨bo, 1, none⟩ (.int .i64 (a + 1))).drewN d

set_option maxHeartbeats 800000 in
theorem pick_any (bo : Nat) (A : Option Addr) (bs : List Int) (cap : Nat) (a : Nat) (m : Int) (w : World) (hB : Byts w A bs) (hl : bs.length ≤ 2000) (hb : Box w bo 57 #[.slice A bs.length cap, .int .i64 a])
    (hne : ∀ b off, A = some ⟨b, off, none⟩ → 0 < bs.length → b ≠ bo) (ha : a ≤ 1099511627776) (hm : 1 ≤ m) (hm2 : m ≤ 1099511627776) :
    Calls Tryz.prog 20 #[.pointer (some ⟨bo, 0, none⟩), .int .i64 m] w (Picked m w bo a) := by
  have c := hb.cell
  have f := hb.frozen
  have hw := IntWalk.i64_in ((a : Int) + 1) (by omega)
  rcases h0 : ((bs.length : Int) == 0) with _ | _
  case true =>
    go_enter Tryz.func20, Tryz.ntmps20
    go_wp2
    go_ret
    exact ⟨0, 0, rfl, by omega, by omega, rfl⟩
  have h0' : bs.length ≠ 0 := by simpa using h0
  obtain ⟨b, off, rfl, hc⟩ := hB.at (by omega)
  have hbne := hne b off rfl (by omega)
  clear hne hB
  by_cases h1 : a < bs.length
  · obtain ⟨hc1, hv1, hv2⟩ := hc a h1
    obtain ⟨x, hx⟩ : ∃ x, x = bs.getD a 0 := ⟨_, rfl⟩
    rw [← hx] at hc1 hv1 hv2
    have hwx := IntWalk.wrap64_in x (by omega)
    clear hc hx
    go_enter Tryz.func20, Tryz.ntmps20
    go_wp2
    go_ret
    exact ⟨x % m, 0, rfl, Int.emod_nonneg _ (by omega), Int.emod_lt_of_pos _ (by omega), rfl⟩
  · obtain ⟨j1, hj1, hj1b⟩ : ∃ j : Nat, (a : Int).tmod bs.length = j ∧ j < bs.length := ⟨a % bs.length, tmod_nat _ _, Nat.mod_lt _ (by omega)⟩
    obtain ⟨j2, hj2, hj2b⟩ : ∃ j : Nat, ((a : Int) * 7 + 3).tmod bs.length = j ∧ j < bs.length :=
      ⟨(a * 7 + 3) % bs.length, by rw [← tmod_nat]; simp, Nat.mod_lt _ (by omega)⟩
    obtain ⟨d, hd, hdb⟩ : ∃ d : Nat, (a : Int).tdiv bs.length = d ∧ d ≤ a := ⟨a / bs.length, tdiv_nat _ _, Nat.div_le_self _ _⟩
    obtain ⟨hc1, hv1, hv2⟩ := hc j1 hj1b
    obtain ⟨hc2, hv3, hv4⟩ := hc j2 hj2b
    obtain ⟨x, hx⟩ : ∃ x, x = bs.getD j1 0 := ⟨_, rfl⟩
    obtain ⟨y, hy⟩ : ∃ y, y = bs.getD j2 0 := ⟨_, rfl⟩
    rw [← hx] at hc1 hv1 hv2
    rw [← hy] at hc2 hv3 hv4
    have hwx := IntWalk.wrap64_in x (by omega)
    have hwy := IntWalk.wrap64_in y (by omega)
    have g1 := IntWalk.i64_in (x * 131) (by omega)
    have g2 := IntWalk.i64_in ((a : Int) * 7) (by omega)
    have g3 := IntWalk.i64_in ((a : Int) * 7 + 3) (by omega)
    have g4 := IntWalk.i64_in (y * 1117) (by omega)
    have g5 := IntWalk.i64_in (x * 131 + y * 1117) (by omega)
    have g6 := IntWalk.i64_in ((a : Int) * 29) (by omega)
    have g7 := IntWalk.i64_in (x * 131 + y * 1117 + (a : Int) * 29) (by omega)
    have g8 := IntWalk.i64_in ((d : Int) * 53) (by omega)
    have g9 := IntWalk.i64_in (x * 131 + y * 1117 + (a : Int) * 29 + (d : Int) * 53) (by omega)
    clear hc hx hy
    go_enter Tryz.func20, Tryz.ntmps20
    go_wp2
    go_quiet (fail)
    clear g1 g2 g3 g4 g5 g6 g7 g8 g9
    obtain ⟨z, hz, hzb⟩ := xor63_bd (x := x * 131 + y * 1117 + (a : Int) * 29 + (d : Int) * 53) (by omega) (by omega)
    go_wp2
    go_ret
    exact ⟨(z : Int) % m, _, rfl, Int.emod_nonneg _ (by omega), Int.emod_lt_of_pos _ (by omega), rfl⟩

/-- What a draw leaves: worlds that ended below the reader, and boxes that are neither the reader nor rows of integers. -/
structure Pk (bo : Nat) (w w' : World) : Prop where
  ex : ∀ W, Ex W w → W.heap.size ≤ bo → Ex W w'
  box : ∀ b t cs, b ≠ bo → 3 ≠ t → Box w b t cs → Box w' b t cs
  size : w.heap.size ≤ w'.heap.size
theorem Pk.trans {bo : Nat} {w w1 w2 : World} (h : Pk bo w w1) (k : Pk bo w1 w2) : Pk bo w w2 :=
  ⟨fun W hW hl => k.ex W (h.ex W hW hl) hl, fun b t cs h1 h2 h3 => k.box b t cs h1 h2 (h.box b t cs h1 h2 h3), Nat.le_trans h.size k.size⟩
theorem Pk.of_ex {bo : Nat} {w w1 : World} (h : Ex w w1) : Pk bo w w1 := ⟨fun _ hW _ => hW.trans h, fun _ _ _ _ _ hb => hb.ex h, h.size⟩
theorem Pk.of_keeps {bo lo : Nat} {w w1 : World} (h : Keeps lo 3 w w1) (hl : bo ≤ lo) : Pk bo w w1 :=
  ⟨fun W hW hw => h.ex W hW (Nat.le_trans hw hl), fun b t cs _ h2 h3 => h.box b t cs h3 h2, h.size⟩
def PickedR (m : Int) (bo : Nat) (A : Option Addr) (n cap a : Nat) (w : World) (e : Ending) (w' : World) : Prop :=
  ∃ v : Int, e = .returned (.int .i64 v) ∧ 0 ≤ v ∧ v < m ∧ Pk bo w w' ∧ Box w' bo 57 #[.slice A n cap, .int .i64 ((a + 1 : Nat) : Int)] ∧
    (∀ lo B cb ys, OwnI w lo B cb ys → OwnI w' lo B cb ys) ∧ w'.heap.size = w.heap.size
theorem pick_draw {W : World} {A : Option Addr} {bs : List Int} (hB : Byts W A bs) (hl : bs.length ≤ 2000) (bo cap a : Nat) (m : Int) (w : World) (hE : Ex W w) (hbo : W.heap.size ≤ bo)
    (hb : Box w bo 57 #[.slice A bs.length cap, .int .i64 a]) (ha : a ≤ 1099511627776) (hm : 1 ≤ m) (hm2 : m ≤ 1099511627776) :
    Calls Tryz.prog 20 #[.pointer (some ⟨bo, 0, none⟩), .int .i64 m] w (PickedR m bo A bs.length cap a w) := by
  refine (pick_any bo A bs cap a m w (hB.ex hE) hl hb ?_ ha hm hm2).mono ?_
  · intro b off hA hp
    obtain ⟨b', off', hA', hc⟩ := hB.at hp
    rw [hA] at hA'
    simp only [Option.some.injEq, Addr.mk.injEq, and_true] at hA'
    obtain ⟨rfl, rfl⟩ := hA'
    have := World.block_lt_of_cell? _ _ (hc 0 hp).1
    simp only at this
    omega
  · rintro e w' ⟨v, d, rfl, h0, h1, rfl⟩
    have hbs := hb.set_ 1 (.int .i64 ((a : Int) + 1))
    refine ⟨v, rfl, h0, h1, ⟨fun W' hW hw => (hW.setCell hw _).drewN d, fun b t cs h1 h2 h3 => ?_, ?_⟩, ?_, fun lo B cb ys h => ?_, ?_⟩
    · exact (h3.far (p := ⟨bo, 1, none⟩) h1 _).ex ((Ex.refl _).drewN d)
    · simp
    · have := hbs.ex ((Ex.refl _).drewN d)
      simpa using this
    · exact (Own.setCell (p := ⟨bo, 1, none⟩) h (fun g hg e => by subst e; exact Own.ne h hb (by decide) hg.symm) _).ex ((Ex.refl _).drewN d)
    · simp

/-- What an opened code is: a reader in a new block, at place 0. -/
def OpenR (A : Option Addr) (xs : List Int) (w : World) (e : Ending) (w' : World) : Prop :=
  ∃ (bs : List Int) (cap' : Nat), e = .returned (.pointer (some ⟨w.heap.size, 0, none⟩)) ∧ Byts w A bs ∧ bs.length ≤ 2000 ∧
    Box w' w.heap.size 57 #[.slice A bs.length cap', .int .i64 ((0 : Nat) : Int)] ∧ Ex w w' ∧ ∀ W, Byts W A xs → Byts W A bs
set_option maxHeartbeats 400000 in
theorem l6Open_any (A : Option Addr) (xs : List Int) (cap : Nat) (w : World) (hB : Byts w A xs) (hl : xs.length ≤ 9223372036854775807) (hcap : xs.length ≤ cap) (hcap2 : cap ≤ 9223372036854775807) :
    Calls Tryz.prog 13 #[.slice A xs.length cap] w (OpenR A xs w) := by
  by_cases h : (2000 : Int) < xs.length
  · go_enter Tryz.func13, Tryz.ntmps13
    go_wp2
    go_ret
    have hx : (xs.take 2000).length = 2000 := by simp; omega
    refine ⟨xs.take 2000, cap, rfl, hB.take 2000, by omega, ?_, (Ex.refl _).alloc _, fun W h => h.take 2000⟩
    rw [hx]
    exact Box.new _ _ _
  · go_enter Tryz.func13, Tryz.ntmps13
    go_wp2
    go_ret
    exact ⟨xs, cap, rfl, hB, by omega, Box.new _ _ _, (Ex.refl _).alloc _, fun _ h => h⟩
end Go.Proofs.YtklkfkgpjjpaiaaGreatDoor
