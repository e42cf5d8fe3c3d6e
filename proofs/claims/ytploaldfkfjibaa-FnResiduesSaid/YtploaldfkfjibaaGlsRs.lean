/-
  Walks: GlassResidues, the reference's.
-/
import Derived.Test.YtploaldfkfjibaaGlsZ
import Derived.Deep.RegionLaw
namespace Go.Proofs.Ytploaldfkfjibaa
open Go.RowKit

def gresAt (c : Nat) (q : List Int) (i k : Nat) : Int := gres (q.getD (i * c + k) 0) (q.getD (i * c + k + 1) 0) (q.getD (i * c + k + 1 + c) 0) (q.getD (i * c + k + c) 0)
def gresRow (c : Nat) (q : List Int) (i j : Nat) : List Int := (List.range j).map (gresAt c q i)
def gresRows (c : Nat) (q : List Int) (i : Nat) : List Int := (List.range i).flatMap fun i => gresRow c q i (c - 1)
def gresidues (r c : Int) (q : List Int) : List Int := if gwrapped r c q then gresRows c.toNat q (r.toNat - 1) else []
theorem gresRow_succ (c : Nat) (q : List Int) (i j : Nat) : gresRow c q i (j + 1) = gresRow c q i j ++ [gresAt c q i j] := by
  unfold gresRow
  rw [List.range_succ, List.map_append]
  rfl
theorem gresRows_succ (c : Nat) (q : List Int) (i : Nat) : gresRows c q (i + 1) = gresRows c q i ++ gresRow c q i (c - 1) := by
  unfold gresRows
  rw [List.range_succ, List.flatMap_append]
  simp
theorem gresRow_len (c : Nat) (q : List Int) (i j : Nat) : (gresRow c q i j).length = j := by simp [gresRow]
theorem gresRows_len (c : Nat) (q : List Int) : ∀ i, (gresRows c q i).length = i * (c - 1)
  | 0 => by simp [gresRows]
  | i + 1 => by rw [gresRows_succ, List.length_append, gresRows_len c q i, gresRow_len, Nat.succ_mul]

/-- An append at a step of a region, where no draw stands behind the new block. -/
theorem step_appI0 {ops : Array Oper} {o : Oper} {a : Act} {K : Act → World → Prop} {Q : Exit → Act → World → Prop} {E : Prop} (hgd : o.guard = none) (s x : Operand) (w : World)
    (ho : o.op = .call { callee := .builtin .append, args := #[s, x], argTypes := #[22, 22] })
    (lo : Nat) (A : Option Addr) (cap : Nat) (xs : List Int) (n : Int) (hs : a.eval s = .slice A xs.length cap) (hown : OwnI w lo A cap xs)
    (hx : a.eval x = .slice (some ⟨w.heap.size, 0, none⟩) 1 1) (hlen : xs.length ≤ 1048576) (hlo : lo ≤ w.heap.size)
    (h : ∀ A' cap' w', OwnI w' lo A' cap' (xs ++ [n]) → Keeps lo 3 w w' → K (a.put o.dst (.slice A' (xs.length + 1) cap')) w') :
    if Region.wanted o (yielded ops a.tmps) = true then Oper.wp Try.prog o a (w.alloc (.cells #[.int .i64 n] 3)) K Q else E := by
  have hw : Region.wanted o (yielded ops a.tmps) = true := by simp [Region.wanted, hgd]
  rw [if_pos hw]
  exact wp_appI s x ho lo A cap xs n hs hown _ _ hx ((Ex.refl w).alloc _) (Box.new w _ _) hlen hlo h

/-- A call hands back integers in new memory, and whether there are any. -/
def GotIB (w : World) (ok : Bool) (zs : List Int) (e : Ending) (w' : World) : Prop :=
  ∃ A cap, e = .returned (.tuple #[.slice A zs.length cap, .bool ok]) ∧ OwnI w' w.heap.size A cap zs ∧ Ex w w'

set_option maxHeartbeats 1600000 in
theorem sGlassResidues (r c : Int) (A : Option Addr) (q : List Int) (cap : Nat) (w : World) (hI : Ints w A q) (hl : q.length ≤ 1048576) :
    Calls Try.prog 45 #[.agg #[.int .i64 r, .int .i64 c, .slice A q.length cap]] w (GotIB w (gwrapped r c q) (gresidues r c q)) := by
  have hwr := fun A cap w hI => l13Wrapped_any r c A q cap w hI hl
  rcases hv : gwrapped r c q with _ | _
  · simp only [hv] at hwr
    go_enter Try.func45, Try.ntmps45
    go_wp2_with fail
    refine (hwr A cap _ ((hI.alloc _).alloc _)).mono ?_
    rintro e w1 ⟨rfl, hx⟩
    have ho := (ownI_nil (w.alloc (.cells #[.int .i64 r, .int .i64 c, .slice A q.length cap] 27)) w.heap.size (by simp)).ex hx
    have hE := (((Ex.refl w).alloc _).alloc _).trans hx
    simp only [World.size_alloc] at ho
    go_wp2_with fail
    have hg : gresidues r c q = [] := by simp [gresidues, hv]
    rw [hg]
    refine bodyPost_ret (v := .tuple #[.slice (some ⟨w.heap.size + 1, 0, none⟩) 0 0, .bool false]) (by simp [results, Try.results45, go_sem, *]) rfl ?_
    exact ⟨_, 0, rfl, ho, hE⟩
  · simp only [hv] at hwr
    have hq4 := gwrapped_getD0 hv
    obtain ⟨rn, cn, rfl, rfl, hr1, hr2, hc1, hc2, hlen, hl64⟩ := gvalid_nat (gwrapped_valid hv)
    have HL := Lib.hid hlen
    clear hlen
    have hg : gresidues rn cn q = gresRows cn q (rn - 1) := by simp [gresidues, hv]
    rw [hg]
    clear hg hv
    go_enter Try.func45, Try.ntmps45
    go_wp2_with fail
    refine (hwr A cap _ ((hI.alloc _).alloc _)).mono ?_
    rintro e w1 ⟨rfl, hx⟩
    have hown := (ownI_nil (w.alloc (.cells #[.int .i64 rn, .int .i64 cn, .slice A q.length cap] 27)) w.heap.size (by simp)).ex hx
    have hE := (((Ex.refl w).alloc _).alloc _).trans hx
    simp only [World.size_alloc] at hown
    have b1 := ((Box.new w #[.int .i64 rn, .int .i64 cn, .slice A q.length cap] 27).alloc _).ex hx
    have c1 := b1.cell
    clear hx hwr
    go_wp2_with fail
    clear c1
    go_loopw [4, 6] (fun v i wr => ∃ (k : Nat) (B : Option Addr) (cb : Nat) (ys : List Int), k + 1 ≤ rn ∧ i = .int .i64 k ∧ v = .slice B ys.length cb ∧ Hid (ys = gresRows cn q k) ∧ OwnI wr w.heap.size B cb ys ∧ Ex w wr ∧
        Box wr w.heap.size 27 #[.int .i64 rn, .int .i64 cn, .slice A q.length cap]) (fun _ i _ => rn - (intOf i).toNat)
    case atStart => exact ⟨0, _, 0, [], by omega, rfl, rfl, show _ = _ by simp [gresRows], hown, hE, b1⟩
    case round =>
      clear hown hE b1
      obtain ⟨k, B, cb, ys, hk, rfl, rfl, HY, hown, hEr, b1r⟩ := hrel
      have c1 := b1r.cell
      have HO := Lib.hid hown
      clear hown
      by_cases hlt : k + 1 < rn
      · go_wp2_with fail
        obtain ⟨wo, rfl⟩ : ∃ wo : World, wo = wr := ⟨_, rfl⟩
        clear c1
        rw [show decide ((k : Int) + 1 < (rn : Int)) = true from decide_eq_true (by omega)]
        go_loopw [4, 7] (fun v i wr => ∃ (j : Nat) (B : Option Addr) (cb : Nat) (ys : List Int), j + 1 ≤ cn ∧ i = .int .i64 j ∧ v = .slice B ys.length cb ∧ Hid (ys = gresRows cn q k ++ gresRow cn q k j) ∧ OwnI wr w.heap.size B cb ys ∧ Ex w wr ∧
            Box wr w.heap.size 27 #[.int .i64 rn, .int .i64 cn, .slice A q.length cap]) (fun _ i _ => cn - (intOf i).toNat)
        case atStart => exact ⟨0, B, cb, ys, by omega, rfl, rfl, show _ = _ by rw [HY.out]; simp [gresRow], HO.out, hEr, b1r⟩
        case round =>
          clear hEr b1r HO HY
          obtain ⟨j, B, cb, ys, hj, rfl, rfl, HY, hown, hEr, b1r⟩ := hrel
          have c1 := b1r.cell
          have HO := Lib.hid hown
          clear hown
          by_cases hjt : j + 1 < cn
          · have hix1 : k * cn + j < q.length := by rw [HL.out]; exact idx_lt (by omega) (by omega)
            have hix2 : k * cn + j + 1 < q.length := by rw [HL.out]; exact idx_lt (show k < rn by omega) hjt
            have hix3 : k * cn + j + 1 + cn < q.length := by
              have := idx_lt hlt hjt
              rw [HL.out]
              rw [Nat.succ_mul] at this
              omega
            have hix4 : k * cn + j + cn < q.length := by omega
            have hm1 : (k : Int) * cn = ((k * cn : Nat) : Int) := (Int.natCast_mul _ _).symm
            obtain ⟨P, hP⟩ : ∃ P : Nat, P = k * cn := ⟨_, rfl⟩
            rw [← hP] at hm1 hix1 hix2 hix3 hix4
            have HP := Lib.hid hP
            clear hP
            obtain ⟨b, off, rfl, hc⟩ := hI.at (by omega)
            have kw1 := hc _ hix1
            have kw2 := hc _ hix2
            have kw3 := hc _ hix3
            have kw4 := hc _ hix4
            obtain ⟨p1, q1⟩ := hq4 _ hix1
            obtain ⟨p2, q2⟩ := hq4 _ hix2
            obtain ⟨p3, q3⟩ := hq4 _ hix3
            obtain ⟨p4, q4⟩ := hq4 _ hix4
            clear hc
            obtain ⟨x1, e1⟩ : ∃ x, x = q.getD (P + j) 0 := ⟨_, rfl⟩
            obtain ⟨x2, e2⟩ : ∃ x, x = q.getD (P + j + 1) 0 := ⟨_, rfl⟩
            obtain ⟨x3, e3⟩ : ∃ x, x = q.getD (P + j + 1 + cn) 0 := ⟨_, rfl⟩
            obtain ⟨x4, e4⟩ : ∃ x, x = q.getD (P + j + cn) 0 := ⟨_, rfl⟩
            rw [← e1] at kw1 p1 q1
            rw [← e2] at kw2 p2 q2
            rw [← e3] at kw3 p3 q3
            rw [← e4] at kw4 p4 q4
            have HR : Hid (gresAt cn q k j = gres x1 x2 x3 x4) := by
              show gresAt cn q k j = _
              unfold gresAt
              rw [← HP.out, ← e1, ← e2, ← e3, ← e4]
            have hyl : ys.length ≤ 1048576 := by
              rw [HY.out, List.length_append, gresRows_len, gresRow_len]
              have : k * (cn - 1) ≤ 8 * 8 := Nat.mul_le_mul (by omega) (by omega)
              omega
            clear e1 e2 e3 e4
            rw [show P + j + 1 + cn = P + j + cn + 1 by omega] at kw3 hix3
            have k1 := hEr.get kw1
            have k2 := hEr.get kw2
            have k3 := hEr.get kw3
            have k4 := hEr.get kw4
            go_wp2_with fail
            have t1 : ((P : Int) + j).toNat = P + j := by omega
            have t2 : ((P : Int) + j + 1).toNat = P + j + 1 := by omega
            have t3 : ((P : Int) + j + cn + 1).toNat = P + j + cn + 1 := by omega
            have t4 : ((P : Int) + j + cn).toNat = P + j + cn := by omega
            have n1 : 0 ≤ (P : Int) + j ∧ (P : Int) + j < q.length := by omega
            have n2 : 0 ≤ (P : Int) + j + 1 ∧ (P : Int) + j + 1 < q.length := by omega
            have n3 : 0 ≤ (P : Int) + j + cn + 1 ∧ (P : Int) + j + cn + 1 < q.length := by omega
            have n4 : 0 ≤ (P : Int) + j + cn ∧ (P : Int) + j + cn < q.length := by omega
            have w1 := IntWalk.i64_in ((P : Int) + j + 1) (by omega)
            have w2 := IntWalk.i64_in ((P : Int) + j + cn) (by omega)
            have w3 := IntWalk.i64_in ((P : Int) + j + cn + 1) (by omega)
            have zs := b1r.lt
            have zq := World.block_lt_of_cell? _ _ k1
            have c2 : wr.cell? ⟨w.heap.size, 2, none⟩ = some (.slice (some ⟨b, off, none⟩) q.length cap) := c1 2
            have res := fun w' => residue_any x1 x2 x3 x4 w' ⟨p1, q1⟩ ⟨p2, q2⟩ ⟨p3, q3⟩ ⟨p4, q4⟩
            go_region_held3 (fun w' => w'.cell? ⟨w.heap.size, 2, none⟩ = some (.slice (some ⟨b, off, none⟩) q.length cap) ∧ w'.cell? ⟨b, off + (P + j), none⟩ = some (.int .i64 x1) ∧ w'.cell? ⟨b, off + (P + j + 1), none⟩ = some (.int .i64 x2) ∧ w'.cell? ⟨b, off + (P + j + cn + 1), none⟩ = some (.int .i64 x3) ∧ w'.cell? ⟨b, off + (P + j + cn), none⟩ = some (.int .i64 x4)) (go_keep) (first | (refine step_appI0 rfl _ _ wn rfl w.heap.size B cb ys (gres x1 x2 x3 x4) rfl (HO.out.ex hxn) rfl hyl hsn ?_; intro B' cb' w2 hown2 hk2; have hE2 := hk2.ex w (hEr.trans hxn) (Nat.le_refl _); have b2 := hk2.box _ _ _ (b1r.ex hxn) (by decide); have d2 : w2.cell? ⟨w.heap.size, 2, none⟩ = some (.slice (some ⟨b, off, none⟩) q.length cap) := b2.cell 2; have d3 := hE2.get kw1; have d4 := hE2.get kw2; have d5 := hE2.get kw3; have d6 := hE2.get kw4) | (go_at_call 70; (first | (refine (res wr).mono ?_) | (refine (res wr.drew).mono ?_)); rintro e wn ⟨rfl, oo, hw⟩; have hxn : Ex wr wn := (by first | (rw [hw]; exact (Ex.refl _).alloc _) | (rw [hw]; exact ((Ex.refl _).drew).alloc _)); clear hw; have d2 := hxn.get c2; have d3 := hxn.get k1; have d4 := hxn.get k2; have d5 := hxn.get k3; have d6 := hxn.get k4; have hsn := Nat.le_trans hEr.size hxn.size))
            clear t1 t2 t3 t4 n1 n2 n3 n4 w1 w3 res k1 k2 k3 k4 kw1 kw2 kw3 kw4 d2 d3 d4 d5 d6 c1 c2 hk2 b1r hEr HO
            go_wp2
            go_roundw
            case rel =>
              refine ⟨j + 1, B', cb', ys ++ [gres x1 x2 x3 x4], by omega, by go_num, by simp, ?_, hown2, hE2, b2⟩
              show _ = _
              rw [gresRow_succ, ← List.append_assoc, ← HY.out, HR.out]
            case measure => simp [intOf]; omega
          · go_wp2
            go_roundw
            case rel =>
              obtain rfl : cn = j + 1 := by omega
              refine ⟨k + 1, B, cb, ys, by omega, by go_num, rfl, ?_, HO.out, hEr, b1r⟩
              show _ = _
              rw [gresRows_succ, HY.out]
              rfl
            case measure => simp [intOf]; omega
      · obtain rfl : rn = k + 1 := by omega
        go_wp2
        have hy := HY.out
        subst hy
        refine bodyPost_ret (v := .tuple #[.slice B (gresRows cn q k).length cb, .bool true]) (by simp [results, Try.results45, go_sem, *]) rfl ?_
        exact ⟨B, cb, rfl, HO.out, hEr⟩
end Go.Proofs.Ytploaldfkfjibaa
