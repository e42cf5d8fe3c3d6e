/-
  Grids sorted by insertion: what is computed, in plain Lean; the laws of appends of several elements and of a copy within one row.
-/
import Derived.Test.YtgkekdiffgmllaaGrdBi
import Derived.Test.YtgkekdiffgmllaaCopyK
namespace Go.Proofs.Ytgkekdiffgmllaa
open Go.RowKit

/-- Where an element is put: the scan from the end. -/
def ipos (g : Fr → Nat) (out : List Fr) (x : Nat) : Nat → Nat
  | 0 => 0
  | p + 1 => if x < g (out.getD p .zero) then ipos g out x p else p + 1
theorem ipos_le (g : Fr → Nat) (out : List Fr) (x : Nat) (p : Nat) : ipos g out x p ≤ p := by
  induction p with
  | zero => exact Nat.le_refl _
  | succ p ih => unfold ipos; split <;> omega
def insAt (out : List Fr) (p : Nat) (f : Fr) : List Fr := out.take p ++ f :: out.drop p
def ins (g : Fr → Nat) (out : List Fr) (f : Fr) : List Fr := insAt out (ipos g out (g f) out.length) f
theorem insAt_len (out : List Fr) (p : Nat) (f : Fr) (h : p ≤ out.length) : (insAt out p f).length = out.length + 1 := by
  unfold insAt
  simp
  omega
theorem ins_len (g : Fr → Nat) (out : List Fr) (f : Fr) : (ins g out f).length = out.length + 1 := insAt_len _ _ _ (ipos_le _ _ _ _)
def isort (g : Fr → Nat) (xs : List Fr) : List Fr := xs.foldl (ins g) []
theorem foldl_ins_len (g : Fr → Nat) (xs ys : List Fr) : (xs.foldl (ins g) ys).length = ys.length + xs.length := by
  induction xs generalizing ys with
  | nil => simp
  | cons x xs ih => rw [List.foldl_cons, ih, ins_len]; simp; omega
theorem isort_len (g : Fr → Nat) (xs : List Fr) : (isort g xs).length = xs.length := by
  unfold isort
  rw [foldl_ins_len]
  simp
theorem isort_snoc (g : Fr → Nat) {xs : List Fr} {k : Nat} (hk : k < xs.length) : isort g (xs.take (k + 1)) = ins g (isort g (xs.take k)) (xs.getD k .zero) := by
  unfold isort
  rw [List.take_succ_eq_append_getElem hk, List.foldl_append]
  simp [hk]
/-- The distance from a, and its place in the order. -/
def gd (a f : Fr) : Nat := (gfar f a).1
theorem gd_le (a f : Fr) : gd a f ≤ Ieee.single.infRung := by
  unfold gd gfar
  split
  · rename_i h
    simp only [Bool.and_eq_true] at h
    exact gfarN_le h.1 h.2
  · exact Nat.zero_le _
def gk (a f : Fr) : Nat := skey (gd a f)
def gsorted (xs : List Fr) (a : Fr) : List Fr × Bool := if gok xs && a.valid then (isort (gk a) xs, true) else ([], false)
def GotFs (w : World) (r : List Fr × Bool) : Ending → World → Prop := fun e w' =>
  ∃ A cap, e = .returned (.tuple #[.slice A r.1.length cap, .bool r.2]) ∧ OwnF w' w.heap.size A cap r.1 ∧ Ex w w'

theorem frCells_append (xs ys : List Fr) : frCells (xs ++ ys) = frCells xs ++ frCells ys := by simp [frCells]
theorem frCells_one (xs : List Fr) : ∀ v ∈ frCells xs, v.oneCell' = true := by
  intro v hv
  unfold frCells at hv
  rw [List.mem_flatMap] at hv
  obtain ⟨x, -, hx⟩ := hv
  simp only [Fr.cs, List.mem_cons, List.not_mem_nil, or_false] at hx
  rcases hx with rfl | rfl | rfl <;> rfl
theorem ins_cells (X Y : List Value) (k : Nat) (hX : X.length = k) (u1 u2 u3 r1 r2 r3 : Value) :
    (((X ++ u1 :: u2 :: u3 :: Y).set k r1).set (k + 1) r2).set (k + 2) r3 = X ++ r1 :: r2 :: r3 :: Y := by
  subst hX
  simp [List.set_append]
/-- The cells behind a copy by one place: one element's cells at p are free. -/
theorem shift_cells (ys : List Fr) (p : Nat) (hp : p ≤ ys.length) (z1 z2 z3 : Value) :
    ∃ u1 u2 u3, (frCells ys ++ [z1, z2, z3]).take ((p + 1) * 3) ++ ((frCells ys ++ [z1, z2, z3]).drop (p * 3)).take ((ys.length + 1 - (p + 1)) * 3) = frCells (ys.take p) ++ u1 :: u2 :: u3 :: frCells (ys.drop p) := by
  have e1 : frCells ys = frCells (ys.take p) ++ frCells (ys.drop p) := by rw [← frCells_append, List.take_append_drop]
  have l1 : (frCells (ys.take p)).length = p * 3 := by rw [frCells_len, List.length_take]; congr 1; omega
  have l2 : (frCells (ys.drop p)).length = (ys.length + 1 - (p + 1)) * 3 := by rw [frCells_len, List.length_drop]; congr 1; omega
  rw [e1, List.append_assoc]
  rw [← l2, ← l1, show (p + 1) * 3 = (frCells (ys.take p)).length + 3 by omega]
  rw [List.drop_left, List.take_left, List.take_length_add_append]
  generalize frCells (ys.drop p) = Y
  match Y with
  | [] => exact ⟨z1, z2, z3, by simp⟩
  | [a] => exact ⟨a, z1, z2, by simp⟩
  | [a, b] => exact ⟨a, b, z1, by simp⟩
  | a :: b :: c :: Y => exact ⟨a, b, c, by simp⟩
theorem insAt_cells (ys : List Fr) (p : Nat) (f : Fr) : frCells (insAt ys p f) = frCells (ys.take p) ++ .int .i64 f.re :: .int .i64 f.im :: .int .i64 f.den :: frCells (ys.drop p) := by
  unfold insAt
  rw [frCells_append]
  rfl

theorem Own.cap {w : World} {lo : Nat} {e : TypeId} {size n n' cap : Nat} {A : Option Addr} {cs : List Value} (h : Own w lo e size (.slice A n' cap) n cs) : n ≤ cap ∧ cap ≤ maxLen := by
  rcases h.2 with ⟨hv, hn⟩ | ⟨g, cap', cur, hv, _, _, h1, h2, _⟩
  · injection hv with _ _ e3
    subst e3
    exact ⟨by omega, Nat.zero_le _⟩
  · injection hv with _ _ e3
    subst e3
    exact ⟨h1, h2⟩
theorem addr_add (g o j : Nat) : (⟨g, o, none⟩ : Addr).add j = ⟨g, o + j, none⟩ := by unfold Addr.add; split <;> simp_all

/-- 'copy(out[p+1:], out[p:])' in a row of the call's own, as one step of a region that draws. -/
theorem step_copyF {ops : Array Oper} {o : Oper} {a : Act} {K : Act → World → Prop} {Q : Exit → Act → World → Prop} {E : Prop} (hgd : o.guard = none) (d s : Operand) (w : World)
    (ho : o.op = .call { callee := .builtin .copy, args := #[d, s], argTypes := #[41, 41] })
    (lo g n cap : Nat) (cs : List Value) (hown : Own w lo 24 3 (.slice (some ⟨g, 0, none⟩) n cap) n cs) (h1 : ∀ v ∈ cs, v.oneCell' = true) (p : Nat) (hp : p + 1 ≤ n)
    (dp sp : Option Addr) (dl sl dCap sCap : Nat) (hdl : dl = n - (p + 1)) (hsl : sl = n - p) (hd : a.eval d = .slice dp dl dCap) (hs : a.eval s = .slice sp sl sCap)
    (hpos : p + 1 < n → dp = some ⟨g, (p + 1) * 3, none⟩ ∧ sp = some ⟨g, p * 3, none⟩)
    (h : ∀ w', Own w' lo 24 3 (.slice (some ⟨g, 0, none⟩) n cap) n (cs.take ((p + 1) * 3) ++ (cs.drop (p * 3)).take ((n - (p + 1)) * 3)) → w.grownBy w' (some g) → K (a.put o.dst (goInt (n - (p + 1) : Nat))) w') :
    if Region.wanted o (yielded ops a.tmps) = true then Oper.wp Try.prog o a w K Q else E := by
  subst hdl hsl
  have hw : Region.wanted o (yielded ops a.tmps) = true := by simp [Region.wanted, hgd]
  rw [if_pos hw]
  obtain ⟨i0, hi, hz0, hz1, hz2⟩ := info_parts slF.info
  have hu := slF.under
  have hsz : (Try.prog.info? 24).map (·.size) = some 3 := by rw [hi]; simp [hz1]
  have hmin : Nat.min (n - p) (n - (p + 1)) = n - (p + 1) := Nat.min_eq_right (by omega)
  by_cases h0 : p + 1 = n
  · have hrun := run_copy_noneK (P := Try.prog) w 41 41 o.type 24 dp sp (n - (p + 1)) dCap (n - p) sCap 3 hu hsz (by rw [hmin]; omega)
    have hk := h w (by
      have : cs.take ((p + 1) * 3) ++ (cs.drop (p * 3)).take ((n - (p + 1)) * 3) = cs := by
        rw [h0, Nat.sub_self, Nat.zero_mul, List.take_zero, List.append_nil, List.take_of_length_le (by have := hown.1; omega)]
      rw [this]
      exact hown) ⟨rfl, rfl, rfl, Nat.le_refl _, fun _ _ _ => rfl⟩
    rw [show n - (p + 1) = 0 by omega] at hd hk
    rw [show n - (p + 1) = 0 by omega] at hrun
    unfold Oper.wp
    simp [execOp, ho, resolve, invoke, builtin, hd, hs, hrun, Result.andThen]
    exact hk
  · obtain ⟨rfl, rfl⟩ := hpos (by omega)
    rcases hown.2 with ⟨h', _⟩ | ⟨g', cap', cur, h', hb, hg, hnc, hcm, hcs, htake⟩
    · simp at h'
    · simp only [Value.slice.injEq, Option.some.injEq, Addr.mk.injEq, and_true, true_and] at h'
      obtain ⟨rfl, rfl⟩ := h'
      have hcl := hown.1
      have hlc : ((cs.drop (p * 3)).take ((n - (p + 1)) * 3)).length = (n - (p + 1)) * 3 := by
        rw [List.length_take, List.length_drop, hcl]
        omega
      have hcell : ∀ j, j < n * 3 → w.cell? ⟨g, j, none⟩ = cs[j]? := fun j hj => World.ownsRow.cellAt hown j hj
      have hrun := run_copy_rowK (P := Try.prog) w 41 41 o.type 24 g ((p + 1) * 3) (n - (p + 1)) dCap ⟨g, p * 3, none⟩ (n - p) sCap cur 24 ((cs.drop (p * 3)).take ((n - (p + 1)) * 3)) 3 hu hsz hg (by rw [hmin]; exact hlc) (by
        intro j v hj
        have hj2 : j < (n - (p + 1)) * 3 := by
          rw [← hlc]
          exact (List.getElem?_eq_some_iff.1 hj).1
        rw [List.getElem?_take, if_pos hj2, List.getElem?_drop] at hj
        rw [addr_add, hcell _ (by omega)]
        exact hj) (by rw [hlc, hcs]; omega) (fun v hv => h1 v (List.mem_of_mem_drop (List.mem_of_mem_take hv)))
      rw [hmin] at hrun
      unfold Oper.wp
      simp [execOp, ho, resolve, invoke, builtin, hd, hs, hrun, Result.andThen]
      refine h _ ⟨?_, .inr ⟨g, cap, _, rfl, hb, setRow_heap w g cur _ _ _ hg, hnc, hcm, ?_, ?_⟩⟩ ⟨rfl, rfl, rfl, by simp [World.setRow], fun k hk hne => setRow_other w g k _ (fun e => hne (by rw [e]))⟩
      · rw [List.length_append, hlc, List.length_take, hcl]
        omega
      · simp
        omega
      · have hX : cur.toList.take ((p + 1) * 3) = cs.take ((p + 1) * 3) := by
          rw [← htake, List.take_take, Nat.min_eq_left (by omega)]
        have hXl : (cs.take ((p + 1) * 3)).length = (p + 1) * 3 := by rw [List.length_take, hcl]; omega
        rw [hX, ← List.append_assoc, List.take_append_of_le_length]
        · exact List.take_of_length_le (by rw [List.length_append, hlc, hXl]; omega)
        · rw [List.length_append, hlc, hXl]
          omega
/-- A row of more cells, or of other cells, is no box. -/
theorem Own.neBox3 {w : World} {lo g n cap b : Nat} {e t : TypeId} {cs : List Value} {v1 v2 v3 : Value} (h : Own w lo e 3 (.slice (some ⟨g, 0, none⟩) n cap) n cs) (hb : Box w b t #[v1, v2, v3]) (h0 : 0 < n) (hc : n = 1 → cs[2]? ≠ some v3) : b ≠ g := by
  intro he
  subst he
  by_cases h1 : n = 1
  · have e1 := World.ownsRow.cellAt h 2 (by omega)
    have e2 := hb.cell 2
    rw [e1] at e2
    exact hc h1 (by simpa using e2)
  · rcases h.2 with ⟨h', _⟩ | ⟨g', cap', cur, h', _, hg, hnc, _, hcs, _⟩
    · simp at h'
    · simp only [Value.slice.injEq, Option.some.injEq, Addr.mk.injEq, and_true, true_and] at h'
      obtain ⟨rfl, rfl⟩ := h'
      unfold Box at hb
      rw [hg] at hb
      injection hb with hb
      injection hb with hb1 _
      rw [hb1] at hcs
      simp at hcs
      omega
/-- An append of one element as a law for the walk; what was there besides the row stands. -/
theorem wpList_appF {ops : Array Oper} {rest : List Oper} {o : Oper} {a : Act} {Q : Exit → Act → World → Prop} (hgd : o.guard = none) (s x : Operand) (w : World)
    (ho : o.op = .call { callee := .builtin .append, args := #[s, x], argTypes := #[41, 41] })
    (lo : Nat) (A : Option Addr) (cap n : Nat) (cs : List Value) (u1 u2 u3 : Value) (h1 : u1.oneCell' = true) (h2 : u2.oneCell' = true) (h3 : u3.oneCell' = true) (hs : a.eval s = .slice A n cap) (hown : Own w lo 24 3 (.slice A n cap) n cs)
    (hx : a.eval x = .slice (some ⟨w.heap.size, 0, none⟩) 1 1) (hlen : n ≤ 1048576) (hlo : lo ≤ w.heap.size)
    (h : ∀ g' cap' w', lo ≤ g' → Own w' lo 24 3 (.slice (some ⟨g', 0, none⟩) (n + 1) cap') (n + 1) (cs ++ [u1, u2, u3]) → (w.alloc (.cells #[u1, u2, u3] 24)).grownBy w' (Value.slice A n cap).ownBlock → wpList Try.prog ops Q rest (a.put o.dst (.slice (some ⟨g', 0, none⟩) (n + 1) cap')) w') : wpList Try.prog ops Q (o :: rest) a (w.alloc (.cells #[u1, u2, u3] 24)) := by
  obtain ⟨i0, hi, hz0, hz1, hz2⟩ := info_parts slF.info
  refine wpList_plain hgd fun K hK => ?_
  have hbox := Box.new w #[u1, u2, u3] 24
  refine wp_append_own _ s x 41 ho lo 24 i0 _ 3 24 slF.under hi hz0 hz1 hz2 slF.cells slF.pos _ n _ hs (hown.alloc _) ⟨w.heap.size, 0, none⟩ 1 1 [u1, u2, u3] hx rfl ?_ ?_ (by unfold maxLen; omega) (by omega) (by simp; omega) ?_
  · intro j u hj
    rw [addr_add, Nat.zero_add, hbox.cell j]
    simpa using hj
  · intro u hu
    simp only [List.mem_cons, List.not_mem_nil, or_false] at hu
    rcases hu with rfl | rfl | rfl <;> assumption
  · intro v' w' hown' hg _
    obtain ⟨A', cap', rfl, hA⟩ := Own.form hown'
    obtain ⟨g', rfl, hg'⟩ := hA (by omega)
    exact hK _ _ (h g' cap' w' hg' hown' hg)
/-- An append of a run of elements, as one step of a region that draws. -/
theorem step_appM {ops : Array Oper} {o : Oper} {a : Act} {K : Act → World → Prop} {Q : Exit → Act → World → Prop} {E : Prop} (hgd : o.guard = none) (s x : Operand) (w : World)
    (ho : o.op = .call { callee := .builtin .append, args := #[s, x], argTypes := #[41, 41] })
    (lo : Nat) (A : Option Addr) (cap n : Nat) (cs us css : List Value) (m nm : Nat) (hnm : n + m = nm) (hcss : cs ++ us = css) (hul : us.length = m * 3) (h1 : ∀ u ∈ us, u.oneCell' = true) (hs : a.eval s = .slice A n cap) (hown : Own w lo 24 3 (.slice A n cap) n cs)
    (ad : Addr) (c : Nat) (hx : a.eval x = .slice (some ad) m c) (hnews : ∀ j u, us[j]? = some u → w.cell? (ad.add j) = some u) (hlen : nm ≤ 1048577) (hlo : lo ≤ w.heap.size)
    (h : ∀ A' cap' w', Own w' lo 24 3 (.slice A' nm cap') nm css → w.grownBy w' (Value.slice A n cap).ownBlock → K (a.put o.dst (.slice A' nm cap')) w') :
    if Region.wanted o (yielded ops a.tmps) = true then Oper.wp Try.prog o a w K Q else E := by
  subst hnm hcss
  have hw : Region.wanted o (yielded ops a.tmps) = true := by simp [Region.wanted, hgd]
  rw [if_pos hw]
  obtain ⟨i0, hi, hz0, hz1, hz2⟩ := info_parts slF.info
  refine wp_append_own w s x 41 ho lo 24 i0 _ 3 24 slF.under hi hz0 hz1 hz2 slF.cells slF.pos _ n _ hs hown ad m c us hx hul hnews h1 (by unfold maxLen; omega) (by omega) hlo ?_
  intro v' w' hown' hg _
  obtain ⟨A', cap', rfl, -⟩ := Own.form hown'
  exact h A' cap' w' hown' hg
theorem own_nilb {w : World} {b lo : Nat} (hb : w.heap.size = b) (hlo : lo ≤ b) : Own (w.alloc (.cells #[] 24)) lo 24 3 (.slice (some ⟨b, 0, none⟩) 0 0) 0 [] := by
  subst hb
  exact own_nil w lo 24 3 hlo
theorem Ex.own {W w w' : World} {lo : Nat} {e : TypeId} {sz n : Nat} {v : Value} {cs : List Value} (h : Ex W w) (hown : Own w lo e sz v n cs) (hg : w.grownBy w' v.ownBlock) (hlo : W.heap.size ≤ lo) : Ex W w' :=
  h.grown hg (fun k hk => Nat.le_trans hlo (hown.lt k hk).1)
end Go.Proofs.Ytgkekdiffgmllaa
