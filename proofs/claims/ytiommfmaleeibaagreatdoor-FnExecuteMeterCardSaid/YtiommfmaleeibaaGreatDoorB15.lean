/-
  Proved: what functions compute, part 15. No condition.
-/
import Derived.Test.YtiommfmaleeibaaGreatDoorB13
import Derived.Test.YtiommfmaleeibaaGreatDoorB14
import Derived.Test.YtiommfmaleeibaaGreatDoorB10
set_option linter.unusedSimpArgs false
set_option linter.unusedVariables false
set_option maxRecDepth 20000
set_option maxHeartbeats 8000000
namespace Go.Proofs.YtiommfmaleeibaaGreatDoor
section
open Go.RowKit

attribute [local go_sem] Zi Zh
def We (a : Fr) (over : Int) (im : Bool) : Fr × Bool := flow (if im then a.im else a.re) 0 (max 1 a.den * over)
theorem l6tPair_any (bs : Nat) (ok : Bool) (a b : Fr) (w : World) (hb : Box w bs 155 #[.bool ok]) :
  Calls Tryz.prog 176 #[.pointer (some ⟨bs, 0, none⟩), a.v, b.v] w (Xk bs ok w (Zk a b)) := by
 have k1 := fun w => Yh.opn (Us b w)
 have ho : ∀ x : Bool, (x && (Ze b).2 && (Zk a b).2) = (x && (Zk a b).2) := fun x => by
  have h := fpair_or a b (!x)
  revert h
  cases x <;> cases (Ze b).2 <;> cases (Zk a b).2 <;> simp
 unfold Zk at ho ⊢
 have k2 := fun w => Yh.opn (Vh a (Ze b).1 w)
 rcases hm : Ze b with ⟨⟨m1, m2, m3⟩, mk⟩
 rw [hm] at k1 k2 ho
 simp only at k1 k2 ho ⊢
 rcases ht : Zu a ⟨m1, m2, m3⟩ with ⟨⟨t1, t2, t3⟩, tk⟩
 rw [ht] at k2 ho
 simp only at ho
 obtain ⟨a1, a2, a3⟩ := a
 obtain ⟨b1, b2, b3⟩ := b
 unfold Xk
 simp only [frv, Fr.v] at k1 k2 ⊢
 rw [← ho]
 clear ho hm ht
 have K1 := Kw k1
 have K2 := Kw k2
 clear k1 k2
 rcases ok with _ | _
 ·rcases mk with _ | _
  ·rcases tk with _ | _
   ·have hS := Zr.init hb
    have hC := hS.reads
    simp only [Zz, Zy] at hC
    have hbl := hb.lt
    have m2 : w.heap.size ≠ bs := Nat.ne_of_gt hb.lt
    go_enter Tryz.func176, Tryz.ntmps176
    go_wp2_with (first | (go_at_call 171; (with_reducible refine (K1.out _).mono ?_); rintro e wn ⟨rfl, hx⟩; replace hS := Zr.after (W := w) hx; clear hx; (try simp only [Kv] at hS); replace hC := hS.reads; simp only [Zz, Zy] at hC) | (go_at_call 108; (with_reducible refine (K2.out _).mono ?_); rintro e wn ⟨rfl, hx⟩; replace hS := Zr.after (W := w) hx; clear hx; (try simp only [Kv] at hS); replace hC := hS.reads; simp only [Zz, Zy] at hC))
    have hm := hS.sm
    have hs := hS.sum
    have hs2 : Box (World.setCell _ ⟨bs, 0, none⟩ (.bool false)) bs 155 #[.bool false] := hs.set_ 0 (.bool false)
    have hm2 := hm.trans (SmO.set hs 0 (.bool false))
    refine Kr ?_ rfl ⟨rfl, ?_, (show Box _ bs 155 #[.bool false] from ?_)⟩
    ·simp [results, Tryz.results176, go_sem, hC]
    ·repeat' (with_reducible first
      | exact hm2
      | refine SmO.setNew ?_ (by simp <;> omega) _
      | refine SmO.alloc ?_ _)
    ·repeat' (with_reducible first
      | exact hs2
      | refine Box.far ?_ (by simp <;> omega) _
      | refine Box.alloc ?_ _)
   ·have hS := Zr.init hb
    have hC := hS.reads
    simp only [Zz, Zy] at hC
    have hbl := hb.lt
    have m2 : w.heap.size ≠ bs := Nat.ne_of_gt hb.lt
    go_enter Tryz.func176, Tryz.ntmps176
    go_wp2_with (first | (go_at_call 171; (with_reducible refine (K1.out _).mono ?_); rintro e wn ⟨rfl, hx⟩; replace hS := Zr.after (W := w) hx; clear hx; (try simp only [Kv] at hS); replace hC := hS.reads; simp only [Zz, Zy] at hC) | (go_at_call 108; (with_reducible refine (K2.out _).mono ?_); rintro e wn ⟨rfl, hx⟩; replace hS := Zr.after (W := w) hx; clear hx; (try simp only [Kv] at hS); replace hC := hS.reads; simp only [Zz, Zy] at hC))
    have hm := hS.sm
    have hs := hS.sum
    have hs2 : Box (World.setCell _ ⟨bs, 0, none⟩ (.bool false)) bs 155 #[.bool false] := hs.set_ 0 (.bool false)
    have hm2 := hm.trans (SmO.set hs 0 (.bool false))
    refine Kr ?_ rfl ⟨rfl, ?_, (show Box _ bs 155 #[.bool false] from ?_)⟩
    ·simp [results, Tryz.results176, go_sem, hC]
    ·repeat' (with_reducible first
      | exact hm2
      | refine SmO.setNew ?_ (by simp <;> omega) _
      | refine SmO.alloc ?_ _)
    ·repeat' (with_reducible first
      | exact hs2
      | refine Box.far ?_ (by simp <;> omega) _
      | refine Box.alloc ?_ _)
  ·rcases tk with _ | _
   ·have hS := Zr.init hb
    have hC := hS.reads
    simp only [Zz, Zy] at hC
    have hbl := hb.lt
    have m2 : w.heap.size ≠ bs := Nat.ne_of_gt hb.lt
    go_enter Tryz.func176, Tryz.ntmps176
    go_wp2_with (first | (go_at_call 171; (with_reducible refine (K1.out _).mono ?_); rintro e wn ⟨rfl, hx⟩; replace hS := Zr.after (W := w) hx; clear hx; (try simp only [Kv] at hS); replace hC := hS.reads; simp only [Zz, Zy] at hC) | (go_at_call 108; (with_reducible refine (K2.out _).mono ?_); rintro e wn ⟨rfl, hx⟩; replace hS := Zr.after (W := w) hx; clear hx; (try simp only [Kv] at hS); replace hC := hS.reads; simp only [Zz, Zy] at hC))
    have hm := hS.sm
    have hs := hS.sum
    have hs2 : Box (World.setCell _ ⟨bs, 0, none⟩ (.bool false)) bs 155 #[.bool false] := hs.set_ 0 (.bool false)
    have hm2 := hm.trans (SmO.set hs 0 (.bool false))
    refine Kr ?_ rfl ⟨rfl, ?_, (show Box _ bs 155 #[.bool false] from ?_)⟩
    ·simp [results, Tryz.results176, go_sem, hC]
    ·repeat' (with_reducible first
      | exact hm2
      | refine SmO.setNew ?_ (by simp <;> omega) _
      | refine SmO.alloc ?_ _)
    ·repeat' (with_reducible first
      | exact hs2
      | refine Box.far ?_ (by simp <;> omega) _
      | refine Box.alloc ?_ _)
   ·have hS := Zr.init hb
    have hC := hS.reads
    simp only [Zz, Zy] at hC
    have hbl := hb.lt
    have m2 : w.heap.size ≠ bs := Nat.ne_of_gt hb.lt
    go_enter Tryz.func176, Tryz.ntmps176
    go_wp2_with (first | (go_at_call 171; (with_reducible refine (K1.out _).mono ?_); rintro e wn ⟨rfl, hx⟩; replace hS := Zr.after (W := w) hx; clear hx; (try simp only [Kv] at hS); replace hC := hS.reads; simp only [Zz, Zy] at hC) | (go_at_call 108; (with_reducible refine (K2.out _).mono ?_); rintro e wn ⟨rfl, hx⟩; replace hS := Zr.after (W := w) hx; clear hx; (try simp only [Kv] at hS); replace hC := hS.reads; simp only [Zz, Zy] at hC))
    have hm := hS.sm
    have hs := hS.sum
    have hs2 : Box (World.setCell _ ⟨bs, 0, none⟩ (.bool false)) bs 155 #[.bool false] := hs.set_ 0 (.bool false)
    have hm2 := hm.trans (SmO.set hs 0 (.bool false))
    refine Kr ?_ rfl ⟨rfl, ?_, (show Box _ bs 155 #[.bool false] from ?_)⟩
    ·simp [results, Tryz.results176, go_sem, hC]
    ·repeat' (with_reducible first
      | exact hm2
      | refine SmO.setNew ?_ (by simp <;> omega) _
      | refine SmO.alloc ?_ _)
    ·repeat' (with_reducible first
      | exact hs2
      | refine Box.far ?_ (by simp <;> omega) _
      | refine Box.alloc ?_ _)
 ·rcases mk with _ | _
  ·rcases tk with _ | _
   ·have hS := Zr.init hb
    have hC := hS.reads
    simp only [Zz, Zy] at hC
    have hbl := hb.lt
    have m2 : w.heap.size ≠ bs := Nat.ne_of_gt hb.lt
    go_enter Tryz.func176, Tryz.ntmps176
    go_wp2_with (first | (go_at_call 171; (with_reducible refine (K1.out _).mono ?_); rintro e wn ⟨rfl, hx⟩; replace hS := Zr.after (W := w) hx; clear hx; (try simp only [Kv] at hS); replace hC := hS.reads; simp only [Zz, Zy] at hC) | (go_at_call 108; (with_reducible refine (K2.out _).mono ?_); rintro e wn ⟨rfl, hx⟩; replace hS := Zr.after (W := w) hx; clear hx; (try simp only [Kv] at hS); replace hC := hS.reads; simp only [Zz, Zy] at hC))
    have hm := hS.sm
    have hs := hS.sum
    have hs2 : Box (World.setCell _ ⟨bs, 0, none⟩ (.bool false)) bs 155 #[.bool false] := hs.set_ 0 (.bool false)
    have hm2 := hm.trans (SmO.set hs 0 (.bool false))
    refine Kr ?_ rfl ⟨rfl, ?_, (show Box _ bs 155 #[.bool false] from ?_)⟩
    ·simp [results, Tryz.results176, go_sem, hC]
    ·repeat' (with_reducible first
      | exact hm2
      | refine SmO.setNew ?_ (by simp <;> omega) _
      | refine SmO.alloc ?_ _)
    ·repeat' (with_reducible first
      | exact hs2
      | refine Box.far ?_ (by simp <;> omega) _
      | refine Box.alloc ?_ _)
   ·have hS := Zr.init hb
    have hC := hS.reads
    simp only [Zz, Zy] at hC
    have hbl := hb.lt
    have m2 : w.heap.size ≠ bs := Nat.ne_of_gt hb.lt
    go_enter Tryz.func176, Tryz.ntmps176
    go_wp2_with (first | (go_at_call 171; (with_reducible refine (K1.out _).mono ?_); rintro e wn ⟨rfl, hx⟩; replace hS := Zr.after (W := w) hx; clear hx; (try simp only [Kv] at hS); replace hC := hS.reads; simp only [Zz, Zy] at hC) | (go_at_call 108; (with_reducible refine (K2.out _).mono ?_); rintro e wn ⟨rfl, hx⟩; replace hS := Zr.after (W := w) hx; clear hx; (try simp only [Kv] at hS); replace hC := hS.reads; simp only [Zz, Zy] at hC))
    have hm := hS.sm
    have hs := hS.sum
    have hs2 : Box (World.setCell _ ⟨bs, 0, none⟩ (.bool false)) bs 155 #[.bool false] := hs.set_ 0 (.bool false)
    have hm2 := hm.trans (SmO.set hs 0 (.bool false))
    refine Kr ?_ rfl ⟨rfl, ?_, (show Box _ bs 155 #[.bool false] from ?_)⟩
    ·simp [results, Tryz.results176, go_sem, hC]
    ·repeat' (with_reducible first
      | exact hm2
      | refine SmO.setNew ?_ (by simp <;> omega) _
      | refine SmO.alloc ?_ _)
    ·repeat' (with_reducible first
      | exact hs2
      | refine Box.far ?_ (by simp <;> omega) _
      | refine Box.alloc ?_ _)
  ·rcases tk with _ | _
   ·have hS := Zr.init hb
    have hC := hS.reads
    simp only [Zz, Zy] at hC
    have hbl := hb.lt
    have m2 : w.heap.size ≠ bs := Nat.ne_of_gt hb.lt
    go_enter Tryz.func176, Tryz.ntmps176
    go_wp2_with (first | (go_at_call 171; (with_reducible refine (K1.out _).mono ?_); rintro e wn ⟨rfl, hx⟩; replace hS := Zr.after (W := w) hx; clear hx; (try simp only [Kv] at hS); replace hC := hS.reads; simp only [Zz, Zy] at hC) | (go_at_call 108; (with_reducible refine (K2.out _).mono ?_); rintro e wn ⟨rfl, hx⟩; replace hS := Zr.after (W := w) hx; clear hx; (try simp only [Kv] at hS); replace hC := hS.reads; simp only [Zz, Zy] at hC))
    have hm := hS.sm
    have hs := hS.sum
    have hs2 : Box (World.setCell _ ⟨bs, 0, none⟩ (.bool false)) bs 155 #[.bool false] := hs.set_ 0 (.bool false)
    have hm2 := hm.trans (SmO.set hs 0 (.bool false))
    refine Kr ?_ rfl ⟨rfl, ?_, (show Box _ bs 155 #[.bool false] from ?_)⟩
    ·simp [results, Tryz.results176, go_sem, hC]
    ·repeat' (with_reducible first
      | exact hm2
      | refine SmO.setNew ?_ (by simp <;> omega) _
      | refine SmO.alloc ?_ _)
    ·repeat' (with_reducible first
      | exact hs2
      | refine Box.far ?_ (by simp <;> omega) _
      | refine Box.alloc ?_ _)
   ·have hS := Zr.init hb
    have hC := hS.reads
    simp only [Zz, Zy] at hC
    have hbl := hb.lt
    have m2 : w.heap.size ≠ bs := Nat.ne_of_gt hb.lt
    go_enter Tryz.func176, Tryz.ntmps176
    go_wp2_with (first | (go_at_call 171; (with_reducible refine (K1.out _).mono ?_); rintro e wn ⟨rfl, hx⟩; replace hS := Zr.after (W := w) hx; clear hx; (try simp only [Kv] at hS); replace hC := hS.reads; simp only [Zz, Zy] at hC) | (go_at_call 108; (with_reducible refine (K2.out _).mono ?_); rintro e wn ⟨rfl, hx⟩; replace hS := Zr.after (W := w) hx; clear hx; (try simp only [Kv] at hS); replace hC := hS.reads; simp only [Zz, Zy] at hC))
    have hm := hS.sm
    have hs := hS.sum
    have hs2 : Box (World.setCell _ ⟨bs, 0, none⟩ (.bool true)) bs 155 #[.bool true] := hs.set_ 0 (.bool true)
    have hm2 := hm.trans (SmO.set hs 0 (.bool true))
    refine Kr ?_ rfl ⟨rfl, ?_, (show Box _ bs 155 #[.bool true] from ?_)⟩
    ·simp [results, Tryz.results176, go_sem, hC]
    ·repeat' (with_reducible first
      | exact hm2
      | refine SmO.setNew ?_ (by simp <;> omega) _
      | refine SmO.alloc ?_ _)
    ·repeat' (with_reducible first
      | exact hs2
      | refine Box.far ?_ (by simp <;> omega) _
      | refine Box.alloc ?_ _)
theorem l6tAdd_any (bs : Nat) (ok : Bool) (a : Fr) (s : Int) (b : Fr) (w : World) (hb : Box w bs 155 #[.bool ok]) (hsg : s = 1 ∨ s = -1) :
  Calls Tryz.prog 177 #[.pointer (some ⟨bs, 0, none⟩), a.v, .int .i64 s, b.v] w (Xk bs ok w (Yu s a b)) := by
 have k1 := fun w => Yh.opn (sl2Sum a b s hsg w)
 rcases ht : Yu s a b with ⟨⟨t1, t2, t3⟩, tk⟩
 rw [ht] at k1
 obtain ⟨a1, a2, a3⟩ := a
 obtain ⟨b1, b2, b3⟩ := b
 unfold Xk
 simp only [frv, Fr.v] at k1 ⊢
 clear ht
 have K1 := Kw k1
 clear k1
 rcases ok with _ | _
 ·rcases tk with _ | _
  ·have hS := Zr.init hb
   have hC := hS.reads
   simp only [Zz, Zy] at hC
   have hbl := hb.lt
   have m2 : w.heap.size ≠ bs := Nat.ne_of_gt hb.lt
   go_enter Tryz.func177, Tryz.ntmps177
   go_wp2_with (first | (go_at_call 229; (with_reducible refine (K1.out _).mono ?_); rintro e wn ⟨rfl, hx⟩; replace hS := Zr.after (W := w) hx; clear hx; (try simp only [Kv] at hS); replace hC := hS.reads; simp only [Zz, Zy] at hC))
   have hm := hS.sm
   have hs := hS.sum
   have hs2 : Box (World.setCell _ ⟨bs, 0, none⟩ (.bool false)) bs 155 #[.bool false] := hs.set_ 0 (.bool false)
   have hm2 := hm.trans (SmO.set hs 0 (.bool false))
   refine Kr ?_ rfl ⟨rfl, ?_, (show Box _ bs 155 #[.bool false] from ?_)⟩
   ·simp [results, Tryz.results177, go_sem, hC]
   ·repeat' (with_reducible first
     | exact hm2
     | refine SmO.setNew ?_ (by simp <;> omega) _
     | refine SmO.alloc ?_ _)
   ·repeat' (with_reducible first
     | exact hs2
     | refine Box.far ?_ (by simp <;> omega) _
     | refine Box.alloc ?_ _)
  ·have hS := Zr.init hb
   have hC := hS.reads
   simp only [Zz, Zy] at hC
   have hbl := hb.lt
   have m2 : w.heap.size ≠ bs := Nat.ne_of_gt hb.lt
   go_enter Tryz.func177, Tryz.ntmps177
   go_wp2_with (first | (go_at_call 229; (with_reducible refine (K1.out _).mono ?_); rintro e wn ⟨rfl, hx⟩; replace hS := Zr.after (W := w) hx; clear hx; (try simp only [Kv] at hS); replace hC := hS.reads; simp only [Zz, Zy] at hC))
   have hm := hS.sm
   have hs := hS.sum
   have hs2 : Box (World.setCell _ ⟨bs, 0, none⟩ (.bool false)) bs 155 #[.bool false] := hs.set_ 0 (.bool false)
   have hm2 := hm.trans (SmO.set hs 0 (.bool false))
   refine Kr ?_ rfl ⟨rfl, ?_, (show Box _ bs 155 #[.bool false] from ?_)⟩
   ·simp [results, Tryz.results177, go_sem, hC]
   ·repeat' (with_reducible first
     | exact hm2
     | refine SmO.setNew ?_ (by simp <;> omega) _
     | refine SmO.alloc ?_ _)
   ·repeat' (with_reducible first
     | exact hs2
     | refine Box.far ?_ (by simp <;> omega) _
     | refine Box.alloc ?_ _)
 ·rcases tk with _ | _
  ·have hS := Zr.init hb
   have hC := hS.reads
   simp only [Zz, Zy] at hC
   have hbl := hb.lt
   have m2 : w.heap.size ≠ bs := Nat.ne_of_gt hb.lt
   go_enter Tryz.func177, Tryz.ntmps177
   go_wp2_with (first | (go_at_call 229; (with_reducible refine (K1.out _).mono ?_); rintro e wn ⟨rfl, hx⟩; replace hS := Zr.after (W := w) hx; clear hx; (try simp only [Kv] at hS); replace hC := hS.reads; simp only [Zz, Zy] at hC))
   have hm := hS.sm
   have hs := hS.sum
   have hs2 : Box (World.setCell _ ⟨bs, 0, none⟩ (.bool false)) bs 155 #[.bool false] := hs.set_ 0 (.bool false)
   have hm2 := hm.trans (SmO.set hs 0 (.bool false))
   refine Kr ?_ rfl ⟨rfl, ?_, (show Box _ bs 155 #[.bool false] from ?_)⟩
   ·simp [results, Tryz.results177, go_sem, hC]
   ·repeat' (with_reducible first
     | exact hm2
     | refine SmO.setNew ?_ (by simp <;> omega) _
     | refine SmO.alloc ?_ _)
   ·repeat' (with_reducible first
     | exact hs2
     | refine Box.far ?_ (by simp <;> omega) _
     | refine Box.alloc ?_ _)
  ·have hS := Zr.init hb
   have hC := hS.reads
   simp only [Zz, Zy] at hC
   have hbl := hb.lt
   have m2 : w.heap.size ≠ bs := Nat.ne_of_gt hb.lt
   go_enter Tryz.func177, Tryz.ntmps177
   go_wp2_with (first | (go_at_call 229; (with_reducible refine (K1.out _).mono ?_); rintro e wn ⟨rfl, hx⟩; replace hS := Zr.after (W := w) hx; clear hx; (try simp only [Kv] at hS); replace hC := hS.reads; simp only [Zz, Zy] at hC))
   have hm := hS.sm
   have hs := hS.sum
   have hs2 : Box (World.setCell _ ⟨bs, 0, none⟩ (.bool true)) bs 155 #[.bool true] := hs.set_ 0 (.bool true)
   have hm2 := hm.trans (SmO.set hs 0 (.bool true))
   refine Kr ?_ rfl ⟨rfl, ?_, (show Box _ bs 155 #[.bool true] from ?_)⟩
   ·simp [results, Tryz.results177, go_sem, hC]
   ·repeat' (with_reducible first
     | exact hm2
     | refine SmO.setNew ?_ (by simp <;> omega) _
     | refine SmO.alloc ?_ _)
   ·repeat' (with_reducible first
     | exact hs2
     | refine Box.far ?_ (by simp <;> omega) _
     | refine Box.alloc ?_ _)
theorem l6tPart_re2 (bs : Nat) (ok : Bool) (a : Fr) (w : World) (hb : Box w bs 155 #[.bool ok]) (hbd : -2000000000 ≤ a.re ∧ a.re ≤ 2000000000 ∧ -2000000000 ≤ a.im ∧ a.im ≤ 2000000000 ∧ 0 ≤ a.den ∧ a.den ≤ 2000000000) :
  Calls Tryz.prog 178 #[.pointer (some ⟨bs, 0, none⟩), a.v, .int .i64 2, .bool false] w (Xk bs ok w (We a 2 false)) := by
 obtain ⟨h1, h2, h3, h4, h5, h6⟩ := hbd
 obtain ⟨a1, a2, a3⟩ := a
 simp only at h1 h2 h3 h4 h5 h6
 obtain ⟨M, eM, l1, u1⟩ : ∃ M, (if 1 < a3 then a3 else 1) = M ∧ 1 ≤ M ∧ M ≤ 2000000000 := ⟨_, rfl, by split <;> omega, by split <;> omega⟩
 have eN : max 1 a3 = M := by rw [← eM]; split <;> omega
 unfold We
 simp only
 rw [eN]
 have w1 := Kq (M * 1) (by omega)
 have w2 := Kq (M * 2) (by omega)
 have w3 := Kq M (by omega)
 simp only [Bool.false_eq_true, if_true, if_false]
 have k1 := fun w => Yh.opn (Th a1 0 (M * 2) w (by omega) (by omega) (by omega))
 rcases ht : flow a1 0 (M * 2) with ⟨⟨t1, t2, t3⟩, tk⟩
 rw [ht] at k1
 unfold Xk
 simp only [frv, Fr.v] at k1 ⊢
 try simp only [Int.mul_one] at k1
 clear ht h1 h2 h3 h4 h5 h6 eN
 have K1 := Kw k1
 clear k1
 rcases ok with _ | _
 ·rcases tk with _ | _
  ·have hS := Zr.init hb
   have hC := hS.reads
   simp only [Zz, Zy] at hC
   have hbl := hb.lt
   have m2 : w.heap.size ≠ bs := Nat.ne_of_gt hb.lt
   go_enter Tryz.func178, Tryz.ntmps178
   go_wp2_with (first | (go_at_call 173; (with_reducible refine (K1.out _).mono ?_); rintro e wn ⟨rfl, hx⟩; replace hS := Zr.after (W := w) hx; clear hx; (try simp only [Kv] at hS); replace hC := hS.reads; simp only [Zz, Zy] at hC))
   have hm := hS.sm
   have hs := hS.sum
   have hs2 : Box (World.setCell _ ⟨bs, 0, none⟩ (.bool false)) bs 155 #[.bool false] := hs.set_ 0 (.bool false)
   have hm2 := hm.trans (SmO.set hs 0 (.bool false))
   refine Kr ?_ rfl ⟨rfl, ?_, (show Box _ bs 155 #[.bool false] from ?_)⟩
   ·simp [results, Tryz.results178, go_sem, hC]
   ·repeat' (with_reducible first
     | exact hm2
     | refine SmO.setNew ?_ (by simp <;> omega) _
     | refine SmO.alloc ?_ _)
   ·repeat' (with_reducible first
     | exact hs2
     | refine Box.far ?_ (by simp <;> omega) _
     | refine Box.alloc ?_ _)
  ·have hS := Zr.init hb
   have hC := hS.reads
   simp only [Zz, Zy] at hC
   have hbl := hb.lt
   have m2 : w.heap.size ≠ bs := Nat.ne_of_gt hb.lt
   go_enter Tryz.func178, Tryz.ntmps178
   go_wp2_with (first | (go_at_call 173; (with_reducible refine (K1.out _).mono ?_); rintro e wn ⟨rfl, hx⟩; replace hS := Zr.after (W := w) hx; clear hx; (try simp only [Kv] at hS); replace hC := hS.reads; simp only [Zz, Zy] at hC))
   have hm := hS.sm
   have hs := hS.sum
   have hs2 : Box (World.setCell _ ⟨bs, 0, none⟩ (.bool false)) bs 155 #[.bool false] := hs.set_ 0 (.bool false)
   have hm2 := hm.trans (SmO.set hs 0 (.bool false))
   refine Kr ?_ rfl ⟨rfl, ?_, (show Box _ bs 155 #[.bool false] from ?_)⟩
   ·simp [results, Tryz.results178, go_sem, hC]
   ·repeat' (with_reducible first
     | exact hm2
     | refine SmO.setNew ?_ (by simp <;> omega) _
     | refine SmO.alloc ?_ _)
   ·repeat' (with_reducible first
     | exact hs2
     | refine Box.far ?_ (by simp <;> omega) _
     | refine Box.alloc ?_ _)
 ·rcases tk with _ | _
  ·have hS := Zr.init hb
   have hC := hS.reads
   simp only [Zz, Zy] at hC
   have hbl := hb.lt
   have m2 : w.heap.size ≠ bs := Nat.ne_of_gt hb.lt
   go_enter Tryz.func178, Tryz.ntmps178
   go_wp2_with (first | (go_at_call 173; (with_reducible refine (K1.out _).mono ?_); rintro e wn ⟨rfl, hx⟩; replace hS := Zr.after (W := w) hx; clear hx; (try simp only [Kv] at hS); replace hC := hS.reads; simp only [Zz, Zy] at hC))
   have hm := hS.sm
   have hs := hS.sum
   have hs2 : Box (World.setCell _ ⟨bs, 0, none⟩ (.bool false)) bs 155 #[.bool false] := hs.set_ 0 (.bool false)
   have hm2 := hm.trans (SmO.set hs 0 (.bool false))
   refine Kr ?_ rfl ⟨rfl, ?_, (show Box _ bs 155 #[.bool false] from ?_)⟩
   ·simp [results, Tryz.results178, go_sem, hC]
   ·repeat' (with_reducible first
     | exact hm2
     | refine SmO.setNew ?_ (by simp <;> omega) _
     | refine SmO.alloc ?_ _)
   ·repeat' (with_reducible first
     | exact hs2
     | refine Box.far ?_ (by simp <;> omega) _
     | refine Box.alloc ?_ _)
  ·have hS := Zr.init hb
   have hC := hS.reads
   simp only [Zz, Zy] at hC
   have hbl := hb.lt
   have m2 : w.heap.size ≠ bs := Nat.ne_of_gt hb.lt
   go_enter Tryz.func178, Tryz.ntmps178
   go_wp2_with (first | (go_at_call 173; (with_reducible refine (K1.out _).mono ?_); rintro e wn ⟨rfl, hx⟩; replace hS := Zr.after (W := w) hx; clear hx; (try simp only [Kv] at hS); replace hC := hS.reads; simp only [Zz, Zy] at hC))
   have hm := hS.sm
   have hs := hS.sum
   have hs2 : Box (World.setCell _ ⟨bs, 0, none⟩ (.bool true)) bs 155 #[.bool true] := hs.set_ 0 (.bool true)
   have hm2 := hm.trans (SmO.set hs 0 (.bool true))
   refine Kr ?_ rfl ⟨rfl, ?_, (show Box _ bs 155 #[.bool true] from ?_)⟩
   ·simp [results, Tryz.results178, go_sem, hC]
   ·repeat' (with_reducible first
     | exact hm2
     | refine SmO.setNew ?_ (by simp <;> omega) _
     | refine SmO.alloc ?_ _)
   ·repeat' (with_reducible first
     | exact hs2
     | refine Box.far ?_ (by simp <;> omega) _
     | refine Box.alloc ?_ _)
theorem l6tPart_re1 (bs : Nat) (ok : Bool) (a : Fr) (w : World) (hb : Box w bs 155 #[.bool ok]) (hbd : -2000000000 ≤ a.re ∧ a.re ≤ 2000000000 ∧ -2000000000 ≤ a.im ∧ a.im ≤ 2000000000 ∧ 0 ≤ a.den ∧ a.den ≤ 2000000000) :
  Calls Tryz.prog 178 #[.pointer (some ⟨bs, 0, none⟩), a.v, .int .i64 1, .bool false] w (Xk bs ok w (We a 1 false)) := by
 obtain ⟨h1, h2, h3, h4, h5, h6⟩ := hbd
 obtain ⟨a1, a2, a3⟩ := a
 simp only at h1 h2 h3 h4 h5 h6
 obtain ⟨M, eM, l1, u1⟩ : ∃ M, (if 1 < a3 then a3 else 1) = M ∧ 1 ≤ M ∧ M ≤ 2000000000 := ⟨_, rfl, by split <;> omega, by split <;> omega⟩
 have eN : max 1 a3 = M := by rw [← eM]; split <;> omega
 unfold We
 simp only
 rw [eN]
 have w1 := Kq (M * 1) (by omega)
 have w2 := Kq (M * 2) (by omega)
 have w3 := Kq M (by omega)
 simp only [Bool.false_eq_true, if_true, if_false]
 have k1 := fun w => Yh.opn (Th a1 0 (M * 1) w (by omega) (by omega) (by omega))
 rcases ht : flow a1 0 (M * 1) with ⟨⟨t1, t2, t3⟩, tk⟩
 rw [ht] at k1
 unfold Xk
 simp only [frv, Fr.v] at k1 ⊢
 try simp only [Int.mul_one] at k1
 clear ht h1 h2 h3 h4 h5 h6 eN
 have K1 := Kw k1
 clear k1
 rcases ok with _ | _
 ·rcases tk with _ | _
  ·have hS := Zr.init hb
   have hC := hS.reads
   simp only [Zz, Zy] at hC
   have hbl := hb.lt
   have m2 : w.heap.size ≠ bs := Nat.ne_of_gt hb.lt
   go_enter Tryz.func178, Tryz.ntmps178
   go_wp2_with (first | (go_at_call 173; (with_reducible refine (K1.out _).mono ?_); rintro e wn ⟨rfl, hx⟩; replace hS := Zr.after (W := w) hx; clear hx; (try simp only [Kv] at hS); replace hC := hS.reads; simp only [Zz, Zy] at hC))
   have hm := hS.sm
   have hs := hS.sum
   have hs2 : Box (World.setCell _ ⟨bs, 0, none⟩ (.bool false)) bs 155 #[.bool false] := hs.set_ 0 (.bool false)
   have hm2 := hm.trans (SmO.set hs 0 (.bool false))
   refine Kr ?_ rfl ⟨rfl, ?_, (show Box _ bs 155 #[.bool false] from ?_)⟩
   ·simp [results, Tryz.results178, go_sem, hC]
   ·repeat' (with_reducible first
     | exact hm2
     | refine SmO.setNew ?_ (by simp <;> omega) _
     | refine SmO.alloc ?_ _)
   ·repeat' (with_reducible first
     | exact hs2
     | refine Box.far ?_ (by simp <;> omega) _
     | refine Box.alloc ?_ _)
  ·have hS := Zr.init hb
   have hC := hS.reads
   simp only [Zz, Zy] at hC
   have hbl := hb.lt
   have m2 : w.heap.size ≠ bs := Nat.ne_of_gt hb.lt
   go_enter Tryz.func178, Tryz.ntmps178
   go_wp2_with (first | (go_at_call 173; (with_reducible refine (K1.out _).mono ?_); rintro e wn ⟨rfl, hx⟩; replace hS := Zr.after (W := w) hx; clear hx; (try simp only [Kv] at hS); replace hC := hS.reads; simp only [Zz, Zy] at hC))
   have hm := hS.sm
   have hs := hS.sum
   have hs2 : Box (World.setCell _ ⟨bs, 0, none⟩ (.bool false)) bs 155 #[.bool false] := hs.set_ 0 (.bool false)
   have hm2 := hm.trans (SmO.set hs 0 (.bool false))
   refine Kr ?_ rfl ⟨rfl, ?_, (show Box _ bs 155 #[.bool false] from ?_)⟩
   ·simp [results, Tryz.results178, go_sem, hC]
   ·repeat' (with_reducible first
     | exact hm2
     | refine SmO.setNew ?_ (by simp <;> omega) _
     | refine SmO.alloc ?_ _)
   ·repeat' (with_reducible first
     | exact hs2
     | refine Box.far ?_ (by simp <;> omega) _
     | refine Box.alloc ?_ _)
 ·rcases tk with _ | _
  ·have hS := Zr.init hb
   have hC := hS.reads
   simp only [Zz, Zy] at hC
   have hbl := hb.lt
   have m2 : w.heap.size ≠ bs := Nat.ne_of_gt hb.lt
   go_enter Tryz.func178, Tryz.ntmps178
   go_wp2_with (first | (go_at_call 173; (with_reducible refine (K1.out _).mono ?_); rintro e wn ⟨rfl, hx⟩; replace hS := Zr.after (W := w) hx; clear hx; (try simp only [Kv] at hS); replace hC := hS.reads; simp only [Zz, Zy] at hC))
   have hm := hS.sm
   have hs := hS.sum
   have hs2 : Box (World.setCell _ ⟨bs, 0, none⟩ (.bool false)) bs 155 #[.bool false] := hs.set_ 0 (.bool false)
   have hm2 := hm.trans (SmO.set hs 0 (.bool false))
   refine Kr ?_ rfl ⟨rfl, ?_, (show Box _ bs 155 #[.bool false] from ?_)⟩
   ·simp [results, Tryz.results178, go_sem, hC]
   ·repeat' (with_reducible first
     | exact hm2
     | refine SmO.setNew ?_ (by simp <;> omega) _
     | refine SmO.alloc ?_ _)
   ·repeat' (with_reducible first
     | exact hs2
     | refine Box.far ?_ (by simp <;> omega) _
     | refine Box.alloc ?_ _)
  ·have hS := Zr.init hb
   have hC := hS.reads
   simp only [Zz, Zy] at hC
   have hbl := hb.lt
   have m2 : w.heap.size ≠ bs := Nat.ne_of_gt hb.lt
   go_enter Tryz.func178, Tryz.ntmps178
   go_wp2_with (first | (go_at_call 173; (with_reducible refine (K1.out _).mono ?_); rintro e wn ⟨rfl, hx⟩; replace hS := Zr.after (W := w) hx; clear hx; (try simp only [Kv] at hS); replace hC := hS.reads; simp only [Zz, Zy] at hC))
   have hm := hS.sm
   have hs := hS.sum
   have hs2 : Box (World.setCell _ ⟨bs, 0, none⟩ (.bool true)) bs 155 #[.bool true] := hs.set_ 0 (.bool true)
   have hm2 := hm.trans (SmO.set hs 0 (.bool true))
   refine Kr ?_ rfl ⟨rfl, ?_, (show Box _ bs 155 #[.bool true] from ?_)⟩
   ·simp [results, Tryz.results178, go_sem, hC]
   ·repeat' (with_reducible first
     | exact hm2
     | refine SmO.setNew ?_ (by simp <;> omega) _
     | refine SmO.alloc ?_ _)
   ·repeat' (with_reducible first
     | exact hs2
     | refine Box.far ?_ (by simp <;> omega) _
     | refine Box.alloc ?_ _)
theorem l6tPart_im1 (bs : Nat) (ok : Bool) (a : Fr) (w : World) (hb : Box w bs 155 #[.bool ok]) (hbd : -2000000000 ≤ a.re ∧ a.re ≤ 2000000000 ∧ -2000000000 ≤ a.im ∧ a.im ≤ 2000000000 ∧ 0 ≤ a.den ∧ a.den ≤ 2000000000) :
  Calls Tryz.prog 178 #[.pointer (some ⟨bs, 0, none⟩), a.v, .int .i64 1, .bool true] w (Xk bs ok w (We a 1 true)) := by
 obtain ⟨h1, h2, h3, h4, h5, h6⟩ := hbd
 obtain ⟨a1, a2, a3⟩ := a
 simp only at h1 h2 h3 h4 h5 h6
 obtain ⟨M, eM, l1, u1⟩ : ∃ M, (if 1 < a3 then a3 else 1) = M ∧ 1 ≤ M ∧ M ≤ 2000000000 := ⟨_, rfl, by split <;> omega, by split <;> omega⟩
 have eN : max 1 a3 = M := by rw [← eM]; split <;> omega
 unfold We
 simp only
 rw [eN]
 have w1 := Kq (M * 1) (by omega)
 have w2 := Kq (M * 2) (by omega)
 have w3 := Kq M (by omega)
 simp only [if_true]
 have k1 := fun w => Yh.opn (Th a2 0 (M * 1) w (by omega) (by omega) (by omega))
 rcases ht : flow a2 0 (M * 1) with ⟨⟨t1, t2, t3⟩, tk⟩
 rw [ht] at k1
 unfold Xk
 simp only [frv, Fr.v] at k1 ⊢
 try simp only [Int.mul_one] at k1
 clear ht h1 h2 h3 h4 h5 h6 eN
 have K1 := Kw k1
 clear k1
 rcases ok with _ | _
 ·rcases tk with _ | _
  ·have hS := Zr.init hb
   have hC := hS.reads
   simp only [Zz, Zy] at hC
   have hbl := hb.lt
   have m2 : w.heap.size ≠ bs := Nat.ne_of_gt hb.lt
   go_enter Tryz.func178, Tryz.ntmps178
   go_wp2_with (first | (go_at_call 173; (with_reducible refine (K1.out _).mono ?_); rintro e wn ⟨rfl, hx⟩; replace hS := Zr.after (W := w) hx; clear hx; (try simp only [Kv] at hS); replace hC := hS.reads; simp only [Zz, Zy] at hC))
   have hm := hS.sm
   have hs := hS.sum
   have hs2 : Box (World.setCell _ ⟨bs, 0, none⟩ (.bool false)) bs 155 #[.bool false] := hs.set_ 0 (.bool false)
   have hm2 := hm.trans (SmO.set hs 0 (.bool false))
   refine Kr ?_ rfl ⟨rfl, ?_, (show Box _ bs 155 #[.bool false] from ?_)⟩
   ·simp [results, Tryz.results178, go_sem, hC]
   ·repeat' (with_reducible first
     | exact hm2
     | refine SmO.setNew ?_ (by simp <;> omega) _
     | refine SmO.alloc ?_ _)
   ·repeat' (with_reducible first
     | exact hs2
     | refine Box.far ?_ (by simp <;> omega) _
     | refine Box.alloc ?_ _)
  ·have hS := Zr.init hb
   have hC := hS.reads
   simp only [Zz, Zy] at hC
   have hbl := hb.lt
   have m2 : w.heap.size ≠ bs := Nat.ne_of_gt hb.lt
   go_enter Tryz.func178, Tryz.ntmps178
   go_wp2_with (first | (go_at_call 173; (with_reducible refine (K1.out _).mono ?_); rintro e wn ⟨rfl, hx⟩; replace hS := Zr.after (W := w) hx; clear hx; (try simp only [Kv] at hS); replace hC := hS.reads; simp only [Zz, Zy] at hC))
   have hm := hS.sm
   have hs := hS.sum
   have hs2 : Box (World.setCell _ ⟨bs, 0, none⟩ (.bool false)) bs 155 #[.bool false] := hs.set_ 0 (.bool false)
   have hm2 := hm.trans (SmO.set hs 0 (.bool false))
   refine Kr ?_ rfl ⟨rfl, ?_, (show Box _ bs 155 #[.bool false] from ?_)⟩
   ·simp [results, Tryz.results178, go_sem, hC]
   ·repeat' (with_reducible first
     | exact hm2
     | refine SmO.setNew ?_ (by simp <;> omega) _
     | refine SmO.alloc ?_ _)
   ·repeat' (with_reducible first
     | exact hs2
     | refine Box.far ?_ (by simp <;> omega) _
     | refine Box.alloc ?_ _)
 ·rcases tk with _ | _
  ·have hS := Zr.init hb
   have hC := hS.reads
   simp only [Zz, Zy] at hC
   have hbl := hb.lt
   have m2 : w.heap.size ≠ bs := Nat.ne_of_gt hb.lt
   go_enter Tryz.func178, Tryz.ntmps178
   go_wp2_with (first | (go_at_call 173; (with_reducible refine (K1.out _).mono ?_); rintro e wn ⟨rfl, hx⟩; replace hS := Zr.after (W := w) hx; clear hx; (try simp only [Kv] at hS); replace hC := hS.reads; simp only [Zz, Zy] at hC))
   have hm := hS.sm
   have hs := hS.sum
   have hs2 : Box (World.setCell _ ⟨bs, 0, none⟩ (.bool false)) bs 155 #[.bool false] := hs.set_ 0 (.bool false)
   have hm2 := hm.trans (SmO.set hs 0 (.bool false))
   refine Kr ?_ rfl ⟨rfl, ?_, (show Box _ bs 155 #[.bool false] from ?_)⟩
   ·simp [results, Tryz.results178, go_sem, hC]
   ·repeat' (with_reducible first
     | exact hm2
     | refine SmO.setNew ?_ (by simp <;> omega) _
     | refine SmO.alloc ?_ _)
   ·repeat' (with_reducible first
     | exact hs2
     | refine Box.far ?_ (by simp <;> omega) _
     | refine Box.alloc ?_ _)
  ·have hS := Zr.init hb
   have hC := hS.reads
   simp only [Zz, Zy] at hC
   have hbl := hb.lt
   have m2 : w.heap.size ≠ bs := Nat.ne_of_gt hb.lt
   go_enter Tryz.func178, Tryz.ntmps178
   go_wp2_with (first | (go_at_call 173; (with_reducible refine (K1.out _).mono ?_); rintro e wn ⟨rfl, hx⟩; replace hS := Zr.after (W := w) hx; clear hx; (try simp only [Kv] at hS); replace hC := hS.reads; simp only [Zz, Zy] at hC))
   have hm := hS.sm
   have hs := hS.sum
   have hs2 : Box (World.setCell _ ⟨bs, 0, none⟩ (.bool true)) bs 155 #[.bool true] := hs.set_ 0 (.bool true)
   have hm2 := hm.trans (SmO.set hs 0 (.bool true))
   refine Kr ?_ rfl ⟨rfl, ?_, (show Box _ bs 155 #[.bool true] from ?_)⟩
   ·simp [results, Tryz.results178, go_sem, hC]
   ·repeat' (with_reducible first
     | exact hm2
     | refine SmO.setNew ?_ (by simp <;> omega) _
     | refine SmO.alloc ?_ _)
   ·repeat' (with_reducible first
     | exact hs2
     | refine Box.far ?_ (by simp <;> omega) _
     | refine Box.alloc ?_ _)
end
end Go.Proofs.YtiommfmaleeibaaGreatDoor
