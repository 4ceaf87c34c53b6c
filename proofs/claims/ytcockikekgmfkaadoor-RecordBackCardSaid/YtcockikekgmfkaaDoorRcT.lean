/-
  Layer 6, reading: Read, of the program and of the document.
-/
import Derived.Test.YtcockikekgmfkaaDoorRcS
namespace Go.Proofs.YtcockikekgmfkaaDoor
open Go.RowKit

def RbPost (z : Bat × Int) (w : World) (e : Ending) (w' : World) : Prop :=
  ∃ A5 c5, e = .returned (.tuple #[(.agg #[.int .i64 z.1.pid, .int .i64 z.1.ep, .int .i64 z.1.seq, .bool z.1.txn, .slice A5 z.1.rs.length c5]), .int .i64 z.2]) ∧ w'.ownsRow w.heap.size 70 2 (.slice A5 z.1.rs.length c5) z.1.rs.length (cellsR z.1.rs) ∧ z.1.rs.length ≤ c5 ∧ Below w.heap.size w w'

set_option maxRecDepth 100000 in
set_option maxHeartbeats 2000000 in
theorem RcRead_any (s : ByteArray) (w : World) (hg : HasET w) (hs : s.size ≤ 100000) :
    Calls Tryd.prog 48 #[.string s] w (RbPost (readBt (lb s)) w) := by
  have HG := Lib.hid hg
  clear hg
  have hok : RdOk ((w.alloc (.cells bt0 40)).alloc (.cells #[.string s, .int .i64 0, .bool false] 35)).heap.size ((w.alloc (.cells bt0 40)).alloc (.cells #[.string s, .int .i64 0, .bool false] 35)) (w.heap.size + 1) s 0 false := ⟨blk_new _ _ _ (by simp), Nat.zero_le _, HG.out.up (bal (bal (Below.refl _ _) _) _), hs, by simp, Nat.lt_of_lt_of_le HG.out.lt (by simp; omega), Nat.le_refl _⟩
  have TK := Lib.hid (Take_any _ s 0 false _ hok)
  have hsz : s.size = (lb s).length := (length_lb s).symm
  have hrb : readBt (lb s) = if (rdBat (lb s) 0 false).2.2 = true ∨ (rdBat (lb s) 0 false).2.1 ≠ s.size then (Bat0, 70) else ((rdBat (lb s) 0 false).1, 0) := by rw [hsz]; rfl
  have HRB := Lib.hid hrb
  have hne : ¬ w.heap.size = w.heap.size + 1 := by omega
  have T0 := Lib.hid ((blk_new w 40 bt0 rfl).alloc (.cells #[.string s, .int .i64 0, .bool false] 35))
  clear hok hsz hrb
  generalize rdBat (lb s) 0 false = z at *
  obtain ⟨bt, j, bad⟩ := z
  simp only at TK HRB
  go_enter Tryd.func48, Tryd.ntmps48
  go_wp2_with fail
  refine (RNew_any s _).mono ?_
  rintro e w1 ⟨rfl, rfl⟩
  go_wp2_with fail
  refine TK.out.mono ?_
  rintro e w2 ⟨A5, c5, rfl, r5, hc5, k5, o5⟩
  have K5 := Lib.hid (REnd_any _ s j bad _ (k5.alloc (.cells #[.int .i64 bt.pid, .int .i64 bt.ep, .int .i64 bt.seq, .bool bt.txn, .slice A5 bt.rs.length c5] 40)))
  have t5 := (o5.blk T0.out hne).alloc (.cells #[.int .i64 bt.pid, .int .i64 bt.ep, .int .i64 bt.seq, .bool bt.txn, .slice A5 bt.rs.length c5] 40)
  have b5 := blk_new w2 40 #[.int .i64 bt.pid, .int .i64 bt.ep, .int .i64 bt.seq, .bool bt.txn, .slice A5 bt.rs.length c5] rfl
  have bel := (bal (bal (Below.refl w.heap.size w) (.cells bt0 40)) (.cells #[.string s, .int .i64 0, .bool false] 35)).trans (o5.below (by simp; omega) (fun x hx => by omega))
  have BEL := Lib.hid (bal bel (.cells #[.int .i64 bt.pid, .int .i64 bt.ep, .int .i64 bt.seq, .bool bt.txn, .slice A5 bt.rs.length c5] 40))
  have R5 := Lib.hid (r5.alloc (.cells #[.int .i64 bt.pid, .int .i64 bt.ep, .int .i64 bt.seq, .bool bt.txn, .slice A5 bt.rs.length c5] 40))
  have hlt : w.heap.size < w2.heap.size := by have := o5.size; simp at this; omega
  clear k5 o5 r5 bel
  by_cases hE : bad = true ∨ j ≠ s.size
  · have he : endOf s.size j bad = 70 := by unfold endOf; rw [if_pos hE]
    rw [he] at K5
    have HR := Lib.hid (show readBt (lb s) = (Bat0, 70) by rw [HRB.out, if_pos hE])
    have u0 := t5.cell 0
    have u1 := t5.cell 1
    have u2 := t5.cell 2
    have u3 := t5.cell 3
    have u4 := t5.cell 4
    have z0 := t5.frozen 0
    have z1 := t5.frozen 1
    have z2 := t5.frozen 2
    have z3 := t5.frozen 3
    have z4 := t5.frozen 4
    clear hE he t5 b5
    go_wp2_with fail
    refine K5.out.mono ?_
    rintro e w3 ⟨rfl, n3, rfl⟩
    go_wp2_with fail
    refine bodyPost_ret (v := .tuple #[.agg #[.int .i64 0, .int .i64 0, .int .i64 0, .bool false, .slice none 0 0], .int .i64 70]) (by simp [results, Tryd.results48, go_sem, u0, u1, u2, u3, u4]) rfl ?_
    rw [HR.out]
    exact ⟨none, 0, rfl, World.ownsRow_nil _ _ _ _, Nat.le_refl _, bset (bset (bset (bset (bset (below_drewN BEL.out n3) (Nat.le_refl _) _) (Nat.le_refl _) _) (Nat.le_refl _) _) (Nat.le_refl _) _) (Nat.le_refl _) _⟩
  · have he : endOf s.size j bad = 0 := by unfold endOf; rw [if_neg hE]
    rw [he] at K5
    have HR := Lib.hid (show readBt (lb s) = (bt, 0) by rw [HRB.out, if_neg hE])
    have u0 := t5.cell 0
    have u1 := t5.cell 1
    have u2 := t5.cell 2
    have u3 := t5.cell 3
    have u4 := t5.cell 4
    have z0 := t5.frozen 0
    have z1 := t5.frozen 1
    have z2 := t5.frozen 2
    have z3 := t5.frozen 3
    have z4 := t5.frozen 4
    have x0 := b5.cell 0
    have x1 := b5.cell 1
    have x2 := b5.cell 2
    have x3 := b5.cell 3
    have x4 := b5.cell 4
    clear hE he t5 b5
    go_wp2_with fail
    refine K5.out.mono ?_
    rintro e w3 ⟨rfl, n3, rfl⟩
    go_wp2_with fail
    refine bodyPost_ret (v := .tuple #[(.agg #[.int .i64 bt.pid, .int .i64 bt.ep, .int .i64 bt.seq, .bool bt.txn, .slice A5 bt.rs.length c5]), .int .i64 0]) (by simp [results, Tryd.results48, go_sem, u0, u1, u2, u3, u4]) rfl ?_
    rw [HR.out]
    have R6 := R5.out
    simp only [World.size_alloc] at R6
    have q0 := own_below R6 (below_drewN (Below.refl _ _) n3)
    refine ⟨A5, c5, rfl, own_base (own_set (own_set (own_set (own_set (own_set q0 (by omega) _) (by omega) _) (by omega) _) (by omega) _) (by omega) _) (by omega), hc5, bset (bset (bset (bset (bset (below_drewN BEL.out n3) (Nat.le_refl _) _) (Nat.le_refl _) _) (Nat.le_refl _) _) (Nat.le_refl _) _) (Nat.le_refl _) _⟩

set_option maxRecDepth 100000 in
set_option maxHeartbeats 2000000 in
theorem rRcRead_any (s : ByteArray) (w : World) (hs : s.size ≤ 100000) :
    Calls Tryd.prog 49 #[.string s] w (RbPost (readBt (lb s)) w) := by
  have hok : RrOk ((w.alloc (.cells bt0 40)).alloc (.cells #[.string s, .int .i64 0, .bool false] 36)).heap.size ((w.alloc (.cells bt0 40)).alloc (.cells #[.string s, .int .i64 0, .bool false] 36)) (w.heap.size + 1) s 0 false := ⟨blk_new _ _ _ (by simp), Nat.zero_le _, hs, by simp, Nat.le_refl _⟩
  have TK := Lib.hid (rTake_any _ s 0 false _ hok)
  have hsz : s.size = (lb s).length := (length_lb s).symm
  have hrb : readBt (lb s) = if (rdBat (lb s) 0 false).2.2 = true ∨ (rdBat (lb s) 0 false).2.1 ≠ s.size then (Bat0, 70) else ((rdBat (lb s) 0 false).1, 0) := by rw [hsz]; rfl
  have HRB := Lib.hid hrb
  have hne : ¬ w.heap.size = w.heap.size + 1 := by omega
  have T0 := Lib.hid ((blk_new w 40 bt0 rfl).alloc (.cells #[.string s, .int .i64 0, .bool false] 36))
  clear hok hsz hrb
  generalize rdBat (lb s) 0 false = z at *
  obtain ⟨bt, j, bad⟩ := z
  simp only at TK HRB
  go_enter Tryd.func49, Tryd.ntmps49
  go_wp2_with fail
  refine (rRNew_any s _).mono ?_
  rintro e w1 ⟨rfl, rfl⟩
  go_wp2_with fail
  refine TK.out.mono ?_
  rintro e w2 ⟨A5, c5, rfl, r5, hc5, k5, o5⟩
  have K5 := Lib.hid (rREnd_any _ s j bad _ (k5.alloc (.cells #[.int .i64 bt.pid, .int .i64 bt.ep, .int .i64 bt.seq, .bool bt.txn, .slice A5 bt.rs.length c5] 40)))
  have t5 := (o5.blk T0.out hne).alloc (.cells #[.int .i64 bt.pid, .int .i64 bt.ep, .int .i64 bt.seq, .bool bt.txn, .slice A5 bt.rs.length c5] 40)
  have b5 := blk_new w2 40 #[.int .i64 bt.pid, .int .i64 bt.ep, .int .i64 bt.seq, .bool bt.txn, .slice A5 bt.rs.length c5] rfl
  have bel := (bal (bal (Below.refl w.heap.size w) (.cells bt0 40)) (.cells #[.string s, .int .i64 0, .bool false] 36)).trans (o5.below (by simp; omega) (fun x hx => by omega))
  have BEL := Lib.hid (bal bel (.cells #[.int .i64 bt.pid, .int .i64 bt.ep, .int .i64 bt.seq, .bool bt.txn, .slice A5 bt.rs.length c5] 40))
  have R5 := Lib.hid (r5.alloc (.cells #[.int .i64 bt.pid, .int .i64 bt.ep, .int .i64 bt.seq, .bool bt.txn, .slice A5 bt.rs.length c5] 40))
  have hlt : w.heap.size < w2.heap.size := by have := o5.size; simp at this; omega
  clear k5 o5 r5 bel
  by_cases hE : bad = true ∨ j ≠ s.size
  · have he : endOf s.size j bad = 70 := by unfold endOf; rw [if_pos hE]
    rw [he] at K5
    have HR := Lib.hid (show readBt (lb s) = (Bat0, 70) by rw [HRB.out, if_pos hE])
    have u0 := t5.cell 0
    have u1 := t5.cell 1
    have u2 := t5.cell 2
    have u3 := t5.cell 3
    have u4 := t5.cell 4
    have z0 := t5.frozen 0
    have z1 := t5.frozen 1
    have z2 := t5.frozen 2
    have z3 := t5.frozen 3
    have z4 := t5.frozen 4
    clear hE he t5 b5
    go_wp2_with fail
    refine K5.out.mono ?_
    rintro e w3 ⟨rfl, n3, rfl⟩
    go_wp2_with fail
    refine bodyPost_ret (v := .tuple #[.agg #[.int .i64 0, .int .i64 0, .int .i64 0, .bool false, .slice none 0 0], .int .i64 70]) (by simp [results, Tryd.results49, go_sem, u0, u1, u2, u3, u4]) rfl ?_
    rw [HR.out]
    exact ⟨none, 0, rfl, World.ownsRow_nil _ _ _ _, Nat.le_refl _, bset (bset (bset (bset (bset (below_drewN BEL.out n3) (Nat.le_refl _) _) (Nat.le_refl _) _) (Nat.le_refl _) _) (Nat.le_refl _) _) (Nat.le_refl _) _⟩
  · have he : endOf s.size j bad = 0 := by unfold endOf; rw [if_neg hE]
    rw [he] at K5
    have HR := Lib.hid (show readBt (lb s) = (bt, 0) by rw [HRB.out, if_neg hE])
    have u0 := t5.cell 0
    have u1 := t5.cell 1
    have u2 := t5.cell 2
    have u3 := t5.cell 3
    have u4 := t5.cell 4
    have z0 := t5.frozen 0
    have z1 := t5.frozen 1
    have z2 := t5.frozen 2
    have z3 := t5.frozen 3
    have z4 := t5.frozen 4
    have x0 := b5.cell 0
    have x1 := b5.cell 1
    have x2 := b5.cell 2
    have x3 := b5.cell 3
    have x4 := b5.cell 4
    clear hE he t5 b5
    go_wp2_with fail
    refine K5.out.mono ?_
    rintro e w3 ⟨rfl, n3, rfl⟩
    go_wp2_with fail
    refine bodyPost_ret (v := .tuple #[(.agg #[.int .i64 bt.pid, .int .i64 bt.ep, .int .i64 bt.seq, .bool bt.txn, .slice A5 bt.rs.length c5]), .int .i64 0]) (by simp [results, Tryd.results49, go_sem, u0, u1, u2, u3, u4]) rfl ?_
    rw [HR.out]
    have R6 := R5.out
    simp only [World.size_alloc] at R6
    have q0 := own_below R6 (below_drewN (Below.refl _ _) n3)
    refine ⟨A5, c5, rfl, own_base (own_set (own_set (own_set (own_set (own_set q0 (by omega) _) (by omega) _) (by omega) _) (by omega) _) (by omega) _) (by omega), hc5, bset (bset (bset (bset (bset (below_drewN BEL.out n3) (Nat.le_refl _) _) (Nat.le_refl _) _) (Nat.le_refl _) _) (Nat.le_refl _) _) (Nat.le_refl _) _⟩
end Go.Proofs.YtcockikekgmfkaaDoor
