/-
  Layer 8: the law's own wakes.
  Layer 8: May, Bytes, Read, of a request.
  Layer 8: Read, of a request.
-/
import Derived.Test.YtcockikekgmfkaaGreatDoorGrp25
namespace Go.Proofs.YtcockikekgmfkaaGreatDoor
open Go.RowKit

theorem rqWrite_ok (q : Rq) (A1 : Option Addr) (c1 : Nat) (w : World) (hr : Reads w w.heap.size 2 A1 q.b.rs.length (cellsR q.b.rs)) (hl : q.b.rs.length ≤ 1000000) (hg : HasET w) (hm : mayRq q) :
    Calls Tryz.prog 17 #[(.agg #[.int .i8 q.kd, .int .i64 q.tid, .int .i64 q.tm, .int .i64 q.pid, .int .i64 q.ep, .int .i64 q.part, .int .i64 q.grp, .int .i64 q.off, .int .i64 q.most, .bool q.yes, .int .i64 q.b.pid, .int .i64 q.b.ep, .int .i64 q.b.seq, .bool q.b.txn, .slice A1 q.b.rs.length c1])] w (WrOk (encRq q) w) := by
  refine (rqWrite_v q A1 c1 w hr hl hg hm.1 hm.2.1).mono ?_
  rintro e w' (⟨_, h⟩ | ⟨h, _⟩)
  · exact h
  · exact absurd ((strike_bare q).2 hm.2.2) h
theorem rqWrite_no (q : Rq) (A1 : Option Addr) (c1 : Nat) (w : World) (hr : Reads w w.heap.size 2 A1 q.b.rs.length (cellsR q.b.rs)) (hl : q.b.rs.length ≤ 1000000) (hg : HasET w) (hm : ¬ mayRq q) :
    Calls Tryz.prog 17 #[(.agg #[.int .i8 q.kd, .int .i64 q.tid, .int .i64 q.tm, .int .i64 q.pid, .int .i64 q.ep, .int .i64 q.part, .int .i64 q.grp, .int .i64 q.off, .int .i64 q.most, .bool q.yes, .int .i64 q.b.pid, .int .i64 q.b.ep, .int .i64 q.b.seq, .bool q.b.txn, .slice A1 q.b.rs.length c1])] w (WrNo w) := by
  by_cases hk : 0 ≤ q.kd ∧ q.kd ≤ 9
  · by_cases hv : ∀ f ∈ flOf q.kd, (cF f).v (q.get f)
    · refine (rqWrite_v q A1 c1 w hr hl hg hk hv).mono ?_
      rintro e w' (⟨h, _⟩ | ⟨_, h⟩)
      · exact absurd ⟨hk, hv, (strike_bare q).1 h⟩ hm
      · exact h
    · exact rqWrite_x q A1 c1 w hr hg (.inr ⟨hk, hv⟩)
  · exact rqWrite_x q A1 c1 w hr hg (.inl hk)

set_option maxRecDepth 100000 in
set_option maxHeartbeats 2000000 in
theorem rqMay_ok (q : Rq) (A1 : Option Addr) (c1 : Nat) (w : World) (hr : Reads w w.heap.size 2 A1 q.b.rs.length (cellsR q.b.rs)) (hl : q.b.rs.length ≤ 1000000) (hg : HasET w) (hm : mayRq q) :
    Calls Tryz.prog 9 #[(.agg #[.int .i8 q.kd, .int .i64 q.tid, .int .i64 q.tm, .int .i64 q.pid, .int .i64 q.ep, .int .i64 q.part, .int .i64 q.grp, .int .i64 q.off, .int .i64 q.most, .bool q.yes, .int .i64 q.b.pid, .int .i64 q.b.ep, .int .i64 q.b.seq, .bool q.b.txn, .slice A1 q.b.rs.length c1])] w fun e w' => e = .returned (.bool true) ∧ Below w.heap.size w w' := by
  have B0 := Lib.hid (bal (Below.refl w.heap.size w) (.cells #[.int .i8 q.kd, .int .i64 q.tid, .int .i64 q.tm, .int .i64 q.pid, .int .i64 q.ep, .int .i64 q.part, .int .i64 q.grp, .int .i64 q.off, .int .i64 q.most, .bool q.yes, .int .i64 q.b.pid, .int .i64 q.b.ep, .int .i64 q.b.seq, .bool q.b.txn, .slice A1 q.b.rs.length c1] 27))
  have W1 := Lib.hid (rqWrite_ok q A1 c1 (w.alloc (.cells #[.int .i8 q.kd, .int .i64 q.tid, .int .i64 q.tm, .int .i64 q.pid, .int .i64 q.ep, .int .i64 q.part, .int .i64 q.grp, .int .i64 q.off, .int .i64 q.most, .bool q.yes, .int .i64 q.b.pid, .int .i64 q.b.ep, .int .i64 q.b.seq, .bool q.b.txn, .slice A1 q.b.rs.length c1] 27)) ((hr.alloc (Nat.le_refl _) _).more (by simp)) hl (hg.up B0.out) hm)
  clear hr hg hm
  go_enter Tryz.func9, Tryz.ntmps9
  go_wp2_with fail
  refine W1.out.mono ?_
  rintro e w1 ⟨A, c, rfl, r1, hc, b1⟩
  have B1 := Lib.hid (btrans B0.out b1)
  clear r1 hc b1
  go_wp2_with fail
  go_ret
  exact ⟨rfl, B1.out⟩
set_option maxRecDepth 100000 in
set_option maxHeartbeats 2000000 in
theorem rqMay_no (q : Rq) (A1 : Option Addr) (c1 : Nat) (w : World) (hr : Reads w w.heap.size 2 A1 q.b.rs.length (cellsR q.b.rs)) (hl : q.b.rs.length ≤ 1000000) (hg : HasET w) (hm : ¬ mayRq q) :
    Calls Tryz.prog 9 #[(.agg #[.int .i8 q.kd, .int .i64 q.tid, .int .i64 q.tm, .int .i64 q.pid, .int .i64 q.ep, .int .i64 q.part, .int .i64 q.grp, .int .i64 q.off, .int .i64 q.most, .bool q.yes, .int .i64 q.b.pid, .int .i64 q.b.ep, .int .i64 q.b.seq, .bool q.b.txn, .slice A1 q.b.rs.length c1])] w fun e w' => e = .returned (.bool false) ∧ Below w.heap.size w w' := by
  have B0 := Lib.hid (bal (Below.refl w.heap.size w) (.cells #[.int .i8 q.kd, .int .i64 q.tid, .int .i64 q.tm, .int .i64 q.pid, .int .i64 q.ep, .int .i64 q.part, .int .i64 q.grp, .int .i64 q.off, .int .i64 q.most, .bool q.yes, .int .i64 q.b.pid, .int .i64 q.b.ep, .int .i64 q.b.seq, .bool q.b.txn, .slice A1 q.b.rs.length c1] 27))
  have W1 := Lib.hid (rqWrite_no q A1 c1 (w.alloc (.cells #[.int .i8 q.kd, .int .i64 q.tid, .int .i64 q.tm, .int .i64 q.pid, .int .i64 q.ep, .int .i64 q.part, .int .i64 q.grp, .int .i64 q.off, .int .i64 q.most, .bool q.yes, .int .i64 q.b.pid, .int .i64 q.b.ep, .int .i64 q.b.seq, .bool q.b.txn, .slice A1 q.b.rs.length c1] 27)) ((hr.alloc (Nat.le_refl _) _).more (by simp)) hl (hg.up B0.out) hm)
  clear hr hg hm
  go_enter Tryz.func9, Tryz.ntmps9
  go_wp2_with fail
  refine W1.out.mono ?_
  rintro e w1 ⟨b, rfl, hb, b1⟩
  have B1 := Lib.hid (btrans B0.out b1)
  clear hb b1
  go_wp2_with fail
  go_ret
  exact ⟨rfl, B1.out⟩
set_option maxRecDepth 100000 in
set_option maxHeartbeats 2000000 in
theorem rqBytes_ok (q : Rq) (A1 : Option Addr) (c1 : Nat) (w : World) (hr : Reads w w.heap.size 2 A1 q.b.rs.length (cellsR q.b.rs)) (hl : q.b.rs.length ≤ 1000000) (hg : HasET w) (hm : mayRq q) :
    Calls Tryz.prog 7 #[(.agg #[.int .i8 q.kd, .int .i64 q.tid, .int .i64 q.tm, .int .i64 q.pid, .int .i64 q.ep, .int .i64 q.part, .int .i64 q.grp, .int .i64 q.off, .int .i64 q.most, .bool q.yes, .int .i64 q.b.pid, .int .i64 q.b.ep, .int .i64 q.b.seq, .bool q.b.txn, .slice A1 q.b.rs.length c1])] w (BytesPost (encRq q) 0 w) := by
  have B0 := Lib.hid (bal (Below.refl w.heap.size w) (.cells #[.int .i8 q.kd, .int .i64 q.tid, .int .i64 q.tm, .int .i64 q.pid, .int .i64 q.ep, .int .i64 q.part, .int .i64 q.grp, .int .i64 q.off, .int .i64 q.most, .bool q.yes, .int .i64 q.b.pid, .int .i64 q.b.ep, .int .i64 q.b.seq, .bool q.b.txn, .slice A1 q.b.rs.length c1] 27))
  have W1 := Lib.hid (rqWrite_ok q A1 c1 (w.alloc (.cells #[.int .i8 q.kd, .int .i64 q.tid, .int .i64 q.tm, .int .i64 q.pid, .int .i64 q.ep, .int .i64 q.part, .int .i64 q.grp, .int .i64 q.off, .int .i64 q.most, .bool q.yes, .int .i64 q.b.pid, .int .i64 q.b.ep, .int .i64 q.b.seq, .bool q.b.txn, .slice A1 q.b.rs.length c1] 27)) ((hr.alloc (Nat.le_refl _) _).more (by simp)) hl (hg.up B0.out) hm)
  clear hr hg hm
  generalize encRq q = L at *
  go_enter Tryz.func7, Tryz.ntmps7
  go_wp2_with fail
  refine W1.out.mono ?_
  rintro e w1 ⟨A, c, rfl, r1, hc, b1⟩
  have B1 := Lib.hid (btrans B0.out b1)
  have R1 := Lib.hid r1
  clear r1 b1
  go_wp2_with fail
  go_ret2
  exact ⟨A, c, rfl, R1.out, hc, B1.out⟩
set_option maxRecDepth 100000 in
set_option maxHeartbeats 2000000 in
theorem rqBytes_no (q : Rq) (A1 : Option Addr) (c1 : Nat) (w : World) (hr : Reads w w.heap.size 2 A1 q.b.rs.length (cellsR q.b.rs)) (hl : q.b.rs.length ≤ 1000000) (hg : HasET w) (hm : ¬ mayRq q) :
    Calls Tryz.prog 7 #[(.agg #[.int .i8 q.kd, .int .i64 q.tid, .int .i64 q.tm, .int .i64 q.pid, .int .i64 q.ep, .int .i64 q.part, .int .i64 q.grp, .int .i64 q.off, .int .i64 q.most, .bool q.yes, .int .i64 q.b.pid, .int .i64 q.b.ep, .int .i64 q.b.seq, .bool q.b.txn, .slice A1 q.b.rs.length c1])] w (BytesPost [] 2 w) := by
  have B0 := Lib.hid (bal (Below.refl w.heap.size w) (.cells #[.int .i8 q.kd, .int .i64 q.tid, .int .i64 q.tm, .int .i64 q.pid, .int .i64 q.ep, .int .i64 q.part, .int .i64 q.grp, .int .i64 q.off, .int .i64 q.most, .bool q.yes, .int .i64 q.b.pid, .int .i64 q.b.ep, .int .i64 q.b.seq, .bool q.b.txn, .slice A1 q.b.rs.length c1] 27))
  have W1 := Lib.hid (rqWrite_no q A1 c1 (w.alloc (.cells #[.int .i8 q.kd, .int .i64 q.tid, .int .i64 q.tm, .int .i64 q.pid, .int .i64 q.ep, .int .i64 q.part, .int .i64 q.grp, .int .i64 q.off, .int .i64 q.most, .bool q.yes, .int .i64 q.b.pid, .int .i64 q.b.ep, .int .i64 q.b.seq, .bool q.b.txn, .slice A1 q.b.rs.length c1] 27)) ((hr.alloc (Nat.le_refl _) _).more (by simp)) hl (hg.up B0.out) hm)
  have HG := Lib.hid (fun W (h : Below w.heap.size w W) => hg.up h)
  clear hr hg hm
  go_enter Tryz.func7, Tryz.ntmps7
  go_wp2_with fail
  refine W1.out.mono ?_
  rintro e w1 ⟨b, rfl, hb, b1⟩
  have B1 := Lib.hid (btrans B0.out b1)
  have C1 := Lib.hid (code_rq b 2 w1 (HG.out _ B1.out) hb)
  clear hb b1
  go_wp2_with fail
  refine C1.out.mono ?_
  rintro e w2 ⟨rfl, b2⟩
  have B2 := Lib.hid (btrans B1.out b2)
  clear b2
  go_wp2_with fail
  go_ret2
  exact ⟨none, 0, rfl, Reads.none_, Nat.le_refl _, B2.out⟩
end Go.Proofs.YtcockikekgmfkaaGreatDoor
namespace Go.Proofs.YtcockikekgmfkaaGreatDoor
open Go.RowKit

def RqRd (q : Rq) (n : Int) (w : World) (e : Ending) (w' : World) : Prop :=
  ∃ A5 c5, e = .returned (.tuple #[(.agg #[.int .i8 q.kd, .int .i64 q.tid, .int .i64 q.tm, .int .i64 q.pid, .int .i64 q.ep, .int .i64 q.part, .int .i64 q.grp, .int .i64 q.off, .int .i64 q.most, .bool q.yes, .int .i64 q.b.pid, .int .i64 q.b.ep, .int .i64 q.b.seq, .bool q.b.txn, .slice A5 q.b.rs.length c5]), .int .i64 n]) ∧ w'.ownsRow w.heap.size 41 2 (.slice A5 q.b.rs.length c5) q.b.rs.length (cellsR q.b.rs) ∧ Below w.heap.size w w'
theorem wrap_kd {k : Int} (h : 0 ≤ k ∧ k ≤ 9) : IntKind.i8.wrap k = k := by
  have hh : k = 0 ∨ k = 1 ∨ k = 2 ∨ k = 3 ∨ k = 4 ∨ k = 5 ∨ k = 6 ∨ k = 7 ∨ k = 8 ∨ k = 9 := by omega
  rcases hh with rfl | rfl | rfl | rfl | rfl | rfl | rfl | rfl | rfl | rfl <;> decide
abbrev rq0 : Array Value := #[.int .i8 0, .int .i64 0, .int .i64 0, .int .i64 0, .int .i64 0, .int .i64 0, .int .i64 0, .int .i64 0, .int .i64 0, .bool false, .int .i64 0, .int .i64 0, .int .i64 0, .bool false, .slice none 0 0]

theorem blk_set15 {W : World} {b : Nat} {T : TypeId} {c0 c1 c2 c3 c4 c5 c6 c7 c8 c9 c10 c11 c12 c13 c14 v0 v1 v2 v3 v4 v5 v6 v7 v8 v9 v10 v11 v12 v13 v14 : Value} (h : Blk W b T #[c0, c1, c2, c3, c4, c5, c6, c7, c8, c9, c10, c11, c12, c13, c14]) : Blk (((((((((((((((W.setCell ⟨b, 0, none⟩ v0).setCell ⟨b, 1, none⟩ v1).setCell ⟨b, 2, none⟩ v2).setCell ⟨b, 3, none⟩ v3).setCell ⟨b, 4, none⟩ v4).setCell ⟨b, 5, none⟩ v5).setCell ⟨b, 6, none⟩ v6).setCell ⟨b, 7, none⟩ v7).setCell ⟨b, 8, none⟩ v8).setCell ⟨b, 9, none⟩ v9).setCell ⟨b, 10, none⟩ v10).setCell ⟨b, 11, none⟩ v11).setCell ⟨b, 12, none⟩ v12).setCell ⟨b, 13, none⟩ v13).setCell ⟨b, 14, none⟩ v14) b T #[v0, v1, v2, v3, v4, v5, v6, v7, v8, v9, v10, v11, v12, v13, v14] := by
  have h0 := h.set_ 0 v0
  simp only [List.setIfInBounds_toArray, List.set_cons_zero, List.set_cons_succ] at h0
  have h1 := h0.set_ 1 v1
  simp only [List.setIfInBounds_toArray, List.set_cons_zero, List.set_cons_succ] at h1
  have h2 := h1.set_ 2 v2
  simp only [List.setIfInBounds_toArray, List.set_cons_zero, List.set_cons_succ] at h2
  have h3 := h2.set_ 3 v3
  simp only [List.setIfInBounds_toArray, List.set_cons_zero, List.set_cons_succ] at h3
  have h4 := h3.set_ 4 v4
  simp only [List.setIfInBounds_toArray, List.set_cons_zero, List.set_cons_succ] at h4
  have h5 := h4.set_ 5 v5
  simp only [List.setIfInBounds_toArray, List.set_cons_zero, List.set_cons_succ] at h5
  have h6 := h5.set_ 6 v6
  simp only [List.setIfInBounds_toArray, List.set_cons_zero, List.set_cons_succ] at h6
  have h7 := h6.set_ 7 v7
  simp only [List.setIfInBounds_toArray, List.set_cons_zero, List.set_cons_succ] at h7
  have h8 := h7.set_ 8 v8
  simp only [List.setIfInBounds_toArray, List.set_cons_zero, List.set_cons_succ] at h8
  have h9 := h8.set_ 9 v9
  simp only [List.setIfInBounds_toArray, List.set_cons_zero, List.set_cons_succ] at h9
  have h10 := h9.set_ 10 v10
  simp only [List.setIfInBounds_toArray, List.set_cons_zero, List.set_cons_succ] at h10
  have h11 := h10.set_ 11 v11
  simp only [List.setIfInBounds_toArray, List.set_cons_zero, List.set_cons_succ] at h11
  have h12 := h11.set_ 12 v12
  simp only [List.setIfInBounds_toArray, List.set_cons_zero, List.set_cons_succ] at h12
  have h13 := h12.set_ 13 v13
  simp only [List.setIfInBounds_toArray, List.set_cons_zero, List.set_cons_succ] at h13
  have h14 := h13.set_ 14 v14
  simp only [List.setIfInBounds_toArray, List.set_cons_zero, List.set_cons_succ] at h14
  exact h14

set_option maxRecDepth 100000 in
set_option maxHeartbeats 1000000 in
theorem read_ret (q : Rq) (A5 : Option Addr) (c5 : Nat) (n : Int) (tmps : Array Value) (b : Nat) (W : World) (h2 : tmps[2]?.getD undef = .pointer (some ⟨b, 0, none⟩)) (h3 : tmps[3]?.getD undef = .int .i64 n) (hK : Blk W b 27 #[.int .i8 q.kd, .int .i64 q.tid, .int .i64 q.tm, .int .i64 q.pid, .int .i64 q.ep, .int .i64 q.part, .int .i64 q.grp, .int .i64 q.off, .int .i64 q.most, .bool q.yes, .int .i64 q.b.pid, .int .i64 q.b.ep, .int .i64 q.b.seq, .bool q.b.txn, .slice A5 q.b.rs.length c5]) :
    (results Tryz.f15 tmps).run Tryz.prog W = .ok (.tuple #[(.agg #[.int .i8 q.kd, .int .i64 q.tid, .int .i64 q.tm, .int .i64 q.pid, .int .i64 q.ep, .int .i64 q.part, .int .i64 q.grp, .int .i64 q.off, .int .i64 q.most, .bool q.yes, .int .i64 q.b.pid, .int .i64 q.b.ep, .int .i64 q.b.seq, .bool q.b.txn, .slice A5 q.b.rs.length c5]), .int .i64 n]) W := by
  have r0 := hK.cell 0
  have r1 := hK.cell 1
  have r2 := hK.cell 2
  have r3 := hK.cell 3
  have r4 := hK.cell 4
  have r5 := hK.cell 5
  have r6 := hK.cell 6
  have r7 := hK.cell 7
  have r8 := hK.cell 8
  have r9 := hK.cell 9
  have r10 := hK.cell 10
  have r11 := hK.cell 11
  have r12 := hK.cell 12
  have r13 := hK.cell 13
  have r14 := hK.cell 14
  clear hK
  simp [results, Tryz.results15, go_sem, h2, h3, r0, r1, r2, r3, r4, r5, r6, r7, r8, r9, r10, r11, r12, r13, r14]

set_option maxRecDepth 100000 in
set_option maxHeartbeats 8000000 in
theorem rqRead_any (A : Option Addr) (l : List UInt8) (c : Nat) (w : World) (hr : Reads w w.heap.size 1 A l.length (cellsB l)) (hl : l.length ≤ 100000) (hg : HasET w) :
    Calls Tryz.prog 15 #[.slice A l.length c] w (RqRd (readRq l).1 (readRq l).2 w) := by
  have hraw := readRq_raw l
  obtain ⟨s, hs⟩ : ∃ s, s = bs l := ⟨_, rfl⟩
  have hlb : lb s = l := by rw [hs, lb_bs]
  have hsz : s.size = l.length := by rw [hs, size_bs]
  obtain ⟨kd, j1, b1, hz1⟩ : ∃ v j b, rdNum (lb s) 0 false 0 9 = (v, j, b) := ⟨_, _, _, rfl⟩
  have hkd : 0 ≤ kd ∧ kd ≤ 9 := by rcases rdNum_rng hz1 with h | h <;> omega
  obtain ⟨a2, j2, b2, hz2⟩ : ∃ a j b, rdFs rdF (flOf kd) zeroF (lb s) j1 b1 = (a, j, b) := ⟨_, _, _, rfl⟩
  have hrw : rdRqRaw l = (Rq.of kd a2, j2, b2) := by unfold rdRqRaw; rw [← hlb, hz1]; simp only; rw [hz2]
  rw [hrw] at hraw
  simp only at hraw
  have ht : ∀ W, Below w.heap.size w W → (convert 30 9 (.slice A l.length c)).run Tryz.prog W = .ok (.string s) W := fun W hW => by
    have := run_string_of (P := Tryz.prog) (src := 30) (dst := 9) (c := c) Tryz.underlying30 Tryz.underlying5 Tryz.underlying9 (hr.below hW)
    rw [← hs] at this
    exact this
  have t1 := ht (w.alloc (.cells rq0 27)) (bal (Below.refl _ _) _)
  obtain ⟨W0, hW0⟩ : ∃ W0, W0 = (((w.alloc (.cells rq0 27)).alloc (.cells #[.string s, .int .i64 0, .bool false] 77)).alloc (.cells #[.pointer (some ⟨w.heap.size + 1, 0, none⟩), .int .i8 0, .int .i64 0, .int .i64 0, .int .i64 0, .int .i64 0, .int .i64 0, .int .i64 0, .int .i64 0, .int .i64 0, .bool false, .int .i64 0, .int .i64 0, .int .i64 0, .bool false, .slice none 0 0, .slice none 0 0, .nilIface] 58)) := ⟨_, rfl⟩
  have hs0 : W0.heap.size = w.heap.size + 1 + 1 + 1 := by rw [hW0]; simp
  have B0 : Below w.heap.size w W0 := by rw [hW0]; exact bal (bal (bal (Below.refl _ _) _) _) _
  have K0 : Blk W0 w.heap.size 27 rq0 := by rw [hW0]; exact ((blk_new w _ _ rfl).alloc _).alloc _
  have KR : RdB W0 (w.heap.size + 1) s 0 false := by rw [hW0]; exact (blk_new _ _ _ (by simp)).alloc _
  have KG : RqB W0 (w.heap.size + 1 + 1) (rqC (.pointer (some ⟨w.heap.size + 1, 0, none⟩)) Rq0 none 0 (.slice none 0 0) .nilIface) := by rw [hW0]; exact blk_new _ _ _ (by simp)
  have RK : RdOk (w.heap.size + 1 + 1) W0 (w.heap.size + 1) s 0 false := ⟨KR, Nat.zero_le _, hg.up B0, by omega, by omega, Nat.lt_of_lt_of_le hg.lt (by omega), by omega⟩
  have N1 := Lib.hid (RNum_z hz1 RK)
  have HR := Lib.hid hraw
  have HZ2 := Lib.hid hz2
  have HSZ := Lib.hid hsz
  have HW := Lib.hid hW0
  have HB0 := Lib.hid B0
  have HK0 := Lib.hid K0
  have HKG := Lib.hid KG
  have HG := Lib.hid hg
  have x0 : W0.cell? ⟨w.heap.size + 1 + 1, 0, none⟩ = some (.pointer (some ⟨w.heap.size + 1, 0, none⟩)) := KG.cell 0
  have cv : IntKind.i8.wrap kd = kd := wrap_kd hkd
  obtain ⟨hk0, hk9⟩ := hkd
  clear hraw hlb hsz hz1 hz2 hrw hs ht B0 K0 KR KG RK hW0 hr hg
  go_enter Tryz.func15, Tryz.ntmps15
  go_wp2_with fail
  refine (RNew_any s _).mono ?_
  rintro e w1 ⟨rfl, rfl⟩
  go_upto_region 2 with (fail)
  rw [← HW.out]
  clear t1
  go_wp2_with fail
  refine N1.out.mono ?_
  rintro e w1 ⟨rfl, r1, o1⟩
  have k1 := o1.blk HKG.out (by omega)
  have y1 : w1.cell? ⟨w.heap.size + 1 + 1, 1, none⟩ = some (.int .i8 0) := k1.cell 1
  have f1 := k1.frozen 1
  have K1 := Lib.hid (k1.set_ 1 (.int .i8 kd))
  have R1 := Lib.hid (r1.set (p := w.heap.size + 1 + 1) (o := 1) (Nat.le_refl _) (.int .i8 kd))
  have hsz1 := o1.size
  have O1 := Lib.hid (((o1.mono (S' := fun x => x = w.heap.size + 1 + 1 ∨ x = w.heap.size + 1) (fun x _ hx => .inr hx)).set (g := w.heap.size + 1 + 1) (o := 1) (.inl (.inl rfl)) (.int .i8 kd)))
  clear k1 r1 o1 x0
  have AR := Lib.hid (all_r (w.heap.size + 1 + 1) (w.heap.size + 1 + 1) (w.heap.size + 1) s j1 b1 kd zeroF _ ⟨none, 0, K1.out, R1.out, Nat.le_refl _, World.ownsRow_nil _ _ _ _⟩ ⟨hk0, hk9⟩)
  rw [HZ2.out] at AR
  go_wp2_with fail
  refine AR.out.mono ?_
  intro e w2 hp
  obtain ⟨rfl, oo, hst⟩ := hp
  have O2 := Lib.hid (O1.out.trans oo)
  have KT := O2.out.blk HK0.out (by omega)
  have hsz2 := O2.out.size
  have BE := Lib.hid (HB0.out.trans (O2.out.below HB0.out.size (fun x hx => by omega)))
  have HST := Lib.hid hst
  clear oo y1 f1 hst
  have u0 := KT.cell 0
  have f0 := KT.frozen 0
  have u1 := KT.cell 1
  have f1 := KT.frozen 1
  have u2 := KT.cell 2
  have f2 := KT.frozen 2
  have u3 := KT.cell 3
  have f3 := KT.frozen 3
  have u4 := KT.cell 4
  have f4 := KT.frozen 4
  have u5 := KT.cell 5
  have f5 := KT.frozen 5
  have u6 := KT.cell 6
  have f6 := KT.frozen 6
  have u7 := KT.cell 7
  have f7 := KT.frozen 7
  have u8 := KT.cell 8
  have f8 := KT.frozen 8
  have u9 := KT.cell 9
  have f9 := KT.frozen 9
  have u10 := KT.cell 10
  have f10 := KT.frozen 10
  have u11 := KT.cell 11
  have f11 := KT.frozen 11
  have u12 := KT.cell 12
  have f12 := KT.frozen 12
  have u13 := KT.cell 13
  have f13 := KT.frozen 13
  have u14 := KT.cell 14
  have f14 := KT.frozen 14
  rcases HST.out with hq | ⟨hb, eb, x17, x18⟩
  · obtain ⟨Ab, cb, h1, h2, h3, h4⟩ := hq
    have E1 := Lib.hid (REnd_any (w.heap.size + 1) s j2 b2 w2 h2.1)
    have x0 : w2.cell? ⟨w.heap.size + 1 + 1, 0, none⟩ = some (.pointer (some ⟨w.heap.size + 1, 0, none⟩)) := h1.cell 0
    have x17 : w2.cell? ⟨w.heap.size + 1 + 1, 17, none⟩ = some .nilIface := h1.cell 17
    have H1 := Lib.hid h1
    have H4 := Lib.hid h4
    clear h1 h2 h3 h4 HST AR
    by_cases hE : b2 = true ∨ j2 ≠ s.size
    · have he : endOf s.size j2 b2 = 70 := by unfold endOf; rw [if_pos hE]
      rw [he] at E1
      have hrr : readRq l = (Rq0, 70) := by rw [HR.out, if_pos (by rw [← HSZ.out]; exact hE)]
      have HRR := Lib.hid hrr
      clear hE he hrr
      go_wp2_with fail
      refine E1.out.mono ?_
      rintro e w3 ⟨rfl, n3, rfl⟩
      clear x0 x17
      go_wp2_with fail
      refine bodyPost_ret (v := .tuple #[.agg #[.int .i8 0, .int .i64 0, .int .i64 0, .int .i64 0, .int .i64 0, .int .i64 0, .int .i64 0, .int .i64 0, .int .i64 0, .bool false, .int .i64 0, .int .i64 0, .int .i64 0, .bool false, .slice none 0 0], .int .i64 70]) (read_ret Rq0 none 0 70 _ w.heap.size _ rfl rfl (blk_set15 (KT.drewN n3))) rfl ?_
      rw [HRR.out]
      have bb := below_drewN BE.out n3
      exact ⟨none, 0, rfl, World.ownsRow_nil _ _ _ _, (bset (bset (bset (bset (bset (bset (bset (bset (bset (bset (bset (bset (bset (bset (bset bb (Nat.le_refl _) _) (Nat.le_refl _) _) (Nat.le_refl _) _) (Nat.le_refl _) _) (Nat.le_refl _) _) (Nat.le_refl _) _) (Nat.le_refl _) _) (Nat.le_refl _) _) (Nat.le_refl _) _) (Nat.le_refl _) _) (Nat.le_refl _) _) (Nat.le_refl _) _) (Nat.le_refl _) _) (Nat.le_refl _) _) (Nat.le_refl _) _)⟩
    · have he : endOf s.size j2 b2 = 0 := by unfold endOf; rw [if_neg hE]
      rw [he] at E1
      have hrr : readRq l = (Rq.of kd a2, 0) := by rw [HR.out, if_neg (by rw [← HSZ.out]; exact hE)]
      have HRR := Lib.hid hrr
      generalize Rq.of kd a2 = q at *
      clear hE he hrr
      have yy0 : w2.cell? ⟨w.heap.size + 1 + 1, 1, none⟩ = some (.int .i8 q.kd) := H1.out.cell 1
      have yy1 : w2.cell? ⟨w.heap.size + 1 + 1, 2, none⟩ = some (.int .i64 q.tid) := H1.out.cell 2
      have yy2 : w2.cell? ⟨w.heap.size + 1 + 1, 3, none⟩ = some (.int .i64 q.tm) := H1.out.cell 3
      have yy3 : w2.cell? ⟨w.heap.size + 1 + 1, 4, none⟩ = some (.int .i64 q.pid) := H1.out.cell 4
      have yy4 : w2.cell? ⟨w.heap.size + 1 + 1, 5, none⟩ = some (.int .i64 q.ep) := H1.out.cell 5
      have yy5 : w2.cell? ⟨w.heap.size + 1 + 1, 6, none⟩ = some (.int .i64 q.part) := H1.out.cell 6
      have yy6 : w2.cell? ⟨w.heap.size + 1 + 1, 7, none⟩ = some (.int .i64 q.grp) := H1.out.cell 7
      have yy7 : w2.cell? ⟨w.heap.size + 1 + 1, 8, none⟩ = some (.int .i64 q.off) := H1.out.cell 8
      have yy8 : w2.cell? ⟨w.heap.size + 1 + 1, 9, none⟩ = some (.int .i64 q.most) := H1.out.cell 9
      have yy9 : w2.cell? ⟨w.heap.size + 1 + 1, 10, none⟩ = some (.bool q.yes) := H1.out.cell 10
      have yy10 : w2.cell? ⟨w.heap.size + 1 + 1, 11, none⟩ = some (.int .i64 q.b.pid) := H1.out.cell 11
      have yy11 : w2.cell? ⟨w.heap.size + 1 + 1, 12, none⟩ = some (.int .i64 q.b.ep) := H1.out.cell 12
      have yy12 : w2.cell? ⟨w.heap.size + 1 + 1, 13, none⟩ = some (.int .i64 q.b.seq) := H1.out.cell 13
      have yy13 : w2.cell? ⟨w.heap.size + 1 + 1, 14, none⟩ = some (.bool q.b.txn) := H1.out.cell 14
      have yy14 : w2.cell? ⟨w.heap.size + 1 + 1, 15, none⟩ = some (.slice Ab q.b.rs.length cb) := H1.out.cell 15
      go_wp2_with fail
      refine E1.out.mono ?_
      rintro e w3 ⟨rfl, n3, rfl⟩
      clear x0 x17
      go_wp2_with fail
      refine bodyPost_ret (v := .tuple #[.agg #[.int .i8 q.kd, .int .i64 q.tid, .int .i64 q.tm, .int .i64 q.pid, .int .i64 q.ep, .int .i64 q.part, .int .i64 q.grp, .int .i64 q.off, .int .i64 q.most, .bool q.yes, .int .i64 q.b.pid, .int .i64 q.b.ep, .int .i64 q.b.seq, .bool q.b.txn, .slice Ab q.b.rs.length cb], .int .i64 0]) (read_ret q Ab cb 0 _ w.heap.size _ rfl rfl (blk_set15 (KT.drewN n3))) rfl ?_
      rw [HRR.out]
      have bb := below_drewN BE.out n3
      have ho := own_below (own_base H4.out (show w.heap.size + 1 ≤ w.heap.size + 1 + 1 + 1 by omega)) (below_drewN (Below.refl _ _) n3)
      exact ⟨Ab, cb, rfl, own_base (base := w.heap.size + 1) (own_set (own_set (own_set (own_set (own_set (own_set (own_set (own_set (own_set (own_set (own_set (own_set (own_set (own_set (own_set ho (Nat.lt_succ_self _) _) (Nat.lt_succ_self _) _) (Nat.lt_succ_self _) _) (Nat.lt_succ_self _) _) (Nat.lt_succ_self _) _) (Nat.lt_succ_self _) _) (Nat.lt_succ_self _) _) (Nat.lt_succ_self _) _) (Nat.lt_succ_self _) _) (Nat.lt_succ_self _) _) (Nat.lt_succ_self _) _) (Nat.lt_succ_self _) _) (Nat.lt_succ_self _) _) (Nat.lt_succ_self _) _) (Nat.lt_succ_self _) _) (by omega), (bset (bset (bset (bset (bset (bset (bset (bset (bset (bset (bset (bset (bset (bset (bset bb (Nat.le_refl _) _) (Nat.le_refl _) _) (Nat.le_refl _) _) (Nat.le_refl _) _) (Nat.le_refl _) _) (Nat.le_refl _) _) (Nat.le_refl _) _) (Nat.le_refl _) _) (Nat.le_refl _) _) (Nat.le_refl _) _) (Nat.le_refl _) _) (Nat.le_refl _) _) (Nat.le_refl _) _) (Nat.le_refl _) _) (Nat.le_refl _) _)⟩
  · have hrr : readRq l = (Rq0, 70) := by rw [HR.out, if_pos (.inl hb)]
    have HRR := Lib.hid hrr
    have C1 := Lib.hid (code_rq eb 70 w2 (HG.out.up BE.out) x18)
    have X17 := Lib.hid x17
    have x18' := x18
    clear hrr hb x18 x18' HST AR
    go_wp2_with fail
    refine C1.out.mono ?_
    rintro e w3 ⟨rfl, b3⟩
    have kt := KT.below b3 KT.lt
    have BE3 := Lib.hid (btrans BE.out b3)
    clear x17 b3
    have v0 := kt.cell 0
    have g0 := kt.frozen 0
    have v1 := kt.cell 1
    have g1 := kt.frozen 1
    have v2 := kt.cell 2
    have g2 := kt.frozen 2
    have v3 := kt.cell 3
    have g3 := kt.frozen 3
    have v4 := kt.cell 4
    have g4 := kt.frozen 4
    have v5 := kt.cell 5
    have g5 := kt.frozen 5
    have v6 := kt.cell 6
    have g6 := kt.frozen 6
    have v7 := kt.cell 7
    have g7 := kt.frozen 7
    have v8 := kt.cell 8
    have g8 := kt.frozen 8
    have v9 := kt.cell 9
    have g9 := kt.frozen 9
    have v10 := kt.cell 10
    have g10 := kt.frozen 10
    have v11 := kt.cell 11
    have g11 := kt.frozen 11
    have v12 := kt.cell 12
    have g12 := kt.frozen 12
    have v13 := kt.cell 13
    have g13 := kt.frozen 13
    have v14 := kt.cell 14
    have g14 := kt.frozen 14
    go_wp2_with fail
    refine bodyPost_ret (v := .tuple #[.agg #[.int .i8 0, .int .i64 0, .int .i64 0, .int .i64 0, .int .i64 0, .int .i64 0, .int .i64 0, .int .i64 0, .int .i64 0, .bool false, .int .i64 0, .int .i64 0, .int .i64 0, .bool false, .slice none 0 0], .int .i64 70]) (read_ret Rq0 none 0 70 _ w.heap.size _ rfl rfl (blk_set15 kt)) rfl ?_
    rw [HRR.out]
    have bb := BE3.out
    exact ⟨none, 0, rfl, World.ownsRow_nil _ _ _ _, (bset (bset (bset (bset (bset (bset (bset (bset (bset (bset (bset (bset (bset (bset (bset bb (Nat.le_refl _) _) (Nat.le_refl _) _) (Nat.le_refl _) _) (Nat.le_refl _) _) (Nat.le_refl _) _) (Nat.le_refl _) _) (Nat.le_refl _) _) (Nat.le_refl _) _) (Nat.le_refl _) _) (Nat.le_refl _) _) (Nat.le_refl _) _) (Nat.le_refl _) _) (Nat.le_refl _) _) (Nat.le_refl _) _) (Nat.le_refl _) _)⟩
end Go.Proofs.YtcockikekgmfkaaGreatDoor
namespace Go.Proofs.YtcockikekgmfkaaGreatDoor
open Go.RowKit

def qw8 : Rq := ⟨5, 0, 0, 0, 0, 1, 0, 0, 5, true, Bat0⟩
theorem cI_mk {lo hi : Nat} {x : Int} (h0 : 0 ≤ x) (h : lo ≤ x.toNat ∧ x.toNat ≤ hi ∧ x.toNat ≤ maxNum) : (cI lo hi).v x := ⟨h0, h⟩
theorem qw8_may : mayRq qw8 := by
  refine ⟨⟨by decide, by decide⟩, ?_, ?_⟩
  · intro f hf
    cases f
    case part => exact (cI_mk (lo := 0) (hi := 2) (x := 1) (by decide) (by decide))
    case off => exact (cI_mk (lo := 0) (hi := 1048576) (x := 0) (by decide) (by decide))
    case most => exact (cI_mk (lo := 1) (hi := 64) (x := 5) (by decide) (by decide))
    case yes => exact trivial
    all_goals exact absurd hf (by decide)
  · intro f hf
    cases f
    case part => exact absurd (by decide) hf
    case off => exact absurd (by decide) hf
    case most => exact absurd (by decide) hf
    case yes => exact absurd (by decide) hf
    all_goals rfl
theorem qw8_enc : encRq qw8 = [5, 1, 0, 5, 1] := by decide

set_option maxRecDepth 100000 in
set_option maxHeartbeats 2000000 in
theorem wakes08 (w : World) (hg : HasET w) : Calls Tryz.prog 6 #[] w fun e w' => e = .returned (.bool true) ∧ Below w.heap.size w w' := by
  have y := rqBytes_ok qw8 none 0 w Reads.none_ (Nat.zero_le _) hg qw8_may
  rw [qw8_enc] at y
  have Y : Hid (Calls Tryz.prog 7 #[.agg #[.int .i8 5, .int .i64 0, .int .i64 0, .int .i64 0, .int .i64 0, .int .i64 1, .int .i64 0, .int .i64 0, .int .i64 5, .bool true, .int .i64 0, .int .i64 0, .int .i64 0, .bool false, .slice none 0 0]] w (BytesPost [5, 1, 0, 5, 1] 0 w)) := Lib.hid y
  have c9 : Hid (∀ W, Calls Tryz.prog 13 #[.int .i8 9] W fun e w' => e = .returned (.bool true) ∧ W = w') := Lib.hid fun W => Changes_any 9 W
  have c7 : Hid (∀ W, Calls Tryz.prog 13 #[.int .i8 7] W fun e w' => e = .returned (.bool false) ∧ W = w') := Lib.hid fun W => Changes_any 7 W
  clear y hg
  go_enter Tryz.func6, Tryz.ntmps6
  go_wp2_with fail
  refine Y.out.mono ?_
  rintro e w1 ⟨A, c, rfl, r1, hc, b1⟩
  have t1 := run_string_of (P := Tryz.prog) (src := 30) (dst := 9) (c := c) Tryz.underlying30 Tryz.underlying5 Tryz.underlying9 r1
  have B1 := Lib.hid b1
  clear r1 b1
  have e0 : bs [5, 1, 0, 5, 1] = ⟨#[5, 1, 0, 5, 1]⟩ := rfl
  rw [e0] at t1
  clear e0
  simp only [List.length_cons, List.length_nil] at t1
  go_wp2_with fail
  refine (c9.out _).mono ?_
  rintro e w2 ⟨rfl, rfl⟩
  go_wp2_with fail
  refine (c7.out _).mono ?_
  rintro e w2 ⟨rfl, rfl⟩
  go_wp2_with fail
  go_ret
  exact ⟨rfl, B1.out⟩
end Go.Proofs.YtcockikekgmfkaaGreatDoor
