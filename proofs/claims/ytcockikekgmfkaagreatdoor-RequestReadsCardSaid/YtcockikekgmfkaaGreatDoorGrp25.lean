/-
  Layer 8: write, of a request.
  Layer 8: request.Same: the first fields.
  Layer 8: request.Same: fields 4 to 6.
  Layer 8: request.Same: fields 7 to 9.
  Layer 8: request.Same: all alike.
-/
import Derived.Test.YtcockikekgmfkaaGreatDoorGrp24
import Derived.Test.YtcockikekgmfkaaGreatDoorGrp19
import Derived.Deep.RegionLaw
namespace Go.Proofs.YtcockikekgmfkaaGreatDoor
open Go.RowKit

set_option maxRecDepth 100000 in
set_option maxHeartbeats 1000000 in
theorem rqSame_0 (a b : Rq) (A1 A2 : Option Addr) (c1 c2 : Nat) (w : World)  (h0 : ¬ a.kd = b.kd) :
    Calls Tryz.prog 11 #[(.agg #[.int .i8 a.kd, .int .i64 a.tid, .int .i64 a.tm, .int .i64 a.pid, .int .i64 a.ep, .int .i64 a.part, .int .i64 a.grp, .int .i64 a.off, .int .i64 a.most, .bool a.yes, .int .i64 a.b.pid, .int .i64 a.b.ep, .int .i64 a.b.seq, .bool a.b.txn, .slice A1 a.b.rs.length c1]), (.agg #[.int .i8 b.kd, .int .i64 b.tid, .int .i64 b.tm, .int .i64 b.pid, .int .i64 b.ep, .int .i64 b.part, .int .i64 b.grp, .int .i64 b.off, .int .i64 b.most, .bool b.yes, .int .i64 b.b.pid, .int .i64 b.b.ep, .int .i64 b.b.seq, .bool b.b.txn, .slice A2 b.b.rs.length c2])] w fun e w' => e = .returned (.bool (sameRq a b)) ∧ Below w.heap.size w w' := by
  have hfin : sameRq a b = false := by
    rw [← Bool.not_eq_true, sameRq_iff]; rintro rfl; exact h0 rfl
  have HF := Lib.hid hfin
  have d0 : (a.kd == b.kd) = false := eqb_false h0
  have HB := Lib.hid (fun x y => bal (bal (Below.refl w.heap.size w) x) y)
  clear hfin h0
  go_enter Tryz.func11, Tryz.ntmps11
  go_wp2_with fail
  go_ret
  exact ⟨ret_bool HF.out.symm, HB.out _ _⟩
set_option maxRecDepth 100000 in
set_option maxHeartbeats 1000000 in
theorem rqSame_1 (a b : Rq) (A1 A2 : Option Addr) (c1 c2 : Nat) (w : World) (h0 : a.kd = b.kd) (h1 : ¬ a.tid = b.tid) :
    Calls Tryz.prog 11 #[(.agg #[.int .i8 a.kd, .int .i64 a.tid, .int .i64 a.tm, .int .i64 a.pid, .int .i64 a.ep, .int .i64 a.part, .int .i64 a.grp, .int .i64 a.off, .int .i64 a.most, .bool a.yes, .int .i64 a.b.pid, .int .i64 a.b.ep, .int .i64 a.b.seq, .bool a.b.txn, .slice A1 a.b.rs.length c1]), (.agg #[.int .i8 b.kd, .int .i64 b.tid, .int .i64 b.tm, .int .i64 b.pid, .int .i64 b.ep, .int .i64 b.part, .int .i64 b.grp, .int .i64 b.off, .int .i64 b.most, .bool b.yes, .int .i64 b.b.pid, .int .i64 b.b.ep, .int .i64 b.b.seq, .bool b.b.txn, .slice A2 b.b.rs.length c2])] w fun e w' => e = .returned (.bool (sameRq a b)) ∧ Below w.heap.size w w' := by
  have hfin : sameRq a b = false := by
    rw [← Bool.not_eq_true, sameRq_iff]; rintro rfl; exact h1 rfl
  have HF := Lib.hid hfin
  have d0 : (a.kd == b.kd) = true := eqb_true h0
  have d1 : (a.tid == b.tid) = false := eqb_false h1
  have HB := Lib.hid (fun x y => bal (bal (Below.refl w.heap.size w) x) y)
  clear hfin h0 h1
  go_enter Tryz.func11, Tryz.ntmps11
  go_wp2_with fail
  go_ret
  exact ⟨ret_bool HF.out.symm, HB.out _ _⟩
set_option maxRecDepth 100000 in
set_option maxHeartbeats 1000000 in
theorem rqSame_2 (a b : Rq) (A1 A2 : Option Addr) (c1 c2 : Nat) (w : World) (h0 : a.kd = b.kd) (h1 : a.tid = b.tid) (h2 : ¬ a.tm = b.tm) :
    Calls Tryz.prog 11 #[(.agg #[.int .i8 a.kd, .int .i64 a.tid, .int .i64 a.tm, .int .i64 a.pid, .int .i64 a.ep, .int .i64 a.part, .int .i64 a.grp, .int .i64 a.off, .int .i64 a.most, .bool a.yes, .int .i64 a.b.pid, .int .i64 a.b.ep, .int .i64 a.b.seq, .bool a.b.txn, .slice A1 a.b.rs.length c1]), (.agg #[.int .i8 b.kd, .int .i64 b.tid, .int .i64 b.tm, .int .i64 b.pid, .int .i64 b.ep, .int .i64 b.part, .int .i64 b.grp, .int .i64 b.off, .int .i64 b.most, .bool b.yes, .int .i64 b.b.pid, .int .i64 b.b.ep, .int .i64 b.b.seq, .bool b.b.txn, .slice A2 b.b.rs.length c2])] w fun e w' => e = .returned (.bool (sameRq a b)) ∧ Below w.heap.size w w' := by
  have hfin : sameRq a b = false := by
    rw [← Bool.not_eq_true, sameRq_iff]; rintro rfl; exact h2 rfl
  have HF := Lib.hid hfin
  have d0 : (a.kd == b.kd) = true := eqb_true h0
  have d1 : (a.tid == b.tid) = true := eqb_true h1
  have d2 : (a.tm == b.tm) = false := eqb_false h2
  have HB := Lib.hid (fun x y => bal (bal (Below.refl w.heap.size w) x) y)
  clear hfin h0 h1 h2
  go_enter Tryz.func11, Tryz.ntmps11
  go_wp2_with fail
  go_ret
  exact ⟨ret_bool HF.out.symm, HB.out _ _⟩
set_option maxRecDepth 100000 in
set_option maxHeartbeats 1000000 in
theorem rqSame_3 (a b : Rq) (A1 A2 : Option Addr) (c1 c2 : Nat) (w : World) (h0 : a.kd = b.kd) (h1 : a.tid = b.tid) (h2 : a.tm = b.tm) (h3 : ¬ a.pid = b.pid) :
    Calls Tryz.prog 11 #[(.agg #[.int .i8 a.kd, .int .i64 a.tid, .int .i64 a.tm, .int .i64 a.pid, .int .i64 a.ep, .int .i64 a.part, .int .i64 a.grp, .int .i64 a.off, .int .i64 a.most, .bool a.yes, .int .i64 a.b.pid, .int .i64 a.b.ep, .int .i64 a.b.seq, .bool a.b.txn, .slice A1 a.b.rs.length c1]), (.agg #[.int .i8 b.kd, .int .i64 b.tid, .int .i64 b.tm, .int .i64 b.pid, .int .i64 b.ep, .int .i64 b.part, .int .i64 b.grp, .int .i64 b.off, .int .i64 b.most, .bool b.yes, .int .i64 b.b.pid, .int .i64 b.b.ep, .int .i64 b.b.seq, .bool b.b.txn, .slice A2 b.b.rs.length c2])] w fun e w' => e = .returned (.bool (sameRq a b)) ∧ Below w.heap.size w w' := by
  have hfin : sameRq a b = false := by
    rw [← Bool.not_eq_true, sameRq_iff]; rintro rfl; exact h3 rfl
  have HF := Lib.hid hfin
  have d0 : (a.kd == b.kd) = true := eqb_true h0
  have d1 : (a.tid == b.tid) = true := eqb_true h1
  have d2 : (a.tm == b.tm) = true := eqb_true h2
  have d3 : (a.pid == b.pid) = false := eqb_false h3
  have HB := Lib.hid (fun x y => bal (bal (Below.refl w.heap.size w) x) y)
  clear hfin h0 h1 h2 h3
  go_enter Tryz.func11, Tryz.ntmps11
  go_wp2_with fail
  go_ret
  exact ⟨ret_bool HF.out.symm, HB.out _ _⟩
end Go.Proofs.YtcockikekgmfkaaGreatDoor
namespace Go.Proofs.YtcockikekgmfkaaGreatDoor
open Go.RowKit

set_option maxRecDepth 100000 in
set_option maxHeartbeats 1000000 in
theorem rqSame_4 (a b : Rq) (A1 A2 : Option Addr) (c1 c2 : Nat) (w : World) (h0 : a.kd = b.kd) (h1 : a.tid = b.tid) (h2 : a.tm = b.tm) (h3 : a.pid = b.pid) (h4 : ¬ a.ep = b.ep) :
    Calls Tryz.prog 11 #[(.agg #[.int .i8 a.kd, .int .i64 a.tid, .int .i64 a.tm, .int .i64 a.pid, .int .i64 a.ep, .int .i64 a.part, .int .i64 a.grp, .int .i64 a.off, .int .i64 a.most, .bool a.yes, .int .i64 a.b.pid, .int .i64 a.b.ep, .int .i64 a.b.seq, .bool a.b.txn, .slice A1 a.b.rs.length c1]), (.agg #[.int .i8 b.kd, .int .i64 b.tid, .int .i64 b.tm, .int .i64 b.pid, .int .i64 b.ep, .int .i64 b.part, .int .i64 b.grp, .int .i64 b.off, .int .i64 b.most, .bool b.yes, .int .i64 b.b.pid, .int .i64 b.b.ep, .int .i64 b.b.seq, .bool b.b.txn, .slice A2 b.b.rs.length c2])] w fun e w' => e = .returned (.bool (sameRq a b)) ∧ Below w.heap.size w w' := by
  have hfin : sameRq a b = false := by
    rw [← Bool.not_eq_true, sameRq_iff]; rintro rfl; exact h4 rfl
  have HF := Lib.hid hfin
  have d0 : (a.kd == b.kd) = true := eqb_true h0
  have d1 : (a.tid == b.tid) = true := eqb_true h1
  have d2 : (a.tm == b.tm) = true := eqb_true h2
  have d3 : (a.pid == b.pid) = true := eqb_true h3
  have d4 : (a.ep == b.ep) = false := eqb_false h4
  have HB := Lib.hid (fun x y => bal (bal (Below.refl w.heap.size w) x) y)
  clear hfin h0 h1 h2 h3 h4
  go_enter Tryz.func11, Tryz.ntmps11
  go_wp2_with fail
  go_ret
  exact ⟨ret_bool HF.out.symm, HB.out _ _⟩
set_option maxRecDepth 100000 in
set_option maxHeartbeats 1000000 in
theorem rqSame_5 (a b : Rq) (A1 A2 : Option Addr) (c1 c2 : Nat) (w : World) (h0 : a.kd = b.kd) (h1 : a.tid = b.tid) (h2 : a.tm = b.tm) (h3 : a.pid = b.pid) (h4 : a.ep = b.ep) (h5 : ¬ a.part = b.part) :
    Calls Tryz.prog 11 #[(.agg #[.int .i8 a.kd, .int .i64 a.tid, .int .i64 a.tm, .int .i64 a.pid, .int .i64 a.ep, .int .i64 a.part, .int .i64 a.grp, .int .i64 a.off, .int .i64 a.most, .bool a.yes, .int .i64 a.b.pid, .int .i64 a.b.ep, .int .i64 a.b.seq, .bool a.b.txn, .slice A1 a.b.rs.length c1]), (.agg #[.int .i8 b.kd, .int .i64 b.tid, .int .i64 b.tm, .int .i64 b.pid, .int .i64 b.ep, .int .i64 b.part, .int .i64 b.grp, .int .i64 b.off, .int .i64 b.most, .bool b.yes, .int .i64 b.b.pid, .int .i64 b.b.ep, .int .i64 b.b.seq, .bool b.b.txn, .slice A2 b.b.rs.length c2])] w fun e w' => e = .returned (.bool (sameRq a b)) ∧ Below w.heap.size w w' := by
  have hfin : sameRq a b = false := by
    rw [← Bool.not_eq_true, sameRq_iff]; rintro rfl; exact h5 rfl
  have HF := Lib.hid hfin
  have d0 : (a.kd == b.kd) = true := eqb_true h0
  have d1 : (a.tid == b.tid) = true := eqb_true h1
  have d2 : (a.tm == b.tm) = true := eqb_true h2
  have d3 : (a.pid == b.pid) = true := eqb_true h3
  have d4 : (a.ep == b.ep) = true := eqb_true h4
  have d5 : (a.part == b.part) = false := eqb_false h5
  have HB := Lib.hid (fun x y => bal (bal (Below.refl w.heap.size w) x) y)
  clear hfin h0 h1 h2 h3 h4 h5
  go_enter Tryz.func11, Tryz.ntmps11
  go_wp2_with fail
  go_ret
  exact ⟨ret_bool HF.out.symm, HB.out _ _⟩
set_option maxRecDepth 100000 in
set_option maxHeartbeats 1000000 in
theorem rqSame_6 (a b : Rq) (A1 A2 : Option Addr) (c1 c2 : Nat) (w : World) (h0 : a.kd = b.kd) (h1 : a.tid = b.tid) (h2 : a.tm = b.tm) (h3 : a.pid = b.pid) (h4 : a.ep = b.ep) (h5 : a.part = b.part) (h6 : ¬ a.grp = b.grp) :
    Calls Tryz.prog 11 #[(.agg #[.int .i8 a.kd, .int .i64 a.tid, .int .i64 a.tm, .int .i64 a.pid, .int .i64 a.ep, .int .i64 a.part, .int .i64 a.grp, .int .i64 a.off, .int .i64 a.most, .bool a.yes, .int .i64 a.b.pid, .int .i64 a.b.ep, .int .i64 a.b.seq, .bool a.b.txn, .slice A1 a.b.rs.length c1]), (.agg #[.int .i8 b.kd, .int .i64 b.tid, .int .i64 b.tm, .int .i64 b.pid, .int .i64 b.ep, .int .i64 b.part, .int .i64 b.grp, .int .i64 b.off, .int .i64 b.most, .bool b.yes, .int .i64 b.b.pid, .int .i64 b.b.ep, .int .i64 b.b.seq, .bool b.b.txn, .slice A2 b.b.rs.length c2])] w fun e w' => e = .returned (.bool (sameRq a b)) ∧ Below w.heap.size w w' := by
  have hfin : sameRq a b = false := by
    rw [← Bool.not_eq_true, sameRq_iff]; rintro rfl; exact h6 rfl
  have HF := Lib.hid hfin
  have d0 : (a.kd == b.kd) = true := eqb_true h0
  have d1 : (a.tid == b.tid) = true := eqb_true h1
  have d2 : (a.tm == b.tm) = true := eqb_true h2
  have d3 : (a.pid == b.pid) = true := eqb_true h3
  have d4 : (a.ep == b.ep) = true := eqb_true h4
  have d5 : (a.part == b.part) = true := eqb_true h5
  have d6 : (a.grp == b.grp) = false := eqb_false h6
  have HB := Lib.hid (fun x y => bal (bal (Below.refl w.heap.size w) x) y)
  clear hfin h0 h1 h2 h3 h4 h5 h6
  go_enter Tryz.func11, Tryz.ntmps11
  go_wp2_with fail
  go_ret
  exact ⟨ret_bool HF.out.symm, HB.out _ _⟩
end Go.Proofs.YtcockikekgmfkaaGreatDoor
namespace Go.Proofs.YtcockikekgmfkaaGreatDoor
open Go.RowKit

set_option maxRecDepth 100000 in
set_option maxHeartbeats 1000000 in
theorem rqSame_7 (a b : Rq) (A1 A2 : Option Addr) (c1 c2 : Nat) (w : World) (h0 : a.kd = b.kd) (h1 : a.tid = b.tid) (h2 : a.tm = b.tm) (h3 : a.pid = b.pid) (h4 : a.ep = b.ep) (h5 : a.part = b.part) (h6 : a.grp = b.grp) (h7 : ¬ a.off = b.off) :
    Calls Tryz.prog 11 #[(.agg #[.int .i8 a.kd, .int .i64 a.tid, .int .i64 a.tm, .int .i64 a.pid, .int .i64 a.ep, .int .i64 a.part, .int .i64 a.grp, .int .i64 a.off, .int .i64 a.most, .bool a.yes, .int .i64 a.b.pid, .int .i64 a.b.ep, .int .i64 a.b.seq, .bool a.b.txn, .slice A1 a.b.rs.length c1]), (.agg #[.int .i8 b.kd, .int .i64 b.tid, .int .i64 b.tm, .int .i64 b.pid, .int .i64 b.ep, .int .i64 b.part, .int .i64 b.grp, .int .i64 b.off, .int .i64 b.most, .bool b.yes, .int .i64 b.b.pid, .int .i64 b.b.ep, .int .i64 b.b.seq, .bool b.b.txn, .slice A2 b.b.rs.length c2])] w fun e w' => e = .returned (.bool (sameRq a b)) ∧ Below w.heap.size w w' := by
  have hfin : sameRq a b = false := by
    rw [← Bool.not_eq_true, sameRq_iff]; rintro rfl; exact h7 rfl
  have HF := Lib.hid hfin
  have d0 : (a.kd == b.kd) = true := eqb_true h0
  have d1 : (a.tid == b.tid) = true := eqb_true h1
  have d2 : (a.tm == b.tm) = true := eqb_true h2
  have d3 : (a.pid == b.pid) = true := eqb_true h3
  have d4 : (a.ep == b.ep) = true := eqb_true h4
  have d5 : (a.part == b.part) = true := eqb_true h5
  have d6 : (a.grp == b.grp) = true := eqb_true h6
  have d7 : (a.off == b.off) = false := eqb_false h7
  have HB := Lib.hid (fun x y => bal (bal (Below.refl w.heap.size w) x) y)
  clear hfin h0 h1 h2 h3 h4 h5 h6 h7
  go_enter Tryz.func11, Tryz.ntmps11
  go_wp2_with fail
  go_ret
  exact ⟨ret_bool HF.out.symm, HB.out _ _⟩
set_option maxRecDepth 100000 in
set_option maxHeartbeats 1000000 in
theorem rqSame_8 (a b : Rq) (A1 A2 : Option Addr) (c1 c2 : Nat) (w : World) (h0 : a.kd = b.kd) (h1 : a.tid = b.tid) (h2 : a.tm = b.tm) (h3 : a.pid = b.pid) (h4 : a.ep = b.ep) (h5 : a.part = b.part) (h6 : a.grp = b.grp) (h7 : a.off = b.off) (h8 : ¬ a.most = b.most) :
    Calls Tryz.prog 11 #[(.agg #[.int .i8 a.kd, .int .i64 a.tid, .int .i64 a.tm, .int .i64 a.pid, .int .i64 a.ep, .int .i64 a.part, .int .i64 a.grp, .int .i64 a.off, .int .i64 a.most, .bool a.yes, .int .i64 a.b.pid, .int .i64 a.b.ep, .int .i64 a.b.seq, .bool a.b.txn, .slice A1 a.b.rs.length c1]), (.agg #[.int .i8 b.kd, .int .i64 b.tid, .int .i64 b.tm, .int .i64 b.pid, .int .i64 b.ep, .int .i64 b.part, .int .i64 b.grp, .int .i64 b.off, .int .i64 b.most, .bool b.yes, .int .i64 b.b.pid, .int .i64 b.b.ep, .int .i64 b.b.seq, .bool b.b.txn, .slice A2 b.b.rs.length c2])] w fun e w' => e = .returned (.bool (sameRq a b)) ∧ Below w.heap.size w w' := by
  have hfin : sameRq a b = false := by
    rw [← Bool.not_eq_true, sameRq_iff]; rintro rfl; exact h8 rfl
  have HF := Lib.hid hfin
  have d0 : (a.kd == b.kd) = true := eqb_true h0
  have d1 : (a.tid == b.tid) = true := eqb_true h1
  have d2 : (a.tm == b.tm) = true := eqb_true h2
  have d3 : (a.pid == b.pid) = true := eqb_true h3
  have d4 : (a.ep == b.ep) = true := eqb_true h4
  have d5 : (a.part == b.part) = true := eqb_true h5
  have d6 : (a.grp == b.grp) = true := eqb_true h6
  have d7 : (a.off == b.off) = true := eqb_true h7
  have d8 : (a.most == b.most) = false := eqb_false h8
  have HB := Lib.hid (fun x y => bal (bal (Below.refl w.heap.size w) x) y)
  clear hfin h0 h1 h2 h3 h4 h5 h6 h7 h8
  go_enter Tryz.func11, Tryz.ntmps11
  go_wp2_with fail
  go_ret
  exact ⟨ret_bool HF.out.symm, HB.out _ _⟩
set_option maxRecDepth 100000 in
set_option maxHeartbeats 1000000 in
theorem rqSame_9 (a b : Rq) (A1 A2 : Option Addr) (c1 c2 : Nat) (w : World) (h0 : a.kd = b.kd) (h1 : a.tid = b.tid) (h2 : a.tm = b.tm) (h3 : a.pid = b.pid) (h4 : a.ep = b.ep) (h5 : a.part = b.part) (h6 : a.grp = b.grp) (h7 : a.off = b.off) (h8 : a.most = b.most) (h9 : ¬ a.yes = b.yes) :
    Calls Tryz.prog 11 #[(.agg #[.int .i8 a.kd, .int .i64 a.tid, .int .i64 a.tm, .int .i64 a.pid, .int .i64 a.ep, .int .i64 a.part, .int .i64 a.grp, .int .i64 a.off, .int .i64 a.most, .bool a.yes, .int .i64 a.b.pid, .int .i64 a.b.ep, .int .i64 a.b.seq, .bool a.b.txn, .slice A1 a.b.rs.length c1]), (.agg #[.int .i8 b.kd, .int .i64 b.tid, .int .i64 b.tm, .int .i64 b.pid, .int .i64 b.ep, .int .i64 b.part, .int .i64 b.grp, .int .i64 b.off, .int .i64 b.most, .bool b.yes, .int .i64 b.b.pid, .int .i64 b.b.ep, .int .i64 b.b.seq, .bool b.b.txn, .slice A2 b.b.rs.length c2])] w fun e w' => e = .returned (.bool (sameRq a b)) ∧ Below w.heap.size w w' := by
  have hfin : sameRq a b = false := by
    rw [← Bool.not_eq_true, sameRq_iff]; rintro rfl; exact h9 rfl
  have HF := Lib.hid hfin
  have d0 : (a.kd == b.kd) = true := eqb_true h0
  have d1 : (a.tid == b.tid) = true := eqb_true h1
  have d2 : (a.tm == b.tm) = true := eqb_true h2
  have d3 : (a.pid == b.pid) = true := eqb_true h3
  have d4 : (a.ep == b.ep) = true := eqb_true h4
  have d5 : (a.part == b.part) = true := eqb_true h5
  have d6 : (a.grp == b.grp) = true := eqb_true h6
  have d7 : (a.off == b.off) = true := eqb_true h7
  have d8 : (a.most == b.most) = true := eqb_true h8
  have d9 : (a.yes == b.yes) = false := beq_eq_false_iff_ne.2 h9
  have HB := Lib.hid (fun x y => bal (bal (Below.refl w.heap.size w) x) y)
  clear hfin h0 h1 h2 h3 h4 h5 h6 h7 h8 h9
  go_enter Tryz.func11, Tryz.ntmps11
  go_wp2_with fail
  go_ret
  exact ⟨ret_bool HF.out.symm, HB.out _ _⟩
end Go.Proofs.YtcockikekgmfkaaGreatDoor
namespace Go.Proofs.YtcockikekgmfkaaGreatDoor
open Go.RowKit

set_option maxRecDepth 100000 in
set_option maxHeartbeats 2000000 in
theorem rqSame_eq (a b : Rq) (A1 A2 : Option Addr) (c1 c2 : Nat) (w : World) (r1 : Reads w w.heap.size 2 A1 a.b.rs.length (cellsR a.b.rs)) (r2 : Reads w w.heap.size 2 A2 b.b.rs.length (cellsR b.b.rs)) (hl : a.b.rs.length ≤ 1000000) (h0 : a.kd = b.kd) (h1 : a.tid = b.tid) (h2 : a.tm = b.tm) (h3 : a.pid = b.pid) (h4 : a.ep = b.ep) (h5 : a.part = b.part) (h6 : a.grp = b.grp) (h7 : a.off = b.off) (h8 : a.most = b.most) (h9 : a.yes = b.yes) :
    Calls Tryz.prog 11 #[(.agg #[.int .i8 a.kd, .int .i64 a.tid, .int .i64 a.tm, .int .i64 a.pid, .int .i64 a.ep, .int .i64 a.part, .int .i64 a.grp, .int .i64 a.off, .int .i64 a.most, .bool a.yes, .int .i64 a.b.pid, .int .i64 a.b.ep, .int .i64 a.b.seq, .bool a.b.txn, .slice A1 a.b.rs.length c1]), (.agg #[.int .i8 b.kd, .int .i64 b.tid, .int .i64 b.tm, .int .i64 b.pid, .int .i64 b.ep, .int .i64 b.part, .int .i64 b.grp, .int .i64 b.off, .int .i64 b.most, .bool b.yes, .int .i64 b.b.pid, .int .i64 b.b.ep, .int .i64 b.b.seq, .bool b.b.txn, .slice A2 b.b.rs.length c2])] w fun e w' => e = .returned (.bool (sameRq a b)) ∧ Below w.heap.size w w' := by
  have hfin : sameRq a b = sameBt a.b b.b := by
    unfold sameRq
    rw [h0, h1, h2, h3, h4, h5, h6, h7, h8, h9]
    simp
  have HF := Lib.hid hfin
  have d0 : (a.kd == b.kd) = true := eqb_true h0
  have d1 : (a.tid == b.tid) = true := eqb_true h1
  have d2 : (a.tm == b.tm) = true := eqb_true h2
  have d3 : (a.pid == b.pid) = true := eqb_true h3
  have d4 : (a.ep == b.ep) = true := eqb_true h4
  have d5 : (a.part == b.part) = true := eqb_true h5
  have d6 : (a.grp == b.grp) = true := eqb_true h6
  have d7 : (a.off == b.off) = true := eqb_true h7
  have d8 : (a.most == b.most) = true := eqb_true h8
  have d9 : (a.yes == b.yes) = true := beq_iff_eq.2 h9
  have HB := Lib.hid (bal (bal (Below.refl w.heap.size w) (.cells #[.int .i8 a.kd, .int .i64 a.tid, .int .i64 a.tm, .int .i64 a.pid, .int .i64 a.ep, .int .i64 a.part, .int .i64 a.grp, .int .i64 a.off, .int .i64 a.most, .bool a.yes, .int .i64 a.b.pid, .int .i64 a.b.ep, .int .i64 a.b.seq, .bool a.b.txn, .slice A1 a.b.rs.length c1] 27)) (.cells #[.int .i8 b.kd, .int .i64 b.tid, .int .i64 b.tm, .int .i64 b.pid, .int .i64 b.ep, .int .i64 b.part, .int .i64 b.grp, .int .i64 b.off, .int .i64 b.most, .bool b.yes, .int .i64 b.b.pid, .int .i64 b.b.ep, .int .i64 b.b.seq, .bool b.b.txn, .slice A2 b.b.rs.length c2] 27))
  have S1 := Lib.hid (RcSame_any a.b b.b A1 A2 c1 c2 ((w.alloc (.cells #[.int .i8 a.kd, .int .i64 a.tid, .int .i64 a.tm, .int .i64 a.pid, .int .i64 a.ep, .int .i64 a.part, .int .i64 a.grp, .int .i64 a.off, .int .i64 a.most, .bool a.yes, .int .i64 a.b.pid, .int .i64 a.b.ep, .int .i64 a.b.seq, .bool a.b.txn, .slice A1 a.b.rs.length c1] 27)).alloc (.cells #[.int .i8 b.kd, .int .i64 b.tid, .int .i64 b.tm, .int .i64 b.pid, .int .i64 b.ep, .int .i64 b.part, .int .i64 b.grp, .int .i64 b.off, .int .i64 b.most, .bool b.yes, .int .i64 b.b.pid, .int .i64 b.b.ep, .int .i64 b.b.seq, .bool b.b.txn, .slice A2 b.b.rs.length c2] 27)) (((r1.alloc (Nat.le_refl _) _).alloc (by simp) _).more (by simp; omega)) (((r2.alloc (Nat.le_refl _) _).alloc (by simp) _).more (by simp; omega)) hl)
  clear hfin r1 r2 h0 h1 h2 h3 h4 h5 h6 h7 h8 h9
  go_enter Tryz.func11, Tryz.ntmps11
  go_wp2_with fail
  refine S1.out.mono ?_
  rintro e w1 ⟨rfl, b1⟩
  have B1 := Lib.hid (btrans HB.out b1)
  clear b1
  go_wp2_with fail
  go_ret
  exact ⟨ret_bool HF.out.symm, B1.out⟩
theorem rqSame_any (a b : Rq) (A1 A2 : Option Addr) (c1 c2 : Nat) (w : World) (r1 : Reads w w.heap.size 2 A1 a.b.rs.length (cellsR a.b.rs)) (r2 : Reads w w.heap.size 2 A2 b.b.rs.length (cellsR b.b.rs)) (hl : a.b.rs.length ≤ 1000000) :
    Calls Tryz.prog 11 #[(.agg #[.int .i8 a.kd, .int .i64 a.tid, .int .i64 a.tm, .int .i64 a.pid, .int .i64 a.ep, .int .i64 a.part, .int .i64 a.grp, .int .i64 a.off, .int .i64 a.most, .bool a.yes, .int .i64 a.b.pid, .int .i64 a.b.ep, .int .i64 a.b.seq, .bool a.b.txn, .slice A1 a.b.rs.length c1]), (.agg #[.int .i8 b.kd, .int .i64 b.tid, .int .i64 b.tm, .int .i64 b.pid, .int .i64 b.ep, .int .i64 b.part, .int .i64 b.grp, .int .i64 b.off, .int .i64 b.most, .bool b.yes, .int .i64 b.b.pid, .int .i64 b.b.ep, .int .i64 b.b.seq, .bool b.b.txn, .slice A2 b.b.rs.length c2])] w fun e w' => e = .returned (.bool (sameRq a b)) ∧ Below w.heap.size w w' := by
  by_cases h0 : a.kd = b.kd
  case neg => exact rqSame_0 a b A1 A2 c1 c2 w h0
  by_cases h1 : a.tid = b.tid
  case neg => exact rqSame_1 a b A1 A2 c1 c2 w h0 h1
  by_cases h2 : a.tm = b.tm
  case neg => exact rqSame_2 a b A1 A2 c1 c2 w h0 h1 h2
  by_cases h3 : a.pid = b.pid
  case neg => exact rqSame_3 a b A1 A2 c1 c2 w h0 h1 h2 h3
  by_cases h4 : a.ep = b.ep
  case neg => exact rqSame_4 a b A1 A2 c1 c2 w h0 h1 h2 h3 h4
  by_cases h5 : a.part = b.part
  case neg => exact rqSame_5 a b A1 A2 c1 c2 w h0 h1 h2 h3 h4 h5
  by_cases h6 : a.grp = b.grp
  case neg => exact rqSame_6 a b A1 A2 c1 c2 w h0 h1 h2 h3 h4 h5 h6
  by_cases h7 : a.off = b.off
  case neg => exact rqSame_7 a b A1 A2 c1 c2 w h0 h1 h2 h3 h4 h5 h6 h7
  by_cases h8 : a.most = b.most
  case neg => exact rqSame_8 a b A1 A2 c1 c2 w h0 h1 h2 h3 h4 h5 h6 h7 h8
  by_cases h9 : a.yes = b.yes
  case neg => exact rqSame_9 a b A1 A2 c1 c2 w h0 h1 h2 h3 h4 h5 h6 h7 h8 h9
  exact rqSame_eq a b A1 A2 c1 c2 w r1 r2 hl h0 h1 h2 h3 h4 h5 h6 h7 h8 h9
end Go.Proofs.YtcockikekgmfkaaGreatDoor
namespace Go.Proofs.YtcockikekgmfkaaGreatDoor
open Go.RowKit
attribute [local go_sem ↓] Go.wp_at_zero Go.wp_at_succ

/-- A request of a kind, and no more. -/
def bareRq (k : Int) : Rq := { Rq0 with kd := k }
theorem strike_bare (q : Rq) : strike q (flOf q.kd) = bareRq q.kd ↔ ∀ f, f ∉ flOf q.kd → q.get f = zeroF f := by
  constructor
  · intro h f hf
    have := strike_get q (flOf q.kd) f hf
    rw [← this, h]
    cases f <;> rfl
  · intro h
    unfold strike
    have : (fun f => if f ∈ flOf q.kd then zeroF f else q.get f) = zeroF := by
      funext f
      by_cases hf : f ∈ flOf q.kd
      · rw [if_pos hf]
      · rw [if_neg hf, h f hf]
    rw [this]; rfl
theorem all_x (g : Nat) (cs : Array Value) (kd : Int) (w : World) (h : ¬ (0 ≤ kd ∧ kd ≤ 9)) (hb : RqB w g cs) (h1 : cs[17]? = some .nilIface) :
    Calls Tryz.prog 29 #[.pointer (some ⟨g, 0, none⟩), .int .i8 kd] w (WqNo g w) := by
  have L1 := Lib.hid (list_x g cs kd w h hb h1)
  clear h hb h1
  go_enter Tryz.func29, Tryz.ntmps29
  go_wp2_with fail
  refine L1.out.mono ?_
  rintro e w1 ⟨rfl, hb, oo⟩
  have HB := Lib.hid hb
  have OO := Lib.hid oo
  clear hb oo
  go_wp2_with fail
  go_loopw [5, 10] (fun s5 x wr => x = .int .i64 0 ∧ wr = w1) (fun _ _ _ => 0)
  case atStart => exact ⟨rfl, rfl⟩
  case round =>
    obtain ⟨rfl, rfl⟩ := hrel
    go_wp2_with fail
    go_end0
    exact ⟨rfl, HB.out, OO.out⟩
/-- No bytes: why. -/
def WrNo (w : World) (e : Ending) (w' : World) : Prop :=
  ∃ b, e = .returned (.tuple #[.slice none 0 0, .iface 69 (.pointer (some ⟨b, 0, none⟩))]) ∧ w'.cell? ⟨b, 1, none⟩ = some (.int .i64 2) ∧ Below w.heap.size w w'
def WrOk (L : List UInt8) (w : World) (e : Ending) (w' : World) : Prop :=
  ∃ A c, e = .returned (.tuple #[.slice A L.length c, .nilIface]) ∧ Reads w' w'.heap.size 1 A L.length (cellsB L) ∧ L.length ≤ c ∧ Below w.heap.size w w'
theorem wq_start (q : Rq) (A1 : Option Addr) (c1 : Nat) (w : World) (hr : Reads w w.heap.size 2 A1 q.b.rs.length (cellsR q.b.rs)) (hg : HasET w) :
    WqSt (w.heap.size + 1) (w.heap.size + 1 + 1) w.heap.size q [] ((w.alloc (.cells #[.int .i8 q.kd, .int .i64 q.tid, .int .i64 q.tm, .int .i64 q.pid, .int .i64 q.ep, .int .i64 q.part, .int .i64 q.grp, .int .i64 q.off, .int .i64 q.most, .bool q.yes, .int .i64 q.b.pid, .int .i64 q.b.ep, .int .i64 q.b.seq, .bool q.b.txn, .slice A1 q.b.rs.length c1] 27)).alloc (.cells (rqC (.pointer none) q A1 c1 (.slice none 0 0) .nilIface) 58)) :=
  ⟨none, 0, A1, c1, blk_new _ _ _ (by simp), World.ownsRow_nil _ _ _ _, by simp, by omega, (hr.alloc (Nat.le_refl _) _).alloc (by simp) _, by omega, hg.up (bal (bal (Below.refl _ _) _) _), hg.lt⟩

set_option maxRecDepth 100000 in
set_option maxHeartbeats 2000000 in
theorem rqWrite_x (q : Rq) (A1 : Option Addr) (c1 : Nat) (w : World) (hr : Reads w w.heap.size 2 A1 q.b.rs.length (cellsR q.b.rs)) (hg : HasET w) (hk : ¬ (0 ≤ q.kd ∧ q.kd ≤ 9) ∨ ((0 ≤ q.kd ∧ q.kd ≤ 9) ∧ ¬ ∀ f ∈ flOf q.kd, (cF f).v (q.get f))) :
    Calls Tryz.prog 17 #[(.agg #[.int .i8 q.kd, .int .i64 q.tid, .int .i64 q.tm, .int .i64 q.pid, .int .i64 q.ep, .int .i64 q.part, .int .i64 q.grp, .int .i64 q.off, .int .i64 q.most, .bool q.yes, .int .i64 q.b.pid, .int .i64 q.b.ep, .int .i64 q.b.seq, .bool q.b.txn, .slice A1 q.b.rs.length c1])] w (WrNo w) := by
  obtain ⟨W0, hW0⟩ : ∃ W0, W0 = ((w.alloc (.cells #[.int .i8 q.kd, .int .i64 q.tid, .int .i64 q.tm, .int .i64 q.pid, .int .i64 q.ep, .int .i64 q.part, .int .i64 q.grp, .int .i64 q.off, .int .i64 q.most, .bool q.yes, .int .i64 q.b.pid, .int .i64 q.b.ep, .int .i64 q.b.seq, .bool q.b.txn, .slice A1 q.b.rs.length c1] 27)).alloc (.cells (rqC (.pointer none) q A1 c1 (.slice none 0 0) .nilIface) 58)) := ⟨_, rfl⟩
  have st := wq_start q A1 c1 w hr hg
  have B0 := bal (bal (Below.refl w.heap.size w) (.cells #[.int .i8 q.kd, .int .i64 q.tid, .int .i64 q.tm, .int .i64 q.pid, .int .i64 q.ep, .int .i64 q.part, .int .i64 q.grp, .int .i64 q.off, .int .i64 q.most, .bool q.yes, .int .i64 q.b.pid, .int .i64 q.b.ep, .int .i64 q.b.seq, .bool q.b.txn, .slice A1 q.b.rs.length c1] 27)) (.cells (rqC (.pointer none) q A1 c1 (.slice none 0 0) .nilIface) 58)
  have L1 : Calls Tryz.prog 29 #[.pointer (some ⟨w.heap.size + 1, 0, none⟩), .int .i8 q.kd] W0 (WqNo (w.heap.size + 1) W0) := by
    rw [hW0]
    rcases hk with h | ⟨h, hv⟩
    · obtain ⟨A, c, Ab, cb, h1, _⟩ := st
      exact all_x _ _ _ _ h h1 rfl
    · refine (all_w _ _ _ q _ st h).mono ?_
      rintro e w' ⟨rfl, oo, hs⟩
      rcases hs with ⟨h1, _⟩ | ⟨_, h1⟩
      · exact absurd h1 hv
      · exact ⟨rfl, h1, oo⟩
  rw [← hW0] at B0
  unfold rqC at hW0
  have L2 := Lib.hid L1
  have HW := Lib.hid hW0
  have BB := Lib.hid B0
  have hs0 : W0.heap.size = w.heap.size + 1 + 1 := by rw [hW0]; simp
  clear L1 hW0 B0 st hr hg hk
  go_enter Tryz.func17, Tryz.ntmps17
  go_wp2_with fail
  rw [← HW.out]
  refine L2.out.mono ?_
  rintro e w1 ⟨rfl, ⟨b, hb1, hb2⟩, oo⟩
  have B1 := Lib.hid (BB.out.trans (oo.below (BB.out.size) (fun x hx => by omega)))
  have HB2 := Lib.hid hb2
  clear oo hb2
  go_wp2_with fail
  go_quiet (fail)
  go_wp2_with fail
  go_ret2
  exact ⟨b, rfl, HB2.out, below_drewN B1.out _⟩

set_option maxRecDepth 100000 in
set_option maxHeartbeats 4000000 in
theorem rqWrite_v (q : Rq) (A1 : Option Addr) (c1 : Nat) (w : World) (hr : Reads w w.heap.size 2 A1 q.b.rs.length (cellsR q.b.rs)) (hl : q.b.rs.length ≤ 1000000) (hg : HasET w) (hk : 0 ≤ q.kd ∧ q.kd ≤ 9) (hv : ∀ f ∈ flOf q.kd, (cF f).v (q.get f)) :
    Calls Tryz.prog 17 #[(.agg #[.int .i8 q.kd, .int .i64 q.tid, .int .i64 q.tm, .int .i64 q.pid, .int .i64 q.ep, .int .i64 q.part, .int .i64 q.grp, .int .i64 q.off, .int .i64 q.most, .bool q.yes, .int .i64 q.b.pid, .int .i64 q.b.ep, .int .i64 q.b.seq, .bool q.b.txn, .slice A1 q.b.rs.length c1])] w fun e w' => (strike q (flOf q.kd) = bareRq q.kd ∧ WrOk (encRq q) w e w') ∨ (¬ strike q (flOf q.kd) = bareRq q.kd ∧ WrNo w e w') := by
  obtain ⟨i0, hi, hi0, hi1, hi2⟩ := info_parts infoByte
  obtain ⟨W0, hW0⟩ : ∃ W0, W0 = ((w.alloc (.cells #[.int .i8 q.kd, .int .i64 q.tid, .int .i64 q.tm, .int .i64 q.pid, .int .i64 q.ep, .int .i64 q.part, .int .i64 q.grp, .int .i64 q.off, .int .i64 q.most, .bool q.yes, .int .i64 q.b.pid, .int .i64 q.b.ep, .int .i64 q.b.seq, .bool q.b.txn, .slice A1 q.b.rs.length c1] 27)).alloc (.cells (rqC (.pointer none) q A1 c1 (.slice none 0 0) .nilIface) 58)) := ⟨_, rfl⟩
  have st := wq_start q A1 c1 w hr hg
  have B0 := bal (bal (Below.refl w.heap.size w) (.cells #[.int .i8 q.kd, .int .i64 q.tid, .int .i64 q.tm, .int .i64 q.pid, .int .i64 q.ep, .int .i64 q.part, .int .i64 q.grp, .int .i64 q.off, .int .i64 q.most, .bool q.yes, .int .i64 q.b.pid, .int .i64 q.b.ep, .int .i64 q.b.seq, .bool q.b.txn, .slice A1 q.b.rs.length c1] 27)) (.cells (rqC (.pointer none) q A1 c1 (.slice none 0 0) .nilIface) 58)
  have K0 := (blk_new w 27 #[.int .i8 q.kd, .int .i64 q.tid, .int .i64 q.tm, .int .i64 q.pid, .int .i64 q.ep, .int .i64 q.part, .int .i64 q.grp, .int .i64 q.off, .int .i64 q.most, .bool q.yes, .int .i64 q.b.pid, .int .i64 q.b.ep, .int .i64 q.b.seq, .bool q.b.txn, .slice A1 q.b.rs.length c1] rfl).alloc (.cells (rqC (.pointer none) q A1 c1 (.slice none 0 0) .nilIface) 58)
  have hen : encRq q = enc q.kd.toNat ++ eFs cF (flOf q.kd) q.get := rfl
  have hed : enc q.kd.toNat = [UInt8.ofNat q.kd.toNat] := enc_small _ (by omega)
  have hlen : (eFs cF (flOf q.kd) q.get).length ≤ 1000 := by
    have h1 := eFs_len _ _ hv
    have h2 := flOf_len q.kd
    omega
  have hbl : (strike q (flOf q.kd)).b.rs.length ≤ 1000000 := by
    by_cases h : Fl.bat ∈ flOf q.kd
    · have e : (strike q (flOf q.kd)).b = Bat0 := by
        show (if Fl.bat ∈ flOf q.kd then zeroF Fl.bat else q.get Fl.bat) = _
        rw [if_pos h]; rfl
      rw [e]; exact Nat.zero_le _
    · have e : (strike q (flOf q.kd)).b = q.b := by
        show (if Fl.bat ∈ flOf q.kd then zeroF Fl.bat else q.get Fl.bat) = _
        rw [if_neg h]; rfl
      rw [e]; exact hl
  have L1 : Calls Tryz.prog 29 #[.pointer (some ⟨w.heap.size + 1, 0, none⟩), .int .i8 q.kd] W0 (fun e w' => e = .returned (.tuple #[]) ∧ Only (fun x => x = w.heap.size + 1) W0 w' ∧ WqSt (w.heap.size + 1) (w.heap.size + 1 + 1) w.heap.size (strike q (flOf q.kd)) (eFs cF (flOf q.kd) q.get) w') := by
    rw [hW0]
    refine (all_w _ _ _ q _ st hk).mono ?_
    rintro e w' ⟨rfl, oo, hs⟩
    rcases hs with ⟨_, h1⟩ | ⟨h1, _⟩
    · exact ⟨rfl, oo, h1⟩
    · exact absurd hv h1
  rw [← hW0] at B0 K0
  unfold rqC at hW0
  have hkd : (strike q (flOf q.kd)).kd = q.kd := rfl
  generalize strike q (flOf q.kd) = q' at *
  generalize eFs cF (flOf q.kd) q.get = L at *
  have HKD := Lib.hid hkd
  have HEN := Lib.hid hen
  have HED := Lib.hid hed
  have L2 := Lib.hid L1
  have HW := Lib.hid hW0
  have BB := Lib.hid B0
  have KK := Lib.hid K0
  have hs0 : W0.heap.size = w.heap.size + 1 + 1 := by rw [hW0]; simp
  have hcv : IntKind.u8.wrap q.kd = q.kd := by rw [IntKind.wrap_u8]; omega
  obtain ⟨hk0, hk9⟩ := hk
  clear L1 hW0 B0 K0 st hr hg hv hkd hen hed
  go_enter Tryz.func17, Tryz.ntmps17
  go_wp2_with fail
  rw [← HW.out]
  refine L2.out.mono ?_
  rintro e w1 ⟨rfl, oo, A, c, Ab, cb, h1, h2, h3, h4, h5, h6, h7, h8⟩
  have B1 := Lib.hid (BB.out.trans (oo.below (BB.out.size) (fun x hx => by omega)))
  have kb := oo.blk KK.out (by omega)
  have hz := oo.size
  have x17 : w1.cell? ⟨w.heap.size + 1, 17, none⟩ = some .nilIface := h1.cell 17
  have S1 := Lib.hid (fun n : BW w1.heap.size w1 => rqSame_any q' (bareRq q.kd) Ab none cb 0 n.1 ((h5.below (n.2.mono (by omega))).more (by have := n.2.size; omega)) Reads.none_ hbl)
  have H1 := Lib.hid h1
  have H2 := Lib.hid h2
  have KB := Lib.hid kb
  have hlt1 := h1.lt
  have hlt0 := kb.lt
  have p0 := bw_cell (B := w1.heap.size) (kb.cell 0) hlt0
  have y1 := bw_cell (B := w1.heap.size) (h1.cell 1) hlt1
  have y2 := bw_cell (B := w1.heap.size) (h1.cell 2) hlt1
  have y3 := bw_cell (B := w1.heap.size) (h1.cell 3) hlt1
  have y4 := bw_cell (B := w1.heap.size) (h1.cell 4) hlt1
  have y5 := bw_cell (B := w1.heap.size) (h1.cell 5) hlt1
  have y6 := bw_cell (B := w1.heap.size) (h1.cell 6) hlt1
  have y7 := bw_cell (B := w1.heap.size) (h1.cell 7) hlt1
  have y8 := bw_cell (B := w1.heap.size) (h1.cell 8) hlt1
  have y9 := bw_cell (B := w1.heap.size) (h1.cell 9) hlt1
  have y10 := bw_cell (B := w1.heap.size) (h1.cell 10) hlt1
  have y11 := bw_cell (B := w1.heap.size) (h1.cell 11) hlt1
  have y12 := bw_cell (B := w1.heap.size) (h1.cell 12) hlt1
  have y13 := bw_cell (B := w1.heap.size) (h1.cell 13) hlt1
  have y14 := bw_cell (B := w1.heap.size) (h1.cell 14) hlt1
  have y15 := bw_cell (B := w1.heap.size) (h1.cell 15) hlt1
  clear h1 h2 h5 h7 kb oo
  go_wp2_with fail
  clear x17
  cases hsm : sameRq q' (bareRq q.kd) with
  | false =>
    have hne : ¬ q' = bareRq q.kd := fun h => by rw [(sameRq_iff _ _).2 h] at hsm; cases hsm
    have HNE := Lib.hid hne
    have s2 := S1.out
    rw [hsm] at s2
    have S2 := Lib.hid s2
    clear hne hsm s2
    refine wp_region_bq w1.heap.size (by kernel_rfl) (by kernel_rfl) ?_
    repeat (go_big_quiet_step ((go_at_call 11; exact bw_call (Nat.le_refl _) (S2.out _))))
    refine wpQuiet_nil ?_
    rintro _ ⟨n, rfl⟩
    have hn := Lib.hid (B1.out.trans (n.2.mono B1.out.size))
    clear p0 y1 y2 y3 y4 y5 y6 y7 y8 y9 y10 y11 y12 y13 y14 y15
    generalize n.1 = W at *
    go_wp2_with fail
    go_ret2
    refine .inr ⟨HNE.out, W.heap.size, rfl, ?_, bal hn.out _⟩
    exact (blk_new W _ _ rfl).cell 1
  | true =>
    have heq : q' = bareRq q.kd := (sameRq_iff _ _).1 hsm
    have HEQ := Lib.hid heq
    have s2 := S1.out
    rw [hsm] at s2
    have S2 := Lib.hid s2
    clear heq hsm s2
    refine wp_region_bq w1.heap.size (by kernel_rfl) (by kernel_rfl) ?_
    repeat (go_big_quiet_step ((go_at_call 11; exact bw_call (Nat.le_refl _) (S2.out _))))
    refine wpQuiet_nil ?_
    rintro _ ⟨n, rfl⟩
    have hn := Lib.hid (B1.out.trans (n.2.mono B1.out.size))
    have r1 := (Reads.of_own H2.out).below n.2
    have z0 := p0 n
    have z16 : n.1.cell? ⟨w.heap.size + 1, 16, none⟩ = some (.slice A L.length c) := bw_cell (B := w1.heap.size) (H1.out.cell 16) hlt1 n
    have hns := n.2.size
    clear p0 y1 y2 y3 y4 y5 y6 y7 y8 y9 y10 y11 y12 y13 y14 y15 S1 S2
    generalize n.1 = W at *
    have ow : (W.alloc (.cells #[.int .u8 q.kd] 5)).drew.ownsRow W.heap.size 5 1 (.slice (some ⟨W.heap.size, 0, none⟩) 1 1) 1 [.int .u8 q.kd] := (own_newN W 5 #[.int .u8 q.kd] (by unfold maxLen; simp)).drew
    have OW := Lib.hid ow
    have RL := Lib.hid ((r1.alloc hns (.cells #[.int .u8 q.kd] 5)).drew)
    have z16' := (World.cell?_alloc_lt W (.cells #[.int .u8 q.kd] 5) ⟨w.heap.size + 1, 16, none⟩ (by show w.heap.size + 1 < W.heap.size; omega)).trans z16
    have z0' := (World.cell?_alloc_lt W (.cells #[.int .u8 q.kd] 5) ⟨w.heap.size, 0, none⟩ (by show w.heap.size < W.heap.size; omega)).trans z0
    clear ow r1
    go_wp2_with fail
    go_region_law ((refine step_append_any _ (by rfl) (.tmp 36) (.tmp 40) 30 (by rfl) W.heap.size 5 i0 _ 1 1 Tryz.underlying30 hi hi0 hi1 hi2 rfl (by decide) _ 1 [.int .u8 q.kd] (by rfl) OW.out _ _ L.length c (cellsB L) (by rfl) RL.out (cellsB_one L) (by unfold maxLen; omega) (by omega) (by simp) ?_); intro v' w8 hown hgrow _)
    all_goals
      go_wp2_with fail
      go_ret2
      obtain ⟨A8, c8, rfl, hc8⟩ := own_slice hown
      have hle : (encRq q).length = 1 + L.length := by rw [HEN.out, HED.out]; simp; omega
      have hce : cellsB (encRq q) = [.int .u8 q.kd] ++ cellsB L := by
        rw [HEN.out, HED.out, cellsB_append]
        have : ((UInt8.ofNat q.kd.toNat).toNat : Int) = q.kd := by rw [UInt8.toNat_ofNat']; omega
        show [Value.int .u8 _] ++ _ = _
        rw [this]
      refine .inl ⟨HEQ.out, A8, c8, by rw [hle]; rfl, ?_, by rw [hle]; exact hc8, ?_⟩
      · rw [hle, hce]; exact Reads.of_own hown
      · exact (below_drewN (bal hn.out _) 1).grown hgrow (by have := hn.out.size; simp; omega) (fun x hx => by
          have : some x = some W.heap.size := hx.symm
          injection this with this
          have := hn.out.size
          omega)
end Go.Proofs.YtcockikekgmfkaaGreatDoor
