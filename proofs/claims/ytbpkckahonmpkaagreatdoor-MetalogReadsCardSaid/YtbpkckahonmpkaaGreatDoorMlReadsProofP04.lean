/-
  Layer 18, the document's May: the walk.
  Layer 18, the document's: Same, busy, Due.
  Layer 18, the document's May.
  A region that draws its order, whose operations only read what was there and whose callees may make memory but leave what was there as it was: walked once, in the order of the text, over the class of all such worlds.
-/
import Derived.Test.YtbpkckahonmpkaaGreatDoorMlReadsProofP03
import Derived.Below
set_option linter.unusedVariables false
set_option linter.unusedSimpArgs false
namespace Go.Proofs.YtbpkckahonmpkaaGreatDoor
open Go.RowKit


set_option maxRecDepth 100000 in
set_option maxHeartbeats 1000000 in
theorem rsame_0 (c d : Co) (A1 D1 : Option Addr) (c1 e1 : Nat) (A2 D2 : Option Addr) (c2 e2 : Nat) (w : World) (h0 : ¬ c.st = d.st) :
    Calls Tryz.prog 38 #[(.agg #[.int .i8 c.st, .int .i64 c.pid, .int .i64 c.ep, .int .i64 c.tm, .int .i64 c.th, .slice A1 c.ps.length c1, .slice D1 c.qs.length e1, .int .i64 c.ag]), (.agg #[.int .i8 d.st, .int .i64 d.pid, .int .i64 d.ep, .int .i64 d.tm, .int .i64 d.th, .slice A2 d.ps.length c2, .slice D2 d.qs.length e2, .int .i64 d.ag])] w fun e w' => e = .returned (.bool (sameB c d)) ∧ Below w.heap.size w w' := by
  have HB := Lib.hid (fun x y => bal (bal (Below.refl w.heap.size w) x) y)
  have hs : sameB c d = false := by
    unfold sameB
    rw [eqb_false h0]
    simp
  have HS := Lib.hid hs
  have d0 := ne_true h0
  clear hs h0
  go_enter Tryz.func38, Tryz.ntmps38
  go_wp2_with fail
  go_ret
  exact ⟨ret_bool HS.out.symm, HB.out _ _⟩

set_option maxRecDepth 100000 in
set_option maxHeartbeats 1000000 in
theorem rsame_1 (c d : Co) (A1 D1 : Option Addr) (c1 e1 : Nat) (A2 D2 : Option Addr) (c2 e2 : Nat) (w : World) (h0 : c.st = d.st) (h1 : ¬ c.pid = d.pid) :
    Calls Tryz.prog 38 #[(.agg #[.int .i8 c.st, .int .i64 c.pid, .int .i64 c.ep, .int .i64 c.tm, .int .i64 c.th, .slice A1 c.ps.length c1, .slice D1 c.qs.length e1, .int .i64 c.ag]), (.agg #[.int .i8 d.st, .int .i64 d.pid, .int .i64 d.ep, .int .i64 d.tm, .int .i64 d.th, .slice A2 d.ps.length c2, .slice D2 d.qs.length e2, .int .i64 d.ag])] w fun e w' => e = .returned (.bool (sameB c d)) ∧ Below w.heap.size w w' := by
  have HB := Lib.hid (fun x y => bal (bal (Below.refl w.heap.size w) x) y)
  have hs : sameB c d = false := by
    unfold sameB
    rw [eqb_true h0, eqb_false h1]
    simp
  have HS := Lib.hid hs
  have d0 := ne_false h0
  have d1 := ne_true h1
  clear hs h0 h1
  go_enter Tryz.func38, Tryz.ntmps38
  go_wp2_with fail
  go_ret
  exact ⟨ret_bool HS.out.symm, HB.out _ _⟩

set_option maxRecDepth 100000 in
set_option maxHeartbeats 1000000 in
theorem rsame_2 (c d : Co) (A1 D1 : Option Addr) (c1 e1 : Nat) (A2 D2 : Option Addr) (c2 e2 : Nat) (w : World) (h0 : c.st = d.st) (h1 : c.pid = d.pid) (h2 : ¬ c.ep = d.ep) :
    Calls Tryz.prog 38 #[(.agg #[.int .i8 c.st, .int .i64 c.pid, .int .i64 c.ep, .int .i64 c.tm, .int .i64 c.th, .slice A1 c.ps.length c1, .slice D1 c.qs.length e1, .int .i64 c.ag]), (.agg #[.int .i8 d.st, .int .i64 d.pid, .int .i64 d.ep, .int .i64 d.tm, .int .i64 d.th, .slice A2 d.ps.length c2, .slice D2 d.qs.length e2, .int .i64 d.ag])] w fun e w' => e = .returned (.bool (sameB c d)) ∧ Below w.heap.size w w' := by
  have HB := Lib.hid (fun x y => bal (bal (Below.refl w.heap.size w) x) y)
  have hs : sameB c d = false := by
    unfold sameB
    rw [eqb_true h0, eqb_true h1, eqb_false h2]
    simp
  have HS := Lib.hid hs
  have d0 := ne_false h0
  have d1 := ne_false h1
  have d2 := ne_true h2
  clear hs h0 h1 h2
  go_enter Tryz.func38, Tryz.ntmps38
  go_wp2_with fail
  go_ret
  exact ⟨ret_bool HS.out.symm, HB.out _ _⟩

set_option maxRecDepth 100000 in
set_option maxHeartbeats 1000000 in
theorem rsame_3 (c d : Co) (A1 D1 : Option Addr) (c1 e1 : Nat) (A2 D2 : Option Addr) (c2 e2 : Nat) (w : World) (h0 : c.st = d.st) (h1 : c.pid = d.pid) (h2 : c.ep = d.ep) (h3 : ¬ c.tm = d.tm) :
    Calls Tryz.prog 38 #[(.agg #[.int .i8 c.st, .int .i64 c.pid, .int .i64 c.ep, .int .i64 c.tm, .int .i64 c.th, .slice A1 c.ps.length c1, .slice D1 c.qs.length e1, .int .i64 c.ag]), (.agg #[.int .i8 d.st, .int .i64 d.pid, .int .i64 d.ep, .int .i64 d.tm, .int .i64 d.th, .slice A2 d.ps.length c2, .slice D2 d.qs.length e2, .int .i64 d.ag])] w fun e w' => e = .returned (.bool (sameB c d)) ∧ Below w.heap.size w w' := by
  have HB := Lib.hid (fun x y => bal (bal (Below.refl w.heap.size w) x) y)
  have hs : sameB c d = false := by
    unfold sameB
    rw [eqb_true h0, eqb_true h1, eqb_true h2, eqb_false h3]
    simp
  have HS := Lib.hid hs
  have d0 := ne_false h0
  have d1 := ne_false h1
  have d2 := ne_false h2
  have d3 := ne_true h3
  clear hs h0 h1 h2 h3
  go_enter Tryz.func38, Tryz.ntmps38
  go_wp2_with fail
  go_ret
  exact ⟨ret_bool HS.out.symm, HB.out _ _⟩

set_option maxRecDepth 100000 in
set_option maxHeartbeats 1000000 in
theorem rsame_4 (c d : Co) (A1 D1 : Option Addr) (c1 e1 : Nat) (A2 D2 : Option Addr) (c2 e2 : Nat) (w : World) (h0 : c.st = d.st) (h1 : c.pid = d.pid) (h2 : c.ep = d.ep) (h3 : c.tm = d.tm) (h4 : ¬ c.th = d.th) :
    Calls Tryz.prog 38 #[(.agg #[.int .i8 c.st, .int .i64 c.pid, .int .i64 c.ep, .int .i64 c.tm, .int .i64 c.th, .slice A1 c.ps.length c1, .slice D1 c.qs.length e1, .int .i64 c.ag]), (.agg #[.int .i8 d.st, .int .i64 d.pid, .int .i64 d.ep, .int .i64 d.tm, .int .i64 d.th, .slice A2 d.ps.length c2, .slice D2 d.qs.length e2, .int .i64 d.ag])] w fun e w' => e = .returned (.bool (sameB c d)) ∧ Below w.heap.size w w' := by
  have HB := Lib.hid (fun x y => bal (bal (Below.refl w.heap.size w) x) y)
  have hs : sameB c d = false := by
    unfold sameB
    rw [eqb_true h0, eqb_true h1, eqb_true h2, eqb_true h3, eqb_false h4]
    simp
  have HS := Lib.hid hs
  have d0 := ne_false h0
  have d1 := ne_false h1
  have d2 := ne_false h2
  have d3 := ne_false h3
  have d4 := ne_true h4
  clear hs h0 h1 h2 h3 h4
  go_enter Tryz.func38, Tryz.ntmps38
  go_wp2_with fail
  go_ret
  exact ⟨ret_bool HS.out.symm, HB.out _ _⟩

set_option maxRecDepth 100000 in
set_option maxHeartbeats 1000000 in
theorem rsame_5 (c d : Co) (A1 D1 : Option Addr) (c1 e1 : Nat) (A2 D2 : Option Addr) (c2 e2 : Nat) (w : World) (h0 : c.st = d.st) (h1 : c.pid = d.pid) (h2 : c.ep = d.ep) (h3 : c.tm = d.tm) (h4 : c.th = d.th) (h5 : ¬ c.ag = d.ag) :
    Calls Tryz.prog 38 #[(.agg #[.int .i8 c.st, .int .i64 c.pid, .int .i64 c.ep, .int .i64 c.tm, .int .i64 c.th, .slice A1 c.ps.length c1, .slice D1 c.qs.length e1, .int .i64 c.ag]), (.agg #[.int .i8 d.st, .int .i64 d.pid, .int .i64 d.ep, .int .i64 d.tm, .int .i64 d.th, .slice A2 d.ps.length c2, .slice D2 d.qs.length e2, .int .i64 d.ag])] w fun e w' => e = .returned (.bool (sameB c d)) ∧ Below w.heap.size w w' := by
  have HB := Lib.hid (fun x y => bal (bal (Below.refl w.heap.size w) x) y)
  have hs : sameB c d = false := by
    unfold sameB
    rw [eqb_true h0, eqb_true h1, eqb_true h2, eqb_true h3, eqb_true h4, eqb_false h5]
    simp
  have HS := Lib.hid hs
  have d0 := ne_false h0
  have d1 := ne_false h1
  have d2 := ne_false h2
  have d3 := ne_false h3
  have d4 := ne_false h4
  have d5 := ne_true h5
  clear hs h0 h1 h2 h3 h4 h5
  go_enter Tryz.func38, Tryz.ntmps38
  go_wp2_with fail
  go_ret
  exact ⟨ret_bool HS.out.symm, HB.out _ _⟩

set_option maxRecDepth 100000 in
set_option maxHeartbeats 1000000 in
theorem rsame_6 (c d : Co) (A1 D1 : Option Addr) (c1 e1 : Nat) (A2 D2 : Option Addr) (c2 e2 : Nat) (w : World) (h0 : c.st = d.st) (h1 : c.pid = d.pid) (h2 : c.ep = d.ep) (h3 : c.tm = d.tm) (h4 : c.th = d.th) (h5 : c.ag = d.ag) (h6 : ¬ (c.ps.length : Int) = (d.ps.length : Int)) :
    Calls Tryz.prog 38 #[(.agg #[.int .i8 c.st, .int .i64 c.pid, .int .i64 c.ep, .int .i64 c.tm, .int .i64 c.th, .slice A1 c.ps.length c1, .slice D1 c.qs.length e1, .int .i64 c.ag]), (.agg #[.int .i8 d.st, .int .i64 d.pid, .int .i64 d.ep, .int .i64 d.tm, .int .i64 d.th, .slice A2 d.ps.length c2, .slice D2 d.qs.length e2, .int .i64 d.ag])] w fun e w' => e = .returned (.bool (sameB c d)) ∧ Below w.heap.size w w' := by
  have HB := Lib.hid (fun x y => bal (bal (Below.refl w.heap.size w) x) y)
  have hs : sameB c d = false := by
    unfold sameB
    rw [eqb_true h0, eqb_true h1, eqb_true h2, eqb_true h3, eqb_true h4, eqb_true h5, decide_eq_false (fun h => h6 (by rw [h]))]
    simp
  have HS := Lib.hid hs
  have d0 := ne_false h0
  have d1 := ne_false h1
  have d2 := ne_false h2
  have d3 := ne_false h3
  have d4 := ne_false h4
  have d5 := ne_false h5
  have d6 := ne_true h6
  clear hs h0 h1 h2 h3 h4 h5 h6
  go_enter Tryz.func38, Tryz.ntmps38
  go_wp2_with fail
  go_ret
  exact ⟨ret_bool HS.out.symm, HB.out _ _⟩

set_option maxRecDepth 100000 in
set_option maxHeartbeats 1000000 in
theorem rsame_7 (c d : Co) (A1 D1 : Option Addr) (c1 e1 : Nat) (A2 D2 : Option Addr) (c2 e2 : Nat) (w : World) (h0 : c.st = d.st) (h1 : c.pid = d.pid) (h2 : c.ep = d.ep) (h3 : c.tm = d.tm) (h4 : c.th = d.th) (h5 : c.ag = d.ag) (h6 : (c.ps.length : Int) = (d.ps.length : Int)) (h7 : ¬ (c.qs.length : Int) = (d.qs.length : Int)) :
    Calls Tryz.prog 38 #[(.agg #[.int .i8 c.st, .int .i64 c.pid, .int .i64 c.ep, .int .i64 c.tm, .int .i64 c.th, .slice A1 c.ps.length c1, .slice D1 c.qs.length e1, .int .i64 c.ag]), (.agg #[.int .i8 d.st, .int .i64 d.pid, .int .i64 d.ep, .int .i64 d.tm, .int .i64 d.th, .slice A2 d.ps.length c2, .slice D2 d.qs.length e2, .int .i64 d.ag])] w fun e w' => e = .returned (.bool (sameB c d)) ∧ Below w.heap.size w w' := by
  have HB := Lib.hid (fun x y => bal (bal (Below.refl w.heap.size w) x) y)
  have hs : sameB c d = false := by
    unfold sameB
    rw [eqb_true h0, eqb_true h1, eqb_true h2, eqb_true h3, eqb_true h4, eqb_true h5, decide_eq_false (p := c.qs = d.qs) (fun h => h7 (by rw [h]))]
    simp
  have HS := Lib.hid hs
  have d0 := ne_false h0
  have d1 := ne_false h1
  have d2 := ne_false h2
  have d3 := ne_false h3
  have d4 := ne_false h4
  have d5 := ne_false h5
  have d6 := ne_false h6
  have d7 := ne_true h7
  clear hs h0 h1 h2 h3 h4 h5 h6 h7
  go_enter Tryz.func38, Tryz.ntmps38
  go_wp2_with fail
  go_ret
  exact ⟨ret_bool HS.out.symm, HB.out _ _⟩

set_option maxRecDepth 100000 in
set_option maxHeartbeats 2000000 in
theorem rsame_8 (c d : Co) (A1 D1 : Option Addr) (c1 e1 : Nat) (A2 D2 : Option Addr) (c2 e2 : Nat) (B1 B2 : Nat) (w : World) (k1 : CoR w B1 c A1 D1) (k2 : CoR w B2 d A2 D2) (hB1 : B1 ≤ w.heap.size) (hB2 : B2 ≤ w.heap.size) (h0 : c.st = d.st) (h1 : c.pid = d.pid) (h2 : c.ep = d.ep) (h3 : c.tm = d.tm) (h4 : c.th = d.th) (h5 : c.ag = d.ag) (h6 : (c.ps.length : Int) = (d.ps.length : Int)) (h7 : (c.qs.length : Int) = (d.qs.length : Int)) :
    Calls Tryz.prog 38 #[(.agg #[.int .i8 c.st, .int .i64 c.pid, .int .i64 c.ep, .int .i64 c.tm, .int .i64 c.th, .slice A1 c.ps.length c1, .slice D1 c.qs.length e1, .int .i64 c.ag]), (.agg #[.int .i8 d.st, .int .i64 d.pid, .int .i64 d.ep, .int .i64 d.tm, .int .i64 d.th, .slice A2 d.ps.length c2, .slice D2 d.qs.length e2, .int .i64 d.ag])] w fun e w' => e = .returned (.bool (sameB c d)) ∧ Below w.heap.size w w' := by
  have hm : Tryz.prog.eqGuardType Tryz.prog.depth 40 = false := by kernel_rfl
  obtain ⟨r1, q1, n1, m1⟩ := k1
  obtain ⟨r2, q2, n2, m2⟩ := k2
  have HB := Lib.hid (bal (bal (Below.refl w.heap.size w) (.cells #[.int .i8 c.st, .int .i64 c.pid, .int .i64 c.ep, .int .i64 c.tm, .int .i64 c.th, .slice A1 c.ps.length c1, .slice D1 c.qs.length e1, .int .i64 c.ag] 29)) (.cells #[.int .i8 d.st, .int .i64 d.pid, .int .i64 d.ep, .int .i64 d.tm, .int .i64 d.th, .slice A2 d.ps.length c2, .slice D2 d.qs.length e2, .int .i64 d.ag] 29))
  have K1 := Lib.hid ((Blk.new w 29 #[.int .i8 c.st, .int .i64 c.pid, .int .i64 c.ep, .int .i64 c.tm, .int .i64 c.th, .slice A1 c.ps.length c1, .slice D1 c.qs.length e1, .int .i64 c.ag]).alloc (.cells #[.int .i8 d.st, .int .i64 d.pid, .int .i64 d.ep, .int .i64 d.tm, .int .i64 d.th, .slice A2 d.ps.length c2, .slice D2 d.qs.length e2, .int .i64 d.ag] 29))
  have kk := Blk.new (w.alloc (.cells #[.int .i8 c.st, .int .i64 c.pid, .int .i64 c.ep, .int .i64 c.tm, .int .i64 c.th, .slice A1 c.ps.length c1, .slice D1 c.qs.length e1, .int .i64 c.ag] 29)) 29 #[.int .i8 d.st, .int .i64 d.pid, .int .i64 d.ep, .int .i64 d.tm, .int .i64 d.th, .slice A2 d.ps.length c2, .slice D2 d.qs.length e2, .int .i64 d.ag]
  rw [World.size_alloc] at kk
  have K2 := Lib.hid kk
  have R1 := Lib.hid ((r1.alloc hB1 (.cells #[.int .i8 c.st, .int .i64 c.pid, .int .i64 c.ep, .int .i64 c.tm, .int .i64 c.th, .slice A1 c.ps.length c1, .slice D1 c.qs.length e1, .int .i64 c.ag] 29)).alloc (by simp; omega) (.cells #[.int .i8 d.st, .int .i64 d.pid, .int .i64 d.ep, .int .i64 d.tm, .int .i64 d.th, .slice A2 d.ps.length c2, .slice D2 d.qs.length e2, .int .i64 d.ag] 29))
  have Q1 := Lib.hid ((q1.alloc hB1 (.cells #[.int .i8 c.st, .int .i64 c.pid, .int .i64 c.ep, .int .i64 c.tm, .int .i64 c.th, .slice A1 c.ps.length c1, .slice D1 c.qs.length e1, .int .i64 c.ag] 29)).alloc (by simp; omega) (.cells #[.int .i8 d.st, .int .i64 d.pid, .int .i64 d.ep, .int .i64 d.tm, .int .i64 d.th, .slice A2 d.ps.length c2, .slice D2 d.qs.length e2, .int .i64 d.ag] 29))
  have R2 := Lib.hid ((r2.alloc hB2 (.cells #[.int .i8 c.st, .int .i64 c.pid, .int .i64 c.ep, .int .i64 c.tm, .int .i64 c.th, .slice A1 c.ps.length c1, .slice D1 c.qs.length e1, .int .i64 c.ag] 29)).alloc (by simp; omega) (.cells #[.int .i8 d.st, .int .i64 d.pid, .int .i64 d.ep, .int .i64 d.tm, .int .i64 d.th, .slice A2 d.ps.length c2, .slice D2 d.qs.length e2, .int .i64 d.ag] 29))
  have Q2 := Lib.hid ((q2.alloc hB2 (.cells #[.int .i8 c.st, .int .i64 c.pid, .int .i64 c.ep, .int .i64 c.tm, .int .i64 c.th, .slice A1 c.ps.length c1, .slice D1 c.qs.length e1, .int .i64 c.ag] 29)).alloc (by simp; omega) (.cells #[.int .i8 d.st, .int .i64 d.pid, .int .i64 d.ep, .int .i64 d.tm, .int .i64 d.th, .slice A2 d.ps.length c2, .slice D2 d.qs.length e2, .int .i64 d.ag] 29))
  have hs : sameB c d = (decide (c.ps = d.ps) && decide (c.qs = d.qs)) := by
    unfold sameB
    rw [eqb_true h0, eqb_true h1, eqb_true h2, eqb_true h3, eqb_true h4, eqb_true h5]
    simp
  have HS := Lib.hid hs
  have d0 := ne_false h0
  have d1 := ne_false h1
  have d2 := ne_false h2
  have d3 := ne_false h3
  have d4 := ne_false h4
  have d5 := ne_false h5
  have d6 := ne_false h6
  have d7 := ne_false h7
  have l1 : c.ps.length ≤ d.ps.length := by omega
  have l2 : d.ps.length ≤ c.ps.length := by omega
  have l3 : c.qs.length ≤ d.qs.length := by omega
  have l4 : d.qs.length ≤ c.qs.length := by omega
  clear hs kk r1 q1 r2 q2 h0 h1 h2 h3 h4 h5 h6 h7
  go_enter Tryz.func38, Tryz.ntmps38
  go_wp2_with fail
  have K1c5 := K1.out.cell 5
  have K1c6 := K1.out.cell 6
  have K2c5 := K2.out.cell 5
  have K2c6 := K2.out.cell 6
  generalize (w.alloc (.cells #[.int .i8 c.st, .int .i64 c.pid, .int .i64 c.ep, .int .i64 c.tm, .int .i64 c.th, .slice A1 c.ps.length c1, .slice D1 c.qs.length e1, .int .i64 c.ag] 29)).alloc (.cells #[.int .i8 d.st, .int .i64 d.pid, .int .i64 d.ep, .int .i64 d.tm, .int .i64 d.th, .slice A2 d.ps.length c2, .slice D2 d.qs.length e2, .int .i64 d.ag] 29) = W at *
  go_loopw [5] (fun y wr => ∃ k q : Nat, k ≤ c.ps.length ∧ y = .int .i64 k ∧ wr = W.drewN q ∧ c.ps.take k = d.ps.take k) (fun y _ => c.ps.length - (intOf y).toNat)
  case atStart => exact ⟨0, 0, Nat.zero_le _, rfl, rfl, by simp⟩
  case round =>
    obtain ⟨k, q, hk, rfl, rfl, htk⟩ := hrel
    have HTK := Lib.hid htk
    clear htk
    by_cases hlt : k < c.ps.length
    · have f1 : decide ((k : Int) < (c.ps.length : Int)) = true := by simp; omega
      obtain ⟨b1, o1, rfl, _, hc1⟩ := R1.out.plain (by omega)
      obtain ⟨b2, o2, rfl, _, hc2⟩ := R2.out.plain (by omega)
      obtain ⟨x, hx⟩ : ∃ z, c.ps[k]? = some z := ⟨_, List.getElem?_eq_getElem hlt⟩
      obtain ⟨y, hy⟩ : ∃ z, d.ps[k]? = some z := ⟨_, List.getElem?_eq_getElem (by omega)⟩
      have g1 := hc1 k _ (by rw [getElem?_cellsI, hx]; rfl)
      have g2 := hc2 k _ (by rw [getElem?_cellsI, hy]; rfl)
      have i1 : (0 : Int) ≤ (k : Int) := by omega
      have i2 : (k : Int) < (c.ps.length : Int) := by omega
      have i3 : (k : Int) < (d.ps.length : Int) := by omega
      have HTS := Lib.hid (take_snoc_eq HTK.out hx hy)
      have HX := Lib.hid hx
      have HY := Lib.hid hy
      clear hc1 hc2 hx hy
      by_cases hxy : x = y
      · have f2 := ne_false hxy
        have HXY := Lib.hid hxy
        clear hxy
        go_wp2_with fail
        go_quiet (fail)
        go_wp2_with fail
        go_roundw
        case rel => exact ⟨k + 1, _, by omega, by go_num, rfl, HTS.out.2 HXY.out⟩
        case measure => simp [intOf]; omega
      · have f2 := ne_true hxy
        have HF := Lib.hid (show sameB c d = false by rw [HS.out, decide_eq_false (ne_of_at HX.out HY.out hxy)]; rfl)
        clear hxy
        go_wp2_with fail
        go_quiet (fail)
        go_wp2_with fail
        go_ret
        exact ⟨ret_bool HF.out.symm, below_drewN (below_drewN HB.out _) _⟩
    · obtain rfl : k = c.ps.length := by omega
      have f1 : decide ((c.ps.length : Int) < (c.ps.length : Int)) = false := by simp
      have he : c.ps = d.ps := by
        have h3 := HTK.out
        rw [List.take_length, List.take_of_length_le (by omega)] at h3
        exact h3
      have HS2 := Lib.hid (show sameB c d = decide (c.qs = d.qs) by rw [HS.out, decide_eq_true he]; rfl)
      clear he
      go_wp2_with fail
      go_loopw [6] (fun y wr => ∃ k q : Nat, k ≤ c.qs.length ∧ y = .int .i64 k ∧ wr = W.drewN q ∧ c.qs.take k = d.qs.take k) (fun y _ => c.qs.length - (intOf y).toNat)
      case atStart => exact ⟨0, q, Nat.zero_le _, rfl, rfl, by simp⟩
      case round =>
        obtain ⟨k, q, hk, rfl, rfl, htk⟩ := hrel
        have HTK2 := Lib.hid htk
        clear htk
        by_cases hlt2 : k < c.qs.length
        · have f2 : decide ((k : Int) < (c.qs.length : Int)) = true := by simp; omega
          obtain ⟨b1, o1, rfl, _, hc1⟩ := Q1.out.plain3 (by omega)
          obtain ⟨b2, o2, rfl, _, hc2⟩ := Q2.out.plain3 (by omega)
          obtain ⟨x, hx⟩ : ∃ z, c.qs[k]? = some z := ⟨_, List.getElem?_eq_getElem hlt2⟩
          obtain ⟨y, hy⟩ : ∃ z, d.qs[k]? = some z := ⟨_, List.getElem?_eq_getElem (by omega)⟩
          obtain ⟨g1, g2, g3⟩ := hc1 k _ hx
          obtain ⟨g4, g5, g6⟩ := hc2 k _ hy
          have heq := fun W => eqPend x y W
          have i1 : (0 : Int) ≤ (k : Int) := by omega
          have i2 : (k : Int) < (c.qs.length : Int) := by omega
          have i3 : (k : Int) < (d.qs.length : Int) := by omega
          have HTS := Lib.hid (take_snoc_eq HTK2.out hx hy)
          have HX := Lib.hid hx
          have HY := Lib.hid hy
          clear hc1 hc2 hx hy
          by_cases hxy : x = y
          · have HXY := Lib.hid hxy
            rw [decide_eq_true hxy] at heq
            clear hxy
            go_wp2_with fail
            go_quiet (fail)
            go_wp2_with fail
            go_roundw
            case rel => exact ⟨k + 1, _, by omega, by go_num, rfl, HTS.out.2 HXY.out⟩
            case measure => simp [intOf]; omega
          · rw [decide_eq_false hxy] at heq
            have HF := Lib.hid (show sameB c d = false by rw [HS2.out, decide_eq_false (ne_of_at HX.out HY.out hxy)])
            clear hxy
            go_wp2_with fail
            go_quiet (fail)
            go_wp2_with fail
            go_ret
            exact ⟨ret_bool HF.out.symm, below_drewN (below_drewN HB.out _) _⟩
        · obtain rfl : k = c.qs.length := by omega
          have f2 : decide ((c.qs.length : Int) < (c.qs.length : Int)) = false := by simp
          have he : c.qs = d.qs := by
            have h3 := HTK2.out
            rw [List.take_length, List.take_of_length_le (by omega)] at h3
            exact h3
          have HF := Lib.hid (show sameB c d = true by rw [HS2.out, decide_eq_true he])
          clear he
          go_wp2_with fail
          go_ret
          exact ⟨ret_bool HF.out.symm, below_drewN HB.out _⟩

theorem rSame_any (c d : Co) (A1 D1 : Option Addr) (c1 e1 : Nat) (A2 D2 : Option Addr) (c2 e2 : Nat) (B1 B2 : Nat) (w : World) (k1 : CoR w B1 c A1 D1) (k2 : CoR w B2 d A2 D2) (hB1 : B1 ≤ w.heap.size) (hB2 : B2 ≤ w.heap.size) :
    Calls Tryz.prog 38 #[(.agg #[.int .i8 c.st, .int .i64 c.pid, .int .i64 c.ep, .int .i64 c.tm, .int .i64 c.th, .slice A1 c.ps.length c1, .slice D1 c.qs.length e1, .int .i64 c.ag]), (.agg #[.int .i8 d.st, .int .i64 d.pid, .int .i64 d.ep, .int .i64 d.tm, .int .i64 d.th, .slice A2 d.ps.length c2, .slice D2 d.qs.length e2, .int .i64 d.ag])] w fun e w' => e = .returned (.bool (sameB c d)) ∧ Below w.heap.size w w' := by
  refine (Decidable.em (c.st = d.st)).elim (fun h0 => ?_) (fun h0 => rsame_0 c d A1 D1 c1 e1 A2 D2 c2 e2 w h0)
  refine (Decidable.em (c.pid = d.pid)).elim (fun h1 => ?_) (fun h1 => rsame_1 c d A1 D1 c1 e1 A2 D2 c2 e2 w h0 h1)
  refine (Decidable.em (c.ep = d.ep)).elim (fun h2 => ?_) (fun h2 => rsame_2 c d A1 D1 c1 e1 A2 D2 c2 e2 w h0 h1 h2)
  refine (Decidable.em (c.tm = d.tm)).elim (fun h3 => ?_) (fun h3 => rsame_3 c d A1 D1 c1 e1 A2 D2 c2 e2 w h0 h1 h2 h3)
  refine (Decidable.em (c.th = d.th)).elim (fun h4 => ?_) (fun h4 => rsame_4 c d A1 D1 c1 e1 A2 D2 c2 e2 w h0 h1 h2 h3 h4)
  refine (Decidable.em (c.ag = d.ag)).elim (fun h5 => ?_) (fun h5 => rsame_5 c d A1 D1 c1 e1 A2 D2 c2 e2 w h0 h1 h2 h3 h4 h5)
  refine (Decidable.em ((c.ps.length : Int) = (d.ps.length : Int))).elim (fun h6 => ?_) (fun h6 => rsame_6 c d A1 D1 c1 e1 A2 D2 c2 e2 w h0 h1 h2 h3 h4 h5 h6)
  refine (Decidable.em ((c.qs.length : Int) = (d.qs.length : Int))).elim (fun h7 => ?_) (fun h7 => rsame_7 c d A1 D1 c1 e1 A2 D2 c2 e2 w h0 h1 h2 h3 h4 h5 h6 h7)
  exact rsame_8 c d A1 D1 c1 e1 A2 D2 c2 e2 B1 B2 w k1 k2 hB1 hB2 h0 h1 h2 h3 h4 h5 h6 h7

def busyB (c : Co) : Bool := (c.st == 2) || ((c.st == 3) || (c.st == 4))
set_option maxHeartbeats 400000 in
theorem busy_any (c : Co) (A1 D1 : Option Addr) (c1 e1 : Nat) (w : World) : Calls Tryz.prog 77 #[(.agg #[.int .i8 c.st, .int .i64 c.pid, .int .i64 c.ep, .int .i64 c.tm, .int .i64 c.th, .slice A1 c.ps.length c1, .slice D1 c.qs.length e1, .int .i64 c.ag])] w fun e w' => e = .returned (.bool (busyB c)) ∧ Below w.heap.size w w' := by
  have HB := Lib.hid (fun x => bal (Below.refl w.heap.size w) x)
  go_enter Tryz.func77, Tryz.ntmps77
  go_wp2
  all_goals (go_ret; exact ⟨ret_bool (by unfold busyB; first | rfl | simp [*] | rw [Bool.or_assoc]), HB.out _⟩)
end Go.Proofs.YtbpkckahonmpkaaGreatDoor
namespace Go.Proofs.YtbpkckahonmpkaaGreatDoor
open Go.RowKit

/-- The pends, as the document asks them: each one, and that each is behind the one ahead of it. -/
def PendsTo (l : List Pd) (k : Nat) : Prop := Adj aheadP l k ∧ (l.take k).all pendB = true
open Classical in
noncomputable def pendsB (l : List Pd) : Bool := decide (PendsTo l l.length)
theorem pendsB_true {l : List Pd} (h : PendsTo l l.length) : pendsB l = true := by unfold pendsB; simpa using h
theorem pendsB_false {l : List Pd} (h : ¬ PendsTo l l.length) : pendsB l = false := by unfold pendsB; simpa using h
theorem pendsB_eq (l : List Pd) : pendsB l = (l.all pendB && adjB aheadP l) := by
  by_cases h : PendsTo l l.length
  · rw [pendsB_true h]
    obtain ⟨h1, h2⟩ := h
    rw [List.take_length] at h2
    rw [h2, adjB_true h1]; rfl
  · rw [pendsB_false h]
    cases h2 : l.all pendB
    · rfl
    · cases h3 : adjB aheadP l
      · rfl
      · refine absurd ⟨?_, ?_⟩ h
        · unfold adjB at h3
          simpa using h3
        · rw [List.take_length]; exact h2

/-- The tests ahead of the pends. -/
noncomputable def aheadsB (c : Co) : Bool := inB c.st 1 6 && (inB c.pid 1 8 && (inB c.ep 0 100 && (inB c.tm 1 20 && (inB c.ag 0 1048576 && (riseB c.ps && inB c.th 0 20)))))
noncomputable def lastB (c : Co) : Bool :=
  !((!busyB c && (decide (0 < c.ps.length) || (decide (0 < c.qs.length) || decide (0 < c.ag)))) || ((c.st == 2) && (decide (c.ps.length = 0) && decide (c.qs.length = 0)))) && ((c.th == 0) || ((c.st == 4) && decide (c.ep < 100)))
noncomputable def rmayB (c : Co) : Bool := if c.st = 0 then sameB c Co0 else aheadsB c && (pendsB c.qs && lastB c)

theorem may_same (c : Co) : rmayB c = mayB c := by
  unfold rmayB mayB
  by_cases h0 : c.st = 0
  · rw [if_pos h0, if_pos h0]
  · rw [if_neg h0, if_neg h0]
    unfold aheadsB lastB tailB idleB rangeB busyB inB
    rw [riseB_parts, pendsB_eq]
    generalize c.qs.all pendB = b1
    generalize adjB aheadP c.qs = b2
    generalize partsB c.ps = b3
    generalize c.ps.length = n
    generalize c.qs.length = m
    by_cases h2 : c.st = 2
    · rw [if_pos h2, h2]
      cases b1 <;> cases b2 <;> cases b3 <;> simp <;> (try (first | (rw [Bool.eq_iff_iff]; simp; omega) | (intros; omega)))
    · rw [if_neg h2]
      by_cases h3 : c.st = 3
      · rw [if_pos h3, h3]
        cases b1 <;> cases b2 <;> cases b3 <;> simp <;> (try (first | (rw [Bool.eq_iff_iff]; simp; omega) | (intros; omega)))
      · rw [if_neg h3]
        by_cases h4 : c.st = 4
        · rw [if_pos h4, h4]
          cases b1 <;> cases b2 <;> cases b3 <;> simp <;> (try (first | (rw [Bool.eq_iff_iff]; simp; omega) | (intros; omega)))
        · rw [if_neg h4]
          by_cases h5 : c.st = 1 ∨ c.st = 5 ∨ c.st = 6
          · rw [if_pos h5]
            cases b1 <;> cases b2 <;> cases b3 <;> simp <;> (try (first | (rw [Bool.eq_iff_iff]; simp; omega) | (intros; omega)))
          · rw [if_neg h5]
            cases b1 <;> cases b2 <;> cases b3 <;> simp <;> (try (first | (rw [Bool.eq_iff_iff]; simp; omega) | (intros; omega)))
end Go.Proofs.YtbpkckahonmpkaaGreatDoor
namespace Go.Proofs.YtbpkckahonmpkaaGreatDoor
open Go.RowKit

/-- The worlds that are as w was below block B. -/
def BW (B : Nat) (w : World) : Type := { W : World // Below B w W }
instance nonempty_BW (B : Nat) (w : World) : Nonempty (BW B w) := ⟨⟨w, Below.refl _ _⟩⟩
theorem wp_region_bq {P : Program} {id : Nat} {Q : Exit → Act → World → Prop} {a : Act} {w : World} {l : List Oper} (B : Nat) (hm : P.follows .mixedOrders = true) (hB : Region.lexB .any l.toArray = true)
    (h : wpQuiet P l.toArray (fun W => ∃ n : BW B w, W = n.1) (fun a' => ∀ W, (∃ n : BW B w, W = n.1) → Q .normal a' W) l a) : (Code.region id l.toArray true).wp P Q a w :=
  wp_region_quiet (C := fun W => ∃ n : BW B w, W = n.1) hm hB ⟨⟨w.drew, (Below.refl _ _).drew⟩, rfl⟩ (by simpa using h)
theorem bw_call {P : Program} {f : FuncId} {args : Array Value} {B : Nat} {w : World} (hB : B ≤ w.heap.size) {n : BW B w} {v : Value} (h : Calls P f args n.1 fun e w' => e = .returned v ∧ Below n.1.heap.size n.1 w') :
    Calls P f args n.1 fun e w'' => e = .returned v ∧ ∃ m : BW B w, w'' = m.1 :=
  h.mono fun _ w' ⟨he, hb⟩ => ⟨he, ⟨w', n.2.trans (hb.mono (Nat.le_trans hB n.2.size))⟩, rfl⟩
theorem bw_same {P : Program} {f : FuncId} {args : Array Value} {B : Nat} {w : World} {n : BW B w} {v : Value} (h : Calls P f args n.1 fun e w' => e = .returned v ∧ n.1 = w') :
    Calls P f args n.1 fun e w'' => e = .returned v ∧ ∃ m : BW B w, w'' = m.1 :=
  h.mono fun _ _ ⟨he, hb⟩ => ⟨he, n, hb.symm⟩
theorem bw_cell {B : Nat} {w : World} {b o : Nat} {v : Value} (h : w.cell? ⟨b, o, none⟩ = some v) (hb : b < B) (n : BW B w) : n.1.cell? ⟨b, o, none⟩ = some v := (n.2.cell (p := ⟨b, o, none⟩) hb).trans h
end Go.Proofs.YtbpkckahonmpkaaGreatDoor
namespace Go.Proofs.YtbpkckahonmpkaaGreatDoor
open Go.RowKit

set_option maxRecDepth 100000 in
set_option maxHeartbeats 1000000 in
theorem rmay_0 (c : Co) (A1 D1 : Option Addr) (c1 e1 : Nat) (B : Nat) (w : World) (h1 : CoR w B c A1 D1) (hB : B ≤ w.heap.size) (h8 : -128 ≤ c.st) (h9 : c.st ≤ 127) (hst : ¬ c.st = 0) (b0 : inB c.st 1 6 = false) :
    Calls Tryz.prog 48 #[(.agg #[.int .i8 c.st, .int .i64 c.pid, .int .i64 c.ep, .int .i64 c.tm, .int .i64 c.th, .slice A1 c.ps.length c1, .slice D1 c.qs.length e1, .int .i64 c.ag])] w fun e w' => e = .returned (.bool (rmayB c)) ∧ Below w.heap.size w w' := by
  have hs : rmayB c = false := by
    unfold rmayB aheadsB
    rw [if_neg hst, b0]
    simp
  have HB := Lib.hid (fun x => bal (Below.refl w.heap.size w) x)
  have HRI := Lib.hid (fun x => rise_any A1 c.ps c1 B (w.alloc x) (h1.1.alloc hB x) (by have := h1.2.2.1; omega))
  have z0 : (c.st == 0) = false := eqb_false hst
  have HS := Lib.hid hs
  clear hs h1 hst
  go_enter Tryz.func48, Tryz.ntmps48
  go_wp2_with (first | (go_at_call 73; refine (in_any _ _ _ _).mono ?_; rintro e w1 ⟨rfl, rfl⟩) | (go_at_call 74; refine (HRI.out _).mono ?_; rintro e w1 ⟨rfl, rfl⟩))
  go_ret
  exact ⟨ret_bool HS.out.symm, HB.out _⟩

set_option maxRecDepth 100000 in
set_option maxHeartbeats 1000000 in
theorem rmay_1 (c : Co) (A1 D1 : Option Addr) (c1 e1 : Nat) (B : Nat) (w : World) (h1 : CoR w B c A1 D1) (hB : B ≤ w.heap.size) (h8 : -128 ≤ c.st) (h9 : c.st ≤ 127) (hst : ¬ c.st = 0) (b0 : inB c.st 1 6 = true) (b1 : inB c.pid 1 8 = false) :
    Calls Tryz.prog 48 #[(.agg #[.int .i8 c.st, .int .i64 c.pid, .int .i64 c.ep, .int .i64 c.tm, .int .i64 c.th, .slice A1 c.ps.length c1, .slice D1 c.qs.length e1, .int .i64 c.ag])] w fun e w' => e = .returned (.bool (rmayB c)) ∧ Below w.heap.size w w' := by
  have hs : rmayB c = false := by
    unfold rmayB aheadsB
    rw [if_neg hst, b0, b1]
    simp
  have HB := Lib.hid (fun x => bal (Below.refl w.heap.size w) x)
  have HRI := Lib.hid (fun x => rise_any A1 c.ps c1 B (w.alloc x) (h1.1.alloc hB x) (by have := h1.2.2.1; omega))
  have z0 : (c.st == 0) = false := eqb_false hst
  have HS := Lib.hid hs
  clear hs h1 hst
  go_enter Tryz.func48, Tryz.ntmps48
  go_wp2_with (first | (go_at_call 73; refine (in_any _ _ _ _).mono ?_; rintro e w1 ⟨rfl, rfl⟩) | (go_at_call 74; refine (HRI.out _).mono ?_; rintro e w1 ⟨rfl, rfl⟩))
  go_ret
  exact ⟨ret_bool HS.out.symm, HB.out _⟩

set_option maxRecDepth 100000 in
set_option maxHeartbeats 1000000 in
theorem rmay_2 (c : Co) (A1 D1 : Option Addr) (c1 e1 : Nat) (B : Nat) (w : World) (h1 : CoR w B c A1 D1) (hB : B ≤ w.heap.size) (h8 : -128 ≤ c.st) (h9 : c.st ≤ 127) (hst : ¬ c.st = 0) (b0 : inB c.st 1 6 = true) (b1 : inB c.pid 1 8 = true) (b2 : inB c.ep 0 100 = false) :
    Calls Tryz.prog 48 #[(.agg #[.int .i8 c.st, .int .i64 c.pid, .int .i64 c.ep, .int .i64 c.tm, .int .i64 c.th, .slice A1 c.ps.length c1, .slice D1 c.qs.length e1, .int .i64 c.ag])] w fun e w' => e = .returned (.bool (rmayB c)) ∧ Below w.heap.size w w' := by
  have hs : rmayB c = false := by
    unfold rmayB aheadsB
    rw [if_neg hst, b0, b1, b2]
    simp
  have HB := Lib.hid (fun x => bal (Below.refl w.heap.size w) x)
  have HRI := Lib.hid (fun x => rise_any A1 c.ps c1 B (w.alloc x) (h1.1.alloc hB x) (by have := h1.2.2.1; omega))
  have z0 : (c.st == 0) = false := eqb_false hst
  have HS := Lib.hid hs
  clear hs h1 hst
  go_enter Tryz.func48, Tryz.ntmps48
  go_wp2_with (first | (go_at_call 73; refine (in_any _ _ _ _).mono ?_; rintro e w1 ⟨rfl, rfl⟩) | (go_at_call 74; refine (HRI.out _).mono ?_; rintro e w1 ⟨rfl, rfl⟩))
  go_ret
  exact ⟨ret_bool HS.out.symm, HB.out _⟩

set_option maxRecDepth 100000 in
set_option maxHeartbeats 1000000 in
theorem rmay_3 (c : Co) (A1 D1 : Option Addr) (c1 e1 : Nat) (B : Nat) (w : World) (h1 : CoR w B c A1 D1) (hB : B ≤ w.heap.size) (h8 : -128 ≤ c.st) (h9 : c.st ≤ 127) (hst : ¬ c.st = 0) (b0 : inB c.st 1 6 = true) (b1 : inB c.pid 1 8 = true) (b2 : inB c.ep 0 100 = true) (b3 : inB c.tm 1 20 = false) :
    Calls Tryz.prog 48 #[(.agg #[.int .i8 c.st, .int .i64 c.pid, .int .i64 c.ep, .int .i64 c.tm, .int .i64 c.th, .slice A1 c.ps.length c1, .slice D1 c.qs.length e1, .int .i64 c.ag])] w fun e w' => e = .returned (.bool (rmayB c)) ∧ Below w.heap.size w w' := by
  have hs : rmayB c = false := by
    unfold rmayB aheadsB
    rw [if_neg hst, b0, b1, b2, b3]
    simp
  have HB := Lib.hid (fun x => bal (Below.refl w.heap.size w) x)
  have HRI := Lib.hid (fun x => rise_any A1 c.ps c1 B (w.alloc x) (h1.1.alloc hB x) (by have := h1.2.2.1; omega))
  have z0 : (c.st == 0) = false := eqb_false hst
  have HS := Lib.hid hs
  clear hs h1 hst
  go_enter Tryz.func48, Tryz.ntmps48
  go_wp2_with (first | (go_at_call 73; refine (in_any _ _ _ _).mono ?_; rintro e w1 ⟨rfl, rfl⟩) | (go_at_call 74; refine (HRI.out _).mono ?_; rintro e w1 ⟨rfl, rfl⟩))
  go_ret
  exact ⟨ret_bool HS.out.symm, HB.out _⟩

set_option maxRecDepth 100000 in
set_option maxHeartbeats 1000000 in
theorem rmay_4 (c : Co) (A1 D1 : Option Addr) (c1 e1 : Nat) (B : Nat) (w : World) (h1 : CoR w B c A1 D1) (hB : B ≤ w.heap.size) (h8 : -128 ≤ c.st) (h9 : c.st ≤ 127) (hst : ¬ c.st = 0) (b0 : inB c.st 1 6 = true) (b1 : inB c.pid 1 8 = true) (b2 : inB c.ep 0 100 = true) (b3 : inB c.tm 1 20 = true) (b4 : inB c.ag 0 1048576 = false) :
    Calls Tryz.prog 48 #[(.agg #[.int .i8 c.st, .int .i64 c.pid, .int .i64 c.ep, .int .i64 c.tm, .int .i64 c.th, .slice A1 c.ps.length c1, .slice D1 c.qs.length e1, .int .i64 c.ag])] w fun e w' => e = .returned (.bool (rmayB c)) ∧ Below w.heap.size w w' := by
  have hs : rmayB c = false := by
    unfold rmayB aheadsB
    rw [if_neg hst, b0, b1, b2, b3, b4]
    simp
  have HB := Lib.hid (fun x => bal (Below.refl w.heap.size w) x)
  have HRI := Lib.hid (fun x => rise_any A1 c.ps c1 B (w.alloc x) (h1.1.alloc hB x) (by have := h1.2.2.1; omega))
  have z0 : (c.st == 0) = false := eqb_false hst
  have HS := Lib.hid hs
  clear hs h1 hst
  go_enter Tryz.func48, Tryz.ntmps48
  go_wp2_with (first | (go_at_call 73; refine (in_any _ _ _ _).mono ?_; rintro e w1 ⟨rfl, rfl⟩) | (go_at_call 74; refine (HRI.out _).mono ?_; rintro e w1 ⟨rfl, rfl⟩))
  go_ret
  exact ⟨ret_bool HS.out.symm, HB.out _⟩

set_option maxRecDepth 100000 in
set_option maxHeartbeats 1000000 in
theorem rmay_5 (c : Co) (A1 D1 : Option Addr) (c1 e1 : Nat) (B : Nat) (w : World) (h1 : CoR w B c A1 D1) (hB : B ≤ w.heap.size) (h8 : -128 ≤ c.st) (h9 : c.st ≤ 127) (hst : ¬ c.st = 0) (b0 : inB c.st 1 6 = true) (b1 : inB c.pid 1 8 = true) (b2 : inB c.ep 0 100 = true) (b3 : inB c.tm 1 20 = true) (b4 : inB c.ag 0 1048576 = true) (b5 : riseB c.ps = false) :
    Calls Tryz.prog 48 #[(.agg #[.int .i8 c.st, .int .i64 c.pid, .int .i64 c.ep, .int .i64 c.tm, .int .i64 c.th, .slice A1 c.ps.length c1, .slice D1 c.qs.length e1, .int .i64 c.ag])] w fun e w' => e = .returned (.bool (rmayB c)) ∧ Below w.heap.size w w' := by
  have hs : rmayB c = false := by
    unfold rmayB aheadsB
    rw [if_neg hst, b0, b1, b2, b3, b4, b5]
    simp
  have HB := Lib.hid (fun x => bal (Below.refl w.heap.size w) x)
  have HRI := Lib.hid (fun x => rise_any A1 c.ps c1 B (w.alloc x) (h1.1.alloc hB x) (by have := h1.2.2.1; omega))
  have z0 : (c.st == 0) = false := eqb_false hst
  have HS := Lib.hid hs
  clear hs h1 hst
  go_enter Tryz.func48, Tryz.ntmps48
  go_wp2_with (first | (go_at_call 73; refine (in_any _ _ _ _).mono ?_; rintro e w1 ⟨rfl, rfl⟩) | (go_at_call 74; refine (HRI.out _).mono ?_; rintro e w1 ⟨rfl, rfl⟩))
  go_ret
  exact ⟨ret_bool HS.out.symm, HB.out _⟩

set_option maxRecDepth 100000 in
set_option maxHeartbeats 1000000 in
theorem rmay_6 (c : Co) (A1 D1 : Option Addr) (c1 e1 : Nat) (B : Nat) (w : World) (h1 : CoR w B c A1 D1) (hB : B ≤ w.heap.size) (h8 : -128 ≤ c.st) (h9 : c.st ≤ 127) (hst : ¬ c.st = 0) (b0 : inB c.st 1 6 = true) (b1 : inB c.pid 1 8 = true) (b2 : inB c.ep 0 100 = true) (b3 : inB c.tm 1 20 = true) (b4 : inB c.ag 0 1048576 = true) (b5 : riseB c.ps = true) (b6 : inB c.th 0 20 = false) :
    Calls Tryz.prog 48 #[(.agg #[.int .i8 c.st, .int .i64 c.pid, .int .i64 c.ep, .int .i64 c.tm, .int .i64 c.th, .slice A1 c.ps.length c1, .slice D1 c.qs.length e1, .int .i64 c.ag])] w fun e w' => e = .returned (.bool (rmayB c)) ∧ Below w.heap.size w w' := by
  have hs : rmayB c = false := by
    unfold rmayB aheadsB
    rw [if_neg hst, b0, b1, b2, b3, b4, b5, b6]
    simp
  have HB := Lib.hid (fun x => bal (Below.refl w.heap.size w) x)
  have HRI := Lib.hid (fun x => rise_any A1 c.ps c1 B (w.alloc x) (h1.1.alloc hB x) (by have := h1.2.2.1; omega))
  have z0 : (c.st == 0) = false := eqb_false hst
  have HS := Lib.hid hs
  clear hs h1 hst
  go_enter Tryz.func48, Tryz.ntmps48
  go_wp2_with (first | (go_at_call 73; refine (in_any _ _ _ _).mono ?_; rintro e w1 ⟨rfl, rfl⟩) | (go_at_call 74; refine (HRI.out _).mono ?_; rintro e w1 ⟨rfl, rfl⟩))
  go_ret
  exact ⟨ret_bool HS.out.symm, HB.out _⟩

set_option maxRecDepth 100000 in
set_option maxHeartbeats 2000000 in
theorem rmay_7 (c : Co) (A1 D1 : Option Addr) (c1 e1 : Nat) (B : Nat) (w : World) (h1 : CoR w B c A1 D1) (hB : B ≤ w.heap.size) (h8 : -128 ≤ c.st) (h9 : c.st ≤ 127) (hst : ¬ c.st = 0) (b0 : inB c.st 1 6 = true) (b1 : inB c.pid 1 8 = true) (b2 : inB c.ep 0 100 = true) (b3 : inB c.tm 1 20 = true) (b4 : inB c.ag 0 1048576 = true) (b5 : riseB c.ps = true) (b6 : inB c.th 0 20 = true) :
    Calls Tryz.prog 48 #[(.agg #[.int .i8 c.st, .int .i64 c.pid, .int .i64 c.ep, .int .i64 c.tm, .int .i64 c.th, .slice A1 c.ps.length c1, .slice D1 c.qs.length e1, .int .i64 c.ag])] w fun e w' => e = .returned (.bool (rmayB c)) ∧ Below w.heap.size w w' := by
  have hs : rmayB c = (pendsB c.qs && lastB c) := by
    unfold rmayB aheadsB
    rw [if_neg hst, b0, b1, b2, b3, b4, b5, b6]
    simp
  have HB := Lib.hid (fun x => bal (Below.refl w.heap.size w) x)
  have HRI := Lib.hid (fun x => rise_any A1 c.ps c1 B (w.alloc x) (h1.1.alloc hB x) (by have := h1.2.2.1; omega))
  have z0 : (c.st == 0) = false := eqb_false hst
  have Q1 := Lib.hid (h1.2.1.more hB)
  have hql := h1.2.2.2
  have BK0 := Lib.hid (Blk.new w 29 #[.int .i8 c.st, .int .i64 c.pid, .int .i64 c.ep, .int .i64 c.tm, .int .i64 c.th, .slice A1 c.ps.length c1, .slice D1 c.qs.length e1, .int .i64 c.ag])
  have HS := Lib.hid hs
  clear hs h1 hst
  go_enter Tryz.func48, Tryz.ntmps48
  go_wp2_with (first | (go_at_call 73; refine (in_any _ _ _ _).mono ?_; rintro e w1 ⟨rfl, rfl⟩) | (go_at_call 74; refine (HRI.out _).mono ?_; rintro e w1 ⟨rfl, rfl⟩))
  go_loopw [3] (fun x wr => ∃ k : Nat, k ≤ c.qs.length ∧ x = .int .i64 k ∧ PendsTo c.qs k ∧ Below w.heap.size w wr ∧ w.heap.size < wr.heap.size ∧ Blk wr w.heap.size 29 #[.int .i8 c.st, .int .i64 c.pid, .int .i64 c.ep, .int .i64 c.tm, .int .i64 c.th, .slice A1 c.ps.length c1, .slice D1 c.qs.length e1, .int .i64 c.ag]) (fun x _ => c.qs.length - (intOf x).toNat)
  case atStart => exact ⟨0, Nat.zero_le _, rfl, ⟨Adj.one (by omega), by simp⟩, HB.out _, by simp, BK0.out⟩
  case round =>
    obtain ⟨k, hk, rfl, hto, hbel, hsz, hblk⟩ := hrel
    have HTO := Lib.hid hto
    have HBEL := Lib.hid hbel
    have HBLK := Lib.hid hblk
    have k6 := bw_cell (B := wr.heap.size) (hblk.cell 6) hsz
    clear hto hbel hblk
    by_cases hlt : k < c.qs.length
    · have f1 : decide ((k : Int) < (c.qs.length : Int)) = true := by simp; omega
      have g0 := HBLK.out.cell 6
      obtain ⟨bb, oo, rfl, hbb, hc1⟩ := (Q1.out.below HBEL.out).plain3 (by omega)
      obtain ⟨x, hx⟩ : ∃ z, c.qs[k]? = some z := ⟨_, List.getElem?_eq_getElem hlt⟩
      obtain ⟨g1, g2, g3⟩ := hc1 k _ hx
      have k1 := bw_cell (B := wr.heap.size) g1 (by omega)
      have k2 := bw_cell (B := wr.heap.size) g2 (by omega)
      have k3 := bw_cell (B := wr.heap.size) g3 (by omega)
      have i1 : (0 : Int) ≤ (k : Int) := by omega
      have i2 : (k : Int) < (c.qs.length : Int) := by omega
      have HX := Lib.hid hx
      have HP := Lib.hid (fun W => pend_any x W)
      by_cases hpx : pendB x = false
      · have HF := Lib.hid (show rmayB c = false by
          rw [HS.out, pendsB_false (fun h => by have h2 := h.2; rw [List.take_length, all_not HX.out hpx] at h2; cases h2)]; rfl)
        clear hc1 hx g1 g2 g3
        go_wp2_with fail
        refine wp_region_bq wr.heap.size (by kernel_rfl) (by kernel_rfl) ?_
        repeat (go_big_quiet_step ((go_at_call 75; exact bw_call (Nat.le_refl _) (HP.out _))))
        refine wpQuiet_nil ?_
        rintro _ ⟨n, rfl⟩
        have hn := n.2
        go_wp2_with fail
        go_ret
        exact ⟨ret_bool HF.out.symm, btrans HBEL.out hn⟩
      · have hpt : pendB x = true := by simpa using hpx
        rcases Nat.eq_zero_or_pos k with hk0 | hk0
        · subst hk0
          have f2 : decide ((0 : Int) < ((0 : Nat) : Int)) = false := by decide
          simp only [Nat.zero_mul, Nat.add_zero] at k1 k2 k3
          have HN := Lib.hid (show PendsTo c.qs (0 + 1) from ⟨Adj.one (by omega), all_take_succ hx HTO.out.2 hpt⟩)
          clear hc1 hx g1 g2 g3 hpx
          go_wp2_with fail
          refine wp_region_bq wr.heap.size (by kernel_rfl) (by kernel_rfl) ?_
          repeat (go_big_quiet_step ((go_at_call 75; exact bw_call (Nat.le_refl _) (HP.out _))))
          refine wpQuiet_nil ?_
          rintro _ ⟨n, rfl⟩
          have hn := n.2
          have hns := hn.size
          have bkn := HBLK.out.below hn hsz
          generalize n.1 = W at *
          go_wp2_with fail
          go_roundw
          case rel => exact ⟨0 + 1, by omega, by go_num, HN.out, btrans HBEL.out hn, by omega, bkn⟩
          case measure => simp [intOf]; omega
        · obtain ⟨j, rfl⟩ : ∃ j, k = j + 1 := ⟨k - 1, by omega⟩
          obtain ⟨y, hy⟩ : ∃ z, c.qs[j]? = some z := ⟨_, List.getElem?_eq_getElem (by omega)⟩
          obtain ⟨g4, g5, g6⟩ := hc1 j _ hy
          have k4 := bw_cell (B := wr.heap.size) g4 (by omega)
          have k5 := bw_cell (B := wr.heap.size) g5 (by omega)
          have k7 := bw_cell (B := wr.heap.size) g6 (by omega)
          have e1 : IntKind.i64.wrap (((j + 1 : Nat) : Int) - 1) = (j : Int) := by rw [show ((j + 1 : Nat) : Int) - 1 = (j : Int) by omega]; exact IntWalk.i64_in _ (by omega)
          have f2 : decide ((0 : Int) < ((j + 1 : Nat) : Int)) = true := decide_eq_true (by omega)
          have i3 : (0 : Int) ≤ (j : Int) := by omega
          have i4 : (j : Int) < (c.qs.length : Int) := by omega
          have HA := Lib.hid (fun W => ahead_any y x W)
          cases hyx : aheadB y x
          · have HF := Lib.hid (show rmayB c = false by
              rw [HS.out, pendsB_false (fun h => by have h2 : aheadB y x = true := h.1 j y x (by omega) hy hx; rw [hyx] at h2; cases h2)]; rfl)
            clear hc1 hx hy g1 g2 g3 g4 g5 g6 hpx
            go_wp2_with fail
            refine wp_region_bq wr.heap.size (by kernel_rfl) (by kernel_rfl) ?_
            repeat (go_big_quiet_step ((first | (go_at_call 75; exact bw_call (Nat.le_refl _) (HP.out _)) | (go_at_call 76; exact bw_call (Nat.le_refl _) (HA.out _)))))
            refine wpQuiet_nil ?_
            rintro _ ⟨n, rfl⟩
            have hn := n.2
            go_wp2_with fail
            go_ret
            exact ⟨ret_bool HF.out.symm, btrans HBEL.out hn⟩
          · have HN := Lib.hid (show PendsTo c.qs (j + 1 + 1) from ⟨HTO.out.1.step (by omega) hy hx hyx, all_take_succ hx HTO.out.2 hpt⟩)
            clear hc1 hx hy g1 g2 g3 g4 g5 g6 hpx
            go_wp2_with fail
            refine wp_region_bq wr.heap.size (by kernel_rfl) (by kernel_rfl) ?_
            repeat (go_big_quiet_step ((first | (go_at_call 75; exact bw_call (Nat.le_refl _) (HP.out _)) | (go_at_call 76; exact bw_call (Nat.le_refl _) (HA.out _)))))
            refine wpQuiet_nil ?_
            rintro _ ⟨n, rfl⟩
            have hn := n.2
            have hns := hn.size
            have bkn := HBLK.out.below hn hsz
            generalize n.1 = W at *
            go_wp2_with fail
            go_roundw
            case rel => exact ⟨j + 1 + 1, by omega, by go_num, HN.out, btrans HBEL.out hn, by omega, bkn⟩
            case measure => simp [intOf]; omega
    · obtain rfl : k = c.qs.length := by omega
      have f1 : decide ((c.qs.length : Int) < (c.qs.length : Int)) = false := by simp
      have HL := Lib.hid (show rmayB c = lastB c by rw [HS.out, pendsB_true HTO.out]; rfl)
      have bel2 := HBEL.out
      have HBU := Lib.hid (busy_any c A1 D1 c1 e1 wr)
      have g0 := HBLK.out.cell 0
      have g1 := HBLK.out.cell 1
      have g2 := HBLK.out.cell 2
      have g3 := HBLK.out.cell 3
      have g4 := HBLK.out.cell 4
      have g5 := HBLK.out.cell 5
      have g6 := HBLK.out.cell 6
      have g7 := HBLK.out.cell 7
      go_wp2_with fail
      refine HBU.out.mono ?_
      rintro e w2 ⟨rfl, b2⟩
      have bkn := HBLK.out.below b2 hsz
      have j0 := bkn.cell 0
      have j2 := bkn.cell 2
      have j4 := bkn.cell 4
      have j5 := bkn.cell 5
      have j6 := bkn.cell 6
      have j7 := bkn.cell 7
      have HBB := Lib.hid (btrans bel2 b2)
      have hl : lastB c = (!((!busyB c && (decide (0 < c.ps.length) || (decide (0 < c.qs.length) || decide (0 < c.ag)))) || ((c.st == 2) && (decide (c.ps.length = 0) && decide (c.qs.length = 0)))) && ((c.th == 0) || ((c.st == 4) && decide (c.ep < 100)))) := rfl
      have HL2 := Lib.hid (HL.out.trans hl)
      clear HL hl
      generalize busyB c = bb at *
      clear bel2 b2 bkn g0 g1 g2 g3 g4 g5 g6 g7 k6
      have key : (bb = false ∧ 0 < c.ps.length) ∨ (bb = false ∧ c.ps.length = 0 ∧ 0 < c.qs.length) ∨ (bb = false ∧ c.ps.length = 0 ∧ c.qs.length = 0 ∧ 0 < c.ag) ∨ (bb = false ∧ c.ps.length = 0 ∧ c.qs.length = 0 ∧ c.ag ≤ 0 ∧ ¬ c.st = 2) ∨ (bb = false ∧ c.ps.length = 0 ∧ c.qs.length = 0 ∧ c.ag ≤ 0 ∧ c.st = 2) ∨
          (bb = true ∧ ¬ c.st = 2) ∨ (bb = true ∧ c.st = 2 ∧ 0 < c.ps.length) ∨ (bb = true ∧ c.st = 2 ∧ c.ps.length = 0 ∧ 0 < c.qs.length) ∨ (bb = true ∧ c.st = 2 ∧ c.ps.length = 0 ∧ c.qs.length = 0) := by
        cases bb <;> simp only [true_and, false_and, or_false, false_or, reduceCtorEq] <;> omega
      rcases key with ⟨rfl, a1⟩ | ⟨rfl, a1, a2⟩ | ⟨rfl, a1, a2, a3⟩ | ⟨rfl, a1, a2, a3, a4⟩ | ⟨rfl, a1, a2, a3, a4⟩ | ⟨rfl, a1⟩ | ⟨rfl, a1, a2⟩ | ⟨rfl, a1, a2, a3⟩ | ⟨rfl, a1, a2, a3⟩
      · have hv : rmayB c = false := by
          rw [HL2.out]
          generalize c.ps.length = n at *
          generalize c.qs.length = m at *
          generalize ((c.th == 0) || ((c.st == 4) && decide (c.ep < 100))) = bz
          cases bz <;> simp <;> omega
        have y0 : decide (0 < c.ps.length) = true := decide_eq_true (by omega)
        have y1 : decide ((0 : Int) < (c.ps.length : Int)) = true := decide_eq_true (by omega)
        have y2 : ((c.ps.length : Int) == 0) = false := eqb_false (by omega)
        have HV := Lib.hid hv
        clear hv HL2 a1
        go_wp2_with fail
        all_goals go_ret
        all_goals refine ⟨ret_bool (by first | exact HV.out.symm | (rw [HV.out]; simp [*])), HBB.out⟩
      · have hv : rmayB c = false := by
          rw [HL2.out]
          generalize c.ps.length = n at *
          generalize c.qs.length = m at *
          generalize ((c.th == 0) || ((c.st == 4) && decide (c.ep < 100))) = bz
          cases bz <;> simp <;> omega
        have y0 : decide (0 < c.ps.length) = false := decide_eq_false (by omega)
        have y1 : decide ((0 : Int) < (c.ps.length : Int)) = false := decide_eq_false (by omega)
        have y2 : ((c.ps.length : Int) == 0) = true := eqb_true (by omega)
        have y3 : decide (0 < c.qs.length) = true := decide_eq_true (by omega)
        have y4 : decide ((0 : Int) < (c.qs.length : Int)) = true := decide_eq_true (by omega)
        have y5 : ((c.qs.length : Int) == 0) = false := eqb_false (by omega)
        have HV := Lib.hid hv
        clear hv HL2 a1 a2
        go_wp2_with fail
        all_goals go_ret
        all_goals refine ⟨ret_bool (by first | exact HV.out.symm | (rw [HV.out]; simp [*])), HBB.out⟩
      · have hv : rmayB c = false := by
          rw [HL2.out]
          generalize c.ps.length = n at *
          generalize c.qs.length = m at *
          generalize ((c.th == 0) || ((c.st == 4) && decide (c.ep < 100))) = bz
          cases bz <;> simp <;> omega
        have y0 : decide (0 < c.ps.length) = false := decide_eq_false (by omega)
        have y1 : decide ((0 : Int) < (c.ps.length : Int)) = false := decide_eq_false (by omega)
        have y2 : ((c.ps.length : Int) == 0) = true := eqb_true (by omega)
        have y3 : decide (0 < c.qs.length) = false := decide_eq_false (by omega)
        have y4 : decide ((0 : Int) < (c.qs.length : Int)) = false := decide_eq_false (by omega)
        have y5 : ((c.qs.length : Int) == 0) = true := eqb_true (by omega)
        have y6 : decide (0 < c.ag) = true := decide_eq_true (by omega)
        have HV := Lib.hid hv
        clear hv HL2 a1 a2 a3
        go_wp2_with fail
        all_goals go_ret
        all_goals refine ⟨ret_bool (by first | exact HV.out.symm | (rw [HV.out]; simp [*])), HBB.out⟩
      · have hv : rmayB c = ((c.th == 0) || ((c.st == 4) && decide (c.ep < 100))) := by
          rw [HL2.out]
          generalize c.ps.length = n at *
          generalize c.qs.length = m at *
          generalize ((c.th == 0) || ((c.st == 4) && decide (c.ep < 100))) = bz
          cases bz <;> simp <;> omega
        have y0 : decide (0 < c.ps.length) = false := decide_eq_false (by omega)
        have y1 : decide ((0 : Int) < (c.ps.length : Int)) = false := decide_eq_false (by omega)
        have y2 : ((c.ps.length : Int) == 0) = true := eqb_true (by omega)
        have y3 : decide (0 < c.qs.length) = false := decide_eq_false (by omega)
        have y4 : decide ((0 : Int) < (c.qs.length : Int)) = false := decide_eq_false (by omega)
        have y5 : ((c.qs.length : Int) == 0) = true := eqb_true (by omega)
        have y6 : decide (0 < c.ag) = false := decide_eq_false (by omega)
        have y7 : (c.st == 2) = false := eqb_false (by omega)
        have HV := Lib.hid hv
        clear hv HL2 a1 a2 a3 a4
        go_wp2_with fail
        all_goals go_ret
        all_goals refine ⟨ret_bool (by first | exact HV.out.symm | (rw [HV.out]; simp [*])), HBB.out⟩
      · have hv : rmayB c = false := by
          rw [HL2.out]
          generalize c.ps.length = n at *
          generalize c.qs.length = m at *
          generalize ((c.th == 0) || ((c.st == 4) && decide (c.ep < 100))) = bz
          cases bz <;> simp <;> omega
        have y0 : decide (0 < c.ps.length) = false := decide_eq_false (by omega)
        have y1 : decide ((0 : Int) < (c.ps.length : Int)) = false := decide_eq_false (by omega)
        have y2 : ((c.ps.length : Int) == 0) = true := eqb_true (by omega)
        have y3 : decide (0 < c.qs.length) = false := decide_eq_false (by omega)
        have y4 : decide ((0 : Int) < (c.qs.length : Int)) = false := decide_eq_false (by omega)
        have y5 : ((c.qs.length : Int) == 0) = true := eqb_true (by omega)
        have y6 : decide (0 < c.ag) = false := decide_eq_false (by omega)
        have y7 : (c.st == 2) = true := eqb_true (by omega)
        have HV := Lib.hid hv
        clear hv HL2 a1 a2 a3 a4
        go_wp2_with fail
        all_goals go_ret
        all_goals refine ⟨ret_bool (by first | exact HV.out.symm | (rw [HV.out]; simp [*])), HBB.out⟩
      · have hv : rmayB c = ((c.th == 0) || ((c.st == 4) && decide (c.ep < 100))) := by
          rw [HL2.out]
          generalize c.ps.length = n at *
          generalize c.qs.length = m at *
          generalize ((c.th == 0) || ((c.st == 4) && decide (c.ep < 100))) = bz
          cases bz <;> simp <;> omega
        have y0 : (c.st == 2) = false := eqb_false (by omega)
        have HV := Lib.hid hv
        clear hv HL2 a1
        go_wp2_with fail
        all_goals go_ret
        all_goals refine ⟨ret_bool (by first | exact HV.out.symm | (rw [HV.out]; simp [*])), HBB.out⟩
      · have hv : rmayB c = ((c.th == 0) || ((c.st == 4) && decide (c.ep < 100))) := by
          rw [HL2.out]
          generalize c.ps.length = n at *
          generalize c.qs.length = m at *
          generalize ((c.th == 0) || ((c.st == 4) && decide (c.ep < 100))) = bz
          cases bz <;> simp <;> omega
        have y0 : (c.st == 2) = true := eqb_true (by omega)
        have y1 : decide (0 < c.ps.length) = true := decide_eq_true (by omega)
        have y2 : decide ((0 : Int) < (c.ps.length : Int)) = true := decide_eq_true (by omega)
        have y3 : ((c.ps.length : Int) == 0) = false := eqb_false (by omega)
        have HV := Lib.hid hv
        clear hv HL2 a1 a2
        go_wp2_with fail
        all_goals go_ret
        all_goals refine ⟨ret_bool (by first | exact HV.out.symm | (rw [HV.out]; simp [*])), HBB.out⟩
      · have hv : rmayB c = ((c.th == 0) || ((c.st == 4) && decide (c.ep < 100))) := by
          rw [HL2.out]
          generalize c.ps.length = n at *
          generalize c.qs.length = m at *
          generalize ((c.th == 0) || ((c.st == 4) && decide (c.ep < 100))) = bz
          cases bz <;> simp <;> omega
        have y0 : (c.st == 2) = true := eqb_true (by omega)
        have y1 : decide (0 < c.ps.length) = false := decide_eq_false (by omega)
        have y2 : decide ((0 : Int) < (c.ps.length : Int)) = false := decide_eq_false (by omega)
        have y3 : ((c.ps.length : Int) == 0) = true := eqb_true (by omega)
        have y4 : decide (0 < c.qs.length) = true := decide_eq_true (by omega)
        have y5 : decide ((0 : Int) < (c.qs.length : Int)) = true := decide_eq_true (by omega)
        have y6 : ((c.qs.length : Int) == 0) = false := eqb_false (by omega)
        have HV := Lib.hid hv
        clear hv HL2 a1 a2 a3
        go_wp2_with fail
        all_goals go_ret
        all_goals refine ⟨ret_bool (by first | exact HV.out.symm | (rw [HV.out]; simp [*])), HBB.out⟩
      · have hv : rmayB c = false := by
          rw [HL2.out]
          generalize c.ps.length = n at *
          generalize c.qs.length = m at *
          generalize ((c.th == 0) || ((c.st == 4) && decide (c.ep < 100))) = bz
          cases bz <;> simp <;> omega
        have y0 : (c.st == 2) = true := eqb_true (by omega)
        have y1 : decide (0 < c.ps.length) = false := decide_eq_false (by omega)
        have y2 : decide ((0 : Int) < (c.ps.length : Int)) = false := decide_eq_false (by omega)
        have y3 : ((c.ps.length : Int) == 0) = true := eqb_true (by omega)
        have y4 : decide (0 < c.qs.length) = false := decide_eq_false (by omega)
        have y5 : decide ((0 : Int) < (c.qs.length : Int)) = false := decide_eq_false (by omega)
        have y6 : ((c.qs.length : Int) == 0) = true := eqb_true (by omega)
        have HV := Lib.hid hv
        clear hv HL2 a1 a2 a3
        go_wp2_with fail
        all_goals go_ret
        all_goals refine ⟨ret_bool (by first | exact HV.out.symm | (rw [HV.out]; simp [*])), HBB.out⟩

set_option maxRecDepth 100000 in
set_option maxHeartbeats 1000000 in
theorem rMay_any (c : Co) (A1 D1 : Option Addr) (c1 e1 : Nat) (B : Nat) (w : World) (h1 : CoR w B c A1 D1) (hB : B ≤ w.heap.size) (h8 : -128 ≤ c.st) (h9 : c.st ≤ 127) :
    Calls Tryz.prog 48 #[(.agg #[.int .i8 c.st, .int .i64 c.pid, .int .i64 c.ep, .int .i64 c.tm, .int .i64 c.th, .slice A1 c.ps.length c1, .slice D1 c.qs.length e1, .int .i64 c.ag])] w fun e w' => e = .returned (.bool (mayB c)) ∧ Below w.heap.size w w' := by
  rw [← may_same]
  by_cases hst : c.st = 0
  · have hs : rmayB c = sameB c Co0 := by unfold rmayB; rw [if_pos hst]
    have z0 := eqb_true hst
    have HB := Lib.hid (fun x => bal (Below.refl w.heap.size w) x)
    have HSM := Lib.hid (fun x => rSame_any c Co0 A1 D1 c1 e1 none none 0 0 B B (w.alloc x) (h1.below (((Below.refl w.heap.size w).alloc (Nat.le_refl _) x).mono hB)) (CoR.zero _ _ _ _) (by simp; omega) (by simp; omega))
    have HS := Lib.hid hs
    clear hs h1 hst
    go_enter Tryz.func48, Tryz.ntmps48
    go_wp2_with (go_at_call 38; refine (HSM.out _).mono ?_; rintro e w1 ⟨rfl, hbr⟩)
    go_ret
    exact ⟨ret_bool HS.out.symm, btrans (HB.out _) hbr⟩
  cases b0 : inB c.st 1 6
  · exact rmay_0 c A1 D1 c1 e1 B w h1 hB h8 h9 hst b0
  cases b1 : inB c.pid 1 8
  · exact rmay_1 c A1 D1 c1 e1 B w h1 hB h8 h9 hst b0 b1
  cases b2 : inB c.ep 0 100
  · exact rmay_2 c A1 D1 c1 e1 B w h1 hB h8 h9 hst b0 b1 b2
  cases b3 : inB c.tm 1 20
  · exact rmay_3 c A1 D1 c1 e1 B w h1 hB h8 h9 hst b0 b1 b2 b3
  cases b4 : inB c.ag 0 1048576
  · exact rmay_4 c A1 D1 c1 e1 B w h1 hB h8 h9 hst b0 b1 b2 b3 b4
  cases b5 : riseB c.ps
  · exact rmay_5 c A1 D1 c1 e1 B w h1 hB h8 h9 hst b0 b1 b2 b3 b4 b5
  cases b6 : inB c.th 0 20
  · exact rmay_6 c A1 D1 c1 e1 B w h1 hB h8 h9 hst b0 b1 b2 b3 b4 b5 b6
  exact rmay_7 c A1 D1 c1 e1 B w h1 hB h8 h9 hst b0 b1 b2 b3 b4 b5 b6
end Go.Proofs.YtbpkckahonmpkaaGreatDoor
