/-
  The card of RequestWrites is proved: for every input the call returns true, and each argument reads as before. No condition but the row's own list, which the card ties to the program's text.
  The statement RequestWrites: its walk.
  The statement RequestWrites: its walk, whatever the batches are.
-/
import Derived.Test.YtcockikekgmfkaaGreatDoorGrp31
import Derived.Test.YtcockikekgmfkaaGreatDoorGrp26
import Derived.Test.YtcockikekgmfkaaGreatDoorGrp32
import Derived.Test.YtcockikekgmfkaaGreatDoorGrp27
set_option linter.unusedVariables false
set_option linter.unusedSimpArgs false
namespace Go.Proofs.YtcockikekgmfkaaGreatDoor
open Go.RowKit

theorem writes_all (q : Rq) (A1 : Option Addr) (c1 : Nat) (w : World) (hg : HasET w) (h1 : BtRaw w q.b A1) (n1 : greatBt q.b = false) :
    ∃ (L : List UInt8) (nn : Int) (mb : Bool), (∀ W, Below w.heap.size w W → Calls Tryz.prog 7 #[(.agg #[.int .i8 q.kd, .int .i64 q.tid, .int .i64 q.tm, .int .i64 q.pid, .int .i64 q.ep, .int .i64 q.part, .int .i64 q.grp, .int .i64 q.off, .int .i64 q.most, .bool q.yes, .int .i64 q.b.pid, .int .i64 q.b.ep, .int .i64 q.b.seq, .bool q.b.txn, .slice A1 q.b.rs.length c1])] W (BytesPost L nn W)) ∧ (∀ W, Below w.heap.size w W → Calls Tryz.prog 8 #[(.agg #[.int .i8 q.kd, .int .i64 q.tid, .int .i64 q.tm, .int .i64 q.pid, .int .i64 q.ep, .int .i64 q.part, .int .i64 q.grp, .int .i64 q.off, .int .i64 q.most, .bool q.yes, .int .i64 q.b.pid, .int .i64 q.b.ep, .int .i64 q.b.seq, .bool q.b.txn, .slice A1 q.b.rs.length c1])] W (BytesPost L nn W)) ∧
      (∀ W, Below w.heap.size w W → Calls Tryz.prog 9 #[(.agg #[.int .i8 q.kd, .int .i64 q.tid, .int .i64 q.tm, .int .i64 q.pid, .int .i64 q.ep, .int .i64 q.part, .int .i64 q.grp, .int .i64 q.off, .int .i64 q.most, .bool q.yes, .int .i64 q.b.pid, .int .i64 q.b.ep, .int .i64 q.b.seq, .bool q.b.txn, .slice A1 q.b.rs.length c1])] W fun e w' => e = .returned (.bool mb) ∧ Below W.heap.size W w') ∧ (∀ W, Below w.heap.size w W → Calls Tryz.prog 10 #[(.agg #[.int .i8 q.kd, .int .i64 q.tid, .int .i64 q.tm, .int .i64 q.pid, .int .i64 q.ep, .int .i64 q.part, .int .i64 q.grp, .int .i64 q.off, .int .i64 q.most, .bool q.yes, .int .i64 q.b.pid, .int .i64 q.b.ep, .int .i64 q.b.seq, .bool q.b.txn, .slice A1 q.b.rs.length c1])] W fun e w' => e = .returned (.bool mb) ∧ Below W.heap.size W w') := by
  have hle : q.b.rs.length ≤ 1000000 := by have := (not_great n1).1; omega
  have hr := fun W (h : Below w.heap.size w W) => (h1.1.below h).more h.size
  rcases Classical.em (mayRq q) with hm | hm
  · exact ⟨encRq q, 0, true, fun W h => rqBytes_ok q A1 c1 W (hr W h) hle (hg.up h) hm, fun W h => rrBytes_ok q A1 c1 W (hr W h) hle hm, fun W h => rqMay_ok q A1 c1 W (hr W h) hle (hg.up h) hm, fun W h => rrMay_ok q A1 c1 W (hr W h) hle hm⟩
  · exact ⟨[], 2, false, fun W h => rqBytes_no q A1 c1 W (hr W h) hle (hg.up h) hm, fun W h => rrBytes_no q A1 c1 W (hr W h) hle hm, fun W h => rqMay_no q A1 c1 W (hr W h) hle (hg.up h) hm, fun W h => rrMay_no q A1 c1 W (hr W h) hle hm⟩

set_option maxRecDepth 100000 in
set_option maxHeartbeats 8000000 in
theorem rwrites_ok (a b : Rq) (A1 A2 : Option Addr) (c1 c2 : Nat) (w : World) (hg : HasET w) (h1 : BtRaw w a.b A1) (h2 : BtRaw w b.b A2) (n1 : greatBt a.b = false) (n2 : greatBt b.b = false) :
    Calls Tryz.prog 3 #[(.agg #[.int .i8 a.kd, .int .i64 a.tid, .int .i64 a.tm, .int .i64 a.pid, .int .i64 a.ep, .int .i64 a.part, .int .i64 a.grp, .int .i64 a.off, .int .i64 a.most, .bool a.yes, .int .i64 a.b.pid, .int .i64 a.b.ep, .int .i64 a.b.seq, .bool a.b.txn, .slice A1 a.b.rs.length c1]), (.agg #[.int .i8 b.kd, .int .i64 b.tid, .int .i64 b.tm, .int .i64 b.pid, .int .i64 b.ep, .int .i64 b.part, .int .i64 b.grp, .int .i64 b.off, .int .i64 b.most, .bool b.yes, .int .i64 b.b.pid, .int .i64 b.b.ep, .int .i64 b.b.seq, .bool b.b.txn, .slice A2 b.b.rs.length c2])] w fun e w' => e = .returned (.bool true) ∧ Below w.heap.size w w' := by
  have HB := Lib.hid (bal (bal (Below.refl w.heap.size w) (.cells #[.int .i8 a.kd, .int .i64 a.tid, .int .i64 a.tm, .int .i64 a.pid, .int .i64 a.ep, .int .i64 a.part, .int .i64 a.grp, .int .i64 a.off, .int .i64 a.most, .bool a.yes, .int .i64 a.b.pid, .int .i64 a.b.ep, .int .i64 a.b.seq, .bool a.b.txn, .slice A1 a.b.rs.length c1] 27)) (.cells #[.int .i8 b.kd, .int .i64 b.tid, .int .i64 b.tm, .int .i64 b.pid, .int .i64 b.ep, .int .i64 b.part, .int .i64 b.grp, .int .i64 b.off, .int .i64 b.most, .bool b.yes, .int .i64 b.b.pid, .int .i64 b.b.ep, .int .i64 b.b.seq, .bool b.b.txn, .slice A2 b.b.rs.length c2] 27))
  have KA0 := Lib.hid ((Blk.new w 27 #[.int .i8 a.kd, .int .i64 a.tid, .int .i64 a.tm, .int .i64 a.pid, .int .i64 a.ep, .int .i64 a.part, .int .i64 a.grp, .int .i64 a.off, .int .i64 a.most, .bool a.yes, .int .i64 a.b.pid, .int .i64 a.b.ep, .int .i64 a.b.seq, .bool a.b.txn, .slice A1 a.b.rs.length c1]).alloc (.cells #[.int .i8 b.kd, .int .i64 b.tid, .int .i64 b.tm, .int .i64 b.pid, .int .i64 b.ep, .int .i64 b.part, .int .i64 b.grp, .int .i64 b.off, .int .i64 b.most, .bool b.yes, .int .i64 b.b.pid, .int .i64 b.b.ep, .int .i64 b.b.seq, .bool b.b.txn, .slice A2 b.b.rs.length c2] 27))
  have KB0 := Lib.hid (blk_new (w.alloc (.cells #[.int .i8 a.kd, .int .i64 a.tid, .int .i64 a.tm, .int .i64 a.pid, .int .i64 a.ep, .int .i64 a.part, .int .i64 a.grp, .int .i64 a.off, .int .i64 a.most, .bool a.yes, .int .i64 a.b.pid, .int .i64 a.b.ep, .int .i64 a.b.seq, .bool a.b.txn, .slice A1 a.b.rs.length c1] 27)) 27 #[.int .i8 b.kd, .int .i64 b.tid, .int .i64 b.tm, .int .i64 b.pid, .int .i64 b.ep, .int .i64 b.part, .int .i64 b.grp, .int .i64 b.off, .int .i64 b.most, .bool b.yes, .int .i64 b.b.pid, .int .i64 b.b.ep, .int .i64 b.b.seq, .bool b.b.txn, .slice A2 b.b.rs.length c2] (g := w.heap.size + 1) (by simp))
  have g1 := (fun W (h : Below w.heap.size w W) => Great_any a.b A1 c1 W ((h1.1.below h).more h.size) h1.2.1 h1.2.2)
  have g2 := (fun W (h : Below w.heap.size w W) => Great_any b.b A2 c2 W ((h2.1.below h).more h.size) h2.2.1 h2.2.2)
  rw [n1] at g1
  rw [n2] at g2
  have G1 := Lib.hid g1
  have G2 := Lib.hid g2
  have hle : a.b.rs.length ≤ 1000000 := by have := (not_great n1).1; omega
  have S1 := Lib.hid (fun W (h : Below w.heap.size w W) => rqSame_any a b A1 A2 c1 c2 W ((h1.1.below h).more h.size) ((h2.1.below h).more h.size) hle)
  have S2 := Lib.hid (fun W (h : Below w.heap.size w W) => rrSame_any a b A1 A2 c1 c2 W ((h1.1.below h).more h.size) ((h2.1.below h).more h.size) hle)
  obtain ⟨L, nn, mb, by1, by2, my1, my2⟩ := writes_all a A1 c1 w hg h1 n1
  have BY1 := Lib.hid by1
  have BY2 := Lib.hid by2
  have MY1 := Lib.hid my1
  have MY2 := Lib.hid my2
  have CH1 := Lib.hid (fun W => Changes_any a.kd W)
  have CH2 := Lib.hid (fun W => rrChanges_any a.kd W)
  have WK := Lib.hid (fun W (h : Below w.heap.size w W) => wakes08 W (hg.up h))
  clear h1 h2 g1 g2 n1 n2 hg hle by1 by2 my1 my2
  generalize changes a.kd = ch at *
  generalize sameRq a b = sb at *
  go_enter Tryz.func3, Tryz.ntmps3
  go_wp2_with fail
  refine (G1.out _ HB.out).mono ?_
  rintro e w1 ⟨rfl, b1⟩
  have KA1 := Lib.hid (KA0.out.below b1 (by simp; omega))
  have KB1 := Lib.hid (KB0.out.below b1 (by simp))
  have BE1 := Lib.hid (btrans HB.out b1)
  clear b1
  as_aux_lemma =>
  have x10 := KB1.out.cell 10
  have x11 := KB1.out.cell 11
  have x12 := KB1.out.cell 12
  have x13 := KB1.out.cell 13
  have x14 := KB1.out.cell 14
  go_wp2_with fail
  refine (G2.out _ BE1.out).mono ?_
  rintro e w2 ⟨rfl, b2⟩
  have KA2 := Lib.hid (KA1.out.below b2 KA1.out.lt)
  have KB2 := Lib.hid (KB1.out.below b2 KB1.out.lt)
  have BE2 := Lib.hid (btrans BE1.out b2)
  clear b2 x10 x11 x12 x13 x14
  as_aux_lemma =>
  have x0 := KA2.out.cell 0
  have x1 := KA2.out.cell 1
  have x2 := KA2.out.cell 2
  have x3 := KA2.out.cell 3
  have x4 := KA2.out.cell 4
  have x5 := KA2.out.cell 5
  have x6 := KA2.out.cell 6
  have x7 := KA2.out.cell 7
  have x8 := KA2.out.cell 8
  have x9 := KA2.out.cell 9
  have x10 := KA2.out.cell 10
  have x11 := KA2.out.cell 11
  have x12 := KA2.out.cell 12
  have x13 := KA2.out.cell 13
  have x14 := KA2.out.cell 14
  go_wp2_with fail
  refine (BY1.out _ BE2.out).mono ?_
  rintro e w3 ⟨A7, c7, rfl, r7, hc7, b3⟩
  have KA3 := Lib.hid (KA2.out.below b3 KA2.out.lt)
  have KB3 := Lib.hid (KB2.out.below b3 KB2.out.lt)
  have BE3 := Lib.hid (btrans BE2.out b3)
  have R7 := Lib.hid r7
  clear b3 r7 hc7 x0 x1 x2 x3 x4 x5 x6 x7 x8 x9 x10 x11 x12 x13 x14
  as_aux_lemma =>
  have x0 := KA3.out.cell 0
  have x1 := KA3.out.cell 1
  have x2 := KA3.out.cell 2
  have x3 := KA3.out.cell 3
  have x4 := KA3.out.cell 4
  have x5 := KA3.out.cell 5
  have x6 := KA3.out.cell 6
  have x7 := KA3.out.cell 7
  have x8 := KA3.out.cell 8
  have x9 := KA3.out.cell 9
  have x10 := KA3.out.cell 10
  have x11 := KA3.out.cell 11
  have x12 := KA3.out.cell 12
  have x13 := KA3.out.cell 13
  have x14 := KA3.out.cell 14
  go_wp2_with fail
  refine (BY2.out _ BE3.out).mono ?_
  rintro e w4 ⟨A8, c8, rfl, r8, hc8, b4⟩
  have ka := KA3.out.below b4 KA3.out.lt
  have kb := KB3.out.below b4 KB3.out.lt
  have BE4 := Lib.hid (btrans BE3.out b4)
  have la := ka.lt
  have lb := kb.lt
  have T7 := Lib.hid ((R7.out.below b4).more b4.size)
  have t7 := fun n : BW w4.heap.size w4 => run_string_of (P := Tryz.prog) (src := 30) (dst := 9) (c := c7) Tryz.underlying30 Tryz.underlying5 Tryz.underlying9 (T7.out.below n.2)
  have t8 := fun n : BW w4.heap.size w4 => run_string_of (P := Tryz.prog) (src := 30) (dst := 9) (c := c8) Tryz.underlying30 Tryz.underlying5 Tryz.underlying9 (r8.below n.2)
  have MA := Lib.hid (fun n : BW w4.heap.size w4 => MY1.out n.1 (btrans BE4.out n.2))
  have MB := Lib.hid (fun n : BW w4.heap.size w4 => MY2.out n.1 (btrans BE4.out n.2))
  have SA := Lib.hid (fun n : BW w4.heap.size w4 => S1.out n.1 (btrans BE4.out n.2))
  have SB := Lib.hid (fun n : BW w4.heap.size w4 => S2.out n.1 (btrans BE4.out n.2))
  have WA := Lib.hid (fun n : BW w4.heap.size w4 => WK.out n.1 (btrans BE4.out n.2))
  have p0 := bw_cell (B := w4.heap.size) (ka.cell 0) la
  have p1 := bw_cell (B := w4.heap.size) (ka.cell 1) la
  have p2 := bw_cell (B := w4.heap.size) (ka.cell 2) la
  have p3 := bw_cell (B := w4.heap.size) (ka.cell 3) la
  have p4 := bw_cell (B := w4.heap.size) (ka.cell 4) la
  have p5 := bw_cell (B := w4.heap.size) (ka.cell 5) la
  have p6 := bw_cell (B := w4.heap.size) (ka.cell 6) la
  have p7 := bw_cell (B := w4.heap.size) (ka.cell 7) la
  have p8 := bw_cell (B := w4.heap.size) (ka.cell 8) la
  have p9 := bw_cell (B := w4.heap.size) (ka.cell 9) la
  have p10 := bw_cell (B := w4.heap.size) (ka.cell 10) la
  have p11 := bw_cell (B := w4.heap.size) (ka.cell 11) la
  have p12 := bw_cell (B := w4.heap.size) (ka.cell 12) la
  have p13 := bw_cell (B := w4.heap.size) (ka.cell 13) la
  have p14 := bw_cell (B := w4.heap.size) (ka.cell 14) la
  have q0 := bw_cell (B := w4.heap.size) (kb.cell 0) lb
  have q1 := bw_cell (B := w4.heap.size) (kb.cell 1) lb
  have q2 := bw_cell (B := w4.heap.size) (kb.cell 2) lb
  have q3 := bw_cell (B := w4.heap.size) (kb.cell 3) lb
  have q4 := bw_cell (B := w4.heap.size) (kb.cell 4) lb
  have q5 := bw_cell (B := w4.heap.size) (kb.cell 5) lb
  have q6 := bw_cell (B := w4.heap.size) (kb.cell 6) lb
  have q7 := bw_cell (B := w4.heap.size) (kb.cell 7) lb
  have q8 := bw_cell (B := w4.heap.size) (kb.cell 8) lb
  have q9 := bw_cell (B := w4.heap.size) (kb.cell 9) lb
  have q10 := bw_cell (B := w4.heap.size) (kb.cell 10) lb
  have q11 := bw_cell (B := w4.heap.size) (kb.cell 11) lb
  have q12 := bw_cell (B := w4.heap.size) (kb.cell 12) lb
  have q13 := bw_cell (B := w4.heap.size) (kb.cell 13) lb
  have q14 := bw_cell (B := w4.heap.size) (kb.cell 14) lb
  clear ka kb r8 hc8 b4 x0 x1 x2 x3 x4 x5 x6 x7 x8 x9 x10 x11 x12 x13 x14
  as_aux_lemma =>
  go_wp2_with fail
  generalize ((.agg #[.int .i8 a.kd, .int .i64 a.tid, .int .i64 a.tm, .int .i64 a.pid, .int .i64 a.ep, .int .i64 a.part, .int .i64 a.grp, .int .i64 a.off, .int .i64 a.most, .bool a.yes, .int .i64 a.b.pid, .int .i64 a.b.ep, .int .i64 a.b.seq, .bool a.b.txn, .slice A1 a.b.rs.length c1]) : Value) = va
  generalize ((.agg #[.int .i8 b.kd, .int .i64 b.tid, .int .i64 b.tm, .int .i64 b.pid, .int .i64 b.ep, .int .i64 b.part, .int .i64 b.grp, .int .i64 b.off, .int .i64 b.most, .bool b.yes, .int .i64 b.b.pid, .int .i64 b.b.ep, .int .i64 b.b.seq, .bool b.b.txn, .slice A2 b.b.rs.length c2]) : Value) = vb
  refine wp_region_bq w4.heap.size (by kernel_rfl) (by kernel_rfl) ?_
  iterate 4 (go_big_quiet_step ((first | (go_at_call 9; exact bw_call (Nat.le_refl _) (MA.out _)) | (go_at_call 10; exact bw_call (Nat.le_refl _) (MB.out _)) | (go_at_call 11; exact bw_call (Nat.le_refl _) (SA.out _)) | (go_at_call 12; exact bw_call (Nat.le_refl _) (SB.out _)) | (go_at_call 13; exact bw_same (CH1.out _)) | (go_at_call 14; exact bw_same (CH2.out _)) | (go_at_call 6; exact bw_call (Nat.le_refl _) (WA.out _)))))
  generalize ((.agg #[.int .i8 a.kd, .int .i64 a.tid, .int .i64 a.tm, .int .i64 a.pid, .int .i64 a.ep, .int .i64 a.part, .int .i64 a.grp, .int .i64 a.off, .int .i64 a.most, .bool a.yes, .int .i64 a.b.pid, .int .i64 a.b.ep, .int .i64 a.b.seq, .bool a.b.txn, .slice A1 a.b.rs.length c1]) : Value) = va2
  iterate 17 (go_big_quiet_step ((first | (go_at_call 9; exact bw_call (Nat.le_refl _) (MA.out _)) | (go_at_call 10; exact bw_call (Nat.le_refl _) (MB.out _)) | (go_at_call 11; exact bw_call (Nat.le_refl _) (SA.out _)) | (go_at_call 12; exact bw_call (Nat.le_refl _) (SB.out _)) | (go_at_call 13; exact bw_same (CH1.out _)) | (go_at_call 14; exact bw_same (CH2.out _)) | (go_at_call 6; exact bw_call (Nat.le_refl _) (WA.out _)))))
  generalize ((.agg #[.int .i8 a.kd, .int .i64 a.tid, .int .i64 a.tm, .int .i64 a.pid, .int .i64 a.ep, .int .i64 a.part, .int .i64 a.grp, .int .i64 a.off, .int .i64 a.most, .bool a.yes, .int .i64 a.b.pid, .int .i64 a.b.ep, .int .i64 a.b.seq, .bool a.b.txn, .slice A1 a.b.rs.length c1]) : Value) = va3
  generalize ((.agg #[.int .i8 b.kd, .int .i64 b.tid, .int .i64 b.tm, .int .i64 b.pid, .int .i64 b.ep, .int .i64 b.part, .int .i64 b.grp, .int .i64 b.off, .int .i64 b.most, .bool b.yes, .int .i64 b.b.pid, .int .i64 b.b.ep, .int .i64 b.b.seq, .bool b.b.txn, .slice A2 b.b.rs.length c2]) : Value) = vb3
  repeat (go_big_quiet_step ((first | (go_at_call 9; exact bw_call (Nat.le_refl _) (MA.out _)) | (go_at_call 10; exact bw_call (Nat.le_refl _) (MB.out _)) | (go_at_call 11; exact bw_call (Nat.le_refl _) (SA.out _)) | (go_at_call 12; exact bw_call (Nat.le_refl _) (SB.out _)) | (go_at_call 13; exact bw_same (CH1.out _)) | (go_at_call 14; exact bw_same (CH2.out _)) | (go_at_call 6; exact bw_call (Nat.le_refl _) (WA.out _)))))
  generalize ((.agg #[.int .i8 a.kd, .int .i64 a.tid, .int .i64 a.tm, .int .i64 a.pid, .int .i64 a.ep, .int .i64 a.part, .int .i64 a.grp, .int .i64 a.off, .int .i64 a.most, .bool a.yes, .int .i64 a.b.pid, .int .i64 a.b.ep, .int .i64 a.b.seq, .bool a.b.txn, .slice A1 a.b.rs.length c1]) : Value) = va4
  generalize ((.agg #[.int .i8 b.kd, .int .i64 b.tid, .int .i64 b.tm, .int .i64 b.pid, .int .i64 b.ep, .int .i64 b.part, .int .i64 b.grp, .int .i64 b.off, .int .i64 b.most, .bool b.yes, .int .i64 b.b.pid, .int .i64 b.b.ep, .int .i64 b.b.seq, .bool b.b.txn, .slice A2 b.b.rs.length c2]) : Value) = vb4
  refine wpQuiet_nil ?_
  rintro _ ⟨n, rfl⟩
  have hn := btrans BE4.out n.2
  as_aux_lemma =>
  go_wp2_with fail
  go_ret
  exact ⟨rfl, hn⟩
end Go.Proofs.YtcockikekgmfkaaGreatDoor
namespace Go.Proofs.YtcockikekgmfkaaGreatDoor
open Go.RowKit

set_option maxRecDepth 100000 in
set_option maxHeartbeats 4000000 in
theorem rwrites_big1 (a b : Rq) (A1 A2 : Option Addr) (c1 c2 : Nat) (w : World) (hg : HasET w) (h1 : BtRaw w a.b A1) (n1 : greatBt a.b = true) :
    Calls Tryz.prog 3 #[(.agg #[.int .i8 a.kd, .int .i64 a.tid, .int .i64 a.tm, .int .i64 a.pid, .int .i64 a.ep, .int .i64 a.part, .int .i64 a.grp, .int .i64 a.off, .int .i64 a.most, .bool a.yes, .int .i64 a.b.pid, .int .i64 a.b.ep, .int .i64 a.b.seq, .bool a.b.txn, .slice A1 a.b.rs.length c1]), (.agg #[.int .i8 b.kd, .int .i64 b.tid, .int .i64 b.tm, .int .i64 b.pid, .int .i64 b.ep, .int .i64 b.part, .int .i64 b.grp, .int .i64 b.off, .int .i64 b.most, .bool b.yes, .int .i64 b.b.pid, .int .i64 b.b.ep, .int .i64 b.b.seq, .bool b.b.txn, .slice A2 b.b.rs.length c2])] w fun e w' => e = .returned (.bool true) ∧ Below w.heap.size w w' := by
  have HB := Lib.hid (bal (bal (Below.refl w.heap.size w) (.cells #[.int .i8 a.kd, .int .i64 a.tid, .int .i64 a.tm, .int .i64 a.pid, .int .i64 a.ep, .int .i64 a.part, .int .i64 a.grp, .int .i64 a.off, .int .i64 a.most, .bool a.yes, .int .i64 a.b.pid, .int .i64 a.b.ep, .int .i64 a.b.seq, .bool a.b.txn, .slice A1 a.b.rs.length c1] 27)) (.cells #[.int .i8 b.kd, .int .i64 b.tid, .int .i64 b.tm, .int .i64 b.pid, .int .i64 b.ep, .int .i64 b.part, .int .i64 b.grp, .int .i64 b.off, .int .i64 b.most, .bool b.yes, .int .i64 b.b.pid, .int .i64 b.b.ep, .int .i64 b.b.seq, .bool b.b.txn, .slice A2 b.b.rs.length c2] 27))
  have g1 := (fun W (h : Below w.heap.size w W) => Great_any a.b A1 c1 W ((h1.1.below h).more h.size) h1.2.1 h1.2.2)
  rw [n1] at g1
  have G1 := Lib.hid g1
  have WK := Lib.hid (fun W (h : Below w.heap.size w W) => wakes08 W (hg.up h))
  clear h1 g1 n1 hg
  go_enter Tryz.func3, Tryz.ntmps3
  go_wp2_with fail
  refine (G1.out _ HB.out).mono ?_
  rintro e w1 ⟨rfl, b1⟩
  have BE1 := Lib.hid (btrans HB.out b1)
  clear b1
  go_wp2_with fail
  refine (WK.out _ BE1.out).mono ?_
  rintro e w2 ⟨rfl, b2⟩
  have BE2 := Lib.hid (btrans BE1.out b2)
  clear b2
  go_wp2_with fail
  go_ret
  exact ⟨rfl, BE2.out⟩

set_option maxRecDepth 100000 in
set_option maxHeartbeats 4000000 in
theorem rwrites_big2 (a b : Rq) (A1 A2 : Option Addr) (c1 c2 : Nat) (w : World) (hg : HasET w) (h1 : BtRaw w a.b A1) (h2 : BtRaw w b.b A2) (n1 : greatBt a.b = false) (n2 : greatBt b.b = true) :
    Calls Tryz.prog 3 #[(.agg #[.int .i8 a.kd, .int .i64 a.tid, .int .i64 a.tm, .int .i64 a.pid, .int .i64 a.ep, .int .i64 a.part, .int .i64 a.grp, .int .i64 a.off, .int .i64 a.most, .bool a.yes, .int .i64 a.b.pid, .int .i64 a.b.ep, .int .i64 a.b.seq, .bool a.b.txn, .slice A1 a.b.rs.length c1]), (.agg #[.int .i8 b.kd, .int .i64 b.tid, .int .i64 b.tm, .int .i64 b.pid, .int .i64 b.ep, .int .i64 b.part, .int .i64 b.grp, .int .i64 b.off, .int .i64 b.most, .bool b.yes, .int .i64 b.b.pid, .int .i64 b.b.ep, .int .i64 b.b.seq, .bool b.b.txn, .slice A2 b.b.rs.length c2])] w fun e w' => e = .returned (.bool true) ∧ Below w.heap.size w w' := by
  have HB := Lib.hid (bal (bal (Below.refl w.heap.size w) (.cells #[.int .i8 a.kd, .int .i64 a.tid, .int .i64 a.tm, .int .i64 a.pid, .int .i64 a.ep, .int .i64 a.part, .int .i64 a.grp, .int .i64 a.off, .int .i64 a.most, .bool a.yes, .int .i64 a.b.pid, .int .i64 a.b.ep, .int .i64 a.b.seq, .bool a.b.txn, .slice A1 a.b.rs.length c1] 27)) (.cells #[.int .i8 b.kd, .int .i64 b.tid, .int .i64 b.tm, .int .i64 b.pid, .int .i64 b.ep, .int .i64 b.part, .int .i64 b.grp, .int .i64 b.off, .int .i64 b.most, .bool b.yes, .int .i64 b.b.pid, .int .i64 b.b.ep, .int .i64 b.b.seq, .bool b.b.txn, .slice A2 b.b.rs.length c2] 27))
  have KB0 := Lib.hid (blk_new (w.alloc (.cells #[.int .i8 a.kd, .int .i64 a.tid, .int .i64 a.tm, .int .i64 a.pid, .int .i64 a.ep, .int .i64 a.part, .int .i64 a.grp, .int .i64 a.off, .int .i64 a.most, .bool a.yes, .int .i64 a.b.pid, .int .i64 a.b.ep, .int .i64 a.b.seq, .bool a.b.txn, .slice A1 a.b.rs.length c1] 27)) 27 #[.int .i8 b.kd, .int .i64 b.tid, .int .i64 b.tm, .int .i64 b.pid, .int .i64 b.ep, .int .i64 b.part, .int .i64 b.grp, .int .i64 b.off, .int .i64 b.most, .bool b.yes, .int .i64 b.b.pid, .int .i64 b.b.ep, .int .i64 b.b.seq, .bool b.b.txn, .slice A2 b.b.rs.length c2] (g := w.heap.size + 1) (by simp))
  have g1 := (fun W (h : Below w.heap.size w W) => Great_any a.b A1 c1 W ((h1.1.below h).more h.size) h1.2.1 h1.2.2)
  have g2 := (fun W (h : Below w.heap.size w W) => Great_any b.b A2 c2 W ((h2.1.below h).more h.size) h2.2.1 h2.2.2)
  rw [n1] at g1
  rw [n2] at g2
  have G1 := Lib.hid g1
  have G2 := Lib.hid g2
  have WK := Lib.hid (fun W (h : Below w.heap.size w W) => wakes08 W (hg.up h))
  clear h1 h2 g1 g2 n1 n2 hg
  go_enter Tryz.func3, Tryz.ntmps3
  go_wp2_with fail
  refine (G1.out _ HB.out).mono ?_
  rintro e w1 ⟨rfl, b1⟩
  have kb1 := KB0.out.below b1 (by simp)
  have BE1 := Lib.hid (btrans HB.out b1)
  clear b1
  have x10 := kb1.cell 10
  have x11 := kb1.cell 11
  have x12 := kb1.cell 12
  have x13 := kb1.cell 13
  have x14 := kb1.cell 14
  clear kb1
  go_wp2_with fail
  refine (G2.out _ BE1.out).mono ?_
  rintro e w2 ⟨rfl, b2⟩
  have BE2 := Lib.hid (btrans BE1.out b2)
  clear b2 x10 x11 x12 x13 x14
  go_wp2_with fail
  refine (WK.out _ BE2.out).mono ?_
  rintro e w3 ⟨rfl, b3⟩
  have BE3 := Lib.hid (btrans BE2.out b3)
  clear b3
  go_wp2_with fail
  go_ret
  exact ⟨rfl, BE3.out⟩

theorem rwrites_walk (a b : Rq) (A1 A2 : Option Addr) (c1 c2 : Nat) (w : World) (hg : HasET w) (h1 : BtRaw w a.b A1) (h2 : BtRaw w b.b A2) :
    Calls Tryz.prog 3 #[(.agg #[.int .i8 a.kd, .int .i64 a.tid, .int .i64 a.tm, .int .i64 a.pid, .int .i64 a.ep, .int .i64 a.part, .int .i64 a.grp, .int .i64 a.off, .int .i64 a.most, .bool a.yes, .int .i64 a.b.pid, .int .i64 a.b.ep, .int .i64 a.b.seq, .bool a.b.txn, .slice A1 a.b.rs.length c1]), (.agg #[.int .i8 b.kd, .int .i64 b.tid, .int .i64 b.tm, .int .i64 b.pid, .int .i64 b.ep, .int .i64 b.part, .int .i64 b.grp, .int .i64 b.off, .int .i64 b.most, .bool b.yes, .int .i64 b.b.pid, .int .i64 b.b.ep, .int .i64 b.b.seq, .bool b.b.txn, .slice A2 b.b.rs.length c2])] w fun e w' => e = .returned (.bool true) ∧ Below w.heap.size w w' := by
  cases n1 : greatBt a.b
  · cases n2 : greatBt b.b
    · exact rwrites_ok a b A1 A2 c1 c2 w hg h1 h2 n1 n2
    · exact rwrites_big2 a b A1 A2 c1 c2 w hg h1 h2 n1 n2
  · exact rwrites_big1 a b A1 A2 c1 c2 w hg h1 n1
end Go.Proofs.YtcockikekgmfkaaGreatDoor
namespace Go.Proofs.YtcockikekgmfkaaGreatDoor.requestWrites
open Go.ChangeShapes Go.WideShapes Go.ChangeAt Go.RowKit
open Go.ChangeMaps (open_string shut_string)
set_option linter.unusedVariables false

theorem laid_met (os : Os) : laidMetH Tryz.prog Rows.requestWritesRow.laid ((laidWorld os).forCall (fun _ _ => 0) ⟨#[], #[.agg #[.int .i8 0, .int .i64 0, .int .i64 0, .int .i64 0, .int .i64 0, .int .i64 0, .int .i64 0, .int .i64 0, .int .i64 0, .bool false, .int .i64 0, .int .i64 0, .int .i64 0, .bool false, .slice none 0 0], .agg #[.int .i8 0, .int .i64 0, .int .i64 0, .int .i64 0, .int .i64 0, .int .i64 0, .int .i64 0, .int .i64 0, .int .i64 0, .bool false, .int .i64 0, .int .i64 0, .int .i64 0, .bool false, .slice none 0 0]], []⟩).memory :=
  laidMetH_of_parts (laidMet_nil _ _) (by kernel_rfl)
theorem reads (os : Os) {H : Type} (enc : TypeId × Value → H) : ∃ places, DataW.whole enc Tryz.prog ((laidWorld os).forCall (fun _ _ => 0) ⟨#[], #[.agg #[.int .i8 0, .int .i64 0, .int .i64 0, .int .i64 0, .int .i64 0, .int .i64 0, .int .i64 0, .int .i64 0, .int .i64 0, .bool false, .int .i64 0, .int .i64 0, .int .i64 0, .bool false, .slice none 0 0], .agg #[.int .i8 0, .int .i64 0, .int .i64 0, .int .i64 0, .int .i64 0, .int .i64 0, .int .i64 0, .int .i64 0, .int .i64 0, .bool false, .int .i64 0, .int .i64 0, .int .i64 0, .bool false, .slice none 0 0]], []⟩).memory Tryz.f3.params.toList Rows.requestWritesSpec.vars false (#[.agg #[.int .i8 0, .int .i64 0, .int .i64 0, .int .i64 0, .int .i64 0, .int .i64 0, .int .i64 0, .int .i64 0, .int .i64 0, .bool false, .int .i64 0, .int .i64 0, .int .i64 0, .bool false, .slice none 0 0], .agg #[.int .i8 0, .int .i64 0, .int .i64 0, .int .i64 0, .int .i64 0, .int .i64 0, .int .i64 0, .int .i64 0, .int .i64 0, .bool false, .int .i64 0, .int .i64 0, .int .i64 0, .bool false, .slice none 0 0]] : Array Value).toList 8 = some ([.agg [.lit (.int .i8 0), .lit (.int .i64 0), .lit (.int .i64 0), .lit (.int .i64 0), .lit (.int .i64 0), .lit (.int .i64 0), .lit (.int .i64 0), .lit (.int .i64 0), .lit (.int .i64 0), .lit (.bool false), .agg [.lit (.int .i64 0), .lit (.int .i64 0), .lit (.int .i64 0), .lit (.bool false), .nil]], .agg [.lit (.int .i8 0), .lit (.int .i64 0), .lit (.int .i64 0), .lit (.int .i64 0), .lit (.int .i64 0), .lit (.int .i64 0), .lit (.int .i64 0), .lit (.int .i64 0), .lit (.int .i64 0), .lit (.bool false), .agg [.lit (.int .i64 0), .lit (.int .i64 0), .lit (.int .i64 0), .lit (.bool false), .nil]]], [], places) :=
  ⟨[], by kernel_rfl⟩

set_option maxRecDepth 100000 in
theorem lifted (os : Os) (started : os.Started) (H : Type) (enc : TypeId × Value → H) (F : Stop.Interp) :
    ReturnsInHanded {} Tryz.checked os 3 .any ((OpenSpec.ofChange Rows.requestWritesSpec).preRow enc Tryz.prog Tryz.f3 Rows.requestWritesRow.domain false Rows.requestWritesRow.laid) (((OpenSpec.ofChange Rows.requestWritesSpec).at F).post enc Tryz.prog Tryz.f3 false true false false) := by
  obtain ⟨places, hx⟩ := reads os enc
  refine returnsInHanded_of_row (C := Tryz.checked) (s := OpenSpec.ofChange Rows.requestWritesSpec) own started (by kernel_rfl) Tryz.func3
    (witness_row_at (enc := enc) (C := Tryz.checked) false (laidWorld os) #[.agg #[.int .i8 0, .int .i64 0, .int .i64 0, .int .i64 0, .int .i64 0, .int .i64 0, .int .i64 0, .int .i64 0, .int .i64 0, .bool false, .int .i64 0, .int .i64 0, .int .i64 0, .bool false, .slice none 0 0], .agg #[.int .i8 0, .int .i64 0, .int .i64 0, .int .i64 0, .int .i64 0, .int .i64 0, .int .i64 0, .int .i64 0, .int .i64 0, .bool false, .int .i64 0, .int .i64 0, .int .i64 0, .bool false, .slice none 0 0]] rfl (by kernel_rfl) (by kernel_rfl) (by kernel_rfl)
      (OpenSpec.preRow_of_cond 8 hx (by kernel_rfl) (fun k hk => by cases hk) (by kernel_rfl) (laid_met os))) ?_
  intro W base args ds gs before hval0 hW _ _ hsz0 hL _ _
  have hg : HasET W := hasErr_of_laid hL
  have hval : ∀ (j : Nat) t v, Tryz.f3.params[j]? = some t → args[j]? = some v → Value.okWide Tryz.prog W .any base t v := hval0
  have hsz : (DataW.weightsEach Tryz.prog (Tryz.f3.params.toList ++ Rows.requestWritesSpec.plain.varTypes Tryz.prog) (ds ++ gs)).all (· ≤ reachBytes) = true := hsz0
  have hW' := hW
  obtain ⟨p, q, hA0, hV, rfl, hfz, hnd⟩ := hW
  have hA : DataW.TrodAll enc Tryz.prog W 0 (fun _ => true) true Tryz.f3.params.toList args.toList ds p := hA0
  rw [Tryz.params3] at hA hval hsz
  obtain ⟨v0, vs0, d0, ds0, p0, q0, hargs, rfl, rfl, h0, r0⟩ := trodAll_cons hA
  obtain ⟨v1, vs1, d1, ds1, p1, q1, rfl, rfl, rfl, h1, r1⟩ := trodAll_cons r0
  obtain ⟨rfl, rfl, rfl⟩ := trodAll_nil r1
  obtain rfl : args = #[v0, v1] := by cases args; simp_all
  obtain ⟨rfl, rfl⟩ := trodVars_none hV
  have k0 := h0
  have lt0 : ∀ x ∈ p0, x.block < W.heap.size := by obtain ⟨m, hm⟩ := k0; exact DataW.trod_lt m _ _ _ hm
  obtain ⟨rq0, A0, c0, rfl, qr0⟩ := open_rq (hval 0 27 v0 rfl rfl) h0
  have k1 := h1
  have lt1 : ∀ x ∈ p1, x.block < W.heap.size := by obtain ⟨m, hm⟩ := k1; exact DataW.trod_lt m _ _ _ hm
  obtain ⟨rq1, A1, c1, rfl, qr1⟩ := open_rq (hval 1 27 v1 rfl rfl) h1
  clear hA0 hval0 hsz0
  refine (rwrites_walk rq0 rq1 A0 A1 c0 c1 W hg qr0.1 qr1.1).mono fun e W' ⟨he, bel⟩ => ?_
  subst he
  exact ⟨_, rfl, _, _, _, [], _, [], hW', trodAll_mk1 (shut_bool Tryz.underlying4 _), (trodAll_cons_mk (Below.trod laidOut (by kernel_rfl) (of_decide_eq_true (by kernel_rfl)) k0 bel lt0) (trodAll_cons_mk (Below.trod laidOut (by kernel_rfl) (of_decide_eq_true (by kernel_rfl)) k1 bel lt1) trodAll_mk0)), rfl, bel.frame _, fun h => by cases h⟩

theorem said : Rows.RequestWritesSaid :=
  OpenClaim.holds_of_cond 3 Tryz.f3 rfl rfl rfl rfl rfl rfl rfl ⟨rfl, rfl, rfl, rfl, rfl⟩ rfl rfl rfl rfl rfl (by kernel_rfl) Tryz.func3 (by kernel_rfl)
    (of_decide_eq_true (by kernel_rfl)) (by unfold Func.isWrapper; first | (rw [if_pos (by decide +kernel)]; kernel_rfl) | (rw [if_neg (by decide +kernel)]; exact ⟨rfl, rfl⟩))
    (fun os started H enc _ F => by rw [OpenClaim.pre_eq_preRow]; exact lifted os started H enc F)

theorem plain (f : FuncId) (fn : Func) (hf : Tryz.pinned.checked.prog.funcNamed "roving/rovinglaw08.RequestWrites" = some f) (hfn : Tryz.pinned.checked.prog.funcs[f]? = some fn) :
    true = Tryz.pinned.checked.prog.looks [] ∧ ∀ (j : Nat) t, fn.params[j]? = some t → Tryz.pinned.checked.prog.wantsStandIn t = false := by
  obtain rfl : f = 3 := Option.some.inj ((show Tryz.prog.funcNamed "roving/rovinglaw08.RequestWrites" = some 3 by kernel_rfl).symm.trans hf) |>.symm
  obtain rfl : fn = Tryz.f3 := (Option.some.inj (Tryz.func3.symm.trans hfn)).symm
  refine ⟨by kernel_rfl, fun j t ht => ?_⟩
  rw [Tryz.params3] at ht
  have hm : t = 27 ∨ t = 27 := by simpa using Array.mem_of_getElem? ht
  rcases hm with rfl | rfl <;> exact (show Tryz.prog.wantsStandIn _ = false by kernel_rfl)

/-- THE CARD. -/
theorem card : Rows.RequestWritesCardSaid :=
  Claim7.holds_tied_plain_at .later [] _ _ _ _ said (fun _ h => by cases h) (by kernel_rfl) (fun _ h => by cases h) requestWrites_row_tie rfl ⟨rfl, rfl⟩ (by kernel_rfl) rfl plain (by kernel_rfl)
end Go.Proofs.YtcockikekgmfkaaGreatDoor.requestWrites
