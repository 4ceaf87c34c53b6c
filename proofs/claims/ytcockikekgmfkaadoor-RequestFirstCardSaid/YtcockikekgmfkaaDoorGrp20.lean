/-
  Layer 8: the request's reader in memory; wrong, number.
  The statement RecordReads: its walk.
-/
import Derived.Test.YtcockikekgmfkaaDoorGrp17
import Derived.Test.YtcockikekgmfkaaDoorGrp19
import Derived.Test.YtcockikekgmfkaaDoorGrp04
namespace Go.Proofs.YtcockikekgmfkaaDoor
open Go.RowKit

/-- Go's remainder by one more than a length, brought into its range. -/
theorem at_in (x : Int) (n : Nat) : ∃ k : Nat, k ≤ n ∧ ∃ q : Int, x.tmod ((n : Int) + 1) = q ∧ -(n : Int) ≤ q ∧ q ≤ n ∧ (q + (n : Int) + 1) % ((n : Int) + 1) = (k : Int) := by
  have h1 := Int.tmod_lt_of_pos x (show (0 : Int) < (n : Int) + 1 by omega)
  have h2 := Int.lt_tmod_of_pos x (show (0 : Int) < (n : Int) + 1 by omega)
  refine ⟨((x.tmod ((n : Int) + 1) + (n : Int) + 1) % ((n : Int) + 1)).toNat, ?_, _, rfl, by omega, by omega, ?_⟩
  · have := Int.emod_lt_of_pos (x.tmod ((n : Int) + 1) + (n : Int) + 1) (show (0 : Int) < (n : Int) + 1 by omega)
    omega
  · have := Int.emod_nonneg (x.tmod ((n : Int) + 1) + (n : Int) + 1) (show ((n : Int) + 1) ≠ 0 by omega)
    omega

def RbP (b : Bat) (n : Int) (w : World) (e : Ending) (w' : World) : Prop :=
  ∃ A5 c5, e = .returned (.tuple #[(.agg #[.int .i64 b.pid, .int .i64 b.ep, .int .i64 b.seq, .bool b.txn, .slice A5 b.rs.length c5]), .int .i64 n]) ∧ w'.ownsRow w.heap.size 70 2 (.slice A5 b.rs.length c5) b.rs.length (cellsR b.rs) ∧ b.rs.length ≤ c5 ∧ Below w.heap.size w w'

def TkP (g : Nat) (s : ByteArray) (bt : Bat) (j : Nat) (bad : Bool) (w : World) (e : Ending) (w' : World) : Prop :=
  ∃ A5 c5, e = .returned (.agg #[.int .i64 bt.pid, .int .i64 bt.ep, .int .i64 bt.seq, .bool bt.txn, .slice A5 bt.rs.length c5]) ∧ w'.ownsRow w.heap.size 70 2 (.slice A5 bt.rs.length c5) bt.rs.length (cellsR bt.rs) ∧ bt.rs.length ≤ c5 ∧ RdB w' g s j bad ∧ Only (fun x => x = g) w w'
def TrP (g : Nat) (s : ByteArray) (bt : Bat) (j : Nat) (bad : Bool) (w : World) (e : Ending) (w' : World) : Prop :=
  ∃ A5 c5, e = .returned (.agg #[.int .i64 bt.pid, .int .i64 bt.ep, .int .i64 bt.seq, .bool bt.txn, .slice A5 bt.rs.length c5]) ∧ w'.ownsRow w.heap.size 70 2 (.slice A5 bt.rs.length c5) bt.rs.length (cellsR bt.rs) ∧ bt.rs.length ≤ c5 ∧ RdR w' g s j bad ∧ Only (fun x => x = g) w w'
theorem sameBt_self (b : Bat) : sameBt b b = true := (sameBt_iff b b).2 rfl

set_option maxRecDepth 100000 in
set_option maxHeartbeats 4000000 in
theorem rreads_walk (s : ByteArray) (x : Int) (w : World) (hg : HasET w) (hs : s.size ≤ 140737488351232) :
    Calls Tryd.prog 8 #[.string s, .int .i64 x] w fun e w' => e = .returned (.bool true) ∧ Below w.heap.size w w' := by
  by_cases hbig : 4000 < s.size
  · have hd : decide ((4000 : Int) < (s.size : Int)) = true := by simp; omega
    have HWK := Lib.hid (wakes06 w)
    clear hg
    go_enter Tryd.func8, Tryd.ntmps8
    go_wp2_with fail
    refine HWK.out.mono ?_
    rintro e w' ⟨rfl, hb⟩
    go_wp2_with fail
    go_ret
    exact ⟨rfl, hb⟩
  · have hd : decide ((4000 : Int) < (s.size : Int)) = false := by simp; omega
    have hs' : s.size ≤ 4000 := by omega
    obtain ⟨kk, hkk, q, hq1, hq2, hq3, hq4⟩ := at_in x s.size
    have HG := Lib.hid hg
    have R1 := Lib.hid (RcRead_any s w hg (by omega))
    have R2 := Lib.hid (fun W => rRcRead_any s W (by omega))
    have hL1 := readBt_rs (lb s)
    generalize readBt (lb s) = z at *
    obtain ⟨ba, ea⟩ := z
    change ba.rs.length ≤ 4 at hL1
    change Hid (Calls _ _ _ _ (RbP ba ea w)) at R1
    change Hid (∀ W, Calls _ _ _ W (RbP ba ea W)) at R2
    clear hbig hs hg
    go_enter Tryd.func8, Tryd.ntmps8
    go_wp2_with fail
    refine R1.out.mono ?_
    rintro e w1 ⟨A5, c5, rfl, o5, hc5, b1⟩
    have HB0 := Lib.hid b1.size
    have B1 := Lib.hid (bal b1 (.cells #[.int .i64 ba.pid, .int .i64 ba.ep, .int .i64 ba.seq, .bool ba.txn, .slice A5 ba.rs.length c5] 40))
    have O1 := Lib.hid (Reads.of_own o5)
    clear b1 o5
    go_wp2_with fail
    refine (R2.out _).mono ?_
    rintro e w2 ⟨A6, c6, rfl, o6, hc6, b2⟩
    have hs2 : w1.heap.size < w2.heap.size := by have := b2.size; simp at this; omega
    have B2 := Lib.hid (bal (btrans B1.out b2) (.cells #[.int .i64 ba.pid, .int .i64 ba.ep, .int .i64 ba.seq, .bool ba.txn, .slice A6 ba.rs.length c6] 40))
    have O2 := Lib.hid ((O1.out.alloc (Nat.le_refl _) (.cells #[.int .i64 ba.pid, .int .i64 ba.ep, .int .i64 ba.seq, .bool ba.txn, .slice A5 ba.rs.length c5] 40)).below (b2.mono (by simp)))
    have P2 := Lib.hid (Reads.of_own o6)
    have K1 := Lib.hid ((blk_new w1 40 #[.int .i64 ba.pid, .int .i64 ba.ep, .int .i64 ba.seq, .bool ba.txn, .slice A5 ba.rs.length c5] rfl).below b2 (by simp))
    clear b2 o6
    go_wp2_with fail
    refine (RNew_any s _).mono ?_
    rintro e w3 ⟨rfl, rfl⟩
    go_wp2_with fail
    refine (rRNew_any s _).mono ?_
    rintro e w3 ⟨rfl, rfl⟩
    go_wp2_with fail
    have B3 := Lib.hid (bal (bal B2.out (.cells #[.string s, .int .i64 (kk : Int), .bool false] 35)) (.cells #[.string s, .int .i64 (kk : Int), .bool false] 36))
    have k1 := (blk_new (w2.alloc (.cells #[.int .i64 ba.pid, .int .i64 ba.ep, .int .i64 ba.seq, .bool ba.txn, .slice A6 ba.rs.length c6] 40)) 35 #[.string s, .int .i64 (kk : Int), .bool false] (g := w2.heap.size + 1) (by simp)).alloc (.cells #[.string s, .int .i64 (kk : Int), .bool false] 36)
    have k2 := blk_new ((w2.alloc (.cells #[.int .i64 ba.pid, .int .i64 ba.ep, .int .i64 ba.seq, .bool ba.txn, .slice A6 ba.rs.length c6] 40)).alloc (.cells #[.string s, .int .i64 (kk : Int), .bool false] 35)) 36 #[.string s, .int .i64 (kk : Int), .bool false] (g := w2.heap.size + 1 + 1) (by simp)
    have m1 := ((K1.out.alloc (.cells #[.int .i64 ba.pid, .int .i64 ba.ep, .int .i64 ba.seq, .bool ba.txn, .slice A6 ba.rs.length c6] 40)).alloc (.cells #[.string s, .int .i64 (kk : Int), .bool false] 35)).alloc (.cells #[.string s, .int .i64 (kk : Int), .bool false] 36)
    have m2 := ((blk_new w2 40 #[.int .i64 ba.pid, .int .i64 ba.ep, .int .i64 ba.seq, .bool ba.txn, .slice A6 ba.rs.length c6] rfl).alloc (.cells #[.string s, .int .i64 (kk : Int), .bool false] 35)).alloc (.cells #[.string s, .int .i64 (kk : Int), .bool false] 36)
    have r1 := (((O2.out.alloc (by omega) (.cells #[.int .i64 ba.pid, .int .i64 ba.ep, .int .i64 ba.seq, .bool ba.txn, .slice A6 ba.rs.length c6] 40))).alloc (by simp; omega) (.cells #[.string s, .int .i64 (kk : Int), .bool false] 35)).alloc (by simp; omega) (.cells #[.string s, .int .i64 (kk : Int), .bool false] 36)
    have r2 := (((P2.out.alloc (Nat.le_refl _) (.cells #[.int .i64 ba.pid, .int .i64 ba.ep, .int .i64 ba.seq, .bool ba.txn, .slice A6 ba.rs.length c6] 40))).alloc (by simp) (.cells #[.string s, .int .i64 (kk : Int), .bool false] 35)).alloc (by simp; omega) (.cells #[.string s, .int .i64 (kk : Int), .bool false] 36)
    have hz3 : (((w2.alloc (.cells #[.int .i64 ba.pid, .int .i64 ba.ep, .int .i64 ba.seq, .bool ba.txn, .slice A6 ba.rs.length c6] 40)).alloc (.cells #[.string s, .int .i64 (kk : Int), .bool false] 35)).alloc (.cells #[.string s, .int .i64 (kk : Int), .bool false] 36)).heap.size = w2.heap.size + 1 + 1 + 1 := by simp
    generalize (((w2.alloc (.cells #[.int .i64 ba.pid, .int .i64 ba.ep, .int .i64 ba.seq, .bool ba.txn, .slice A6 ba.rs.length c6] 40)).alloc (.cells #[.string s, .int .i64 (kk : Int), .bool false] 35)).alloc (.cells #[.string s, .int .i64 (kk : Int), .bool false] 36)) = W3 at *
    have HZ3 := Lib.hid hz3
    have rdok : RdOk W3.heap.size W3 (w2.heap.size + 1) s kk false := ⟨k1, hkk, HG.out.up B3.out, by omega, by omega, Nat.lt_of_lt_of_le HG.out.lt B3.out.size, Nat.le_refl _⟩
    have T1 := Lib.hid (Take_any (w2.heap.size + 1) s kk false W3 rdok)
    have T2 := Lib.hid (fun W h => rTake_any (w2.heap.size + 1 + 1) s kk false W h)
    have hL2 := rdBat_rs (lb s) kk false
    generalize rdBat (lb s) kk false = z at *
    obtain ⟨bt, j, bad⟩ := z
    change bt.rs.length ≤ 4 at hL2
    change Hid (Calls _ _ _ _ (TkP (w2.heap.size + 1) s bt j bad W3)) at T1
    change Hid (∀ W (h : RrOk W.heap.size W (w2.heap.size + 1 + 1) s kk false), Calls _ _ _ W (TrP (w2.heap.size + 1 + 1) s bt j bad W)) at T2
    have M1 := Lib.hid m1
    have M2 := Lib.hid m2
    have Q1 := Lib.hid r1
    have Q2 := Lib.hid r2
    have K2 := Lib.hid k2
    clear hz3 rdok k1 k2 m1 m2 r1 r2 K1 O1 O2 P2 B1 B2
    refine T1.out.mono ?_
    rintro e w4 ⟨A7, c7, rfl, o7, hc7, k4, o4⟩
    have s4 := o4.size
    have h3 := HZ3.out
    have q2 := o4.blk K2.out (by omega)
    have rrok : RrOk w4.heap.size w4 (w2.heap.size + 1 + 1) s kk false := ⟨q2, hkk, by omega, by omega, Nat.le_refl _⟩
    have T3 := Lib.hid (T2.out w4 rrok)
    have M1' := Lib.hid (o4.blk M1.out (by omega))
    have M2' := Lib.hid (o4.blk M2.out (by omega))
    have bq : Below (w2.heap.size + 1) W3 w4 := o4.below (by omega) (fun x hx => by omega)
    have Q1' := Lib.hid (Q1.out.below (bq.mono (by omega)))
    have Q2' := Lib.hid (Q2.out.below (bq.mono (by omega)))
    have B4 := Lib.hid (B3.out.trans (o4.below (B3.out.size) (fun x hx => by have := B3.out.size; have := HB0.out; omega)))
    have O7 := Lib.hid o7
    have K4 := Lib.hid k4
    clear o4 k4 o7 q2 rrok bq T1 T2 K2 M1 M2 Q1 Q2
    go_wp2_with fail
    refine T3.out.mono ?_
    rintro e w5 ⟨A8, c8, rfl, o8, hc8, k5, o5⟩
    have s5 := o5.size
    have O7' := o5.own O7.out (fun x hx e => by omega)
    have bq5 : Below (w2.heap.size + 1 + 1) w4 w5 := o5.below (by omega) (fun x hx => by omega)
    have r1 := (((Q1'.out.below (bq5.mono (by omega))).alloc (by omega) (.cells #[.int .i64 bt.pid, .int .i64 bt.ep, .int .i64 bt.seq, .bool bt.txn, .slice A7 bt.rs.length c7] 40)).alloc (by simp; omega) (.cells #[.int .i64 bt.pid, .int .i64 bt.ep, .int .i64 bt.seq, .bool bt.txn, .slice A8 bt.rs.length c8] 40))
    have r2 := (((Q2'.out.below (bq5.mono (by omega))).alloc (by omega) (.cells #[.int .i64 bt.pid, .int .i64 bt.ep, .int .i64 bt.seq, .bool bt.txn, .slice A7 bt.rs.length c7] 40)).alloc (by simp; omega) (.cells #[.int .i64 bt.pid, .int .i64 bt.ep, .int .i64 bt.seq, .bool bt.txn, .slice A8 bt.rs.length c8] 40))
    have r3 := (Reads.of_own ((O7'.alloc (.cells #[.int .i64 bt.pid, .int .i64 bt.ep, .int .i64 bt.seq, .bool bt.txn, .slice A7 bt.rs.length c7] 40)).alloc (.cells #[.int .i64 bt.pid, .int .i64 bt.ep, .int .i64 bt.seq, .bool bt.txn, .slice A8 bt.rs.length c8] 40)))
    have r4 := (Reads.of_own ((o8.alloc (.cells #[.int .i64 bt.pid, .int .i64 bt.ep, .int .i64 bt.seq, .bool bt.txn, .slice A7 bt.rs.length c7] 40)).alloc (.cells #[.int .i64 bt.pid, .int .i64 bt.ep, .int .i64 bt.seq, .bool bt.txn, .slice A8 bt.rs.length c8] 40)))
    have m1 := ((o5.blk M1'.out (by omega)).alloc (.cells #[.int .i64 bt.pid, .int .i64 bt.ep, .int .i64 bt.seq, .bool bt.txn, .slice A7 bt.rs.length c7] 40)).alloc (.cells #[.int .i64 bt.pid, .int .i64 bt.ep, .int .i64 bt.seq, .bool bt.txn, .slice A8 bt.rs.length c8] 40)
    have m2 := ((o5.blk M2'.out (by omega)).alloc (.cells #[.int .i64 bt.pid, .int .i64 bt.ep, .int .i64 bt.seq, .bool bt.txn, .slice A7 bt.rs.length c7] 40)).alloc (.cells #[.int .i64 bt.pid, .int .i64 bt.ep, .int .i64 bt.seq, .bool bt.txn, .slice A8 bt.rs.length c8] 40)
    have m3 := (blk_new w5 40 #[.int .i64 bt.pid, .int .i64 bt.ep, .int .i64 bt.seq, .bool bt.txn, .slice A7 bt.rs.length c7] rfl).alloc (.cells #[.int .i64 bt.pid, .int .i64 bt.ep, .int .i64 bt.seq, .bool bt.txn, .slice A8 bt.rs.length c8] 40)
    have m4 := blk_new (w5.alloc (.cells #[.int .i64 bt.pid, .int .i64 bt.ep, .int .i64 bt.seq, .bool bt.txn, .slice A7 bt.rs.length c7] 40)) 40 #[.int .i64 bt.pid, .int .i64 bt.ep, .int .i64 bt.seq, .bool bt.txn, .slice A8 bt.rs.length c8] (g := w5.heap.size + 1) (by simp)
    have kr := ((o5.blk K4.out (by omega)).alloc (.cells #[.int .i64 bt.pid, .int .i64 bt.ep, .int .i64 bt.seq, .bool bt.txn, .slice A7 bt.rs.length c7] 40)).alloc (.cells #[.int .i64 bt.pid, .int .i64 bt.ep, .int .i64 bt.seq, .bool bt.txn, .slice A8 bt.rs.length c8] 40)
    have kd := (k5.alloc (.cells #[.int .i64 bt.pid, .int .i64 bt.ep, .int .i64 bt.seq, .bool bt.txn, .slice A7 bt.rs.length c7] 40)).alloc (.cells #[.int .i64 bt.pid, .int .i64 bt.ep, .int .i64 bt.seq, .bool bt.txn, .slice A8 bt.rs.length c8] 40)
    have hb0 := HB0.out
    have B6 := Lib.hid (bal (bal (B4.out.trans (o5.below B4.out.size (fun x hx => by omega))) (.cells #[.int .i64 bt.pid, .int .i64 bt.ep, .int .i64 bt.seq, .bool bt.txn, .slice A7 bt.rs.length c7] 40)) (.cells #[.int .i64 bt.pid, .int .i64 bt.ep, .int .i64 bt.seq, .bool bt.txn, .slice A8 bt.rs.length c8] 40))
    have hW : ((w5.alloc (.cells #[.int .i64 bt.pid, .int .i64 bt.ep, .int .i64 bt.seq, .bool bt.txn, .slice A7 bt.rs.length c7] 40)).alloc (.cells #[.int .i64 bt.pid, .int .i64 bt.ep, .int .i64 bt.seq, .bool bt.txn, .slice A8 bt.rs.length c8] 40)).heap.size = w5.heap.size + 1 + 1 := by simp
    have HW := Lib.hid hW
    clear o5 k5 o8 O7' bq5 Q1' Q2' M1' M2' K4 B4 O7 T3 HB0 B3 HZ3
    go_wp2_with fail
    generalize ((w5.alloc (.cells #[.int .i64 bt.pid, .int .i64 bt.ep, .int .i64 bt.seq, .bool bt.txn, .slice A7 bt.rs.length c7] 40)).alloc (.cells #[.int .i64 bt.pid, .int .i64 bt.ep, .int .i64 bt.seq, .bool bt.txn, .slice A8 bt.rs.length c8] 40)) = W6 at *
    have hl1 : w1.heap.size < w5.heap.size + 1 + 1 := by omega
    have hl2 : w2.heap.size < w5.heap.size + 1 + 1 := by omega
    have hl3 : w5.heap.size < w5.heap.size + 1 + 1 := by omega
    have hl4 : w5.heap.size + 1 < w5.heap.size + 1 + 1 := by omega
    have hl5 : w2.heap.size + 1 < w5.heap.size + 1 + 1 := by omega
    have hl6 : w2.heap.size + 1 + 1 < w5.heap.size + 1 + 1 := by omega
    have s1 := fun n : BW (w5.heap.size + 1 + 1) W6 => rRcSame_any ba ba A5 A6 c5 c6 n.1 ((r1.below (n.2.mono (by omega))).more (by have := n.2.size; omega)) ((r2.below (n.2.mono (by omega))).more (by have := n.2.size; omega)) (by omega)
    have s2 := fun n : BW (w5.heap.size + 1 + 1) W6 => rRcSame_any bt bt A7 A8 c7 c8 n.1 ((r3.below (n.2.mono (by omega))).more (by have := n.2.size; omega)) ((r4.below (n.2.mono (by omega))).more (by have := n.2.size; omega)) (by omega)
    rw [sameBt_self] at s1 s2
    have S1 := Lib.hid s1
    have S2 := Lib.hid s2
    have hBle : w5.heap.size + 1 + 1 ≤ W6.heap.size := by omega
    have p0 := bw_cell (B := w5.heap.size + 1 + 1) (m1.cell 0) hl1
    have p1 := bw_cell (B := w5.heap.size + 1 + 1) (m1.cell 1) hl1
    have p2 := bw_cell (B := w5.heap.size + 1 + 1) (m1.cell 2) hl1
    have p3 := bw_cell (B := w5.heap.size + 1 + 1) (m1.cell 3) hl1
    have p4 := bw_cell (B := w5.heap.size + 1 + 1) (m1.cell 4) hl1
    have rr0 := bw_cell (B := w5.heap.size + 1 + 1) (m2.cell 0) hl2
    have rr1 := bw_cell (B := w5.heap.size + 1 + 1) (m2.cell 1) hl2
    have rr2 := bw_cell (B := w5.heap.size + 1 + 1) (m2.cell 2) hl2
    have rr3 := bw_cell (B := w5.heap.size + 1 + 1) (m2.cell 3) hl2
    have rr4 := bw_cell (B := w5.heap.size + 1 + 1) (m2.cell 4) hl2
    have t0 := bw_cell (B := w5.heap.size + 1 + 1) (m3.cell 0) hl3
    have t1 := bw_cell (B := w5.heap.size + 1 + 1) (m3.cell 1) hl3
    have t2 := bw_cell (B := w5.heap.size + 1 + 1) (m3.cell 2) hl3
    have t3 := bw_cell (B := w5.heap.size + 1 + 1) (m3.cell 3) hl3
    have t4 := bw_cell (B := w5.heap.size + 1 + 1) (m3.cell 4) hl3
    have u0 := bw_cell (B := w5.heap.size + 1 + 1) (m4.cell 0) hl4
    have u1 := bw_cell (B := w5.heap.size + 1 + 1) (m4.cell 1) hl4
    have u2 := bw_cell (B := w5.heap.size + 1 + 1) (m4.cell 2) hl4
    have u3 := bw_cell (B := w5.heap.size + 1 + 1) (m4.cell 3) hl4
    have u4 := bw_cell (B := w5.heap.size + 1 + 1) (m4.cell 4) hl4
    have v1 := bw_cell (B := w5.heap.size + 1 + 1) (kr.cell 1) hl5
    have v2 := bw_cell (B := w5.heap.size + 1 + 1) (kr.cell 2) hl5
    have z1 := bw_cell (B := w5.heap.size + 1 + 1) (kd.cell 1) hl6
    have z2 := bw_cell (B := w5.heap.size + 1 + 1) (kd.cell 2) hl6
    clear hW r1 r2 r3 r4 m1 m2 m3 m4 kr kd s1 s2 hL1 hL2 hs2 s4 h3 s5 hb0 hq1 hq4
    cases bad
    all_goals
      refine wp_region_bq (w5.heap.size + 1 + 1) (by kernel_rfl) (by kernel_rfl) ?_
      repeat (go_big_quiet_step ((first | (go_at_call 27; exact bw_call hBle (wakes06 _)) | (go_at_call 31; with_reducible exact bw_call hBle (S1.out _)) | (go_at_call 31; exact bw_call hBle (S2.out _)))))
      refine wpQuiet_nil ?_
      rintro _ ⟨n, rfl⟩
      have hn := B6.out.trans (n.2.mono (by have := B6.out.size; have := HW.out; omega))
      go_wp2_with fail
      go_ret
      exact ⟨rfl, hn⟩
end Go.Proofs.YtcockikekgmfkaaDoor
namespace Go.Proofs.YtcockikekgmfkaaDoor
open Go.RowKit
attribute [local go_sem ↓] Go.wp_at_zero Go.wp_at_succ

/-- A request's reader, its cells. -/
def rqC (inp : Value) (q : Rq) (Ab : Option Addr) (cb : Nat) (o er : Value) : Array Value :=
  #[inp, .int .i8 q.kd, .int .i64 q.tid, .int .i64 q.tm, .int .i64 q.pid, .int .i64 q.ep, .int .i64 q.part, .int .i64 q.grp, .int .i64 q.off, .int .i64 q.most, .bool q.yes,
    .int .i64 q.b.pid, .int .i64 q.b.ep, .int .i64 q.b.seq, .bool q.b.txn, .slice Ab q.b.rs.length cb, o, er]
abbrev RqB (w : World) (g : Nat) (cs : Array Value) : Prop := Blk w g 108 cs
/-- An error of this layer, with its code. -/
def RqE (w : World) (n : Int) (v : Value) : Prop := ∃ b, v = .iface 126 (.pointer (some ⟨b, 0, none⟩)) ∧ w.cell? ⟨b, 1, none⟩ = some (.int .i64 n)
def WrongPost (g : Nat) (cs : Array Value) (n : Int) (w : World) (e : Ending) (w' : World) : Prop :=
  e = .returned (.tuple #[]) ∧ ∃ b, RqB w' g (cs.setIfInBounds 17 (.iface 126 (.pointer (some ⟨b, 0, none⟩)))) ∧ w'.cell? ⟨b, 1, none⟩ = some (.int .i64 n) ∧ b ≠ g ∧ Only (fun x => x = g) w w'

set_option maxRecDepth 100000 in
set_option maxHeartbeats 1000000 in
theorem wrong_any (g : Nat) (cs : Array Value) (nm : ByteArray) (n : Int) (w : World) (h : RqB w g cs) (h1 : cs[17]? = some .nilIface) :
    Calls Tryd.prog 106 #[.pointer (some ⟨g, 0, none⟩), .string nm, .int .i64 n] w (WrongPost g cs n w) := by
  have x1 := (h.cell 17).trans h1
  have x2 := h.frozen 17
  have H := Lib.hid h
  have hl := h.lt
  have k1 := (h.alloc (.cells #[.string nm, .int .i64 n] 128))
  have y1 := (k1.cell 17).trans h1
  have y2 := k1.frozen 17
  have K1 := Lib.hid k1
  have F1 := Lib.hid (blk_new w 128 #[.string nm, .int .i64 n] rfl)
  clear h k1
  go_enter Tryd.func106, Tryd.ntmps106
  go_wp2_with fail
  go_end0
  refine ⟨rfl, w.heap.size, (H.out.set_ 17 _).alloc _, ?_, by omega, ((Only.refl (fun x => x = g) w).set (.inl rfl) _).alloc _⟩
  exact (blk_new (w.setCell ⟨g, 17, none⟩ _) 128 #[.string nm, .int .i64 n] (by simp [World.setCell])).cell 1

/-- Behind a number that was written. -/
def NumW (g k K : Nat) (cs : Array Value) (L : List UInt8) (w : World) (e : Ending) (w' : World) : Prop :=
  e = .returned (.tuple #[]) ∧ ∃ A c, RqB w' g ((cs.setIfInBounds 16 (.slice A L.length c)).setIfInBounds k (.int .i64 0)) ∧ w'.ownsRow K 5 1 (.slice A L.length c) L.length (cellsB L) ∧ Only (fun x => x = g) w w'

set_option maxRecDepth 100000 in
set_option maxHeartbeats 1000000 in
theorem number_w (g k K : Nat) (cs : Array Value) (nm : ByteArray) (lo hi : Nat) (n : Nat) (l : List UInt8) (A : Option Addr) (c : Nat) (w : World) (h : RqB w g cs) (h0 : cs[0]? = some (.pointer none)) (hk : cs[k]? = some (.int .i64 (n : Int))) (hk1 : ¬ 16 = k)
    (h1 : cs[16]? = some (.slice A l.length c)) (ho : w.ownsRow K 5 1 (.slice A l.length c) l.length (cellsB l)) (hK : K ≤ w.heap.size) (hgK : g < K) (hl : l.length ≤ 80000) (hr : lo ≤ n ∧ n ≤ hi) (hhi : hi ≤ maxNum) :
    Calls Tryd.prog 109 #[.pointer (some ⟨g, 0, none⟩), .string nm, .pointer (some ⟨g, k, none⟩), .int .i64 (lo : Int), .int .i64 (hi : Int)] w (NumW g k K cs (l ++ enc n) w) := by
  have x0 := (h.cell 0).trans h0
  have xk := (h.cell k).trans hk
  have x6 := (h.cell 16).trans h1
  have d1 : decide ((n : Int) < (lo : Int)) = false := by simp; omega
  have d2 : decide ((hi : Int) < (n : Int)) = false := by simp; omega
  have d1' : decide (n < lo) = false := by simp; omega
  have d2' : decide (hi < n) = false := by simp; omega
  have N1 := Lib.hid (Number_own A l c n w.drew (Reads.of_own (ho.drew)) (by omega) (by omega))
  have H := Lib.hid h.drew
  have HK := Lib.hid hk
  have H1 := Lib.hid h1
  have hgl := h.lt
  have hk2 : ¬ k = 16 := fun e => hk1 e.symm
  generalize l ++ enc n = L at *
  clear h ho
  go_enter Tryd.func109, Tryd.ntmps109
  go_wp2_with fail
  go_region_held3 (fun W => W.cell? ⟨g, k, none⟩ = some (.int .i64 (n : Int)) ∧ W.cell? ⟨g, 16, none⟩ = some (.slice A l.length c))
    (first | exact ⟨xk, x6⟩ | (refine ⟨?_, ?_⟩; exact yk; exact y6))
    (first | (go_at_call 39; refine N1.out.mono ?_; rintro e w1 ⟨A1, c1, rfl, o1, hc1, b1⟩; have k1 := H.out.below b1 H.out.lt; have yk := (k1.cell k).trans HK.out; have y6 := (k1.cell 16).trans H1.out; have f6 := k1.frozen 16; have fk := k1.frozen k))
  go_wp2_with fail
  go_end0
  exact ⟨rfl, A1, c1, (k1.set_ 16 _).set_ k _, own_set (own_set (own_base o1 (by simpa using hK)) hgK _) hgK _, (((Only.refl (fun x => x = g) w).drew.then_below b1).set (.inl rfl) _).set (.inl rfl) _⟩

set_option maxRecDepth 100000 in
set_option maxHeartbeats 1000000 in
theorem number_x (g k : Nat) (cs : Array Value) (nm : ByteArray) (lo hi : Int) (n : Int) (w : World) (h : RqB w g cs) (h0 : cs[0]? = some (.pointer none)) (hk : cs[k]? = some (.int .i64 n)) (h7 : cs[17]? = some .nilIface) (hr : ¬ (lo ≤ n ∧ n ≤ hi)) :
    Calls Tryd.prog 109 #[.pointer (some ⟨g, 0, none⟩), .string nm, .pointer (some ⟨g, k, none⟩), .int .i64 lo, .int .i64 hi] w (WrongPost g cs 2 w) := by
  have x0 := (h.cell 0).trans h0
  have xk := (h.cell k).trans hk
  have WR := Lib.hid (wrong_any g cs nm 2 w h h7)
  have dd : decide (n < lo) = true ∨ (decide (n < lo) = false ∧ decide (hi < n) = true) := by
    by_cases h : n < lo
    · exact .inl (decide_eq_true h)
    · exact .inr ⟨decide_eq_false h, decide_eq_true (by omega)⟩
  clear h h0 hk h7 hr
  rcases dd with d1 | ⟨d1, d2⟩
  · go_enter Tryd.func109, Tryd.ntmps109
    go_wp2_with fail
    refine WR.out.mono ?_
    rintro e w1 ⟨rfl, hp⟩
    go_wp2_with fail
    go_end0
    exact ⟨rfl, hp⟩
  · go_enter Tryd.func109, Tryd.ntmps109
    go_wp2_with fail
    refine WR.out.mono ?_
    rintro e w1 ⟨rfl, hp⟩
    go_wp2_with fail
    go_end0
    exact ⟨rfl, hp⟩

/-- Behind a field that was read. -/
def FldR (B g gr k : Nat) (s : ByteArray) (cs : Array Value) (v : Value) (j : Nat) (b : Bool) (w : World) (e : Ending) (w' : World) : Prop :=
  e = .returned (.tuple #[]) ∧ RqB w' g (cs.setIfInBounds k v) ∧ RdOk B w' gr s j b ∧ Only (fun x => x = g ∨ x = gr) w w'

set_option maxRecDepth 100000 in
set_option maxHeartbeats 1000000 in
theorem number_r (B g gr k : Nat) (s : ByteArray) (cs : Array Value) (nm : ByteArray) (lo hi : Int) (i j : Nat) (b b' : Bool) (v n : Int) (w : World) (h : RqB w g cs) (h0 : cs[0]? = some (.pointer (some ⟨gr, 0, none⟩))) (hk : cs[k]? = some (.int .i64 n)) (hrd : RdOk B w gr s i b) (hgB : B ≤ g)
    (hz : rdNum (lb s) i b lo hi = (v, j, b')) :
    Calls Tryd.prog 109 #[.pointer (some ⟨g, 0, none⟩), .string nm, .pointer (some ⟨g, k, none⟩), .int .i64 lo, .int .i64 hi] w (FldR B g gr k s cs (.int .i64 v) j b' w) := by
  have x0 := (h.cell 0).trans h0
  have N1 := Lib.hid (RNum_z hz hrd)
  have H := Lib.hid h
  have HK := Lib.hid hk
  have hne : ¬ g = gr := by have := hrd.2.2.2.2.1; omega
  have HB := Lib.hid hgB
  clear h h0 hk hrd hz hgB
  go_enter Tryd.func109, Tryd.ntmps109
  go_wp2_with fail
  refine N1.out.mono ?_
  rintro e w1 ⟨rfl, r1, o1⟩
  have k1 := o1.blk H.out hne
  have yk := (k1.cell k).trans HK.out
  have fk := k1.frozen k
  have K1 := Lib.hid k1
  have R1 := Lib.hid r1
  have O1 := Lib.hid o1
  clear k1 r1 o1
  go_wp2_with fail
  go_end0
  exact ⟨rfl, K1.out.set_ k _, R1.out.set HB.out _, (O1.out.mono (fun x _ hx => .inr hx)).set (.inl (.inl rfl)) _⟩
end Go.Proofs.YtcockikekgmfkaaDoor
