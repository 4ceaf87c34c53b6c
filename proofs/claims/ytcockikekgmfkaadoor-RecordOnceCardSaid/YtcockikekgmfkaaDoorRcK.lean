/-
  The statement RecordTells: its walk.
-/
import Derived.Test.YtcockikekgmfkaaDoorRcJ
import Derived.Test.YtcockikekgmfkaaDoorBq
namespace Go.Proofs.YtcockikekgmfkaaDoor
open Go.RowKit

theorem keepB {w w' : World} {g o : Nat} {v : Value} (h : w.cell? ⟨g, o, none⟩ = some v) (hb : Below w.heap.size w w') : w'.cell? ⟨g, o, none⟩ = some v := (hb.cell (p := ⟨g, o, none⟩) (cell_lt h)).trans h

/-- What a batch's bytes are, or that it has none. -/
def bytesBt (b : Bat) : ByteArray × Int := if mayBt b = true then (bs (encBt b), 0) else (ByteArray.empty, 2)
theorem RcBytes_any (b : Bat) (A1 : Option Addr) (c1 : Nat) (w : World) (hr : Reads w w.heap.size 2 A1 b.rs.length (cellsR b.rs)) (hg : HasET w) :
    Calls Tryd.prog 28 #[(.agg #[.int .i64 b.pid, .int .i64 b.ep, .int .i64 b.seq, .bool b.txn, .slice A1 b.rs.length c1])] w fun e w' => e = .returned (.tuple #[.string (bytesBt b).1, .int .i64 (bytesBt b).2]) ∧ Below w.heap.size w w' := by
  unfold bytesBt
  cases hm : mayBt b
  · exact RcBytes_no b A1 c1 w hr hg hm
  · exact RcBytes_ok b A1 c1 w hr hm
theorem rRcBytes_any (b : Bat) (A1 : Option Addr) (c1 : Nat) (w : World) (hr : Reads w w.heap.size 2 A1 b.rs.length (cellsR b.rs)) :
    Calls Tryd.prog 32 #[(.agg #[.int .i64 b.pid, .int .i64 b.ep, .int .i64 b.seq, .bool b.txn, .slice A1 b.rs.length c1])] w fun e w' => e = .returned (.tuple #[.string (bytesBt b).1, .int .i64 (bytesBt b).2]) ∧ Below w.heap.size w w' := by
  unfold bytesBt
  cases hm : mayBt b
  · exact rRcBytes_no b A1 c1 w hr hm
  · exact rRcBytes_ok b A1 c1 w hr hm

theorem SameRows_same (A1 A2 : Option Addr) (l : List Rw) (c1 c2 B1 B2 : Nat) (w : World) (h1 : Reads w B1 5 A1 l.length (cellsW l)) (h2 : Reads w B2 5 A2 l.length (cellsW l)) (hl : l.length ≤ 1000000) :
    Calls Tryd.prog 36 #[.slice A1 l.length c1, .slice A2 l.length c2] w fun e w' => e = .returned (.bool true) ∧ Below w.heap.size w w' :=
  (SameRows_any A1 A2 l l c1 c2 B1 B2 w h1 h2 hl).mono fun _ _ ⟨he, q, hw⟩ => ⟨by rw [he, decide_eq_true rfl], by rw [hw]; exact below_drewN (Below.refl _ _) q⟩
/-- A batch's records in memory, however many. -/
def BtRaw (w : World) (b : Bat) (A : Option Addr) : Prop :=
  Reads w w.heap.size 2 A b.rs.length (cellsR b.rs) ∧ b.rs.length ≤ 9223372036854775807 ∧ ∀ r ∈ b.rs, r.1.size ≤ 9223372036854775807 ∧ r.2.size ≤ 9223372036854775807

set_option maxRecDepth 100000 in
set_option maxHeartbeats 2000000 in
theorem rtell_big (a b : Bat) (A1 A2 : Option Addr) (c1 c2 : Nat) (off : Int) (w : World) (h1 : BtRaw w a A1) (h2 : BtRaw w b A2) (hbig : greatBt a = true ∨ (greatBt a = false ∧ greatBt b = true)) :
    Calls Tryd.prog 5 #[(.agg #[.int .i64 a.pid, .int .i64 a.ep, .int .i64 a.seq, .bool a.txn, .slice A1 a.rs.length c1]), (.agg #[.int .i64 b.pid, .int .i64 b.ep, .int .i64 b.seq, .bool b.txn, .slice A2 b.rs.length c2]), .int .i64 off] w fun e w' => e = .returned (.bool true) ∧ Below w.heap.size w w' := by
  have HB := Lib.hid (bal (bal (Below.refl w.heap.size w) (.cells #[.int .i64 a.pid, .int .i64 a.ep, .int .i64 a.seq, .bool a.txn, .slice A1 a.rs.length c1] 40)) (.cells #[.int .i64 b.pid, .int .i64 b.ep, .int .i64 b.seq, .bool b.txn, .slice A2 b.rs.length c2] 40))
  have kk := Blk.new (w.alloc (.cells #[.int .i64 a.pid, .int .i64 a.ep, .int .i64 a.seq, .bool a.txn, .slice A1 a.rs.length c1] 40)) 40 #[.int .i64 b.pid, .int .i64 b.ep, .int .i64 b.seq, .bool b.txn, .slice A2 b.rs.length c2]
  rw [World.size_alloc] at kk
  have K2 := Lib.hid kk
  have G1 := Lib.hid (fun W (h : Below w.heap.size w W) => Great_any a A1 c1 W ((h1.1.below h).more h.size) h1.2.1 h1.2.2)
  have G2 := Lib.hid (fun W (h : Below w.heap.size w W) => Great_any b A2 c2 W ((h2.1.below h).more h.size) h2.2.1 h2.2.2)
  clear kk h1 h2
  rcases hbig with h1 | ⟨h1, h2⟩
  · rw [h1] at G1
    clear h1
    go_enter Tryd.func5, Tryd.ntmps5
    go_wp2_with fail
    refine (G1.out _ HB.out).mono ?_
    rintro e w1 ⟨rfl, b1⟩
    have bf := btrans HB.out b1
    go_wp2_with fail
    refine (wakes06 _).mono ?_
    rintro e w2 ⟨rfl, b2⟩
    go_wp2_with fail
    go_ret
    exact ⟨rfl, btrans bf b2⟩
  · rw [h1] at G1
    rw [h2] at G2
    clear h1 h2
    go_enter Tryd.func5, Tryd.ntmps5
    go_wp2_with fail
    refine (G1.out _ HB.out).mono ?_
    rintro e w1 ⟨rfl, b1⟩
    have bf := btrans HB.out b1
    have hz := b1.size
    simp only [World.size_alloc] at hz
    have k6 := K2.out.below b1 (by simp only [World.size_alloc]; omega)
    have y0 := k6.cell 0
    have y1 := k6.cell 1
    have y2 := k6.cell 2
    have y3 := k6.cell 3
    have y4 := k6.cell 4
    go_wp2_with fail
    refine (G2.out _ bf).mono ?_
    rintro e w2 ⟨rfl, b2⟩
    have bg := btrans bf b2
    go_wp2_with fail
    refine (wakes06 _).mono ?_
    rintro e w3 ⟨rfl, b3⟩
    go_wp2_with fail
    go_ret
    exact ⟨rfl, btrans bg b3⟩

set_option maxRecDepth 100000 in
set_option maxHeartbeats 4000000 in
theorem rtell_ok (a b : Bat) (A1 A2 : Option Addr) (c1 c2 : Nat) (off : Int) (w : World) (hg : HasET w) (h1 : BtRaw w a A1) (h2 : BtRaw w b A2) (n1 : greatBt a = false) (n2 : greatBt b = false) :
    Calls Tryd.prog 5 #[(.agg #[.int .i64 a.pid, .int .i64 a.ep, .int .i64 a.seq, .bool a.txn, .slice A1 a.rs.length c1]), (.agg #[.int .i64 b.pid, .int .i64 b.ep, .int .i64 b.seq, .bool b.txn, .slice A2 b.rs.length c2]), .int .i64 off] w fun e w' => e = .returned (.bool true) ∧ Below w.heap.size w w' := by
  have l1 := (not_great n1).1
  have HB := Lib.hid (bal (bal (Below.refl w.heap.size w) (.cells #[.int .i64 a.pid, .int .i64 a.ep, .int .i64 a.seq, .bool a.txn, .slice A1 a.rs.length c1] 40)) (.cells #[.int .i64 b.pid, .int .i64 b.ep, .int .i64 b.seq, .bool b.txn, .slice A2 b.rs.length c2] 40))
  have K1 := Lib.hid ((Blk.new w 40 #[.int .i64 a.pid, .int .i64 a.ep, .int .i64 a.seq, .bool a.txn, .slice A1 a.rs.length c1]).alloc (.cells #[.int .i64 b.pid, .int .i64 b.ep, .int .i64 b.seq, .bool b.txn, .slice A2 b.rs.length c2] 40))
  have kk := Blk.new (w.alloc (.cells #[.int .i64 a.pid, .int .i64 a.ep, .int .i64 a.seq, .bool a.txn, .slice A1 a.rs.length c1] 40)) 40 #[.int .i64 b.pid, .int .i64 b.ep, .int .i64 b.seq, .bool b.txn, .slice A2 b.rs.length c2]
  rw [World.size_alloc] at kk
  have K2 := Lib.hid kk
  have g1 := (fun W (h : Below w.heap.size w W) => Great_any a A1 c1 W ((h1.1.below h).more h.size) h1.2.1 h1.2.2)
  have g2 := (fun W (h : Below w.heap.size w W) => Great_any b A2 c2 W ((h2.1.below h).more h.size) h2.2.1 h2.2.2)
  rw [n1] at g1
  rw [n2] at g2
  have G1 := Lib.hid g1
  have G2 := Lib.hid g2
  have M1 := Lib.hid (fun W (h : Below w.heap.size w W) => RcMay_any a A1 c1 W ((h1.1.below h).more h.size))
  have M2 := Lib.hid (fun W (h : Below w.heap.size w W) => rRcMay_any a A1 c1 W ((h1.1.below h).more h.size))
  have Y1 := Lib.hid (fun W (h : Below w.heap.size w W) => RcBytes_any a A1 c1 W ((h1.1.below h).more h.size) (hg.up h))
  have Y2 := Lib.hid (fun W (h : Below w.heap.size w W) => rRcBytes_any a A1 c1 W ((h1.1.below h).more h.size))
  have S1 := Lib.hid (fun W (h : Below w.heap.size w W) => RcSame_any a b A1 A2 c1 c2 W ((h1.1.below h).more h.size) ((h2.1.below h).more h.size) (by omega))
  have S2 := Lib.hid (fun W (h : Below w.heap.size w W) => rRcSame_any a b A1 A2 c1 c2 W ((h1.1.below h).more h.size) ((h2.1.below h).more h.size) (by omega))
  have E1 := Lib.hid (fun W => Behind_any a A1 c1 W)
  have E2 := Lib.hid (fun W => rBehind_any a A1 c1 W)
  have O1 := Lib.hid (fun W (h : Below w.heap.size w W) => Rows_any a A1 c1 off W ((h1.1.below h).more h.size) (by omega))
  have O2 := Lib.hid (fun W (h : Below w.heap.size w W) => rRows_any a A1 c1 off W ((h1.1.below h).more h.size) (by omega))
  have hrl : (rowsBt a off).length ≤ 1000000 := by rw [rowsBt_len]; omega
  generalize mayBt a = q1 at *
  generalize sameBt a b = q2 at *
  generalize behindB a = q3 at *
  generalize (bytesBt a).1 = q4 at *
  generalize (bytesBt a).2 = q5 at *
  generalize rowsBt a off = RB at *
  have P1 := Lib.hid (fun A A' B B' c c' W h h' => SameRows_same A A' RB c c' B B' W h h' hrl)
  clear kk hg h1 h2 n1 n2 g1 g2
  go_enter Tryd.func5, Tryd.ntmps5
  go_wp2_with fail
  refine (G1.out _ HB.out).mono ?_
  rintro e w1 ⟨rfl, b1⟩
  have bf := btrans HB.out b1
  have hz := b1.size
  simp only [World.size_alloc] at hz
  have k5 := K1.out.below b1 (by simp only [World.size_alloc]; omega)
  have k6 := K2.out.below b1 (by simp only [World.size_alloc]; omega)
  have y0 := k6.cell 0
  have y1 := k6.cell 1
  have y2 := k6.cell 2
  have y3 := k6.cell 3
  have y4 := k6.cell 4
  go_wp2_with fail
  refine (G2.out _ bf).mono ?_
  rintro e w2 ⟨rfl, b2⟩
  have bg := btrans bf b2
  have k7 := k5.below b2 (by omega)
  have k8 := k6.below b2 (by omega)
  have hz2 := b2.size
  clear y0 y1 y2 y3 y4 k5 k6 b1 b2 bf
  have x0 := k7.cell 0
  have x1 := k7.cell 1
  have x2 := k7.cell 2
  have x3 := k7.cell 3
  have x4 := k7.cell 4
  go_wp2_with fail
  refine (Y1.out _ bg).mono ?_
  rintro e w3 ⟨rfl, b3⟩
  have bh := btrans bg b3
  have k9 := k7.below b3 (by omega)
  have k10 := k8.below b3 (by omega)
  have hz3 := b3.size
  clear x0 x1 x2 x3 x4 k7 k8 b3 bg
  have x0 := k9.cell 0
  have x1 := k9.cell 1
  have x2 := k9.cell 2
  have x3 := k9.cell 3
  have x4 := k9.cell 4
  go_wp2_with fail
  refine (Y2.out _ bh).mono ?_
  rintro e w4 ⟨rfl, b4⟩
  have bi := btrans bh b4
  have k11 := k9.below b4 (by omega)
  have k12 := k10.below b4 (by omega)
  clear x0 x1 x2 x3 x4 k9 k10 b4 bh
  have x0 := k11.cell 0
  have x1 := k11.cell 1
  have x2 := k11.cell 2
  have x3 := k11.cell 3
  have x4 := k11.cell 4
  have y0 := k12.cell 0
  have y1 := k12.cell 1
  have y2 := k12.cell 2
  have y3 := k12.cell 3
  have y4 := k12.cell 4
  clear k11 k12
  go_wp2_with fail
  simp at x0 x1 x2 x3 x4 y0 y1 y2 y3 y4
  go_region_held3 (fun W => Below w.heap.size w W ∧ W.cell? ⟨w.heap.size, 0, none⟩ = some (.int .i64 a.pid) ∧ W.cell? ⟨w.heap.size, 1, none⟩ = some (.int .i64 a.ep) ∧ W.cell? ⟨w.heap.size, 2, none⟩ = some (.int .i64 a.seq) ∧ W.cell? ⟨w.heap.size, 3, none⟩ = some (.bool a.txn) ∧ W.cell? ⟨w.heap.size, 4, none⟩ = some (.slice A1 a.rs.length c1) ∧ W.cell? ⟨w.heap.size + 1, 0, none⟩ = some (.int .i64 b.pid) ∧ W.cell? ⟨w.heap.size + 1, 1, none⟩ = some (.int .i64 b.ep) ∧ W.cell? ⟨w.heap.size + 1, 2, none⟩ = some (.int .i64 b.seq) ∧ W.cell? ⟨w.heap.size + 1, 3, none⟩ = some (.bool b.txn) ∧ W.cell? ⟨w.heap.size + 1, 4, none⟩ = some (.slice A2 b.rs.length c2))
    (first | exact ⟨bi.drew, x0, x1, x2, x3, x4, y0, y1, y2, y3, y4⟩ | (go_split_ands; exact ⟨btrans (by assumption) hb, keepB (by assumption) hb, keepB (by assumption) hb, keepB (by assumption) hb, keepB (by assumption) hb, keepB (by assumption) hb, keepB (by assumption) hb, keepB (by assumption) hb, keepB (by assumption) hb, keepB (by assumption) hb, keepB (by assumption) hb⟩))
    (first | (go_at_call 27; refine (wakes06 _).mono ?_; rintro e w' ⟨rfl, hb⟩) | (go_at_call 29; refine (M1.out _ (by go_split_ands; assumption)).mono ?_; rintro e w' ⟨rfl, hb⟩) | (go_at_call 33; refine (M2.out _ (by go_split_ands; assumption)).mono ?_; rintro e w' ⟨rfl, hb⟩) | (go_at_call 34; refine (S1.out _ (by go_split_ands; assumption)).mono ?_; rintro e w' ⟨rfl, hb⟩) | (go_at_call 31; refine (S2.out _ (by go_split_ands; assumption)).mono ?_; rintro e w' ⟨rfl, hb⟩) | (go_at_call 30; refine (E1.out _).mono ?_; rintro e w' ⟨rfl, hb⟩) | (go_at_call 35; refine (E2.out _).mono ?_; rintro e w' ⟨rfl, hb⟩) | (go_at_call 37; refine (O1.out _ (by go_split_ands; assumption)).mono ?_; rintro e w' ⟨A5, c5, rfl, r5, hc5, hb⟩) | (go_at_call 38; refine (O2.out _ (by go_split_ands; assumption)).mono ?_; rintro e w' ⟨A6, c6, rfl, r6, hc6, hb⟩; have r7 := r5.below hb) | (go_at_call 36; refine (P1.out _ _ _ _ _ _ _ r7 r6).mono ?_; rintro e w' ⟨rfl, hb⟩))
  go_wp2_with fail
  go_ret
  exact ⟨rfl, by go_split_ands; assumption⟩
theorem rtell_walk (a b : Bat) (A1 A2 : Option Addr) (c1 c2 : Nat) (off : Int) (w : World) (hg : HasET w) (h1 : BtRaw w a A1) (h2 : BtRaw w b A2) :
    Calls Tryd.prog 5 #[(.agg #[.int .i64 a.pid, .int .i64 a.ep, .int .i64 a.seq, .bool a.txn, .slice A1 a.rs.length c1]), (.agg #[.int .i64 b.pid, .int .i64 b.ep, .int .i64 b.seq, .bool b.txn, .slice A2 b.rs.length c2]), .int .i64 off] w fun e w' => e = .returned (.bool true) ∧ Below w.heap.size w w' := by
  cases n1 : greatBt a
  · cases n2 : greatBt b
    · exact rtell_ok a b A1 A2 c1 c2 off w hg h1 h2 n1 n2
    · exact rtell_big a b A1 A2 c1 c2 off w h1 h2 (.inr ⟨n1, n2⟩)
  · exact rtell_big a b A1 A2 c1 c2 off w h1 h2 (.inl n1)
end Go.Proofs.YtcockikekgmfkaaDoor
