/-
  Layer 8: the request's reader in memory; wrong, number.
  The statement RecordReads: its walk.
-/
import Derived.Test.YtcockikekgmfkaaGreatDoorGrp17
import Derived.Test.YtcockikekgmfkaaGreatDoorGrp19
import Derived.Test.YtcockikekgmfkaaGreatDoorGrp04
namespace Go.Proofs.YtcockikekgmfkaaGreatDoor
open Go.RowKit

/-- Go's remainder by one more than a length, brought into its range. -/
theorem at_in (x : Int) (n : Nat) : ∃ k : Nat, k ≤ n ∧ ∃ q : Int, x.tmod ((n : Int) + 1) = q ∧ -(n : Int) ≤ q ∧ q ≤ n ∧ (q + (n : Int) + 1) % ((n : Int) + 1) = (k : Int) := by
  have h1 := Int.tmod_lt_of_pos x (show (0 : Int) < (n : Int) + 1 by omega)
  have h2 := Int.lt_tmod_of_pos x (show (0 : Int) < (n : Int) + 1 by omega)
  refine ⟨((x.tmod ((n : Int) + 1) + (n : Int) + 1) % ((n : Int) + 1)).toNat, ?_, _, rfl, by omega, by omega, ?_⟩
  · have := Int.emod_lt_of_pos (x.tmod ((n : Int) + 1) + (n : Int) + 1) (show (0 : Int) < (n : Int) + 1 by omega)
    omega
  · have := Int.emod_nonneg (x.tmod ((n : Int) + 1) + (n : Int) + 1) (show ((n : Int) + 1) ≠ 0 by omega)
    omega

def RbP (b : Bat) (n : Int) (w : World) (e : Ending) (w' : World) : Prop :=
  ∃ A5 c5, e = .returned (.tuple #[(.agg #[.int .i64 b.pid, .int .i64 b.ep, .int .i64 b.seq, .bool b.txn, .slice A5 b.rs.length c5]), .int .i64 n]) ∧ w'.ownsRow w.heap.size 41 2 (.slice A5 b.rs.length c5) b.rs.length (cellsR b.rs) ∧ b.rs.length ≤ c5 ∧ Below w.heap.size w w'

def TkP (g : Nat) (s : ByteArray) (bt : Bat) (j : Nat) (bad : Bool) (w : World) (e : Ending) (w' : World) : Prop :=
  ∃ A5 c5, e = .returned (.agg #[.int .i64 bt.pid, .int .i64 bt.ep, .int .i64 bt.seq, .bool bt.txn, .slice A5 bt.rs.length c5]) ∧ w'.ownsRow w.heap.size 41 2 (.slice A5 bt.rs.length c5) bt.rs.length (cellsR bt.rs) ∧ bt.rs.length ≤ c5 ∧ RdB w' g s j bad ∧ Only (fun x => x = g) w w'
def TrP (g : Nat) (s : ByteArray) (bt : Bat) (j : Nat) (bad : Bool) (w : World) (e : Ending) (w' : World) : Prop :=
  ∃ A5 c5, e = .returned (.agg #[.int .i64 bt.pid, .int .i64 bt.ep, .int .i64 bt.seq, .bool bt.txn, .slice A5 bt.rs.length c5]) ∧ w'.ownsRow w.heap.size 41 2 (.slice A5 bt.rs.length c5) bt.rs.length (cellsR bt.rs) ∧ bt.rs.length ≤ c5 ∧ RdR w' g s j bad ∧ Only (fun x => x = g) w w'
theorem sameBt_self (b : Bat) : sameBt b b = true := (sameBt_iff b b).2 rfl

end Go.Proofs.YtcockikekgmfkaaGreatDoor
namespace Go.Proofs.YtcockikekgmfkaaGreatDoor
open Go.RowKit
attribute [local go_sem ↓] Go.wp_at_zero Go.wp_at_succ

/-- A request's reader, its cells. -/
def rqC (inp : Value) (q : Rq) (Ab : Option Addr) (cb : Nat) (o er : Value) : Array Value :=
  #[inp, .int .i8 q.kd, .int .i64 q.tid, .int .i64 q.tm, .int .i64 q.pid, .int .i64 q.ep, .int .i64 q.part, .int .i64 q.grp, .int .i64 q.off, .int .i64 q.most, .bool q.yes,
    .int .i64 q.b.pid, .int .i64 q.b.ep, .int .i64 q.b.seq, .bool q.b.txn, .slice Ab q.b.rs.length cb, o, er]
abbrev RqB (w : World) (g : Nat) (cs : Array Value) : Prop := Blk w g 58 cs
/-- An error of this layer, with its code. -/
def RqE (w : World) (n : Int) (v : Value) : Prop := ∃ b, v = .iface 69 (.pointer (some ⟨b, 0, none⟩)) ∧ w.cell? ⟨b, 1, none⟩ = some (.int .i64 n)
def WrongPost (g : Nat) (cs : Array Value) (n : Int) (w : World) (e : Ending) (w' : World) : Prop :=
  e = .returned (.tuple #[]) ∧ ∃ b, RqB w' g (cs.setIfInBounds 17 (.iface 69 (.pointer (some ⟨b, 0, none⟩)))) ∧ w'.cell? ⟨b, 1, none⟩ = some (.int .i64 n) ∧ b ≠ g ∧ Only (fun x => x = g) w w'

set_option maxRecDepth 100000 in
set_option maxHeartbeats 1000000 in
theorem wrong_any (g : Nat) (cs : Array Value) (nm : ByteArray) (n : Int) (w : World) (h : RqB w g cs) (h1 : cs[17]? = some .nilIface) :
    Calls Tryz.prog 68 #[.pointer (some ⟨g, 0, none⟩), .string nm, .int .i64 n] w (WrongPost g cs n w) := by
  have x1 := (h.cell 17).trans h1
  have x2 := h.frozen 17
  have H := Lib.hid h
  have hl := h.lt
  have k1 := (h.alloc (.cells #[.string nm, .int .i64 n] 71))
  have y1 := (k1.cell 17).trans h1
  have y2 := k1.frozen 17
  have K1 := Lib.hid k1
  have F1 := Lib.hid (blk_new w 71 #[.string nm, .int .i64 n] rfl)
  clear h k1
  go_enter Tryz.func68, Tryz.ntmps68
  go_wp2_with fail
  go_end0
  refine ⟨rfl, w.heap.size, (H.out.set_ 17 _).alloc _, ?_, by omega, ((Only.refl (fun x => x = g) w).set (.inl rfl) _).alloc _⟩
  exact (blk_new (w.setCell ⟨g, 17, none⟩ _) 71 #[.string nm, .int .i64 n] (by simp [World.setCell])).cell 1

/-- Behind a number that was written. -/
def NumW (g k K : Nat) (cs : Array Value) (L : List UInt8) (w : World) (e : Ending) (w' : World) : Prop :=
  e = .returned (.tuple #[]) ∧ ∃ A c, RqB w' g ((cs.setIfInBounds 16 (.slice A L.length c)).setIfInBounds k (.int .i64 0)) ∧ w'.ownsRow K 5 1 (.slice A L.length c) L.length (cellsB L) ∧ Only (fun x => x = g) w w'

set_option maxRecDepth 100000 in
set_option maxHeartbeats 1000000 in
theorem number_w (g k K : Nat) (cs : Array Value) (nm : ByteArray) (lo hi : Nat) (n : Nat) (l : List UInt8) (A : Option Addr) (c : Nat) (w : World) (h : RqB w g cs) (h0 : cs[0]? = some (.pointer none)) (hk : cs[k]? = some (.int .i64 (n : Int))) (hk1 : ¬ 16 = k)
    (h1 : cs[16]? = some (.slice A l.length c)) (ho : w.ownsRow K 5 1 (.slice A l.length c) l.length (cellsB l)) (hK : K ≤ w.heap.size) (hgK : g < K) (hl : l.length ≤ 80000) (hr : lo ≤ n ∧ n ≤ hi) (hhi : hi ≤ maxNum) :
    Calls Tryz.prog 74 #[.pointer (some ⟨g, 0, none⟩), .string nm, .pointer (some ⟨g, k, none⟩), .int .i64 (lo : Int), .int .i64 (hi : Int)] w (NumW g k K cs (l ++ enc n) w) := by
  have x0 := (h.cell 0).trans h0
  have xk := (h.cell k).trans hk
  have x6 := (h.cell 16).trans h1
  have d1 : decide ((n : Int) < (lo : Int)) = false := by simp; omega
  have d2 : decide ((hi : Int) < (n : Int)) = false := by simp; omega
  have d1' : decide (n < lo) = false := by simp; omega
  have d2' : decide (hi < n) = false := by simp; omega
  have N1 := Lib.hid (Number_own A l c n w.drew (Reads.of_own (ho.drew)) (by omega) (by omega))
  have H := Lib.hid h.drew
  have HK := Lib.hid hk
  have H1 := Lib.hid h1
  have hgl := h.lt
  have hk2 : ¬ k = 16 := fun e => hk1 e.symm
  generalize l ++ enc n = L at *
  clear h ho
  go_enter Tryz.func74, Tryz.ntmps74
  go_wp2_with fail
  go_region_held3 (fun W => W.cell? ⟨g, k, none⟩ = some (.int .i64 (n : Int)) ∧ W.cell? ⟨g, 16, none⟩ = some (.slice A l.length c))
    (first | exact ⟨xk, x6⟩ | (refine ⟨?_, ?_⟩; exact yk; exact y6))
    (first | (go_at_call 81; refine N1.out.mono ?_; rintro e w1 ⟨A1, c1, rfl, o1, hc1, b1⟩; have k1 := H.out.below b1 H.out.lt; have yk := (k1.cell k).trans HK.out; have y6 := (k1.cell 16).trans H1.out; have f6 := k1.frozen 16; have fk := k1.frozen k))
  go_wp2_with fail
  go_end0
  exact ⟨rfl, A1, c1, (k1.set_ 16 _).set_ k _, own_set (own_set (own_base o1 (by simpa using hK)) hgK _) hgK _, (((Only.refl (fun x => x = g) w).drew.then_below b1).set (.inl rfl) _).set (.inl rfl) _⟩

set_option maxRecDepth 100000 in
set_option maxHeartbeats 1000000 in
theorem number_x (g k : Nat) (cs : Array Value) (nm : ByteArray) (lo hi : Int) (n : Int) (w : World) (h : RqB w g cs) (h0 : cs[0]? = some (.pointer none)) (hk : cs[k]? = some (.int .i64 n)) (h7 : cs[17]? = some .nilIface) (hr : ¬ (lo ≤ n ∧ n ≤ hi)) :
    Calls Tryz.prog 74 #[.pointer (some ⟨g, 0, none⟩), .string nm, .pointer (some ⟨g, k, none⟩), .int .i64 lo, .int .i64 hi] w (WrongPost g cs 2 w) := by
  have x0 := (h.cell 0).trans h0
  have xk := (h.cell k).trans hk
  have WR := Lib.hid (wrong_any g cs nm 2 w h h7)
  have dd : decide (n < lo) = true ∨ (decide (n < lo) = false ∧ decide (hi < n) = true) := by
    by_cases h : n < lo
    · exact .inl (decide_eq_true h)
    · exact .inr ⟨decide_eq_false h, decide_eq_true (by omega)⟩
  clear h h0 hk h7 hr
  rcases dd with d1 | ⟨d1, d2⟩
  · go_enter Tryz.func74, Tryz.ntmps74
    go_wp2_with fail
    refine WR.out.mono ?_
    rintro e w1 ⟨rfl, hp⟩
    go_wp2_with fail
    go_end0
    exact ⟨rfl, hp⟩
  · go_enter Tryz.func74, Tryz.ntmps74
    go_wp2_with fail
    refine WR.out.mono ?_
    rintro e w1 ⟨rfl, hp⟩
    go_wp2_with fail
    go_end0
    exact ⟨rfl, hp⟩

/-- Behind a field that was read. -/
def FldR (B g gr k : Nat) (s : ByteArray) (cs : Array Value) (v : Value) (j : Nat) (b : Bool) (w : World) (e : Ending) (w' : World) : Prop :=
  e = .returned (.tuple #[]) ∧ RqB w' g (cs.setIfInBounds k v) ∧ RdOk B w' gr s j b ∧ Only (fun x => x = g ∨ x = gr) w w'

set_option maxRecDepth 100000 in
set_option maxHeartbeats 1000000 in
theorem number_r (B g gr k : Nat) (s : ByteArray) (cs : Array Value) (nm : ByteArray) (lo hi : Int) (i j : Nat) (b b' : Bool) (v n : Int) (w : World) (h : RqB w g cs) (h0 : cs[0]? = some (.pointer (some ⟨gr, 0, none⟩))) (hk : cs[k]? = some (.int .i64 n)) (hrd : RdOk B w gr s i b) (hgB : B ≤ g)
    (hz : rdNum (lb s) i b lo hi = (v, j, b')) :
    Calls Tryz.prog 74 #[.pointer (some ⟨g, 0, none⟩), .string nm, .pointer (some ⟨g, k, none⟩), .int .i64 lo, .int .i64 hi] w (FldR B g gr k s cs (.int .i64 v) j b' w) := by
  have x0 := (h.cell 0).trans h0
  have N1 := Lib.hid (RNum_z hz hrd)
  have H := Lib.hid h
  have HK := Lib.hid hk
  have hne : ¬ g = gr := by have := hrd.2.2.2.2.1; omega
  have HB := Lib.hid hgB
  clear h h0 hk hrd hz hgB
  go_enter Tryz.func74, Tryz.ntmps74
  go_wp2_with fail
  refine N1.out.mono ?_
  rintro e w1 ⟨rfl, r1, o1⟩
  have k1 := o1.blk H.out hne
  have yk := (k1.cell k).trans HK.out
  have fk := k1.frozen k
  have K1 := Lib.hid k1
  have R1 := Lib.hid r1
  have O1 := Lib.hid o1
  clear k1 r1 o1
  go_wp2_with fail
  go_end0
  exact ⟨rfl, K1.out.set_ k _, R1.out.set HB.out _, (O1.out.mono (fun x _ hx => .inr hx)).set (.inl (.inl rfl)) _⟩
end Go.Proofs.YtcockikekgmfkaaGreatDoor
