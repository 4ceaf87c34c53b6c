/-
  The card of ReplyBack is proved: for every input the call returns true, and each argument reads as before. No condition but the row's own list, which the card ties to the program's text.
  Layer 9: what is alike, plainly; a reply whose offsets are moved.
  The statement ReplyBack: its walk.
-/
import Derived.Test.YtckdecodpjfcnaaDoorGrp16
import Derived.Test.YtckdecodpjfcnaaDoorGrp22
import Derived.Test.YtckdecodpjfcnaaDoorGrp23
set_option linter.unusedVariables false
set_option linter.unusedSimpArgs false
namespace Go.Proofs.YtckdecodpjfcnaaDoor
open Go.RowKit

theorem alikeW_iff (a b : Rw) : alikeW a b = true ↔ (a.1 = -1 ↔ b.1 = -1) ∧ a.2 = b.2 := by
  unfold alikeW
  rw [Bool.and_eq_true, decide_eq_true_eq, beq_iff_eq, Bool.eq_iff_iff, beq_iff_eq, beq_iff_eq]
theorem alikeW_refl (a : Rw) : alikeW a a = true := (alikeW_iff a a).2 ⟨Iff.rfl, rfl⟩
theorem alikeW_symm (a b : Rw) : alikeW a b = alikeW b a := by
  rw [Bool.eq_iff_iff, alikeW_iff, alikeW_iff]
  exact ⟨fun h => ⟨h.1.symm, h.2.symm⟩, fun h => ⟨h.1.symm, h.2.symm⟩⟩
theorem alikeW_trans {a b c : Rw} (h : alikeW a b = true) (k : alikeW b c = true) : alikeW a c = true := by
  rw [alikeW_iff] at *
  exact ⟨h.1.trans k.1, h.2.trans k.2⟩
theorem alikeL_refl : ∀ l : List Rw, alikeL l l = true
  | [] => rfl
  | a :: l => by rw [alikeL, alikeW_refl, alikeL_refl l]; rfl
theorem alikeL_symm : ∀ l m : List Rw, alikeL l m = alikeL m l
  | [], [] => rfl
  | a :: l, b :: m => by rw [alikeL, alikeL, alikeW_symm, alikeL_symm l m]
  | [], _ :: _ => rfl
  | _ :: _, [] => rfl
theorem alikeL_trans : ∀ {l m n : List Rw}, alikeL l m = true → alikeL m n = true → alikeL l n = true
  | [], [], [], _, _ => rfl
  | a :: l, b :: m, c :: n, h, k => by
    rw [alikeL, Bool.and_eq_true] at *
    exact ⟨alikeW_trans h.1 k.1, alikeL_trans h.2 k.2⟩
  | [], _ :: _, _, h, _ => by cases h
  | _ :: _, [], _, h, _ => by cases h
  | _, [], _ :: _, _, k => by cases k
  | _, _ :: _, [], _, k => by cases k

theorem alikeRp_iff (a b : Rp) : alikeRp a b = true ↔ a.kd = b.kd ∧ a.er = b.er ∧ a.pid = b.pid ∧ a.ep = b.ep ∧ (a.off = -1 ↔ b.off = -1) ∧ alikeL a.rows b.rows = true := by
  unfold alikeRp
  rw [Bool.and_eq_true, Bool.and_eq_true, Bool.and_eq_true, Bool.and_eq_true, Bool.and_eq_true, beq_iff_eq, beq_iff_eq, beq_iff_eq, beq_iff_eq, beq_iff_eq, Bool.eq_iff_iff, beq_iff_eq, beq_iff_eq]
theorem alikeRp_refl (a : Rp) : alikeRp a a = true := (alikeRp_iff a a).2 ⟨rfl, rfl, rfl, rfl, Iff.rfl, alikeL_refl _⟩
theorem alikeRp_symm (a b : Rp) : alikeRp a b = alikeRp b a := by
  rw [Bool.eq_iff_iff, alikeRp_iff, alikeRp_iff, alikeL_symm a.rows b.rows]
  exact ⟨fun ⟨h1, h2, h3, h4, h5, h6⟩ => ⟨h1.symm, h2.symm, h3.symm, h4.symm, h5.symm, h6⟩, fun ⟨h1, h2, h3, h4, h5, h6⟩ => ⟨h1.symm, h2.symm, h3.symm, h4.symm, h5.symm, h6⟩⟩
theorem alikeRp_trans {a b c : Rp} (h : alikeRp a b = true) (k : alikeRp b c = true) : alikeRp a c = true := by
  rw [alikeRp_iff] at *
  obtain ⟨h1, h2, h3, h4, h5, h6⟩ := h
  obtain ⟨k1, k2, k3, k4, k5, k6⟩ := k
  exact ⟨h1.trans k1, h2.trans k2, h3.trans k3, h4.trans k4, h5.trans k5, alikeL_trans h6 k6⟩
theorem alikeRp_same {a b : Rp} (h : sameRp a b = true) : alikeRp a b = true := by
  obtain rfl := (sameRp_iff a b).1 h
  exact alikeRp_refl a

/-- An offset that is told, moved. -/
def mvO (d x : Int) : Int := if 0 ≤ x then x + d else x
def mvW (d : Int) (r : Rw) : Rw := (mvO d r.1, r.2)
def mvRp (d : Int) (q : Rp) : Rp := { q with off := mvO d q.off, rows := q.rows.map (mvW d) }
theorem mvO_m1 {d x : Int} (hd : 0 ≤ d) : (x = -1 ↔ mvO d x = -1) := by
  unfold mvO
  split <;> omega
theorem alikeL_mv {d : Int} (hd : 0 ≤ d) : ∀ l : List Rw, alikeL l (l.map (mvW d)) = true
  | [] => rfl
  | a :: l => by
    rw [List.map_cons, alikeL, alikeL_mv hd l, Bool.and_true]
    exact (alikeW_iff _ _).2 ⟨mvO_m1 hd, rfl⟩
theorem alikeRp_mv {d : Int} (hd : 0 ≤ d) (q : Rp) : alikeRp q (mvRp d q) = true :=
  (alikeRp_iff _ _).2 ⟨rfl, rfl, rfl, rfl, mvO_m1 hd, alikeL_mv hd q.rows⟩
/-- What may be has no great offsets. -/
theorem may_off {q : Rp} (h : mayB q = true) : (-1 ≤ q.off ∧ q.off ≤ 1048576) ∧ q.rows.length ≤ 64 ∧ ∀ r ∈ q.rows, -1 ≤ r.1 ∧ r.1 ≤ 1048576 := by
  have hv : (cB q.er q.kd).v (q.pid, q.ep, q.off, q.rows) := ((mayB_iff q).1 h).2.2.2
  have hnil : q.rows.length = 0 → ∀ r ∈ q.rows, -1 ≤ r.1 ∧ r.1 ≤ 1048576 := fun h0 r hr => by
    rw [List.length_eq_zero_iff.1 h0] at hr
    cases hr
  unfold cB at hv
  split at hv
  · rw [cB_v0] at hv
    obtain ⟨_, _, h3, h4⟩ := hv
    simp only at h3 h4
    exact ⟨by omega, by omega, hnil h4⟩
  split at hv
  · rw [cB_vp] at hv
    obtain ⟨_, _, h3, h4⟩ := hv
    simp only at h3 h4
    exact ⟨by omega, by omega, hnil h4⟩
  split at hv
  · rw [cB_vpe] at hv
    obtain ⟨_, _, h3, h4⟩ := hv
    simp only at h3 h4
    exact ⟨by omega, by omega, hnil h4⟩
  split at hv
  · rw [cB_vf] at hv
    obtain ⟨_, _, h3, h4, h5⟩ := hv
    simp only at h3 h4 h5
    refine ⟨by omega, h4, fun r hr => ?_⟩
    have := List.all_eq_true.1 h5 r hr
    unfold vis at this
    simp only [Bool.and_eq_true, decide_eq_true_eq] at this
    omega
  split at hv
  · rw [cB_vo] at hv
    obtain ⟨_, _, h3, h4⟩ := hv
    simp only at h3 h4
    exact ⟨by omega, by omega, hnil h4⟩
  · rw [cB_v0] at hv
    obtain ⟨_, _, h3, h4⟩ := hv
    simp only at h3 h4
    exact ⟨by omega, by omega, hnil h4⟩
end Go.Proofs.YtckdecodpjfcnaaDoor
namespace Go.Proofs.YtckdecodpjfcnaaDoor
open Go.RowKit

def RBack (w : World) (e : Ending) (w' : World) : Prop := e = .returned (.bool true) ∧ Below w.heap.size w w'
set_option maxRecDepth 100000 in
set_option maxHeartbeats 8000000 in
theorem rpback_great (a : Rp) (l : List UInt8) (A1 A2 : Option Addr) (c1 c2 : Nat) (w : World) (hg : HasET w) (hr : Reads w w.heap.size 5 A1 a.rows.length (cellsW a.rows)) (hb : Reads w w.heap.size 1 A2 l.length (cellsB l)) (hgr : greatRp a = true) :
    Calls Tryd.prog 3 #[(.agg #[.int .i8 a.kd, .int .i64 a.er, .int .i64 a.pid, .int .i64 a.ep, .int .i64 a.off, .slice A1 a.rows.length c1]), .slice A2 l.length c2] w (RBack w) := by
  have HB := Lib.hid (bal (Below.refl w.heap.size w) (.cells #[.int .i8 a.kd, .int .i64 a.er, .int .i64 a.pid, .int .i64 a.ep, .int .i64 a.off, .slice A1 a.rows.length c1] 26))
  have KA := Lib.hid (Blk.new w 26 #[.int .i8 a.kd, .int .i64 a.er, .int .i64 a.pid, .int .i64 a.ep, .int .i64 a.off, .slice A1 a.rows.length c1])
  have G := Lib.hid (RpGreat_any a A1 c1 (w.alloc (.cells #[.int .i8 a.kd, .int .i64 a.er, .int .i64 a.pid, .int .i64 a.ep, .int .i64 a.off, .slice A1 a.rows.length c1] 26)) ((hr.alloc (Nat.le_refl _) _).more (by simp)))
  have WK := Lib.hid (fun W (h : Below w.heap.size w W) => wakes09 W (hg.up h))
  rw [hgr] at G
  clear hr hg hb hgr
  go_enter Tryd.func3, Tryd.ntmps3
  go_wp2_with fail
  refine G.out.mono ?_
  rintro e w1 ⟨rfl, b1⟩
  go_wp2_with fail
  refine (WK.out _ (btrans HB.out b1)).mono ?_
  rintro e w2 ⟨rfl, b2⟩
  go_wp2_with fail
  go_ret
  exact ⟨rfl, btrans (btrans HB.out b1) b2⟩
set_option maxRecDepth 100000 in
set_option maxHeartbeats 8000000 in
theorem rpback_long (a : Rp) (l : List UInt8) (A1 A2 : Option Addr) (c1 c2 : Nat) (w : World) (hg : HasET w) (hr : Reads w w.heap.size 5 A1 a.rows.length (cellsW a.rows)) (hb : Reads w w.heap.size 1 A2 l.length (cellsB l)) (hgr : greatRp a = false) (hl : 4000 < l.length) :
    Calls Tryd.prog 3 #[(.agg #[.int .i8 a.kd, .int .i64 a.er, .int .i64 a.pid, .int .i64 a.ep, .int .i64 a.off, .slice A1 a.rows.length c1]), .slice A2 l.length c2] w (RBack w) := by
  have HB := Lib.hid (bal (Below.refl w.heap.size w) (.cells #[.int .i8 a.kd, .int .i64 a.er, .int .i64 a.pid, .int .i64 a.ep, .int .i64 a.off, .slice A1 a.rows.length c1] 26))
  have KA := Lib.hid (Blk.new w 26 #[.int .i8 a.kd, .int .i64 a.er, .int .i64 a.pid, .int .i64 a.ep, .int .i64 a.off, .slice A1 a.rows.length c1])
  have G := Lib.hid (RpGreat_any a A1 c1 (w.alloc (.cells #[.int .i8 a.kd, .int .i64 a.er, .int .i64 a.pid, .int .i64 a.ep, .int .i64 a.off, .slice A1 a.rows.length c1] 26)) ((hr.alloc (Nat.le_refl _) _).more (by simp)))
  have WK := Lib.hid (fun W (h : Below w.heap.size w W) => wakes09 W (hg.up h))
  rw [hgr] at G
  have d1 : decide ((4000 : Int) < (l.length : Int)) = true := by simp; omega
  clear hr hg hb hgr hl
  go_enter Tryd.func3, Tryd.ntmps3
  go_wp2_with fail
  refine G.out.mono ?_
  rintro e w1 ⟨rfl, b1⟩
  go_wp2_with fail
  refine (WK.out _ (btrans HB.out b1)).mono ?_
  rintro e w2 ⟨rfl, b2⟩
  go_wp2_with fail
  go_ret
  exact ⟨rfl, btrans (btrans HB.out b1) b2⟩
set_option maxRecDepth 100000 in
set_option maxHeartbeats 8000000 in
theorem rpback_ok11 (a : Rp) (l : List UInt8) (A1 A2 : Option Addr) (c1 c2 : Nat) (w : World) (hg : HasET w) (hr : Reads w w.heap.size 5 A1 a.rows.length (cellsW a.rows)) (hb : Reads w w.heap.size 1 A2 l.length (cellsB l)) (hgr : greatRp a = false) (hl : l.length ≤ 4000) (hm : mayB a = true) (q : Rp) (hq : readRp l = (q, 0)) (hv : mayB q = true) (hlq : l = cRp.e q) :
    Calls Tryd.prog 3 #[(.agg #[.int .i8 a.kd, .int .i64 a.er, .int .i64 a.pid, .int .i64 a.ep, .int .i64 a.off, .slice A1 a.rows.length c1]), .slice A2 l.length c2] w (RBack w) := by
  have HB := Lib.hid (bal (Below.refl w.heap.size w) (.cells #[.int .i8 a.kd, .int .i64 a.er, .int .i64 a.pid, .int .i64 a.ep, .int .i64 a.off, .slice A1 a.rows.length c1] 26))
  have KA := Lib.hid (Blk.new w 26 #[.int .i8 a.kd, .int .i64 a.er, .int .i64 a.pid, .int .i64 a.ep, .int .i64 a.off, .slice A1 a.rows.length c1])
  have G := Lib.hid (RpGreat_any a A1 c1 (w.alloc (.cells #[.int .i8 a.kd, .int .i64 a.er, .int .i64 a.pid, .int .i64 a.ep, .int .i64 a.off, .slice A1 a.rows.length c1] 26)) ((hr.alloc (Nat.le_refl _) _).more (by simp)))
  have WK := Lib.hid (fun W (h : Below w.heap.size w W) => wakes09 W (hg.up h))
  rw [hgr] at G
  have hl1 : a.rows.length ≤ 1000000 := by have := (not_greatRp hgr).1; omega
  have d1 : decide ((4000 : Int) < (l.length : Int)) = false := by simp; omega
  have HR := Lib.hid hr
  have HBB := Lib.hid hb
  have RD := Lib.hid (fun W (h : Below w.heap.size w W) => by
    have := rpRead_any A2 l c2 W ((hb.below h).more h.size) (by omega) (hg.up h)
    rw [hq] at this
    exact this)
  have BY := Lib.hid (fun W (h : Below w.heap.size w W) => RpBytes_ok a A1 c1 W ((HR.out.below h).more h.size) hl1 hm)
  have RX := Lib.hid (fun W A c (h : Below w.heap.size w W) (hx : Reads W W.heap.size 1 A (cRp.e a).length (cellsB (cRp.e a))) => by
    have := rpRead_any A (cRp.e a) c W hx (by have := encRp_len a hm; omega) (hg.up h)
    rw [readRp_ok ((mayB_iff a).1 hm)] at this
    exact this)
  have SM := Lib.hid (fun W A5 c5 (h : Below w.heap.size w W) (h5 : Reads W W.heap.size 5 A5 a.rows.length (cellsW a.rows)) => RpSame_any a a A1 A5 c1 c5 W ((HR.out.below h).more h.size) h5 hl1)
  rw [(sameRp_iff a a).2 rfl] at SM
  have MY := Lib.hid (fun W (h : Below w.heap.size w W) => RpMay_any a A1 c1 W ((HR.out.below h).more h.size) hl1)
  rw [hm] at MY
  generalize cRp.e a = L at *
  have hq1 : q.rows.length ≤ 1000000 := by have := (may_off hv).2.1; omega
  have BQ := Lib.hid (fun W A c (h : Reads W W.heap.size 5 A q.rows.length (cellsW q.rows)) => RpBytes_ok q A c W h hq1 hv)
  have MQ := Lib.hid (fun W A c (h : Reads W W.heap.size 5 A q.rows.length (cellsW q.rows)) => RpMay_any q A c W h hq1)
  rw [hv] at MQ
  rw [← hlq] at BQ
  clear hlq hv hq1
  clear hr hg hb hgr hl hm hq hl1
  go_enter Tryd.func3, Tryd.ntmps3
  go_wp2_with fail
  refine G.out.mono ?_
  rintro e w1 ⟨rfl, b1⟩
  have K1 := Lib.hid (KA.out.below b1 (by simp))
  have B1 := Lib.hid (btrans HB.out b1)
  clear b1
  have x0 := K1.out.cell 0
  have x1 := K1.out.cell 1
  have x2 := K1.out.cell 2
  have x3 := K1.out.cell 3
  have x4 := K1.out.cell 4
  have x5 := K1.out.cell 5
  go_wp2_with fail
  refine (BY.out _ B1.out).mono ?_
  rintro e w2 ⟨A7, c7, rfl, r7, b2⟩
  have K2 := Lib.hid (K1.out.below b2 K1.out.lt)
  have B2 := Lib.hid (btrans B1.out b2)
  have R7 := Lib.hid r7
  clear b2 r7 x0 x1 x2 x3 x4 x5
  go_wp2_with fail
  refine (RX.out _ A7 c7 B2.out R7.out).mono ?_
  rintro e w3 ⟨A5, c5, rfl, o5, b3⟩
  have K3 := Lib.hid ((K2.out.below b3 K2.out.lt).alloc (.cells #[.int .i8 a.kd, .int .i64 a.er, .int .i64 a.pid, .int .i64 a.ep, .int .i64 a.off, .slice A5 a.rows.length c5] 26))
  have KY := Lib.hid (Blk.new w3 26 #[.int .i8 a.kd, .int .i64 a.er, .int .i64 a.pid, .int .i64 a.ep, .int .i64 a.off, .slice A5 a.rows.length c5])
  have B3 := Lib.hid (bal (btrans B2.out b3) (.cells #[.int .i8 a.kd, .int .i64 a.er, .int .i64 a.pid, .int .i64 a.ep, .int .i64 a.off, .slice A5 a.rows.length c5] 26))
  have R5 := Lib.hid (((Reads.of_own o5).more (Nat.le_refl _)).alloc (Nat.le_refl _) (.cells #[.int .i8 a.kd, .int .i64 a.er, .int .i64 a.pid, .int .i64 a.ep, .int .i64 a.off, .slice A5 a.rows.length c5] 26))
  clear b3 o5
  have x0 := K3.out.cell 0
  have x1 := K3.out.cell 1
  have x2 := K3.out.cell 2
  have x3 := K3.out.cell 3
  have x4 := K3.out.cell 4
  have x5 := K3.out.cell 5
  have y0 := KY.out.cell 0
  have y1 := KY.out.cell 1
  have y2 := KY.out.cell 2
  have y3 := KY.out.cell 3
  have y4 := KY.out.cell 4
  have y5 := KY.out.cell 5
  go_wp2_with fail
  refine (SM.out _ A5 c5 B3.out (R5.out.more (by simp))).mono ?_
  rintro e w4 ⟨rfl, b4⟩
  have K4 := Lib.hid (K3.out.below b4 K3.out.lt)
  have B4 := Lib.hid (btrans B3.out b4)
  clear b4 x0 x1 x2 x3 x4 x5 y0 y1 y2 y3 y4 y5
  have x0 := K4.out.cell 0
  have x1 := K4.out.cell 1
  have x2 := K4.out.cell 2
  have x3 := K4.out.cell 3
  have x4 := K4.out.cell 4
  have x5 := K4.out.cell 5
  go_wp2_with fail
  refine (MY.out _ B4.out).mono ?_
  rintro e w5 ⟨rfl, b5⟩
  have B5 := Lib.hid (btrans B4.out b5)
  clear b5 x0 x1 x2 x3 x4 x5
  go_wp2_with fail
  refine (RD.out _ B5.out).mono ?_
  rintro e w6 ⟨A6, c6, rfl, o6, b6⟩
  have B6 := Lib.hid (bal (btrans B5.out b6) (.cells #[.int .i8 q.kd, .int .i64 q.er, .int .i64 q.pid, .int .i64 q.ep, .int .i64 q.off, .slice A6 q.rows.length c6] 26))
  have KZ := Lib.hid (Blk.new w6 26 #[.int .i8 q.kd, .int .i64 q.er, .int .i64 q.pid, .int .i64 q.ep, .int .i64 q.off, .slice A6 q.rows.length c6])
  have R6 := Lib.hid ((Reads.of_own o6).alloc (Nat.le_refl _) (.cells #[.int .i8 q.kd, .int .i64 q.er, .int .i64 q.pid, .int .i64 q.ep, .int .i64 q.off, .slice A6 q.rows.length c6] 26))
  clear b6 o6
  have x0 := KZ.out.cell 0
  have x1 := KZ.out.cell 1
  have x2 := KZ.out.cell 2
  have x3 := KZ.out.cell 3
  have x4 := KZ.out.cell 4
  have x5 := KZ.out.cell 5
  go_wp2_with fail
  refine (BQ.out _ A6 c6 (R6.out.more (by simp))).mono ?_
  rintro e w7 ⟨A8, c8, rfl, r8, b7⟩
  have KZ7 := Lib.hid (KZ.out.below b7 KZ.out.lt)
  have B7 := Lib.hid (btrans B6.out b7)
  have t1 := run_string_of (P := Tryd.prog) (src := 27) (dst := 9) (c := c8) Tryd.underlying27 Tryd.underlying5 Tryd.underlying9 r8
  have t2 := run_string_of (P := Tryd.prog) (src := 27) (dst := 9) (c := c2) Tryd.underlying27 Tryd.underlying5 Tryd.underlying9 (HBB.out.below B7.out)
  have R67 := Lib.hid ((R6.out.more (by simp)).below b7)
  have hs7 := b7.size
  clear b7 r8 x0 x1 x2 x3 x4 x5
  have x0 := KZ7.out.cell 0
  have x1 := KZ7.out.cell 1
  have x2 := KZ7.out.cell 2
  have x3 := KZ7.out.cell 3
  have x4 := KZ7.out.cell 4
  have x5 := KZ7.out.cell 5
  go_wp2_with fail
  refine (MQ.out _ A6 c6 (R67.out.more hs7)).mono ?_
  rintro e w8 ⟨rfl, b8⟩
  have B8 := Lib.hid (btrans B7.out b8)
  clear b8 t1 t2 x0 x1 x2 x3 x4 x5
  go_wp2_with fail
  refine (WK.out _ B8.out).mono ?_
  rintro e w9 ⟨rfl, b9⟩
  go_wp2_with fail
  go_ret
  exact ⟨rfl, btrans B8.out b9⟩
set_option maxRecDepth 100000 in
set_option maxHeartbeats 8000000 in
theorem rpback_ok10 (a : Rp) (l : List UInt8) (A1 A2 : Option Addr) (c1 c2 : Nat) (w : World) (hg : HasET w) (hr : Reads w w.heap.size 5 A1 a.rows.length (cellsW a.rows)) (hb : Reads w w.heap.size 1 A2 l.length (cellsB l)) (hgr : greatRp a = false) (hl : l.length ≤ 4000) (hm : mayB a = true) (hq : readRp l = (Rp0, 70)) :
    Calls Tryd.prog 3 #[(.agg #[.int .i8 a.kd, .int .i64 a.er, .int .i64 a.pid, .int .i64 a.ep, .int .i64 a.off, .slice A1 a.rows.length c1]), .slice A2 l.length c2] w (RBack w) := by
  have HB := Lib.hid (bal (Below.refl w.heap.size w) (.cells #[.int .i8 a.kd, .int .i64 a.er, .int .i64 a.pid, .int .i64 a.ep, .int .i64 a.off, .slice A1 a.rows.length c1] 26))
  have KA := Lib.hid (Blk.new w 26 #[.int .i8 a.kd, .int .i64 a.er, .int .i64 a.pid, .int .i64 a.ep, .int .i64 a.off, .slice A1 a.rows.length c1])
  have G := Lib.hid (RpGreat_any a A1 c1 (w.alloc (.cells #[.int .i8 a.kd, .int .i64 a.er, .int .i64 a.pid, .int .i64 a.ep, .int .i64 a.off, .slice A1 a.rows.length c1] 26)) ((hr.alloc (Nat.le_refl _) _).more (by simp)))
  have WK := Lib.hid (fun W (h : Below w.heap.size w W) => wakes09 W (hg.up h))
  rw [hgr] at G
  have hl1 : a.rows.length ≤ 1000000 := by have := (not_greatRp hgr).1; omega
  have d1 : decide ((4000 : Int) < (l.length : Int)) = false := by simp; omega
  have HR := Lib.hid hr
  have HBB := Lib.hid hb
  have RD := Lib.hid (fun W (h : Below w.heap.size w W) => by
    have := rpRead_any A2 l c2 W ((hb.below h).more h.size) (by omega) (hg.up h)
    rw [hq] at this
    exact this)
  have BY := Lib.hid (fun W (h : Below w.heap.size w W) => RpBytes_ok a A1 c1 W ((HR.out.below h).more h.size) hl1 hm)
  have RX := Lib.hid (fun W A c (h : Below w.heap.size w W) (hx : Reads W W.heap.size 1 A (cRp.e a).length (cellsB (cRp.e a))) => by
    have := rpRead_any A (cRp.e a) c W hx (by have := encRp_len a hm; omega) (hg.up h)
    rw [readRp_ok ((mayB_iff a).1 hm)] at this
    exact this)
  have SM := Lib.hid (fun W A5 c5 (h : Below w.heap.size w W) (h5 : Reads W W.heap.size 5 A5 a.rows.length (cellsW a.rows)) => RpSame_any a a A1 A5 c1 c5 W ((HR.out.below h).more h.size) h5 hl1)
  rw [(sameRp_iff a a).2 rfl] at SM
  have MY := Lib.hid (fun W (h : Below w.heap.size w W) => RpMay_any a A1 c1 W ((HR.out.below h).more h.size) hl1)
  rw [hm] at MY
  generalize cRp.e a = L at *
  clear hr hg hb hgr hl hm hq hl1
  go_enter Tryd.func3, Tryd.ntmps3
  go_wp2_with fail
  refine G.out.mono ?_
  rintro e w1 ⟨rfl, b1⟩
  have K1 := Lib.hid (KA.out.below b1 (by simp))
  have B1 := Lib.hid (btrans HB.out b1)
  clear b1
  have x0 := K1.out.cell 0
  have x1 := K1.out.cell 1
  have x2 := K1.out.cell 2
  have x3 := K1.out.cell 3
  have x4 := K1.out.cell 4
  have x5 := K1.out.cell 5
  go_wp2_with fail
  refine (BY.out _ B1.out).mono ?_
  rintro e w2 ⟨A7, c7, rfl, r7, b2⟩
  have K2 := Lib.hid (K1.out.below b2 K1.out.lt)
  have B2 := Lib.hid (btrans B1.out b2)
  have R7 := Lib.hid r7
  clear b2 r7 x0 x1 x2 x3 x4 x5
  go_wp2_with fail
  refine (RX.out _ A7 c7 B2.out R7.out).mono ?_
  rintro e w3 ⟨A5, c5, rfl, o5, b3⟩
  have K3 := Lib.hid ((K2.out.below b3 K2.out.lt).alloc (.cells #[.int .i8 a.kd, .int .i64 a.er, .int .i64 a.pid, .int .i64 a.ep, .int .i64 a.off, .slice A5 a.rows.length c5] 26))
  have KY := Lib.hid (Blk.new w3 26 #[.int .i8 a.kd, .int .i64 a.er, .int .i64 a.pid, .int .i64 a.ep, .int .i64 a.off, .slice A5 a.rows.length c5])
  have B3 := Lib.hid (bal (btrans B2.out b3) (.cells #[.int .i8 a.kd, .int .i64 a.er, .int .i64 a.pid, .int .i64 a.ep, .int .i64 a.off, .slice A5 a.rows.length c5] 26))
  have R5 := Lib.hid (((Reads.of_own o5).more (Nat.le_refl _)).alloc (Nat.le_refl _) (.cells #[.int .i8 a.kd, .int .i64 a.er, .int .i64 a.pid, .int .i64 a.ep, .int .i64 a.off, .slice A5 a.rows.length c5] 26))
  clear b3 o5
  have x0 := K3.out.cell 0
  have x1 := K3.out.cell 1
  have x2 := K3.out.cell 2
  have x3 := K3.out.cell 3
  have x4 := K3.out.cell 4
  have x5 := K3.out.cell 5
  have y0 := KY.out.cell 0
  have y1 := KY.out.cell 1
  have y2 := KY.out.cell 2
  have y3 := KY.out.cell 3
  have y4 := KY.out.cell 4
  have y5 := KY.out.cell 5
  go_wp2_with fail
  refine (SM.out _ A5 c5 B3.out (R5.out.more (by simp))).mono ?_
  rintro e w4 ⟨rfl, b4⟩
  have K4 := Lib.hid (K3.out.below b4 K3.out.lt)
  have B4 := Lib.hid (btrans B3.out b4)
  clear b4 x0 x1 x2 x3 x4 x5 y0 y1 y2 y3 y4 y5
  have x0 := K4.out.cell 0
  have x1 := K4.out.cell 1
  have x2 := K4.out.cell 2
  have x3 := K4.out.cell 3
  have x4 := K4.out.cell 4
  have x5 := K4.out.cell 5
  go_wp2_with fail
  refine (MY.out _ B4.out).mono ?_
  rintro e w5 ⟨rfl, b5⟩
  have B5 := Lib.hid (btrans B4.out b5)
  clear b5 x0 x1 x2 x3 x4 x5
  go_wp2_with fail
  refine (RD.out _ B5.out).mono ?_
  rintro e w6 ⟨A6, c6, rfl, o6, b6⟩
  have B6 := Lib.hid (bal (btrans B5.out b6) (.cells #[.int .i8 Rp0.kd, .int .i64 Rp0.er, .int .i64 Rp0.pid, .int .i64 Rp0.ep, .int .i64 Rp0.off, .slice A6 Rp0.rows.length c6] 26))
  clear b6 o6
  go_wp2_with fail
  refine (WK.out _ B6.out).mono ?_
  rintro e w9 ⟨rfl, b9⟩
  go_wp2_with fail
  go_ret
  exact ⟨rfl, btrans B6.out b9⟩
set_option maxRecDepth 100000 in
set_option maxHeartbeats 8000000 in
theorem rpback_ok01 (a : Rp) (l : List UInt8) (A1 A2 : Option Addr) (c1 c2 : Nat) (w : World) (hg : HasET w) (hr : Reads w w.heap.size 5 A1 a.rows.length (cellsW a.rows)) (hb : Reads w w.heap.size 1 A2 l.length (cellsB l)) (hgr : greatRp a = false) (hl : l.length ≤ 4000) (hm : mayB a = false) (q : Rp) (hq : readRp l = (q, 0)) (hv : mayB q = true) (hlq : l = cRp.e q) :
    Calls Tryd.prog 3 #[(.agg #[.int .i8 a.kd, .int .i64 a.er, .int .i64 a.pid, .int .i64 a.ep, .int .i64 a.off, .slice A1 a.rows.length c1]), .slice A2 l.length c2] w (RBack w) := by
  have HB := Lib.hid (bal (Below.refl w.heap.size w) (.cells #[.int .i8 a.kd, .int .i64 a.er, .int .i64 a.pid, .int .i64 a.ep, .int .i64 a.off, .slice A1 a.rows.length c1] 26))
  have KA := Lib.hid (Blk.new w 26 #[.int .i8 a.kd, .int .i64 a.er, .int .i64 a.pid, .int .i64 a.ep, .int .i64 a.off, .slice A1 a.rows.length c1])
  have G := Lib.hid (RpGreat_any a A1 c1 (w.alloc (.cells #[.int .i8 a.kd, .int .i64 a.er, .int .i64 a.pid, .int .i64 a.ep, .int .i64 a.off, .slice A1 a.rows.length c1] 26)) ((hr.alloc (Nat.le_refl _) _).more (by simp)))
  have WK := Lib.hid (fun W (h : Below w.heap.size w W) => wakes09 W (hg.up h))
  rw [hgr] at G
  have hl1 : a.rows.length ≤ 1000000 := by have := (not_greatRp hgr).1; omega
  have d1 : decide ((4000 : Int) < (l.length : Int)) = false := by simp; omega
  have HR := Lib.hid hr
  have HBB := Lib.hid hb
  have RD := Lib.hid (fun W (h : Below w.heap.size w W) => by
    have := rpRead_any A2 l c2 W ((hb.below h).more h.size) (by omega) (hg.up h)
    rw [hq] at this
    exact this)
  have BY := Lib.hid (fun W (h : Below w.heap.size w W) => RpBytes_no a A1 c1 W ((HR.out.below h).more h.size) hl1 hm)
  have hq1 : q.rows.length ≤ 1000000 := by have := (may_off hv).2.1; omega
  have BQ := Lib.hid (fun W A c (h : Reads W W.heap.size 5 A q.rows.length (cellsW q.rows)) => RpBytes_ok q A c W h hq1 hv)
  have MQ := Lib.hid (fun W A c (h : Reads W W.heap.size 5 A q.rows.length (cellsW q.rows)) => RpMay_any q A c W h hq1)
  rw [hv] at MQ
  rw [← hlq] at BQ
  clear hlq hv hq1
  clear hr hg hb hgr hl hm hq hl1
  go_enter Tryd.func3, Tryd.ntmps3
  go_wp2_with fail
  refine G.out.mono ?_
  rintro e w1 ⟨rfl, b1⟩
  have K1 := Lib.hid (KA.out.below b1 (by simp))
  have B1 := Lib.hid (btrans HB.out b1)
  clear b1
  have x0 := K1.out.cell 0
  have x1 := K1.out.cell 1
  have x2 := K1.out.cell 2
  have x3 := K1.out.cell 3
  have x4 := K1.out.cell 4
  have x5 := K1.out.cell 5
  go_wp2_with fail
  refine (BY.out _ B1.out).mono ?_
  rintro e w2 ⟨A7, c7, rfl, r7, b2⟩
  have K2 := Lib.hid (K1.out.below b2 K1.out.lt)
  have B2 := Lib.hid (btrans B1.out b2)
  have R7 := Lib.hid r7
  clear b2 r7 x0 x1 x2 x3 x4 x5
  go_wp2_with fail
  refine (RD.out _ B2.out).mono ?_
  rintro e w6 ⟨A6, c6, rfl, o6, b6⟩
  have B6 := Lib.hid (bal (btrans B2.out b6) (.cells #[.int .i8 q.kd, .int .i64 q.er, .int .i64 q.pid, .int .i64 q.ep, .int .i64 q.off, .slice A6 q.rows.length c6] 26))
  have KZ := Lib.hid (Blk.new w6 26 #[.int .i8 q.kd, .int .i64 q.er, .int .i64 q.pid, .int .i64 q.ep, .int .i64 q.off, .slice A6 q.rows.length c6])
  have R6 := Lib.hid ((Reads.of_own o6).alloc (Nat.le_refl _) (.cells #[.int .i8 q.kd, .int .i64 q.er, .int .i64 q.pid, .int .i64 q.ep, .int .i64 q.off, .slice A6 q.rows.length c6] 26))
  clear b6 o6
  have x0 := KZ.out.cell 0
  have x1 := KZ.out.cell 1
  have x2 := KZ.out.cell 2
  have x3 := KZ.out.cell 3
  have x4 := KZ.out.cell 4
  have x5 := KZ.out.cell 5
  go_wp2_with fail
  refine (BQ.out _ A6 c6 (R6.out.more (by simp))).mono ?_
  rintro e w7 ⟨A8, c8, rfl, r8, b7⟩
  have KZ7 := Lib.hid (KZ.out.below b7 KZ.out.lt)
  have B7 := Lib.hid (btrans B6.out b7)
  have t1 := run_string_of (P := Tryd.prog) (src := 27) (dst := 9) (c := c8) Tryd.underlying27 Tryd.underlying5 Tryd.underlying9 r8
  have t2 := run_string_of (P := Tryd.prog) (src := 27) (dst := 9) (c := c2) Tryd.underlying27 Tryd.underlying5 Tryd.underlying9 (HBB.out.below B7.out)
  have R67 := Lib.hid ((R6.out.more (by simp)).below b7)
  have hs7 := b7.size
  clear b7 r8 x0 x1 x2 x3 x4 x5
  have x0 := KZ7.out.cell 0
  have x1 := KZ7.out.cell 1
  have x2 := KZ7.out.cell 2
  have x3 := KZ7.out.cell 3
  have x4 := KZ7.out.cell 4
  have x5 := KZ7.out.cell 5
  go_wp2_with fail
  refine (MQ.out _ A6 c6 (R67.out.more hs7)).mono ?_
  rintro e w8 ⟨rfl, b8⟩
  have B8 := Lib.hid (btrans B7.out b8)
  clear b8 t1 t2 x0 x1 x2 x3 x4 x5
  go_wp2_with fail
  refine (WK.out _ B8.out).mono ?_
  rintro e w9 ⟨rfl, b9⟩
  go_wp2_with fail
  go_ret
  exact ⟨rfl, btrans B8.out b9⟩
set_option maxRecDepth 100000 in
set_option maxHeartbeats 8000000 in
theorem rpback_ok00 (a : Rp) (l : List UInt8) (A1 A2 : Option Addr) (c1 c2 : Nat) (w : World) (hg : HasET w) (hr : Reads w w.heap.size 5 A1 a.rows.length (cellsW a.rows)) (hb : Reads w w.heap.size 1 A2 l.length (cellsB l)) (hgr : greatRp a = false) (hl : l.length ≤ 4000) (hm : mayB a = false) (hq : readRp l = (Rp0, 70)) :
    Calls Tryd.prog 3 #[(.agg #[.int .i8 a.kd, .int .i64 a.er, .int .i64 a.pid, .int .i64 a.ep, .int .i64 a.off, .slice A1 a.rows.length c1]), .slice A2 l.length c2] w (RBack w) := by
  have HB := Lib.hid (bal (Below.refl w.heap.size w) (.cells #[.int .i8 a.kd, .int .i64 a.er, .int .i64 a.pid, .int .i64 a.ep, .int .i64 a.off, .slice A1 a.rows.length c1] 26))
  have KA := Lib.hid (Blk.new w 26 #[.int .i8 a.kd, .int .i64 a.er, .int .i64 a.pid, .int .i64 a.ep, .int .i64 a.off, .slice A1 a.rows.length c1])
  have G := Lib.hid (RpGreat_any a A1 c1 (w.alloc (.cells #[.int .i8 a.kd, .int .i64 a.er, .int .i64 a.pid, .int .i64 a.ep, .int .i64 a.off, .slice A1 a.rows.length c1] 26)) ((hr.alloc (Nat.le_refl _) _).more (by simp)))
  have WK := Lib.hid (fun W (h : Below w.heap.size w W) => wakes09 W (hg.up h))
  rw [hgr] at G
  have hl1 : a.rows.length ≤ 1000000 := by have := (not_greatRp hgr).1; omega
  have d1 : decide ((4000 : Int) < (l.length : Int)) = false := by simp; omega
  have HR := Lib.hid hr
  have HBB := Lib.hid hb
  have RD := Lib.hid (fun W (h : Below w.heap.size w W) => by
    have := rpRead_any A2 l c2 W ((hb.below h).more h.size) (by omega) (hg.up h)
    rw [hq] at this
    exact this)
  have BY := Lib.hid (fun W (h : Below w.heap.size w W) => RpBytes_no a A1 c1 W ((HR.out.below h).more h.size) hl1 hm)
  clear hr hg hb hgr hl hm hq hl1
  go_enter Tryd.func3, Tryd.ntmps3
  go_wp2_with fail
  refine G.out.mono ?_
  rintro e w1 ⟨rfl, b1⟩
  have K1 := Lib.hid (KA.out.below b1 (by simp))
  have B1 := Lib.hid (btrans HB.out b1)
  clear b1
  have x0 := K1.out.cell 0
  have x1 := K1.out.cell 1
  have x2 := K1.out.cell 2
  have x3 := K1.out.cell 3
  have x4 := K1.out.cell 4
  have x5 := K1.out.cell 5
  go_wp2_with fail
  refine (BY.out _ B1.out).mono ?_
  rintro e w2 ⟨A7, c7, rfl, r7, b2⟩
  have K2 := Lib.hid (K1.out.below b2 K1.out.lt)
  have B2 := Lib.hid (btrans B1.out b2)
  have R7 := Lib.hid r7
  clear b2 r7 x0 x1 x2 x3 x4 x5
  go_wp2_with fail
  refine (RD.out _ B2.out).mono ?_
  rintro e w6 ⟨A6, c6, rfl, o6, b6⟩
  have B6 := Lib.hid (bal (btrans B2.out b6) (.cells #[.int .i8 Rp0.kd, .int .i64 Rp0.er, .int .i64 Rp0.pid, .int .i64 Rp0.ep, .int .i64 Rp0.off, .slice A6 Rp0.rows.length c6] 26))
  clear b6 o6
  go_wp2_with fail
  refine (WK.out _ B6.out).mono ?_
  rintro e w9 ⟨rfl, b9⟩
  go_wp2_with fail
  go_ret
  exact ⟨rfl, btrans B6.out b9⟩
theorem rpback_walk (a : Rp) (l : List UInt8) (A1 A2 : Option Addr) (c1 c2 : Nat) (w : World) (hg : HasET w) (hr : Reads w w.heap.size 5 A1 a.rows.length (cellsW a.rows)) (hb : Reads w w.heap.size 1 A2 l.length (cellsB l)) :
    Calls Tryd.prog 3 #[(.agg #[.int .i8 a.kd, .int .i64 a.er, .int .i64 a.pid, .int .i64 a.ep, .int .i64 a.off, .slice A1 a.rows.length c1]), .slice A2 l.length c2] w fun e w' => e = .returned (.bool true) ∧ Below w.heap.size w w' := by
  cases hgr : greatRp a
  · by_cases hl : 4000 < l.length
    · exact rpback_long a l A1 A2 c1 c2 w hg hr hb hgr hl
    have hl : l.length ≤ 4000 := by omega
    rcases readRp_cases l with ⟨q, hq, hv, hlq⟩ | hq
    · cases hm : mayB a
      · exact rpback_ok01 a l A1 A2 c1 c2 w hg hr hb hgr hl hm q hq ((mayB_iff q).2 hv) hlq
      · exact rpback_ok11 a l A1 A2 c1 c2 w hg hr hb hgr hl hm q hq ((mayB_iff q).2 hv) hlq
    · cases hm : mayB a
      · exact rpback_ok00 a l A1 A2 c1 c2 w hg hr hb hgr hl hm hq
      · exact rpback_ok10 a l A1 A2 c1 c2 w hg hr hb hgr hl hm hq
  · exact rpback_great a l A1 A2 c1 c2 w hg hr hb hgr
end Go.Proofs.YtckdecodpjfcnaaDoor
namespace Go.Proofs.YtckdecodpjfcnaaDoor.replyBack
open Go.ChangeShapes Go.WideShapes Go.ChangeAt Go.RowKit
open Go.ChangeMaps (open_string shut_string)
set_option linter.unusedVariables false

theorem laid_met (os : Os) : laidMetH Tryd.prog Rows.replyBackRow.laid ((laidWorld os).forCall (fun _ _ => 0) ⟨#[], #[.agg #[.int .i8 0, .int .i64 0, .int .i64 0, .int .i64 0, .int .i64 0, .slice none 0 0], .slice none 0 0], []⟩).memory :=
  laidMetH_of_parts (laidMet_nil _ _) (by kernel_rfl)
theorem reads (os : Os) {H : Type} (enc : TypeId × Value → H) : ∃ places, DataW.whole enc Tryd.prog ((laidWorld os).forCall (fun _ _ => 0) ⟨#[], #[.agg #[.int .i8 0, .int .i64 0, .int .i64 0, .int .i64 0, .int .i64 0, .slice none 0 0], .slice none 0 0], []⟩).memory Tryd.f3.params.toList Rows.replyBackSpec.vars false (#[.agg #[.int .i8 0, .int .i64 0, .int .i64 0, .int .i64 0, .int .i64 0, .slice none 0 0], .slice none 0 0] : Array Value).toList 8 = some ([.agg [.lit (.int .i8 0), .lit (.int .i64 0), .lit (.int .i64 0), .lit (.int .i64 0), .lit (.int .i64 0), .nil], .nil], [], places) :=
  ⟨[], by kernel_rfl⟩

set_option maxRecDepth 100000 in
theorem lifted (os : Os) (started : os.Started) (H : Type) (enc : TypeId × Value → H) (F : Stop.Interp) :
    ReturnsInHanded {} Tryd.checked os 3 .any ((OpenSpec.ofChange Rows.replyBackSpec).preRow enc Tryd.prog Tryd.f3 Rows.replyBackRow.domain false Rows.replyBackRow.laid) (((OpenSpec.ofChange Rows.replyBackSpec).at F).post enc Tryd.prog Tryd.f3 false true false false) := by
  obtain ⟨places, hx⟩ := reads os enc
  refine returnsInHanded_of_row (C := Tryd.checked) (s := OpenSpec.ofChange Rows.replyBackSpec) own started (by kernel_rfl) Tryd.func3
    (witness_row_at (enc := enc) (C := Tryd.checked) false (laidWorld os) #[.agg #[.int .i8 0, .int .i64 0, .int .i64 0, .int .i64 0, .int .i64 0, .slice none 0 0], .slice none 0 0] rfl (by kernel_rfl) (by kernel_rfl) (by kernel_rfl)
      (OpenSpec.preRow_of_cond 8 hx (by kernel_rfl) (fun k hk => by cases hk) (by kernel_rfl) (laid_met os))) ?_
  intro W base args ds gs before hval0 hW _ _ hsz0 hL _ _
  have hg : HasET W := hasErr_of_laid hL
  have hval : ∀ (j : Nat) t v, Tryd.f3.params[j]? = some t → args[j]? = some v → Value.okWide Tryd.prog W .any base t v := hval0
  have hsz : (DataW.weightsEach Tryd.prog (Tryd.f3.params.toList ++ Rows.replyBackSpec.plain.varTypes Tryd.prog) (ds ++ gs)).all (· ≤ reachBytes) = true := hsz0
  have hW' := hW
  obtain ⟨p, q, hA0, hV, rfl, hfz, hnd⟩ := hW
  have hA : DataW.TrodAll enc Tryd.prog W 0 (fun _ => true) true Tryd.f3.params.toList args.toList ds p := hA0
  rw [Tryd.params3] at hA hval hsz
  obtain ⟨v0, vs0, d0, ds0, p0, q0, hargs, rfl, rfl, h0, r0⟩ := trodAll_cons hA
  obtain ⟨v1, vs1, d1, ds1, p1, q1, rfl, rfl, rfl, h1, r1⟩ := trodAll_cons r0
  obtain ⟨rfl, rfl, rfl⟩ := trodAll_nil r1
  obtain rfl : args = #[v0, v1] := by cases args; simp_all
  obtain ⟨rfl, rfl⟩ := trodVars_none hV
  have k0 := h0
  have lt0 : ∀ x ∈ p0, x.block < W.heap.size := by obtain ⟨m, hm⟩ := k0; exact DataW.trod_lt m _ _ _ hm
  obtain ⟨rp0, A0, c0, rfl, qr0⟩ := open_rp (hval 0 26 v0 rfl rfl) h0
  have k1 := h1
  have lt1 : ∀ x ∈ p1, x.block < W.heap.size := by obtain ⟨m, hm⟩ := k1; exact DataW.trod_lt m _ _ _ hm
  obtain ⟨A1, n1, c1, zs1, rfl, l1, b1, rd1, s1⟩ := open_ints_arg 1 Tryd.underlying27 Tryd.underlying5 (by kernel_rfl) (by kernel_rfl) (hval 1 27 v1 rfl rfl) h1 (weights_of hsz (j := 1) rfl rfl)
  obtain ⟨lb1, rfl, rb1⟩ := bytes_of_ints rd1 s1
  clear hA0 hval0 hsz0
  refine (rpback_walk rp0 lb1 A0 A1 c0 c1 W hg qr0 rb1).mono fun e W' ⟨he, bel⟩ => ?_
  subst he
  exact ⟨_, rfl, _, _, _, [], _, [], hW', trodAll_mk1 (shut_bool Tryd.underlying4 _), (trodAll_cons_mk (Below.trod laidOut (by kernel_rfl) (of_decide_eq_true (by kernel_rfl)) k0 bel lt0) (trodAll_cons_mk (Below.trod laidOut (by kernel_rfl) (of_decide_eq_true (by kernel_rfl)) k1 bel lt1) trodAll_mk0)), rfl, bel.frame _, fun h => by cases h⟩

theorem said : Rows.ReplyBackSaid :=
  OpenClaim.holds_of_cond 3 Tryd.f3 rfl rfl rfl rfl rfl rfl rfl ⟨rfl, rfl, rfl, rfl, rfl⟩ rfl rfl rfl rfl rfl (by kernel_rfl) Tryd.func3 (by kernel_rfl)
    (of_decide_eq_true (by kernel_rfl)) (by unfold Func.isWrapper; first | (rw [if_pos (by decide +kernel)]; kernel_rfl) | (rw [if_neg (by decide +kernel)]; exact ⟨rfl, rfl⟩))
    (fun os started H enc _ F => by rw [OpenClaim.pre_eq_preRow]; exact lifted os started H enc F)

theorem plain (f : FuncId) (fn : Func) (hf : Tryd.pinned.checked.prog.funcNamed "roving/rovinglaw09.ReplyBack" = some f) (hfn : Tryd.pinned.checked.prog.funcs[f]? = some fn) :
    true = Tryd.pinned.checked.prog.looks [] ∧ ∀ (j : Nat) t, fn.params[j]? = some t → Tryd.pinned.checked.prog.wantsStandIn t = false := by
  obtain rfl : f = 3 := Option.some.inj ((show Tryd.prog.funcNamed "roving/rovinglaw09.ReplyBack" = some 3 by kernel_rfl).symm.trans hf) |>.symm
  obtain rfl : fn = Tryd.f3 := (Option.some.inj (Tryd.func3.symm.trans hfn)).symm
  refine ⟨by kernel_rfl, fun j t ht => ?_⟩
  rw [Tryd.params3] at ht
  have hm : t = 26 ∨ t = 27 := by simpa using Array.mem_of_getElem? ht
  rcases hm with rfl | rfl <;> exact (show Tryd.prog.wantsStandIn _ = false by kernel_rfl)

/-- THE CARD. -/
theorem card : Rows.ReplyBackCardSaid :=
  Claim7.holds_tied_plain_at .later [] _ _ _ _ said (fun _ h => by cases h) (by kernel_rfl) (fun _ h => by cases h) replyBack_row_tie rfl ⟨rfl, rfl⟩ (by kernel_rfl) rfl plain (by kernel_rfl)
end Go.Proofs.YtckdecodpjfcnaaDoor.replyBack
