/-
  Layer 7: how the fields of a kind are read.
-/
import Derived.Test.YtckdecodpjfcnaaGreatDoorGrp25
import Derived.Test.YtckdecodpjfcnaaGreatDoorGrp26
import Derived.Deep.RegionHeld3
import Derived.Deep.DrawnRows
set_option linter.unusedVariables false
set_option linter.unusedSimpArgs false
namespace Go.Proofs.YtckdecodpjfcnaaGreatDoor
open Go.RowKit
attribute [local go_sem ↓] Go.wp_at_zero Go.wp_at_succ

abbrev erC (gr : Nat) (x : En) (A5 D5 : Option Addr) (c5 e5 : Nat) : Array Value := #[.pointer (some ⟨gr, 0, none⟩), .int .i8 x.kd, .int .i64 x.b.pid, .int .i64 x.b.ep, .int .i64 x.b.seq, .bool x.b.txn, .slice A5 x.b.rs.length c5, .bool x.yes, .int .i64 x.nx, .int .i64 x.off, .int .i64 x.row.1, .int .i64 x.row.2.1, .int .i64 x.row.2.2.1, .string x.row.2.2.2.1, .string x.row.2.2.2.2, .int .i64 x.prod.pid, .int .i64 x.prod.ep, .int .i64 x.prod.nx, .slice D5 x.prod.seen.length e5]
/-- The reader as it is begun. -/
def ErS0 (B g gr : Nat) (s : ByteArray) (i : Nat) (b : Bool) (kd : Int) (W : World) : Prop :=
  Blk W g 89 (erC gr (baseEn kd) none none 0 0) ∧ RdOk B W gr s i b ∧ B ≤ g
/-- Reading: what is read so far; where the reader is. -/
def ErSt (B g gr : Nat) (s : ByteArray) (i : Nat) (b : Bool) (x : En) (W : World) : Prop :=
  ∃ A5 D5 c5 e5, Blk W g 89 (erC gr x A5 D5 c5 e5) ∧ RdOk B W gr s i b ∧ B ≤ g ∧ W.ownsRow (g + 1) 60 2 (.slice A5 x.b.rs.length c5) x.b.rs.length (cellsR x.b.rs) ∧ W.ownsRow (g + 1) 73 3 (.slice D5 x.prod.seen.length e5) x.prod.seen.length (cellsN x.prod.seen)
def ErOk (B g gr : Nat) (s : ByteArray) (i : Nat) (b : Bool) (x : En) (w : World) (e : Ending) (w' : World) : Prop :=
  e = .returned (.tuple #[]) ∧ ErSt B g gr s i b x w' ∧ Only (fun x => x = gr ∨ g ≤ x) w w'
theorem rdok_up {B : Nat} {W : World} {gr : Nat} {s : ByteArray} {i : Nat} {b : Bool} (h : RdOk B W gr s i b) : RdOk W.heap.size W gr s i b :=
  ⟨h.1, h.2.1, h.2.2.1, h.2.2.2.1, by have := h.2.2.2.2.1; have := h.2.2.2.2.2.2; omega, by have := h.2.2.2.2.2.1; have := h.2.2.2.2.2.2; omega, Nat.le_refl _⟩
section
variable {B g gr i j : Nat} {b b' : Bool} {s : ByteArray} {x : En} {kd : Int} {w w' W W' : World}
theorem ErS0.st (h : ErS0 B g gr s i b kd W) : ErSt B g gr s i b (baseEn kd) W := ⟨none, none, 0, 0, h.1, h.2.1, h.2.2, World.ownsRow_nil _ _ _ _, World.ownsRow_nil _ _ _ _⟩
theorem ErS0.next (h : ErS0 B g gr s i b kd W) (k : RdOk B W' gr s j b') (o : Only (fun x => x = gr) W W') : ErS0 B g gr s j b' kd W' := by
  have := h.2.1.2.2.2.2.1
  have := h.2.2
  exact ⟨o.blk h.1 (by omega), k, h.2.2⟩
theorem ErSt.next (h : ErSt B g gr s i b x W) (k : RdOk B W' gr s j b') (o : Only (fun x => x = gr) W W') : ErSt B g gr s j b' x W' := by
  obtain ⟨A5, D5, c5, e5, h1, h2, h3, h4, h5⟩ := h
  have := h2.2.2.2.2.1
  exact ⟨A5, D5, c5, e5, o.blk h1 (by omega), k, h3, o.own h4 (fun x hx e => by omega), o.own h5 (fun x hx e => by omega)⟩
theorem ErSt.put (h : ErSt B g gr s i b x W) (x' : En) (o : Nat) (v : Value) (hr : x'.b.rs = x.b.rs) (hs : x'.prod.seen = x.prod.seen) (hc : ∀ A5 D5 c5 e5, erC gr x' A5 D5 c5 e5 = (erC gr x A5 D5 c5 e5).setIfInBounds o v) : ErSt B g gr s i b x' (W.setCell ⟨g, o, none⟩ v) := by
  obtain ⟨A5, D5, c5, e5, h1, h2, h3, h4, h5⟩ := h
  refine ⟨A5, D5, c5, e5, ?_, h2.set h3 v, h3, ?_, ?_⟩
  · rw [hc]; exact h1.set_ o v
  · rw [hr]; exact own_set h4 (Nat.lt_succ_self _) v
  · rw [hs]; exact own_set h5 (Nat.lt_succ_self _) v
theorem only_ge (o : Only (fun x => x = gr) W W') : Only (fun x => x = gr ∨ g ≤ x) W W' := o.mono (fun _ _ h => .inl h)
end

set_option maxRecDepth 100000 in
set_option maxHeartbeats 1000000 in
theorem rwho_any (B g gr : Nat) (s : ByteArray) (i j j2 : Nat) (b b' b2 : Bool) (p q : Int) (kd : Int) (W : World) (h : ErS0 B g gr s i b kd W) (hz : rdNum (lb s) i b 1 8 = (p, j, b')) (hz2 : rdNum (lb s) j b' 0 100 = (q, j2, b2)) :
    Calls Tryz.prog 100 #[.pointer (some ⟨g, 0, none⟩)] W fun e W' => e = .returned (.tuple #[.int .i64 p, .int .i64 q]) ∧ ErS0 B g gr s j2 b2 kd W' ∧ Only (fun x => x = gr) W W' := by
  have H := Lib.hid h
  have N1 := Lib.hid (RNum_z hz h.2.1)
  have x0 : W.cell? ⟨g, 0, none⟩ = some (.pointer (some ⟨gr, 0, none⟩)) := h.1.cell 0
  have HZ2 := Lib.hid hz2
  clear h hz hz2
  go_enter Tryz.func100, Tryz.ntmps100
  go_wp2_with fail
  refine N1.out.mono ?_
  rintro e w1 ⟨rfl, r1, o1⟩
  have S1 := Lib.hid (H.out.next r1 o1)
  have O1 := Lib.hid o1
  have y0 : w1.cell? ⟨g, 0, none⟩ = some (.pointer (some ⟨gr, 0, none⟩)) := S1.out.1.cell 0
  have N2 := Lib.hid (RNum_z HZ2.out S1.out.2.1)
  clear r1 o1 x0
  go_wp2_with fail
  refine N2.out.mono ?_
  rintro e w2 ⟨rfl, r2, o2⟩
  have S2 := Lib.hid (S1.out.next r2 o2)
  have O2 := Lib.hid (O1.out.trans o2)
  clear r2 o2 y0
  go_wp2_with fail
  go_ret2
  exact ⟨rfl, S2.out, O2.out⟩
set_option maxRecDepth 100000 in
set_option maxHeartbeats 2000000 in
theorem ercut_any (B g gr : Nat) (s : ByteArray) (kd : Int) (i : Nat) (b : Bool) (W : World) (h : ErS0 B g gr s i b kd W) (j : Nat) (b' : Bool) (v : Int) (hz : rdNum (lb s) i b 0 1048576 = (v, j, b')) :
    Calls Tryz.prog 80 #[.pointer (some ⟨g, 0, none⟩)] W (ErOk B g gr s j b' { baseEn kd with off := v } W) := by
  have H := Lib.hid h.st
  have N1 := Lib.hid (RNum_z hz h.2.1)
  have x0 : W.cell? ⟨g, 0, none⟩ = some (.pointer (some ⟨gr, 0, none⟩)) := h.1.cell 0
  clear h hz
  go_enter Tryz.func80, Tryz.ntmps80
  go_wp2_with fail
  refine N1.out.mono ?_
  rintro e w1 ⟨rfl, r1, o1⟩
  have S1 := Lib.hid (H.out.next r1 o1)
  obtain ⟨A1, D1, c1, e1, k1, _⟩ := S1.out
  have y := k1.cell 9
  have z := k1.frozen 9
  have O1 := Lib.hid o1
  clear k1 r1 o1
  go_wp2_with fail
  go_end0
  exact ⟨rfl, S1.out.put { baseEn kd with off := v } 9 (.int .i64 v) rfl rfl (fun _ _ _ _ => rfl), (only_ge O1.out).set (.inl (.inr (Nat.le_refl _))) _⟩
set_option maxRecDepth 100000 in
set_option maxHeartbeats 2000000 in
theorem ermark_any (B g gr : Nat) (s : ByteArray) (kd : Int) (i : Nat) (b : Bool) (W : World) (h : ErS0 B g gr s i b kd W) (j j2 j3 : Nat) (b1 b2 b3 : Bool) (p q : Int) (t : Bool) (hz : rdNum (lb s) i b 1 8 = (p, j, b1)) (hz2 : rdNum (lb s) j b1 0 100 = (q, j2, b2)) (hz3 : rdFlag (lb s) j2 b2 = (t, j3, b3)) :
    Calls Tryz.prog 79 #[.pointer (some ⟨g, 0, none⟩)] W (ErOk B g gr s j3 b3 { baseEn kd with b := wh p q, yes := t } W) := by
  have WH := Lib.hid (rwho_any B g gr s i j j2 b b1 b2 p q kd W h hz hz2)
  have x0 : W.cell? ⟨g, 0, none⟩ = some (.pointer (some ⟨gr, 0, none⟩)) := h.1.cell 0
  have HZ3 := Lib.hid hz3
  clear h hz hz2 hz3
  go_enter Tryz.func79, Tryz.ntmps79
  go_wp2_with fail
  refine WH.out.mono ?_
  rintro e w1 ⟨rfl, s1, o1⟩
  have S1 := Lib.hid s1.st
  have O1 := Lib.hid o1
  have y2 := s1.1.cell 2
  have z2 := s1.1.frozen 2
  have y3 := s1.1.cell 3
  have z3 := s1.1.frozen 3
  clear s1 o1
  go_upto_region 1 with (fail)
  have S2 := Lib.hid ((S1.out.put { baseEn kd with b := wh p 0 } 2 (.int .i64 p) rfl rfl (fun _ _ _ _ => rfl)).put { baseEn kd with b := wh p q } 3 (.int .i64 q) rfl rfl (fun _ _ _ _ => rfl))
  have O2 := Lib.hid (((only_ge (g := g) O1.out).set (g := g) (o := 2) (.inl (.inr (Nat.le_refl _))) (.int .i64 p)).set (g := g) (o := 3) (.inl (.inr (Nat.le_refl _))) (.int .i64 q))
  clear y2 z2 y3 z3 x0
  generalize (w1.setCell ⟨g, 2, none⟩ (.int .i64 p)).setCell ⟨g, 3, none⟩ (.int .i64 q) = w2 at *
  obtain ⟨A2, D2, c2, e2, k2, r2, _⟩ := S2.out
  have x0 : w2.cell? ⟨g, 0, none⟩ = some (.pointer (some ⟨gr, 0, none⟩)) := k2.cell 0
  clear k2
  have N3 := Lib.hid (RFlag_z HZ3.out r2)
  clear r2
  go_wp2_with fail
  refine N3.out.mono ?_
  rintro e w3 ⟨rfl, r3, o3⟩
  have S3 := Lib.hid (S2.out.next r3 o3)
  have O3 := Lib.hid (O2.out.trans (only_ge o3))
  obtain ⟨A3, D3, c3, e3, k3, _⟩ := S3.out
  have y := k3.cell 7
  have z := k3.frozen 7
  clear k3 r3 o3
  go_wp2_with fail
  go_end0
  exact ⟨rfl, S3.out.put { baseEn kd with b := wh p q, yes := t } 7 (.bool t) rfl rfl (fun _ _ _ _ => rfl), O3.out.set (.inl (.inr (Nat.le_refl _))) _⟩
set_option maxRecDepth 100000 in
set_option maxHeartbeats 2000000 in
theorem erdrop_any (B g gr : Nat) (s : ByteArray) (kd : Int) (i : Nat) (b : Bool) (W : World) (h : ErS0 B g gr s i b kd W) (j j2 j3 : Nat) (b1 b2 b3 : Bool) (p q : Int) (n : Int) (hz : rdNum (lb s) i b 1 8 = (p, j, b1)) (hz2 : rdNum (lb s) j b1 0 100 = (q, j2, b2)) (hz3 : rdNum (lb s) j2 b2 0 1048576 = (n, j3, b3)) :
    Calls Tryz.prog 82 #[.pointer (some ⟨g, 0, none⟩)] W (ErOk B g gr s j3 b3 { baseEn kd with b := wh p q, nx := n } W) := by
  have WH := Lib.hid (rwho_any B g gr s i j j2 b b1 b2 p q kd W h hz hz2)
  have x0 : W.cell? ⟨g, 0, none⟩ = some (.pointer (some ⟨gr, 0, none⟩)) := h.1.cell 0
  have HZ3 := Lib.hid hz3
  clear h hz hz2 hz3
  go_enter Tryz.func82, Tryz.ntmps82
  go_wp2_with fail
  refine WH.out.mono ?_
  rintro e w1 ⟨rfl, s1, o1⟩
  have S1 := Lib.hid s1.st
  have O1 := Lib.hid o1
  have y2 := s1.1.cell 2
  have z2 := s1.1.frozen 2
  have y3 := s1.1.cell 3
  have z3 := s1.1.frozen 3
  clear s1 o1
  go_upto_region 1 with (fail)
  have S2 := Lib.hid ((S1.out.put { baseEn kd with b := wh p 0 } 2 (.int .i64 p) rfl rfl (fun _ _ _ _ => rfl)).put { baseEn kd with b := wh p q } 3 (.int .i64 q) rfl rfl (fun _ _ _ _ => rfl))
  have O2 := Lib.hid (((only_ge (g := g) O1.out).set (g := g) (o := 2) (.inl (.inr (Nat.le_refl _))) (.int .i64 p)).set (g := g) (o := 3) (.inl (.inr (Nat.le_refl _))) (.int .i64 q))
  clear y2 z2 y3 z3 x0
  generalize (w1.setCell ⟨g, 2, none⟩ (.int .i64 p)).setCell ⟨g, 3, none⟩ (.int .i64 q) = w2 at *
  obtain ⟨A2, D2, c2, e2, k2, r2, _⟩ := S2.out
  have x0 : w2.cell? ⟨g, 0, none⟩ = some (.pointer (some ⟨gr, 0, none⟩)) := k2.cell 0
  clear k2
  have N3 := Lib.hid (RNum_z HZ3.out r2)
  clear r2
  go_wp2_with fail
  refine N3.out.mono ?_
  rintro e w3 ⟨rfl, r3, o3⟩
  have S3 := Lib.hid (S2.out.next r3 o3)
  have O3 := Lib.hid (O2.out.trans (only_ge o3))
  obtain ⟨A3, D3, c3, e3, k3, _⟩ := S3.out
  have y := k3.cell 8
  have z := k3.frozen 8
  clear k3 r3 o3
  go_wp2_with fail
  go_end0
  exact ⟨rfl, S3.out.put { baseEn kd with b := wh p q, nx := n } 8 (.int .i64 n) rfl rfl (fun _ _ _ _ => rfl), O3.out.set (.inl (.inr (Nat.le_refl _))) _⟩
set_option maxRecDepth 100000 in
set_option maxHeartbeats 2000000 in
theorem errow_any (B g gr : Nat) (s : ByteArray) (kd : Int) (i : Nat) (b : Bool) (W : World) (h : ErS0 B g gr s i b kd W) (j1 j2 j3 j4 : Nat) (b1 b2 b3 b4 : Bool) (p q : Int) (k v : List UInt8) (hz1 : rdNum (lb s) i b 1 8 = (p, j1, b1)) (hz2 : rdNum (lb s) j1 b1 0 1048575 = (q, j2, b2)) (hz3 : rdTxt (lb s) j2 b2 16 = (k, j3, b3)) (hz4 : rdTxt (lb s) j3 b3 16 = (v, j4, b4)) :
    Calls Tryz.prog 83 #[.pointer (some ⟨g, 0, none⟩)] W (ErOk B g gr s j4 b4 { baseEn kd with row := (0, p, q, bs k, bs v) } W) := by
  have H := Lib.hid h.st
  have N1 := Lib.hid (RNum_z hz1 h.2.1)
  have x0 : W.cell? ⟨g, 0, none⟩ = some (.pointer (some ⟨gr, 0, none⟩)) := h.1.cell 0
  have HZ2 := Lib.hid hz2
  have HZ3 := Lib.hid hz3
  have HZ4 := Lib.hid hz4
  clear h hz1 hz2 hz3 hz4
  go_enter Tryz.func83, Tryz.ntmps83
  go_wp2_with fail
  refine N1.out.mono ?_
  rintro e w1 ⟨rfl, r1, o1⟩
  have T1 := Lib.hid (H.out.next r1 o1)
  have O1 := Lib.hid (only_ge (g := g) o1)
  obtain ⟨_, _, _, _, k1, _⟩ := T1.out
  have y := k1.cell 11
  have z := k1.frozen 11
  clear k1 r1 o1 x0
  go_upto_region 1 with (fail)
  have S1 := Lib.hid (T1.out.put { baseEn kd with row := (0, p, 0, ⟨#[]⟩, ⟨#[]⟩) } 11 (.int .i64 p) rfl rfl (fun _ _ _ _ => rfl))
  have P1 := Lib.hid (O1.out.set (g := g) (o := 11) (.inl (.inr (Nat.le_refl _))) (.int .i64 p))
  clear y z
  generalize w1.setCell ⟨g, 11, none⟩ (.int .i64 p) = v1 at *
  obtain ⟨_, _, _, _, k1, r1, _⟩ := S1.out
  have x0 : v1.cell? ⟨g, 0, none⟩ = some (.pointer (some ⟨gr, 0, none⟩)) := k1.cell 0
  have N2 := Lib.hid (RNum_z HZ2.out r1)
  clear k1 r1
  go_wp2_with fail
  refine N2.out.mono ?_
  rintro e w2 ⟨rfl, r2, o2⟩
  have T2 := Lib.hid (S1.out.next r2 o2)
  have O2 := Lib.hid (P1.out.trans (only_ge o2))
  obtain ⟨_, _, _, _, k2, _⟩ := T2.out
  have y := k2.cell 12
  have z := k2.frozen 12
  clear k2 r2 o2 x0
  go_upto_region 2 with (fail)
  have S2 := Lib.hid (T2.out.put { baseEn kd with row := (0, p, q, ⟨#[]⟩, ⟨#[]⟩) } 12 (.int .i64 q) rfl rfl (fun _ _ _ _ => rfl))
  have P2 := Lib.hid (O2.out.set (g := g) (o := 12) (.inl (.inr (Nat.le_refl _))) (.int .i64 q))
  clear y z
  generalize w2.setCell ⟨g, 12, none⟩ (.int .i64 q) = v2 at *
  obtain ⟨_, _, _, _, k2, r2, _⟩ := S2.out
  have x0 : v2.cell? ⟨g, 0, none⟩ = some (.pointer (some ⟨gr, 0, none⟩)) := k2.cell 0
  have N3 := Lib.hid (RTxt_z HZ3.out r2)
  clear k2 r2
  go_wp2_with fail
  refine N3.out.mono ?_
  rintro e w3 ⟨rfl, r3, o3⟩
  have T3 := Lib.hid (S2.out.next r3 o3)
  have O3 := Lib.hid (P2.out.trans (only_ge o3))
  obtain ⟨_, _, _, _, k3, _⟩ := T3.out
  have y := k3.cell 13
  have z := k3.frozen 13
  clear k3 r3 o3 x0
  go_upto_region 3 with (fail)
  have S3 := Lib.hid (T3.out.put { baseEn kd with row := (0, p, q, bs k, ⟨#[]⟩) } 13 (.string (bs k)) rfl rfl (fun _ _ _ _ => rfl))
  have P3 := Lib.hid (O3.out.set (g := g) (o := 13) (.inl (.inr (Nat.le_refl _))) (.string (bs k)))
  clear y z
  generalize w3.setCell ⟨g, 13, none⟩ (.string (bs k)) = v3 at *
  obtain ⟨_, _, _, _, k3, r3, _⟩ := S3.out
  have x0 : v3.cell? ⟨g, 0, none⟩ = some (.pointer (some ⟨gr, 0, none⟩)) := k3.cell 0
  have N4 := Lib.hid (RTxt_z HZ4.out r3)
  clear k3 r3
  go_wp2_with fail
  refine N4.out.mono ?_
  rintro e w4 ⟨rfl, r4, o4⟩
  have T4 := Lib.hid (S3.out.next r4 o4)
  have O4 := Lib.hid (P3.out.trans (only_ge o4))
  obtain ⟨_, _, _, _, k4, _⟩ := T4.out
  have y := k4.cell 14
  have z := k4.frozen 14
  clear k4 r4 o4 x0
  go_wp2_with fail
  go_end0
  exact ⟨rfl, T4.out.put { baseEn kd with row := (0, p, q, bs k, bs v) } 14 (.string (bs v)) rfl rfl (fun _ _ _ _ => rfl), O4.out.set (.inl (.inr (Nat.le_refl _))) _⟩
set_option maxRecDepth 100000 in
set_option maxHeartbeats 2000000 in
theorem erdata_any (B g gr : Nat) (s : ByteArray) (kd : Int) (i : Nat) (b : Bool) (W : World) (h : ErS0 B g gr s i b kd W) (bt : Bat) (j : Nat) (b' : Bool) (hz : rdBat (lb s) i b = (bt, j, b')) :
    Calls Tryz.prog 78 #[.pointer (some ⟨g, 0, none⟩)] W (ErOk B g gr s j b' { baseEn kd with b := bt } W) := by
  have H := Lib.hid h
  have hj : j ≤ s.size := by
    have := fol_bat.le (lb s) i b (by rw [length_lb]; exact h.2.1.2.1)
    rw [hz, length_lb] at this
    exact this
  have TK := Lib.hid (Take_any gr s i b W (rdok_up h.2.1))
  rw [hz] at TK
  have x0 : W.cell? ⟨g, 0, none⟩ = some (.pointer (some ⟨gr, 0, none⟩)) := h.1.cell 0
  clear h hz
  go_enter Tryz.func78, Tryz.ntmps78
  go_wp2_with fail
  refine TK.out.mono ?_
  rintro e w1 ⟨A5, c5, rfl, ow, hc5, rb, o1⟩
  have k1 := o1.blk H.out.1 (by have := H.out.2.1.2.2.2.2.1; have := H.out.2.2; omega)
  have KH := Lib.hid k1
  have y2 := k1.cell 2
  have z2 := k1.frozen 2
  have y3 := k1.cell 3
  have z3 := k1.frozen 3
  have y4 := k1.cell 4
  have z4 := k1.frozen 4
  have y5 := k1.cell 5
  have z5 := k1.frozen 5
  have y6 := k1.cell 6
  have z6 := k1.frozen 6
  have OW := Lib.hid ow
  have RB := Lib.hid rb
  have O1 := Lib.hid o1
  clear k1 ow rb o1 hc5
  go_wp2_with fail
  go_end0
  have kk := ((((KH.out.set_ 2 (.int .i64 bt.pid)).set_ 3 (.int .i64 bt.ep)).set_ 4 (.int .i64 bt.seq)).set_ 5 (.bool bt.txn)).set_ 6 (.slice A5 bt.rs.length c5)
  simp only [List.setIfInBounds_toArray, List.set_cons_zero, List.set_cons_succ] at kk
  have hB := H.out.2.2
  have rr := ((((((H.out.2.1.next RB.out O1.out hj).set hB (o := 2) (.int .i64 bt.pid)).set hB (o := 3) (.int .i64 bt.ep)).set hB (o := 4) (.int .i64 bt.seq)).set hB (o := 5) (.bool bt.txn)).set hB (o := 6) (.slice A5 bt.rs.length c5))
  have hgl : g + 1 ≤ W.heap.size := H.out.1.lt
  have oo := own_set (own_set (own_set (own_set (own_set (own_base OW.out hgl) (Nat.lt_succ_self g) (o := 2) (.int .i64 bt.pid)) (Nat.lt_succ_self g) (o := 3) (.int .i64 bt.ep)) (Nat.lt_succ_self g) (o := 4) (.int .i64 bt.seq)) (Nat.lt_succ_self g) (o := 5) (.bool bt.txn)) (Nat.lt_succ_self g) (o := 6) (.slice A5 bt.rs.length c5)
  have ol := (((((only_ge (g := g) O1.out).set (g := g) (o := 2) (.inl (.inr (Nat.le_refl _))) (.int .i64 bt.pid)).set (g := g) (o := 3) (.inl (.inr (Nat.le_refl _))) (.int .i64 bt.ep)).set (g := g) (o := 4) (.inl (.inr (Nat.le_refl _))) (.int .i64 bt.seq)).set (g := g) (o := 5) (.inl (.inr (Nat.le_refl _))) (.bool bt.txn)).set (g := g) (o := 6) (.inl (.inr (Nat.le_refl _))) (.slice A5 bt.rs.length c5)
  exact ⟨rfl, ⟨A5, none, c5, 0, kk, rr, hB, oo, World.ownsRow_nil _ _ _ _⟩, ol⟩
end Go.Proofs.YtckdecodpjfcnaaGreatDoor
