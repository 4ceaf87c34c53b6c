/-
  Layer 8: the request's reader: batch.
  Layer 8: the request's reader: yes, batch.
-/
import Derived.Test.YtcockikekgmfkaaGreatDoorGrp21
namespace Go.Proofs.YtcockikekgmfkaaGreatDoor
open Go.RowKit
attribute [local go_sem ↓] Go.wp_at_zero Go.wp_at_succ

set_option maxRecDepth 100000 in
set_option maxHeartbeats 2000000 in
theorem fw_yes (g K B : Nat) (q : Rq) (l : List UInt8) (W : World) (h : WqSt g K B q l W) (hl : l.length ≤ 20000) :
    Calls Tryz.prog 64 #[.pointer (some ⟨g, 0, none⟩)] W (WqOk g K B { q with yes := false } (l ++ encY q.yes) W) := by
  obtain ⟨A, c, Ab, cb, h1, h2, h3, h4, h5, h6, h7, h8⟩ := h
  have N1 := Lib.hid (Flag_any A l c q.yes W.drew (Reads.of_own h2.drew) (by omega))
  have H1 := Lib.hid h1
  have H5 := Lib.hid h5
  have H7 := Lib.hid h7
  have x0 : W.cell? ⟨g, 0, none⟩ = some (.pointer none) := h1.cell 0
  have x1 : W.cell? ⟨g, 16, none⟩ = some (.slice A l.length c) := h1.cell 16
  have x2 : W.cell? ⟨g, 10, none⟩ = some (.bool q.yes) := h1.cell 10
  have f0 := h1.frozen 16
  have f2 := h1.frozen 10
  generalize l ++ encY q.yes = L at *
  clear h1 h2 h5 h7
  go_enter Tryz.func64, Tryz.ntmps64
  go_wp2_with fail
  go_region_with (go_at_call 80; refine N1.out.mono ?_; rintro e w1 ⟨A1, c1, rfl, o1, hc1, b1⟩; have k1 := H1.out.drew.below b1 H1.out.lt; have y1 : w1.cell? ⟨g, 16, none⟩ = some (.slice A l.length c) := k1.cell 16; have y2 : w1.cell? ⟨g, 10, none⟩ = some (.bool q.yes) := k1.cell 10; have z1 := k1.frozen 16; have z2 := k1.frozen 10)
  all_goals
    go_wp2_with fail
    go_end0
    have oo : Only (fun x => x = g) W ((w1.setCell ⟨g, 16, none⟩ (.slice A1 L.length c1)).setCell ⟨g, 10, none⟩ (.bool false)) := (((Only.refl (fun x => x = g) W).drew.then_below b1).set (.inl rfl) _).set (.inl rfl) _
    exact ⟨rfl, ⟨A1, c1, Ab, cb, (k1.set_ 16 _).set_ 10 _, own_set (own_set (own_base o1 (by simpa using h3)) h4 _) h4 _, by have := oo.size; omega, h4, oo.reads H5.out (by omega) (fun x hx e => by omega), h6, hasET_only H7.out oo (fun e => by omega), h8⟩, oo⟩

set_option maxRecDepth 100000 in
set_option maxHeartbeats 1000000 in
theorem fr_yes (B g gr : Nat) (s : ByteArray) (i j : Nat) (b b' : Bool) (v : Bool) (q : Rq) (W : World) (h : RqSt B g gr s i b q W) (hz : rdFlag (lb s) i b = (v, j, b')) :
    Calls Tryz.prog 64 #[.pointer (some ⟨g, 0, none⟩)] W (RqOk B g gr s j b' { q with yes := v } W) := by
  obtain ⟨Ab, cb, h1, h2, h3, h4⟩ := h
  have N1 := Lib.hid (RFlag_z hz h2)
  have x0 : W.cell? ⟨g, 0, none⟩ = some (.pointer (some ⟨gr, 0, none⟩)) := h1.cell 0
  have H1 := Lib.hid h1
  have H4 := Lib.hid h4
  have hgr := h2.2.2.2.2.1
  have hne : ¬ g = gr := by omega
  clear h1 h2 h4 hz
  go_enter Tryz.func64, Tryz.ntmps64
  go_wp2_with fail
  refine N1.out.mono ?_
  rintro e w1 ⟨rfl, r1, o1⟩
  have k1 := o1.blk H1.out hne
  have y1 : w1.cell? ⟨g, 10, none⟩ = some (.bool q.yes) := k1.cell 10
  have z1 := k1.frozen 10
  have K1 := Lib.hid k1
  have R1 := Lib.hid r1
  have O1 := Lib.hid o1
  clear k1 r1 o1
  go_wp2_with fail
  go_end0
  have oo : Only (fun x => x = g ∨ x = gr) W (w1.setCell ⟨g, 10, none⟩ (.bool v)) := (O1.out.mono (fun x _ hx => .inr hx)).set (.inl (.inl rfl)) _
  exact ⟨rfl, ⟨Ab, cb, K1.out.set_ 10 _, R1.out.set h3 _, h3, oo.own H4.out (fun x hx e => by omega)⟩, oo⟩
end Go.Proofs.YtcockikekgmfkaaGreatDoor
namespace Go.Proofs.YtcockikekgmfkaaGreatDoor
open Go.RowKit
attribute [local go_sem ↓] Go.wp_at_zero Go.wp_at_succ

set_option maxRecDepth 100000 in
set_option maxHeartbeats 2000000 in
theorem fw_bat (g K B : Nat) (q : Rq) (l : List UInt8) (W : World) (h : WqSt g K B q l W) (hl : l.length ≤ 20000) (hm : mayBt q.b = true) :
    Calls Tryz.prog 61 #[.pointer (some ⟨g, 0, none⟩)] W (WqOk g K B { q with b := Bat0 } (l ++ (cTxt 1024).e (encBt q.b)) W) := by
  obtain ⟨A, c, Ab, cb, h1, h2, h3, h4, h5, h6, h7, h8⟩ := h
  have Y1 := Lib.hid (RcBytes_ok q.b Ab cb W (h5.more (by omega)) hm)
  have hen := (encBt_len q.b hm).1
  have T1 := Lib.hid (fun w1 (b1 : Below W.heap.size W w1) => Text_ok A l c (bs (encBt q.b)) w1 ((Reads.of_own h2).below b1 |>.more b1.size) (by omega) (by rw [size_bs]; omega))
  rw [lb_bs] at T1
  have H1 := Lib.hid h1
  have H7 := Lib.hid h7
  have H2 := Lib.hid h2
  have x0 : W.cell? ⟨g, 0, none⟩ = some (.pointer none) := h1.cell 0
  have x1 : W.cell? ⟨g, 11, none⟩ = some (.int .i64 q.b.pid) := h1.cell 11
  have x2 : W.cell? ⟨g, 12, none⟩ = some (.int .i64 q.b.ep) := h1.cell 12
  have x3 : W.cell? ⟨g, 13, none⟩ = some (.int .i64 q.b.seq) := h1.cell 13
  have x4 : W.cell? ⟨g, 14, none⟩ = some (.bool q.b.txn) := h1.cell 14
  have x5 : W.cell? ⟨g, 15, none⟩ = some (.slice Ab q.b.rs.length cb) := h1.cell 15
  generalize l ++ (cTxt 1024).e (encBt q.b) = L at *
  clear h1 h2 h7 hm hen
  go_enter Tryz.func61, Tryz.ntmps61
  go_wp2_with fail
  refine Y1.out.mono ?_
  rintro e w1 ⟨rfl, b1⟩
  have T2 := Lib.hid (T1.out w1 b1)
  have k1 := H1.out.below b1 H1.out.lt
  have y6 : w1.cell? ⟨g, 16, none⟩ = some (.slice A l.length c) := k1.cell 16
  have K1 := Lib.hid k1
  have B1 := Lib.hid b1
  clear x0 x1 x2 x3 x4 x5 b1 k1
  go_wp2_with fail
  refine T2.out.mono ?_
  rintro e w2 ⟨A2, c2, rfl, o2, hc2, b2⟩
  have k2 := K1.out.below b2 K1.out.lt
  have u0 : w2.cell? ⟨g, 16, none⟩ = some (.slice A l.length c) := k2.cell 16
  have u1 : w2.cell? ⟨g, 11, none⟩ = some (.int .i64 q.b.pid) := k2.cell 11
  have u2 : w2.cell? ⟨g, 12, none⟩ = some (.int .i64 q.b.ep) := k2.cell 12
  have u3 : w2.cell? ⟨g, 13, none⟩ = some (.int .i64 q.b.seq) := k2.cell 13
  have u4 : w2.cell? ⟨g, 14, none⟩ = some (.bool q.b.txn) := k2.cell 14
  have u5 : w2.cell? ⟨g, 15, none⟩ = some (.slice Ab q.b.rs.length cb) := k2.cell 15
  have z0 := k2.frozen 16
  have z1 := k2.frozen 11
  have z2 := k2.frozen 12
  have z3 := k2.frozen 13
  have z4 := k2.frozen 14
  have z5 := k2.frozen 15
  have K2 := Lib.hid k2
  have O2 := Lib.hid o2
  have B2 := Lib.hid (btrans B1.out b2)
  have hw1 := B1.out.size
  clear b2 k2 o2 y6
  go_wp2_with fail
  go_end0
  have oo : Only (fun x => x = g) W ((((((w2.setCell ⟨g, 16, none⟩ (.slice A2 L.length c2)).setCell ⟨g, 11, none⟩ (.int .i64 0)).setCell ⟨g, 12, none⟩ (.int .i64 0)).setCell ⟨g, 13, none⟩ (.int .i64 0)).setCell ⟨g, 14, none⟩ (.bool false)).setCell ⟨g, 15, none⟩ (.slice none 0 0)) :=
    ((((((Only.of_below (fun x => x = g) B2.out).set (.inl rfl) _).set (.inl rfl) _).set (.inl rfl) _).set (.inl rfl) _).set (.inl rfl) _).set (.inl rfl) _
  exact ⟨rfl, ⟨A2, c2, none, 0, (((((K2.out.set_ 16 _).set_ 11 _).set_ 12 _).set_ 13 _).set_ 14 _).set_ 15 _, own_set (own_set (own_set (own_set (own_set (own_set (own_base O2.out (by omega)) h4 _) h4 _) h4 _) h4 _) h4 _) h4 _, by have := oo.size; omega, h4, Reads.none_, h6, hasET_only H7.out oo (fun e => by omega), h8⟩, oo⟩

set_option maxRecDepth 100000 in
set_option maxHeartbeats 2000000 in
theorem fx_bat (g K B : Nat) (q : Rq) (l : List UInt8) (W : World) (h : WqSt g K B q l W) (hm : mayBt q.b = false) :
    Calls Tryz.prog 61 #[.pointer (some ⟨g, 0, none⟩)] W (WqNo g W) := by
  obtain ⟨A, c, Ab, cb, h1, h2, h3, h4, h5, h6, h7, h8⟩ := h
  have Y1 := Lib.hid (RcBytes_no q.b Ab cb W (h5.more (by omega)) h7 hm)
  have H1 := Lib.hid h1
  have x0 : W.cell? ⟨g, 0, none⟩ = some (.pointer none) := h1.cell 0
  have x1 : W.cell? ⟨g, 11, none⟩ = some (.int .i64 q.b.pid) := h1.cell 11
  have x2 : W.cell? ⟨g, 12, none⟩ = some (.int .i64 q.b.ep) := h1.cell 12
  have x3 : W.cell? ⟨g, 13, none⟩ = some (.int .i64 q.b.seq) := h1.cell 13
  have x4 : W.cell? ⟨g, 14, none⟩ = some (.bool q.b.txn) := h1.cell 14
  have x5 : W.cell? ⟨g, 15, none⟩ = some (.slice Ab q.b.rs.length cb) := h1.cell 15
  clear h1 h2 h7 hm h5
  go_enter Tryz.func61, Tryz.ntmps61
  go_wp2_with fail
  refine Y1.out.mono ?_
  rintro e w1 ⟨rfl, b1⟩
  have k1 := H1.out.below b1 H1.out.lt
  have WR := Lib.hid (fun nm => wrong_any g _ nm 2 w1 k1 rfl)
  have B1 := Lib.hid b1
  clear x0 x1 x2 x3 x4 x5 b1 k1
  go_wp2_with fail
  refine (WR.out _).mono ?_
  rintro e w2 ⟨rfl, b, k2, hb, _, oo⟩
  have K2 := Lib.hid k2
  have HB := Lib.hid hb
  have OO := Lib.hid ((Only.of_below (fun x => x = g) B1.out).trans oo)
  clear k2 oo hb
  go_wp2_with fail
  go_end0
  exact ⟨rfl, ⟨b, K2.out.cell 17, HB.out⟩, OO.out⟩

/-- Bytes were wrong. -/
def RqErr (g gr : Nat) (w : World) (e : Ending) (w' : World) : Prop :=
  e = .returned (.tuple #[]) ∧ (∃ b, w'.cell? ⟨g, 17, none⟩ = some (.iface 69 (.pointer (some ⟨b, 0, none⟩))) ∧ w'.cell? ⟨b, 1, none⟩ = some (.int .i64 70)) ∧ Only (fun x => x = g ∨ x = gr) w w'

set_option maxRecDepth 100000 in
set_option maxHeartbeats 2000000 in
theorem fr_bat (B g gr : Nat) (s : ByteArray) (i j : Nat) (b b' : Bool) (t : List UInt8) (x : Bat) (q : Rq) (W : World) (h : RqSt B g gr s i b q W) (hz : rdTxt (lb s) i b 1024 = (t, j, b')) (hx : readBt t = (x, 0)) (ht : t.length ≤ 100000) :
    Calls Tryz.prog 61 #[.pointer (some ⟨g, 0, none⟩)] W (RqOk B g gr s j b' { q with b := x } W) := by
  obtain ⟨Ab, cb, h1, h2, h3, h4⟩ := h
  have N1 := Lib.hid (RTxt_z hz h2)
  have R1 := Lib.hid (fun w1 (hg : HasET w1) => RcRead_any (bs t) w1 hg (by rw [size_bs]; exact ht))
  rw [lb_bs, hx] at R1
  change Hid (∀ w1 (hg : HasET w1), Calls _ _ _ w1 (RbP x 0 w1)) at R1
  have x0 : W.cell? ⟨g, 0, none⟩ = some (.pointer (some ⟨gr, 0, none⟩)) := h1.cell 0
  have H1 := Lib.hid h1
  have hgr := h2.2.2.2.2.1
  have hne : ¬ g = gr := by omega
  clear h1 h2 h4 hz hx ht
  go_enter Tryz.func61, Tryz.ntmps61
  go_wp2_with fail
  refine N1.out.mono ?_
  rintro e w1 ⟨rfl, r1, o1⟩
  have R2 := Lib.hid (R1.out w1 r1.2.2.1)
  have K1 := Lib.hid (o1.blk H1.out hne)
  have hgl := (o1.blk H1.out hne).lt
  have Q1 := Lib.hid r1
  have O1 := Lib.hid o1
  clear r1 o1 x0
  go_wp2_with fail
  refine R2.out.mono ?_
  rintro e w2 ⟨A2, c2, rfl, o2, hc2, b2⟩
  have hs2 := b2.size
  have k2 := (K1.out.below b2 K1.out.lt).alloc (.cells #[.int .i64 x.pid, .int .i64 x.ep, .int .i64 x.seq, .bool x.txn, .slice A2 x.rs.length c2] 25)
  have m2 := blk_new w2 25 #[.int .i64 x.pid, .int .i64 x.ep, .int .i64 x.seq, .bool x.txn, .slice A2 x.rs.length c2] rfl
  have p0 := m2.cell 0
  have p1 := m2.cell 1
  have p2 := m2.cell 2
  have p3 := m2.cell 3
  have p4 := m2.cell 4
  have u1 : (w2.alloc (.cells #[.int .i64 x.pid, .int .i64 x.ep, .int .i64 x.seq, .bool x.txn, .slice A2 x.rs.length c2] 25)).cell? ⟨g, 11, none⟩ = some (.int .i64 q.b.pid) := k2.cell 11
  have u2 : (w2.alloc (.cells #[.int .i64 x.pid, .int .i64 x.ep, .int .i64 x.seq, .bool x.txn, .slice A2 x.rs.length c2] 25)).cell? ⟨g, 12, none⟩ = some (.int .i64 q.b.ep) := k2.cell 12
  have u3 : (w2.alloc (.cells #[.int .i64 x.pid, .int .i64 x.ep, .int .i64 x.seq, .bool x.txn, .slice A2 x.rs.length c2] 25)).cell? ⟨g, 13, none⟩ = some (.int .i64 q.b.seq) := k2.cell 13
  have u4 : (w2.alloc (.cells #[.int .i64 x.pid, .int .i64 x.ep, .int .i64 x.seq, .bool x.txn, .slice A2 x.rs.length c2] 25)).cell? ⟨g, 14, none⟩ = some (.bool q.b.txn) := k2.cell 14
  have u5 : (w2.alloc (.cells #[.int .i64 x.pid, .int .i64 x.ep, .int .i64 x.seq, .bool x.txn, .slice A2 x.rs.length c2] 25)).cell? ⟨g, 15, none⟩ = some (.slice Ab q.b.rs.length cb) := k2.cell 15
  have z1 := k2.frozen 11
  have z2 := k2.frozen 12
  have z3 := k2.frozen 13
  have z4 := k2.frozen 14
  have z5 := k2.frozen 15
  have K2 := Lib.hid k2
  have O2 := Lib.hid (o2.alloc (.cells #[.int .i64 x.pid, .int .i64 x.ep, .int .i64 x.seq, .bool x.txn, .slice A2 x.rs.length c2] 25))
  have Q2 := Lib.hid ((Q1.out.below (b2.mono (by omega))).alloc (.cells #[.int .i64 x.pid, .int .i64 x.ep, .int .i64 x.seq, .bool x.txn, .slice A2 x.rs.length c2] 25))
  have OO := Lib.hid (((O1.out.mono (S' := fun x => x = g ∨ x = gr) (fun x _ hx => .inr hx)).then_below b2).alloc (.cells #[.int .i64 x.pid, .int .i64 x.ep, .int .i64 x.seq, .bool x.txn, .slice A2 x.rs.length c2] 25))
  clear b2 k2 o2 m2
  go_wp2_with fail
  go_end0
  exact ⟨rfl, ⟨A2, c2, ((((K2.out.set_ 11 _).set_ 12 _).set_ 13 _).set_ 14 _).set_ 15 _, ((((Q2.out.set h3 _).set h3 _).set h3 _).set h3 _).set h3 _, h3, own_set (own_set (own_set (own_set (own_set (own_base O2.out (by omega)) (Nat.lt_succ_self _) _) (Nat.lt_succ_self _) _) (Nat.lt_succ_self _) _) (Nat.lt_succ_self _) _) (Nat.lt_succ_self _) _⟩, ((((OO.out.set (.inl (.inl rfl)) _).set (.inl (.inl rfl)) _).set (.inl (.inl rfl)) _).set (.inl (.inl rfl)) _).set (.inl (.inl rfl)) _⟩

set_option maxRecDepth 100000 in
set_option maxHeartbeats 2000000 in
theorem fr_bat_x (B g gr : Nat) (s : ByteArray) (i j : Nat) (b b' : Bool) (t : List UInt8) (x : Bat) (q : Rq) (W : World) (h : RqSt B g gr s i b q W) (hz : rdTxt (lb s) i b 1024 = (t, j, b')) (hx : readBt t = (x, 70)) (ht : t.length ≤ 100000) :
    Calls Tryz.prog 61 #[.pointer (some ⟨g, 0, none⟩)] W (RqErr g gr W) := by
  obtain ⟨Ab, cb, h1, h2, h3, h4⟩ := h
  have N1 := Lib.hid (RTxt_z hz h2)
  have R1 := Lib.hid (fun w1 (hg : HasET w1) => RcRead_any (bs t) w1 hg (by rw [size_bs]; exact ht))
  rw [lb_bs, hx] at R1
  change Hid (∀ w1 (hg : HasET w1), Calls _ _ _ w1 (RbP x 70 w1)) at R1
  have x0 : W.cell? ⟨g, 0, none⟩ = some (.pointer (some ⟨gr, 0, none⟩)) := h1.cell 0
  have H1 := Lib.hid h1
  have hgr := h2.2.2.2.2.1
  have hne : ¬ g = gr := by omega
  clear h1 h2 h4 hz hx ht
  go_enter Tryz.func61, Tryz.ntmps61
  go_wp2_with fail
  refine N1.out.mono ?_
  rintro e w1 ⟨rfl, r1, o1⟩
  have R2 := Lib.hid (R1.out w1 r1.2.2.1)
  have K1 := Lib.hid (o1.blk H1.out hne)
  have O1 := Lib.hid o1
  clear r1 o1 x0
  go_wp2_with fail
  refine R2.out.mono ?_
  rintro e w2 ⟨A2, c2, rfl, o2, hc2, b2⟩
  have k2 := (K1.out.below b2 K1.out.lt).alloc (.cells #[.int .i64 x.pid, .int .i64 x.ep, .int .i64 x.seq, .bool x.txn, .slice A2 x.rs.length c2] 25)
  have WR := Lib.hid (fun nm => wrong_any g _ nm 70 _ k2 rfl)
  have OO := Lib.hid (((O1.out.mono (S' := fun x => x = g ∨ x = gr) (fun x _ hx => .inr hx)).then_below b2).alloc (.cells #[.int .i64 x.pid, .int .i64 x.ep, .int .i64 x.seq, .bool x.txn, .slice A2 x.rs.length c2] 25))
  clear b2 k2 o2
  go_wp2_with fail
  refine (WR.out _).mono ?_
  rintro e w3 ⟨rfl, b, k3, hb, _, oo⟩
  have K3 := Lib.hid k3
  have HB := Lib.hid hb
  have O3 := Lib.hid (OO.out.trans (oo.mono (fun x _ hx => .inl hx)))
  clear k3 oo hb
  go_wp2_with fail
  go_end0
  exact ⟨rfl, ⟨b, K3.out.cell 17, HB.out⟩, O3.out⟩
end Go.Proofs.YtcockikekgmfkaaGreatDoor
