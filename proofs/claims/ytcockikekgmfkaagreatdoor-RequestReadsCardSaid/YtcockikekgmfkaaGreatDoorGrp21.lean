/-
  Layer 8: the field functions of the request's reader: what each writes, what each reads.
-/
import Derived.Test.YtcockikekgmfkaaGreatDoorGrp20
import Derived.Deep.RegionWith
namespace Go.Proofs.YtcockikekgmfkaaGreatDoor
open Go.RowKit
attribute [local go_sem ↓] Go.wp_at_zero Go.wp_at_succ

/-- Writing: what is left of the request; what is written; no error yet. -/
def WqSt (g K B : Nat) (q : Rq) (l : List UInt8) (W : World) : Prop :=
  ∃ A c Ab cb, RqB W g (rqC (.pointer none) q Ab cb (.slice A l.length c) .nilIface) ∧ W.ownsRow K 5 1 (.slice A l.length c) l.length (cellsB l) ∧ K ≤ W.heap.size ∧ g < K ∧
    Reads W B 2 Ab q.b.rs.length (cellsR q.b.rs) ∧ B ≤ g ∧ HasET W ∧ 0 < B
/-- An argument was wrong. -/
def WqBad (g : Nat) (W : World) : Prop := ∃ b, W.cell? ⟨g, 17, none⟩ = some (.iface 69 (.pointer (some ⟨b, 0, none⟩))) ∧ W.cell? ⟨b, 1, none⟩ = some (.int .i64 2)
def WqOk (g K B : Nat) (q : Rq) (l : List UInt8) (w : World) (e : Ending) (w' : World) : Prop := e = .returned (.tuple #[]) ∧ WqSt g K B q l w' ∧ Only (fun x => x = g) w w'
def WqNo (g : Nat) (w : World) (e : Ending) (w' : World) : Prop := e = .returned (.tuple #[]) ∧ WqBad g w' ∧ Only (fun x => x = g) w w'
/-- Reading: what is read; where the reader is; no error yet. -/
def RqSt (B g gr : Nat) (s : ByteArray) (i : Nat) (b : Bool) (q : Rq) (W : World) : Prop :=
  ∃ Ab cb, RqB W g (rqC (.pointer (some ⟨gr, 0, none⟩)) q Ab cb (.slice none 0 0) .nilIface) ∧ RdOk B W gr s i b ∧ B ≤ g ∧ W.ownsRow (g + 1) 41 2 (.slice Ab q.b.rs.length cb) q.b.rs.length (cellsR q.b.rs)
def RqOk (B g gr : Nat) (s : ByteArray) (i : Nat) (b : Bool) (q : Rq) (w : World) (e : Ending) (w' : World) : Prop := e = .returned (.tuple #[]) ∧ RqSt B g gr s i b q w' ∧ Only (fun x => x = g ∨ x = gr) w w'
theorem hasET_only {S : Nat → Prop} {w w' : World} (h : HasET w) (o : Only S w w') (hn : ¬ S 0) : HasET w' := (o.cell (p := ⟨0, 0, none⟩) h.lt hn).trans h

theorem fw_tid (g K B : Nat) (q : Rq) (l : List UInt8) (W : World) (h : WqSt g K B q l W) (hl : l.length ≤ 20000) (hr : 0 ≤ q.tid ∧ q.tid ≤ 2) :
    Calls Tryz.prog 58 #[.pointer (some ⟨g, 0, none⟩)] W (WqOk g K B { q with tid := 0 } (l ++ enc q.tid.toNat) W) := by
  obtain ⟨A, c, Ab, cb, h1, h2, h3, h4, h5, h6, h7, h8⟩ := h
  obtain ⟨n, hn⟩ := Int.eq_ofNat_of_zero_le (show 0 ≤ q.tid by omega)
  have e1 : (rqC (.pointer none) q Ab cb (.slice A l.length c) .nilIface)[2]? = some (.int .i64 (n : Int)) := by rw [← hn]; rfl
  have N1 := Lib.hid (fun nm => number_w g 2 K _ nm 0 2 n l A c W h1 rfl e1 (by omega) rfl h2 h3 h4 (by omega) (by omega) (by unfold maxNum; omega))
  have HN := Lib.hid hn
  have H5 := Lib.hid h5
  have H7 := Lib.hid h7
  clear e1 h1 h2 h5 h7 hn
  go_enter Tryz.func58, Tryz.ntmps58
  go_wp2_with fail
  refine (N1.out _).mono ?_
  rintro e w1 ⟨rfl, A1, c1, k1, o1, oo⟩
  have HK1 := Lib.hid k1
  have HO1 := Lib.hid o1
  have OO := Lib.hid oo
  clear k1 o1 oo
  go_wp2_with fail
  go_end0
  have hsz := OO.out.size
  refine ⟨rfl, ⟨A1, c1, Ab, cb, ?_, ?_, by omega, h4, OO.out.reads H5.out (by omega) (fun x hx e => by omega), h6, hasET_only H7.out OO.out (fun e => by omega), h8⟩, OO.out⟩
  · rw [HN.out, Int.toNat_natCast]; exact HK1.out
  · rw [HN.out, Int.toNat_natCast]; exact HO1.out
theorem fx_tid (g K B : Nat) (q : Rq) (l : List UInt8) (W : World) (h : WqSt g K B q l W) (hr : ¬ (0 ≤ q.tid ∧ q.tid ≤ 2)) :
    Calls Tryz.prog 58 #[.pointer (some ⟨g, 0, none⟩)] W (WqNo g W) := by
  obtain ⟨A, c, Ab, cb, h1, h2, h3, h4, h5, h6, h7, h8⟩ := h
  have N1 := Lib.hid (fun nm => number_x g 2 _ nm 0 2 q.tid W h1 rfl rfl rfl hr)
  clear h1 h2 h5 h7 hr
  go_enter Tryz.func58, Tryz.ntmps58
  go_wp2_with fail
  refine (N1.out _).mono ?_
  rintro e w1 ⟨rfl, b, k1, hb, _, oo⟩
  have HK1 := Lib.hid k1
  have OO := Lib.hid oo
  have HB := Lib.hid hb
  clear k1 oo hb
  go_wp2_with fail
  go_end0
  exact ⟨rfl, ⟨b, HK1.out.cell 17, HB.out⟩, OO.out⟩
theorem fr_tid (B g gr : Nat) (s : ByteArray) (i j : Nat) (b b' : Bool) (v : Int) (q : Rq) (W : World) (h : RqSt B g gr s i b q W) (hz : rdNum (lb s) i b 0 2 = (v, j, b')) :
    Calls Tryz.prog 58 #[.pointer (some ⟨g, 0, none⟩)] W (RqOk B g gr s j b' { q with tid := v } W) := by
  obtain ⟨Ab, cb, h1, h2, h3, h4⟩ := h
  have N1 := Lib.hid (fun nm => number_r B g gr 2 s _ nm 0 2 i j b b' v q.tid W h1 rfl rfl h2 h3 hz)
  have H4 := Lib.hid h4
  have hgr := h2.2.2.2.2.1
  clear h1 h2 h4 hz
  go_enter Tryz.func58, Tryz.ntmps58
  go_wp2_with fail
  refine (N1.out _).mono ?_
  rintro e w1 ⟨rfl, k1, r1, oo⟩
  have HK1 := Lib.hid k1
  have R1 := Lib.hid r1
  have OO := Lib.hid oo
  clear k1 r1 oo
  go_wp2_with fail
  go_end0
  exact ⟨rfl, ⟨Ab, cb, HK1.out, R1.out, h3, OO.out.own H4.out (fun x hx e => by omega)⟩, OO.out⟩

theorem fw_tm (g K B : Nat) (q : Rq) (l : List UInt8) (W : World) (h : WqSt g K B q l W) (hl : l.length ≤ 20000) (hr : 1 ≤ q.tm ∧ q.tm ≤ 20) :
    Calls Tryz.prog 59 #[.pointer (some ⟨g, 0, none⟩)] W (WqOk g K B { q with tm := 0 } (l ++ enc q.tm.toNat) W) := by
  obtain ⟨A, c, Ab, cb, h1, h2, h3, h4, h5, h6, h7, h8⟩ := h
  obtain ⟨n, hn⟩ := Int.eq_ofNat_of_zero_le (show 0 ≤ q.tm by omega)
  have e1 : (rqC (.pointer none) q Ab cb (.slice A l.length c) .nilIface)[3]? = some (.int .i64 (n : Int)) := by rw [← hn]; rfl
  have N1 := Lib.hid (fun nm => number_w g 3 K _ nm 1 20 n l A c W h1 rfl e1 (by omega) rfl h2 h3 h4 (by omega) (by omega) (by unfold maxNum; omega))
  have HN := Lib.hid hn
  have H5 := Lib.hid h5
  have H7 := Lib.hid h7
  clear e1 h1 h2 h5 h7 hn
  go_enter Tryz.func59, Tryz.ntmps59
  go_wp2_with fail
  refine (N1.out _).mono ?_
  rintro e w1 ⟨rfl, A1, c1, k1, o1, oo⟩
  have HK1 := Lib.hid k1
  have HO1 := Lib.hid o1
  have OO := Lib.hid oo
  clear k1 o1 oo
  go_wp2_with fail
  go_end0
  have hsz := OO.out.size
  refine ⟨rfl, ⟨A1, c1, Ab, cb, ?_, ?_, by omega, h4, OO.out.reads H5.out (by omega) (fun x hx e => by omega), h6, hasET_only H7.out OO.out (fun e => by omega), h8⟩, OO.out⟩
  · rw [HN.out, Int.toNat_natCast]; exact HK1.out
  · rw [HN.out, Int.toNat_natCast]; exact HO1.out
theorem fx_tm (g K B : Nat) (q : Rq) (l : List UInt8) (W : World) (h : WqSt g K B q l W) (hr : ¬ (1 ≤ q.tm ∧ q.tm ≤ 20)) :
    Calls Tryz.prog 59 #[.pointer (some ⟨g, 0, none⟩)] W (WqNo g W) := by
  obtain ⟨A, c, Ab, cb, h1, h2, h3, h4, h5, h6, h7, h8⟩ := h
  have N1 := Lib.hid (fun nm => number_x g 3 _ nm 1 20 q.tm W h1 rfl rfl rfl hr)
  clear h1 h2 h5 h7 hr
  go_enter Tryz.func59, Tryz.ntmps59
  go_wp2_with fail
  refine (N1.out _).mono ?_
  rintro e w1 ⟨rfl, b, k1, hb, _, oo⟩
  have HK1 := Lib.hid k1
  have OO := Lib.hid oo
  have HB := Lib.hid hb
  clear k1 oo hb
  go_wp2_with fail
  go_end0
  exact ⟨rfl, ⟨b, HK1.out.cell 17, HB.out⟩, OO.out⟩
theorem fr_tm (B g gr : Nat) (s : ByteArray) (i j : Nat) (b b' : Bool) (v : Int) (q : Rq) (W : World) (h : RqSt B g gr s i b q W) (hz : rdNum (lb s) i b 1 20 = (v, j, b')) :
    Calls Tryz.prog 59 #[.pointer (some ⟨g, 0, none⟩)] W (RqOk B g gr s j b' { q with tm := v } W) := by
  obtain ⟨Ab, cb, h1, h2, h3, h4⟩ := h
  have N1 := Lib.hid (fun nm => number_r B g gr 3 s _ nm 1 20 i j b b' v q.tm W h1 rfl rfl h2 h3 hz)
  have H4 := Lib.hid h4
  have hgr := h2.2.2.2.2.1
  clear h1 h2 h4 hz
  go_enter Tryz.func59, Tryz.ntmps59
  go_wp2_with fail
  refine (N1.out _).mono ?_
  rintro e w1 ⟨rfl, k1, r1, oo⟩
  have HK1 := Lib.hid k1
  have R1 := Lib.hid r1
  have OO := Lib.hid oo
  clear k1 r1 oo
  go_wp2_with fail
  go_end0
  exact ⟨rfl, ⟨Ab, cb, HK1.out, R1.out, h3, OO.out.own H4.out (fun x hx e => by omega)⟩, OO.out⟩

theorem fw_pid (g K B : Nat) (q : Rq) (l : List UInt8) (W : World) (h : WqSt g K B q l W) (hl : l.length ≤ 20000) (hr : 1 ≤ q.pid ∧ q.pid ≤ 8) :
    Calls Tryz.prog 62 #[.pointer (some ⟨g, 0, none⟩)] W (WqOk g K B { q with pid := 0 } (l ++ enc q.pid.toNat) W) := by
  obtain ⟨A, c, Ab, cb, h1, h2, h3, h4, h5, h6, h7, h8⟩ := h
  obtain ⟨n, hn⟩ := Int.eq_ofNat_of_zero_le (show 0 ≤ q.pid by omega)
  have e1 : (rqC (.pointer none) q Ab cb (.slice A l.length c) .nilIface)[4]? = some (.int .i64 (n : Int)) := by rw [← hn]; rfl
  have N1 := Lib.hid (fun nm => number_w g 4 K _ nm 1 8 n l A c W h1 rfl e1 (by omega) rfl h2 h3 h4 (by omega) (by omega) (by unfold maxNum; omega))
  have HN := Lib.hid hn
  have H5 := Lib.hid h5
  have H7 := Lib.hid h7
  clear e1 h1 h2 h5 h7 hn
  go_enter Tryz.func62, Tryz.ntmps62
  go_wp2_with fail
  refine (N1.out _).mono ?_
  rintro e w1 ⟨rfl, A1, c1, k1, o1, oo⟩
  have HK1 := Lib.hid k1
  have HO1 := Lib.hid o1
  have OO := Lib.hid oo
  clear k1 o1 oo
  go_wp2_with fail
  go_end0
  have hsz := OO.out.size
  refine ⟨rfl, ⟨A1, c1, Ab, cb, ?_, ?_, by omega, h4, OO.out.reads H5.out (by omega) (fun x hx e => by omega), h6, hasET_only H7.out OO.out (fun e => by omega), h8⟩, OO.out⟩
  · rw [HN.out, Int.toNat_natCast]; exact HK1.out
  · rw [HN.out, Int.toNat_natCast]; exact HO1.out
theorem fx_pid (g K B : Nat) (q : Rq) (l : List UInt8) (W : World) (h : WqSt g K B q l W) (hr : ¬ (1 ≤ q.pid ∧ q.pid ≤ 8)) :
    Calls Tryz.prog 62 #[.pointer (some ⟨g, 0, none⟩)] W (WqNo g W) := by
  obtain ⟨A, c, Ab, cb, h1, h2, h3, h4, h5, h6, h7, h8⟩ := h
  have N1 := Lib.hid (fun nm => number_x g 4 _ nm 1 8 q.pid W h1 rfl rfl rfl hr)
  clear h1 h2 h5 h7 hr
  go_enter Tryz.func62, Tryz.ntmps62
  go_wp2_with fail
  refine (N1.out _).mono ?_
  rintro e w1 ⟨rfl, b, k1, hb, _, oo⟩
  have HK1 := Lib.hid k1
  have OO := Lib.hid oo
  have HB := Lib.hid hb
  clear k1 oo hb
  go_wp2_with fail
  go_end0
  exact ⟨rfl, ⟨b, HK1.out.cell 17, HB.out⟩, OO.out⟩
theorem fr_pid (B g gr : Nat) (s : ByteArray) (i j : Nat) (b b' : Bool) (v : Int) (q : Rq) (W : World) (h : RqSt B g gr s i b q W) (hz : rdNum (lb s) i b 1 8 = (v, j, b')) :
    Calls Tryz.prog 62 #[.pointer (some ⟨g, 0, none⟩)] W (RqOk B g gr s j b' { q with pid := v } W) := by
  obtain ⟨Ab, cb, h1, h2, h3, h4⟩ := h
  have N1 := Lib.hid (fun nm => number_r B g gr 4 s _ nm 1 8 i j b b' v q.pid W h1 rfl rfl h2 h3 hz)
  have H4 := Lib.hid h4
  have hgr := h2.2.2.2.2.1
  clear h1 h2 h4 hz
  go_enter Tryz.func62, Tryz.ntmps62
  go_wp2_with fail
  refine (N1.out _).mono ?_
  rintro e w1 ⟨rfl, k1, r1, oo⟩
  have HK1 := Lib.hid k1
  have R1 := Lib.hid r1
  have OO := Lib.hid oo
  clear k1 r1 oo
  go_wp2_with fail
  go_end0
  exact ⟨rfl, ⟨Ab, cb, HK1.out, R1.out, h3, OO.out.own H4.out (fun x hx e => by omega)⟩, OO.out⟩

theorem fw_ep (g K B : Nat) (q : Rq) (l : List UInt8) (W : World) (h : WqSt g K B q l W) (hl : l.length ≤ 20000) (hr : 0 ≤ q.ep ∧ q.ep ≤ 100) :
    Calls Tryz.prog 63 #[.pointer (some ⟨g, 0, none⟩)] W (WqOk g K B { q with ep := 0 } (l ++ enc q.ep.toNat) W) := by
  obtain ⟨A, c, Ab, cb, h1, h2, h3, h4, h5, h6, h7, h8⟩ := h
  obtain ⟨n, hn⟩ := Int.eq_ofNat_of_zero_le (show 0 ≤ q.ep by omega)
  have e1 : (rqC (.pointer none) q Ab cb (.slice A l.length c) .nilIface)[5]? = some (.int .i64 (n : Int)) := by rw [← hn]; rfl
  have N1 := Lib.hid (fun nm => number_w g 5 K _ nm 0 100 n l A c W h1 rfl e1 (by omega) rfl h2 h3 h4 (by omega) (by omega) (by unfold maxNum; omega))
  have HN := Lib.hid hn
  have H5 := Lib.hid h5
  have H7 := Lib.hid h7
  clear e1 h1 h2 h5 h7 hn
  go_enter Tryz.func63, Tryz.ntmps63
  go_wp2_with fail
  refine (N1.out _).mono ?_
  rintro e w1 ⟨rfl, A1, c1, k1, o1, oo⟩
  have HK1 := Lib.hid k1
  have HO1 := Lib.hid o1
  have OO := Lib.hid oo
  clear k1 o1 oo
  go_wp2_with fail
  go_end0
  have hsz := OO.out.size
  refine ⟨rfl, ⟨A1, c1, Ab, cb, ?_, ?_, by omega, h4, OO.out.reads H5.out (by omega) (fun x hx e => by omega), h6, hasET_only H7.out OO.out (fun e => by omega), h8⟩, OO.out⟩
  · rw [HN.out, Int.toNat_natCast]; exact HK1.out
  · rw [HN.out, Int.toNat_natCast]; exact HO1.out
theorem fx_ep (g K B : Nat) (q : Rq) (l : List UInt8) (W : World) (h : WqSt g K B q l W) (hr : ¬ (0 ≤ q.ep ∧ q.ep ≤ 100)) :
    Calls Tryz.prog 63 #[.pointer (some ⟨g, 0, none⟩)] W (WqNo g W) := by
  obtain ⟨A, c, Ab, cb, h1, h2, h3, h4, h5, h6, h7, h8⟩ := h
  have N1 := Lib.hid (fun nm => number_x g 5 _ nm 0 100 q.ep W h1 rfl rfl rfl hr)
  clear h1 h2 h5 h7 hr
  go_enter Tryz.func63, Tryz.ntmps63
  go_wp2_with fail
  refine (N1.out _).mono ?_
  rintro e w1 ⟨rfl, b, k1, hb, _, oo⟩
  have HK1 := Lib.hid k1
  have OO := Lib.hid oo
  have HB := Lib.hid hb
  clear k1 oo hb
  go_wp2_with fail
  go_end0
  exact ⟨rfl, ⟨b, HK1.out.cell 17, HB.out⟩, OO.out⟩
theorem fr_ep (B g gr : Nat) (s : ByteArray) (i j : Nat) (b b' : Bool) (v : Int) (q : Rq) (W : World) (h : RqSt B g gr s i b q W) (hz : rdNum (lb s) i b 0 100 = (v, j, b')) :
    Calls Tryz.prog 63 #[.pointer (some ⟨g, 0, none⟩)] W (RqOk B g gr s j b' { q with ep := v } W) := by
  obtain ⟨Ab, cb, h1, h2, h3, h4⟩ := h
  have N1 := Lib.hid (fun nm => number_r B g gr 5 s _ nm 0 100 i j b b' v q.ep W h1 rfl rfl h2 h3 hz)
  have H4 := Lib.hid h4
  have hgr := h2.2.2.2.2.1
  clear h1 h2 h4 hz
  go_enter Tryz.func63, Tryz.ntmps63
  go_wp2_with fail
  refine (N1.out _).mono ?_
  rintro e w1 ⟨rfl, k1, r1, oo⟩
  have HK1 := Lib.hid k1
  have R1 := Lib.hid r1
  have OO := Lib.hid oo
  clear k1 r1 oo
  go_wp2_with fail
  go_end0
  exact ⟨rfl, ⟨Ab, cb, HK1.out, R1.out, h3, OO.out.own H4.out (fun x hx e => by omega)⟩, OO.out⟩

theorem fw_part (g K B : Nat) (q : Rq) (l : List UInt8) (W : World) (h : WqSt g K B q l W) (hl : l.length ≤ 20000) (hr : 0 ≤ q.part ∧ q.part ≤ 2) :
    Calls Tryz.prog 60 #[.pointer (some ⟨g, 0, none⟩)] W (WqOk g K B { q with part := 0 } (l ++ enc q.part.toNat) W) := by
  obtain ⟨A, c, Ab, cb, h1, h2, h3, h4, h5, h6, h7, h8⟩ := h
  obtain ⟨n, hn⟩ := Int.eq_ofNat_of_zero_le (show 0 ≤ q.part by omega)
  have e1 : (rqC (.pointer none) q Ab cb (.slice A l.length c) .nilIface)[6]? = some (.int .i64 (n : Int)) := by rw [← hn]; rfl
  have N1 := Lib.hid (fun nm => number_w g 6 K _ nm 0 2 n l A c W h1 rfl e1 (by omega) rfl h2 h3 h4 (by omega) (by omega) (by unfold maxNum; omega))
  have HN := Lib.hid hn
  have H5 := Lib.hid h5
  have H7 := Lib.hid h7
  clear e1 h1 h2 h5 h7 hn
  go_enter Tryz.func60, Tryz.ntmps60
  go_wp2_with fail
  refine (N1.out _).mono ?_
  rintro e w1 ⟨rfl, A1, c1, k1, o1, oo⟩
  have HK1 := Lib.hid k1
  have HO1 := Lib.hid o1
  have OO := Lib.hid oo
  clear k1 o1 oo
  go_wp2_with fail
  go_end0
  have hsz := OO.out.size
  refine ⟨rfl, ⟨A1, c1, Ab, cb, ?_, ?_, by omega, h4, OO.out.reads H5.out (by omega) (fun x hx e => by omega), h6, hasET_only H7.out OO.out (fun e => by omega), h8⟩, OO.out⟩
  · rw [HN.out, Int.toNat_natCast]; exact HK1.out
  · rw [HN.out, Int.toNat_natCast]; exact HO1.out
theorem fx_part (g K B : Nat) (q : Rq) (l : List UInt8) (W : World) (h : WqSt g K B q l W) (hr : ¬ (0 ≤ q.part ∧ q.part ≤ 2)) :
    Calls Tryz.prog 60 #[.pointer (some ⟨g, 0, none⟩)] W (WqNo g W) := by
  obtain ⟨A, c, Ab, cb, h1, h2, h3, h4, h5, h6, h7, h8⟩ := h
  have N1 := Lib.hid (fun nm => number_x g 6 _ nm 0 2 q.part W h1 rfl rfl rfl hr)
  clear h1 h2 h5 h7 hr
  go_enter Tryz.func60, Tryz.ntmps60
  go_wp2_with fail
  refine (N1.out _).mono ?_
  rintro e w1 ⟨rfl, b, k1, hb, _, oo⟩
  have HK1 := Lib.hid k1
  have OO := Lib.hid oo
  have HB := Lib.hid hb
  clear k1 oo hb
  go_wp2_with fail
  go_end0
  exact ⟨rfl, ⟨b, HK1.out.cell 17, HB.out⟩, OO.out⟩
theorem fr_part (B g gr : Nat) (s : ByteArray) (i j : Nat) (b b' : Bool) (v : Int) (q : Rq) (W : World) (h : RqSt B g gr s i b q W) (hz : rdNum (lb s) i b 0 2 = (v, j, b')) :
    Calls Tryz.prog 60 #[.pointer (some ⟨g, 0, none⟩)] W (RqOk B g gr s j b' { q with part := v } W) := by
  obtain ⟨Ab, cb, h1, h2, h3, h4⟩ := h
  have N1 := Lib.hid (fun nm => number_r B g gr 6 s _ nm 0 2 i j b b' v q.part W h1 rfl rfl h2 h3 hz)
  have H4 := Lib.hid h4
  have hgr := h2.2.2.2.2.1
  clear h1 h2 h4 hz
  go_enter Tryz.func60, Tryz.ntmps60
  go_wp2_with fail
  refine (N1.out _).mono ?_
  rintro e w1 ⟨rfl, k1, r1, oo⟩
  have HK1 := Lib.hid k1
  have R1 := Lib.hid r1
  have OO := Lib.hid oo
  clear k1 r1 oo
  go_wp2_with fail
  go_end0
  exact ⟨rfl, ⟨Ab, cb, HK1.out, R1.out, h3, OO.out.own H4.out (fun x hx e => by omega)⟩, OO.out⟩

theorem fw_grp (g K B : Nat) (q : Rq) (l : List UInt8) (W : World) (h : WqSt g K B q l W) (hl : l.length ≤ 20000) (hr : 0 ≤ q.grp ∧ q.grp ≤ 1) :
    Calls Tryz.prog 67 #[.pointer (some ⟨g, 0, none⟩)] W (WqOk g K B { q with grp := 0 } (l ++ enc q.grp.toNat) W) := by
  obtain ⟨A, c, Ab, cb, h1, h2, h3, h4, h5, h6, h7, h8⟩ := h
  obtain ⟨n, hn⟩ := Int.eq_ofNat_of_zero_le (show 0 ≤ q.grp by omega)
  have e1 : (rqC (.pointer none) q Ab cb (.slice A l.length c) .nilIface)[7]? = some (.int .i64 (n : Int)) := by rw [← hn]; rfl
  have N1 := Lib.hid (fun nm => number_w g 7 K _ nm 0 1 n l A c W h1 rfl e1 (by omega) rfl h2 h3 h4 (by omega) (by omega) (by unfold maxNum; omega))
  have HN := Lib.hid hn
  have H5 := Lib.hid h5
  have H7 := Lib.hid h7
  clear e1 h1 h2 h5 h7 hn
  go_enter Tryz.func67, Tryz.ntmps67
  go_wp2_with fail
  refine (N1.out _).mono ?_
  rintro e w1 ⟨rfl, A1, c1, k1, o1, oo⟩
  have HK1 := Lib.hid k1
  have HO1 := Lib.hid o1
  have OO := Lib.hid oo
  clear k1 o1 oo
  go_wp2_with fail
  go_end0
  have hsz := OO.out.size
  refine ⟨rfl, ⟨A1, c1, Ab, cb, ?_, ?_, by omega, h4, OO.out.reads H5.out (by omega) (fun x hx e => by omega), h6, hasET_only H7.out OO.out (fun e => by omega), h8⟩, OO.out⟩
  · rw [HN.out, Int.toNat_natCast]; exact HK1.out
  · rw [HN.out, Int.toNat_natCast]; exact HO1.out
theorem fx_grp (g K B : Nat) (q : Rq) (l : List UInt8) (W : World) (h : WqSt g K B q l W) (hr : ¬ (0 ≤ q.grp ∧ q.grp ≤ 1)) :
    Calls Tryz.prog 67 #[.pointer (some ⟨g, 0, none⟩)] W (WqNo g W) := by
  obtain ⟨A, c, Ab, cb, h1, h2, h3, h4, h5, h6, h7, h8⟩ := h
  have N1 := Lib.hid (fun nm => number_x g 7 _ nm 0 1 q.grp W h1 rfl rfl rfl hr)
  clear h1 h2 h5 h7 hr
  go_enter Tryz.func67, Tryz.ntmps67
  go_wp2_with fail
  refine (N1.out _).mono ?_
  rintro e w1 ⟨rfl, b, k1, hb, _, oo⟩
  have HK1 := Lib.hid k1
  have OO := Lib.hid oo
  have HB := Lib.hid hb
  clear k1 oo hb
  go_wp2_with fail
  go_end0
  exact ⟨rfl, ⟨b, HK1.out.cell 17, HB.out⟩, OO.out⟩
theorem fr_grp (B g gr : Nat) (s : ByteArray) (i j : Nat) (b b' : Bool) (v : Int) (q : Rq) (W : World) (h : RqSt B g gr s i b q W) (hz : rdNum (lb s) i b 0 1 = (v, j, b')) :
    Calls Tryz.prog 67 #[.pointer (some ⟨g, 0, none⟩)] W (RqOk B g gr s j b' { q with grp := v } W) := by
  obtain ⟨Ab, cb, h1, h2, h3, h4⟩ := h
  have N1 := Lib.hid (fun nm => number_r B g gr 7 s _ nm 0 1 i j b b' v q.grp W h1 rfl rfl h2 h3 hz)
  have H4 := Lib.hid h4
  have hgr := h2.2.2.2.2.1
  clear h1 h2 h4 hz
  go_enter Tryz.func67, Tryz.ntmps67
  go_wp2_with fail
  refine (N1.out _).mono ?_
  rintro e w1 ⟨rfl, k1, r1, oo⟩
  have HK1 := Lib.hid k1
  have R1 := Lib.hid r1
  have OO := Lib.hid oo
  clear k1 r1 oo
  go_wp2_with fail
  go_end0
  exact ⟨rfl, ⟨Ab, cb, HK1.out, R1.out, h3, OO.out.own H4.out (fun x hx e => by omega)⟩, OO.out⟩

theorem fw_off (g K B : Nat) (q : Rq) (l : List UInt8) (W : World) (h : WqSt g K B q l W) (hl : l.length ≤ 20000) (hr : 0 ≤ q.off ∧ q.off ≤ 1048576) :
    Calls Tryz.prog 65 #[.pointer (some ⟨g, 0, none⟩)] W (WqOk g K B { q with off := 0 } (l ++ enc q.off.toNat) W) := by
  obtain ⟨A, c, Ab, cb, h1, h2, h3, h4, h5, h6, h7, h8⟩ := h
  obtain ⟨n, hn⟩ := Int.eq_ofNat_of_zero_le (show 0 ≤ q.off by omega)
  have e1 : (rqC (.pointer none) q Ab cb (.slice A l.length c) .nilIface)[8]? = some (.int .i64 (n : Int)) := by rw [← hn]; rfl
  have N1 := Lib.hid (fun nm => number_w g 8 K _ nm 0 1048576 n l A c W h1 rfl e1 (by omega) rfl h2 h3 h4 (by omega) (by omega) (by unfold maxNum; omega))
  have HN := Lib.hid hn
  have H5 := Lib.hid h5
  have H7 := Lib.hid h7
  clear e1 h1 h2 h5 h7 hn
  go_enter Tryz.func65, Tryz.ntmps65
  go_wp2_with fail
  refine (N1.out _).mono ?_
  rintro e w1 ⟨rfl, A1, c1, k1, o1, oo⟩
  have HK1 := Lib.hid k1
  have HO1 := Lib.hid o1
  have OO := Lib.hid oo
  clear k1 o1 oo
  go_wp2_with fail
  go_end0
  have hsz := OO.out.size
  refine ⟨rfl, ⟨A1, c1, Ab, cb, ?_, ?_, by omega, h4, OO.out.reads H5.out (by omega) (fun x hx e => by omega), h6, hasET_only H7.out OO.out (fun e => by omega), h8⟩, OO.out⟩
  · rw [HN.out, Int.toNat_natCast]; exact HK1.out
  · rw [HN.out, Int.toNat_natCast]; exact HO1.out
theorem fx_off (g K B : Nat) (q : Rq) (l : List UInt8) (W : World) (h : WqSt g K B q l W) (hr : ¬ (0 ≤ q.off ∧ q.off ≤ 1048576)) :
    Calls Tryz.prog 65 #[.pointer (some ⟨g, 0, none⟩)] W (WqNo g W) := by
  obtain ⟨A, c, Ab, cb, h1, h2, h3, h4, h5, h6, h7, h8⟩ := h
  have N1 := Lib.hid (fun nm => number_x g 8 _ nm 0 1048576 q.off W h1 rfl rfl rfl hr)
  clear h1 h2 h5 h7 hr
  go_enter Tryz.func65, Tryz.ntmps65
  go_wp2_with fail
  refine (N1.out _).mono ?_
  rintro e w1 ⟨rfl, b, k1, hb, _, oo⟩
  have HK1 := Lib.hid k1
  have OO := Lib.hid oo
  have HB := Lib.hid hb
  clear k1 oo hb
  go_wp2_with fail
  go_end0
  exact ⟨rfl, ⟨b, HK1.out.cell 17, HB.out⟩, OO.out⟩
theorem fr_off (B g gr : Nat) (s : ByteArray) (i j : Nat) (b b' : Bool) (v : Int) (q : Rq) (W : World) (h : RqSt B g gr s i b q W) (hz : rdNum (lb s) i b 0 1048576 = (v, j, b')) :
    Calls Tryz.prog 65 #[.pointer (some ⟨g, 0, none⟩)] W (RqOk B g gr s j b' { q with off := v } W) := by
  obtain ⟨Ab, cb, h1, h2, h3, h4⟩ := h
  have N1 := Lib.hid (fun nm => number_r B g gr 8 s _ nm 0 1048576 i j b b' v q.off W h1 rfl rfl h2 h3 hz)
  have H4 := Lib.hid h4
  have hgr := h2.2.2.2.2.1
  clear h1 h2 h4 hz
  go_enter Tryz.func65, Tryz.ntmps65
  go_wp2_with fail
  refine (N1.out _).mono ?_
  rintro e w1 ⟨rfl, k1, r1, oo⟩
  have HK1 := Lib.hid k1
  have R1 := Lib.hid r1
  have OO := Lib.hid oo
  clear k1 r1 oo
  go_wp2_with fail
  go_end0
  exact ⟨rfl, ⟨Ab, cb, HK1.out, R1.out, h3, OO.out.own H4.out (fun x hx e => by omega)⟩, OO.out⟩

theorem fw_most (g K B : Nat) (q : Rq) (l : List UInt8) (W : World) (h : WqSt g K B q l W) (hl : l.length ≤ 20000) (hr : 1 ≤ q.most ∧ q.most ≤ 64) :
    Calls Tryz.prog 66 #[.pointer (some ⟨g, 0, none⟩)] W (WqOk g K B { q with most := 0 } (l ++ enc q.most.toNat) W) := by
  obtain ⟨A, c, Ab, cb, h1, h2, h3, h4, h5, h6, h7, h8⟩ := h
  obtain ⟨n, hn⟩ := Int.eq_ofNat_of_zero_le (show 0 ≤ q.most by omega)
  have e1 : (rqC (.pointer none) q Ab cb (.slice A l.length c) .nilIface)[9]? = some (.int .i64 (n : Int)) := by rw [← hn]; rfl
  have N1 := Lib.hid (fun nm => number_w g 9 K _ nm 1 64 n l A c W h1 rfl e1 (by omega) rfl h2 h3 h4 (by omega) (by omega) (by unfold maxNum; omega))
  have HN := Lib.hid hn
  have H5 := Lib.hid h5
  have H7 := Lib.hid h7
  clear e1 h1 h2 h5 h7 hn
  go_enter Tryz.func66, Tryz.ntmps66
  go_wp2_with fail
  refine (N1.out _).mono ?_
  rintro e w1 ⟨rfl, A1, c1, k1, o1, oo⟩
  have HK1 := Lib.hid k1
  have HO1 := Lib.hid o1
  have OO := Lib.hid oo
  clear k1 o1 oo
  go_wp2_with fail
  go_end0
  have hsz := OO.out.size
  refine ⟨rfl, ⟨A1, c1, Ab, cb, ?_, ?_, by omega, h4, OO.out.reads H5.out (by omega) (fun x hx e => by omega), h6, hasET_only H7.out OO.out (fun e => by omega), h8⟩, OO.out⟩
  · rw [HN.out, Int.toNat_natCast]; exact HK1.out
  · rw [HN.out, Int.toNat_natCast]; exact HO1.out
theorem fx_most (g K B : Nat) (q : Rq) (l : List UInt8) (W : World) (h : WqSt g K B q l W) (hr : ¬ (1 ≤ q.most ∧ q.most ≤ 64)) :
    Calls Tryz.prog 66 #[.pointer (some ⟨g, 0, none⟩)] W (WqNo g W) := by
  obtain ⟨A, c, Ab, cb, h1, h2, h3, h4, h5, h6, h7, h8⟩ := h
  have N1 := Lib.hid (fun nm => number_x g 9 _ nm 1 64 q.most W h1 rfl rfl rfl hr)
  clear h1 h2 h5 h7 hr
  go_enter Tryz.func66, Tryz.ntmps66
  go_wp2_with fail
  refine (N1.out _).mono ?_
  rintro e w1 ⟨rfl, b, k1, hb, _, oo⟩
  have HK1 := Lib.hid k1
  have OO := Lib.hid oo
  have HB := Lib.hid hb
  clear k1 oo hb
  go_wp2_with fail
  go_end0
  exact ⟨rfl, ⟨b, HK1.out.cell 17, HB.out⟩, OO.out⟩
theorem fr_most (B g gr : Nat) (s : ByteArray) (i j : Nat) (b b' : Bool) (v : Int) (q : Rq) (W : World) (h : RqSt B g gr s i b q W) (hz : rdNum (lb s) i b 1 64 = (v, j, b')) :
    Calls Tryz.prog 66 #[.pointer (some ⟨g, 0, none⟩)] W (RqOk B g gr s j b' { q with most := v } W) := by
  obtain ⟨Ab, cb, h1, h2, h3, h4⟩ := h
  have N1 := Lib.hid (fun nm => number_r B g gr 9 s _ nm 1 64 i j b b' v q.most W h1 rfl rfl h2 h3 hz)
  have H4 := Lib.hid h4
  have hgr := h2.2.2.2.2.1
  clear h1 h2 h4 hz
  go_enter Tryz.func66, Tryz.ntmps66
  go_wp2_with fail
  refine (N1.out _).mono ?_
  rintro e w1 ⟨rfl, k1, r1, oo⟩
  have HK1 := Lib.hid k1
  have R1 := Lib.hid r1
  have OO := Lib.hid oo
  clear k1 r1 oo
  go_wp2_with fail
  go_end0
  exact ⟨rfl, ⟨Ab, cb, HK1.out, R1.out, h3, OO.out.own H4.out (fun x hx e => by omega)⟩, OO.out⟩
end Go.Proofs.YtcockikekgmfkaaGreatDoor
