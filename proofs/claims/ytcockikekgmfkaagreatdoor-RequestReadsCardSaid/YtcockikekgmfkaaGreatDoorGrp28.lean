/-
  The document's May of a request, kind 7.
  The document's May of a request, kind 1.
  The document's May of a request, kind 2.
  The document's May of a request, kind 3.
  The document's May of a request, kind 4.
  The document's May of a request, kind 5.
  The document's May of a request, kind 6.
-/
import Derived.Test.YtcockikekgmfkaaGreatDoorGrp27
set_option linter.unusedVariables false
set_option linter.unusedSimpArgs false
namespace Go.Proofs.YtcockikekgmfkaaGreatDoor
open Go.RowKit

def own8_1 (q : Rq) : Rq := ⟨q.kd, q.tid, q.tm, 0, 0, 0, 0, 0, 0, false, Bat0⟩
theorem may8_1 (q : Rq) (hk : q.kd = 1) : mayRq q ↔ (inQ q.tid 0 2 = true ∧ inQ q.tm 1 20 = true) ∧ own8_1 q = q := by
  have hf : flOf q.kd = [.tid, .tm] := by rw [hk]; rfl
  have ho : ownRq q = own8_1 q := by
    unfold ownRq own8_1
    rw [hf]
    refine Rq.ext' rfl ?_ ?_ ?_ ?_ ?_ ?_ ?_ ?_ ?_ ?_
    · exact (if_pos (by decide) : (if Fl.tid ∈ ([.tid, .tm] : List Fl) then q.tid else (0 : Int)) = q.tid)
    · exact (if_pos (by decide) : (if Fl.tm ∈ ([.tid, .tm] : List Fl) then q.tm else (0 : Int)) = q.tm)
    · exact (if_neg (by decide) : (if Fl.pid ∈ ([.tid, .tm] : List Fl) then q.pid else (0 : Int)) = 0)
    · exact (if_neg (by decide) : (if Fl.ep ∈ ([.tid, .tm] : List Fl) then q.ep else (0 : Int)) = 0)
    · exact (if_neg (by decide) : (if Fl.part ∈ ([.tid, .tm] : List Fl) then q.part else (0 : Int)) = 0)
    · exact (if_neg (by decide) : (if Fl.grp ∈ ([.tid, .tm] : List Fl) then q.grp else (0 : Int)) = 0)
    · exact (if_neg (by decide) : (if Fl.off ∈ ([.tid, .tm] : List Fl) then q.off else (0 : Int)) = 0)
    · exact (if_neg (by decide) : (if Fl.most ∈ ([.tid, .tm] : List Fl) then q.most else (0 : Int)) = 0)
    · exact (if_neg (by decide) : (if Fl.yes ∈ ([.tid, .tm] : List Fl) then q.yes else (false : Bool)) = false)
    · exact (if_neg (by decide) : (if Fl.bat ∈ ([.tid, .tm] : List Fl) then q.b else (Bat0 : Bat)) = Bat0)
  rw [may_own, hf, ho]
  constructor
  · rintro ⟨_, h, hh⟩
    exact ⟨⟨(cI_iff 0 2 q.tid (by decide)).1 (h .tid (by decide)), (cI_iff 1 20 q.tm (by decide)).1 (h .tm (by decide))⟩, hh⟩
  · rintro ⟨⟨h0, h1⟩, hh⟩
    refine ⟨⟨by omega, by omega⟩, fun f hf => ?_, hh⟩
    cases f
    case tid => exact (cI_iff 0 2 q.tid (by decide)).2 h0
    case tm => exact (cI_iff 1 20 q.tm (by decide)).2 h1
    all_goals exact absurd hf (by decide)
set_option maxRecDepth 100000 in
set_option maxHeartbeats 4000000 in
theorem rrMay_1 (q : Rq) (hk : q.kd = 1) (A1 : Option Addr) (c1 : Nat) (w : World) (hr : Reads w w.heap.size 2 A1 q.b.rs.length (cellsR q.b.rs)) (hl : q.b.rs.length ≤ 1000000) :
    Calls Tryz.prog 10 #[(.agg #[.int .i8 q.kd, .int .i64 q.tid, .int .i64 q.tm, .int .i64 q.pid, .int .i64 q.ep, .int .i64 q.part, .int .i64 q.grp, .int .i64 q.off, .int .i64 q.most, .bool q.yes, .int .i64 q.b.pid, .int .i64 q.b.ep, .int .i64 q.b.seq, .bool q.b.txn, .slice A1 q.b.rs.length c1])] w fun e w' => ∃ r, e = .returned (.bool r) ∧ (r = true ↔ mayRq q) ∧ Below w.heap.size w w' := by
  have HR := Lib.hid (fun W (h : Below w.heap.size w W) => (hr.below h).more h.size)
  have HB := Lib.hid (fun x y => bal (bal (Below.refl w.heap.size w) x) y)
  have HK := Lib.hid (may8_1 q hk)
  have cc0 : (q.kd == 0) = false := by rw [hk]; rfl
  have cc1 : (q.kd == 1) = true := by rw [hk]; rfl
  have cc9 : (q.kd == 9) = false := by rw [hk]; rfl
  have SM := Lib.hid (fun W (h : Below w.heap.size w W) => rrSame_any (own8_1 q) q none A1 0 c1 W Reads.none_ (HR.out W h) (Nat.zero_le _))
  clear hr hk hl
  go_enter Tryz.func10, Tryz.ntmps10
  go_wp2_with (first | (go_at_call 23; refine (in8_any _ _ _ _).mono ?_; rintro e w1 ⟨rfl, rfl⟩) | (go_at_call 12; refine (SM.out _ (HB.out _ _)).mono ?_; rintro e w2 ⟨rfl, b2⟩; have B2 := Lib.hid (btrans (HB.out _ _) b2); clear b2))
  all_goals go_ret
  all_goals (refine ⟨_, rfl, ?_, (by first | exact B2.out | exact HB.out _ _)⟩; rw [HK.out]; first | (rw [sameRq_iff]; simp [*]) | simp [*])
end Go.Proofs.YtcockikekgmfkaaGreatDoor
namespace Go.Proofs.YtcockikekgmfkaaGreatDoor
open Go.RowKit

def own8_2 (q : Rq) : Rq := ⟨q.kd, 0, 0, 0, 0, q.part, 0, 0, 0, false, q.b⟩
theorem may8_2 (q : Rq) (hk : q.kd = 2) : mayRq q ↔ (inQ q.part 0 2 = true ∧ mayBt q.b = true) ∧ own8_2 q = q := by
  have hf : flOf q.kd = [.part, .bat] := by rw [hk]; rfl
  have ho : ownRq q = own8_2 q := by
    unfold ownRq own8_2
    rw [hf]
    refine Rq.ext' rfl ?_ ?_ ?_ ?_ ?_ ?_ ?_ ?_ ?_ ?_
    · exact (if_neg (by decide) : (if Fl.tid ∈ ([.part, .bat] : List Fl) then q.tid else (0 : Int)) = 0)
    · exact (if_neg (by decide) : (if Fl.tm ∈ ([.part, .bat] : List Fl) then q.tm else (0 : Int)) = 0)
    · exact (if_neg (by decide) : (if Fl.pid ∈ ([.part, .bat] : List Fl) then q.pid else (0 : Int)) = 0)
    · exact (if_neg (by decide) : (if Fl.ep ∈ ([.part, .bat] : List Fl) then q.ep else (0 : Int)) = 0)
    · exact (if_pos (by decide) : (if Fl.part ∈ ([.part, .bat] : List Fl) then q.part else (0 : Int)) = q.part)
    · exact (if_neg (by decide) : (if Fl.grp ∈ ([.part, .bat] : List Fl) then q.grp else (0 : Int)) = 0)
    · exact (if_neg (by decide) : (if Fl.off ∈ ([.part, .bat] : List Fl) then q.off else (0 : Int)) = 0)
    · exact (if_neg (by decide) : (if Fl.most ∈ ([.part, .bat] : List Fl) then q.most else (0 : Int)) = 0)
    · exact (if_neg (by decide) : (if Fl.yes ∈ ([.part, .bat] : List Fl) then q.yes else (false : Bool)) = false)
    · exact (if_pos (by decide) : (if Fl.bat ∈ ([.part, .bat] : List Fl) then q.b else (Bat0 : Bat)) = q.b)
  rw [may_own, hf, ho]
  constructor
  · rintro ⟨_, h, hh⟩
    exact ⟨⟨(cI_iff 0 2 q.part (by decide)).1 (h .part (by decide)), h .bat (by decide)⟩, hh⟩
  · rintro ⟨⟨h0, h1⟩, hh⟩
    refine ⟨⟨by omega, by omega⟩, fun f hf => ?_, hh⟩
    cases f
    case part => exact (cI_iff 0 2 q.part (by decide)).2 h0
    case bat => exact h1
    all_goals exact absurd hf (by decide)
set_option maxRecDepth 100000 in
set_option maxHeartbeats 4000000 in
theorem rrMay_2 (q : Rq) (hk : q.kd = 2) (A1 : Option Addr) (c1 : Nat) (w : World) (hr : Reads w w.heap.size 2 A1 q.b.rs.length (cellsR q.b.rs)) (hl : q.b.rs.length ≤ 1000000) :
    Calls Tryz.prog 10 #[(.agg #[.int .i8 q.kd, .int .i64 q.tid, .int .i64 q.tm, .int .i64 q.pid, .int .i64 q.ep, .int .i64 q.part, .int .i64 q.grp, .int .i64 q.off, .int .i64 q.most, .bool q.yes, .int .i64 q.b.pid, .int .i64 q.b.ep, .int .i64 q.b.seq, .bool q.b.txn, .slice A1 q.b.rs.length c1])] w fun e w' => ∃ r, e = .returned (.bool r) ∧ (r = true ↔ mayRq q) ∧ Below w.heap.size w w' := by
  have HR := Lib.hid (fun W (h : Below w.heap.size w W) => (hr.below h).more h.size)
  have HB := Lib.hid (fun x y => bal (bal (Below.refl w.heap.size w) x) y)
  have HK := Lib.hid (may8_2 q hk)
  have cc0 : (q.kd == 0) = false := by rw [hk]; rfl
  have cc1 : (q.kd == 1) = false := by rw [hk]; rfl
  have cc2 : (q.kd == 2) = true := by rw [hk]; rfl
  have cc9 : (q.kd == 9) = false := by rw [hk]; rfl
  have SM := Lib.hid (fun W (h : Below w.heap.size w W) => rrSame_any (own8_2 q) q A1 A1 c1 c1 W (HR.out W h) (HR.out W h) hl)
  have BM := Lib.hid (fun W (h : Below w.heap.size w W) => rRcMay_any q.b A1 c1 W (HR.out W h))
  clear hr hk hl
  go_enter Tryz.func10, Tryz.ntmps10
  have KR := Lib.hid (fun x => (blk_new w 27 #[.int .i8 q.kd, .int .i64 q.tid, .int .i64 q.tm, .int .i64 q.pid, .int .i64 q.ep, .int .i64 q.part, .int .i64 q.grp, .int .i64 q.off, .int .i64 q.most, .bool q.yes, .int .i64 q.b.pid, .int .i64 q.b.ep, .int .i64 q.b.seq, .bool q.b.txn, .slice A1 q.b.rs.length c1] (g := w.heap.size) rfl).alloc x)
  have KO := Lib.hid (blk_new (w.alloc (.cells #[.int .i8 q.kd, .int .i64 q.tid, .int .i64 q.tm, .int .i64 q.pid, .int .i64 q.ep, .int .i64 q.part, .int .i64 q.grp, .int .i64 q.off, .int .i64 q.most, .bool q.yes, .int .i64 q.b.pid, .int .i64 q.b.ep, .int .i64 q.b.seq, .bool q.b.txn, .slice A1 q.b.rs.length c1] 27)) 27 #[.int .i8 q.kd, .int .i64 0, .int .i64 0, .int .i64 0, .int .i64 0, .int .i64 0, .int .i64 0, .int .i64 0, .int .i64 0, .bool false, .int .i64 0, .int .i64 0, .int .i64 0, .bool false, .slice none 0 0] (g := w.heap.size + 1) (by simp))
  have hz : w.heap.size ≤ w.heap.size + 1 := by omega
  cases hp : inQ q.part 0 2
  case false =>
    go_wp2_with (go_at_call 23; refine (in8_any _ _ _ _).mono ?_; rintro e w1 ⟨rfl, rfl⟩)
    all_goals go_ret
    all_goals (refine ⟨_, rfl, ?_, HB.out _ _⟩; rw [HK.out]; simp [*])
  case true =>
    go_wp2_with (first | (go_at_call 23; refine (in8_any _ _ _ _).mono ?_; rintro e w1 ⟨rfl, rfl⟩) | (go_at_call 24; fail))
    all_goals
      refine (BM.out _ (HB.out _ _)).mono ?_
      rintro e w2 ⟨rfl, b2⟩
      have kr := (KR.out _).below b2 (by simp; omega)
      have ko := KO.out.below b2 (by simp)
      have B2 := Lib.hid (btrans (HB.out _ _) b2)
      have x0 := kr.cell 0
      have x1 := kr.cell 1
      have x2 := kr.cell 2
      have x3 := kr.cell 3
      have x4 := kr.cell 4
      have x5 := kr.cell 5
      have x6 := kr.cell 6
      have x7 := kr.cell 7
      have x8 := kr.cell 8
      have x9 := kr.cell 9
      have x10 := kr.cell 10
      have x11 := kr.cell 11
      have x12 := kr.cell 12
      have x13 := kr.cell 13
      have x14 := kr.cell 14
      have y0 := ko.cell 0
      have y1 := ko.cell 1
      have y2 := ko.cell 2
      have y3 := ko.cell 3
      have y4 := ko.cell 4
      have y5 := ko.cell 5
      have y6 := ko.cell 6
      have y7 := ko.cell 7
      have y8 := ko.cell 8
      have y9 := ko.cell 9
      have y10 := ko.cell 10
      have y11 := ko.cell 11
      have y12 := ko.cell 12
      have y13 := ko.cell 13
      have y14 := ko.cell 14
      have fy5 := ko.frozen 5
      have fy10 := ko.frozen 10
      have fy11 := ko.frozen 11
      have fy12 := ko.frozen 12
      have fy13 := ko.frozen 13
      have fy14 := ko.frozen 14
      clear kr ko b2
      go_wp2_with (go_at_call 12; refine (SM.out _ (bset (bset (bset (bset (bset (bset B2.out hz _) hz _) hz _) hz _) hz _) hz _)).mono ?_; rintro e w3 ⟨rfl, b3⟩; have B3 := Lib.hid (btrans (bset (bset (bset (bset (bset (bset B2.out hz _) hz _) hz _) hz _) hz _) hz _) b3); clear b3)
      all_goals go_ret
      all_goals (refine ⟨_, rfl, ?_, (by first | exact B3.out | exact (bset (bset (bset (bset (bset (bset B2.out hz _) hz _) hz _) hz _) hz _) hz _))⟩; rw [HK.out]; first | (rw [sameRq_iff]; simp [*]) | simp [*])
end Go.Proofs.YtcockikekgmfkaaGreatDoor
namespace Go.Proofs.YtcockikekgmfkaaGreatDoor
open Go.RowKit

def own8_3 (q : Rq) : Rq := ⟨q.kd, 0, 0, q.pid, q.ep, q.part, q.grp, q.off, 0, false, Bat0⟩
theorem may8_3 (q : Rq) (hk : q.kd = 3) : mayRq q ↔ (inQ q.pid 1 8 = true ∧ inQ q.ep 0 100 = true ∧ inQ q.grp 0 1 = true ∧ inQ q.part 0 2 = true ∧ inQ q.off 0 1048576 = true) ∧ own8_3 q = q := by
  have hf : flOf q.kd = [.pid, .ep, .grp, .part, .off] := by rw [hk]; rfl
  have ho : ownRq q = own8_3 q := by
    unfold ownRq own8_3
    rw [hf]
    refine Rq.ext' rfl ?_ ?_ ?_ ?_ ?_ ?_ ?_ ?_ ?_ ?_
    · exact (if_neg (by decide) : (if Fl.tid ∈ ([.pid, .ep, .grp, .part, .off] : List Fl) then q.tid else (0 : Int)) = 0)
    · exact (if_neg (by decide) : (if Fl.tm ∈ ([.pid, .ep, .grp, .part, .off] : List Fl) then q.tm else (0 : Int)) = 0)
    · exact (if_pos (by decide) : (if Fl.pid ∈ ([.pid, .ep, .grp, .part, .off] : List Fl) then q.pid else (0 : Int)) = q.pid)
    · exact (if_pos (by decide) : (if Fl.ep ∈ ([.pid, .ep, .grp, .part, .off] : List Fl) then q.ep else (0 : Int)) = q.ep)
    · exact (if_pos (by decide) : (if Fl.part ∈ ([.pid, .ep, .grp, .part, .off] : List Fl) then q.part else (0 : Int)) = q.part)
    · exact (if_pos (by decide) : (if Fl.grp ∈ ([.pid, .ep, .grp, .part, .off] : List Fl) then q.grp else (0 : Int)) = q.grp)
    · exact (if_pos (by decide) : (if Fl.off ∈ ([.pid, .ep, .grp, .part, .off] : List Fl) then q.off else (0 : Int)) = q.off)
    · exact (if_neg (by decide) : (if Fl.most ∈ ([.pid, .ep, .grp, .part, .off] : List Fl) then q.most else (0 : Int)) = 0)
    · exact (if_neg (by decide) : (if Fl.yes ∈ ([.pid, .ep, .grp, .part, .off] : List Fl) then q.yes else (false : Bool)) = false)
    · exact (if_neg (by decide) : (if Fl.bat ∈ ([.pid, .ep, .grp, .part, .off] : List Fl) then q.b else (Bat0 : Bat)) = Bat0)
  rw [may_own, hf, ho]
  constructor
  · rintro ⟨_, h, hh⟩
    exact ⟨⟨(cI_iff 1 8 q.pid (by decide)).1 (h .pid (by decide)), (cI_iff 0 100 q.ep (by decide)).1 (h .ep (by decide)), (cI_iff 0 1 q.grp (by decide)).1 (h .grp (by decide)), (cI_iff 0 2 q.part (by decide)).1 (h .part (by decide)), (cI_iff 0 1048576 q.off (by decide)).1 (h .off (by decide))⟩, hh⟩
  · rintro ⟨⟨h0, h1, h2, h3, h4⟩, hh⟩
    refine ⟨⟨by omega, by omega⟩, fun f hf => ?_, hh⟩
    cases f
    case pid => exact (cI_iff 1 8 q.pid (by decide)).2 h0
    case ep => exact (cI_iff 0 100 q.ep (by decide)).2 h1
    case part => exact (cI_iff 0 2 q.part (by decide)).2 h3
    case grp => exact (cI_iff 0 1 q.grp (by decide)).2 h2
    case off => exact (cI_iff 0 1048576 q.off (by decide)).2 h4
    all_goals exact absurd hf (by decide)
set_option maxRecDepth 100000 in
set_option maxHeartbeats 4000000 in
theorem rrMay_3 (q : Rq) (hk : q.kd = 3) (A1 : Option Addr) (c1 : Nat) (w : World) (hr : Reads w w.heap.size 2 A1 q.b.rs.length (cellsR q.b.rs)) (hl : q.b.rs.length ≤ 1000000) :
    Calls Tryz.prog 10 #[(.agg #[.int .i8 q.kd, .int .i64 q.tid, .int .i64 q.tm, .int .i64 q.pid, .int .i64 q.ep, .int .i64 q.part, .int .i64 q.grp, .int .i64 q.off, .int .i64 q.most, .bool q.yes, .int .i64 q.b.pid, .int .i64 q.b.ep, .int .i64 q.b.seq, .bool q.b.txn, .slice A1 q.b.rs.length c1])] w fun e w' => ∃ r, e = .returned (.bool r) ∧ (r = true ↔ mayRq q) ∧ Below w.heap.size w w' := by
  have HR := Lib.hid (fun W (h : Below w.heap.size w W) => (hr.below h).more h.size)
  have HB := Lib.hid (fun x y => bal (bal (Below.refl w.heap.size w) x) y)
  have HK := Lib.hid (may8_3 q hk)
  have cc0 : (q.kd == 0) = false := by rw [hk]; rfl
  have cc1 : (q.kd == 1) = false := by rw [hk]; rfl
  have cc2 : (q.kd == 2) = false := by rw [hk]; rfl
  have cc3 : (q.kd == 3) = true := by rw [hk]; rfl
  have cc9 : (q.kd == 9) = false := by rw [hk]; rfl
  have SM := Lib.hid (fun W (h : Below w.heap.size w W) => rrSame_any (own8_3 q) q none A1 0 c1 W Reads.none_ (HR.out W h) (Nat.zero_le _))
  clear hr hk hl
  go_enter Tryz.func10, Tryz.ntmps10
  go_wp2_with (first | (go_at_call 23; refine (in8_any _ _ _ _).mono ?_; rintro e w1 ⟨rfl, rfl⟩) | (go_at_call 12; refine (SM.out _ (HB.out _ _)).mono ?_; rintro e w2 ⟨rfl, b2⟩; have B2 := Lib.hid (btrans (HB.out _ _) b2); clear b2))
  all_goals go_ret
  all_goals (refine ⟨_, rfl, ?_, (by first | exact B2.out | exact HB.out _ _)⟩; rw [HK.out]; first | (rw [sameRq_iff]; simp [*]) | simp [*])
end Go.Proofs.YtcockikekgmfkaaGreatDoor
namespace Go.Proofs.YtcockikekgmfkaaGreatDoor
open Go.RowKit

def own8_4 (q : Rq) : Rq := ⟨q.kd, 0, 0, q.pid, q.ep, 0, 0, 0, 0, q.yes, Bat0⟩
theorem may8_4 (q : Rq) (hk : q.kd = 4) : mayRq q ↔ (inQ q.pid 1 8 = true ∧ inQ q.ep 0 100 = true) ∧ own8_4 q = q := by
  have hf : flOf q.kd = [.pid, .ep, .yes] := by rw [hk]; rfl
  have ho : ownRq q = own8_4 q := by
    unfold ownRq own8_4
    rw [hf]
    refine Rq.ext' rfl ?_ ?_ ?_ ?_ ?_ ?_ ?_ ?_ ?_ ?_
    · exact (if_neg (by decide) : (if Fl.tid ∈ ([.pid, .ep, .yes] : List Fl) then q.tid else (0 : Int)) = 0)
    · exact (if_neg (by decide) : (if Fl.tm ∈ ([.pid, .ep, .yes] : List Fl) then q.tm else (0 : Int)) = 0)
    · exact (if_pos (by decide) : (if Fl.pid ∈ ([.pid, .ep, .yes] : List Fl) then q.pid else (0 : Int)) = q.pid)
    · exact (if_pos (by decide) : (if Fl.ep ∈ ([.pid, .ep, .yes] : List Fl) then q.ep else (0 : Int)) = q.ep)
    · exact (if_neg (by decide) : (if Fl.part ∈ ([.pid, .ep, .yes] : List Fl) then q.part else (0 : Int)) = 0)
    · exact (if_neg (by decide) : (if Fl.grp ∈ ([.pid, .ep, .yes] : List Fl) then q.grp else (0 : Int)) = 0)
    · exact (if_neg (by decide) : (if Fl.off ∈ ([.pid, .ep, .yes] : List Fl) then q.off else (0 : Int)) = 0)
    · exact (if_neg (by decide) : (if Fl.most ∈ ([.pid, .ep, .yes] : List Fl) then q.most else (0 : Int)) = 0)
    · exact (if_pos (by decide) : (if Fl.yes ∈ ([.pid, .ep, .yes] : List Fl) then q.yes else (false : Bool)) = q.yes)
    · exact (if_neg (by decide) : (if Fl.bat ∈ ([.pid, .ep, .yes] : List Fl) then q.b else (Bat0 : Bat)) = Bat0)
  rw [may_own, hf, ho]
  constructor
  · rintro ⟨_, h, hh⟩
    exact ⟨⟨(cI_iff 1 8 q.pid (by decide)).1 (h .pid (by decide)), (cI_iff 0 100 q.ep (by decide)).1 (h .ep (by decide))⟩, hh⟩
  · rintro ⟨⟨h0, h1⟩, hh⟩
    refine ⟨⟨by omega, by omega⟩, fun f hf => ?_, hh⟩
    cases f
    case pid => exact (cI_iff 1 8 q.pid (by decide)).2 h0
    case ep => exact (cI_iff 0 100 q.ep (by decide)).2 h1
    case yes => exact trivial
    all_goals exact absurd hf (by decide)
set_option maxRecDepth 100000 in
set_option maxHeartbeats 4000000 in
theorem rrMay_4 (q : Rq) (hk : q.kd = 4) (A1 : Option Addr) (c1 : Nat) (w : World) (hr : Reads w w.heap.size 2 A1 q.b.rs.length (cellsR q.b.rs)) (hl : q.b.rs.length ≤ 1000000) :
    Calls Tryz.prog 10 #[(.agg #[.int .i8 q.kd, .int .i64 q.tid, .int .i64 q.tm, .int .i64 q.pid, .int .i64 q.ep, .int .i64 q.part, .int .i64 q.grp, .int .i64 q.off, .int .i64 q.most, .bool q.yes, .int .i64 q.b.pid, .int .i64 q.b.ep, .int .i64 q.b.seq, .bool q.b.txn, .slice A1 q.b.rs.length c1])] w fun e w' => ∃ r, e = .returned (.bool r) ∧ (r = true ↔ mayRq q) ∧ Below w.heap.size w w' := by
  have HR := Lib.hid (fun W (h : Below w.heap.size w W) => (hr.below h).more h.size)
  have HB := Lib.hid (fun x y => bal (bal (Below.refl w.heap.size w) x) y)
  have HK := Lib.hid (may8_4 q hk)
  have cc0 : (q.kd == 0) = false := by rw [hk]; rfl
  have cc1 : (q.kd == 1) = false := by rw [hk]; rfl
  have cc2 : (q.kd == 2) = false := by rw [hk]; rfl
  have cc3 : (q.kd == 3) = false := by rw [hk]; rfl
  have cc4 : (q.kd == 4) = true := by rw [hk]; rfl
  have cc9 : (q.kd == 9) = false := by rw [hk]; rfl
  have SM := Lib.hid (fun W (h : Below w.heap.size w W) => rrSame_any (own8_4 q) q none A1 0 c1 W Reads.none_ (HR.out W h) (Nat.zero_le _))
  clear hr hk hl
  go_enter Tryz.func10, Tryz.ntmps10
  go_wp2_with (first | (go_at_call 23; refine (in8_any _ _ _ _).mono ?_; rintro e w1 ⟨rfl, rfl⟩) | (go_at_call 12; refine (SM.out _ (HB.out _ _)).mono ?_; rintro e w2 ⟨rfl, b2⟩; have B2 := Lib.hid (btrans (HB.out _ _) b2); clear b2))
  all_goals go_ret
  all_goals (refine ⟨_, rfl, ?_, (by first | exact B2.out | exact HB.out _ _)⟩; rw [HK.out]; first | (rw [sameRq_iff]; simp [*]) | simp [*])
end Go.Proofs.YtcockikekgmfkaaGreatDoor
namespace Go.Proofs.YtcockikekgmfkaaGreatDoor
open Go.RowKit

def own8_5 (q : Rq) : Rq := ⟨q.kd, 0, 0, 0, 0, q.part, 0, q.off, q.most, q.yes, Bat0⟩
theorem may8_5 (q : Rq) (hk : q.kd = 5) : mayRq q ↔ (inQ q.part 0 2 = true ∧ inQ q.off 0 1048576 = true ∧ inQ q.most 1 64 = true) ∧ own8_5 q = q := by
  have hf : flOf q.kd = [.part, .off, .most, .yes] := by rw [hk]; rfl
  have ho : ownRq q = own8_5 q := by
    unfold ownRq own8_5
    rw [hf]
    refine Rq.ext' rfl ?_ ?_ ?_ ?_ ?_ ?_ ?_ ?_ ?_ ?_
    · exact (if_neg (by decide) : (if Fl.tid ∈ ([.part, .off, .most, .yes] : List Fl) then q.tid else (0 : Int)) = 0)
    · exact (if_neg (by decide) : (if Fl.tm ∈ ([.part, .off, .most, .yes] : List Fl) then q.tm else (0 : Int)) = 0)
    · exact (if_neg (by decide) : (if Fl.pid ∈ ([.part, .off, .most, .yes] : List Fl) then q.pid else (0 : Int)) = 0)
    · exact (if_neg (by decide) : (if Fl.ep ∈ ([.part, .off, .most, .yes] : List Fl) then q.ep else (0 : Int)) = 0)
    · exact (if_pos (by decide) : (if Fl.part ∈ ([.part, .off, .most, .yes] : List Fl) then q.part else (0 : Int)) = q.part)
    · exact (if_neg (by decide) : (if Fl.grp ∈ ([.part, .off, .most, .yes] : List Fl) then q.grp else (0 : Int)) = 0)
    · exact (if_pos (by decide) : (if Fl.off ∈ ([.part, .off, .most, .yes] : List Fl) then q.off else (0 : Int)) = q.off)
    · exact (if_pos (by decide) : (if Fl.most ∈ ([.part, .off, .most, .yes] : List Fl) then q.most else (0 : Int)) = q.most)
    · exact (if_pos (by decide) : (if Fl.yes ∈ ([.part, .off, .most, .yes] : List Fl) then q.yes else (false : Bool)) = q.yes)
    · exact (if_neg (by decide) : (if Fl.bat ∈ ([.part, .off, .most, .yes] : List Fl) then q.b else (Bat0 : Bat)) = Bat0)
  rw [may_own, hf, ho]
  constructor
  · rintro ⟨_, h, hh⟩
    exact ⟨⟨(cI_iff 0 2 q.part (by decide)).1 (h .part (by decide)), (cI_iff 0 1048576 q.off (by decide)).1 (h .off (by decide)), (cI_iff 1 64 q.most (by decide)).1 (h .most (by decide))⟩, hh⟩
  · rintro ⟨⟨h0, h1, h2⟩, hh⟩
    refine ⟨⟨by omega, by omega⟩, fun f hf => ?_, hh⟩
    cases f
    case part => exact (cI_iff 0 2 q.part (by decide)).2 h0
    case off => exact (cI_iff 0 1048576 q.off (by decide)).2 h1
    case most => exact (cI_iff 1 64 q.most (by decide)).2 h2
    case yes => exact trivial
    all_goals exact absurd hf (by decide)
set_option maxRecDepth 100000 in
set_option maxHeartbeats 4000000 in
theorem rrMay_5 (q : Rq) (hk : q.kd = 5) (A1 : Option Addr) (c1 : Nat) (w : World) (hr : Reads w w.heap.size 2 A1 q.b.rs.length (cellsR q.b.rs)) (hl : q.b.rs.length ≤ 1000000) :
    Calls Tryz.prog 10 #[(.agg #[.int .i8 q.kd, .int .i64 q.tid, .int .i64 q.tm, .int .i64 q.pid, .int .i64 q.ep, .int .i64 q.part, .int .i64 q.grp, .int .i64 q.off, .int .i64 q.most, .bool q.yes, .int .i64 q.b.pid, .int .i64 q.b.ep, .int .i64 q.b.seq, .bool q.b.txn, .slice A1 q.b.rs.length c1])] w fun e w' => ∃ r, e = .returned (.bool r) ∧ (r = true ↔ mayRq q) ∧ Below w.heap.size w w' := by
  have HR := Lib.hid (fun W (h : Below w.heap.size w W) => (hr.below h).more h.size)
  have HB := Lib.hid (fun x y => bal (bal (Below.refl w.heap.size w) x) y)
  have HK := Lib.hid (may8_5 q hk)
  have cc0 : (q.kd == 0) = false := by rw [hk]; rfl
  have cc1 : (q.kd == 1) = false := by rw [hk]; rfl
  have cc2 : (q.kd == 2) = false := by rw [hk]; rfl
  have cc3 : (q.kd == 3) = false := by rw [hk]; rfl
  have cc4 : (q.kd == 4) = false := by rw [hk]; rfl
  have cc5 : (q.kd == 5) = true := by rw [hk]; rfl
  have cc9 : (q.kd == 9) = false := by rw [hk]; rfl
  have SM := Lib.hid (fun W (h : Below w.heap.size w W) => rrSame_any (own8_5 q) q none A1 0 c1 W Reads.none_ (HR.out W h) (Nat.zero_le _))
  clear hr hk hl
  go_enter Tryz.func10, Tryz.ntmps10
  go_wp2_with (first | (go_at_call 23; refine (in8_any _ _ _ _).mono ?_; rintro e w1 ⟨rfl, rfl⟩) | (go_at_call 12; refine (SM.out _ (HB.out _ _)).mono ?_; rintro e w2 ⟨rfl, b2⟩; have B2 := Lib.hid (btrans (HB.out _ _) b2); clear b2))
  all_goals go_ret
  all_goals (refine ⟨_, rfl, ?_, (by first | exact B2.out | exact HB.out _ _)⟩; rw [HK.out]; first | (rw [sameRq_iff]; simp [*]) | simp [*])
end Go.Proofs.YtcockikekgmfkaaGreatDoor
namespace Go.Proofs.YtcockikekgmfkaaGreatDoor
open Go.RowKit

def own8_6 (q : Rq) : Rq := ⟨q.kd, 0, 0, 0, 0, q.part, q.grp, q.off, 0, false, Bat0⟩
theorem may8_6 (q : Rq) (hk : q.kd = 6) : mayRq q ↔ (inQ q.grp 0 1 = true ∧ inQ q.part 0 2 = true ∧ inQ q.off 0 1048576 = true) ∧ own8_6 q = q := by
  have hf : flOf q.kd = [.grp, .part, .off] := by rw [hk]; rfl
  have ho : ownRq q = own8_6 q := by
    unfold ownRq own8_6
    rw [hf]
    refine Rq.ext' rfl ?_ ?_ ?_ ?_ ?_ ?_ ?_ ?_ ?_ ?_
    · exact (if_neg (by decide) : (if Fl.tid ∈ ([.grp, .part, .off] : List Fl) then q.tid else (0 : Int)) = 0)
    · exact (if_neg (by decide) : (if Fl.tm ∈ ([.grp, .part, .off] : List Fl) then q.tm else (0 : Int)) = 0)
    · exact (if_neg (by decide) : (if Fl.pid ∈ ([.grp, .part, .off] : List Fl) then q.pid else (0 : Int)) = 0)
    · exact (if_neg (by decide) : (if Fl.ep ∈ ([.grp, .part, .off] : List Fl) then q.ep else (0 : Int)) = 0)
    · exact (if_pos (by decide) : (if Fl.part ∈ ([.grp, .part, .off] : List Fl) then q.part else (0 : Int)) = q.part)
    · exact (if_pos (by decide) : (if Fl.grp ∈ ([.grp, .part, .off] : List Fl) then q.grp else (0 : Int)) = q.grp)
    · exact (if_pos (by decide) : (if Fl.off ∈ ([.grp, .part, .off] : List Fl) then q.off else (0 : Int)) = q.off)
    · exact (if_neg (by decide) : (if Fl.most ∈ ([.grp, .part, .off] : List Fl) then q.most else (0 : Int)) = 0)
    · exact (if_neg (by decide) : (if Fl.yes ∈ ([.grp, .part, .off] : List Fl) then q.yes else (false : Bool)) = false)
    · exact (if_neg (by decide) : (if Fl.bat ∈ ([.grp, .part, .off] : List Fl) then q.b else (Bat0 : Bat)) = Bat0)
  rw [may_own, hf, ho]
  constructor
  · rintro ⟨_, h, hh⟩
    exact ⟨⟨(cI_iff 0 1 q.grp (by decide)).1 (h .grp (by decide)), (cI_iff 0 2 q.part (by decide)).1 (h .part (by decide)), (cI_iff 0 1048576 q.off (by decide)).1 (h .off (by decide))⟩, hh⟩
  · rintro ⟨⟨h0, h1, h2⟩, hh⟩
    refine ⟨⟨by omega, by omega⟩, fun f hf => ?_, hh⟩
    cases f
    case part => exact (cI_iff 0 2 q.part (by decide)).2 h1
    case grp => exact (cI_iff 0 1 q.grp (by decide)).2 h0
    case off => exact (cI_iff 0 1048576 q.off (by decide)).2 h2
    all_goals exact absurd hf (by decide)
set_option maxRecDepth 100000 in
set_option maxHeartbeats 4000000 in
theorem rrMay_6 (q : Rq) (hk : q.kd = 6) (A1 : Option Addr) (c1 : Nat) (w : World) (hr : Reads w w.heap.size 2 A1 q.b.rs.length (cellsR q.b.rs)) (hl : q.b.rs.length ≤ 1000000) :
    Calls Tryz.prog 10 #[(.agg #[.int .i8 q.kd, .int .i64 q.tid, .int .i64 q.tm, .int .i64 q.pid, .int .i64 q.ep, .int .i64 q.part, .int .i64 q.grp, .int .i64 q.off, .int .i64 q.most, .bool q.yes, .int .i64 q.b.pid, .int .i64 q.b.ep, .int .i64 q.b.seq, .bool q.b.txn, .slice A1 q.b.rs.length c1])] w fun e w' => ∃ r, e = .returned (.bool r) ∧ (r = true ↔ mayRq q) ∧ Below w.heap.size w w' := by
  have HR := Lib.hid (fun W (h : Below w.heap.size w W) => (hr.below h).more h.size)
  have HB := Lib.hid (fun x y => bal (bal (Below.refl w.heap.size w) x) y)
  have HK := Lib.hid (may8_6 q hk)
  have cc0 : (q.kd == 0) = false := by rw [hk]; rfl
  have cc1 : (q.kd == 1) = false := by rw [hk]; rfl
  have cc2 : (q.kd == 2) = false := by rw [hk]; rfl
  have cc3 : (q.kd == 3) = false := by rw [hk]; rfl
  have cc4 : (q.kd == 4) = false := by rw [hk]; rfl
  have cc5 : (q.kd == 5) = false := by rw [hk]; rfl
  have cc6 : (q.kd == 6) = true := by rw [hk]; rfl
  have cc9 : (q.kd == 9) = false := by rw [hk]; rfl
  have SM := Lib.hid (fun W (h : Below w.heap.size w W) => rrSame_any (own8_6 q) q none A1 0 c1 W Reads.none_ (HR.out W h) (Nat.zero_le _))
  clear hr hk hl
  go_enter Tryz.func10, Tryz.ntmps10
  go_wp2_with (first | (go_at_call 23; refine (in8_any _ _ _ _).mono ?_; rintro e w1 ⟨rfl, rfl⟩) | (go_at_call 12; refine (SM.out _ (HB.out _ _)).mono ?_; rintro e w2 ⟨rfl, b2⟩; have B2 := Lib.hid (btrans (HB.out _ _) b2); clear b2))
  all_goals go_ret
  all_goals (refine ⟨_, rfl, ?_, (by first | exact B2.out | exact HB.out _ _)⟩; rw [HK.out]; first | (rw [sameRq_iff]; simp [*]) | simp [*])
end Go.Proofs.YtcockikekgmfkaaGreatDoor
namespace Go.Proofs.YtcockikekgmfkaaGreatDoor
open Go.RowKit

def own8_7 (q : Rq) : Rq := ⟨q.kd, 0, 0, 0, 0, q.part, q.grp, 0, 0, false, Bat0⟩
theorem may8_7 (q : Rq) (hk : q.kd = 7) : mayRq q ↔ (inQ q.grp 0 1 = true ∧ inQ q.part 0 2 = true) ∧ own8_7 q = q := by
  have hf : flOf q.kd = [.grp, .part] := by rw [hk]; rfl
  have ho : ownRq q = own8_7 q := by
    unfold ownRq own8_7
    rw [hf]
    refine Rq.ext' rfl ?_ ?_ ?_ ?_ ?_ ?_ ?_ ?_ ?_ ?_
    · exact (if_neg (by decide) : (if Fl.tid ∈ ([.grp, .part] : List Fl) then q.tid else (0 : Int)) = 0)
    · exact (if_neg (by decide) : (if Fl.tm ∈ ([.grp, .part] : List Fl) then q.tm else (0 : Int)) = 0)
    · exact (if_neg (by decide) : (if Fl.pid ∈ ([.grp, .part] : List Fl) then q.pid else (0 : Int)) = 0)
    · exact (if_neg (by decide) : (if Fl.ep ∈ ([.grp, .part] : List Fl) then q.ep else (0 : Int)) = 0)
    · exact (if_pos (by decide) : (if Fl.part ∈ ([.grp, .part] : List Fl) then q.part else (0 : Int)) = q.part)
    · exact (if_pos (by decide) : (if Fl.grp ∈ ([.grp, .part] : List Fl) then q.grp else (0 : Int)) = q.grp)
    · exact (if_neg (by decide) : (if Fl.off ∈ ([.grp, .part] : List Fl) then q.off else (0 : Int)) = 0)
    · exact (if_neg (by decide) : (if Fl.most ∈ ([.grp, .part] : List Fl) then q.most else (0 : Int)) = 0)
    · exact (if_neg (by decide) : (if Fl.yes ∈ ([.grp, .part] : List Fl) then q.yes else (false : Bool)) = false)
    · exact (if_neg (by decide) : (if Fl.bat ∈ ([.grp, .part] : List Fl) then q.b else (Bat0 : Bat)) = Bat0)
  rw [may_own, hf, ho]
  constructor
  · rintro ⟨_, h, hh⟩
    exact ⟨⟨(cI_iff 0 1 q.grp (by decide)).1 (h .grp (by decide)), (cI_iff 0 2 q.part (by decide)).1 (h .part (by decide))⟩, hh⟩
  · rintro ⟨⟨h0, h1⟩, hh⟩
    refine ⟨⟨by omega, by omega⟩, fun f hf => ?_, hh⟩
    cases f
    case part => exact (cI_iff 0 2 q.part (by decide)).2 h1
    case grp => exact (cI_iff 0 1 q.grp (by decide)).2 h0
    all_goals exact absurd hf (by decide)
set_option maxRecDepth 100000 in
set_option maxHeartbeats 4000000 in
theorem rrMay_7 (q : Rq) (hk : q.kd = 7) (A1 : Option Addr) (c1 : Nat) (w : World) (hr : Reads w w.heap.size 2 A1 q.b.rs.length (cellsR q.b.rs)) (hl : q.b.rs.length ≤ 1000000) :
    Calls Tryz.prog 10 #[(.agg #[.int .i8 q.kd, .int .i64 q.tid, .int .i64 q.tm, .int .i64 q.pid, .int .i64 q.ep, .int .i64 q.part, .int .i64 q.grp, .int .i64 q.off, .int .i64 q.most, .bool q.yes, .int .i64 q.b.pid, .int .i64 q.b.ep, .int .i64 q.b.seq, .bool q.b.txn, .slice A1 q.b.rs.length c1])] w fun e w' => ∃ r, e = .returned (.bool r) ∧ (r = true ↔ mayRq q) ∧ Below w.heap.size w w' := by
  have HR := Lib.hid (fun W (h : Below w.heap.size w W) => (hr.below h).more h.size)
  have HB := Lib.hid (fun x y => bal (bal (Below.refl w.heap.size w) x) y)
  have HK := Lib.hid (may8_7 q hk)
  have cc0 : (q.kd == 0) = false := by rw [hk]; rfl
  have cc1 : (q.kd == 1) = false := by rw [hk]; rfl
  have cc2 : (q.kd == 2) = false := by rw [hk]; rfl
  have cc3 : (q.kd == 3) = false := by rw [hk]; rfl
  have cc4 : (q.kd == 4) = false := by rw [hk]; rfl
  have cc5 : (q.kd == 5) = false := by rw [hk]; rfl
  have cc6 : (q.kd == 6) = false := by rw [hk]; rfl
  have cc7 : (q.kd == 7) = true := by rw [hk]; rfl
  have cc9 : (q.kd == 9) = false := by rw [hk]; rfl
  have SM := Lib.hid (fun W (h : Below w.heap.size w W) => rrSame_any (own8_7 q) q none A1 0 c1 W Reads.none_ (HR.out W h) (Nat.zero_le _))
  clear hr hk hl
  go_enter Tryz.func10, Tryz.ntmps10
  go_wp2_with (first | (go_at_call 23; refine (in8_any _ _ _ _).mono ?_; rintro e w1 ⟨rfl, rfl⟩) | (go_at_call 12; refine (SM.out _ (HB.out _ _)).mono ?_; rintro e w2 ⟨rfl, b2⟩; have B2 := Lib.hid (btrans (HB.out _ _) b2); clear b2))
  all_goals go_ret
  all_goals (refine ⟨_, rfl, ?_, (by first | exact B2.out | exact HB.out _ _)⟩; rw [HK.out]; first | (rw [sameRq_iff]; simp [*]) | simp [*])
end Go.Proofs.YtcockikekgmfkaaGreatDoor
