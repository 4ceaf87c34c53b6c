/-
  Layer 20: whether two states are the same, by the document.
  Layer 21: what is left of a transaction: by the program and by the document.
-/
import Derived.Test.YtagclnmchkgpdaaGrp14
import Derived.Lib.MinMax
import Derived.Test.YtagclnmchkgpdaaGrp13
import Derived.Test.YtagclnmchkgpdaaGrp06
import Derived.Laws.StructEq
set_option linter.unusedVariables false
set_option linter.unusedSimpArgs false
namespace Go.Proofs.Ytagclnmchkgpdaa
open Go.RowKit
noncomputable def leftS (s : Sta) (t : Int) : Int := if 0 ≤ t ∧ t < 3 ∧ mayS s = true ∧ (s.tid t.toNat).st = 2 then max ((s.tid t.toNat).tm - (s.tid t.toNat).ag) 0 else -1
theorem may_tmag {c : Co} (h : mayB c = true) (h2 : c.st = 2) : 1 ≤ c.tm ∧ c.tm ≤ 20 ∧ 0 ≤ c.ag ∧ c.ag ≤ 1048576 := by
  have h1 := may_range h (by omega)
  unfold rangeB at h1
  simp only [Bool.and_eq_true, decide_eq_true_eq] at h1
  omega
section
attribute [-go_sem] loadCells storeVar
set_option maxRecDepth 100000 in
set_option maxHeartbeats 8000000 in
theorem cLeft_a (s : Sta) (a : Sad) (t : Int) (w : World) (h : StR w w.heap.size s a) (ht : t < 0) :
    Calls Try.prog 20 #[.agg (stX s a), .int .i64 t] w fun e w' => e = .returned (.int .i64 (leftS s t)) ∧ Below w.heap.size w w' := by
  obtain ⟨W0, hW0⟩ : ∃ W0, W0 = w.alloc (.cells (stX s a) 31) := ⟨_, rfl⟩
  have s0 : W0.heap.size = w.heap.size + 1 := by rw [hW0]; simp
  have B0 : Below w.heap.size w W0 := by rw [hW0]; exact bal (Below.refl _ _) _
  have K1 : Blk W0 w.heap.size 31 (stX s a) := by rw [hW0]; exact Blk.new w 31 (stX s a)
  have HW := Lib.hid hW0
  have HB := Lib.hid B0
  have HK := Lib.hid K1
  have L31 := st_load K1
  obtain ⟨m, hm⟩ : ∃ m, mayS s = m := ⟨_, rfl⟩
  have MY := Lib.hid (mMay_any s a w.heap.size W0 (h.below B0) B0.size)
  rw [hm] at MY
  have t0 : decide (t < 0) = true := decide_eq_true ht
  have HL := Lib.hid (show leftS s t = -1 by unfold leftS; rw [if_neg (by omega)])
  clear hW0 s0 B0 K1 h ht hm

  go_enter Try.func20, Try.ntmps20
  go_upto_region 1 with (fail)
  rw [← HW.out]
  go_wp2_with fail
  go_ret
  rw [HL.out]
  exact ⟨rfl, HB.out⟩
set_option maxRecDepth 100000 in
set_option maxHeartbeats 8000000 in
theorem cLeft_b (s : Sta) (a : Sad) (t : Int) (w : World) (h : StR w w.heap.size s a) (ht : 3 ≤ t) :
    Calls Try.prog 20 #[.agg (stX s a), .int .i64 t] w fun e w' => e = .returned (.int .i64 (leftS s t)) ∧ Below w.heap.size w w' := by
  obtain ⟨W0, hW0⟩ : ∃ W0, W0 = w.alloc (.cells (stX s a) 31) := ⟨_, rfl⟩
  have s0 : W0.heap.size = w.heap.size + 1 := by rw [hW0]; simp
  have B0 : Below w.heap.size w W0 := by rw [hW0]; exact bal (Below.refl _ _) _
  have K1 : Blk W0 w.heap.size 31 (stX s a) := by rw [hW0]; exact Blk.new w 31 (stX s a)
  have HW := Lib.hid hW0
  have HB := Lib.hid B0
  have HK := Lib.hid K1
  have L31 := st_load K1
  obtain ⟨m, hm⟩ : ∃ m, mayS s = m := ⟨_, rfl⟩
  have MY := Lib.hid (mMay_any s a w.heap.size W0 (h.below B0) B0.size)
  rw [hm] at MY
  have t0 : decide (t < 0) = false := decide_eq_false (by omega)
  have t3 : decide ((3 : Int) ≤ t) = true := decide_eq_true ht
  have HL := Lib.hid (show leftS s t = -1 by unfold leftS; rw [if_neg (by omega)])
  clear hW0 s0 B0 K1 h ht hm

  go_enter Try.func20, Try.ntmps20
  go_upto_region 1 with (fail)
  rw [← HW.out]
  go_wp2_with fail
  go_ret
  rw [HL.out]
  exact ⟨rfl, HB.out⟩
set_option maxRecDepth 100000 in
set_option maxHeartbeats 8000000 in
theorem cLeft_k (s : Sta) (a : Sad) (k : Nat) (w : World) (h : StR w w.heap.size s a) (hlt : k < 3) :
    Calls Try.prog 20 #[.agg (stX s a), .int .i64 (k : Int)] w fun e w' => e = .returned (.int .i64 (leftS s (k : Int))) ∧ Below w.heap.size w w' := by
  obtain ⟨W0, hW0⟩ : ∃ W0, W0 = w.alloc (.cells (stX s a) 31) := ⟨_, rfl⟩
  have s0 : W0.heap.size = w.heap.size + 1 := by rw [hW0]; simp
  have B0 : Below w.heap.size w W0 := by rw [hW0]; exact bal (Below.refl _ _) _
  have K1 : Blk W0 w.heap.size 31 (stX s a) := by rw [hW0]; exact Blk.new w 31 (stX s a)
  have HW := Lib.hid hW0
  have HB := Lib.hid B0
  have HK := Lib.hid K1
  have L31 := st_load K1
  obtain ⟨m, hm⟩ : ∃ m, mayS s = m := ⟨_, rfl⟩
  have MY := Lib.hid (mMay_any s a w.heap.size W0 (h.below B0) B0.size)
  rw [hm] at MY

  have t0 : decide ((k : Int) < 0) = false := decide_eq_false (by omega)
  have t3 : decide ((3 : Int) ≤ (k : Int)) = false := decide_eq_false (by omega)
  have i1 : (0 : Int) ≤ (k : Int) := by omega
  have i2 : (k : Int) < 3 := by omega
  have HL := Lib.hid (show leftS s (k : Int) = if m = true ∧ (s.tid k).st = 2 then max ((s.tid k).tm - (s.tid k).ag) 0 else -1 by
    unfold leftS
    rw [hm, Int.toNat_natCast]
    by_cases hh : m = true ∧ (s.tid k).st = 2
    · rw [if_pos hh, if_pos ⟨by omega, by omega, hh⟩]
    · rw [if_neg hh, if_neg (fun z => hh z.2.2)])
  have HM := Lib.hid hm
  clear hW0 s0 B0 K1 h hm 
  cases m
  · have HN := Lib.hid (show leftS s (k : Int) = -1 by rw [HL.out, if_neg (by simp)])
    go_enter Try.func20, Try.ntmps20
    go_upto_region 1 with (fail)
    rw [← HW.out]
    go_wp2_with fail
    refine MY.out.mono ?_
    rintro e w1 ⟨rfl, b1⟩
    have BB := Lib.hid (HB.out.trans (b1.mono HB.out.size))
    clear b1
    go_wp2_with fail
    go_ret
    rw [HN.out]
    exact ⟨rfl, BB.out⟩

  · obtain ⟨u, hu⟩ : ∃ u, ((s.tid k).st != 2) = u := ⟨_, rfl⟩
    have HU := Lib.hid hu
    clear hu
    go_enter Try.func20, Try.ntmps20
    go_upto_region 1 with (fail)
    rw [← HW.out]
    go_wp2_with fail
    refine MY.out.mono ?_
    rintro e w1 ⟨rfl, b1⟩
    have BB := Lib.hid (HB.out.trans (b1.mono HB.out.size))

    have HK1 := Lib.hid (HK.out.below b1 HK.out.lt)
    have x0 : w1.cell? ⟨w.heap.size, 1 + k * 8, none⟩ = some (.int .i8 (s.tid k).st) := st_cell HK1.out k hlt (j := 0) rfl
    clear b1 L31
    have hu := HU.out
    cases u
    · have h2 : (s.tid k).st = 2 := by simpa using hu
      have tb := may_tmag ((okT_iff s k).1 (((mayS_iff s).1 HM.out).2.2.1 k hlt)).1 h2
      have wr1 : IntKind.i64.wrap ((s.tid k).tm - (s.tid k).ag) = (s.tid k).tm - (s.tid k).ag := IntWalk.i64_in _ (by omega)
      have HN := Lib.hid (show leftS s (k : Int) = max ((s.tid k).tm - (s.tid k).ag) 0 by rw [HL.out]; exact if_pos ⟨by trivial, h2⟩)
      have c3 : ∀ n : BW w1.heap.size w1, n.1.cell? ⟨w.heap.size, 1 + k * 8 + 3, none⟩ = some (.int .i64 (s.tid k).tm) := fun n => st_cell (HK1.out.below n.2 HK1.out.lt) k hlt (j := 3) rfl
      have c7 : ∀ n : BW w1.heap.size w1, n.1.cell? ⟨w.heap.size, 1 + k * 8 + 7, none⟩ = some (.int .i64 (s.tid k).ag) := fun n => st_cell (HK1.out.below n.2 HK1.out.lt) k hlt (j := 7) rfl
      have HMX := Lib.hid (Int.max_comm ((s.tid k).tm - (s.tid k).ag) 0)
      clear h2 tb
      go_wp2_with fail
      refine wp_region_bq w1.heap.size (by kernel_rfl) (by kernel_rfl) ?_
      repeat (go_big_quiet_step (fail))
      refine wpQuiet_nil ?_
      rintro _ ⟨n, rfl⟩
      have BN := Lib.hid n.2
      clear c3 c7
      go_wp2_with fail
      go_ret
      rw [HN.out]
      exact ⟨rfl, BB.out.trans (BN.out.mono BB.out.size)⟩
    · have HN := Lib.hid (show leftS s (k : Int) = -1 by
        rw [HL.out, if_neg (fun z => by rw [z.2] at hu; cases hu)])
      go_wp2_with fail
      go_ret
      rw [HN.out]
      exact ⟨rfl, BB.out⟩
set_option maxRecDepth 100000 in
set_option maxHeartbeats 8000000 in
theorem rLeft_a (s : Sta) (a : Sad) (t : Int) (w : World) (h : StR w w.heap.size s a) (hb : StB s) (ht : t < 0) :
    Calls Try.prog 21 #[.agg (stX s a), .int .i64 t] w fun e w' => e = .returned (.int .i64 (leftS s t)) ∧ Below w.heap.size w w' := by
  obtain ⟨W0, hW0⟩ : ∃ W0, W0 = w.alloc (.cells (stX s a) 31) := ⟨_, rfl⟩
  have s0 : W0.heap.size = w.heap.size + 1 := by rw [hW0]; simp
  have B0 : Below w.heap.size w W0 := by rw [hW0]; exact bal (Below.refl _ _) _
  have K1 : Blk W0 w.heap.size 31 (stX s a) := by rw [hW0]; exact Blk.new w 31 (stX s a)
  have HW := Lib.hid hW0
  have HB := Lib.hid B0
  have HK := Lib.hid K1
  have L31 := st_load K1
  obtain ⟨m, hm⟩ : ∃ m, mayS s = m := ⟨_, rfl⟩
  have MY := Lib.hid (rMayS_any s a w.heap.size W0 (h.below B0) B0.size hb)
  rw [hm] at MY
  have t0 : decide (t < 0) = true := decide_eq_true ht
  have HL := Lib.hid (show leftS s t = -1 by unfold leftS; rw [if_neg (by omega)])
  clear hW0 s0 B0 K1 h ht hm hb
  cases m
  all_goals
    go_enter Try.func21, Try.ntmps21
    go_upto_region 1 with (fail)
    rw [← HW.out]
    go_wp2_with fail
    refine MY.out.mono ?_
    rintro e w1 ⟨rfl, b1⟩
    have BB := Lib.hid (HB.out.trans (b1.mono HB.out.size))
    clear b1
    go_wp2_with fail
    go_ret
    rw [HL.out]
    exact ⟨rfl, BB.out⟩
set_option maxRecDepth 100000 in
set_option maxHeartbeats 8000000 in
theorem rLeft_b (s : Sta) (a : Sad) (t : Int) (w : World) (h : StR w w.heap.size s a) (hb : StB s) (ht : 3 ≤ t) :
    Calls Try.prog 21 #[.agg (stX s a), .int .i64 t] w fun e w' => e = .returned (.int .i64 (leftS s t)) ∧ Below w.heap.size w w' := by
  obtain ⟨W0, hW0⟩ : ∃ W0, W0 = w.alloc (.cells (stX s a) 31) := ⟨_, rfl⟩
  have s0 : W0.heap.size = w.heap.size + 1 := by rw [hW0]; simp
  have B0 : Below w.heap.size w W0 := by rw [hW0]; exact bal (Below.refl _ _) _
  have K1 : Blk W0 w.heap.size 31 (stX s a) := by rw [hW0]; exact Blk.new w 31 (stX s a)
  have HW := Lib.hid hW0
  have HB := Lib.hid B0
  have HK := Lib.hid K1
  have L31 := st_load K1
  obtain ⟨m, hm⟩ : ∃ m, mayS s = m := ⟨_, rfl⟩
  have MY := Lib.hid (rMayS_any s a w.heap.size W0 (h.below B0) B0.size hb)
  rw [hm] at MY
  have t0 : decide (t < 0) = false := decide_eq_false (by omega)
  have t3 : decide ((3 : Int) ≤ t) = true := decide_eq_true ht
  have HL := Lib.hid (show leftS s t = -1 by unfold leftS; rw [if_neg (by omega)])
  clear hW0 s0 B0 K1 h ht hm hb
  cases m
  all_goals
    go_enter Try.func21, Try.ntmps21
    go_upto_region 1 with (fail)
    rw [← HW.out]
    go_wp2_with fail
    refine MY.out.mono ?_
    rintro e w1 ⟨rfl, b1⟩
    have BB := Lib.hid (HB.out.trans (b1.mono HB.out.size))
    clear b1
    go_wp2_with fail
    go_ret
    rw [HL.out]
    exact ⟨rfl, BB.out⟩
set_option maxRecDepth 100000 in
set_option maxHeartbeats 8000000 in
theorem rLeft_k (s : Sta) (a : Sad) (k : Nat) (w : World) (h : StR w w.heap.size s a) (hb : StB s) (hlt : k < 3) :
    Calls Try.prog 21 #[.agg (stX s a), .int .i64 (k : Int)] w fun e w' => e = .returned (.int .i64 (leftS s (k : Int))) ∧ Below w.heap.size w w' := by
  obtain ⟨W0, hW0⟩ : ∃ W0, W0 = w.alloc (.cells (stX s a) 31) := ⟨_, rfl⟩
  have s0 : W0.heap.size = w.heap.size + 1 := by rw [hW0]; simp
  have B0 : Below w.heap.size w W0 := by rw [hW0]; exact bal (Below.refl _ _) _
  have K1 : Blk W0 w.heap.size 31 (stX s a) := by rw [hW0]; exact Blk.new w 31 (stX s a)
  have HW := Lib.hid hW0
  have HB := Lib.hid B0
  have HK := Lib.hid K1
  have L31 := st_load K1
  obtain ⟨m, hm⟩ : ∃ m, mayS s = m := ⟨_, rfl⟩
  have MY := Lib.hid (rMayS_any s a w.heap.size W0 (h.below B0) B0.size hb)
  rw [hm] at MY

  have t0 : decide ((k : Int) < 0) = false := decide_eq_false (by omega)
  have t3 : decide ((3 : Int) ≤ (k : Int)) = false := decide_eq_false (by omega)
  have i1 : (0 : Int) ≤ (k : Int) := by omega
  have i2 : (k : Int) < 3 := by omega
  have HL := Lib.hid (show leftS s (k : Int) = if m = true ∧ (s.tid k).st = 2 then max ((s.tid k).tm - (s.tid k).ag) 0 else -1 by
    unfold leftS
    rw [hm, Int.toNat_natCast]
    by_cases hh : m = true ∧ (s.tid k).st = 2
    · rw [if_pos hh, if_pos ⟨by omega, by omega, hh⟩]
    · rw [if_neg hh, if_neg (fun z => hh z.2.2)])
  have HM := Lib.hid hm
  clear hW0 s0 B0 K1 h hm hb
  cases m
  · have HN := Lib.hid (show leftS s (k : Int) = -1 by rw [HL.out, if_neg (by simp)])
    go_enter Try.func21, Try.ntmps21
    go_upto_region 1 with (fail)
    rw [← HW.out]
    go_wp2_with fail
    refine MY.out.mono ?_
    rintro e w1 ⟨rfl, b1⟩
    have BB := Lib.hid (HB.out.trans (b1.mono HB.out.size))
    clear b1
    go_wp2_with fail
    go_ret
    rw [HN.out]
    exact ⟨rfl, BB.out⟩

  · obtain ⟨u, hu⟩ : ∃ u, ((s.tid k).st != 2) = u := ⟨_, rfl⟩
    have HU := Lib.hid hu
    clear hu
    go_enter Try.func21, Try.ntmps21
    go_upto_region 1 with (fail)
    rw [← HW.out]
    go_wp2_with fail
    refine MY.out.mono ?_
    rintro e w1 ⟨rfl, b1⟩
    have BB := Lib.hid (HB.out.trans (b1.mono HB.out.size))

    have HK1 := Lib.hid (HK.out.below b1 HK.out.lt)
    have x0 : w1.cell? ⟨w.heap.size, 1 + k * 8, none⟩ = some (.int .i8 (s.tid k).st) := st_cell HK1.out k hlt (j := 0) rfl
    clear b1 L31
    have hu := HU.out
    cases u
    · have h2 : (s.tid k).st = 2 := by simpa using hu
      have tb := may_tmag ((okT_iff s k).1 (((mayS_iff s).1 HM.out).2.2.1 k hlt)).1 h2
      have wr1 : IntKind.i64.wrap ((s.tid k).tm - (s.tid k).ag) = (s.tid k).tm - (s.tid k).ag := IntWalk.i64_in _ (by omega)
      have HN := Lib.hid (show leftS s (k : Int) = max ((s.tid k).tm - (s.tid k).ag) 0 by rw [HL.out]; exact if_pos ⟨by trivial, h2⟩)
      have c3 : ∀ n : BW w1.heap.size w1, n.1.cell? ⟨w.heap.size, 1 + k * 8 + 3, none⟩ = some (.int .i64 (s.tid k).tm) := fun n => st_cell (HK1.out.below n.2 HK1.out.lt) k hlt (j := 3) rfl
      have c7 : ∀ n : BW w1.heap.size w1, n.1.cell? ⟨w.heap.size, 1 + k * 8 + 7, none⟩ = some (.int .i64 (s.tid k).ag) := fun n => st_cell (HK1.out.below n.2 HK1.out.lt) k hlt (j := 7) rfl
      have HMX := Lib.hid (Int.max_comm ((s.tid k).tm - (s.tid k).ag) 0)
      clear h2 tb
      go_wp2_with fail
      refine wp_region_bq w1.heap.size (by kernel_rfl) (by kernel_rfl) ?_
      repeat (go_big_quiet_step (fail))
      refine wpQuiet_nil ?_
      rintro _ ⟨n, rfl⟩
      have BN := Lib.hid n.2
      clear c3 c7
      go_wp2_with fail
      go_ret
      rw [HN.out]
      rw [HMX.out]
      exact ⟨rfl, BB.out.trans (BN.out.mono BB.out.size)⟩
    · have HN := Lib.hid (show leftS s (k : Int) = -1 by
        rw [HL.out, if_neg (fun z => by rw [z.2] at hu; cases hu)])
      go_wp2_with fail
      go_ret
      rw [HN.out]
      exact ⟨rfl, BB.out⟩
end
theorem cLeft_any (s : Sta) (a : Sad) (t : Int) (w : World) (h : StR w w.heap.size s a) :
    Calls Try.prog 20 #[.agg (stX s a), .int .i64 t] w fun e w' => e = .returned (.int .i64 (leftS s t)) ∧ Below w.heap.size w w' := by
  by_cases h1 : t < 0
  · exact cLeft_a s a t w h h1
  by_cases h2 : 3 ≤ t
  · exact cLeft_b s a t w h h2
  obtain ⟨k, rfl⟩ : ∃ k : Nat, t = (k : Int) := ⟨t.toNat, by omega⟩
  exact cLeft_k s a k w h (by omega)
theorem rLeft_any (s : Sta) (a : Sad) (t : Int) (w : World) (h : StR w w.heap.size s a) (hb : StB s) :
    Calls Try.prog 21 #[.agg (stX s a), .int .i64 t] w fun e w' => e = .returned (.int .i64 (leftS s t)) ∧ Below w.heap.size w w' := by
  by_cases h1 : t < 0
  · exact rLeft_a s a t w h hb h1
  by_cases h2 : 3 ≤ t
  · exact rLeft_b s a t w h hb h2
  obtain ⟨k, rfl⟩ : ∃ k : Nat, t = (k : Int) := ⟨t.toNat, by omega⟩
  exact rLeft_k s a k w h hb (by omega)
end Go.Proofs.Ytagclnmchkgpdaa
namespace Go.Proofs.Ytagclnmchkgpdaa
open Go.RowKit
def grsB (s t : Sta) : Bool := ((s.gr 0 == t.gr 0) && ((s.gr 1 == t.gr 1) && (s.gr 2 == t.gr 2))) && ((s.gr 3 == t.gr 3) && ((s.gr 4 == t.gr 4) && (s.gr 5 == t.gr 5)))
def sameS (s t : Sta) : Bool := (List.range 3).all (fun k => sameB (s.tid k) (t.tid k)) && ((s.made == t.made) && grsB s t)
theorem eqR3 (d : Nat) (a0 a1 a2 b0 b1 b2 : Int) (w : World) : (Op.equalIn (d + 1 + 1) 28 (.agg #[.int .i64 a0, .int .i64 a1, .int .i64 a2]) (.agg #[.int .i64 b0, .int .i64 b1, .int .i64 b2])).run Try.prog w = .ok ((a0 == b0) && ((a1 == b1) && (a2 == b2))) w := by
  have u3 := Try.underlying3
  have a3 := Try.isAgg3
  have z3 := Try.sizeOf3
  rw [Op.equalIn]
  simp only [Sem.run_bind, run_underlying Try.underlying28, Result.andThen_ok]
  simp only [Std.Legacy.Range.forIn_eq_forIn_range', Std.Legacy.Range.size, Nat.sub_zero, Nat.add_sub_cancel, Nat.div_one, List.range'_succ, List.range'_zero, List.forIn_cons, List.forIn_nil]
  go_simp
  by_cases h1 : a0 = b0 <;> by_cases h2 : a1 = b1 <;> by_cases h3 : a2 = b2 <;> simp [h1, h2, h3]
theorem eqGr (s t : Sta) (w : World) : (Op.equalIn 10000 29 (.agg (grX s)) (.agg (grX t))).run Try.prog w = .ok (grsB s t) w := by
  have u3 := Try.underlying28
  have a3 := Try.isAgg28
  have z3 := Try.sizeOf28
  have e0 := fun W => eqR3 9997 (s.gr 0) (s.gr 1) (s.gr 2) (t.gr 0) (t.gr 1) (t.gr 2) W
  have e1 := fun W => eqR3 9997 (s.gr 3) (s.gr 4) (s.gr 5) (t.gr 3) (t.gr 4) (t.gr 5) W
  unfold grsB
  generalize ((s.gr 0 == t.gr 0) && ((s.gr 1 == t.gr 1) && (s.gr 2 == t.gr 2))) = u at e0 ⊢
  generalize ((s.gr 3 == t.gr 3) && ((s.gr 4 == t.gr 4) && (s.gr 5 == t.gr 5))) = v at e1 ⊢
  rw [show (10000 : Nat) = 9999 + 1 from rfl, Op.equalIn]
  simp only [Sem.run_bind, run_underlying Try.underlying29, Result.andThen_ok]
  simp only [Std.Legacy.Range.forIn_eq_forIn_range', Std.Legacy.Range.size, Nat.sub_zero, Nat.add_sub_cancel, Nat.div_one, List.range'_succ, List.range'_zero, List.forIn_cons, List.forIn_nil]
  unfold grX grL
  go_simp
  cases u <;> cases v <;> simp
section
attribute [-go_sem] loadCells storeVar
set_option maxRecDepth 100000 in
set_option maxHeartbeats 8000000 in
theorem rSameS_any (s t : Sta) (a c : Sad) (B1 B2 : Nat) (w : World) (h1 : StR w B1 s a) (h2 : StR w B2 t c) (hB1 : B1 ≤ w.heap.size) (hB2 : B2 ≤ w.heap.size) :
    Calls Try.prog 12 #[.agg (stX s a), .agg (stX t c)] w fun e w' => e = .returned (.bool (sameS s t)) ∧ Below w.heap.size w w' := by
  obtain ⟨W0, hW0⟩ : ∃ W0, W0 = (w.alloc (.cells (stX s a) 31)).alloc (.cells (stX t c) 31) := ⟨_, rfl⟩
  have s0 : W0.heap.size = w.heap.size + 1 + 1 := by rw [hW0]; simp
  have B0 : Below w.heap.size w W0 := by rw [hW0]; exact bal (bal (Below.refl _ _) _) _
  have K1 : Blk W0 w.heap.size 31 (stX s a) := by rw [hW0]; exact (Blk.new w 31 (stX s a)).alloc _
  have K2 : Blk W0 (w.heap.size + 1) 31 (stX t c) := by rw [hW0]; exact bk_new _ 31 (stX t c) (by simp)
  have HW := Lib.hid hW0
  have HB := Lib.hid B0
  have HK := Lib.hid K1
  have HK2 := Lib.hid K2
  have HBB := Lib.hid (And.intro hB1 hB2)
  have H := Lib.hid (And.intro h1 h2)
  clear hW0 s0 B0 K1 K2 h1 h2 hB1 hB2
  go_enter Try.func12, Try.ntmps12
  go_upto_region 1 with (fail)
  rw [← HW.out]
  go_wp2_with fail
  go_loopg [5] 3 (fun mm y wq => ∃ (k : Nat), k ≤ 3 ∧ y = .int .i64 k ∧ mm = 3 - k ∧ (∀ i, i < k → sameB (s.tid i) (t.tid i) = true) ∧ Below W0.heap.size W0 wq)
  case atStart => exact ⟨0, by omega, rfl, rfl, fun i hi => by omega, Below.refl _ _⟩
  case round =>
    obtain ⟨k, hk, rfl, hmm, hok, hbw⟩ := hrel
    have HMM := Lib.hid hmm
    have OK := Lib.hid hok
    have BW' := Lib.hid hbw
    have KW := Lib.hid (HK.out.below BW'.out HK.out.lt)
    have KV := Lib.hid (HK2.out.below BW'.out HK2.out.lt)
    have HBW := Lib.hid (HB.out.trans (BW'.out.mono HB.out.size))
    clear hmm hok hbw
    by_cases hlt : k < 3
    · have d3 : decide ((k : Int) < 3) = true := decide_eq_true (by omega)
      have i1 : (0 : Int) ≤ (k : Int) := by omega
      have i2 : (k : Int) < 3 := by omega
      obtain ⟨u, hu⟩ : ∃ u, sameB (s.tid k) (t.tid k) = u := ⟨_, rfl⟩
      have MY := Lib.hid (fun W (hW : Below wr.heap.size wr W) => show Calls Try.prog 23 #[(.agg #[.int .i8 (s.tid k).st, .int .i64 (s.tid k).pid, .int .i64 (s.tid k).ep, .int .i64 (s.tid k).tm, .int .i64 (s.tid k).th, .slice (a.A k) (s.tid k).ps.length (a.c k), .slice (a.D k) (s.tid k).qs.length (a.e k), .int .i64 (s.tid k).ag]), (.agg #[.int .i8 (t.tid k).st, .int .i64 (t.tid k).pid, .int .i64 (t.tid k).ep, .int .i64 (t.tid k).tm, .int .i64 (t.tid k).th, .slice (c.A k) (t.tid k).ps.length (c.c k), .slice (c.D k) (t.tid k).qs.length (c.e k), .int .i64 (t.tid k).ag])] W fun e w' => e = .returned (.bool u) ∧ Below W.heap.size W w' from by
        rw [← hu]
        exact rSame_any (s.tid k) (t.tid k) (a.A k) (a.D k) (a.c k) (a.e k) (c.A k) (c.D k) (c.c k) (c.e k) B1 B2 W ((H.out.1 k hlt).below ((HBW.out.trans (hW.mono HBW.out.size)).mono HBB.out.1)) ((H.out.2 k hlt).below ((HBW.out.trans (hW.mono HBW.out.size)).mono HBB.out.2)) (by have := HBB.out.1; have := HBW.out.size; have := hW.size; omega) (by have := HBB.out.2; have := HBW.out.size; have := hW.size; omega))
      have lk := fun n : BW wr.heap.size wr => st_tid (KW.out.below n.2 KW.out.lt) k hlt
      have lj := fun n : BW wr.heap.size wr => st_tid (KV.out.below n.2 KV.out.lt) k hlt
      have HU := Lib.hid hu
      clear hu
      go_wp2_with fail
      refine wp_region_bq wr.heap.size (by kernel_rfl) (by kernel_rfl) ?_
      repeat (go_big_quiet_step ((go_at_call 23; exact bw_call (Nat.le_refl _) (MY.out _ (by exact Subtype.property _)))))
      refine wpQuiet_nil ?_
      rintro _ ⟨n, rfl⟩
      have BN := Lib.hid n.2
      clear lk lj
      cases u
      · have HNO := Lib.hid (show sameS s t = false by
          cases hx : sameS s t
          · rfl
          · unfold sameS at hx
            simp only [Bool.and_eq_true, List.all_eq_true, List.mem_range] at hx
            have := hx.1 k hlt
            rw [HU.out] at this; cases this)
        go_wp2_with fail
        go_ret
        rw [HNO.out]
        exact ⟨rfl, HBW.out.trans (BN.out.mono HBW.out.size)⟩
      · go_wp2_with fail
        go_roundg (gk - 1)
        case measure => have := HMM.out; omega
        case rel =>
          refine ⟨k + 1, by omega, by go_num, by have := HMM.out; omega, fun i hi => ?_, BW'.out.trans (BN.out.mono BW'.out.size)⟩
          rcases Nat.lt_succ_iff_lt_or_eq.1 hi with h | h
          · exact OK.out i h
          · rw [h]; exact HU.out
    · obtain rfl : k = 3 := by omega
      have d3 : decide (((3 : Nat) : Int) < 3) = false := by decide
      have x0 := st_made KW.out
      have y0 := st_made KV.out
      have x2 := st_grs KW.out
      have y2 := st_grs KV.out
      have eg := fun W => eqGr s t W
      obtain ⟨u, hu⟩ : ∃ u, (s.made == t.made) = u := ⟨_, rfl⟩
      obtain ⟨v, hv⟩ : ∃ v, grsB s t = v := ⟨_, rfl⟩
      have HS := Lib.hid (show sameS s t = (u && v) by
        unfold sameS
        rw [hu, hv, List.all_eq_true.2 (fun i hi => OK.out i (List.mem_range.1 hi)), Bool.true_and])
      rw [hv] at eg
      clear hv
      cases u
      · go_wp2_with fail
        go_ret
        rw [HS.out]
        exact ⟨rfl, HBW.out⟩
      · go_wp2_with fail
        go_ret
        rw [HS.out]
        exact ⟨rfl, HBW.out⟩
end
end Go.Proofs.Ytagclnmchkgpdaa
