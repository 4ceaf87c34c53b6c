/-
  Layer 7, the document's: May of entries.
-/
import Derived.Test.YtckdecodpjfcnaaGreatDoorEnRowsProofP15
set_option linter.unusedVariables false
set_option linter.unusedSimpArgs false
namespace Go.Proofs.YtckdecodpjfcnaaGreatDoor
open Go.RowKit

theorem withinS_any (x : Int) (w : World) : Calls Tryz.prog 42 #[.int .i64 x, .int .i64 0, .int .i64 1048576] w fun e w' => e = .returned (.bool (seqB x)) ∧ w = w' := within_any x 0 1048576 w
section
attribute [-go_sem] loadCells storeVar
set_option maxRecDepth 100000 in
set_option maxHeartbeats 4000000 in
theorem rEnMay_0 (x : En) (hk : x.kd = 0) (A1 D1 : Option Addr) (c1 e1 : Nat) (w : World) (hr : EnR w x A1 D1) :
    Calls Tryz.prog 14 #[(.agg #[.int .i8 x.kd, .int .i64 x.b.pid, .int .i64 x.b.ep, .int .i64 x.b.seq, .bool x.b.txn, .slice A1 x.b.rs.length c1, .bool x.yes, .int .i64 x.nx, .int .i64 x.off, .int .i64 x.row.1, .int .i64 x.row.2.1, .int .i64 x.row.2.2.1, .string x.row.2.2.2.1, .string x.row.2.2.2.2, .int .i64 x.prod.pid, .int .i64 x.prod.ep, .int .i64 x.prod.nx, .slice D1 x.prod.seen.length e1])] w fun e w' => e = .returned (.bool (mayEn x)) ∧ Below w.heap.size w w' := by
  have HR := Lib.hid hr
  have HM := Lib.hid (show mayEn x = (sameEn x (bareEn x) && (mayBt x.b)) by rw [← mayR_eq x]; unfold okR; rw [hk]; rfl)
  have cc0 : (x.kd == 0) = true := by rw [hk]; rfl
  have cc1 : (x.kd == 1) = false := by rw [hk]; rfl
  have cc2 : (x.kd == 2) = false := by rw [hk]; rfl
  have cc3 : (x.kd == 3) = false := by rw [hk]; rfl
  have cc4 : (x.kd == 4) = false := by rw [hk]; rfl
  have cc5 : (x.kd == 5) = false := by rw [hk]; rfl
  have cc6 : (x.kd == 6) = false := by rw [hk]; rfl
  have K0 := Lib.hid (Blk.new w 32 #[.int .i8 x.kd, .int .i64 x.b.pid, .int .i64 x.b.ep, .int .i64 x.b.seq, .bool x.b.txn, .slice A1 x.b.rs.length c1, .bool x.yes, .int .i64 x.nx, .int .i64 x.off, .int .i64 x.row.1, .int .i64 x.row.2.1, .int .i64 x.row.2.2.1, .string x.row.2.2.2.1, .string x.row.2.2.2.2, .int .i64 x.prod.pid, .int .i64 x.prod.ep, .int .i64 x.prod.nx, .slice D1 x.prod.seen.length e1])
  have B0 := Lib.hid (bal (Below.refl w.heap.size w) (.cells #[.int .i8 x.kd, .int .i64 x.b.pid, .int .i64 x.b.ep, .int .i64 x.b.seq, .bool x.b.txn, .slice A1 x.b.rs.length c1, .bool x.yes, .int .i64 x.nx, .int .i64 x.off, .int .i64 x.row.1, .int .i64 x.row.2.1, .int .i64 x.row.2.2.1, .string x.row.2.2.2.1, .string x.row.2.2.2.2, .int .i64 x.prod.pid, .int .i64 x.prod.ep, .int .i64 x.prod.nx, .slice D1 x.prod.seen.length e1] 32))
  clear hr hk
  generalize hsm : sameEn x (bareEn x) = sm at HM
  have HSM := Lib.hid hsm
  clear hsm
  go_enter Tryz.func14, Tryz.ntmps14
  go_upto_region 1 with (fail)
  go_region_held3 (fun W => (loadCells ⟨w.heap.size, 0, none⟩ 18).run Tryz.prog W = .ok #[.int .i8 x.kd, .int .i64 x.b.pid, .int .i64 x.b.ep, .int .i64 x.b.seq, .bool x.b.txn, .slice A1 x.b.rs.length c1, .bool x.yes, .int .i64 x.nx, .int .i64 x.off, .int .i64 x.row.1, .int .i64 x.row.2.1, .int .i64 x.row.2.2.1, .string x.row.2.2.2.1, .string x.row.2.2.2.2, .int .i64 x.prod.pid, .int .i64 x.prod.ep, .int .i64 x.prod.nx, .slice D1 x.prod.seen.length e1] W)
    (first | exact cells_blk K0.out.drew rfl | exact yL | exact zL)
    (first
      | (go_at_call 39; refine (bare_any x A1 D1 c1 e1 _ (HR.out.up (B0.out.trans (Below.refl _ _).drew))).mono ?_; rintro e w4 ⟨A9, D9, c9, e9, rfl, r9, b4⟩; have k4 := K0.out.drew.below b4 K0.out.lt; have K4 := Lib.hid k4; have yL := cells_blk k4 rfl; have B4 := Lib.hid (btrans B0.out ((Below.refl _ _).drew.trans (b4.mono (Nat.le_refl _)))); have R9 := Lib.hid r9; clear k4 b4 r9)
      | (go_at_call 16; refine (rEnSame_any x (bareEn x) A1 D1 A9 D9 c1 e1 c9 e9 _ (HR.out.up B4.out) R9.out).mono ?_; rintro e w5 ⟨rfl, b5⟩; have k5 := K4.out.below b5 K4.out.lt; have K5 := Lib.hid k5; have zL := cells_blk k5 rfl; have B5 := Lib.hid (btrans B4.out b5); clear k5 b5))
  all_goals
    rw [HSM.out]
    cases sm
    case false =>
      go_wp2_with fail
      go_ret
      exact ⟨ret_bool (by rw [HM.out]; rfl), B5.out⟩
    clear zL
    have x0 := K5.out.cell 0
    have LB := cells_off K5.out 1 5 rfl rfl
    go_wp2_with fail
    refine (rRcMay_any x.b A1 c1 _ (HR.out.up B5.out).1).mono ?_
    rintro e w6 ⟨rfl, b6⟩
    have BZ := Lib.hid (btrans B5.out b6)
    go_wp2_with fail
    go_ret
    exact ⟨ret_bool (by rw [HM.out]; rfl), BZ.out⟩
set_option maxRecDepth 100000 in
set_option maxHeartbeats 4000000 in
theorem rEnMay_1 (x : En) (hk : x.kd = 1) (A1 D1 : Option Addr) (c1 e1 : Nat) (w : World) (hr : EnR w x A1 D1) :
    Calls Tryz.prog 14 #[(.agg #[.int .i8 x.kd, .int .i64 x.b.pid, .int .i64 x.b.ep, .int .i64 x.b.seq, .bool x.b.txn, .slice A1 x.b.rs.length c1, .bool x.yes, .int .i64 x.nx, .int .i64 x.off, .int .i64 x.row.1, .int .i64 x.row.2.1, .int .i64 x.row.2.2.1, .string x.row.2.2.2.1, .string x.row.2.2.2.2, .int .i64 x.prod.pid, .int .i64 x.prod.ep, .int .i64 x.prod.nx, .slice D1 x.prod.seen.length e1])] w fun e w' => e = .returned (.bool (mayEn x)) ∧ Below w.heap.size w w' := by
  have HR := Lib.hid hr
  have HM := Lib.hid (show mayEn x = (sameEn x (bareEn x) && (prodB x.b.pid x.b.ep)) by rw [← mayR_eq x]; unfold okR; rw [hk]; rfl)
  have cc0 : (x.kd == 0) = false := by rw [hk]; rfl
  have cc1 : (x.kd == 1) = true := by rw [hk]; rfl
  have cc2 : (x.kd == 2) = false := by rw [hk]; rfl
  have cc3 : (x.kd == 3) = false := by rw [hk]; rfl
  have cc4 : (x.kd == 4) = false := by rw [hk]; rfl
  have cc5 : (x.kd == 5) = false := by rw [hk]; rfl
  have cc6 : (x.kd == 6) = false := by rw [hk]; rfl
  have K0 := Lib.hid (Blk.new w 32 #[.int .i8 x.kd, .int .i64 x.b.pid, .int .i64 x.b.ep, .int .i64 x.b.seq, .bool x.b.txn, .slice A1 x.b.rs.length c1, .bool x.yes, .int .i64 x.nx, .int .i64 x.off, .int .i64 x.row.1, .int .i64 x.row.2.1, .int .i64 x.row.2.2.1, .string x.row.2.2.2.1, .string x.row.2.2.2.2, .int .i64 x.prod.pid, .int .i64 x.prod.ep, .int .i64 x.prod.nx, .slice D1 x.prod.seen.length e1])
  have B0 := Lib.hid (bal (Below.refl w.heap.size w) (.cells #[.int .i8 x.kd, .int .i64 x.b.pid, .int .i64 x.b.ep, .int .i64 x.b.seq, .bool x.b.txn, .slice A1 x.b.rs.length c1, .bool x.yes, .int .i64 x.nx, .int .i64 x.off, .int .i64 x.row.1, .int .i64 x.row.2.1, .int .i64 x.row.2.2.1, .string x.row.2.2.2.1, .string x.row.2.2.2.2, .int .i64 x.prod.pid, .int .i64 x.prod.ep, .int .i64 x.prod.nx, .slice D1 x.prod.seen.length e1] 32))
  clear hr hk
  generalize hsm : sameEn x (bareEn x) = sm at HM
  have HSM := Lib.hid hsm
  clear hsm
  go_enter Tryz.func14, Tryz.ntmps14
  go_upto_region 1 with (fail)
  go_region_held3 (fun W => (loadCells ⟨w.heap.size, 0, none⟩ 18).run Tryz.prog W = .ok #[.int .i8 x.kd, .int .i64 x.b.pid, .int .i64 x.b.ep, .int .i64 x.b.seq, .bool x.b.txn, .slice A1 x.b.rs.length c1, .bool x.yes, .int .i64 x.nx, .int .i64 x.off, .int .i64 x.row.1, .int .i64 x.row.2.1, .int .i64 x.row.2.2.1, .string x.row.2.2.2.1, .string x.row.2.2.2.2, .int .i64 x.prod.pid, .int .i64 x.prod.ep, .int .i64 x.prod.nx, .slice D1 x.prod.seen.length e1] W)
    (first | exact cells_blk K0.out.drew rfl | exact yL | exact zL)
    (first
      | (go_at_call 39; refine (bare_any x A1 D1 c1 e1 _ (HR.out.up (B0.out.trans (Below.refl _ _).drew))).mono ?_; rintro e w4 ⟨A9, D9, c9, e9, rfl, r9, b4⟩; have k4 := K0.out.drew.below b4 K0.out.lt; have K4 := Lib.hid k4; have yL := cells_blk k4 rfl; have B4 := Lib.hid (btrans B0.out ((Below.refl _ _).drew.trans (b4.mono (Nat.le_refl _)))); have R9 := Lib.hid r9; clear k4 b4 r9)
      | (go_at_call 16; refine (rEnSame_any x (bareEn x) A1 D1 A9 D9 c1 e1 c9 e9 _ (HR.out.up B4.out) R9.out).mono ?_; rintro e w5 ⟨rfl, b5⟩; have k5 := K4.out.below b5 K4.out.lt; have K5 := Lib.hid k5; have zL := cells_blk k5 rfl; have B5 := Lib.hid (btrans B4.out b5); clear k5 b5))
  all_goals
    rw [HSM.out]
    cases sm
    case false =>
      go_wp2_with fail
      go_ret
      exact ⟨ret_bool (by rw [HM.out]; rfl), B5.out⟩
    clear zL
    have x0 := K5.out.cell 0
    have x1 := K5.out.cell 1
    have x2 := K5.out.cell 2
    go_wp2_with fail
    refine (rproducer_any x.b.pid x.b.ep _).mono ?_
    rintro e w6 ⟨rfl, rfl⟩
    have BZ := B5
    go_wp2_with fail
    go_ret
    exact ⟨ret_bool (by rw [HM.out]; rfl), BZ.out⟩
set_option maxRecDepth 100000 in
set_option maxHeartbeats 4000000 in
theorem rEnMay_2 (x : En) (hk : x.kd = 2) (A1 D1 : Option Addr) (c1 e1 : Nat) (w : World) (hr : EnR w x A1 D1) :
    Calls Tryz.prog 14 #[(.agg #[.int .i8 x.kd, .int .i64 x.b.pid, .int .i64 x.b.ep, .int .i64 x.b.seq, .bool x.b.txn, .slice A1 x.b.rs.length c1, .bool x.yes, .int .i64 x.nx, .int .i64 x.off, .int .i64 x.row.1, .int .i64 x.row.2.1, .int .i64 x.row.2.2.1, .string x.row.2.2.2.1, .string x.row.2.2.2.2, .int .i64 x.prod.pid, .int .i64 x.prod.ep, .int .i64 x.prod.nx, .slice D1 x.prod.seen.length e1])] w fun e w' => e = .returned (.bool (mayEn x)) ∧ Below w.heap.size w w' := by
  have HR := Lib.hid hr
  have HM := Lib.hid (show mayEn x = (sameEn x (bareEn x) && (seqB x.off)) by rw [← mayR_eq x]; unfold okR; rw [hk]; rfl)
  have cc0 : (x.kd == 0) = false := by rw [hk]; rfl
  have cc1 : (x.kd == 1) = false := by rw [hk]; rfl
  have cc2 : (x.kd == 2) = true := by rw [hk]; rfl
  have cc3 : (x.kd == 3) = false := by rw [hk]; rfl
  have cc4 : (x.kd == 4) = false := by rw [hk]; rfl
  have cc5 : (x.kd == 5) = false := by rw [hk]; rfl
  have cc6 : (x.kd == 6) = false := by rw [hk]; rfl
  have K0 := Lib.hid (Blk.new w 32 #[.int .i8 x.kd, .int .i64 x.b.pid, .int .i64 x.b.ep, .int .i64 x.b.seq, .bool x.b.txn, .slice A1 x.b.rs.length c1, .bool x.yes, .int .i64 x.nx, .int .i64 x.off, .int .i64 x.row.1, .int .i64 x.row.2.1, .int .i64 x.row.2.2.1, .string x.row.2.2.2.1, .string x.row.2.2.2.2, .int .i64 x.prod.pid, .int .i64 x.prod.ep, .int .i64 x.prod.nx, .slice D1 x.prod.seen.length e1])
  have B0 := Lib.hid (bal (Below.refl w.heap.size w) (.cells #[.int .i8 x.kd, .int .i64 x.b.pid, .int .i64 x.b.ep, .int .i64 x.b.seq, .bool x.b.txn, .slice A1 x.b.rs.length c1, .bool x.yes, .int .i64 x.nx, .int .i64 x.off, .int .i64 x.row.1, .int .i64 x.row.2.1, .int .i64 x.row.2.2.1, .string x.row.2.2.2.1, .string x.row.2.2.2.2, .int .i64 x.prod.pid, .int .i64 x.prod.ep, .int .i64 x.prod.nx, .slice D1 x.prod.seen.length e1] 32))
  clear hr hk
  generalize hsm : sameEn x (bareEn x) = sm at HM
  have HSM := Lib.hid hsm
  clear hsm
  go_enter Tryz.func14, Tryz.ntmps14
  go_upto_region 1 with (fail)
  go_region_held3 (fun W => (loadCells ⟨w.heap.size, 0, none⟩ 18).run Tryz.prog W = .ok #[.int .i8 x.kd, .int .i64 x.b.pid, .int .i64 x.b.ep, .int .i64 x.b.seq, .bool x.b.txn, .slice A1 x.b.rs.length c1, .bool x.yes, .int .i64 x.nx, .int .i64 x.off, .int .i64 x.row.1, .int .i64 x.row.2.1, .int .i64 x.row.2.2.1, .string x.row.2.2.2.1, .string x.row.2.2.2.2, .int .i64 x.prod.pid, .int .i64 x.prod.ep, .int .i64 x.prod.nx, .slice D1 x.prod.seen.length e1] W)
    (first | exact cells_blk K0.out.drew rfl | exact yL | exact zL)
    (first
      | (go_at_call 39; refine (bare_any x A1 D1 c1 e1 _ (HR.out.up (B0.out.trans (Below.refl _ _).drew))).mono ?_; rintro e w4 ⟨A9, D9, c9, e9, rfl, r9, b4⟩; have k4 := K0.out.drew.below b4 K0.out.lt; have K4 := Lib.hid k4; have yL := cells_blk k4 rfl; have B4 := Lib.hid (btrans B0.out ((Below.refl _ _).drew.trans (b4.mono (Nat.le_refl _)))); have R9 := Lib.hid r9; clear k4 b4 r9)
      | (go_at_call 16; refine (rEnSame_any x (bareEn x) A1 D1 A9 D9 c1 e1 c9 e9 _ (HR.out.up B4.out) R9.out).mono ?_; rintro e w5 ⟨rfl, b5⟩; have k5 := K4.out.below b5 K4.out.lt; have K5 := Lib.hid k5; have zL := cells_blk k5 rfl; have B5 := Lib.hid (btrans B4.out b5); clear k5 b5))
  all_goals
    rw [HSM.out]
    cases sm
    case false =>
      go_wp2_with fail
      go_ret
      exact ⟨ret_bool (by rw [HM.out]; rfl), B5.out⟩
    clear zL
    have x0 := K5.out.cell 0
    have x8 := K5.out.cell 8
    go_wp2_with fail
    refine (withinS_any x.off _).mono ?_
    rintro e w6 ⟨rfl, rfl⟩
    have BZ := B5
    go_wp2_with fail
    go_ret
    exact ⟨ret_bool (by rw [HM.out]; rfl), BZ.out⟩
set_option maxRecDepth 100000 in
set_option maxHeartbeats 4000000 in
theorem rEnMay_5 (x : En) (hk : x.kd = 5) (A1 D1 : Option Addr) (c1 e1 : Nat) (w : World) (hr : EnR w x A1 D1) :
    Calls Tryz.prog 14 #[(.agg #[.int .i8 x.kd, .int .i64 x.b.pid, .int .i64 x.b.ep, .int .i64 x.b.seq, .bool x.b.txn, .slice A1 x.b.rs.length c1, .bool x.yes, .int .i64 x.nx, .int .i64 x.off, .int .i64 x.row.1, .int .i64 x.row.2.1, .int .i64 x.row.2.2.1, .string x.row.2.2.2.1, .string x.row.2.2.2.2, .int .i64 x.prod.pid, .int .i64 x.prod.ep, .int .i64 x.prod.nx, .slice D1 x.prod.seen.length e1])] w fun e w' => e = .returned (.bool (mayEn x)) ∧ Below w.heap.size w w' := by
  have HR := Lib.hid hr
  have HM := Lib.hid (show mayEn x = (sameEn x (bareEn x) && (rowB (0, x.row.2.1, x.row.2.2.1, x.row.2.2.2.1, x.row.2.2.2.2))) by rw [← mayR_eq x]; unfold okR; rw [hk]; rfl)
  have cc0 : (x.kd == 0) = false := by rw [hk]; rfl
  have cc1 : (x.kd == 1) = false := by rw [hk]; rfl
  have cc2 : (x.kd == 2) = false := by rw [hk]; rfl
  have cc3 : (x.kd == 3) = false := by rw [hk]; rfl
  have cc4 : (x.kd == 4) = false := by rw [hk]; rfl
  have cc5 : (x.kd == 5) = true := by rw [hk]; rfl
  have cc6 : (x.kd == 6) = false := by rw [hk]; rfl
  have K0 := Lib.hid (Blk.new w 32 #[.int .i8 x.kd, .int .i64 x.b.pid, .int .i64 x.b.ep, .int .i64 x.b.seq, .bool x.b.txn, .slice A1 x.b.rs.length c1, .bool x.yes, .int .i64 x.nx, .int .i64 x.off, .int .i64 x.row.1, .int .i64 x.row.2.1, .int .i64 x.row.2.2.1, .string x.row.2.2.2.1, .string x.row.2.2.2.2, .int .i64 x.prod.pid, .int .i64 x.prod.ep, .int .i64 x.prod.nx, .slice D1 x.prod.seen.length e1])
  have B0 := Lib.hid (bal (Below.refl w.heap.size w) (.cells #[.int .i8 x.kd, .int .i64 x.b.pid, .int .i64 x.b.ep, .int .i64 x.b.seq, .bool x.b.txn, .slice A1 x.b.rs.length c1, .bool x.yes, .int .i64 x.nx, .int .i64 x.off, .int .i64 x.row.1, .int .i64 x.row.2.1, .int .i64 x.row.2.2.1, .string x.row.2.2.2.1, .string x.row.2.2.2.2, .int .i64 x.prod.pid, .int .i64 x.prod.ep, .int .i64 x.prod.nx, .slice D1 x.prod.seen.length e1] 32))
  clear hr hk
  generalize hsm : sameEn x (bareEn x) = sm at HM
  have HSM := Lib.hid hsm
  clear hsm
  go_enter Tryz.func14, Tryz.ntmps14
  go_upto_region 1 with (fail)
  go_region_held3 (fun W => (loadCells ⟨w.heap.size, 0, none⟩ 18).run Tryz.prog W = .ok #[.int .i8 x.kd, .int .i64 x.b.pid, .int .i64 x.b.ep, .int .i64 x.b.seq, .bool x.b.txn, .slice A1 x.b.rs.length c1, .bool x.yes, .int .i64 x.nx, .int .i64 x.off, .int .i64 x.row.1, .int .i64 x.row.2.1, .int .i64 x.row.2.2.1, .string x.row.2.2.2.1, .string x.row.2.2.2.2, .int .i64 x.prod.pid, .int .i64 x.prod.ep, .int .i64 x.prod.nx, .slice D1 x.prod.seen.length e1] W)
    (first | exact cells_blk K0.out.drew rfl | exact yL | exact zL)
    (first
      | (go_at_call 39; refine (bare_any x A1 D1 c1 e1 _ (HR.out.up (B0.out.trans (Below.refl _ _).drew))).mono ?_; rintro e w4 ⟨A9, D9, c9, e9, rfl, r9, b4⟩; have k4 := K0.out.drew.below b4 K0.out.lt; have K4 := Lib.hid k4; have yL := cells_blk k4 rfl; have B4 := Lib.hid (btrans B0.out ((Below.refl _ _).drew.trans (b4.mono (Nat.le_refl _)))); have R9 := Lib.hid r9; clear k4 b4 r9)
      | (go_at_call 16; refine (rEnSame_any x (bareEn x) A1 D1 A9 D9 c1 e1 c9 e9 _ (HR.out.up B4.out) R9.out).mono ?_; rintro e w5 ⟨rfl, b5⟩; have k5 := K4.out.below b5 K4.out.lt; have K5 := Lib.hid k5; have zL := cells_blk k5 rfl; have B5 := Lib.hid (btrans B4.out b5); clear k5 b5))
  all_goals
    rw [HSM.out]
    cases sm
    case false =>
      go_wp2_with fail
      go_ret
      exact ⟨ret_bool (by rw [HM.out]; rfl), B5.out⟩
    clear zL
    have x0 := K5.out.cell 0
    have LB := cells_off K5.out 9 5 rfl rfl
    go_wp2_with fail
    refine (MayRow_any x.row _).mono ?_
    rintro e w6 ⟨rfl, b6⟩
    have BZ := Lib.hid (btrans B5.out b6)
    go_wp2_with fail
    go_ret
    exact ⟨ret_bool (by rw [HM.out]; rfl), BZ.out⟩
set_option maxRecDepth 100000 in
set_option maxHeartbeats 4000000 in
theorem rEnMay_6 (x : En) (hk : x.kd = 6) (A1 D1 : Option Addr) (c1 e1 : Nat) (w : World) (hr : EnR w x A1 D1) :
    Calls Tryz.prog 14 #[(.agg #[.int .i8 x.kd, .int .i64 x.b.pid, .int .i64 x.b.ep, .int .i64 x.b.seq, .bool x.b.txn, .slice A1 x.b.rs.length c1, .bool x.yes, .int .i64 x.nx, .int .i64 x.off, .int .i64 x.row.1, .int .i64 x.row.2.1, .int .i64 x.row.2.2.1, .string x.row.2.2.2.1, .string x.row.2.2.2.2, .int .i64 x.prod.pid, .int .i64 x.prod.ep, .int .i64 x.prod.nx, .slice D1 x.prod.seen.length e1])] w fun e w' => e = .returned (.bool (mayEn x)) ∧ Below w.heap.size w w' := by
  have HR := Lib.hid hr
  have HM := Lib.hid (show mayEn x = (sameEn x (bareEn x) && (knownB x.prod)) by rw [← mayR_eq x]; unfold okR; rw [hk]; rfl)
  have cc0 : (x.kd == 0) = false := by rw [hk]; rfl
  have cc1 : (x.kd == 1) = false := by rw [hk]; rfl
  have cc2 : (x.kd == 2) = false := by rw [hk]; rfl
  have cc3 : (x.kd == 3) = false := by rw [hk]; rfl
  have cc4 : (x.kd == 4) = false := by rw [hk]; rfl
  have cc5 : (x.kd == 5) = false := by rw [hk]; rfl
  have cc6 : (x.kd == 6) = true := by rw [hk]; rfl
  have K0 := Lib.hid (Blk.new w 32 #[.int .i8 x.kd, .int .i64 x.b.pid, .int .i64 x.b.ep, .int .i64 x.b.seq, .bool x.b.txn, .slice A1 x.b.rs.length c1, .bool x.yes, .int .i64 x.nx, .int .i64 x.off, .int .i64 x.row.1, .int .i64 x.row.2.1, .int .i64 x.row.2.2.1, .string x.row.2.2.2.1, .string x.row.2.2.2.2, .int .i64 x.prod.pid, .int .i64 x.prod.ep, .int .i64 x.prod.nx, .slice D1 x.prod.seen.length e1])
  have B0 := Lib.hid (bal (Below.refl w.heap.size w) (.cells #[.int .i8 x.kd, .int .i64 x.b.pid, .int .i64 x.b.ep, .int .i64 x.b.seq, .bool x.b.txn, .slice A1 x.b.rs.length c1, .bool x.yes, .int .i64 x.nx, .int .i64 x.off, .int .i64 x.row.1, .int .i64 x.row.2.1, .int .i64 x.row.2.2.1, .string x.row.2.2.2.1, .string x.row.2.2.2.2, .int .i64 x.prod.pid, .int .i64 x.prod.ep, .int .i64 x.prod.nx, .slice D1 x.prod.seen.length e1] 32))
  clear hr hk
  generalize hsm : sameEn x (bareEn x) = sm at HM
  have HSM := Lib.hid hsm
  clear hsm
  go_enter Tryz.func14, Tryz.ntmps14
  go_upto_region 1 with (fail)
  go_region_held3 (fun W => (loadCells ⟨w.heap.size, 0, none⟩ 18).run Tryz.prog W = .ok #[.int .i8 x.kd, .int .i64 x.b.pid, .int .i64 x.b.ep, .int .i64 x.b.seq, .bool x.b.txn, .slice A1 x.b.rs.length c1, .bool x.yes, .int .i64 x.nx, .int .i64 x.off, .int .i64 x.row.1, .int .i64 x.row.2.1, .int .i64 x.row.2.2.1, .string x.row.2.2.2.1, .string x.row.2.2.2.2, .int .i64 x.prod.pid, .int .i64 x.prod.ep, .int .i64 x.prod.nx, .slice D1 x.prod.seen.length e1] W)
    (first | exact cells_blk K0.out.drew rfl | exact yL | exact zL)
    (first
      | (go_at_call 39; refine (bare_any x A1 D1 c1 e1 _ (HR.out.up (B0.out.trans (Below.refl _ _).drew))).mono ?_; rintro e w4 ⟨A9, D9, c9, e9, rfl, r9, b4⟩; have k4 := K0.out.drew.below b4 K0.out.lt; have K4 := Lib.hid k4; have yL := cells_blk k4 rfl; have B4 := Lib.hid (btrans B0.out ((Below.refl _ _).drew.trans (b4.mono (Nat.le_refl _)))); have R9 := Lib.hid r9; clear k4 b4 r9)
      | (go_at_call 16; refine (rEnSame_any x (bareEn x) A1 D1 A9 D9 c1 e1 c9 e9 _ (HR.out.up B4.out) R9.out).mono ?_; rintro e w5 ⟨rfl, b5⟩; have k5 := K4.out.below b5 K4.out.lt; have K5 := Lib.hid k5; have zL := cells_blk k5 rfl; have B5 := Lib.hid (btrans B4.out b5); clear k5 b5))
  all_goals
    rw [HSM.out]
    cases sm
    case false =>
      go_wp2_with fail
      go_ret
      exact ⟨ret_bool (by rw [HM.out]; rfl), B5.out⟩
    clear zL
    have x0 := K5.out.cell 0
    have LB := cells_off K5.out 14 4 rfl rfl
    go_wp2_with fail
    refine (rKnown_any x.prod D1 e1 _ (HR.out.up B5.out).2.1).mono ?_
    rintro e w6 ⟨rfl, b6⟩
    have BZ := Lib.hid (btrans B5.out b6)
    go_wp2_with fail
    go_ret
    exact ⟨ret_bool (by rw [HM.out]; rfl), BZ.out⟩
set_option maxRecDepth 100000 in
set_option maxHeartbeats 4000000 in
theorem rEnMay_3 (x : En) (hk : x.kd = 3) (A1 D1 : Option Addr) (c1 e1 : Nat) (w : World) (hr : EnR w x A1 D1) :
    Calls Tryz.prog 14 #[(.agg #[.int .i8 x.kd, .int .i64 x.b.pid, .int .i64 x.b.ep, .int .i64 x.b.seq, .bool x.b.txn, .slice A1 x.b.rs.length c1, .bool x.yes, .int .i64 x.nx, .int .i64 x.off, .int .i64 x.row.1, .int .i64 x.row.2.1, .int .i64 x.row.2.2.1, .string x.row.2.2.2.1, .string x.row.2.2.2.2, .int .i64 x.prod.pid, .int .i64 x.prod.ep, .int .i64 x.prod.nx, .slice D1 x.prod.seen.length e1])] w fun e w' => e = .returned (.bool (mayEn x)) ∧ Below w.heap.size w w' := by
  have HR := Lib.hid hr
  have HM := Lib.hid (show mayEn x = (sameEn x (bareEn x) && (mayBt x.b && (x.b.txn && seqB x.nx))) by rw [← mayR_eq x]; unfold okR; rw [hk]; rfl)
  have cc0 : (x.kd == 0) = false := by rw [hk]; rfl
  have cc1 : (x.kd == 1) = false := by rw [hk]; rfl
  have cc2 : (x.kd == 2) = false := by rw [hk]; rfl
  have cc3 : (x.kd == 3) = true := by rw [hk]; rfl
  have cc4 : (x.kd == 4) = false := by rw [hk]; rfl
  have cc5 : (x.kd == 5) = false := by rw [hk]; rfl
  have cc6 : (x.kd == 6) = false := by rw [hk]; rfl
  have K0 := Lib.hid (Blk.new w 32 #[.int .i8 x.kd, .int .i64 x.b.pid, .int .i64 x.b.ep, .int .i64 x.b.seq, .bool x.b.txn, .slice A1 x.b.rs.length c1, .bool x.yes, .int .i64 x.nx, .int .i64 x.off, .int .i64 x.row.1, .int .i64 x.row.2.1, .int .i64 x.row.2.2.1, .string x.row.2.2.2.1, .string x.row.2.2.2.2, .int .i64 x.prod.pid, .int .i64 x.prod.ep, .int .i64 x.prod.nx, .slice D1 x.prod.seen.length e1])
  have B0 := Lib.hid (bal (Below.refl w.heap.size w) (.cells #[.int .i8 x.kd, .int .i64 x.b.pid, .int .i64 x.b.ep, .int .i64 x.b.seq, .bool x.b.txn, .slice A1 x.b.rs.length c1, .bool x.yes, .int .i64 x.nx, .int .i64 x.off, .int .i64 x.row.1, .int .i64 x.row.2.1, .int .i64 x.row.2.2.1, .string x.row.2.2.2.1, .string x.row.2.2.2.2, .int .i64 x.prod.pid, .int .i64 x.prod.ep, .int .i64 x.prod.nx, .slice D1 x.prod.seen.length e1] 32))
  clear hr hk
  generalize hsm : sameEn x (bareEn x) = sm at HM
  have HSM := Lib.hid hsm
  clear hsm
  go_enter Tryz.func14, Tryz.ntmps14
  go_upto_region 1 with (fail)
  go_region_held3 (fun W => (loadCells ⟨w.heap.size, 0, none⟩ 18).run Tryz.prog W = .ok #[.int .i8 x.kd, .int .i64 x.b.pid, .int .i64 x.b.ep, .int .i64 x.b.seq, .bool x.b.txn, .slice A1 x.b.rs.length c1, .bool x.yes, .int .i64 x.nx, .int .i64 x.off, .int .i64 x.row.1, .int .i64 x.row.2.1, .int .i64 x.row.2.2.1, .string x.row.2.2.2.1, .string x.row.2.2.2.2, .int .i64 x.prod.pid, .int .i64 x.prod.ep, .int .i64 x.prod.nx, .slice D1 x.prod.seen.length e1] W)
    (first | exact cells_blk K0.out.drew rfl | exact yL | exact zL)
    (first
      | (go_at_call 39; refine (bare_any x A1 D1 c1 e1 _ (HR.out.up (B0.out.trans (Below.refl _ _).drew))).mono ?_; rintro e w4 ⟨A9, D9, c9, e9, rfl, r9, b4⟩; have k4 := K0.out.drew.below b4 K0.out.lt; have K4 := Lib.hid k4; have yL := cells_blk k4 rfl; have B4 := Lib.hid (btrans B0.out ((Below.refl _ _).drew.trans (b4.mono (Nat.le_refl _)))); have R9 := Lib.hid r9; clear k4 b4 r9)
      | (go_at_call 16; refine (rEnSame_any x (bareEn x) A1 D1 A9 D9 c1 e1 c9 e9 _ (HR.out.up B4.out) R9.out).mono ?_; rintro e w5 ⟨rfl, b5⟩; have k5 := K4.out.below b5 K4.out.lt; have K5 := Lib.hid k5; have zL := cells_blk k5 rfl; have B5 := Lib.hid (btrans B4.out b5); clear k5 b5))
  all_goals
    rw [HSM.out]
    cases sm
    case false =>
      go_wp2_with fail
      go_ret
      exact ⟨ret_bool (by rw [HM.out]; rfl), B5.out⟩
    clear zL
    have x0 := K5.out.cell 0
    have LB := cells_off K5.out 1 5 rfl rfl
    generalize hmb : mayBt x.b = mb at HM
    have HMB := Lib.hid hmb
    clear hmb
    go_wp2_with fail
    refine (rRcMay_any x.b A1 c1 _ (HR.out.up B5.out).1).mono ?_
    rintro e w6 ⟨rfl, b6⟩
    rw [HMB.out]
    have K6 := Lib.hid (K5.out.below b6 K5.out.lt)
    have BZ := Lib.hid (btrans B5.out b6)
    clear b6 LB x0
    have x4 := K6.out.cell 4
    have x7 := K6.out.cell 7
    obtain ⟨tt, htt⟩ : ∃ tt, x.b.txn = tt := ⟨_, rfl⟩
    rw [htt] at x4 HM
    clear htt
    cases mb
    case false =>
      go_wp2_with fail
      go_ret
      exact ⟨ret_bool (by rw [HM.out]; rfl), BZ.out⟩
    cases tt
    case false =>
      go_wp2_with fail
      go_ret
      exact ⟨ret_bool (by rw [HM.out]; rfl), BZ.out⟩
    go_wp2_with fail
    refine (withinS_any x.nx _).mono ?_
    rintro e w7 ⟨rfl, rfl⟩
    go_wp2_with fail
    go_ret
    exact ⟨ret_bool (by rw [HM.out]; rfl), BZ.out⟩
set_option maxRecDepth 100000 in
set_option maxHeartbeats 4000000 in
theorem rEnMay_4 (x : En) (hk : x.kd = 4) (A1 D1 : Option Addr) (c1 e1 : Nat) (w : World) (hr : EnR w x A1 D1) :
    Calls Tryz.prog 14 #[(.agg #[.int .i8 x.kd, .int .i64 x.b.pid, .int .i64 x.b.ep, .int .i64 x.b.seq, .bool x.b.txn, .slice A1 x.b.rs.length c1, .bool x.yes, .int .i64 x.nx, .int .i64 x.off, .int .i64 x.row.1, .int .i64 x.row.2.1, .int .i64 x.row.2.2.1, .string x.row.2.2.2.1, .string x.row.2.2.2.2, .int .i64 x.prod.pid, .int .i64 x.prod.ep, .int .i64 x.prod.nx, .slice D1 x.prod.seen.length e1])] w fun e w' => e = .returned (.bool (mayEn x)) ∧ Below w.heap.size w w' := by
  have HR := Lib.hid hr
  have HM := Lib.hid (show mayEn x = (sameEn x (bareEn x) && (prodB x.b.pid x.b.ep && seqB x.nx)) by rw [← mayR_eq x]; unfold okR; rw [hk]; rfl)
  have cc0 : (x.kd == 0) = false := by rw [hk]; rfl
  have cc1 : (x.kd == 1) = false := by rw [hk]; rfl
  have cc2 : (x.kd == 2) = false := by rw [hk]; rfl
  have cc3 : (x.kd == 3) = false := by rw [hk]; rfl
  have cc4 : (x.kd == 4) = true := by rw [hk]; rfl
  have cc5 : (x.kd == 5) = false := by rw [hk]; rfl
  have cc6 : (x.kd == 6) = false := by rw [hk]; rfl
  have K0 := Lib.hid (Blk.new w 32 #[.int .i8 x.kd, .int .i64 x.b.pid, .int .i64 x.b.ep, .int .i64 x.b.seq, .bool x.b.txn, .slice A1 x.b.rs.length c1, .bool x.yes, .int .i64 x.nx, .int .i64 x.off, .int .i64 x.row.1, .int .i64 x.row.2.1, .int .i64 x.row.2.2.1, .string x.row.2.2.2.1, .string x.row.2.2.2.2, .int .i64 x.prod.pid, .int .i64 x.prod.ep, .int .i64 x.prod.nx, .slice D1 x.prod.seen.length e1])
  have B0 := Lib.hid (bal (Below.refl w.heap.size w) (.cells #[.int .i8 x.kd, .int .i64 x.b.pid, .int .i64 x.b.ep, .int .i64 x.b.seq, .bool x.b.txn, .slice A1 x.b.rs.length c1, .bool x.yes, .int .i64 x.nx, .int .i64 x.off, .int .i64 x.row.1, .int .i64 x.row.2.1, .int .i64 x.row.2.2.1, .string x.row.2.2.2.1, .string x.row.2.2.2.2, .int .i64 x.prod.pid, .int .i64 x.prod.ep, .int .i64 x.prod.nx, .slice D1 x.prod.seen.length e1] 32))
  clear hr hk
  generalize hsm : sameEn x (bareEn x) = sm at HM
  have HSM := Lib.hid hsm
  clear hsm
  go_enter Tryz.func14, Tryz.ntmps14
  go_upto_region 1 with (fail)
  go_region_held3 (fun W => (loadCells ⟨w.heap.size, 0, none⟩ 18).run Tryz.prog W = .ok #[.int .i8 x.kd, .int .i64 x.b.pid, .int .i64 x.b.ep, .int .i64 x.b.seq, .bool x.b.txn, .slice A1 x.b.rs.length c1, .bool x.yes, .int .i64 x.nx, .int .i64 x.off, .int .i64 x.row.1, .int .i64 x.row.2.1, .int .i64 x.row.2.2.1, .string x.row.2.2.2.1, .string x.row.2.2.2.2, .int .i64 x.prod.pid, .int .i64 x.prod.ep, .int .i64 x.prod.nx, .slice D1 x.prod.seen.length e1] W)
    (first | exact cells_blk K0.out.drew rfl | exact yL | exact zL)
    (first
      | (go_at_call 39; refine (bare_any x A1 D1 c1 e1 _ (HR.out.up (B0.out.trans (Below.refl _ _).drew))).mono ?_; rintro e w4 ⟨A9, D9, c9, e9, rfl, r9, b4⟩; have k4 := K0.out.drew.below b4 K0.out.lt; have K4 := Lib.hid k4; have yL := cells_blk k4 rfl; have B4 := Lib.hid (btrans B0.out ((Below.refl _ _).drew.trans (b4.mono (Nat.le_refl _)))); have R9 := Lib.hid r9; clear k4 b4 r9)
      | (go_at_call 16; refine (rEnSame_any x (bareEn x) A1 D1 A9 D9 c1 e1 c9 e9 _ (HR.out.up B4.out) R9.out).mono ?_; rintro e w5 ⟨rfl, b5⟩; have k5 := K4.out.below b5 K4.out.lt; have K5 := Lib.hid k5; have zL := cells_blk k5 rfl; have B5 := Lib.hid (btrans B4.out b5); clear k5 b5))
  all_goals
    rw [HSM.out]
    cases sm
    case false =>
      go_wp2_with fail
      go_ret
      exact ⟨ret_bool (by rw [HM.out]; rfl), B5.out⟩
    clear zL
    have x0 := K5.out.cell 0
    have x1 := K5.out.cell 1
    have x2 := K5.out.cell 2
    have x7 := K5.out.cell 7
    generalize hmb : prodB x.b.pid x.b.ep = mb at HM
    have HMB := Lib.hid hmb
    clear hmb
    go_wp2_with fail
    refine (rproducer_any x.b.pid x.b.ep _).mono ?_
    rintro e w6 ⟨rfl, rfl⟩
    rw [HMB.out]
    cases mb
    case false =>
      go_wp2_with fail
      go_ret
      exact ⟨ret_bool (by rw [HM.out]; rfl), B5.out⟩
    go_wp2_with fail
    refine (withinS_any x.nx _).mono ?_
    rintro e w7 ⟨rfl, rfl⟩
    go_wp2_with fail
    go_ret
    exact ⟨ret_bool (by rw [HM.out]; rfl), B5.out⟩
set_option maxRecDepth 100000 in
set_option maxHeartbeats 4000000 in
theorem rEnMay_9 (x : En) (h0 : ¬ x.kd = 0) (h1 : ¬ x.kd = 1) (h2 : ¬ x.kd = 2) (h3 : ¬ x.kd = 3) (h4 : ¬ x.kd = 4) (h5 : ¬ x.kd = 5) (h6 : ¬ x.kd = 6) (A1 D1 : Option Addr) (c1 e1 : Nat) (w : World) (hr : EnR w x A1 D1) :
    Calls Tryz.prog 14 #[(.agg #[.int .i8 x.kd, .int .i64 x.b.pid, .int .i64 x.b.ep, .int .i64 x.b.seq, .bool x.b.txn, .slice A1 x.b.rs.length c1, .bool x.yes, .int .i64 x.nx, .int .i64 x.off, .int .i64 x.row.1, .int .i64 x.row.2.1, .int .i64 x.row.2.2.1, .string x.row.2.2.2.1, .string x.row.2.2.2.2, .int .i64 x.prod.pid, .int .i64 x.prod.ep, .int .i64 x.prod.nx, .slice D1 x.prod.seen.length e1])] w fun e w' => e = .returned (.bool (mayEn x)) ∧ Below w.heap.size w w' := by
  have HR := Lib.hid hr
  have HM := Lib.hid (show mayEn x = (sameEn x (bareEn x) && (false)) by rw [← mayR_eq x]; unfold okR; rw [if_neg h0, if_neg h1, if_neg h2, if_neg h3, if_neg h4, if_neg h5, if_neg h6])
  have cc0 : (x.kd == 0) = false := by simpa using h0
  have cc1 : (x.kd == 1) = false := by simpa using h1
  have cc2 : (x.kd == 2) = false := by simpa using h2
  have cc3 : (x.kd == 3) = false := by simpa using h3
  have cc4 : (x.kd == 4) = false := by simpa using h4
  have cc5 : (x.kd == 5) = false := by simpa using h5
  have cc6 : (x.kd == 6) = false := by simpa using h6
  have K0 := Lib.hid (Blk.new w 32 #[.int .i8 x.kd, .int .i64 x.b.pid, .int .i64 x.b.ep, .int .i64 x.b.seq, .bool x.b.txn, .slice A1 x.b.rs.length c1, .bool x.yes, .int .i64 x.nx, .int .i64 x.off, .int .i64 x.row.1, .int .i64 x.row.2.1, .int .i64 x.row.2.2.1, .string x.row.2.2.2.1, .string x.row.2.2.2.2, .int .i64 x.prod.pid, .int .i64 x.prod.ep, .int .i64 x.prod.nx, .slice D1 x.prod.seen.length e1])
  have B0 := Lib.hid (bal (Below.refl w.heap.size w) (.cells #[.int .i8 x.kd, .int .i64 x.b.pid, .int .i64 x.b.ep, .int .i64 x.b.seq, .bool x.b.txn, .slice A1 x.b.rs.length c1, .bool x.yes, .int .i64 x.nx, .int .i64 x.off, .int .i64 x.row.1, .int .i64 x.row.2.1, .int .i64 x.row.2.2.1, .string x.row.2.2.2.1, .string x.row.2.2.2.2, .int .i64 x.prod.pid, .int .i64 x.prod.ep, .int .i64 x.prod.nx, .slice D1 x.prod.seen.length e1] 32))
  clear hr h0 h1 h2 h3 h4 h5 h6
  generalize hsm : sameEn x (bareEn x) = sm at HM
  have HSM := Lib.hid hsm
  clear hsm
  go_enter Tryz.func14, Tryz.ntmps14
  go_upto_region 1 with (fail)
  go_region_held3 (fun W => (loadCells ⟨w.heap.size, 0, none⟩ 18).run Tryz.prog W = .ok #[.int .i8 x.kd, .int .i64 x.b.pid, .int .i64 x.b.ep, .int .i64 x.b.seq, .bool x.b.txn, .slice A1 x.b.rs.length c1, .bool x.yes, .int .i64 x.nx, .int .i64 x.off, .int .i64 x.row.1, .int .i64 x.row.2.1, .int .i64 x.row.2.2.1, .string x.row.2.2.2.1, .string x.row.2.2.2.2, .int .i64 x.prod.pid, .int .i64 x.prod.ep, .int .i64 x.prod.nx, .slice D1 x.prod.seen.length e1] W)
    (first | exact cells_blk K0.out.drew rfl | exact yL | exact zL)
    (first
      | (go_at_call 39; refine (bare_any x A1 D1 c1 e1 _ (HR.out.up (B0.out.trans (Below.refl _ _).drew))).mono ?_; rintro e w4 ⟨A9, D9, c9, e9, rfl, r9, b4⟩; have k4 := K0.out.drew.below b4 K0.out.lt; have K4 := Lib.hid k4; have yL := cells_blk k4 rfl; have B4 := Lib.hid (btrans B0.out ((Below.refl _ _).drew.trans (b4.mono (Nat.le_refl _)))); have R9 := Lib.hid r9; clear k4 b4 r9)
      | (go_at_call 16; refine (rEnSame_any x (bareEn x) A1 D1 A9 D9 c1 e1 c9 e9 _ (HR.out.up B4.out) R9.out).mono ?_; rintro e w5 ⟨rfl, b5⟩; have k5 := K4.out.below b5 K4.out.lt; have K5 := Lib.hid k5; have zL := cells_blk k5 rfl; have B5 := Lib.hid (btrans B4.out b5); clear k5 b5))
  all_goals
    rw [HSM.out]
    cases sm
    case false =>
      go_wp2_with fail
      go_ret
      exact ⟨ret_bool (by rw [HM.out]; rfl), B5.out⟩
    clear zL
    have x0 := K5.out.cell 0
    go_wp2_with fail
    go_ret
    exact ⟨ret_bool (by rw [HM.out]; rfl), B5.out⟩
end
theorem rEnMay_any (x : En) (A1 D1 : Option Addr) (c1 e1 : Nat) (w : World) (hr : EnR w x A1 D1) :
    Calls Tryz.prog 14 #[(.agg #[.int .i8 x.kd, .int .i64 x.b.pid, .int .i64 x.b.ep, .int .i64 x.b.seq, .bool x.b.txn, .slice A1 x.b.rs.length c1, .bool x.yes, .int .i64 x.nx, .int .i64 x.off, .int .i64 x.row.1, .int .i64 x.row.2.1, .int .i64 x.row.2.2.1, .string x.row.2.2.2.1, .string x.row.2.2.2.2, .int .i64 x.prod.pid, .int .i64 x.prod.ep, .int .i64 x.prod.nx, .slice D1 x.prod.seen.length e1])] w fun e w' => e = .returned (.bool (mayEn x)) ∧ Below w.heap.size w w' := by
  by_cases h0 : x.kd = 0
  · exact rEnMay_0 x h0 A1 D1 c1 e1 w hr
  by_cases h1 : x.kd = 1
  · exact rEnMay_1 x h1 A1 D1 c1 e1 w hr
  by_cases h2 : x.kd = 2
  · exact rEnMay_2 x h2 A1 D1 c1 e1 w hr
  by_cases h3 : x.kd = 3
  · exact rEnMay_3 x h3 A1 D1 c1 e1 w hr
  by_cases h4 : x.kd = 4
  · exact rEnMay_4 x h4 A1 D1 c1 e1 w hr
  by_cases h5 : x.kd = 5
  · exact rEnMay_5 x h5 A1 D1 c1 e1 w hr
  by_cases h6 : x.kd = 6
  · exact rEnMay_6 x h6 A1 D1 c1 e1 w hr
  exact rEnMay_9 x h0 h1 h2 h3 h4 h5 h6 A1 D1 c1 e1 w hr
end Go.Proofs.YtckdecodpjfcnaaGreatDoor
