/-
  Layer 9: May of replies.
  Layer 9: ranges, May of replies.
-/
import Derived.Test.YtckdecodpjfcnaaDoorGrp15
set_option linter.unusedVariables false
set_option linter.unusedSimpArgs false
namespace Go.Proofs.YtckdecodpjfcnaaDoor
open Go.RowKit

/-- What ranges tells. -/
def RangesPost (q : Rp) (B : Nat) (w : World) (e : Ending) (w' : World) : Prop :=
  ∃ A3 c3, e = .returned (.tuple #[.bool (okB q), (.agg #[.int .i8 (restB q).kd, .int .i64 (restB q).er, .int .i64 (restB q).pid, .int .i64 (restB q).ep, .int .i64 (restB q).off, .slice A3 (restB q).rows.length c3])]) ∧ Reads w' B 5 A3 (restB q).rows.length (cellsW (restB q).rows) ∧ Below w.heap.size w w'

theorem blk_set6 {W : World} {b : Nat} {T : TypeId} {c0 c1 c2 c3 c4 c5 v0 v1 v2 v3 v4 v5 : Value} (h : Blk W b T #[c0, c1, c2, c3, c4, c5]) : Blk ((((((W.setCell ⟨b, 0, none⟩ v0).setCell ⟨b, 1, none⟩ v1).setCell ⟨b, 2, none⟩ v2).setCell ⟨b, 3, none⟩ v3).setCell ⟨b, 4, none⟩ v4).setCell ⟨b, 5, none⟩ v5) b T #[v0, v1, v2, v3, v4, v5] := by
  have h0 := h.set_ 0 v0
  simp only [List.setIfInBounds_toArray, List.set_cons_zero, List.set_cons_succ] at h0
  have h1 := h0.set_ 1 v1
  simp only [List.setIfInBounds_toArray, List.set_cons_zero, List.set_cons_succ] at h1
  have h2 := h1.set_ 2 v2
  simp only [List.setIfInBounds_toArray, List.set_cons_zero, List.set_cons_succ] at h2
  have h3 := h2.set_ 3 v3
  simp only [List.setIfInBounds_toArray, List.set_cons_zero, List.set_cons_succ] at h3
  have h4 := h3.set_ 4 v4
  simp only [List.setIfInBounds_toArray, List.set_cons_zero, List.set_cons_succ] at h4
  have h5 := h4.set_ 5 v5
  simp only [List.setIfInBounds_toArray, List.set_cons_zero, List.set_cons_succ] at h5
  exact h5

set_option maxRecDepth 100000 in
set_option maxHeartbeats 1000000 in
theorem ranges_0 (q : Rp) (hk : q.kd = 0) (A1 : Option Addr) (c1 : Nat) (B : Nat) (w : World) (hB : B ≤ w.heap.size) (hr : Reads w B 5 A1 q.rows.length (cellsW q.rows)) :
    Calls Tryd.prog 23 #[(.agg #[.int .i8 q.kd, .int .i64 q.er, .int .i64 q.pid, .int .i64 q.ep, .int .i64 q.off, .slice A1 q.rows.length c1])] w (RangesPost q B w) := by
  have HR := Lib.hid hr
  have W1 := Lib.hid (fun lo hi x W => within_any x lo hi W)
  have cc0 : (q.kd == 0) = true := by rw [hk]; rfl
  have cc1 : (q.kd == 1) = false := by rw [hk]; rfl
  have cc2 : (q.kd == 2) = false := by rw [hk]; rfl
  have cc5 : (q.kd == 5) = false := by rw [hk]; rfl
  have cc7 : (q.kd == 7) = false := by rw [hk]; rfl
  have HOK := Lib.hid (show okB q = (decide (1 ≤ q.pid ∧ q.pid ≤ 8)) by unfold okB; rw [hk]; rfl)
  have HRE := Lib.hid (show restB q = { q with pid := 0 } by unfold restB; rw [hk]; rfl)
  generalize hd0 : decide (1 ≤ q.pid ∧ q.pid ≤ 8) = d0 at *
  have HD0 := Lib.hid hd0
  clear hd0 hr hk
  go_enter Tryd.func23, Tryd.ntmps23
  go_wp2_with fail
  go_region
  go_wp2_with fail
  refine (W1.out _ _ _ _).mono ?_
  rintro e w1 ⟨rfl, rfl⟩
  rw [HD0.out]
  go_wp2_with fail
  go_region
  go_wp2_with fail
  have KF := (((blk_new (w.alloc (.cells #[.int .i8 q.kd, .int .i64 q.er, .int .i64 q.pid, .int .i64 q.ep, .int .i64 q.off, .slice A1 q.rows.length c1] 26)) 26 #[.int .i8 q.kd, .int .i64 q.er, .int .i64 0, .int .i64 q.ep, .int .i64 q.off, .slice A1 q.rows.length c1] (g := w.heap.size + 1) (by simp))).drew).drew
  have BF : Below w.heap.size w _ := (((bal (bal (Below.refl w.heap.size w) (.cells #[.int .i8 q.kd, .int .i64 q.er, .int .i64 q.pid, .int .i64 q.ep, .int .i64 q.off, .slice A1 q.rows.length c1] 26)) (.cells #[.int .i8 q.kd, .int .i64 q.er, .int .i64 0, .int .i64 q.ep, .int .i64 q.off, .slice A1 q.rows.length c1] 26))).drew).drew
  have u0 := KF.cell 0
  have u1 := KF.cell 1
  have u2 := KF.cell 2
  have u3 := KF.cell 3
  have u4 := KF.cell 4
  have u5 := KF.cell 5
  refine bodyPost_ret (v := .tuple #[.bool d0, .agg #[.int .i8 q.kd, .int .i64 q.er, .int .i64 0, .int .i64 q.ep, .int .i64 q.off, .slice A1 q.rows.length c1]]) (by simp [results, Tryd.results23, go_sem, u0, u1, u2, u3, u4, u5]) rfl ?_
  exact ⟨A1, c1, by rw [HOK.out, HRE.out] <;> rfl, by rw [HRE.out]; exact HR.out.below (BF.mono hB), BF⟩

set_option maxRecDepth 100000 in
set_option maxHeartbeats 1000000 in
theorem ranges_1 (q : Rp) (hk : q.kd = 1) (A1 : Option Addr) (c1 : Nat) (B : Nat) (w : World) (hB : B ≤ w.heap.size) (hr : Reads w B 5 A1 q.rows.length (cellsW q.rows)) :
    Calls Tryd.prog 23 #[(.agg #[.int .i8 q.kd, .int .i64 q.er, .int .i64 q.pid, .int .i64 q.ep, .int .i64 q.off, .slice A1 q.rows.length c1])] w (RangesPost q B w) := by
  have HR := Lib.hid hr
  have W1 := Lib.hid (fun lo hi x W => within_any x lo hi W)
  have cc0 : (q.kd == 0) = false := by rw [hk]; rfl
  have cc1 : (q.kd == 1) = true := by rw [hk]; rfl
  have cc2 : (q.kd == 2) = false := by rw [hk]; rfl
  have cc5 : (q.kd == 5) = false := by rw [hk]; rfl
  have cc7 : (q.kd == 7) = false := by rw [hk]; rfl
  have HOK := Lib.hid (show okB q = (decide (0 ≤ q.ep ∧ q.ep ≤ 100) && decide (1 ≤ q.pid ∧ q.pid ≤ 8)) by unfold okB; rw [hk]; rfl)
  have HRE := Lib.hid (show restB q = { q with ep := 0, pid := 0 } by unfold restB; rw [hk]; rfl)
  generalize hd0 : decide (0 ≤ q.ep ∧ q.ep ≤ 100) = d0 at *
  have HD0 := Lib.hid hd0
  generalize hd1 : decide (1 ≤ q.pid ∧ q.pid ≤ 8) = d1 at *
  have HD1 := Lib.hid hd1
  clear hd0 hd1 hr hk
  go_enter Tryd.func23, Tryd.ntmps23
  go_wp2_with fail
  go_region
  go_wp2_with fail
  refine (W1.out _ _ _ _).mono ?_
  rintro e w1 ⟨rfl, rfl⟩
  rw [HD0.out]
  cases d0
  · go_wp2_with fail
    go_region
    go_wp2_with fail
    have KF := (((blk_new (w.alloc (.cells #[.int .i8 q.kd, .int .i64 q.er, .int .i64 q.pid, .int .i64 q.ep, .int .i64 q.off, .slice A1 q.rows.length c1] 26)) 26 #[.int .i8 q.kd, .int .i64 q.er, .int .i64 0, .int .i64 0, .int .i64 q.off, .slice A1 q.rows.length c1] (g := w.heap.size + 1) (by simp))).drew).drew
    have BF : Below w.heap.size w _ := (((bal (bal (Below.refl w.heap.size w) (.cells #[.int .i8 q.kd, .int .i64 q.er, .int .i64 q.pid, .int .i64 q.ep, .int .i64 q.off, .slice A1 q.rows.length c1] 26)) (.cells #[.int .i8 q.kd, .int .i64 q.er, .int .i64 0, .int .i64 0, .int .i64 q.off, .slice A1 q.rows.length c1] 26))).drew).drew
    have u0 := KF.cell 0
    have u1 := KF.cell 1
    have u2 := KF.cell 2
    have u3 := KF.cell 3
    have u4 := KF.cell 4
    have u5 := KF.cell 5
    refine bodyPost_ret (v := .tuple #[.bool false, .agg #[.int .i8 q.kd, .int .i64 q.er, .int .i64 0, .int .i64 0, .int .i64 q.off, .slice A1 q.rows.length c1]]) (by simp [results, Tryd.results23, go_sem, u0, u1, u2, u3, u4, u5]) rfl ?_
    exact ⟨A1, c1, by rw [HOK.out, HRE.out] <;> rfl, by rw [HRE.out]; exact HR.out.below (BF.mono hB), BF⟩
  go_wp2_with fail
  refine (W1.out _ _ _ _).mono ?_
  rintro e w1 ⟨rfl, rfl⟩
  rw [HD1.out]
  go_wp2_with fail
  go_region
  go_wp2_with fail
  have KF := (((blk_new (w.alloc (.cells #[.int .i8 q.kd, .int .i64 q.er, .int .i64 q.pid, .int .i64 q.ep, .int .i64 q.off, .slice A1 q.rows.length c1] 26)) 26 #[.int .i8 q.kd, .int .i64 q.er, .int .i64 0, .int .i64 0, .int .i64 q.off, .slice A1 q.rows.length c1] (g := w.heap.size + 1) (by simp))).drew).drew
  have BF : Below w.heap.size w _ := (((bal (bal (Below.refl w.heap.size w) (.cells #[.int .i8 q.kd, .int .i64 q.er, .int .i64 q.pid, .int .i64 q.ep, .int .i64 q.off, .slice A1 q.rows.length c1] 26)) (.cells #[.int .i8 q.kd, .int .i64 q.er, .int .i64 0, .int .i64 0, .int .i64 q.off, .slice A1 q.rows.length c1] 26))).drew).drew
  have u0 := KF.cell 0
  have u1 := KF.cell 1
  have u2 := KF.cell 2
  have u3 := KF.cell 3
  have u4 := KF.cell 4
  have u5 := KF.cell 5
  refine bodyPost_ret (v := .tuple #[.bool d1, .agg #[.int .i8 q.kd, .int .i64 q.er, .int .i64 0, .int .i64 0, .int .i64 q.off, .slice A1 q.rows.length c1]]) (by simp [results, Tryd.results23, go_sem, u0, u1, u2, u3, u4, u5]) rfl ?_
  exact ⟨A1, c1, by rw [HOK.out, HRE.out] <;> rfl, by rw [HRE.out]; exact HR.out.below (BF.mono hB), BF⟩

set_option maxRecDepth 100000 in
set_option maxHeartbeats 1000000 in
theorem ranges_2 (q : Rp) (hk : q.kd = 2) (A1 : Option Addr) (c1 : Nat) (B : Nat) (w : World) (hB : B ≤ w.heap.size) (hr : Reads w B 5 A1 q.rows.length (cellsW q.rows)) :
    Calls Tryd.prog 23 #[(.agg #[.int .i8 q.kd, .int .i64 q.er, .int .i64 q.pid, .int .i64 q.ep, .int .i64 q.off, .slice A1 q.rows.length c1])] w (RangesPost q B w) := by
  have HR := Lib.hid hr
  have W1 := Lib.hid (fun lo hi x W => within_any x lo hi W)
  have cc0 : (q.kd == 0) = false := by rw [hk]; rfl
  have cc1 : (q.kd == 1) = false := by rw [hk]; rfl
  have cc2 : (q.kd == 2) = true := by rw [hk]; rfl
  have cc5 : (q.kd == 5) = false := by rw [hk]; rfl
  have cc7 : (q.kd == 7) = false := by rw [hk]; rfl
  have HOK := Lib.hid (show okB q = (decide (-1 ≤ q.off ∧ q.off ≤ 1048576)) by unfold okB; rw [hk]; rfl)
  have HRE := Lib.hid (show restB q = { q with off := 0 } by unfold restB; rw [hk]; rfl)
  generalize hd0 : decide (-1 ≤ q.off ∧ q.off ≤ 1048576) = d0 at *
  have HD0 := Lib.hid hd0
  clear hd0 hr hk
  go_enter Tryd.func23, Tryd.ntmps23
  go_wp2_with fail
  go_region
  go_wp2_with fail
  refine (W1.out _ _ _ _).mono ?_
  rintro e w1 ⟨rfl, rfl⟩
  rw [HD0.out]
  go_wp2_with fail
  go_region
  go_wp2_with fail
  have KF := (((blk_new (w.alloc (.cells #[.int .i8 q.kd, .int .i64 q.er, .int .i64 q.pid, .int .i64 q.ep, .int .i64 q.off, .slice A1 q.rows.length c1] 26)) 26 #[.int .i8 q.kd, .int .i64 q.er, .int .i64 q.pid, .int .i64 q.ep, .int .i64 0, .slice A1 q.rows.length c1] (g := w.heap.size + 1) (by simp))).drew).drew
  have BF : Below w.heap.size w _ := (((bal (bal (Below.refl w.heap.size w) (.cells #[.int .i8 q.kd, .int .i64 q.er, .int .i64 q.pid, .int .i64 q.ep, .int .i64 q.off, .slice A1 q.rows.length c1] 26)) (.cells #[.int .i8 q.kd, .int .i64 q.er, .int .i64 q.pid, .int .i64 q.ep, .int .i64 0, .slice A1 q.rows.length c1] 26))).drew).drew
  have u0 := KF.cell 0
  have u1 := KF.cell 1
  have u2 := KF.cell 2
  have u3 := KF.cell 3
  have u4 := KF.cell 4
  have u5 := KF.cell 5
  refine bodyPost_ret (v := .tuple #[.bool d0, .agg #[.int .i8 q.kd, .int .i64 q.er, .int .i64 q.pid, .int .i64 q.ep, .int .i64 0, .slice A1 q.rows.length c1]]) (by simp [results, Tryd.results23, go_sem, u0, u1, u2, u3, u4, u5]) rfl ?_
  exact ⟨A1, c1, by rw [HOK.out, HRE.out] <;> rfl, by rw [HRE.out]; exact HR.out.below (BF.mono hB), BF⟩

set_option maxRecDepth 100000 in
set_option maxHeartbeats 1000000 in
theorem ranges_7 (q : Rp) (hk : q.kd = 7) (A1 : Option Addr) (c1 : Nat) (B : Nat) (w : World) (hB : B ≤ w.heap.size) (hr : Reads w B 5 A1 q.rows.length (cellsW q.rows)) :
    Calls Tryd.prog 23 #[(.agg #[.int .i8 q.kd, .int .i64 q.er, .int .i64 q.pid, .int .i64 q.ep, .int .i64 q.off, .slice A1 q.rows.length c1])] w (RangesPost q B w) := by
  have HR := Lib.hid hr
  have W1 := Lib.hid (fun lo hi x W => within_any x lo hi W)
  have cc0 : (q.kd == 0) = false := by rw [hk]; rfl
  have cc1 : (q.kd == 1) = false := by rw [hk]; rfl
  have cc2 : (q.kd == 2) = false := by rw [hk]; rfl
  have cc5 : (q.kd == 5) = false := by rw [hk]; rfl
  have cc7 : (q.kd == 7) = true := by rw [hk]; rfl
  have HOK := Lib.hid (show okB q = (decide (-1 ≤ q.off ∧ q.off ≤ 1048576)) by unfold okB; rw [hk]; rfl)
  have HRE := Lib.hid (show restB q = { q with off := 0 } by unfold restB; rw [hk]; rfl)
  generalize hd0 : decide (-1 ≤ q.off ∧ q.off ≤ 1048576) = d0 at *
  have HD0 := Lib.hid hd0
  clear hd0 hr hk
  go_enter Tryd.func23, Tryd.ntmps23
  go_wp2_with fail
  go_region
  go_wp2_with fail
  refine (W1.out _ _ _ _).mono ?_
  rintro e w1 ⟨rfl, rfl⟩
  rw [HD0.out]
  go_wp2_with fail
  go_region
  go_wp2_with fail
  have KF := (((blk_new (w.alloc (.cells #[.int .i8 q.kd, .int .i64 q.er, .int .i64 q.pid, .int .i64 q.ep, .int .i64 q.off, .slice A1 q.rows.length c1] 26)) 26 #[.int .i8 q.kd, .int .i64 q.er, .int .i64 q.pid, .int .i64 q.ep, .int .i64 0, .slice A1 q.rows.length c1] (g := w.heap.size + 1) (by simp))).drew).drew
  have BF : Below w.heap.size w _ := (((bal (bal (Below.refl w.heap.size w) (.cells #[.int .i8 q.kd, .int .i64 q.er, .int .i64 q.pid, .int .i64 q.ep, .int .i64 q.off, .slice A1 q.rows.length c1] 26)) (.cells #[.int .i8 q.kd, .int .i64 q.er, .int .i64 q.pid, .int .i64 q.ep, .int .i64 0, .slice A1 q.rows.length c1] 26))).drew).drew
  have u0 := KF.cell 0
  have u1 := KF.cell 1
  have u2 := KF.cell 2
  have u3 := KF.cell 3
  have u4 := KF.cell 4
  have u5 := KF.cell 5
  refine bodyPost_ret (v := .tuple #[.bool d0, .agg #[.int .i8 q.kd, .int .i64 q.er, .int .i64 q.pid, .int .i64 q.ep, .int .i64 0, .slice A1 q.rows.length c1]]) (by simp [results, Tryd.results23, go_sem, u0, u1, u2, u3, u4, u5]) rfl ?_
  exact ⟨A1, c1, by rw [HOK.out, HRE.out] <;> rfl, by rw [HRE.out]; exact HR.out.below (BF.mono hB), BF⟩

set_option maxRecDepth 100000 in
set_option maxHeartbeats 1000000 in
theorem ranges_9 (q : Rp) (k0 : ¬ q.kd = 0) (k1 : ¬ q.kd = 1) (k2 : ¬ q.kd = 2) (k5 : ¬ q.kd = 5) (k7 : ¬ q.kd = 7) (A1 : Option Addr) (c1 : Nat) (B : Nat) (w : World) (hB : B ≤ w.heap.size) (hr : Reads w B 5 A1 q.rows.length (cellsW q.rows)) :
    Calls Tryd.prog 23 #[(.agg #[.int .i8 q.kd, .int .i64 q.er, .int .i64 q.pid, .int .i64 q.ep, .int .i64 q.off, .slice A1 q.rows.length c1])] w (RangesPost q B w) := by
  have HR := Lib.hid hr
  have cc0 : (q.kd == 0) = false := eqb_false k0
  have cc1 : (q.kd == 1) = false := eqb_false k1
  have cc2 : (q.kd == 2) = false := eqb_false k2
  have cc5 : (q.kd == 5) = false := eqb_false k5
  have cc7 : (q.kd == 7) = false := eqb_false k7
  have k27 : ¬ (q.kd = 2 ∨ q.kd = 7) := fun h => h.elim k2 k7
  have HOK := Lib.hid (show okB q = true by unfold okB; rw [if_neg k1, if_neg k0, if_neg k5, if_neg k27])
  have HRE := Lib.hid (show restB q = q by unfold restB; rw [if_neg k1, if_neg k0, if_neg k5, if_neg k27])
  clear k0 k1 k2 k5 k7 k27 hr
  go_enter Tryd.func23, Tryd.ntmps23
  go_wp2_with fail
  go_region
  go_wp2_with fail
  go_region
  go_wp2_with fail
  have KF := (((blk_new (w.alloc (.cells #[.int .i8 q.kd, .int .i64 q.er, .int .i64 q.pid, .int .i64 q.ep, .int .i64 q.off, .slice A1 q.rows.length c1] 26)) 26 #[.int .i8 q.kd, .int .i64 q.er, .int .i64 q.pid, .int .i64 q.ep, .int .i64 q.off, .slice A1 q.rows.length c1] (g := w.heap.size + 1) (by simp))).drew).drew
  have BF : Below w.heap.size w _ := (((bal (bal (Below.refl w.heap.size w) (.cells #[.int .i8 q.kd, .int .i64 q.er, .int .i64 q.pid, .int .i64 q.ep, .int .i64 q.off, .slice A1 q.rows.length c1] 26)) (.cells #[.int .i8 q.kd, .int .i64 q.er, .int .i64 q.pid, .int .i64 q.ep, .int .i64 q.off, .slice A1 q.rows.length c1] 26))).drew).drew
  have u0 := KF.cell 0
  have u1 := KF.cell 1
  have u2 := KF.cell 2
  have u3 := KF.cell 3
  have u4 := KF.cell 4
  have u5 := KF.cell 5
  refine bodyPost_ret (v := .tuple #[.bool true, .agg #[.int .i8 q.kd, .int .i64 q.er, .int .i64 q.pid, .int .i64 q.ep, .int .i64 q.off, .slice A1 q.rows.length c1]]) (by simp [results, Tryd.results23, go_sem, u0, u1, u2, u3, u4, u5]) rfl ?_
  exact ⟨A1, c1, by rw [HOK.out, HRE.out] <;> rfl, by rw [HRE.out]; exact HR.out.below (BF.mono hB), BF⟩

set_option maxRecDepth 100000 in
set_option maxHeartbeats 2000000 in
theorem ranges_5 (q : Rp) (hk : q.kd = 5) (A1 : Option Addr) (c1 : Nat) (B : Nat) (w : World) (hB : B ≤ w.heap.size) (hr : Reads w B 5 A1 q.rows.length (cellsW q.rows)) (hl : q.rows.length ≤ 1000000) :
    Calls Tryd.prog 23 #[(.agg #[.int .i8 q.kd, .int .i64 q.er, .int .i64 q.pid, .int .i64 q.ep, .int .i64 q.off, .slice A1 q.rows.length c1])] w (RangesPost q B w) := by
  have HR := Lib.hid hr
  have W1 := Lib.hid (fun lo hi x W => within_any x lo hi W)
  have cc0 : (q.kd == 0) = false := by rw [hk]; rfl
  have cc1 : (q.kd == 1) = false := by rw [hk]; rfl
  have cc2 : (q.kd == 2) = false := by rw [hk]; rfl
  have cc5 : (q.kd == 5) = true := by rw [hk]; rfl
  have cc7 : (q.kd == 7) = false := by rw [hk]; rfl
  have CF := Lib.hid (fun W (h : Below w.heap.size w W) => ContainsFunc_any A1 q.rows c1 W ((hr.below (h.mono hB)).more (Nat.le_trans hB h.size)) (by omega))
  have hnn : (!(q.rows.any hidW)) = q.rows.all vis := by rw [List.all_eq_not_any_not]; rfl
  have HNN := Lib.hid hnn
  have HOK := Lib.hid (show okB q = ((decide (q.off ≠ -1) && (decide (q.rows.length ≤ 64) && q.rows.all vis)) && decide (-1 ≤ q.off ∧ q.off ≤ 1048576)) by unfold okB; rw [hk]; rfl)
  have HRE := Lib.hid (show restB q = { q with rows := [], off := 0 } by unfold restB; rw [hk]; rfl)
  generalize hd9 : decide (-1 ≤ q.off ∧ q.off ≤ 1048576) = d9 at *
  have HD9 := Lib.hid hd9
  have B0 := Lib.hid (((bal (bal (Below.refl w.heap.size w) (.cells #[.int .i8 q.kd, .int .i64 q.er, .int .i64 q.pid, .int .i64 q.ep, .int .i64 q.off, .slice A1 q.rows.length c1] 26)) (.cells #[.int .i8 q.kd, .int .i64 q.er, .int .i64 q.pid, .int .i64 q.ep, .int .i64 q.off, .slice A1 q.rows.length c1] 26))).drew)
  have KK0 := Lib.hid ((((Blk.new w 26 #[.int .i8 q.kd, .int .i64 q.er, .int .i64 q.pid, .int .i64 q.ep, .int .i64 q.off, .slice A1 q.rows.length c1]).alloc (.cells #[.int .i8 q.kd, .int .i64 q.er, .int .i64 q.pid, .int .i64 q.ep, .int .i64 q.off, .slice A1 q.rows.length c1] 26))).drew)
  have KL0 := Lib.hid ((blk_new (w.alloc (.cells #[.int .i8 q.kd, .int .i64 q.er, .int .i64 q.pid, .int .i64 q.ep, .int .i64 q.off, .slice A1 q.rows.length c1] 26)) 26 #[.int .i8 q.kd, .int .i64 q.er, .int .i64 q.pid, .int .i64 q.ep, .int .i64 q.off, .slice A1 q.rows.length c1] (g := w.heap.size + 1) (by simp)).drew)
  clear hd9 hr hk hnn
  go_enter Tryd.func23, Tryd.ntmps23
  go_wp2_with fail
  go_region
  by_cases o1 : q.off = -1
  · have ee : (q.off != -1) = false := by rw [o1]; rfl
    have HO := Lib.hid (show okB q = false by rw [HOK.out]; simp [o1])
    clear o1 HOK
    have HOK := HO
    have D9 : d9 = true ∨ d9 = false := by cases d9 <;> simp
    go_wp2_with fail
    go_region
    go_wp2_with fail
    have KF := (((blk_new (w.alloc (.cells #[.int .i8 q.kd, .int .i64 q.er, .int .i64 q.pid, .int .i64 q.ep, .int .i64 q.off, .slice A1 q.rows.length c1] 26)) 26 #[.int .i8 q.kd, .int .i64 q.er, .int .i64 q.pid, .int .i64 q.ep, .int .i64 0, .slice none 0 0] (g := w.heap.size + 1) (by simp))).drew).drew
    have BF : Below w.heap.size w _ := (((bal (bal (Below.refl w.heap.size w) (.cells #[.int .i8 q.kd, .int .i64 q.er, .int .i64 q.pid, .int .i64 q.ep, .int .i64 q.off, .slice A1 q.rows.length c1] 26)) (.cells #[.int .i8 q.kd, .int .i64 q.er, .int .i64 q.pid, .int .i64 q.ep, .int .i64 0, .slice none 0 0] 26))).drew).drew
    have u0 := KF.cell 0
    have u1 := KF.cell 1
    have u2 := KF.cell 2
    have u3 := KF.cell 3
    have u4 := KF.cell 4
    have u5 := KF.cell 5
    refine bodyPost_ret (v := .tuple #[.bool false, .agg #[.int .i8 q.kd, .int .i64 q.er, .int .i64 q.pid, .int .i64 q.ep, .int .i64 0, .slice none 0 0]]) (by simp [results, Tryd.results23, go_sem, u0, u1, u2, u3, u4, u5]) rfl ?_
    exact ⟨none, 0, by rw [HOK.out, HRE.out] <;> rfl, by rw [HRE.out]; exact Reads.none_, BF⟩
  have ee : (q.off != -1) = true := by rw [bne_iff_ne]; exact o1
  by_cases o2 : q.rows.length ≤ 64
  · have e2 : decide ((q.rows.length : Int) ≤ 64) = true := by simp; omega
    have HO := Lib.hid (show okB q = (!(q.rows.any hidW) && d9) by rw [HOK.out, HNN.out]; simp [o1, o2])
    clear o1 o2 HOK hl
    generalize hg : q.rows.any hidW = dh at *
    clear hg
    go_wp2_with fail
    refine (CF.out _ B0.out).mono ?_
    rintro e w1 ⟨rfl, b1⟩
    have ka := KK0.out.below b1 (by simp; omega)
    have kl := KL0.out.below b1 (by simp)
    have BE := Lib.hid (btrans B0.out b1)
    have KL := Lib.hid kl
    clear b1
    have x4 := ka.cell 4
    have y0 := kl.cell 0
    have z0 := kl.frozen 0
    have y1 := kl.cell 1
    have z1 := kl.frozen 1
    have y2 := kl.cell 2
    have z2 := kl.frozen 2
    have y3 := kl.cell 3
    have z3 := kl.frozen 3
    have y4 := kl.cell 4
    have z4 := kl.frozen 4
    have y5 := kl.cell 5
    have z5 := kl.frozen 5
    clear ka kl
    have HOK := HO
    cases dh
    · go_wp2_with fail
      refine (W1.out _ _ _ _).mono ?_
      rintro e w2 ⟨rfl, rfl⟩
      rw [HD9.out]
      go_wp2_with fail
      go_region
      go_wp2_with fail
      have KF := (blk_set6 (v0 := .int .i8 q.kd) (v1 := .int .i64 q.er) (v2 := .int .i64 q.pid) (v3 := .int .i64 q.ep) (v4 := .int .i64 0) (v5 := .slice none 0 0) ((KL.out.set_ 5 (.slice none 0 0)).set_ 4 (.int .i64 0))).drew
      have BF := (bset (bset (bset (bset (bset (bset (bset (bset BE.out (b := w.heap.size + 1) (o := 5) (by omega) (.slice none 0 0)) (b := w.heap.size + 1) (o := 4) (by omega) (.int .i64 0)) (b := w.heap.size + 1) (o := 0) (by omega) (.int .i8 q.kd)) (b := w.heap.size + 1) (o := 1) (by omega) (.int .i64 q.er)) (b := w.heap.size + 1) (o := 2) (by omega) (.int .i64 q.pid)) (b := w.heap.size + 1) (o := 3) (by omega) (.int .i64 q.ep)) (b := w.heap.size + 1) (o := 4) (by omega) (.int .i64 0)) (b := w.heap.size + 1) (o := 5) (by omega) (.slice none 0 0)).drew
      have u0 := KF.cell 0
      have u1 := KF.cell 1
      have u2 := KF.cell 2
      have u3 := KF.cell 3
      have u4 := KF.cell 4
      have u5 := KF.cell 5
      refine bodyPost_ret (v := .tuple #[.bool d9, .agg #[.int .i8 q.kd, .int .i64 q.er, .int .i64 q.pid, .int .i64 q.ep, .int .i64 0, .slice none 0 0]]) (by simp [results, Tryd.results23, go_sem, u0, u1, u2, u3, u4, u5]) rfl ?_
      exact ⟨none, 0, by rw [HOK.out, HRE.out] <;> rfl, by rw [HRE.out]; exact Reads.none_, BF⟩
    · go_wp2_with fail
      go_region
      go_wp2_with fail
      have KF := (blk_set6 (v0 := .int .i8 q.kd) (v1 := .int .i64 q.er) (v2 := .int .i64 q.pid) (v3 := .int .i64 q.ep) (v4 := .int .i64 0) (v5 := .slice none 0 0) ((KL.out.set_ 5 (.slice none 0 0)).set_ 4 (.int .i64 0))).drew
      have BF := (bset (bset (bset (bset (bset (bset (bset (bset BE.out (b := w.heap.size + 1) (o := 5) (by omega) (.slice none 0 0)) (b := w.heap.size + 1) (o := 4) (by omega) (.int .i64 0)) (b := w.heap.size + 1) (o := 0) (by omega) (.int .i8 q.kd)) (b := w.heap.size + 1) (o := 1) (by omega) (.int .i64 q.er)) (b := w.heap.size + 1) (o := 2) (by omega) (.int .i64 q.pid)) (b := w.heap.size + 1) (o := 3) (by omega) (.int .i64 q.ep)) (b := w.heap.size + 1) (o := 4) (by omega) (.int .i64 0)) (b := w.heap.size + 1) (o := 5) (by omega) (.slice none 0 0)).drew
      have u0 := KF.cell 0
      have u1 := KF.cell 1
      have u2 := KF.cell 2
      have u3 := KF.cell 3
      have u4 := KF.cell 4
      have u5 := KF.cell 5
      refine bodyPost_ret (v := .tuple #[.bool false, .agg #[.int .i8 q.kd, .int .i64 q.er, .int .i64 q.pid, .int .i64 q.ep, .int .i64 0, .slice none 0 0]]) (by simp [results, Tryd.results23, go_sem, u0, u1, u2, u3, u4, u5]) rfl ?_
      exact ⟨none, 0, by rw [HOK.out, HRE.out] <;> rfl, by rw [HRE.out]; exact Reads.none_, BF⟩
  · have e2 : decide ((q.rows.length : Int) ≤ 64) = false := by simp; omega
    have HO := Lib.hid (show okB q = false by rw [HOK.out]; simp [o2])
    clear o1 o2 HOK
    have HOK := HO
    go_wp2_with fail
    go_region
    go_wp2_with fail
    have KF := (((blk_new (w.alloc (.cells #[.int .i8 q.kd, .int .i64 q.er, .int .i64 q.pid, .int .i64 q.ep, .int .i64 q.off, .slice A1 q.rows.length c1] 26)) 26 #[.int .i8 q.kd, .int .i64 q.er, .int .i64 q.pid, .int .i64 q.ep, .int .i64 0, .slice none 0 0] (g := w.heap.size + 1) (by simp))).drew).drew
    have BF : Below w.heap.size w _ := (((bal (bal (Below.refl w.heap.size w) (.cells #[.int .i8 q.kd, .int .i64 q.er, .int .i64 q.pid, .int .i64 q.ep, .int .i64 q.off, .slice A1 q.rows.length c1] 26)) (.cells #[.int .i8 q.kd, .int .i64 q.er, .int .i64 q.pid, .int .i64 q.ep, .int .i64 0, .slice none 0 0] 26))).drew).drew
    have u0 := KF.cell 0
    have u1 := KF.cell 1
    have u2 := KF.cell 2
    have u3 := KF.cell 3
    have u4 := KF.cell 4
    have u5 := KF.cell 5
    refine bodyPost_ret (v := .tuple #[.bool false, .agg #[.int .i8 q.kd, .int .i64 q.er, .int .i64 q.pid, .int .i64 q.ep, .int .i64 0, .slice none 0 0]]) (by simp [results, Tryd.results23, go_sem, u0, u1, u2, u3, u4, u5]) rfl ?_
    exact ⟨none, 0, by rw [HOK.out, HRE.out] <;> rfl, by rw [HRE.out]; exact Reads.none_, BF⟩

end Go.Proofs.YtckdecodpjfcnaaDoor
namespace Go.Proofs.YtckdecodpjfcnaaDoor
open Go.RowKit

theorem ranges_any (q : Rp) (A1 : Option Addr) (c1 : Nat) (B : Nat) (w : World) (hB : B ≤ w.heap.size) (hr : Reads w B 5 A1 q.rows.length (cellsW q.rows)) (hl : q.rows.length ≤ 1000000) :
    Calls Tryd.prog 23 #[(.agg #[.int .i8 q.kd, .int .i64 q.er, .int .i64 q.pid, .int .i64 q.ep, .int .i64 q.off, .slice A1 q.rows.length c1])] w (RangesPost q B w) := by
  by_cases k1 : q.kd = 1
  · exact ranges_1 q k1 A1 c1 B w hB hr
  by_cases k0 : q.kd = 0
  · exact ranges_0 q k0 A1 c1 B w hB hr
  by_cases k5 : q.kd = 5
  · exact ranges_5 q k5 A1 c1 B w hB hr hl
  by_cases k2 : q.kd = 2
  · exact ranges_2 q k2 A1 c1 B w hB hr
  by_cases k7 : q.kd = 7
  · exact ranges_7 q k7 A1 c1 B w hB hr
  exact ranges_9 q k0 k1 k2 k5 k7 A1 c1 B w hB hr

/-- A reply with its kind and its error alone. -/
def baseRp (kd er : Int) : Rp := ⟨kd, er, 0, 0, 0, []⟩
theorem same_bare (q : Rp) (kd er : Int) (h1 : q.kd = kd) (h2 : q.er = er) : sameRp q (baseRp kd er) = bareB q := by
  subst h1; subst h2
  rw [Bool.eq_iff_iff, sameRp_iff]
  unfold bareB baseRp
  rw [decide_eq_true_eq]
  constructor
  · intro h
    have h1 := congrArg Rp.pid h
    have h2 := congrArg Rp.ep h
    have h3 := congrArg Rp.off h
    have h4 := congrArg Rp.rows h
    exact ⟨h1, h2, h3, by rw [h4]; rfl⟩
  · rintro ⟨h1, h2, h3, h4⟩
    exact Rp.ext' rfl rfl h1 h2 h3 (List.length_eq_zero_iff.1 h4)
theorem rest_kd (q : Rp) : (restB q).kd = q.kd ∧ (restB q).er = q.er := by
  unfold restB
  repeat' split
  all_goals exact ⟨rfl, rfl⟩
theorem rest_len (q : Rp) : (restB q).rows.length ≤ q.rows.length := by
  unfold restB
  repeat' split
  all_goals first | exact Nat.le_refl _ | exact Nat.zero_le _

set_option maxRecDepth 100000 in
set_option maxHeartbeats 2000000 in
theorem RpMay_any (q : Rp) (A1 : Option Addr) (c1 : Nat) (w : World) (hr : Reads w w.heap.size 5 A1 q.rows.length (cellsW q.rows)) (hl : q.rows.length ≤ 1000000) :
    Calls Tryd.prog 11 #[(.agg #[.int .i8 q.kd, .int .i64 q.er, .int .i64 q.pid, .int .i64 q.ep, .int .i64 q.off, .slice A1 q.rows.length c1])] w fun e w' => e = .returned (.bool (mayB q)) ∧ Below w.heap.size w w' := by
  have HR := Lib.hid hr
  have B0 := Lib.hid (bal (Below.refl w.heap.size w) (.cells #[.int .i8 q.kd, .int .i64 q.er, .int .i64 q.pid, .int .i64 q.ep, .int .i64 q.off, .slice A1 q.rows.length c1] 26))
  have B1 := Lib.hid ((bal (bal (Below.refl w.heap.size w) (.cells #[.int .i8 q.kd, .int .i64 q.er, .int .i64 q.pid, .int .i64 q.ep, .int .i64 q.off, .slice A1 q.rows.length c1] 26)) (.cells #[.int .i8 q.kd, .int .i64 q.er, .int .i64 q.pid, .int .i64 q.ep, .int .i64 q.off, .slice A1 q.rows.length c1] 26)).drew)
  have KA := Lib.hid ((((Blk.new w 26 #[.int .i8 q.kd, .int .i64 q.er, .int .i64 q.pid, .int .i64 q.ep, .int .i64 q.off, .slice A1 q.rows.length c1]).alloc (.cells #[.int .i8 q.kd, .int .i64 q.er, .int .i64 q.pid, .int .i64 q.ep, .int .i64 q.off, .slice A1 q.rows.length c1] 26))).drew)
  have KB := Lib.hid ((blk_new (w.alloc (.cells #[.int .i8 q.kd, .int .i64 q.er, .int .i64 q.pid, .int .i64 q.ep, .int .i64 q.off, .slice A1 q.rows.length c1] 26)) 26 #[.int .i8 q.kd, .int .i64 q.er, .int .i64 q.pid, .int .i64 q.ep, .int .i64 q.off, .slice A1 q.rows.length c1] (g := w.heap.size + 1) (by simp)).drew)
  have W8 := Lib.hid (fun lo hi x W => within8_any x lo hi W)
  have WE := Lib.hid (fun lo hi x W => withinE_any x lo hi W)
  have RG := Lib.hid (fun W (h : Below w.heap.size w W) => ranges_any q A1 c1 w.heap.size W h.size (hr.below h) hl)
  have SB := Lib.hid (fun W (h : Below w.heap.size w W) => RpSame_any q (baseRp q.kd q.er) A1 none c1 0 W ((hr.below h).more h.size) Reads.none_ hl)
  have SR := Lib.hid (fun A3 c3 W (h : Reads W W.heap.size 5 A3 (restB q).rows.length (cellsW (restB q).rows)) => RpSame_any (restB q) (baseRp q.kd q.er) A3 none c3 0 W h Reads.none_ (by have := rest_len q; omega))
  rw [same_bare q q.kd q.er rfl rfl] at SB
  rw [same_bare (restB q) q.kd q.er (rest_kd q).1 (rest_kd q).2] at SR
  have RK := Lib.hid (rest_kd q)
  have HM : mayB q = (decide (0 ≤ q.kd ∧ q.kd ≤ 9) && (decide (0 ≤ q.er ∧ q.er ≤ 400) && (if q.er = 0 then okB q && bareB (restB q) else bareB q))) := rfl
  generalize hd1 : decide (0 ≤ q.kd ∧ q.kd ≤ 9) = d1 at *
  generalize hd2 : decide (0 ≤ q.er ∧ q.er ≤ 400) = d2 at *
  have HD1 := Lib.hid hd1
  have HD2 := Lib.hid hd2
  clear hd1 hd2 hr hl
  by_cases h0 : q.er = 0
  · rw [if_pos h0] at HM
    have ee : (q.er == 0) = true := by rw [h0]; rfl
    have HMM := Lib.hid HM
    clear HM h0 SB
    generalize bareB (restB q) = db at *
    generalize hok : okB q = dk at *
    have HOKK := Lib.hid hok
    clear hok
    go_enter Tryd.func11, Tryd.ntmps11
    go_wp2_with fail
    refine (W8.out _ _ _ _).mono ?_
    rintro e w1 ⟨rfl, rfl⟩
    rw [HD1.out]
    cases d1
    · go_wp2_with fail
      go_ret
      exact ⟨ret_bool (by rw [HMM.out]; rfl), B0.out⟩
    go_wp2_with fail
    refine (WE.out _ _ _ _).mono ?_
    rintro e w1 ⟨rfl, rfl⟩
    rw [HD2.out]
    cases d2
    · go_wp2_with fail
      go_ret
      exact ⟨ret_bool (by rw [HMM.out]; rfl), B0.out⟩
    go_wp2_with fail
    go_region
    go_wp2_with fail
    refine (RG.out _ B1.out).mono ?_
    rintro e w1 ⟨A3, c3, rfl, r3, b1⟩
    rw [HOKK.out]
    have ka := KA.out.below b1 (by simp; omega)
    have kb := KB.out.below b1 (by simp)
    have BE := Lib.hid (btrans B1.out b1)
    have hs1 := b1.size
    have R3 := Lib.hid r3
    have a0 := ka.cell 0
    have a1 := ka.cell 1
    have KBH := Lib.hid kb
    have y0 := kb.cell 0
    have y1 := kb.cell 1
    have y2 := kb.cell 2
    have y3 := kb.cell 3
    have y4 := kb.cell 4
    have y5 := kb.cell 5
    have z0 := kb.frozen 0
    have z1 := kb.frozen 1
    have z2 := kb.frozen 2
    have z3 := kb.frozen 3
    have z4 := kb.frozen 4
    have z5 := kb.frozen 5
    clear b1 r3 ka kb
    generalize restB q = p at *
    cases dk
    · go_wp2_with fail
      go_ret
      exact ⟨ret_bool (by rw [HMM.out]; rfl), bset (bset (bset (bset (bset (bset BE.out (by omega) _) (by omega) _) (by omega) _) (by omega) _) (by omega) _) (by omega) _⟩
    go_wp2_with fail
    have BS := bset (bset (bset (bset (bset (bset BE.out (b := w.heap.size + 1) (o := 0) (by omega) (.int .i8 p.kd)) (b := w.heap.size + 1) (o := 1) (by omega) (.int .i64 p.er)) (b := w.heap.size + 1) (o := 2) (by omega) (.int .i64 p.pid)) (b := w.heap.size + 1) (o := 3) (by omega) (.int .i64 p.ep)) (b := w.heap.size + 1) (o := 4) (by omega) (.int .i64 p.off)) (b := w.heap.size + 1) (o := 5) (by omega) (.slice A3 p.rows.length c3)
    have R4 := ((((((R3.out.setCell (p := ⟨w.heap.size + 1, 0, none⟩) (Nat.le_succ _) (.int .i8 p.kd)).setCell (p := ⟨w.heap.size + 1, 1, none⟩) (Nat.le_succ _) (.int .i64 p.er)).setCell (p := ⟨w.heap.size + 1, 2, none⟩) (Nat.le_succ _) (.int .i64 p.pid)).setCell (p := ⟨w.heap.size + 1, 3, none⟩) (Nat.le_succ _) (.int .i64 p.ep)).setCell (p := ⟨w.heap.size + 1, 4, none⟩) (Nat.le_succ _) (.int .i64 p.off)).setCell (p := ⟨w.heap.size + 1, 5, none⟩) (Nat.le_succ _) (.slice A3 p.rows.length c3))
    refine (SR.out A3 c3 _ (R4.more BS.size)).mono ?_
    rintro e w2 ⟨rfl, b2⟩
    go_wp2_with fail
    go_ret
    exact ⟨ret_bool (by rw [HMM.out]; rfl), btrans BS b2⟩
  · rw [if_neg h0] at HM
    have ee : (q.er == 0) = false := eqb_false h0
    have HMM := Lib.hid HM
    clear HM h0 SR RG
    generalize bareB q = db at *
    go_enter Tryd.func11, Tryd.ntmps11
    go_wp2_with fail
    refine (W8.out _ _ _ _).mono ?_
    rintro e w1 ⟨rfl, rfl⟩
    rw [HD1.out]
    cases d1
    · go_wp2_with fail
      go_ret
      exact ⟨ret_bool (by rw [HMM.out]; rfl), B0.out⟩
    go_wp2_with fail
    refine (WE.out _ _ _ _).mono ?_
    rintro e w1 ⟨rfl, rfl⟩
    rw [HD2.out]
    cases d2
    · go_wp2_with fail
      go_ret
      exact ⟨ret_bool (by rw [HMM.out]; rfl), B0.out⟩
    go_wp2_with fail
    go_region
    go_wp2_with fail
    refine (SB.out _ B1.out).mono ?_
    rintro e w1 ⟨rfl, b1⟩
    go_wp2_with fail
    go_ret
    exact ⟨ret_bool (by rw [HMM.out]; rfl), btrans B1.out b1⟩
end Go.Proofs.YtckdecodpjfcnaaDoor
