/-
  Layer 6, the document's: May, Bytes.
  Layer 7: May of entries.
-/
import Derived.Test.YtckdecodpjfcnaaGreatDoorEnRowsProofP08
import Derived.Deep.Cut
import Derived.Deep.CutRange
import Derived.Deep.DeepCutAuto
set_option linter.unusedVariables false
set_option linter.unusedSimpArgs false
namespace Go.Proofs.YtckdecodpjfcnaaGreatDoor
open Go.RowKit

/-- An entry and its copy lie in memory. -/
def MyW (w : World) (rb : Nat) (xs rs : Array Value) (W : World) : Prop := Blk W w.heap.size 32 xs ∧ Blk W rb 32 rs ∧ Below w.heap.size w W ∧ w.heap.size < rb
theorem MyW.below {w W W' : World} {rb : Nat} {xs rs : Array Value} (h : MyW w rb xs rs W) (k : Below W.heap.size W W') : MyW w rb xs rs W' := ⟨h.1.below k h.1.lt, h.2.1.below k h.2.1.lt, btrans h.2.2.1 k, h.2.2.2⟩
theorem MyW.set {w W : World} {rb : Nat} {xs rs : Array Value} (h : MyW w rb xs rs W) (o : Nat) (v : Value) : MyW w rb xs (rs.setIfInBounds o v) (W.setCell ⟨rb, o, none⟩ v) :=
  ⟨h.1.far (p := ⟨rb, o, none⟩) (show w.heap.size ≠ rb by have := h.2.2.2; omega) v, h.2.1.set_ o v, bset h.2.2.1 (by have := h.2.2.2; omega) v, h.2.2.2⟩
theorem my_start (x : En) (A1 D1 : Option Addr) (c1 e1 : Nat) (w : World) : ∃ W0 W1 rb, W0 = w.alloc (.cells #[.int .i8 x.kd, .int .i64 x.b.pid, .int .i64 x.b.ep, .int .i64 x.b.seq, .bool x.b.txn, .slice A1 x.b.rs.length c1, .bool x.yes, .int .i64 x.nx, .int .i64 x.off, .int .i64 x.row.1, .int .i64 x.row.2.1, .int .i64 x.row.2.2.1, .string x.row.2.2.2.1, .string x.row.2.2.2.2, .int .i64 x.prod.pid, .int .i64 x.prod.ep, .int .i64 x.prod.nx, .slice D1 x.prod.seen.length e1] 32) ∧ rb = W0.heap.size ∧ (loadVar 32 ⟨w.heap.size, 0, none⟩).run Tryz.prog W0 = .ok (.agg #[.int .i8 x.kd, .int .i64 x.b.pid, .int .i64 x.b.ep, .int .i64 x.b.seq, .bool x.b.txn, .slice A1 x.b.rs.length c1, .bool x.yes, .int .i64 x.nx, .int .i64 x.off, .int .i64 x.row.1, .int .i64 x.row.2.1, .int .i64 x.row.2.2.1, .string x.row.2.2.2.1, .string x.row.2.2.2.2, .int .i64 x.prod.pid, .int .i64 x.prod.ep, .int .i64 x.prod.nx, .slice D1 x.prod.seen.length e1]) W0 ∧
    (storeVar 32 ⟨W0.heap.size, 0, none⟩ (.agg #[.int .i8 x.kd, .int .i64 x.b.pid, .int .i64 x.b.ep, .int .i64 x.b.seq, .bool x.b.txn, .slice A1 x.b.rs.length c1, .bool x.yes, .int .i64 x.nx, .int .i64 x.off, .int .i64 x.row.1, .int .i64 x.row.2.1, .int .i64 x.row.2.2.1, .string x.row.2.2.2.1, .string x.row.2.2.2.2, .int .i64 x.prod.pid, .int .i64 x.prod.ep, .int .i64 x.prod.nx, .slice D1 x.prod.seen.length e1])).run Tryz.prog (W0.alloc (.cells ezero 32)) = .ok () W1 ∧ MyW w rb #[.int .i8 x.kd, .int .i64 x.b.pid, .int .i64 x.b.ep, .int .i64 x.b.seq, .bool x.b.txn, .slice A1 x.b.rs.length c1, .bool x.yes, .int .i64 x.nx, .int .i64 x.off, .int .i64 x.row.1, .int .i64 x.row.2.1, .int .i64 x.row.2.2.1, .string x.row.2.2.2.1, .string x.row.2.2.2.2, .int .i64 x.prod.pid, .int .i64 x.prod.ep, .int .i64 x.prod.nx, .slice D1 x.prod.seen.length e1] #[.int .i8 x.kd, .int .i64 x.b.pid, .int .i64 x.b.ep, .int .i64 x.b.seq, .bool x.b.txn, .slice A1 x.b.rs.length c1, .bool x.yes, .int .i64 x.nx, .int .i64 x.off, .int .i64 x.row.1, .int .i64 x.row.2.1, .int .i64 x.row.2.2.1, .string x.row.2.2.2.1, .string x.row.2.2.2.2, .int .i64 x.prod.pid, .int .i64 x.prod.ep, .int .i64 x.prod.nx, .slice D1 x.prod.seen.length e1] W1 := by
  obtain ⟨W0, hW0⟩ : ∃ W0, W0 = w.alloc (.cells #[.int .i8 x.kd, .int .i64 x.b.pid, .int .i64 x.b.ep, .int .i64 x.b.seq, .bool x.b.txn, .slice A1 x.b.rs.length c1, .bool x.yes, .int .i64 x.nx, .int .i64 x.off, .int .i64 x.row.1, .int .i64 x.row.2.1, .int .i64 x.row.2.2.1, .string x.row.2.2.2.1, .string x.row.2.2.2.2, .int .i64 x.prod.pid, .int .i64 x.prod.ep, .int .i64 x.prod.nx, .slice D1 x.prod.seen.length e1] 32) := ⟨_, rfl⟩
  have K0 : Blk W0 w.heap.size 32 #[.int .i8 x.kd, .int .i64 x.b.pid, .int .i64 x.b.ep, .int .i64 x.b.seq, .bool x.b.txn, .slice A1 x.b.rs.length c1, .bool x.yes, .int .i64 x.nx, .int .i64 x.off, .int .i64 x.row.1, .int .i64 x.row.2.1, .int .i64 x.row.2.2.1, .string x.row.2.2.2.1, .string x.row.2.2.2.2, .int .i64 x.prod.pid, .int .i64 x.prod.ep, .int .i64 x.prod.nx, .slice D1 x.prod.seen.length e1] := by rw [hW0]; exact Blk.new _ _ _
  have b0 : Below w.heap.size w W0 := by rw [hW0]; exact bal (Below.refl _ _) _
  have hs0 : W0.heap.size = w.heap.size + 1 := by rw [hW0]; simp
  obtain ⟨W1, S1, k1, z1, fb, fk⟩ := store_blk (cs := #[.int .i8 x.kd, .int .i64 x.b.pid, .int .i64 x.b.ep, .int .i64 x.b.seq, .bool x.b.txn, .slice A1 x.b.rs.length c1, .bool x.yes, .int .i64 x.nx, .int .i64 x.off, .int .i64 x.row.1, .int .i64 x.row.2.1, .int .i64 x.row.2.2.1, .string x.row.2.2.2.1, .string x.row.2.2.2.2, .int .i64 x.prod.pid, .int .i64 x.prod.ep, .int .i64 x.prod.nx, .slice D1 x.prod.seen.length e1]) (blk_new W0 32 ezero rfl) rfl rfl (by simp [Value.oneCell'])
  exact ⟨W0, W1, _, hW0, rfl, load_blk K0 rfl, S1, fk _ _ _ (by omega) (K0.alloc _), k1, fb _ w (by omega) (bal b0 _), by omega⟩
set_option maxRecDepth 100000 in
set_option maxHeartbeats 4000000 in
theorem EnMay_0 (x : En) (hk : x.kd = 0) (A1 D1 : Option Addr) (c1 e1 : Nat) (w : World) (hr : EnR w x A1 D1) :
    Calls Tryz.prog 13 #[(.agg #[.int .i8 x.kd, .int .i64 x.b.pid, .int .i64 x.b.ep, .int .i64 x.b.seq, .bool x.b.txn, .slice A1 x.b.rs.length c1, .bool x.yes, .int .i64 x.nx, .int .i64 x.off, .int .i64 x.row.1, .int .i64 x.row.2.1, .int .i64 x.row.2.2.1, .string x.row.2.2.2.1, .string x.row.2.2.2.2, .int .i64 x.prod.pid, .int .i64 x.prod.ep, .int .i64 x.prod.nx, .slice D1 x.prod.seen.length e1])] w fun e w' => e = .returned (.bool (mayEn x)) ∧ Below w.heap.size w w' := by
  have HR := Lib.hid hr
  have HM := Lib.hid (show mayEn x = (mayBt x.b && sameEn { x with b := Bat0 } (baseEn x.kd)) by unfold mayEn okEn restEn; rw [hk]; rfl)
  have cc3 : (x.kd == 3) = false := by rw [hk]; rfl
  have cc0 : (x.kd == 0) = true := by rw [hk]; rfl
  have cc4 : (x.kd == 4) = false := by rw [hk]; rfl
  have cc1 : (x.kd == 1) = false := by rw [hk]; rfl
  have cc2 : (x.kd == 2) = false := by rw [hk]; rfl
  have cc5 : (x.kd == 5) = false := by rw [hk]; rfl
  have cc6 : (x.kd == 6) = false := by rw [hk]; rfl
  have SM := Lib.hid (fun W (h : Below w.heap.size w W) => show Calls Tryz.prog 15 #[.agg #[.int .i8 x.kd, .int .i64 0, .int .i64 0, .int .i64 0, .bool false, .slice none 0 0, .bool x.yes, .int .i64 x.nx, .int .i64 x.off, .int .i64 x.row.1, .int .i64 x.row.2.1, .int .i64 x.row.2.2.1, .string x.row.2.2.2.1, .string x.row.2.2.2.2, .int .i64 x.prod.pid, .int .i64 x.prod.ep, .int .i64 x.prod.nx, .slice D1 x.prod.seen.length e1], .agg #[.int .i8 x.kd, .int .i64 0, .int .i64 0, .int .i64 0, .bool false, .slice none 0 0, .bool false, .int .i64 0, .int .i64 0, .int .i64 0, .int .i64 0, .int .i64 0, .string ⟨#[]⟩, .string ⟨#[]⟩, .int .i64 0, .int .i64 0, .int .i64 0, .slice none 0 0]] W (fun e w' => e = .returned (.bool (sameEn { x with b := Bat0 } (baseEn x.kd))) ∧ Below W.heap.size W w') from EnSame_any { x with b := Bat0 } (baseEn x.kd) none D1 none none 0 e1 0 0 W ⟨Reads.none_, (HR.out.up h).2.1, Nat.zero_le _, HR.out.2.2.2⟩ (enR_base W x.kd))
  generalize sameEn { x with b := Bat0 } (baseEn x.kd) = sm at *
  have RM := Lib.hid (fun W (h : Below w.heap.size w W) => RcMay_any x.b A1 c1 W (HR.out.up h).1)
  generalize mayBt x.b = ok at *
  obtain ⟨W0, W1, rb, hW0, hrb, L0, S1, MY1⟩ := my_start x A1 D1 c1 e1 w
  have HW0 := Lib.hid hW0
  have HRB := Lib.hid hrb
  have HL0 := Lib.hid L0
  have HS1 := Lib.hid S1
  have M1 := Lib.hid MY1
  clear hW0 hrb L0 S1 MY1 hr hk 
  go_enter Tryz.func13, Tryz.ntmps13
  go_upto_region 1 with (fail)
  rw [← HW0.out]
  refine wp_region_list ?_
  refine wpList_load_eq rfl 32 (.tmp 1) rfl w.heap.size 0 rfl _ HL0.out ?_
  refine wpList_alloc_eq rfl 32 rfl _ (alloc_en W0) ?_
  refine wpList_store_eq rfl 32 (.tmp 3) (.tmp 5) rfl W0.heap.size 0 rfl _ rfl HS1.out ?_
  refine wpList_nil ?_
  rw [← HRB.out]
  have x0 := M1.out.1.cell 0
  have x1 := M1.out.1.cell 1
  have x2 := M1.out.1.cell 2
  have x3 := M1.out.1.cell 3
  have x4 := M1.out.1.cell 4
  have x5 := M1.out.1.cell 5
  go_wp2_with fail
  refine (RM.out _ M1.out.2.2.1).mono ?_
  rintro e w2 ⟨rfl, b2⟩
  have M2 := Lib.hid (M1.out.below b2)
  clear b2 x0 x1 x2 x3 x4 x5
  have y1 := M2.out.2.1.cell 1
  have z1 := M2.out.2.1.frozen 1
  have y2 := M2.out.2.1.cell 2
  have z2 := M2.out.2.1.frozen 2
  have y3 := M2.out.2.1.cell 3
  have z3 := M2.out.2.1.frozen 3
  have y4 := M2.out.2.1.cell 4
  have z4 := M2.out.2.1.frozen 4
  have y5 := M2.out.2.1.cell 5
  have z5 := M2.out.2.1.frozen 5
  go_upto_region 28 with (fail)
  clear y1 z1 y2 z2 y3 z3 y4 z4 y5 z5
  have mm := (((((M2.out.set 1 (.int .i64 0)).set 2 (.int .i64 0)).set 3 (.int .i64 0)).set 4 (.bool false)).set 5 (.slice none 0 0))
  simp only [List.setIfInBounds_toArray, List.set_cons_zero, List.set_cons_succ] at mm
  generalize (((((w2.setCell ⟨rb, 1, none⟩ (.int .i64 0)).setCell ⟨rb, 2, none⟩ (.int .i64 0)).setCell ⟨rb, 3, none⟩ (.int .i64 0)).setCell ⟨rb, 4, none⟩ (.bool false)).setCell ⟨rb, 5, none⟩ (.slice none 0 0)) = W9 at *
  have M9 := Lib.hid mm
  clear mm
  cases ok
  · go_wp2_with fail
    go_ret
    exact ⟨ret_bool (by rw [HM.out]; rfl), M9.out.2.2.1⟩
  have x0 := M9.out.1.cell 0
  refine wp_region_list ?_
  refine wpList_move rfl (.tmp 4) rfl ?_
  refine wpList_move rfl (.tmp 85) rfl ?_
  refine wpList_load_on (by rfl) 32 (.tmp 3) rfl rb 0 rfl _ (load_blk M9.out.2.1 rfl) ?_
  cases sm
  · go_wp2_with fail
    refine (SM.out _ M9.out.2.2.1).mono ?_
    rintro e w9 ⟨rfl, b9⟩
    go_wp2_with fail
    go_ret
    exact ⟨ret_bool (by rw [HM.out]; rfl), btrans M9.out.2.2.1 b9⟩
  · go_wp2_with fail
    refine (SM.out _ M9.out.2.2.1).mono ?_
    rintro e w9 ⟨rfl, b9⟩
    go_wp2_with fail
    go_ret
    exact ⟨ret_bool (by rw [HM.out]; rfl), btrans M9.out.2.2.1 b9⟩
set_option maxRecDepth 100000 in
set_option maxHeartbeats 4000000 in
theorem EnMay_5 (x : En) (hk : x.kd = 5) (A1 D1 : Option Addr) (c1 e1 : Nat) (w : World) (hr : EnR w x A1 D1) :
    Calls Tryz.prog 13 #[(.agg #[.int .i8 x.kd, .int .i64 x.b.pid, .int .i64 x.b.ep, .int .i64 x.b.seq, .bool x.b.txn, .slice A1 x.b.rs.length c1, .bool x.yes, .int .i64 x.nx, .int .i64 x.off, .int .i64 x.row.1, .int .i64 x.row.2.1, .int .i64 x.row.2.2.1, .string x.row.2.2.2.1, .string x.row.2.2.2.2, .int .i64 x.prod.pid, .int .i64 x.prod.ep, .int .i64 x.prod.nx, .slice D1 x.prod.seen.length e1])] w fun e w' => e = .returned (.bool (mayEn x)) ∧ Below w.heap.size w w' := by
  have HR := Lib.hid hr
  have HM := Lib.hid (show mayEn x = (rowB x.row && sameEn { x with row := Rw0 } (baseEn x.kd)) by unfold mayEn okEn restEn; rw [hk]; rfl)
  have cc3 : (x.kd == 3) = false := by rw [hk]; rfl
  have cc0 : (x.kd == 0) = false := by rw [hk]; rfl
  have cc4 : (x.kd == 4) = false := by rw [hk]; rfl
  have cc1 : (x.kd == 1) = false := by rw [hk]; rfl
  have cc2 : (x.kd == 2) = false := by rw [hk]; rfl
  have cc5 : (x.kd == 5) = true := by rw [hk]; rfl
  have cc6 : (x.kd == 6) = false := by rw [hk]; rfl
  have SM := Lib.hid (fun W (h : Below w.heap.size w W) => show Calls Tryz.prog 15 #[.agg #[.int .i8 x.kd, .int .i64 x.b.pid, .int .i64 x.b.ep, .int .i64 x.b.seq, .bool x.b.txn, .slice A1 x.b.rs.length c1, .bool x.yes, .int .i64 x.nx, .int .i64 x.off, .int .i64 0, .int .i64 0, .int .i64 0, .string ⟨#[]⟩, .string ⟨#[]⟩, .int .i64 x.prod.pid, .int .i64 x.prod.ep, .int .i64 x.prod.nx, .slice D1 x.prod.seen.length e1], .agg #[.int .i8 x.kd, .int .i64 0, .int .i64 0, .int .i64 0, .bool false, .slice none 0 0, .bool false, .int .i64 0, .int .i64 0, .int .i64 0, .int .i64 0, .int .i64 0, .string ⟨#[]⟩, .string ⟨#[]⟩, .int .i64 0, .int .i64 0, .int .i64 0, .slice none 0 0]] W (fun e w' => e = .returned (.bool (sameEn { x with row := Rw0 } (baseEn x.kd))) ∧ Below W.heap.size W w') from EnSame_any { x with row := Rw0 } (baseEn x.kd) A1 D1 none none c1 e1 0 0 W (HR.out.up h) (enR_base W x.kd))
  generalize sameEn { x with row := Rw0 } (baseEn x.kd) = sm at *
  have RM := Lib.hid (fun W => rowE_any x.row W)
  generalize rowB x.row = ok at *
  obtain ⟨W0, W1, rb, hW0, hrb, L0, S1, MY1⟩ := my_start x A1 D1 c1 e1 w
  have HW0 := Lib.hid hW0
  have HRB := Lib.hid hrb
  have HL0 := Lib.hid L0
  have HS1 := Lib.hid S1
  have M1 := Lib.hid MY1
  clear hW0 hrb L0 S1 MY1 hr hk 
  go_enter Tryz.func13, Tryz.ntmps13
  go_upto_region 1 with (fail)
  rw [← HW0.out]
  refine wp_region_list ?_
  refine wpList_load_eq rfl 32 (.tmp 1) rfl w.heap.size 0 rfl _ HL0.out ?_
  refine wpList_alloc_eq rfl 32 rfl _ (alloc_en W0) ?_
  refine wpList_store_eq rfl 32 (.tmp 3) (.tmp 5) rfl W0.heap.size 0 rfl _ rfl HS1.out ?_
  refine wpList_nil ?_
  rw [← HRB.out]
  have x0 := M1.out.1.cell 0
  have x9 := M1.out.1.cell 9
  have x10 := M1.out.1.cell 10
  have x11 := M1.out.1.cell 11
  have x12 := M1.out.1.cell 12
  have x13 := M1.out.1.cell 13
  go_wp2_with fail
  refine (RM.out _).mono ?_
  rintro e w2 ⟨rfl, b2⟩
  have M2 := Lib.hid (M1.out.below b2)
  clear b2 x0 x9 x10 x11 x12 x13
  have y9 := M2.out.2.1.cell 9
  have z9 := M2.out.2.1.frozen 9
  have y10 := M2.out.2.1.cell 10
  have z10 := M2.out.2.1.frozen 10
  have y11 := M2.out.2.1.cell 11
  have z11 := M2.out.2.1.frozen 11
  have y12 := M2.out.2.1.cell 12
  have z12 := M2.out.2.1.frozen 12
  have y13 := M2.out.2.1.cell 13
  have z13 := M2.out.2.1.frozen 13
  go_upto_region 28 with (fail)
  clear y9 z9 y10 z10 y11 z11 y12 z12 y13 z13
  have mm := (((((M2.out.set 9 (.int .i64 0)).set 10 (.int .i64 0)).set 11 (.int .i64 0)).set 12 (.string ⟨#[]⟩)).set 13 (.string ⟨#[]⟩))
  simp only [List.setIfInBounds_toArray, List.set_cons_zero, List.set_cons_succ] at mm
  generalize (((((w2.setCell ⟨rb, 9, none⟩ (.int .i64 0)).setCell ⟨rb, 10, none⟩ (.int .i64 0)).setCell ⟨rb, 11, none⟩ (.int .i64 0)).setCell ⟨rb, 12, none⟩ (.string ⟨#[]⟩)).setCell ⟨rb, 13, none⟩ (.string ⟨#[]⟩)) = W9 at *
  have M9 := Lib.hid mm
  clear mm
  cases ok
  · go_wp2_with fail
    go_ret
    exact ⟨ret_bool (by rw [HM.out]; rfl), M9.out.2.2.1⟩
  have x0 := M9.out.1.cell 0
  refine wp_region_list ?_
  refine wpList_move rfl (.tmp 4) rfl ?_
  refine wpList_move rfl (.tmp 85) rfl ?_
  refine wpList_load_on (by rfl) 32 (.tmp 3) rfl rb 0 rfl _ (load_blk M9.out.2.1 rfl) ?_
  cases sm
  · go_wp2_with fail
    refine (SM.out _ M9.out.2.2.1).mono ?_
    rintro e w9 ⟨rfl, b9⟩
    go_wp2_with fail
    go_ret
    exact ⟨ret_bool (by rw [HM.out]; rfl), btrans M9.out.2.2.1 b9⟩
  · go_wp2_with fail
    refine (SM.out _ M9.out.2.2.1).mono ?_
    rintro e w9 ⟨rfl, b9⟩
    go_wp2_with fail
    go_ret
    exact ⟨ret_bool (by rw [HM.out]; rfl), btrans M9.out.2.2.1 b9⟩
set_option maxRecDepth 100000 in
set_option maxHeartbeats 4000000 in
theorem EnMay_6 (x : En) (hk : x.kd = 6) (A1 D1 : Option Addr) (c1 e1 : Nat) (w : World) (hr : EnR w x A1 D1) :
    Calls Tryz.prog 13 #[(.agg #[.int .i8 x.kd, .int .i64 x.b.pid, .int .i64 x.b.ep, .int .i64 x.b.seq, .bool x.b.txn, .slice A1 x.b.rs.length c1, .bool x.yes, .int .i64 x.nx, .int .i64 x.off, .int .i64 x.row.1, .int .i64 x.row.2.1, .int .i64 x.row.2.2.1, .string x.row.2.2.2.1, .string x.row.2.2.2.2, .int .i64 x.prod.pid, .int .i64 x.prod.ep, .int .i64 x.prod.nx, .slice D1 x.prod.seen.length e1])] w fun e w' => e = .returned (.bool (mayEn x)) ∧ Below w.heap.size w w' := by
  have HR := Lib.hid hr
  have HM := Lib.hid (show mayEn x = (knownB x.prod && sameEn { x with prod := Pd0 } (baseEn x.kd)) by unfold mayEn okEn restEn; rw [hk]; rfl)
  have cc3 : (x.kd == 3) = false := by rw [hk]; rfl
  have cc0 : (x.kd == 0) = false := by rw [hk]; rfl
  have cc4 : (x.kd == 4) = false := by rw [hk]; rfl
  have cc1 : (x.kd == 1) = false := by rw [hk]; rfl
  have cc2 : (x.kd == 2) = false := by rw [hk]; rfl
  have cc5 : (x.kd == 5) = false := by rw [hk]; rfl
  have cc6 : (x.kd == 6) = true := by rw [hk]; rfl
  have SM := Lib.hid (fun W (h : Below w.heap.size w W) => show Calls Tryz.prog 15 #[.agg #[.int .i8 x.kd, .int .i64 x.b.pid, .int .i64 x.b.ep, .int .i64 x.b.seq, .bool x.b.txn, .slice A1 x.b.rs.length c1, .bool x.yes, .int .i64 x.nx, .int .i64 x.off, .int .i64 x.row.1, .int .i64 x.row.2.1, .int .i64 x.row.2.2.1, .string x.row.2.2.2.1, .string x.row.2.2.2.2, .int .i64 0, .int .i64 0, .int .i64 0, .slice none 0 0], .agg #[.int .i8 x.kd, .int .i64 0, .int .i64 0, .int .i64 0, .bool false, .slice none 0 0, .bool false, .int .i64 0, .int .i64 0, .int .i64 0, .int .i64 0, .int .i64 0, .string ⟨#[]⟩, .string ⟨#[]⟩, .int .i64 0, .int .i64 0, .int .i64 0, .slice none 0 0]] W (fun e w' => e = .returned (.bool (sameEn { x with prod := Pd0 } (baseEn x.kd))) ∧ Below W.heap.size W w') from EnSame_any { x with prod := Pd0 } (baseEn x.kd) A1 none none none c1 0 0 0 W ⟨(HR.out.up h).1, Reads.none_, HR.out.2.2.1, Nat.zero_le _⟩ (enR_base W x.kd))
  generalize sameEn { x with prod := Pd0 } (baseEn x.kd) = sm at *
  have RM := Lib.hid (fun W (h : Below w.heap.size w W) => Known_any x.prod D1 e1 W (HR.out.up h).2.1)
  generalize knownB x.prod = ok at *
  obtain ⟨W0, W1, rb, hW0, hrb, L0, S1, MY1⟩ := my_start x A1 D1 c1 e1 w
  have HW0 := Lib.hid hW0
  have HRB := Lib.hid hrb
  have HL0 := Lib.hid L0
  have HS1 := Lib.hid S1
  have M1 := Lib.hid MY1
  clear hW0 hrb L0 S1 MY1 hr hk 
  go_enter Tryz.func13, Tryz.ntmps13
  go_upto_region 1 with (fail)
  rw [← HW0.out]
  refine wp_region_list ?_
  refine wpList_load_eq rfl 32 (.tmp 1) rfl w.heap.size 0 rfl _ HL0.out ?_
  refine wpList_alloc_eq rfl 32 rfl _ (alloc_en W0) ?_
  refine wpList_store_eq rfl 32 (.tmp 3) (.tmp 5) rfl W0.heap.size 0 rfl _ rfl HS1.out ?_
  refine wpList_nil ?_
  rw [← HRB.out]
  have x0 := M1.out.1.cell 0
  have x14 := M1.out.1.cell 14
  have x15 := M1.out.1.cell 15
  have x16 := M1.out.1.cell 16
  have x17 := M1.out.1.cell 17
  go_wp2_with fail
  refine (RM.out _ M1.out.2.2.1).mono ?_
  rintro e w2 ⟨rfl, b2⟩
  have M2 := Lib.hid (M1.out.below b2)
  clear b2 x0 x14 x15 x16 x17
  have y14 := M2.out.2.1.cell 14
  have z14 := M2.out.2.1.frozen 14
  have y15 := M2.out.2.1.cell 15
  have z15 := M2.out.2.1.frozen 15
  have y16 := M2.out.2.1.cell 16
  have z16 := M2.out.2.1.frozen 16
  have y17 := M2.out.2.1.cell 17
  have z17 := M2.out.2.1.frozen 17
  go_upto_region 28 with (fail)
  clear y14 z14 y15 z15 y16 z16 y17 z17
  have mm := ((((M2.out.set 14 (.int .i64 0)).set 15 (.int .i64 0)).set 16 (.int .i64 0)).set 17 (.slice none 0 0))
  simp only [List.setIfInBounds_toArray, List.set_cons_zero, List.set_cons_succ] at mm
  generalize ((((w2.setCell ⟨rb, 14, none⟩ (.int .i64 0)).setCell ⟨rb, 15, none⟩ (.int .i64 0)).setCell ⟨rb, 16, none⟩ (.int .i64 0)).setCell ⟨rb, 17, none⟩ (.slice none 0 0)) = W9 at *
  have M9 := Lib.hid mm
  clear mm
  cases ok
  · go_wp2_with fail
    go_ret
    exact ⟨ret_bool (by rw [HM.out]; rfl), M9.out.2.2.1⟩
  have x0 := M9.out.1.cell 0
  refine wp_region_list ?_
  refine wpList_move rfl (.tmp 4) rfl ?_
  refine wpList_move rfl (.tmp 85) rfl ?_
  refine wpList_load_on (by rfl) 32 (.tmp 3) rfl rb 0 rfl _ (load_blk M9.out.2.1 rfl) ?_
  cases sm
  · go_wp2_with fail
    refine (SM.out _ M9.out.2.2.1).mono ?_
    rintro e w9 ⟨rfl, b9⟩
    go_wp2_with fail
    go_ret
    exact ⟨ret_bool (by rw [HM.out]; rfl), btrans M9.out.2.2.1 b9⟩
  · go_wp2_with fail
    refine (SM.out _ M9.out.2.2.1).mono ?_
    rintro e w9 ⟨rfl, b9⟩
    go_wp2_with fail
    go_ret
    exact ⟨ret_bool (by rw [HM.out]; rfl), btrans M9.out.2.2.1 b9⟩
set_option maxRecDepth 100000 in
set_option maxHeartbeats 4000000 in
theorem EnMay_1 (x : En) (hk : x.kd = 1) (A1 D1 : Option Addr) (c1 e1 : Nat) (w : World) (hr : EnR w x A1 D1) :
    Calls Tryz.prog 13 #[(.agg #[.int .i8 x.kd, .int .i64 x.b.pid, .int .i64 x.b.ep, .int .i64 x.b.seq, .bool x.b.txn, .slice A1 x.b.rs.length c1, .bool x.yes, .int .i64 x.nx, .int .i64 x.off, .int .i64 x.row.1, .int .i64 x.row.2.1, .int .i64 x.row.2.2.1, .string x.row.2.2.2.1, .string x.row.2.2.2.2, .int .i64 x.prod.pid, .int .i64 x.prod.ep, .int .i64 x.prod.nx, .slice D1 x.prod.seen.length e1])] w fun e w' => e = .returned (.bool (mayEn x)) ∧ Below w.heap.size w w' := by
  have HR := Lib.hid hr
  have HM := Lib.hid (show mayEn x = (prodB x.b.pid x.b.ep && sameEn { x with b := { x.b with pid := 0, ep := 0 }, yes := false } (baseEn x.kd)) by unfold mayEn okEn restEn; rw [hk]; rfl)
  have cc3 : (x.kd == 3) = false := by rw [hk]; rfl
  have cc0 : (x.kd == 0) = false := by rw [hk]; rfl
  have cc4 : (x.kd == 4) = false := by rw [hk]; rfl
  have cc1 : (x.kd == 1) = true := by rw [hk]; rfl
  have cc2 : (x.kd == 2) = false := by rw [hk]; rfl
  have cc5 : (x.kd == 5) = false := by rw [hk]; rfl
  have cc6 : (x.kd == 6) = false := by rw [hk]; rfl
  have SM := Lib.hid (fun W (h : Below w.heap.size w W) => show Calls Tryz.prog 15 #[.agg #[.int .i8 x.kd, .int .i64 0, .int .i64 0, .int .i64 x.b.seq, .bool x.b.txn, .slice A1 x.b.rs.length c1, .bool false, .int .i64 x.nx, .int .i64 x.off, .int .i64 x.row.1, .int .i64 x.row.2.1, .int .i64 x.row.2.2.1, .string x.row.2.2.2.1, .string x.row.2.2.2.2, .int .i64 x.prod.pid, .int .i64 x.prod.ep, .int .i64 x.prod.nx, .slice D1 x.prod.seen.length e1], .agg #[.int .i8 x.kd, .int .i64 0, .int .i64 0, .int .i64 0, .bool false, .slice none 0 0, .bool false, .int .i64 0, .int .i64 0, .int .i64 0, .int .i64 0, .int .i64 0, .string ⟨#[]⟩, .string ⟨#[]⟩, .int .i64 0, .int .i64 0, .int .i64 0, .slice none 0 0]] W (fun e w' => e = .returned (.bool (sameEn { x with b := { x.b with pid := 0, ep := 0 }, yes := false } (baseEn x.kd))) ∧ Below W.heap.size W w') from EnSame_any { x with b := { x.b with pid := 0, ep := 0 }, yes := false } (baseEn x.kd) A1 D1 none none c1 e1 0 0 W (HR.out.up h) (enR_base W x.kd))
  generalize sameEn { x with b := { x.b with pid := 0, ep := 0 }, yes := false } (baseEn x.kd) = sm at *
  have RM := Lib.hid (fun W => producer_any x.b.pid x.b.ep W)
  generalize prodB x.b.pid x.b.ep = ok at *
  obtain ⟨W0, W1, rb, hW0, hrb, L0, S1, MY1⟩ := my_start x A1 D1 c1 e1 w
  have HW0 := Lib.hid hW0
  have HRB := Lib.hid hrb
  have HL0 := Lib.hid L0
  have HS1 := Lib.hid S1
  have M1 := Lib.hid MY1
  clear hW0 hrb L0 S1 MY1 hr hk 
  go_enter Tryz.func13, Tryz.ntmps13
  go_upto_region 1 with (fail)
  rw [← HW0.out]
  refine wp_region_list ?_
  refine wpList_load_eq rfl 32 (.tmp 1) rfl w.heap.size 0 rfl _ HL0.out ?_
  refine wpList_alloc_eq rfl 32 rfl _ (alloc_en W0) ?_
  refine wpList_store_eq rfl 32 (.tmp 3) (.tmp 5) rfl W0.heap.size 0 rfl _ rfl HS1.out ?_
  refine wpList_nil ?_
  rw [← HRB.out]
  have x0 := M1.out.1.cell 0
  have x1 := M1.out.1.cell 1
  have x2 := M1.out.1.cell 2
  have y1 := M1.out.2.1.cell 1
  have z1 := M1.out.2.1.frozen 1
  have y2 := M1.out.2.1.cell 2
  have z2 := M1.out.2.1.frozen 2
  have y6 := M1.out.2.1.cell 6
  have z6 := M1.out.2.1.frozen 6
  go_wp2_with fail
  refine (RM.out _).mono ?_
  rintro e w2 ⟨rfl, rfl⟩
  go_upto_region 28 with (fail)
  clear x0 x1 x2 y1 z1 y2 z2 y6 z6
  have mm := (((M1.out.set 1 (.int .i64 0)).set 2 (.int .i64 0)).set 6 (.bool false))
  simp only [List.setIfInBounds_toArray, List.set_cons_zero, List.set_cons_succ] at mm
  generalize (((W1.setCell ⟨rb, 1, none⟩ (.int .i64 0)).setCell ⟨rb, 2, none⟩ (.int .i64 0)).setCell ⟨rb, 6, none⟩ (.bool false)) = W9 at *
  have M9 := Lib.hid mm
  clear mm
  cases ok
  · go_wp2_with fail
    go_ret
    exact ⟨ret_bool (by rw [HM.out]; rfl), M9.out.2.2.1⟩
  have x0 := M9.out.1.cell 0
  refine wp_region_list ?_
  refine wpList_move rfl (.tmp 4) rfl ?_
  refine wpList_move rfl (.tmp 85) rfl ?_
  refine wpList_load_on (by rfl) 32 (.tmp 3) rfl rb 0 rfl _ (load_blk M9.out.2.1 rfl) ?_
  cases sm
  · go_wp2_with fail
    refine (SM.out _ M9.out.2.2.1).mono ?_
    rintro e w9 ⟨rfl, b9⟩
    go_wp2_with fail
    go_ret
    exact ⟨ret_bool (by rw [HM.out]; rfl), btrans M9.out.2.2.1 b9⟩
  · go_wp2_with fail
    refine (SM.out _ M9.out.2.2.1).mono ?_
    rintro e w9 ⟨rfl, b9⟩
    go_wp2_with fail
    go_ret
    exact ⟨ret_bool (by rw [HM.out]; rfl), btrans M9.out.2.2.1 b9⟩
set_option maxRecDepth 100000 in
set_option maxHeartbeats 4000000 in
theorem EnMay_2 (x : En) (hk : x.kd = 2) (A1 D1 : Option Addr) (c1 e1 : Nat) (w : World) (hr : EnR w x A1 D1) :
    Calls Tryz.prog 13 #[(.agg #[.int .i8 x.kd, .int .i64 x.b.pid, .int .i64 x.b.ep, .int .i64 x.b.seq, .bool x.b.txn, .slice A1 x.b.rs.length c1, .bool x.yes, .int .i64 x.nx, .int .i64 x.off, .int .i64 x.row.1, .int .i64 x.row.2.1, .int .i64 x.row.2.2.1, .string x.row.2.2.2.1, .string x.row.2.2.2.2, .int .i64 x.prod.pid, .int .i64 x.prod.ep, .int .i64 x.prod.nx, .slice D1 x.prod.seen.length e1])] w fun e w' => e = .returned (.bool (mayEn x)) ∧ Below w.heap.size w w' := by
  have HR := Lib.hid hr
  have HM := Lib.hid (show mayEn x = (seqB x.off && sameEn { x with off := 0 } (baseEn x.kd)) by unfold mayEn okEn restEn; rw [hk]; rfl)
  have cc3 : (x.kd == 3) = false := by rw [hk]; rfl
  have cc0 : (x.kd == 0) = false := by rw [hk]; rfl
  have cc4 : (x.kd == 4) = false := by rw [hk]; rfl
  have cc1 : (x.kd == 1) = false := by rw [hk]; rfl
  have cc2 : (x.kd == 2) = true := by rw [hk]; rfl
  have cc5 : (x.kd == 5) = false := by rw [hk]; rfl
  have cc6 : (x.kd == 6) = false := by rw [hk]; rfl
  have SM := Lib.hid (fun W (h : Below w.heap.size w W) => show Calls Tryz.prog 15 #[.agg #[.int .i8 x.kd, .int .i64 x.b.pid, .int .i64 x.b.ep, .int .i64 x.b.seq, .bool x.b.txn, .slice A1 x.b.rs.length c1, .bool x.yes, .int .i64 x.nx, .int .i64 0, .int .i64 x.row.1, .int .i64 x.row.2.1, .int .i64 x.row.2.2.1, .string x.row.2.2.2.1, .string x.row.2.2.2.2, .int .i64 x.prod.pid, .int .i64 x.prod.ep, .int .i64 x.prod.nx, .slice D1 x.prod.seen.length e1], .agg #[.int .i8 x.kd, .int .i64 0, .int .i64 0, .int .i64 0, .bool false, .slice none 0 0, .bool false, .int .i64 0, .int .i64 0, .int .i64 0, .int .i64 0, .int .i64 0, .string ⟨#[]⟩, .string ⟨#[]⟩, .int .i64 0, .int .i64 0, .int .i64 0, .slice none 0 0]] W (fun e w' => e = .returned (.bool (sameEn { x with off := 0 } (baseEn x.kd))) ∧ Below W.heap.size W w') from EnSame_any { x with off := 0 } (baseEn x.kd) A1 D1 none none c1 e1 0 0 W (HR.out.up h) (enR_base W x.kd))
  generalize sameEn { x with off := 0 } (baseEn x.kd) = sm at *
  have HOK := Lib.hid (show seqB x.off = decide (0 ≤ x.off ∧ x.off ≤ 1048576) from rfl)
  obtain ⟨W0, W1, rb, hW0, hrb, L0, S1, MY1⟩ := my_start x A1 D1 c1 e1 w
  have HW0 := Lib.hid hW0
  have HRB := Lib.hid hrb
  have HL0 := Lib.hid L0
  have HS1 := Lib.hid S1
  have M1 := Lib.hid MY1
  clear hW0 hrb L0 S1 MY1 hr hk 
  go_enter Tryz.func13, Tryz.ntmps13
  go_upto_region 1 with (fail)
  rw [← HW0.out]
  refine wp_region_list ?_
  refine wpList_load_eq rfl 32 (.tmp 1) rfl w.heap.size 0 rfl _ HL0.out ?_
  refine wpList_alloc_eq rfl 32 rfl _ (alloc_en W0) ?_
  refine wpList_store_eq rfl 32 (.tmp 3) (.tmp 5) rfl W0.heap.size 0 rfl _ rfl HS1.out ?_
  refine wpList_nil ?_
  rw [← HRB.out]
  have x0 := M1.out.1.cell 0
  have x8 := M1.out.1.cell 8
  have y8 := M1.out.2.1.cell 8
  have z8 := M1.out.2.1.frozen 8
  have key : ∃ d1 d2 : Bool, decide (0 ≤ x.off) = d1 ∧ decide (x.off ≤ 1048576) = d2 ∧ seqB x.off = (d1 && d2) := ⟨_, _, rfl, rfl, by rw [HOK.out, Bool.decide_and]⟩
  obtain ⟨d1, d2, hd1, hd2, hsq⟩ := key
  have HM2 := Lib.hid (show mayEn x = ((d1 && d2) && sm) by rw [HM.out, hsq])
  clear hsq HM
  have HM := Lib.hid HM2.out
  clear HM2
  go_upto_region 22 with (fail)
  cases d1
  · go_upto_region 28 with (fail)
    clear x0 x8 y8 z8
    have mm := (M1.out.set 8 (.int .i64 0))
    simp only [List.setIfInBounds_toArray, List.set_cons_zero, List.set_cons_succ] at mm
    generalize (W1.setCell ⟨rb, 8, none⟩ (.int .i64 0)) = W9 at *
    have M9 := Lib.hid mm
    clear mm
    go_wp2_with fail
    go_ret
    exact ⟨ret_bool (by rw [HM.out]; rfl), M9.out.2.2.1⟩
  cases d2
  · go_upto_region 28 with (fail)
    clear x0 x8 y8 z8
    have mm := (M1.out.set 8 (.int .i64 0))
    simp only [List.setIfInBounds_toArray, List.set_cons_zero, List.set_cons_succ] at mm
    generalize (W1.setCell ⟨rb, 8, none⟩ (.int .i64 0)) = W9 at *
    have M9 := Lib.hid mm
    clear mm
    go_wp2_with fail
    go_ret
    exact ⟨ret_bool (by rw [HM.out]; rfl), M9.out.2.2.1⟩
  go_upto_region 28 with (fail)
  clear x0 x8 y8 z8
  have mm := (M1.out.set 8 (.int .i64 0))
  simp only [List.setIfInBounds_toArray, List.set_cons_zero, List.set_cons_succ] at mm
  generalize (W1.setCell ⟨rb, 8, none⟩ (.int .i64 0)) = W9 at *
  have M9 := Lib.hid mm
  clear mm
  have x0 := M9.out.1.cell 0
  refine wp_region_list ?_
  refine wpList_move rfl (.tmp 4) rfl ?_
  refine wpList_move rfl (.tmp 85) rfl ?_
  refine wpList_load_on (by rfl) 32 (.tmp 3) rfl rb 0 rfl _ (load_blk M9.out.2.1 rfl) ?_
  cases sm
  · go_wp2_with fail
    refine (SM.out _ M9.out.2.2.1).mono ?_
    rintro e w9 ⟨rfl, b9⟩
    go_wp2_with fail
    go_ret
    exact ⟨ret_bool (by rw [HM.out]; rfl), btrans M9.out.2.2.1 b9⟩
  · go_wp2_with fail
    refine (SM.out _ M9.out.2.2.1).mono ?_
    rintro e w9 ⟨rfl, b9⟩
    go_wp2_with fail
    go_ret
    exact ⟨ret_bool (by rw [HM.out]; rfl), btrans M9.out.2.2.1 b9⟩
set_option maxRecDepth 100000 in
set_option maxHeartbeats 4000000 in
theorem EnMay_4 (x : En) (hk : x.kd = 4) (A1 D1 : Option Addr) (c1 e1 : Nat) (w : World) (hr : EnR w x A1 D1) :
    Calls Tryz.prog 13 #[(.agg #[.int .i8 x.kd, .int .i64 x.b.pid, .int .i64 x.b.ep, .int .i64 x.b.seq, .bool x.b.txn, .slice A1 x.b.rs.length c1, .bool x.yes, .int .i64 x.nx, .int .i64 x.off, .int .i64 x.row.1, .int .i64 x.row.2.1, .int .i64 x.row.2.2.1, .string x.row.2.2.2.1, .string x.row.2.2.2.2, .int .i64 x.prod.pid, .int .i64 x.prod.ep, .int .i64 x.prod.nx, .slice D1 x.prod.seen.length e1])] w fun e w' => e = .returned (.bool (mayEn x)) ∧ Below w.heap.size w w' := by
  have HR := Lib.hid hr
  have HM := Lib.hid (show mayEn x = (((!x.yes && seqB x.nx) && prodB x.b.pid x.b.ep) && sameEn { x with nx := 0, b := { x.b with pid := 0, ep := 0 }, yes := false } (baseEn x.kd)) by unfold mayEn okEn restEn; rw [hk]; rfl)
  have cc3 : (x.kd == 3) = false := by rw [hk]; rfl
  have cc0 : (x.kd == 0) = false := by rw [hk]; rfl
  have cc4 : (x.kd == 4) = true := by rw [hk]; rfl
  have cc1 : (x.kd == 1) = false := by rw [hk]; rfl
  have cc2 : (x.kd == 2) = false := by rw [hk]; rfl
  have cc5 : (x.kd == 5) = false := by rw [hk]; rfl
  have cc6 : (x.kd == 6) = false := by rw [hk]; rfl
  have SM := Lib.hid (fun W (h : Below w.heap.size w W) => show Calls Tryz.prog 15 #[.agg #[.int .i8 x.kd, .int .i64 0, .int .i64 0, .int .i64 x.b.seq, .bool x.b.txn, .slice A1 x.b.rs.length c1, .bool false, .int .i64 0, .int .i64 x.off, .int .i64 x.row.1, .int .i64 x.row.2.1, .int .i64 x.row.2.2.1, .string x.row.2.2.2.1, .string x.row.2.2.2.2, .int .i64 x.prod.pid, .int .i64 x.prod.ep, .int .i64 x.prod.nx, .slice D1 x.prod.seen.length e1], .agg #[.int .i8 x.kd, .int .i64 0, .int .i64 0, .int .i64 0, .bool false, .slice none 0 0, .bool false, .int .i64 0, .int .i64 0, .int .i64 0, .int .i64 0, .int .i64 0, .string ⟨#[]⟩, .string ⟨#[]⟩, .int .i64 0, .int .i64 0, .int .i64 0, .slice none 0 0]] W (fun e w' => e = .returned (.bool (sameEn { x with nx := 0, b := { x.b with pid := 0, ep := 0 }, yes := false } (baseEn x.kd))) ∧ Below W.heap.size W w') from EnSame_any { x with nx := 0, b := { x.b with pid := 0, ep := 0 }, yes := false } (baseEn x.kd) A1 D1 none none c1 e1 0 0 W (HR.out.up h) (enR_base W x.kd))
  generalize sameEn { x with nx := 0, b := { x.b with pid := 0, ep := 0 }, yes := false } (baseEn x.kd) = sm at *
  have RM := Lib.hid (fun W => producer_any x.b.pid x.b.ep W)
  have SQ := Lib.hid (fun W => sequence_any x.nx W)
  generalize prodB x.b.pid x.b.ep = ok at *
  generalize seqB x.nx = sq at *
  obtain ⟨W0, W1, rb, hW0, hrb, L0, S1, MY1⟩ := my_start x A1 D1 c1 e1 w
  have HW0 := Lib.hid hW0
  have HRB := Lib.hid hrb
  have HL0 := Lib.hid L0
  have HS1 := Lib.hid S1
  have M1 := Lib.hid MY1
  clear hW0 hrb L0 S1 MY1 hr hk 
  go_enter Tryz.func13, Tryz.ntmps13
  go_upto_region 1 with (fail)
  rw [← HW0.out]
  refine wp_region_list ?_
  refine wpList_load_eq rfl 32 (.tmp 1) rfl w.heap.size 0 rfl _ HL0.out ?_
  refine wpList_alloc_eq rfl 32 rfl _ (alloc_en W0) ?_
  refine wpList_store_eq rfl 32 (.tmp 3) (.tmp 5) rfl W0.heap.size 0 rfl _ rfl HS1.out ?_
  refine wpList_nil ?_
  rw [← HRB.out]
  have key : ∃ yy : Bool, x.yes = yy ∧ mayEn x = (((!yy && sq) && ok) && sm) := ⟨_, rfl, HM.out⟩
  obtain ⟨yy, hyy, hmm⟩ := key
  have x6 := M1.out.1.cell 6
  rw [hyy] at x6
  clear HM
  have HM := Lib.hid hmm
  clear hmm hyy
  have x0 := M1.out.1.cell 0
  have x1 := M1.out.1.cell 1
  have x2 := M1.out.1.cell 2
  have x7 := M1.out.1.cell 7
  have y1 := M1.out.2.1.cell 1
  have z1 := M1.out.2.1.frozen 1
  have y2 := M1.out.2.1.cell 2
  have z2 := M1.out.2.1.frozen 2
  have y6 := M1.out.2.1.cell 6
  have z6 := M1.out.2.1.frozen 6
  have y7 := M1.out.2.1.cell 7
  have z7 := M1.out.2.1.frozen 7
  go_upto_region 17 with (fail)
  cases yy
  case true =>
    go_wp2_with fail
    go_ret
    exact ⟨ret_bool (by rw [HM.out]; rfl), M1.out.2.2.1⟩
  go_wp2_with fail
  refine (SQ.out _).mono ?_
  rintro e w2 ⟨rfl, rfl⟩
  cases sq
  · go_wp2_with fail
    go_ret
    exact ⟨ret_bool (by rw [HM.out]; rfl), M1.out.2.2.1⟩
  go_wp2_with fail
  refine (RM.out _).mono ?_
  rintro e w2 ⟨rfl, rfl⟩
  go_upto_region 28 with (fail)
  clear x0 x1 x2 x6 x7 y1 z1 y2 z2 y6 z6 y7 z7
  have mm := ((((M1.out.set 7 (.int .i64 0)).set 1 (.int .i64 0)).set 2 (.int .i64 0)).set 6 (.bool false))
  simp only [List.setIfInBounds_toArray, List.set_cons_zero, List.set_cons_succ] at mm
  generalize ((((W1.setCell ⟨rb, 7, none⟩ (.int .i64 0)).setCell ⟨rb, 1, none⟩ (.int .i64 0)).setCell ⟨rb, 2, none⟩ (.int .i64 0)).setCell ⟨rb, 6, none⟩ (.bool false)) = W9 at *
  have M9 := Lib.hid mm
  clear mm
  cases ok
  · go_wp2_with fail
    go_ret
    exact ⟨ret_bool (by rw [HM.out]; rfl), M9.out.2.2.1⟩
  have x0 := M9.out.1.cell 0
  refine wp_region_list ?_
  refine wpList_move rfl (.tmp 4) rfl ?_
  refine wpList_move rfl (.tmp 85) rfl ?_
  refine wpList_load_on (by rfl) 32 (.tmp 3) rfl rb 0 rfl _ (load_blk M9.out.2.1 rfl) ?_
  cases sm
  · go_wp2_with fail
    refine (SM.out _ M9.out.2.2.1).mono ?_
    rintro e w9 ⟨rfl, b9⟩
    go_wp2_with fail
    go_ret
    exact ⟨ret_bool (by rw [HM.out]; rfl), btrans M9.out.2.2.1 b9⟩
  · go_wp2_with fail
    refine (SM.out _ M9.out.2.2.1).mono ?_
    rintro e w9 ⟨rfl, b9⟩
    go_wp2_with fail
    go_ret
    exact ⟨ret_bool (by rw [HM.out]; rfl), btrans M9.out.2.2.1 b9⟩
set_option maxRecDepth 100000 in
set_option maxHeartbeats 4000000 in
theorem EnMay_3f (x : En) (hk : x.kd = 3) (hy : x.yes = false) (A1 D1 : Option Addr) (c1 e1 : Nat) (w : World) (hr : EnR w x A1 D1) :
    Calls Tryz.prog 13 #[(.agg #[.int .i8 x.kd, .int .i64 x.b.pid, .int .i64 x.b.ep, .int .i64 x.b.seq, .bool x.b.txn, .slice A1 x.b.rs.length c1, .bool x.yes, .int .i64 x.nx, .int .i64 x.off, .int .i64 x.row.1, .int .i64 x.row.2.1, .int .i64 x.row.2.2.1, .string x.row.2.2.2.1, .string x.row.2.2.2.2, .int .i64 x.prod.pid, .int .i64 x.prod.ep, .int .i64 x.prod.nx, .slice D1 x.prod.seen.length e1])] w fun e w' => e = .returned (.bool (mayEn x)) ∧ Below w.heap.size w w' := by
  have HR := Lib.hid hr
  have HM := Lib.hid (show mayEn x = (((x.b.txn && true) && mayBt x.b) && sameEn { x with b := Bat0 } (baseEn x.kd)) by unfold mayEn okEn restEn; rw [hk]; simp only [if_true, hy, Bool.false_eq_true, if_false, Bool.not_true, Bool.not_false, Bool.false_or, Bool.true_or])
  have cc3 : (x.kd == 3) = true := by rw [hk]; rfl
  have cc0 : (x.kd == 0) = false := by rw [hk]; rfl
  have cc4 : (x.kd == 4) = false := by rw [hk]; rfl
  have cc1 : (x.kd == 1) = false := by rw [hk]; rfl
  have cc2 : (x.kd == 2) = false := by rw [hk]; rfl
  have cc5 : (x.kd == 5) = false := by rw [hk]; rfl
  have cc6 : (x.kd == 6) = false := by rw [hk]; rfl
  have SM := Lib.hid (fun W (h : Below w.heap.size w W) => show Calls Tryz.prog 15 #[.agg #[.int .i8 x.kd, .int .i64 0, .int .i64 0, .int .i64 0, .bool false, .slice none 0 0, .bool x.yes, .int .i64 x.nx, .int .i64 x.off, .int .i64 x.row.1, .int .i64 x.row.2.1, .int .i64 x.row.2.2.1, .string x.row.2.2.2.1, .string x.row.2.2.2.2, .int .i64 x.prod.pid, .int .i64 x.prod.ep, .int .i64 x.prod.nx, .slice D1 x.prod.seen.length e1], .agg #[.int .i8 x.kd, .int .i64 0, .int .i64 0, .int .i64 0, .bool false, .slice none 0 0, .bool false, .int .i64 0, .int .i64 0, .int .i64 0, .int .i64 0, .int .i64 0, .string ⟨#[]⟩, .string ⟨#[]⟩, .int .i64 0, .int .i64 0, .int .i64 0, .slice none 0 0]] W (fun e w' => e = .returned (.bool (sameEn { x with b := Bat0 } (baseEn x.kd))) ∧ Below W.heap.size W w') from EnSame_any { x with b := Bat0 } (baseEn x.kd) none D1 none none 0 e1 0 0 W ⟨Reads.none_, (HR.out.up h).2.1, Nat.zero_le _, HR.out.2.2.2⟩ (enR_base W x.kd))
  generalize sameEn { x with b := Bat0 } (baseEn x.kd) = sm at *
  have RM := Lib.hid (fun W (h : Below w.heap.size w W) => RcMay_any x.b A1 c1 W (HR.out.up h).1)
  have SQ := Lib.hid (fun W => sequence_any x.nx W)
  generalize mayBt x.b = ok at *
  generalize seqB x.nx = sq at *
  have HY := Lib.hid hy
  obtain ⟨W0, W1, rb, hW0, hrb, L0, S1, MY1⟩ := my_start x A1 D1 c1 e1 w
  have HW0 := Lib.hid hW0
  have HRB := Lib.hid hrb
  have HL0 := Lib.hid L0
  have HS1 := Lib.hid S1
  have M1 := Lib.hid MY1
  clear hW0 hrb L0 S1 MY1 hr hk hy
  go_enter Tryz.func13, Tryz.ntmps13
  go_upto_region 1 with (fail)
  rw [← HW0.out]
  refine wp_region_list ?_
  refine wpList_load_eq rfl 32 (.tmp 1) rfl w.heap.size 0 rfl _ HL0.out ?_
  refine wpList_alloc_eq rfl 32 rfl _ (alloc_en W0) ?_
  refine wpList_store_eq rfl 32 (.tmp 3) (.tmp 5) rfl W0.heap.size 0 rfl _ rfl HS1.out ?_
  refine wpList_nil ?_
  rw [← HRB.out]
  have key : ∃ tt : Bool, x.b.txn = tt ∧ mayEn x = (((tt && true) && ok) && sm) := ⟨_, rfl, HM.out⟩
  obtain ⟨tt, htt, hmm⟩ := key
  have x4 := M1.out.1.cell 4
  rw [htt] at x4
  have x6 := M1.out.1.cell 6
  rw [HY.out] at x6
  have HTT := Lib.hid htt
  clear HM
  have HM := Lib.hid hmm
  clear hmm htt
  have x0 := M1.out.1.cell 0
  have x1 := M1.out.1.cell 1
  have x2 := M1.out.1.cell 2
  have x3 := M1.out.1.cell 3
  have x5 := M1.out.1.cell 5
  have x7 := M1.out.1.cell 7
  go_upto_region 11 with (fail)
  cases tt
  case false =>
    go_wp2_with fail
    go_ret
    exact ⟨ret_bool (by rw [HM.out]; rfl), M1.out.2.2.1⟩
  go_upto_region 15 with (fail)
  clear x0 x1 x2 x3 x4 x5 x6 x7
  have M5 := Lib.hid M1.out
  have x0 := M5.out.1.cell 0
  have x1 := M5.out.1.cell 1
  have x2 := M5.out.1.cell 2
  have x3 := M5.out.1.cell 3
  have x5 := M5.out.1.cell 5
  have x4 := M5.out.1.cell 4
  go_wp2_with fail
  refine (RM.out _ M5.out.2.2.1).mono ?_
  rintro e w2 ⟨rfl, b2⟩
  have M2 := Lib.hid (M5.out.below b2)
  clear b2 x0 x1 x2 x3 x4 x5
  have y1 := M2.out.2.1.cell 1
  have z1 := M2.out.2.1.frozen 1
  have y2 := M2.out.2.1.cell 2
  have z2 := M2.out.2.1.frozen 2
  have y3 := M2.out.2.1.cell 3
  have z3 := M2.out.2.1.frozen 3
  have y4 := M2.out.2.1.cell 4
  have z4 := M2.out.2.1.frozen 4
  have y5 := M2.out.2.1.cell 5
  have z5 := M2.out.2.1.frozen 5
  go_upto_region 28 with (fail)
  clear y1 z1 y2 z2 y3 z3 y4 z4 y5 z5
  have mm := (((((M2.out.set 1 (.int .i64 0)).set 2 (.int .i64 0)).set 3 (.int .i64 0)).set 4 (.bool false)).set 5 (.slice none 0 0))
  simp only [List.setIfInBounds_toArray, List.set_cons_zero, List.set_cons_succ] at mm
  generalize (((((w2.setCell ⟨rb, 1, none⟩ (.int .i64 0)).setCell ⟨rb, 2, none⟩ (.int .i64 0)).setCell ⟨rb, 3, none⟩ (.int .i64 0)).setCell ⟨rb, 4, none⟩ (.bool false)).setCell ⟨rb, 5, none⟩ (.slice none 0 0)) = W9 at *
  have M9 := Lib.hid mm
  clear mm
  cases ok
  · go_wp2_with fail
    go_ret
    exact ⟨ret_bool (by rw [HM.out]; rfl), M9.out.2.2.1⟩
  have x0 := M9.out.1.cell 0
  refine wp_region_list ?_
  refine wpList_move rfl (.tmp 4) rfl ?_
  refine wpList_move rfl (.tmp 85) rfl ?_
  refine wpList_load_on (by rfl) 32 (.tmp 3) rfl rb 0 rfl _ (load_blk M9.out.2.1 rfl) ?_
  cases sm
  · go_wp2_with fail
    refine (SM.out _ M9.out.2.2.1).mono ?_
    rintro e w9 ⟨rfl, b9⟩
    go_wp2_with fail
    go_ret
    exact ⟨ret_bool (by rw [HM.out]; rfl), btrans M9.out.2.2.1 b9⟩
  · go_wp2_with fail
    refine (SM.out _ M9.out.2.2.1).mono ?_
    rintro e w9 ⟨rfl, b9⟩
    go_wp2_with fail
    go_ret
    exact ⟨ret_bool (by rw [HM.out]; rfl), btrans M9.out.2.2.1 b9⟩
set_option maxRecDepth 100000 in
set_option maxHeartbeats 4000000 in
theorem EnMay_3t (x : En) (hk : x.kd = 3) (hy : x.yes = true) (A1 D1 : Option Addr) (c1 e1 : Nat) (w : World) (hr : EnR w x A1 D1) :
    Calls Tryz.prog 13 #[(.agg #[.int .i8 x.kd, .int .i64 x.b.pid, .int .i64 x.b.ep, .int .i64 x.b.seq, .bool x.b.txn, .slice A1 x.b.rs.length c1, .bool x.yes, .int .i64 x.nx, .int .i64 x.off, .int .i64 x.row.1, .int .i64 x.row.2.1, .int .i64 x.row.2.2.1, .string x.row.2.2.2.1, .string x.row.2.2.2.2, .int .i64 x.prod.pid, .int .i64 x.prod.ep, .int .i64 x.prod.nx, .slice D1 x.prod.seen.length e1])] w fun e w' => e = .returned (.bool (mayEn x)) ∧ Below w.heap.size w w' := by
  have HR := Lib.hid hr
  have HM := Lib.hid (show mayEn x = (((x.b.txn && seqB x.nx) && mayBt x.b) && sameEn { x with yes := false, nx := 0, b := Bat0 } (baseEn x.kd)) by unfold mayEn okEn restEn; rw [hk]; simp only [if_true, hy, Bool.false_eq_true, if_false, Bool.not_true, Bool.not_false, Bool.false_or, Bool.true_or])
  have cc3 : (x.kd == 3) = true := by rw [hk]; rfl
  have cc0 : (x.kd == 0) = false := by rw [hk]; rfl
  have cc4 : (x.kd == 4) = false := by rw [hk]; rfl
  have cc1 : (x.kd == 1) = false := by rw [hk]; rfl
  have cc2 : (x.kd == 2) = false := by rw [hk]; rfl
  have cc5 : (x.kd == 5) = false := by rw [hk]; rfl
  have cc6 : (x.kd == 6) = false := by rw [hk]; rfl
  have SM := Lib.hid (fun W (h : Below w.heap.size w W) => show Calls Tryz.prog 15 #[.agg #[.int .i8 x.kd, .int .i64 0, .int .i64 0, .int .i64 0, .bool false, .slice none 0 0, .bool false, .int .i64 0, .int .i64 x.off, .int .i64 x.row.1, .int .i64 x.row.2.1, .int .i64 x.row.2.2.1, .string x.row.2.2.2.1, .string x.row.2.2.2.2, .int .i64 x.prod.pid, .int .i64 x.prod.ep, .int .i64 x.prod.nx, .slice D1 x.prod.seen.length e1], .agg #[.int .i8 x.kd, .int .i64 0, .int .i64 0, .int .i64 0, .bool false, .slice none 0 0, .bool false, .int .i64 0, .int .i64 0, .int .i64 0, .int .i64 0, .int .i64 0, .string ⟨#[]⟩, .string ⟨#[]⟩, .int .i64 0, .int .i64 0, .int .i64 0, .slice none 0 0]] W (fun e w' => e = .returned (.bool (sameEn { x with yes := false, nx := 0, b := Bat0 } (baseEn x.kd))) ∧ Below W.heap.size W w') from EnSame_any { x with yes := false, nx := 0, b := Bat0 } (baseEn x.kd) none D1 none none 0 e1 0 0 W ⟨Reads.none_, (HR.out.up h).2.1, Nat.zero_le _, HR.out.2.2.2⟩ (enR_base W x.kd))
  generalize sameEn { x with yes := false, nx := 0, b := Bat0 } (baseEn x.kd) = sm at *
  have RM := Lib.hid (fun W (h : Below w.heap.size w W) => RcMay_any x.b A1 c1 W (HR.out.up h).1)
  have SQ := Lib.hid (fun W => sequence_any x.nx W)
  generalize mayBt x.b = ok at *
  generalize seqB x.nx = sq at *
  have HY := Lib.hid hy
  obtain ⟨W0, W1, rb, hW0, hrb, L0, S1, MY1⟩ := my_start x A1 D1 c1 e1 w
  have HW0 := Lib.hid hW0
  have HRB := Lib.hid hrb
  have HL0 := Lib.hid L0
  have HS1 := Lib.hid S1
  have M1 := Lib.hid MY1
  clear hW0 hrb L0 S1 MY1 hr hk hy
  go_enter Tryz.func13, Tryz.ntmps13
  go_upto_region 1 with (fail)
  rw [← HW0.out]
  refine wp_region_list ?_
  refine wpList_load_eq rfl 32 (.tmp 1) rfl w.heap.size 0 rfl _ HL0.out ?_
  refine wpList_alloc_eq rfl 32 rfl _ (alloc_en W0) ?_
  refine wpList_store_eq rfl 32 (.tmp 3) (.tmp 5) rfl W0.heap.size 0 rfl _ rfl HS1.out ?_
  refine wpList_nil ?_
  rw [← HRB.out]
  have key : ∃ tt : Bool, x.b.txn = tt ∧ mayEn x = (((tt && sq) && ok) && sm) := ⟨_, rfl, HM.out⟩
  obtain ⟨tt, htt, hmm⟩ := key
  have x4 := M1.out.1.cell 4
  rw [htt] at x4
  have x6 := M1.out.1.cell 6
  rw [HY.out] at x6
  have HTT := Lib.hid htt
  clear HM
  have HM := Lib.hid hmm
  clear hmm htt
  have x0 := M1.out.1.cell 0
  have x1 := M1.out.1.cell 1
  have x2 := M1.out.1.cell 2
  have x3 := M1.out.1.cell 3
  have x5 := M1.out.1.cell 5
  have x7 := M1.out.1.cell 7
  have y6 := M1.out.2.1.cell 6
  have z6 := M1.out.2.1.frozen 6
  have y7 := M1.out.2.1.cell 7
  have z7 := M1.out.2.1.frozen 7
  go_upto_region 11 with (fail)
  cases tt
  case false =>
    go_wp2_with fail
    go_ret
    exact ⟨ret_bool (by rw [HM.out]; rfl), M1.out.2.2.1⟩
  go_wp2_with fail
  refine (SQ.out _).mono ?_
  rintro e w2 ⟨rfl, rfl⟩
  cases sq
  · go_wp2_with fail
    go_ret
    exact ⟨ret_bool (by rw [HM.out]; rfl), M1.out.2.2.1⟩
  go_upto_region 15 with (fail)
  clear x0 x1 x2 x3 x4 x5 x6 x7 y6 z6 y7 z7
  have mm := ((M1.out.set 6 (.bool false)).set 7 (.int .i64 0))
  simp only [List.setIfInBounds_toArray, List.set_cons_zero, List.set_cons_succ] at mm
  generalize ((W1.setCell ⟨rb, 6, none⟩ (.bool false)).setCell ⟨rb, 7, none⟩ (.int .i64 0)) = W5 at *
  have M5 := Lib.hid mm
  clear mm
  have x0 := M5.out.1.cell 0
  have x1 := M5.out.1.cell 1
  have x2 := M5.out.1.cell 2
  have x3 := M5.out.1.cell 3
  have x5 := M5.out.1.cell 5
  have x4 := M5.out.1.cell 4
  go_wp2_with fail
  refine (RM.out _ M5.out.2.2.1).mono ?_
  rintro e w2 ⟨rfl, b2⟩
  have M2 := Lib.hid (M5.out.below b2)
  clear b2 x0 x1 x2 x3 x4 x5
  have y1 := M2.out.2.1.cell 1
  have z1 := M2.out.2.1.frozen 1
  have y2 := M2.out.2.1.cell 2
  have z2 := M2.out.2.1.frozen 2
  have y3 := M2.out.2.1.cell 3
  have z3 := M2.out.2.1.frozen 3
  have y4 := M2.out.2.1.cell 4
  have z4 := M2.out.2.1.frozen 4
  have y5 := M2.out.2.1.cell 5
  have z5 := M2.out.2.1.frozen 5
  go_upto_region 28 with (fail)
  clear y1 z1 y2 z2 y3 z3 y4 z4 y5 z5
  have mm := (((((M2.out.set 1 (.int .i64 0)).set 2 (.int .i64 0)).set 3 (.int .i64 0)).set 4 (.bool false)).set 5 (.slice none 0 0))
  simp only [List.setIfInBounds_toArray, List.set_cons_zero, List.set_cons_succ] at mm
  generalize (((((w2.setCell ⟨rb, 1, none⟩ (.int .i64 0)).setCell ⟨rb, 2, none⟩ (.int .i64 0)).setCell ⟨rb, 3, none⟩ (.int .i64 0)).setCell ⟨rb, 4, none⟩ (.bool false)).setCell ⟨rb, 5, none⟩ (.slice none 0 0)) = W9 at *
  have M9 := Lib.hid mm
  clear mm
  cases ok
  · go_wp2_with fail
    go_ret
    exact ⟨ret_bool (by rw [HM.out]; rfl), M9.out.2.2.1⟩
  have x0 := M9.out.1.cell 0
  refine wp_region_list ?_
  refine wpList_move rfl (.tmp 4) rfl ?_
  refine wpList_move rfl (.tmp 85) rfl ?_
  refine wpList_load_on (by rfl) 32 (.tmp 3) rfl rb 0 rfl _ (load_blk M9.out.2.1 rfl) ?_
  cases sm
  · go_wp2_with fail
    refine (SM.out _ M9.out.2.2.1).mono ?_
    rintro e w9 ⟨rfl, b9⟩
    go_wp2_with fail
    go_ret
    exact ⟨ret_bool (by rw [HM.out]; rfl), btrans M9.out.2.2.1 b9⟩
  · go_wp2_with fail
    refine (SM.out _ M9.out.2.2.1).mono ?_
    rintro e w9 ⟨rfl, b9⟩
    go_wp2_with fail
    go_ret
    exact ⟨ret_bool (by rw [HM.out]; rfl), btrans M9.out.2.2.1 b9⟩
set_option maxRecDepth 100000 in
set_option maxHeartbeats 4000000 in
theorem EnMay_9 (x : En) (h0 : ¬ x.kd = 0) (h1 : ¬ x.kd = 1) (h2 : ¬ x.kd = 2) (h3 : ¬ x.kd = 3) (h4 : ¬ x.kd = 4) (h5 : ¬ x.kd = 5) (h6 : ¬ x.kd = 6) (A1 D1 : Option Addr) (c1 e1 : Nat) (w : World) :
    Calls Tryz.prog 13 #[(.agg #[.int .i8 x.kd, .int .i64 x.b.pid, .int .i64 x.b.ep, .int .i64 x.b.seq, .bool x.b.txn, .slice A1 x.b.rs.length c1, .bool x.yes, .int .i64 x.nx, .int .i64 x.off, .int .i64 x.row.1, .int .i64 x.row.2.1, .int .i64 x.row.2.2.1, .string x.row.2.2.2.1, .string x.row.2.2.2.2, .int .i64 x.prod.pid, .int .i64 x.prod.ep, .int .i64 x.prod.nx, .slice D1 x.prod.seen.length e1])] w fun e w' => e = .returned (.bool (mayEn x)) ∧ Below w.heap.size w w' := by
  have HM := Lib.hid (show mayEn x = false by unfold mayEn okEn; rw [if_neg h3, if_neg h0, if_neg h4, if_neg h1, if_neg h2, if_neg h5, if_neg h6]; rfl)
  have cc0 : (x.kd == 0) = false := by simpa using h0
  have cc1 : (x.kd == 1) = false := by simpa using h1
  have cc2 : (x.kd == 2) = false := by simpa using h2
  have cc3 : (x.kd == 3) = false := by simpa using h3
  have cc4 : (x.kd == 4) = false := by simpa using h4
  have cc5 : (x.kd == 5) = false := by simpa using h5
  have cc6 : (x.kd == 6) = false := by simpa using h6
  obtain ⟨W0, W1, rb, hW0, hrb, L0, S1, MY1⟩ := my_start x A1 D1 c1 e1 w
  have HW0 := Lib.hid hW0
  have HRB := Lib.hid hrb
  have HL0 := Lib.hid L0
  have HS1 := Lib.hid S1
  have M1 := Lib.hid MY1
  clear hW0 hrb L0 S1 MY1 h0 h1 h2 h3 h4 h5 h6
  have x0 := M1.out.1.cell 0
  go_enter Tryz.func13, Tryz.ntmps13
  go_upto_region 1 with (fail)
  rw [← HW0.out]
  refine wp_region_list ?_
  refine wpList_load_eq rfl 32 (.tmp 1) rfl w.heap.size 0 rfl _ HL0.out ?_
  refine wpList_alloc_eq rfl 32 rfl _ (alloc_en W0) ?_
  refine wpList_store_eq rfl 32 (.tmp 3) (.tmp 5) rfl W0.heap.size 0 rfl _ rfl HS1.out ?_
  refine wpList_nil ?_
  go_wp2_with fail
  go_ret
  exact ⟨ret_bool HM.out.symm, M1.out.2.2.1⟩
set_option maxRecDepth 100000 in
theorem EnMay_any (x : En) (A1 D1 : Option Addr) (c1 e1 : Nat) (w : World) (hr : EnR w x A1 D1) :
    Calls Tryz.prog 13 #[(.agg #[.int .i8 x.kd, .int .i64 x.b.pid, .int .i64 x.b.ep, .int .i64 x.b.seq, .bool x.b.txn, .slice A1 x.b.rs.length c1, .bool x.yes, .int .i64 x.nx, .int .i64 x.off, .int .i64 x.row.1, .int .i64 x.row.2.1, .int .i64 x.row.2.2.1, .string x.row.2.2.2.1, .string x.row.2.2.2.2, .int .i64 x.prod.pid, .int .i64 x.prod.ep, .int .i64 x.prod.nx, .slice D1 x.prod.seen.length e1])] w fun e w' => e = .returned (.bool (mayEn x)) ∧ Below w.heap.size w w' := by
  by_cases h0 : x.kd = 0
  · exact EnMay_0 x h0 A1 D1 c1 e1 w hr
  by_cases h1 : x.kd = 1
  · exact EnMay_1 x h1 A1 D1 c1 e1 w hr
  by_cases h2 : x.kd = 2
  · exact EnMay_2 x h2 A1 D1 c1 e1 w hr
  by_cases h3 : x.kd = 3
  · have hyy : x.yes = false ∨ x.yes = true := by cases x.yes <;> simp
    rcases hyy with hy | hy
    · exact EnMay_3f x h3 hy A1 D1 c1 e1 w hr
    · exact EnMay_3t x h3 hy A1 D1 c1 e1 w hr
  by_cases h4 : x.kd = 4
  · exact EnMay_4 x h4 A1 D1 c1 e1 w hr
  by_cases h5 : x.kd = 5
  · exact EnMay_5 x h5 A1 D1 c1 e1 w hr
  by_cases h6 : x.kd = 6
  · exact EnMay_6 x h6 A1 D1 c1 e1 w hr
  exact EnMay_9 x h0 h1 h2 h3 h4 h5 h6 A1 D1 c1 e1 w
end Go.Proofs.YtckdecodpjfcnaaGreatDoor
namespace Go.Proofs.YtckdecodpjfcnaaGreatDoor
open Go.RowKit

theorem any_take (rs : List Rec) (k : Nat) (r : Rec) (h : rs[k]? = some r) : (rs.take (k + 1)).any badR = ((rs.take k).any badR || badR r) := by
  rw [List.take_add_one, h]; simp
theorem any_of_at {rs : List Rec} {k : Nat} {r : Rec} (h : rs[k]? = some r) (hb : badR r = true) : rs.any badR = true := List.any_eq_true.2 ⟨r, List.mem_of_getElem? h, hb⟩

set_option maxRecDepth 100000 in
set_option maxHeartbeats 1000000 in
theorem rRcMay_any (b : Bat) (A1 : Option Addr) (c1 : Nat) (w : World) (hr : Reads w w.heap.size 2 A1 b.rs.length (cellsR b.rs)) :
    Calls Tryz.prog 40 #[(.agg #[.int .i64 b.pid, .int .i64 b.ep, .int .i64 b.seq, .bool b.txn, .slice A1 b.rs.length c1])] w fun e w' => e = .returned (.bool (mayBt b)) ∧ Below w.heap.size w w' := by
  have HB := Lib.hid ((Below.refl w.heap.size w).alloc (Nat.le_refl _) (.cells #[.int .i64 b.pid, .int .i64 b.ep, .int .i64 b.seq, .bool b.txn, .slice A1 b.rs.length c1] 25))
  by_cases hh : headB b = true
  · have hd : 1 ≤ b.pid ∧ b.pid ≤ 8 ∧ 0 ≤ b.ep ∧ b.ep ≤ 100 ∧ 1 ≤ b.rs.length ∧ b.rs.length ≤ 4 ∧ 0 ≤ b.seq ∧ b.seq + b.rs.length ≤ 1048576 := by
      unfold headB at hh; simpa using hh
    have hfin : mayBt b = !(b.rs.any badR) := by unfold mayBt; rw [hh]; rfl
    have HF := Lib.hid hfin
    have HR := Lib.hid (hr.alloc (Nat.le_refl _) (.cells #[.int .i64 b.pid, .int .i64 b.ep, .int .i64 b.seq, .bool b.txn, .slice A1 b.rs.length c1] 25))
    obtain ⟨q1, q2, q3, q4, q5, q6, q7, q8⟩ := hd
    have d1 : ¬ b.pid < 1 := by omega
    have d2 : ¬ 8 < b.pid := by omega
    have d3 : ¬ b.ep < 0 := by omega
    have d4 : ¬ 100 < b.ep := by omega
    have d5 : ¬ (b.rs.length : Int) < 1 := by omega
    have d6 : ¬ 4 < (b.rs.length : Int) := by omega
    have d7 : ¬ b.seq < 0 := by omega
    have d9 : ¬ 1048576 < b.seq := by omega
    have d8 : ¬ 1048576 < b.seq + (b.rs.length : Int) := by omega
    have x4 := (Blk.new w 25 #[.int .i64 b.pid, .int .i64 b.ep, .int .i64 b.seq, .bool b.txn, .slice A1 b.rs.length c1]).cell 4
    clear hr hfin hh
    go_enter Tryz.func40, Tryz.ntmps40
    go_wp2_with fail
    generalize hW : w.alloc (.cells #[.int .i64 b.pid, .int .i64 b.ep, .int .i64 b.seq, .bool b.txn, .slice A1 b.rs.length c1] 25) = W at *
    clear hW
    go_loop [3] (fun x => ∃ k : Nat, k ≤ b.rs.length ∧ x = .int .i64 k ∧ (b.rs.take k).any badR = false) (fun x => b.rs.length - (intOf x).toNat)
    case atStart => exact ⟨0, Nat.zero_le _, rfl, by simp⟩
    case round =>
      obtain ⟨k, hk, rfl, hany⟩ := hrel
      have HANY := Lib.hid hany
      clear hany
      by_cases hlt : k < b.rs.length
      · have e1 : decide ((k : Int) < (b.rs.length : Int)) = true := by simp; omega
        obtain ⟨b1, o1, rfl, _, hc1⟩ := HR.out.plain2 (by omega)
        obtain ⟨r, hx⟩ : ∃ z, b.rs[k]? = some z := ⟨_, List.getElem?_eq_getElem hlt⟩
        obtain ⟨g1, g2⟩ := hc1 k _ hx
        have HSN := Lib.hid (any_take b.rs k r hx)
        have HX := Lib.hid hx
        clear hc1 hx
        go_wp2_with fail
        all_goals first
          | (go_ret; exact ⟨ret_bool (by rw [HF.out, any_of_at HX.out (by unfold badR; simp; omega)]; rfl), HB.out⟩)
          | (go_round
             case rel => exact ⟨k + 1, by omega, by go_num, by rw [HSN.out, HANY.out]; unfold badR; simp; omega⟩
             case measure => simp [intOf]; omega)
      · have e1 : decide ((k : Int) < (b.rs.length : Int)) = false := by simp; omega
        have hfin : b.rs.any badR = false := by have h2 := HANY.out; rwa [List.take_of_length_le (by omega)] at h2
        have HF2 := Lib.hid hfin
        clear hfin
        go_wp2_with fail
        go_ret
        exact ⟨ret_bool (by rw [HF.out, HF2.out]; rfl), HB.out⟩
  · have hfin : mayBt b = false := by unfold mayBt; rw [Bool.not_eq_true] at hh; rw [hh]; rfl
    rw [hfin]
    have hd : ¬ (1 ≤ b.pid ∧ b.pid ≤ 8 ∧ 0 ≤ b.ep ∧ b.ep ≤ 100 ∧ 1 ≤ b.rs.length ∧ b.rs.length ≤ 4 ∧ 0 ≤ b.seq ∧ b.seq + b.rs.length ≤ 1048576) := by
      unfold headB at hh; simpa using hh
    have HD := Lib.hid hd
    clear hr hfin hh hd
    go_enter Tryz.func40, Tryz.ntmps40
    go_wp2_with fail
    all_goals first | (go_ret; exact ⟨rfl, HB.out⟩) | (exfalso; have := HD.out; omega)
end Go.Proofs.YtckdecodpjfcnaaGreatDoor
