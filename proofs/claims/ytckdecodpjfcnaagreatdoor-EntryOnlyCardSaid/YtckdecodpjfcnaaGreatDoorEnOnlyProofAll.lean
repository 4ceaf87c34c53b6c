/-
  The card of EntryOnly is proved: for every input the call returns true, and each argument reads as before. No condition but the row's own list, which the card ties to the program's text.
  The statement EntryOnly: its walk.
-/
import Derived.Test.YtckdecodpjfcnaaGreatDoorGrp30
import Derived.SliceStrings
set_option linter.unusedVariables false
set_option linter.unusedSimpArgs false
namespace Go.Proofs.YtckdecodpjfcnaaGreatDoor
open Go.RowKit

theorem reads_byte1 (w : World) (d : Int) (m : UInt8) (hm : (m.toNat : Int) = d) : Reads (w.alloc (.cells #[.int .u8 d] 5)) (w.heap.size + 1) 1 (some ⟨w.heap.size, 0, none⟩) 1 (cellsB [m]) := by
  refine ⟨rfl, fun _ => ⟨_, rfl, Nat.lt_succ_self _, fun j u hu => ?_⟩⟩
  rw [add_none, Nat.zero_add]
  rw [(Blk.new w _ _).cell j]
  have e : cellsB [m] = [.int .u8 d] := by rw [← hm]; rfl
  rw [e] at hu
  simpa using hu
theorem same_no {x y : En} {l l' : List UInt8} (hx : l = encEn x) (hy : l' = encEn y) (h : l.length ≠ l'.length) : sameEn x y = false := by
  cases hs : sameEn x y
  · rfl
  · have := (sameEn_iff x y).1 hs
    subst this
    exact absurd (by rw [hx, hy]) h
section
attribute [-go_sem] loadCells storeVar
set_option maxRecDepth 100000 in
set_option maxHeartbeats 1000000 in
theorem enonly_big (s : ByteArray) (d : Int) (w : World) (hg : HasET w) (h : 2000 < s.size ∨ s.size = 0) :
    Calls Tryz.prog 6 #[.string s, .int .u8 d] w fun e w' => e = .returned (.bool true) ∧ Below w.heap.size w w' := by
  have WK := Lib.hid (wakes07 w hg)
  have dd : decide ((2000 : Int) < (s.size : Int)) = true ∨ (decide ((2000 : Int) < (s.size : Int)) = false ∧ ((s.size : Int) == 0) = true) := by
    by_cases h1 : 2000 < s.size
    · exact .inl (by simp; omega)
    · exact .inr ⟨by simp; omega, eqb_true (by omega)⟩
  clear h hg
  rcases dd with d1 | ⟨d1, d2⟩
  all_goals
    go_enter Tryz.func6, Tryz.ntmps6
    go_wp2_with fail
    refine WK.out.mono ?_
    rintro e w1 ⟨rfl, b1⟩
    go_wp2_with fail
    go_ret
    exact ⟨rfl, b1⟩
set_option maxRecDepth 100000 in
set_option maxHeartbeats 4000000 in
theorem enonly_no (s : ByteArray) (d : Int) (m : UInt8) (hm : (m.toNat : Int) = d) (w : World) (hg : HasET w) (h1 : s.size ≤ 2000) (h2 : 0 < s.size) (x y z : En) (n2 n3 : Int) (hz1 : readE 1 1048575 6 (lb s) = (x, 70)) (hz2 : readE 1 1048575 6 (lb s ++ [m]) = (y, n2)) (hz3 : readE 1 1048575 6 ((lb s).take (s.size - 1)) = (z, n3))  :
    Calls Tryz.prog 6 #[.string s, .int .u8 d] w fun e w' => e = .returned (.bool true) ∧ Below w.heap.size w w' := by
  have d1 : decide ((2000 : Int) < (s.size : Int)) = false := by simp; omega
  have d2 : ((s.size : Int) == 0) = false := eqb_false (by omega)
  have cw : IntKind.i64.wrap ((s.size : Int) - 1) = (s.size : Int) - 1 := IntWalk.i64_in _ (by omega)
  have hsl : ∀ W : World, (Instr.slice 9 (.string s) none (some (.int .i64 ((s.size : Int) - 1))) none).run Tryz.prog W = .ok (.string (s.extract 0 (s.size - 1))) W := by
    intro W
    have e : ((s.size : Int) - 1) = ((s.size - 1 : Nat) : Int) := by omega
    rw [e, run_slice_string_to_if W 9 s .i64 _ Tryz.underlying9, if_pos (by omega), Int.toNat_natCast]
  have R1 := Lib.hid (fun (W : World) (h : Below w.heap.size w W) => show Calls Tryz.prog 21 #[.string s] W (ErRd x 70 W) from by
    have := EnRead_any s W (by omega) (hg.up h)
    rw [hz1] at this
    exact this)
  have R2 := Lib.hid (fun (W : World) (h : Below w.heap.size w W) => show Calls Tryz.prog 21 #[.string (s ++ bs [m])] W (ErRd y n2 W) from by
    have e : lb (s ++ bs [m]) = lb s ++ [m] := by rw [lb_append, lb_bs]
    have hsz : (s ++ bs [m]).size ≤ 100000 := by rw [← length_lb, e, List.length_append, length_lb]; simp; omega
    have := EnRead_any (s ++ bs [m]) W hsz (hg.up h)
    rw [e, hz2] at this
    exact this)
  have R3 := Lib.hid (fun (W : World) (h : Below w.heap.size w W) => show Calls Tryz.prog 21 #[.string (s.extract 0 (s.size - 1))] W (ErRd z n3 W) from by
    have e : lb (s.extract 0 (s.size - 1)) = (lb s).take (s.size - 1) := by rw [lb_extract, List.drop_zero]
    have hsz : (s.extract 0 (s.size - 1)).size ≤ 100000 := by rw [← length_lb, e, List.length_take, length_lb]; omega
    have := EnRead_any (s.extract 0 (s.size - 1)) W hsz (hg.up h)
    rw [e, hz3] at this
    exact this)
  have WK := Lib.hid (fun W (h : Below w.heap.size w W) => wakes07 W (hg.up h))
  have RN := Lib.hid (fun W => run_string_of (P := Tryz.prog) (src := 46) (dst := 9) (c := 1) Tryz.underlying46 Tryz.underlying5 Tryz.underlying9 (reads_byte1 W d m hm))
  have htm : (bs [m]).size ≤ 1 := by rw [size_bs]; exact Nat.le_refl _
  generalize bs [m] = tm at *
  have hc1 : ¬ (9223372036854775807 : Int) < (s.size : Int) + (tm.size : Int) := by omega
  have hc2 : decide ((9223372036854775807 : Int) < (s.size : Int) + (tm.size : Int)) = false := decide_eq_false hc1
  generalize s.extract 0 (s.size - 1) = sx at *
  clear hz1 hz2 hz3 hg hm h2
  go_enter Tryz.func6, Tryz.ntmps6
  go_wp2_with fail
  refine (R1.out _ (Below.refl _ _)).mono ?_
  rintro e w1 ⟨A1, D1, c1, e1, rfl, er1, b1⟩
  obtain ⟨W1, st1, k1, bw1⟩ := fresh_en w1 #[.int .i8 x.kd, .int .i64 x.b.pid, .int .i64 x.b.ep, .int .i64 x.b.seq, .bool x.b.txn, .slice A1 x.b.rs.length c1, .bool x.yes, .int .i64 x.nx, .int .i64 x.off, .int .i64 x.row.1, .int .i64 x.row.2.1, .int .i64 x.row.2.2.1, .string x.row.2.2.2.1, .string x.row.2.2.2.2, .int .i64 x.prod.pid, .int .i64 x.prod.ep, .int .i64 x.prod.nx, .slice D1 x.prod.seen.length e1] rfl (by simp [Value.oneCell'])
  have B1 := Lib.hid (btrans b1 bw1)
  have K1 := Lib.hid k1
  have E1 := Lib.hid (er1.up bw1)
  have rn := RN.out W1
  clear b1 bw1 k1 er1
  go_wp2_with fail
  have B1' := Lib.hid (bal B1.out (.cells #[.int .u8 d] 5))
  refine (R2.out _ B1'.out).mono ?_
  rintro e w2 ⟨A2, D2, c2, e2, rfl, er2, b2⟩
  obtain ⟨W2, st2, k2, bw2⟩ := fresh_en w2 #[.int .i8 y.kd, .int .i64 y.b.pid, .int .i64 y.b.ep, .int .i64 y.b.seq, .bool y.b.txn, .slice A2 y.b.rs.length c2, .bool y.yes, .int .i64 y.nx, .int .i64 y.off, .int .i64 y.row.1, .int .i64 y.row.2.1, .int .i64 y.row.2.2.1, .string y.row.2.2.2.1, .string y.row.2.2.2.2, .int .i64 y.prod.pid, .int .i64 y.prod.ep, .int .i64 y.prod.nx, .slice D2 y.prod.seen.length e2] rfl (by simp [Value.oneCell'])
  have B2 := Lib.hid (btrans (btrans B1'.out b2) bw2)
  have K12 := Lib.hid (((K1.out.alloc (.cells #[.int .u8 d] 5)).below b2 (by have := K1.out.lt; simp; omega)).below bw2 (by have := K1.out.lt; have := b2.size; simp at this; omega))
  have E12 := Lib.hid (((E1.out.up (bal (Below.refl _ _) (.cells #[.int .u8 d] 5))).up b2).up bw2)
  have K22 := Lib.hid k2
  have E22 := Lib.hid (er2.up bw2)
  clear b2 bw2 k2 er2 st1 rn
  go_wp2_with fail
  refine (R3.out _ B2.out).mono ?_
  rintro e w3 ⟨A3, D3, c3, e3, rfl, er3, b3⟩
  obtain ⟨W3, st3, k3, bw3⟩ := fresh_en w3 #[.int .i8 z.kd, .int .i64 z.b.pid, .int .i64 z.b.ep, .int .i64 z.b.seq, .bool z.b.txn, .slice A3 z.b.rs.length c3, .bool z.yes, .int .i64 z.nx, .int .i64 z.off, .int .i64 z.row.1, .int .i64 z.row.2.1, .int .i64 z.row.2.2.1, .string z.row.2.2.2.1, .string z.row.2.2.2.2, .int .i64 z.prod.pid, .int .i64 z.prod.ep, .int .i64 z.prod.nx, .slice D3 z.prod.seen.length e3] rfl (by simp [Value.oneCell'])
  have B3 := Lib.hid (btrans (btrans B2.out b3) bw3)
  have K13 := Lib.hid ((K12.out.below b3 K12.out.lt).below bw3 (by have := K12.out.lt; have := b3.size; omega))
  have K23 := Lib.hid ((K22.out.below b3 K22.out.lt).below bw3 (by have := K22.out.lt; have := b3.size; omega))
  have E13 := Lib.hid ((E12.out.up b3).up bw3)
  have E23 := Lib.hid ((E22.out.up b3).up bw3)
  have K33 := Lib.hid k3
  have E33 := Lib.hid (er3.up bw3)
  clear b3 bw3 k3 er3 st2
  have l1 := cells_blk K13.out rfl
  have l2 := cells_blk K23.out rfl
  have l3 := cells_blk K33.out rfl
  go_wp2_with fail
  refine (WK.out _ B3.out).mono ?_
  rintro e w9 ⟨rfl, b9⟩
  go_wp2_with fail
  go_ret
  exact ⟨rfl, btrans B3.out b9⟩
set_option maxRecDepth 100000 in
set_option maxHeartbeats 4000000 in
theorem enonly_00 (s : ByteArray) (d : Int) (m : UInt8) (hm : (m.toNat : Int) = d) (w : World) (hg : HasET w) (h1 : s.size ≤ 2000) (h2 : 0 < s.size) (x y z : En) (hz1 : readE 1 1048575 6 (lb s) = (x, 0)) (hz2 : readE 1 1048575 6 (lb s ++ [m]) = (y, 70)) (hz3 : readE 1 1048575 6 ((lb s).take (s.size - 1)) = (z, 70))  :
    Calls Tryz.prog 6 #[.string s, .int .u8 d] w fun e w' => e = .returned (.bool true) ∧ Below w.heap.size w w' := by
  have d1 : decide ((2000 : Int) < (s.size : Int)) = false := by simp; omega
  have d2 : ((s.size : Int) == 0) = false := eqb_false (by omega)
  have cw : IntKind.i64.wrap ((s.size : Int) - 1) = (s.size : Int) - 1 := IntWalk.i64_in _ (by omega)
  have hsl : ∀ W : World, (Instr.slice 9 (.string s) none (some (.int .i64 ((s.size : Int) - 1))) none).run Tryz.prog W = .ok (.string (s.extract 0 (s.size - 1))) W := by
    intro W
    have e : ((s.size : Int) - 1) = ((s.size - 1 : Nat) : Int) := by omega
    rw [e, run_slice_string_to_if W 9 s .i64 _ Tryz.underlying9, if_pos (by omega), Int.toNat_natCast]
  have R1 := Lib.hid (fun (W : World) (h : Below w.heap.size w W) => show Calls Tryz.prog 21 #[.string s] W (ErRd x 0 W) from by
    have := EnRead_any s W (by omega) (hg.up h)
    rw [hz1] at this
    exact this)
  have R2 := Lib.hid (fun (W : World) (h : Below w.heap.size w W) => show Calls Tryz.prog 21 #[.string (s ++ bs [m])] W (ErRd y 70 W) from by
    have e : lb (s ++ bs [m]) = lb s ++ [m] := by rw [lb_append, lb_bs]
    have hsz : (s ++ bs [m]).size ≤ 100000 := by rw [← length_lb, e, List.length_append, length_lb]; simp; omega
    have := EnRead_any (s ++ bs [m]) W hsz (hg.up h)
    rw [e, hz2] at this
    exact this)
  have R3 := Lib.hid (fun (W : World) (h : Below w.heap.size w W) => show Calls Tryz.prog 21 #[.string (s.extract 0 (s.size - 1))] W (ErRd z 70 W) from by
    have e : lb (s.extract 0 (s.size - 1)) = (lb s).take (s.size - 1) := by rw [lb_extract, List.drop_zero]
    have hsz : (s.extract 0 (s.size - 1)).size ≤ 100000 := by rw [← length_lb, e, List.length_take, length_lb]; omega
    have := EnRead_any (s.extract 0 (s.size - 1)) W hsz (hg.up h)
    rw [e, hz3] at this
    exact this)
  have WK := Lib.hid (fun W (h : Below w.heap.size w W) => wakes07 W (hg.up h))
  have RN := Lib.hid (fun W => run_string_of (P := Tryz.prog) (src := 46) (dst := 9) (c := 1) Tryz.underlying46 Tryz.underlying5 Tryz.underlying9 (reads_byte1 W d m hm))
  have htm : (bs [m]).size ≤ 1 := by rw [size_bs]; exact Nat.le_refl _
  generalize bs [m] = tm at *
  have hc1 : ¬ (9223372036854775807 : Int) < (s.size : Int) + (tm.size : Int) := by omega
  have hc2 : decide ((9223372036854775807 : Int) < (s.size : Int) + (tm.size : Int)) = false := decide_eq_false hc1
  generalize s.extract 0 (s.size - 1) = sx at *
  clear hz1 hz2 hz3 hg hm h2
  go_enter Tryz.func6, Tryz.ntmps6
  go_wp2_with fail
  refine (R1.out _ (Below.refl _ _)).mono ?_
  rintro e w1 ⟨A1, D1, c1, e1, rfl, er1, b1⟩
  obtain ⟨W1, st1, k1, bw1⟩ := fresh_en w1 #[.int .i8 x.kd, .int .i64 x.b.pid, .int .i64 x.b.ep, .int .i64 x.b.seq, .bool x.b.txn, .slice A1 x.b.rs.length c1, .bool x.yes, .int .i64 x.nx, .int .i64 x.off, .int .i64 x.row.1, .int .i64 x.row.2.1, .int .i64 x.row.2.2.1, .string x.row.2.2.2.1, .string x.row.2.2.2.2, .int .i64 x.prod.pid, .int .i64 x.prod.ep, .int .i64 x.prod.nx, .slice D1 x.prod.seen.length e1] rfl (by simp [Value.oneCell'])
  have B1 := Lib.hid (btrans b1 bw1)
  have K1 := Lib.hid k1
  have E1 := Lib.hid (er1.up bw1)
  have rn := RN.out W1
  clear b1 bw1 k1 er1
  go_wp2_with fail
  have B1' := Lib.hid (bal B1.out (.cells #[.int .u8 d] 5))
  refine (R2.out _ B1'.out).mono ?_
  rintro e w2 ⟨A2, D2, c2, e2, rfl, er2, b2⟩
  obtain ⟨W2, st2, k2, bw2⟩ := fresh_en w2 #[.int .i8 y.kd, .int .i64 y.b.pid, .int .i64 y.b.ep, .int .i64 y.b.seq, .bool y.b.txn, .slice A2 y.b.rs.length c2, .bool y.yes, .int .i64 y.nx, .int .i64 y.off, .int .i64 y.row.1, .int .i64 y.row.2.1, .int .i64 y.row.2.2.1, .string y.row.2.2.2.1, .string y.row.2.2.2.2, .int .i64 y.prod.pid, .int .i64 y.prod.ep, .int .i64 y.prod.nx, .slice D2 y.prod.seen.length e2] rfl (by simp [Value.oneCell'])
  have B2 := Lib.hid (btrans (btrans B1'.out b2) bw2)
  have K12 := Lib.hid (((K1.out.alloc (.cells #[.int .u8 d] 5)).below b2 (by have := K1.out.lt; simp; omega)).below bw2 (by have := K1.out.lt; have := b2.size; simp at this; omega))
  have E12 := Lib.hid (((E1.out.up (bal (Below.refl _ _) (.cells #[.int .u8 d] 5))).up b2).up bw2)
  have K22 := Lib.hid k2
  have E22 := Lib.hid (er2.up bw2)
  clear b2 bw2 k2 er2 st1 rn
  go_wp2_with fail
  refine (R3.out _ B2.out).mono ?_
  rintro e w3 ⟨A3, D3, c3, e3, rfl, er3, b3⟩
  obtain ⟨W3, st3, k3, bw3⟩ := fresh_en w3 #[.int .i8 z.kd, .int .i64 z.b.pid, .int .i64 z.b.ep, .int .i64 z.b.seq, .bool z.b.txn, .slice A3 z.b.rs.length c3, .bool z.yes, .int .i64 z.nx, .int .i64 z.off, .int .i64 z.row.1, .int .i64 z.row.2.1, .int .i64 z.row.2.2.1, .string z.row.2.2.2.1, .string z.row.2.2.2.2, .int .i64 z.prod.pid, .int .i64 z.prod.ep, .int .i64 z.prod.nx, .slice D3 z.prod.seen.length e3] rfl (by simp [Value.oneCell'])
  have B3 := Lib.hid (btrans (btrans B2.out b3) bw3)
  have K13 := Lib.hid ((K12.out.below b3 K12.out.lt).below bw3 (by have := K12.out.lt; have := b3.size; omega))
  have K23 := Lib.hid ((K22.out.below b3 K22.out.lt).below bw3 (by have := K22.out.lt; have := b3.size; omega))
  have E13 := Lib.hid ((E12.out.up b3).up bw3)
  have E23 := Lib.hid ((E22.out.up b3).up bw3)
  have K33 := Lib.hid k3
  have E33 := Lib.hid (er3.up bw3)
  clear b3 bw3 k3 er3 st2
  have l1 := cells_blk K13.out rfl
  have l2 := cells_blk K23.out rfl
  have l3 := cells_blk K33.out rfl
  go_wp2_with fail
  refine (WK.out _ B3.out).mono ?_
  rintro e w9 ⟨rfl, b9⟩
  go_wp2_with fail
  go_ret
  exact ⟨rfl, btrans B3.out b9⟩
set_option maxRecDepth 100000 in
set_option maxHeartbeats 4000000 in
theorem enonly_10 (s : ByteArray) (d : Int) (m : UInt8) (hm : (m.toNat : Int) = d) (w : World) (hg : HasET w) (h1 : s.size ≤ 2000) (h2 : 0 < s.size) (x y z : En) (hz1 : readE 1 1048575 6 (lb s) = (x, 0)) (hz2 : readE 1 1048575 6 (lb s ++ [m]) = (y, 0)) (hz3 : readE 1 1048575 6 ((lb s).take (s.size - 1)) = (z, 70)) (hs2 : sameEn x y = false) :
    Calls Tryz.prog 6 #[.string s, .int .u8 d] w fun e w' => e = .returned (.bool true) ∧ Below w.heap.size w w' := by
  have d1 : decide ((2000 : Int) < (s.size : Int)) = false := by simp; omega
  have d2 : ((s.size : Int) == 0) = false := eqb_false (by omega)
  have cw : IntKind.i64.wrap ((s.size : Int) - 1) = (s.size : Int) - 1 := IntWalk.i64_in _ (by omega)
  have hsl : ∀ W : World, (Instr.slice 9 (.string s) none (some (.int .i64 ((s.size : Int) - 1))) none).run Tryz.prog W = .ok (.string (s.extract 0 (s.size - 1))) W := by
    intro W
    have e : ((s.size : Int) - 1) = ((s.size - 1 : Nat) : Int) := by omega
    rw [e, run_slice_string_to_if W 9 s .i64 _ Tryz.underlying9, if_pos (by omega), Int.toNat_natCast]
  have R1 := Lib.hid (fun (W : World) (h : Below w.heap.size w W) => show Calls Tryz.prog 21 #[.string s] W (ErRd x 0 W) from by
    have := EnRead_any s W (by omega) (hg.up h)
    rw [hz1] at this
    exact this)
  have R2 := Lib.hid (fun (W : World) (h : Below w.heap.size w W) => show Calls Tryz.prog 21 #[.string (s ++ bs [m])] W (ErRd y 0 W) from by
    have e : lb (s ++ bs [m]) = lb s ++ [m] := by rw [lb_append, lb_bs]
    have hsz : (s ++ bs [m]).size ≤ 100000 := by rw [← length_lb, e, List.length_append, length_lb]; simp; omega
    have := EnRead_any (s ++ bs [m]) W hsz (hg.up h)
    rw [e, hz2] at this
    exact this)
  have R3 := Lib.hid (fun (W : World) (h : Below w.heap.size w W) => show Calls Tryz.prog 21 #[.string (s.extract 0 (s.size - 1))] W (ErRd z 70 W) from by
    have e : lb (s.extract 0 (s.size - 1)) = (lb s).take (s.size - 1) := by rw [lb_extract, List.drop_zero]
    have hsz : (s.extract 0 (s.size - 1)).size ≤ 100000 := by rw [← length_lb, e, List.length_take, length_lb]; omega
    have := EnRead_any (s.extract 0 (s.size - 1)) W hsz (hg.up h)
    rw [e, hz3] at this
    exact this)
  have WK := Lib.hid (fun W (h : Below w.heap.size w W) => wakes07 W (hg.up h))
  have RN := Lib.hid (fun W => run_string_of (P := Tryz.prog) (src := 46) (dst := 9) (c := 1) Tryz.underlying46 Tryz.underlying5 Tryz.underlying9 (reads_byte1 W d m hm))
  have htm : (bs [m]).size ≤ 1 := by rw [size_bs]; exact Nat.le_refl _
  generalize bs [m] = tm at *
  have hc1 : ¬ (9223372036854775807 : Int) < (s.size : Int) + (tm.size : Int) := by omega
  have hc2 : decide ((9223372036854775807 : Int) < (s.size : Int) + (tm.size : Int)) = false := decide_eq_false hc1
  generalize s.extract 0 (s.size - 1) = sx at *
  have HS2 := Lib.hid hs2
  clear hs2
  clear hz1 hz2 hz3 hg hm h2
  go_enter Tryz.func6, Tryz.ntmps6
  go_wp2_with fail
  refine (R1.out _ (Below.refl _ _)).mono ?_
  rintro e w1 ⟨A1, D1, c1, e1, rfl, er1, b1⟩
  obtain ⟨W1, st1, k1, bw1⟩ := fresh_en w1 #[.int .i8 x.kd, .int .i64 x.b.pid, .int .i64 x.b.ep, .int .i64 x.b.seq, .bool x.b.txn, .slice A1 x.b.rs.length c1, .bool x.yes, .int .i64 x.nx, .int .i64 x.off, .int .i64 x.row.1, .int .i64 x.row.2.1, .int .i64 x.row.2.2.1, .string x.row.2.2.2.1, .string x.row.2.2.2.2, .int .i64 x.prod.pid, .int .i64 x.prod.ep, .int .i64 x.prod.nx, .slice D1 x.prod.seen.length e1] rfl (by simp [Value.oneCell'])
  have B1 := Lib.hid (btrans b1 bw1)
  have K1 := Lib.hid k1
  have E1 := Lib.hid (er1.up bw1)
  have rn := RN.out W1
  clear b1 bw1 k1 er1
  go_wp2_with fail
  have B1' := Lib.hid (bal B1.out (.cells #[.int .u8 d] 5))
  refine (R2.out _ B1'.out).mono ?_
  rintro e w2 ⟨A2, D2, c2, e2, rfl, er2, b2⟩
  obtain ⟨W2, st2, k2, bw2⟩ := fresh_en w2 #[.int .i8 y.kd, .int .i64 y.b.pid, .int .i64 y.b.ep, .int .i64 y.b.seq, .bool y.b.txn, .slice A2 y.b.rs.length c2, .bool y.yes, .int .i64 y.nx, .int .i64 y.off, .int .i64 y.row.1, .int .i64 y.row.2.1, .int .i64 y.row.2.2.1, .string y.row.2.2.2.1, .string y.row.2.2.2.2, .int .i64 y.prod.pid, .int .i64 y.prod.ep, .int .i64 y.prod.nx, .slice D2 y.prod.seen.length e2] rfl (by simp [Value.oneCell'])
  have B2 := Lib.hid (btrans (btrans B1'.out b2) bw2)
  have K12 := Lib.hid (((K1.out.alloc (.cells #[.int .u8 d] 5)).below b2 (by have := K1.out.lt; simp; omega)).below bw2 (by have := K1.out.lt; have := b2.size; simp at this; omega))
  have E12 := Lib.hid (((E1.out.up (bal (Below.refl _ _) (.cells #[.int .u8 d] 5))).up b2).up bw2)
  have K22 := Lib.hid k2
  have E22 := Lib.hid (er2.up bw2)
  clear b2 bw2 k2 er2 st1 rn
  go_wp2_with fail
  refine (R3.out _ B2.out).mono ?_
  rintro e w3 ⟨A3, D3, c3, e3, rfl, er3, b3⟩
  obtain ⟨W3, st3, k3, bw3⟩ := fresh_en w3 #[.int .i8 z.kd, .int .i64 z.b.pid, .int .i64 z.b.ep, .int .i64 z.b.seq, .bool z.b.txn, .slice A3 z.b.rs.length c3, .bool z.yes, .int .i64 z.nx, .int .i64 z.off, .int .i64 z.row.1, .int .i64 z.row.2.1, .int .i64 z.row.2.2.1, .string z.row.2.2.2.1, .string z.row.2.2.2.2, .int .i64 z.prod.pid, .int .i64 z.prod.ep, .int .i64 z.prod.nx, .slice D3 z.prod.seen.length e3] rfl (by simp [Value.oneCell'])
  have B3 := Lib.hid (btrans (btrans B2.out b3) bw3)
  have K13 := Lib.hid ((K12.out.below b3 K12.out.lt).below bw3 (by have := K12.out.lt; have := b3.size; omega))
  have K23 := Lib.hid ((K22.out.below b3 K22.out.lt).below bw3 (by have := K22.out.lt; have := b3.size; omega))
  have E13 := Lib.hid ((E12.out.up b3).up bw3)
  have E23 := Lib.hid ((E22.out.up b3).up bw3)
  have K33 := Lib.hid k3
  have E33 := Lib.hid (er3.up bw3)
  clear b3 bw3 k3 er3 st2
  have l1 := cells_blk K13.out rfl
  have l2 := cells_blk K23.out rfl
  have l3 := cells_blk K33.out rfl
  have SM := EnSame_any x y A1 D1 A2 D2 c1 e1 c2 e2 W3 E13.out E23.out
  rw [HS2.out] at SM
  have SMH := Lib.hid SM
  clear SM
  go_wp2_with fail
  refine SMH.out.mono ?_
  rintro e w4 ⟨rfl, b4⟩
  have B4 := Lib.hid (btrans B3.out b4)
  have K14 := Lib.hid (K13.out.below b4 K13.out.lt)
  have K34 := Lib.hid (K33.out.below b4 K33.out.lt)
  have E14 := Lib.hid (E13.out.up b4)
  have E34 := Lib.hid (E33.out.up b4)
  clear l1 l2 l3 b4
  have l1 := cells_blk K14.out rfl
  have l3 := cells_blk K34.out rfl
  go_wp2_with fail
  refine (WK.out _ B4.out).mono ?_
  rintro e w9 ⟨rfl, b9⟩
  go_wp2_with fail
  go_ret
  exact ⟨rfl, btrans B4.out b9⟩
set_option maxRecDepth 100000 in
set_option maxHeartbeats 4000000 in
theorem enonly_01 (s : ByteArray) (d : Int) (m : UInt8) (hm : (m.toNat : Int) = d) (w : World) (hg : HasET w) (h1 : s.size ≤ 2000) (h2 : 0 < s.size) (x y z : En) (hz1 : readE 1 1048575 6 (lb s) = (x, 0)) (hz2 : readE 1 1048575 6 (lb s ++ [m]) = (y, 70)) (hz3 : readE 1 1048575 6 ((lb s).take (s.size - 1)) = (z, 0)) (hs3 : sameEn x z = false) :
    Calls Tryz.prog 6 #[.string s, .int .u8 d] w fun e w' => e = .returned (.bool true) ∧ Below w.heap.size w w' := by
  have d1 : decide ((2000 : Int) < (s.size : Int)) = false := by simp; omega
  have d2 : ((s.size : Int) == 0) = false := eqb_false (by omega)
  have cw : IntKind.i64.wrap ((s.size : Int) - 1) = (s.size : Int) - 1 := IntWalk.i64_in _ (by omega)
  have hsl : ∀ W : World, (Instr.slice 9 (.string s) none (some (.int .i64 ((s.size : Int) - 1))) none).run Tryz.prog W = .ok (.string (s.extract 0 (s.size - 1))) W := by
    intro W
    have e : ((s.size : Int) - 1) = ((s.size - 1 : Nat) : Int) := by omega
    rw [e, run_slice_string_to_if W 9 s .i64 _ Tryz.underlying9, if_pos (by omega), Int.toNat_natCast]
  have R1 := Lib.hid (fun (W : World) (h : Below w.heap.size w W) => show Calls Tryz.prog 21 #[.string s] W (ErRd x 0 W) from by
    have := EnRead_any s W (by omega) (hg.up h)
    rw [hz1] at this
    exact this)
  have R2 := Lib.hid (fun (W : World) (h : Below w.heap.size w W) => show Calls Tryz.prog 21 #[.string (s ++ bs [m])] W (ErRd y 70 W) from by
    have e : lb (s ++ bs [m]) = lb s ++ [m] := by rw [lb_append, lb_bs]
    have hsz : (s ++ bs [m]).size ≤ 100000 := by rw [← length_lb, e, List.length_append, length_lb]; simp; omega
    have := EnRead_any (s ++ bs [m]) W hsz (hg.up h)
    rw [e, hz2] at this
    exact this)
  have R3 := Lib.hid (fun (W : World) (h : Below w.heap.size w W) => show Calls Tryz.prog 21 #[.string (s.extract 0 (s.size - 1))] W (ErRd z 0 W) from by
    have e : lb (s.extract 0 (s.size - 1)) = (lb s).take (s.size - 1) := by rw [lb_extract, List.drop_zero]
    have hsz : (s.extract 0 (s.size - 1)).size ≤ 100000 := by rw [← length_lb, e, List.length_take, length_lb]; omega
    have := EnRead_any (s.extract 0 (s.size - 1)) W hsz (hg.up h)
    rw [e, hz3] at this
    exact this)
  have WK := Lib.hid (fun W (h : Below w.heap.size w W) => wakes07 W (hg.up h))
  have RN := Lib.hid (fun W => run_string_of (P := Tryz.prog) (src := 46) (dst := 9) (c := 1) Tryz.underlying46 Tryz.underlying5 Tryz.underlying9 (reads_byte1 W d m hm))
  have htm : (bs [m]).size ≤ 1 := by rw [size_bs]; exact Nat.le_refl _
  generalize bs [m] = tm at *
  have hc1 : ¬ (9223372036854775807 : Int) < (s.size : Int) + (tm.size : Int) := by omega
  have hc2 : decide ((9223372036854775807 : Int) < (s.size : Int) + (tm.size : Int)) = false := decide_eq_false hc1
  generalize s.extract 0 (s.size - 1) = sx at *
  have HS3 := Lib.hid hs3
  clear hs3
  clear hz1 hz2 hz3 hg hm h2
  go_enter Tryz.func6, Tryz.ntmps6
  go_wp2_with fail
  refine (R1.out _ (Below.refl _ _)).mono ?_
  rintro e w1 ⟨A1, D1, c1, e1, rfl, er1, b1⟩
  obtain ⟨W1, st1, k1, bw1⟩ := fresh_en w1 #[.int .i8 x.kd, .int .i64 x.b.pid, .int .i64 x.b.ep, .int .i64 x.b.seq, .bool x.b.txn, .slice A1 x.b.rs.length c1, .bool x.yes, .int .i64 x.nx, .int .i64 x.off, .int .i64 x.row.1, .int .i64 x.row.2.1, .int .i64 x.row.2.2.1, .string x.row.2.2.2.1, .string x.row.2.2.2.2, .int .i64 x.prod.pid, .int .i64 x.prod.ep, .int .i64 x.prod.nx, .slice D1 x.prod.seen.length e1] rfl (by simp [Value.oneCell'])
  have B1 := Lib.hid (btrans b1 bw1)
  have K1 := Lib.hid k1
  have E1 := Lib.hid (er1.up bw1)
  have rn := RN.out W1
  clear b1 bw1 k1 er1
  go_wp2_with fail
  have B1' := Lib.hid (bal B1.out (.cells #[.int .u8 d] 5))
  refine (R2.out _ B1'.out).mono ?_
  rintro e w2 ⟨A2, D2, c2, e2, rfl, er2, b2⟩
  obtain ⟨W2, st2, k2, bw2⟩ := fresh_en w2 #[.int .i8 y.kd, .int .i64 y.b.pid, .int .i64 y.b.ep, .int .i64 y.b.seq, .bool y.b.txn, .slice A2 y.b.rs.length c2, .bool y.yes, .int .i64 y.nx, .int .i64 y.off, .int .i64 y.row.1, .int .i64 y.row.2.1, .int .i64 y.row.2.2.1, .string y.row.2.2.2.1, .string y.row.2.2.2.2, .int .i64 y.prod.pid, .int .i64 y.prod.ep, .int .i64 y.prod.nx, .slice D2 y.prod.seen.length e2] rfl (by simp [Value.oneCell'])
  have B2 := Lib.hid (btrans (btrans B1'.out b2) bw2)
  have K12 := Lib.hid (((K1.out.alloc (.cells #[.int .u8 d] 5)).below b2 (by have := K1.out.lt; simp; omega)).below bw2 (by have := K1.out.lt; have := b2.size; simp at this; omega))
  have E12 := Lib.hid (((E1.out.up (bal (Below.refl _ _) (.cells #[.int .u8 d] 5))).up b2).up bw2)
  have K22 := Lib.hid k2
  have E22 := Lib.hid (er2.up bw2)
  clear b2 bw2 k2 er2 st1 rn
  go_wp2_with fail
  refine (R3.out _ B2.out).mono ?_
  rintro e w3 ⟨A3, D3, c3, e3, rfl, er3, b3⟩
  obtain ⟨W3, st3, k3, bw3⟩ := fresh_en w3 #[.int .i8 z.kd, .int .i64 z.b.pid, .int .i64 z.b.ep, .int .i64 z.b.seq, .bool z.b.txn, .slice A3 z.b.rs.length c3, .bool z.yes, .int .i64 z.nx, .int .i64 z.off, .int .i64 z.row.1, .int .i64 z.row.2.1, .int .i64 z.row.2.2.1, .string z.row.2.2.2.1, .string z.row.2.2.2.2, .int .i64 z.prod.pid, .int .i64 z.prod.ep, .int .i64 z.prod.nx, .slice D3 z.prod.seen.length e3] rfl (by simp [Value.oneCell'])
  have B3 := Lib.hid (btrans (btrans B2.out b3) bw3)
  have K13 := Lib.hid ((K12.out.below b3 K12.out.lt).below bw3 (by have := K12.out.lt; have := b3.size; omega))
  have K23 := Lib.hid ((K22.out.below b3 K22.out.lt).below bw3 (by have := K22.out.lt; have := b3.size; omega))
  have E13 := Lib.hid ((E12.out.up b3).up bw3)
  have E23 := Lib.hid ((E22.out.up b3).up bw3)
  have K33 := Lib.hid k3
  have E33 := Lib.hid (er3.up bw3)
  clear b3 bw3 k3 er3 st2
  have l1 := cells_blk K13.out rfl
  have l2 := cells_blk K23.out rfl
  have l3 := cells_blk K33.out rfl
  have SN := EnSame_any x z A1 D1 A3 D3 c1 e1 c3 e3 W3 E13.out E33.out
  rw [HS3.out] at SN
  have SNH := Lib.hid SN
  clear SN
  go_wp2_with fail
  refine SNH.out.mono ?_
  rintro e w5 ⟨rfl, b5⟩
  have B5 := Lib.hid (btrans B3.out b5)
  clear b5 l1 l3
  go_wp2_with fail
  refine (WK.out _ B5.out).mono ?_
  rintro e w9 ⟨rfl, b9⟩
  go_wp2_with fail
  go_ret
  exact ⟨rfl, btrans B5.out b9⟩
set_option maxRecDepth 100000 in
set_option maxHeartbeats 4000000 in
theorem enonly_11 (s : ByteArray) (d : Int) (m : UInt8) (hm : (m.toNat : Int) = d) (w : World) (hg : HasET w) (h1 : s.size ≤ 2000) (h2 : 0 < s.size) (x y z : En) (hz1 : readE 1 1048575 6 (lb s) = (x, 0)) (hz2 : readE 1 1048575 6 (lb s ++ [m]) = (y, 0)) (hz3 : readE 1 1048575 6 ((lb s).take (s.size - 1)) = (z, 0)) (hs2 : sameEn x y = false) (hs3 : sameEn x z = false) :
    Calls Tryz.prog 6 #[.string s, .int .u8 d] w fun e w' => e = .returned (.bool true) ∧ Below w.heap.size w w' := by
  have d1 : decide ((2000 : Int) < (s.size : Int)) = false := by simp; omega
  have d2 : ((s.size : Int) == 0) = false := eqb_false (by omega)
  have cw : IntKind.i64.wrap ((s.size : Int) - 1) = (s.size : Int) - 1 := IntWalk.i64_in _ (by omega)
  have hsl : ∀ W : World, (Instr.slice 9 (.string s) none (some (.int .i64 ((s.size : Int) - 1))) none).run Tryz.prog W = .ok (.string (s.extract 0 (s.size - 1))) W := by
    intro W
    have e : ((s.size : Int) - 1) = ((s.size - 1 : Nat) : Int) := by omega
    rw [e, run_slice_string_to_if W 9 s .i64 _ Tryz.underlying9, if_pos (by omega), Int.toNat_natCast]
  have R1 := Lib.hid (fun (W : World) (h : Below w.heap.size w W) => show Calls Tryz.prog 21 #[.string s] W (ErRd x 0 W) from by
    have := EnRead_any s W (by omega) (hg.up h)
    rw [hz1] at this
    exact this)
  have R2 := Lib.hid (fun (W : World) (h : Below w.heap.size w W) => show Calls Tryz.prog 21 #[.string (s ++ bs [m])] W (ErRd y 0 W) from by
    have e : lb (s ++ bs [m]) = lb s ++ [m] := by rw [lb_append, lb_bs]
    have hsz : (s ++ bs [m]).size ≤ 100000 := by rw [← length_lb, e, List.length_append, length_lb]; simp; omega
    have := EnRead_any (s ++ bs [m]) W hsz (hg.up h)
    rw [e, hz2] at this
    exact this)
  have R3 := Lib.hid (fun (W : World) (h : Below w.heap.size w W) => show Calls Tryz.prog 21 #[.string (s.extract 0 (s.size - 1))] W (ErRd z 0 W) from by
    have e : lb (s.extract 0 (s.size - 1)) = (lb s).take (s.size - 1) := by rw [lb_extract, List.drop_zero]
    have hsz : (s.extract 0 (s.size - 1)).size ≤ 100000 := by rw [← length_lb, e, List.length_take, length_lb]; omega
    have := EnRead_any (s.extract 0 (s.size - 1)) W hsz (hg.up h)
    rw [e, hz3] at this
    exact this)
  have WK := Lib.hid (fun W (h : Below w.heap.size w W) => wakes07 W (hg.up h))
  have RN := Lib.hid (fun W => run_string_of (P := Tryz.prog) (src := 46) (dst := 9) (c := 1) Tryz.underlying46 Tryz.underlying5 Tryz.underlying9 (reads_byte1 W d m hm))
  have htm : (bs [m]).size ≤ 1 := by rw [size_bs]; exact Nat.le_refl _
  generalize bs [m] = tm at *
  have hc1 : ¬ (9223372036854775807 : Int) < (s.size : Int) + (tm.size : Int) := by omega
  have hc2 : decide ((9223372036854775807 : Int) < (s.size : Int) + (tm.size : Int)) = false := decide_eq_false hc1
  generalize s.extract 0 (s.size - 1) = sx at *
  have HS2 := Lib.hid hs2
  clear hs2
  have HS3 := Lib.hid hs3
  clear hs3
  clear hz1 hz2 hz3 hg hm h2
  go_enter Tryz.func6, Tryz.ntmps6
  go_wp2_with fail
  refine (R1.out _ (Below.refl _ _)).mono ?_
  rintro e w1 ⟨A1, D1, c1, e1, rfl, er1, b1⟩
  obtain ⟨W1, st1, k1, bw1⟩ := fresh_en w1 #[.int .i8 x.kd, .int .i64 x.b.pid, .int .i64 x.b.ep, .int .i64 x.b.seq, .bool x.b.txn, .slice A1 x.b.rs.length c1, .bool x.yes, .int .i64 x.nx, .int .i64 x.off, .int .i64 x.row.1, .int .i64 x.row.2.1, .int .i64 x.row.2.2.1, .string x.row.2.2.2.1, .string x.row.2.2.2.2, .int .i64 x.prod.pid, .int .i64 x.prod.ep, .int .i64 x.prod.nx, .slice D1 x.prod.seen.length e1] rfl (by simp [Value.oneCell'])
  have B1 := Lib.hid (btrans b1 bw1)
  have K1 := Lib.hid k1
  have E1 := Lib.hid (er1.up bw1)
  have rn := RN.out W1
  clear b1 bw1 k1 er1
  go_wp2_with fail
  have B1' := Lib.hid (bal B1.out (.cells #[.int .u8 d] 5))
  refine (R2.out _ B1'.out).mono ?_
  rintro e w2 ⟨A2, D2, c2, e2, rfl, er2, b2⟩
  obtain ⟨W2, st2, k2, bw2⟩ := fresh_en w2 #[.int .i8 y.kd, .int .i64 y.b.pid, .int .i64 y.b.ep, .int .i64 y.b.seq, .bool y.b.txn, .slice A2 y.b.rs.length c2, .bool y.yes, .int .i64 y.nx, .int .i64 y.off, .int .i64 y.row.1, .int .i64 y.row.2.1, .int .i64 y.row.2.2.1, .string y.row.2.2.2.1, .string y.row.2.2.2.2, .int .i64 y.prod.pid, .int .i64 y.prod.ep, .int .i64 y.prod.nx, .slice D2 y.prod.seen.length e2] rfl (by simp [Value.oneCell'])
  have B2 := Lib.hid (btrans (btrans B1'.out b2) bw2)
  have K12 := Lib.hid (((K1.out.alloc (.cells #[.int .u8 d] 5)).below b2 (by have := K1.out.lt; simp; omega)).below bw2 (by have := K1.out.lt; have := b2.size; simp at this; omega))
  have E12 := Lib.hid (((E1.out.up (bal (Below.refl _ _) (.cells #[.int .u8 d] 5))).up b2).up bw2)
  have K22 := Lib.hid k2
  have E22 := Lib.hid (er2.up bw2)
  clear b2 bw2 k2 er2 st1 rn
  go_wp2_with fail
  refine (R3.out _ B2.out).mono ?_
  rintro e w3 ⟨A3, D3, c3, e3, rfl, er3, b3⟩
  obtain ⟨W3, st3, k3, bw3⟩ := fresh_en w3 #[.int .i8 z.kd, .int .i64 z.b.pid, .int .i64 z.b.ep, .int .i64 z.b.seq, .bool z.b.txn, .slice A3 z.b.rs.length c3, .bool z.yes, .int .i64 z.nx, .int .i64 z.off, .int .i64 z.row.1, .int .i64 z.row.2.1, .int .i64 z.row.2.2.1, .string z.row.2.2.2.1, .string z.row.2.2.2.2, .int .i64 z.prod.pid, .int .i64 z.prod.ep, .int .i64 z.prod.nx, .slice D3 z.prod.seen.length e3] rfl (by simp [Value.oneCell'])
  have B3 := Lib.hid (btrans (btrans B2.out b3) bw3)
  have K13 := Lib.hid ((K12.out.below b3 K12.out.lt).below bw3 (by have := K12.out.lt; have := b3.size; omega))
  have K23 := Lib.hid ((K22.out.below b3 K22.out.lt).below bw3 (by have := K22.out.lt; have := b3.size; omega))
  have E13 := Lib.hid ((E12.out.up b3).up bw3)
  have E23 := Lib.hid ((E22.out.up b3).up bw3)
  have K33 := Lib.hid k3
  have E33 := Lib.hid (er3.up bw3)
  clear b3 bw3 k3 er3 st2
  have l1 := cells_blk K13.out rfl
  have l2 := cells_blk K23.out rfl
  have l3 := cells_blk K33.out rfl
  have SM := EnSame_any x y A1 D1 A2 D2 c1 e1 c2 e2 W3 E13.out E23.out
  rw [HS2.out] at SM
  have SMH := Lib.hid SM
  clear SM
  go_wp2_with fail
  refine SMH.out.mono ?_
  rintro e w4 ⟨rfl, b4⟩
  have B4 := Lib.hid (btrans B3.out b4)
  have K14 := Lib.hid (K13.out.below b4 K13.out.lt)
  have K34 := Lib.hid (K33.out.below b4 K33.out.lt)
  have E14 := Lib.hid (E13.out.up b4)
  have E34 := Lib.hid (E33.out.up b4)
  clear l1 l2 l3 b4
  have l1 := cells_blk K14.out rfl
  have l3 := cells_blk K34.out rfl
  have SN := EnSame_any x z A1 D1 A3 D3 c1 e1 c3 e3 w4 E14.out E34.out
  rw [HS3.out] at SN
  have SNH := Lib.hid SN
  clear SN
  go_wp2_with fail
  refine SNH.out.mono ?_
  rintro e w5 ⟨rfl, b5⟩
  have B5 := Lib.hid (btrans B4.out b5)
  clear b5 l1 l3
  go_wp2_with fail
  refine (WK.out _ B5.out).mono ?_
  rintro e w9 ⟨rfl, b9⟩
  go_wp2_with fail
  go_ret
  exact ⟨rfl, btrans B5.out b9⟩
end
theorem enonly_walk (s : ByteArray) (d : Int) (w : World) (hg : HasET w) (hd : (Lit.int .u8 d).wf = true) :
    Calls Tryz.prog 6 #[.string s, .int .u8 d] w fun e w' => e = .returned (.bool true) ∧ Below w.heap.size w w' := by
  by_cases h : 2000 < s.size ∨ s.size = 0
  · exact enonly_big s d w hg h
  have h1 : s.size ≤ 2000 := by omega
  have h2 : 0 < s.size := by omega
  have h0 : (0 : Int) ≤ d ∧ d ≤ 255 := by
    simp only [Lit.wf, Bool.and_eq_true, decide_eq_true_eq] at hd
    exact ⟨hd.1, hd.2⟩
  have hm : (((UInt8.ofNat d.toNat).toNat : Nat) : Int) = d := by
    rw [UInt8.toNat_ofNat']
    omega
  rcases readE_cases 1 1048575 6 (lb s) with ⟨x, e1, m1, l1⟩ | e1
  · rcases readE_cases 1 1048575 6 (lb s ++ [UInt8.ofNat d.toNat]) with ⟨y, e2, m2, l2⟩ | e2
    · have s2 : sameEn x y = false := same_no l1 l2 (by simp)
      rcases readE_cases 1 1048575 6 ((lb s).take (s.size - 1)) with ⟨z, e3, m3, l3⟩ | e3
      · have s3 : sameEn x z = false := same_no l1 l3 (by rw [List.length_take, length_lb]; omega)
        exact enonly_11 s d _ hm w hg h1 h2 x y z e1 e2 e3 s2 s3
      · exact enonly_10 s d _ hm w hg h1 h2 x y En0 e1 e2 e3 s2
    · rcases readE_cases 1 1048575 6 ((lb s).take (s.size - 1)) with ⟨z, e3, m3, l3⟩ | e3
      · have s3 : sameEn x z = false := same_no l1 l3 (by rw [List.length_take, length_lb]; omega)
        exact enonly_01 s d _ hm w hg h1 h2 x En0 z e1 e2 e3 s3
      · exact enonly_00 s d _ hm w hg h1 h2 x En0 En0 e1 e2 e3
  · obtain ⟨y, n2, e2⟩ : ∃ y n, readE 1 1048575 6 (lb s ++ [UInt8.ofNat d.toNat]) = (y, n) := ⟨_, _, rfl⟩
    obtain ⟨z, n3, e3⟩ : ∃ z n, readE 1 1048575 6 ((lb s).take (s.size - 1)) = (z, n) := ⟨_, _, rfl⟩
    exact enonly_no s d _ hm w hg h1 h2 En0 y z n2 n3 e1 e2 e3
end Go.Proofs.YtckdecodpjfcnaaGreatDoor
namespace Go.Proofs.YtckdecodpjfcnaaGreatDoor.entryOnly
open Go.ChangeShapes Go.WideShapes Go.ChangeAt Go.RowKit
open Go.ChangeMaps (open_string shut_string)
set_option linter.unusedVariables false

theorem laid_met (os : Os) : laidMetH Tryz.prog Rows.entryOnlyRow.laid ((laidWorld os).forCall (fun _ _ => 0) ⟨#[], #[.string ByteArray.empty, .int .u8 0], []⟩).memory :=
  laidMetH_of_parts (laidMet_nil _ _) (by kernel_rfl)
theorem reads (os : Os) {H : Type} (enc : TypeId × Value → H) : ∃ places, DataW.whole enc Tryz.prog ((laidWorld os).forCall (fun _ _ => 0) ⟨#[], #[.string ByteArray.empty, .int .u8 0], []⟩).memory Tryz.f6.params.toList Rows.entryOnlySpec.vars false (#[.string ByteArray.empty, .int .u8 0] : Array Value).toList 8 = some ([.lit (.string []), .lit (.int .u8 0)], [], places) :=
  ⟨[], by kernel_rfl⟩

set_option maxRecDepth 100000 in
theorem lifted (os : Os) (started : os.Started) (H : Type) (enc : TypeId × Value → H) (F : Stop.Interp) :
    ReturnsInHanded {} Tryz.checked os 6 .any ((OpenSpec.ofChange Rows.entryOnlySpec).preRow enc Tryz.prog Tryz.f6 Rows.entryOnlyRow.domain false Rows.entryOnlyRow.laid) (((OpenSpec.ofChange Rows.entryOnlySpec).at F).post enc Tryz.prog Tryz.f6 false true false false) := by
  obtain ⟨places, hx⟩ := reads os enc
  refine returnsInHanded_of_row (C := Tryz.checked) (s := OpenSpec.ofChange Rows.entryOnlySpec) own started (by kernel_rfl) Tryz.func6
    (witness_row_at (enc := enc) (C := Tryz.checked) false (laidWorld os) #[.string ByteArray.empty, .int .u8 0] rfl (by kernel_rfl) (by kernel_rfl) (by kernel_rfl)
      (OpenSpec.preRow_of_cond 8 hx (by kernel_rfl) (fun k hk => by cases hk) (by kernel_rfl) (laid_met os))) ?_
  intro W base args ds gs before hval0 hW _ _ hsz0 hL _ _
  have hg : HasET W := hasErr_of_laid hL
  have hval : ∀ (j : Nat) t v, Tryz.f6.params[j]? = some t → args[j]? = some v → Value.okWide Tryz.prog W .any base t v := hval0
  have hsz : (DataW.weightsEach Tryz.prog (Tryz.f6.params.toList ++ Rows.entryOnlySpec.plain.varTypes Tryz.prog) (ds ++ gs)).all (· ≤ reachBytes) = true := hsz0
  have hW' := hW
  obtain ⟨p, q, hA0, hV, rfl, hfz, hnd⟩ := hW
  have hA : DataW.TrodAll enc Tryz.prog W 0 (fun _ => true) true Tryz.f6.params.toList args.toList ds p := hA0
  rw [Tryz.params6] at hA hval hsz
  obtain ⟨v0, vs0, d0, ds0, p0, q0, hargs, rfl, rfl, h0, r0⟩ := trodAll_cons hA
  obtain ⟨v1, vs1, d1, ds1, p1, q1, rfl, rfl, rfl, h1, r1⟩ := trodAll_cons r0
  obtain ⟨rfl, rfl, rfl⟩ := trodAll_nil r1
  obtain rfl : args = #[v0, v1] := by cases args; simp_all
  obtain ⟨rfl, rfl⟩ := trodVars_none hV
  obtain ⟨a0, rfl, rfl, rfl, w0⟩ := open_string Tryz.underlying9 (hval 0 9 v0 rfl rfl) h0
  obtain ⟨a1, rfl, rfl, rfl, w1⟩ := open_int Tryz.underlying5 (hval 1 5 v1 rfl rfl) h1
  have z0 : a0.size ≤ 140737488351232 := sized_string hsz (j := 0) (t := 9) rfl rfl
  clear hA0 hval0 hsz0
  refine (enonly_walk a0 a1 W hg w1).mono fun e W' ⟨he, bel⟩ => ?_
  subst he
  exact ⟨_, rfl, _, _, _, [], _, [], hW', trodAll_mk1 (shut_bool Tryz.underlying4 _), (trodAll_cons_mk (shut_string Tryz.underlying9 w0) (trodAll_cons_mk (shut_int Tryz.underlying5 w1) trodAll_mk0)), rfl, bel.frame _, fun h => by cases h⟩

theorem said : Rows.EntryOnlySaid :=
  OpenClaim.holds_of_cond 6 Tryz.f6 rfl rfl rfl rfl rfl rfl rfl ⟨rfl, rfl, rfl, rfl, rfl⟩ rfl rfl rfl rfl rfl (by kernel_rfl) Tryz.func6 (by kernel_rfl)
    (of_decide_eq_true (by kernel_rfl)) (by unfold Func.isWrapper; first | (rw [if_pos (by decide +kernel)]; kernel_rfl) | (rw [if_neg (by decide +kernel)]; exact ⟨rfl, rfl⟩))
    (fun os started H enc _ F => by rw [OpenClaim.pre_eq_preRow]; exact lifted os started H enc F)

theorem plain (f : FuncId) (fn : Func) (hf : Tryz.pinned.checked.prog.funcNamed "roving/rovinglaw07.EntryOnly" = some f) (hfn : Tryz.pinned.checked.prog.funcs[f]? = some fn) :
    true = Tryz.pinned.checked.prog.looks [] ∧ ∀ (j : Nat) t, fn.params[j]? = some t → Tryz.pinned.checked.prog.wantsStandIn t = false := by
  obtain rfl : f = 6 := Option.some.inj ((show Tryz.prog.funcNamed "roving/rovinglaw07.EntryOnly" = some 6 by kernel_rfl).symm.trans hf) |>.symm
  obtain rfl : fn = Tryz.f6 := (Option.some.inj (Tryz.func6.symm.trans hfn)).symm
  refine ⟨by kernel_rfl, fun j t ht => ?_⟩
  rw [Tryz.params6] at ht
  have hm : t = 9 ∨ t = 5 := by simpa using Array.mem_of_getElem? ht
  rcases hm with rfl | rfl <;> exact (show Tryz.prog.wantsStandIn _ = false by kernel_rfl)

/-- THE CARD. -/
theorem card : Rows.EntryOnlyCardSaid :=
  Claim7.holds_tied_plain_at .later [] _ _ _ _ said (fun _ h => by cases h) (by kernel_rfl) (fun _ h => by cases h) entryOnly_row_tie rfl ⟨rfl, rfl⟩ (by kernel_rfl) rfl plain (by kernel_rfl)
end Go.Proofs.YtckdecodpjfcnaaGreatDoor.entryOnly
