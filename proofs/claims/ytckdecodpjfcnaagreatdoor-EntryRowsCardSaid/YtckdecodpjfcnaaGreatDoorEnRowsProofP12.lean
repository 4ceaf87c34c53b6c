/-
  Layer 7: how the fields of any kind are read.
  Layer 6, reading: record.Take.
  Layer 7: how the fields of a kind are read.
  Layer 7: how copies and states are read.
-/
import Derived.Test.YtckdecodpjfcnaaGreatDoorEnRowsProofP11
import Derived.Deep.LoopGhost
import Derived.Deep.DeepCutAuto
import Derived.Deep.CutBlock
import Derived.Deep.RegionLaw
import Derived.Outline
import Derived.Deep.RegionHeld3
import Derived.Deep.DrawnRows
import Derived.Laws.EntriesVeiled
set_option linter.unusedVariables false
set_option linter.unusedSimpArgs false
namespace Go.Proofs.YtckdecodpjfcnaaGreatDoor
open Go.RowKit
attribute [local go_sem ↓] Go.wp_at_zero Go.wp_at_succ

theorem infoR : (Tryz.prog.info? 60).map (fun i => (i.zero, i.size, i.bytes)) = some (some (.agg #[.string ByteArray.empty, .string ByteArray.empty]), 2, 32) := by kernel_rfl
theorem reads_newR2 (w : World) (t : TypeId) (p : Rec) (g : Nat) (hg : w.heap.size = g) : Reads (w.alloc (.cells #[.string p.1, .string p.2] t)) (g + 1) 2 (some ⟨g, 0, none⟩) 1 (cellsR [p]) := by
  subst hg
  refine ⟨by rw [length_cellsR]; rfl, fun _ => ⟨_, rfl, Nat.lt_succ_self _, fun j u hu => ?_⟩⟩
  rw [add_none, Nat.zero_add]
  rw [(Blk.new w t _).cell j]
  have e : cellsR [p] = (#[.string p.1, .string p.2] : Array Value).toList := by rw [cellsR_cons]; rfl
  rw [e] at hu
  simpa using hu
def TkPost (g : Nat) (s : ByteArray) (z : Bat × Nat × Bool) (w : World) (e : Ending) (w' : World) : Prop :=
  ∃ A5 c5, e = .returned (.agg #[.int .i64 z.1.pid, .int .i64 z.1.ep, .int .i64 z.1.seq, .bool z.1.txn, .slice A5 z.1.rs.length c5]) ∧ w'.ownsRow w.heap.size 60 2 (.slice A5 z.1.rs.length c5) z.1.rs.length (cellsR z.1.rs) ∧ z.1.rs.length ≤ c5 ∧ RdB w' g s z.2.1 z.2.2 ∧ Only (fun x => x = g) w w'
abbrev bt0 : Array Value := #[.int .i64 0, .int .i64 0, .int .i64 0, .bool false, .slice none 0 0]
/-- Behind k records. -/
def TkSt (w : World) (g bb : Nat) (s : ByteArray) (pid ep sq : Int) (t : Bool) (i5 : Nat) (b5 : Bool) (k : Nat) (W : World) : Prop :=
  ∃ (i : Nat) (b : Bool) (rs : List Rec) (v : Value), rdRep rdRec k (lb s) i5 b5 = (rs, i, b) ∧ TkW w g bb s 25 bt0 i b #[.int .i64 pid, .int .i64 ep, .int .i64 sq, .bool t, v] W ∧ W.ownsRow (bb + 1) 60 2 v k (cellsR rs) ∧ rs.length = k

set_option maxRecDepth 100000 in
set_option maxHeartbeats 4000000 in
theorem Take_any (g : Nat) (s : ByteArray) (i : Nat) (bad : Bool) (w : World) (h : RdOk w.heap.size w g s i bad) :
    Calls Tryz.prog 99 #[.pointer (some ⟨g, 0, none⟩)] w (TkPost g s (rdBat (lb s) i bad) w) := by
  obtain ⟨i0, hi, hi0, hi1, hi2⟩ := info_parts infoR
  have hmf : ∀ (fn : Fn) (first cap : Array Value) (w : World), (Instr.makeFunc fn first cap).run Tryz.prog w = .ok (.func fn first cap) w := fun _ _ _ _ => rfl
  obtain ⟨v1, i1, b1, hz1⟩ : ∃ v i' b', rdNum (lb s) i bad 1 8 = (v, i', b') := ⟨_, _, _, rfl⟩
  obtain ⟨v2, i2, b2, hz2⟩ : ∃ v i' b', rdNum (lb s) i1 b1 0 100 = (v, i', b') := ⟨_, _, _, rfl⟩
  obtain ⟨v3, i3, b3, hz3⟩ : ∃ v i' b', rdNum (lb s) i2 b2 0 1048576 = (v, i', b') := ⟨_, _, _, rfl⟩
  obtain ⟨v4, i4, b4, hz4⟩ : ∃ v i' b', rdFlag (lb s) i3 b3 = (v, i', b') := ⟨_, _, _, rfl⟩
  obtain ⟨v5, i5, b5, hz5⟩ : ∃ v i' b', rdNum (lb s) i4 b4 1 4 = (v, i', b') := ⟨_, _, _, rfl⟩
  obtain ⟨m, hm, hm4⟩ : ∃ m : Nat, v5 = m ∧ m ≤ 4 := by
    rcases rdNum_rng hz5 with h | h
    · exact ⟨0, h, by omega⟩
    · exact ⟨v5.toNat, by omega, by omega⟩
  have hraw : rdBatRaw (lb s) i bad = (⟨v1, v2, v3, v4, (rdRep rdRec m (lb s) i5 b5).1⟩, (rdRep rdRec m (lb s) i5 b5).2) := by
    unfold rdBatRaw rdBind rdMap rdRecs
    simp only [hz1, hz2, hz3, hz4, hz5, hm, Int.toNat_natCast]
  subst hm
  have HZ1 := Lib.hid hz1
  have HZ2 := Lib.hid hz2
  have HZ3 := Lib.hid hz3
  have HZ4 := Lib.hid hz4
  have HZ5 := Lib.hid hz5
  have HRAW := Lib.hid hraw
  have hgB := h.2.2.2.2.1
  have K0 := Lib.hid (h.alloc (.cells bt0 25))
  have G0 := Lib.hid ((Goes.refl hgB).alloc (.cells bt0 25))
  have T0 := Lib.hid (blk_new w 25 bt0 rfl)
  have hne0 : ¬ w.heap.size = g := by omega
  clear h hz1 hz2 hz3 hz4 hz5 hraw
  go_enter Tryz.func99, Tryz.ntmps99
  go_wp2_with fail
  refine (RNum_z HZ1.out K0.out).mono ?_
  rintro e w1 ⟨rfl, k1, o1⟩
  have hs1 : w.heap.size < w1.heap.size := by have := o1.size; rw [World.size_alloc] at this; omega
  have t1 : TkW w g w1.heap.size s 25 bt0 i1 b1 #[.int .i64 v1, .int .i64 0, .int .i64 0, .bool false, .slice none 0 0] (w1.alloc (.cells #[.int .i64 v1, .int .i64 0, .int .i64 0, .bool false, .slice none 0 0] 25)) :=
    ⟨k1.alloc _, (G0.out.only o1).alloc _, (o1.blk T0.out hne0).alloc _, blk_new _ _ _ rfl, hs1⟩
  have T1 := Lib.hid t1
  clear k1 o1 t1
  go_wp2_with fail
  refine (RNum_z HZ2.out T1.out.1).mono ?_
  rintro e w2 ⟨rfl, k2, o2⟩
  have t2 := T1.out.next k2 o2
  have y0 := t2.2.2.2.1.cell 1
  have y1 := t2.2.2.2.1.frozen 1
  have T2 : Hid (TkW w g w1.heap.size s 25 bt0 i2 b2 #[.int .i64 v1, .int .i64 v2, .int .i64 0, .bool false, .slice none 0 0] _) := Lib.hid (t2.set 1 (.int .i64 v2))
  clear k2 o2 t2
  go_wp2_with fail
  refine (RNum_z HZ3.out T2.out.1).mono ?_
  rintro e w3 ⟨rfl, k3, o3⟩
  have t3 := T2.out.next k3 o3
  clear y0 y1
  have y0 := t3.2.2.2.1.cell 2
  have y1 := t3.2.2.2.1.frozen 2
  have T3 : Hid (TkW w g w1.heap.size s 25 bt0 i3 b3 #[.int .i64 v1, .int .i64 v2, .int .i64 v3, .bool false, .slice none 0 0] _) := Lib.hid (t3.set 2 (.int .i64 v3))
  clear k3 o3 t3
  go_wp2_with fail
  refine (RFlag_z HZ4.out T3.out.1).mono ?_
  rintro e w4 ⟨rfl, k4, o4⟩
  have t4 := T3.out.next k4 o4
  clear y0 y1
  have y0 := t4.2.2.2.1.cell 3
  have y1 := t4.2.2.2.1.frozen 3
  have T4 : Hid (TkW w g w1.heap.size s 25 bt0 i4 b4 #[.int .i64 v1, .int .i64 v2, .int .i64 v3, .bool v4, .slice none 0 0] _) := Lib.hid (t4.set 3 (.bool v4))
  clear k4 o4 t4
  go_wp2_with fail
  refine (RNum_z HZ5.out T4.out.1).mono ?_
  rintro e w5 ⟨rfl, k5, o5⟩
  have t5 := T4.out.next k5 o5
  clear y0 y1
  have S0 : Hid (TkSt w g w1.heap.size s v1 v2 v3 v4 i5 b5 0 w5) := Lib.hid ⟨i5, b5, [], _, rfl, t5, World.ownsRow_nil _ _ _ _, rfl⟩
  clear k5 o5 t5 K0 G0 T0 T1 T2 T3 T4
  go_wp2_with fail
  go_loopg [7, 28] m (fun mm key x wr => ∃ k : Nat, k ≤ m ∧ x = .int .i64 k ∧ mm = m - k ∧ TkSt w g w1.heap.size s v1 v2 v3 v4 i5 b5 k wr)
  case atStart => exact ⟨0, Nat.zero_le _, rfl, rfl, S0.out⟩
  case round =>
    clear S0
    obtain ⟨k, hk, rfl, hmm, i6, b6, rs, v, hrep, t6, ho, hl⟩ := hrel
    have HM := Lib.hid hmm
    have HREP := Lib.hid hrep
    have HL := Lib.hid hl
    have HO := Lib.hid ho
    have T6 := Lib.hid t6
    clear hmm hrep hl ho t6
    by_cases hlt : k < m
    · have d1 : decide ((k : Int) < (m : Int)) = true := by simp; omega
      obtain ⟨ka, ia, ba, hza⟩ : ∃ v i' b', rdTxt (lb s) i6 b6 16 = (v, i', b') := ⟨_, _, _, rfl⟩
      obtain ⟨kb, ib, bb, hzb⟩ : ∃ v i' b', rdTxt (lb s) ia ba 16 = (v, i', b') := ⟨_, _, _, rfl⟩
      have hnx : rdRep rdRec (k + 1) (lb s) i5 b5 = (rs ++ [(bs ka, bs kb)], ib, bb) := by
        rw [rdRep_snoc, HREP.out]
        simp only [rdRec, hza, hzb]
      have HZA := Lib.hid hza
      have HZB := Lib.hid hzb
      have HNX := Lib.hid hnx
      clear hza hzb hnx
      have hgB2 : g < w1.heap.size + 1 := by omega
      have hrow : ∀ x, v.ownBlock = some x → w.heap.size < x ∧ x ≠ w1.heap.size := fun x hx => by have := (HO.out.lt x hx).1; omega
      have HROW := Lib.hid hrow
      clear hrow
      go_wp2_with fail
      refine (RTxt_z HZA.out T6.out.1).mono ?_
      rintro e w6 ⟨rfl, k6, o6⟩
      have T7 := Lib.hid (T6.out.next k6 o6)
      have HO2 := Lib.hid (o6.own HO.out (fun x hx e => by omega))
      clear k6 o6
      go_wp2_with fail
      have y4 := (T7.out.drew).2.2.2.1.cell 4
      go_region_law
        (first
          | ((refine step_append_any _ (by rfl) (.tmp 33) (.tmp 38) 23 (by rfl) (w1.heap.size + 1) 60 i0 _ 2 32 Tryz.underlying23 hi hi0 hi1 hi2 rfl (by decide) v k _ (by rfl) (ho7.alloc _) _ _ 1 1 (cellsR [(bs ka, bs kb)]) (by rfl) (reads_newR2 _ _ (bs ka, bs kb) _ rfl) (cellsR_one _) (by unfold maxLen; omega) (by omega) (by have := t7.2.2.2.1.lt; simp; omega) ?_); intro v' w8 hown' hgrow hat'; obtain ⟨A8, c8, rfl, hc8⟩ := own_slice hown'; have t8 := (t7.alloc _).grown hgrow HROW.out; have z4 := t8.2.2.2.1.cell 4; have z5 := t8.2.2.2.1.frozen 4)
          | (go_simp; go_at_call 102; refine (RTxt_z HZB.out T7.out.drew.1).mono ?_; rintro e w7 ⟨rfl, k7, o7⟩; have t7 := T7.out.drew.next k7 o7; have ho7 := o7.own (HO2.out.drew) (fun x hx e => by omega); have y7 := t7.2.2.2.1.cell 4; have n7 : ∀ o, (w7.alloc o).cell? ⟨w1.heap.size, 4, none⟩ = some v := fun o => (t7.alloc o).2.2.2.1.cell 4))
      all_goals
        go_wp2_with fail
        go_roundg (gk - 1)
        case measure => have := HM.out; omega
        case rel => exact ⟨k + 1, by omega, by go_num, by have := HM.out; omega, ib, bb, rs ++ [(bs ka, bs kb)], _, HNX.out, t8.set 4 _, own_set (by rw [cellsR_append]; exact hown') (Nat.lt_succ_self _) _, by rw [List.length_append, HL.out]; rfl⟩
    · obtain rfl : k = m := by omega
      have d1 : decide ((k : Int) < (k : Int)) = false := by simp
      have hraw2 : rdBatRaw (lb s) i bad = (⟨v1, v2, v3, v4, rs⟩, i6, b6) := by rw [HRAW.out, HREP.out]
      obtain ⟨A6, c6, rfl, hc6⟩ := own_slice HO.out
      obtain rfl : k = rs.length := HL.out.symm
      have x2 := T6.out.1.1.cell 2
      cases b6 with
      | true =>
        have HR := Lib.hid (show rdBat (lb s) i bad = (Bat0, i6, true) by unfold rdBat; rw [hraw2]; rfl)
        clear hraw2
        go_wp2_with fail
        refine (RWrong_z T6.out.1).mono ?_
        rintro e w9 ⟨rfl, k9, o9⟩
        have t9 := T6.out.next k9 o9
        have u0 := t9.2.2.1.cell 0
        have u1 := t9.2.2.1.cell 1
        have u2 := t9.2.2.1.cell 2
        have u3 := t9.2.2.1.cell 3
        have u4 := t9.2.2.1.cell 4
        have z0 := t9.2.2.1.frozen 0
        have z1 := t9.2.2.1.frozen 1
        have z2 := t9.2.2.1.frozen 2
        have z3 := t9.2.2.1.frozen 3
        have z4 := t9.2.2.1.frozen 4
        have T9 := Lib.hid t9
        clear k9 o9 t9
        go_wp2_with fail
        refine bodyPost_ret (v := .agg #[.int .i64 0, .int .i64 0, .int .i64 0, .bool false, .slice none 0 0]) (by simp [results, Tryz.results99, go_sem, u0, u1, u2, u3, u4]) rfl ?_
        rw [HR.out]
        exact ⟨none, 0, rfl, World.ownsRow_nil _ _ _ _, Nat.le_refl _, ((((T9.out.1.set (Nat.le_refl _) _).set (Nat.le_refl _) _).set (Nat.le_refl _) _).set (Nat.le_refl _) _).set (Nat.le_refl _) _ |>.1, ((((T9.out.2.1.set (Nat.le_refl _) _).set (Nat.le_refl _) _).set (Nat.le_refl _) _).set (Nat.le_refl _) _).set (Nat.le_refl _) _ |>.1⟩
      | false =>
        have M1 : Hid (Calls Tryz.prog 36 #[.agg #[.int .i64 v1, .int .i64 v2, .int .i64 v3, .bool v4, .slice A6 rs.length c6]] wr fun e w' => e = .returned (.bool (mayBt ⟨v1, v2, v3, v4, rs⟩)) ∧ Below wr.heap.size wr w') := Lib.hid (RcMay_any ⟨v1, v2, v3, v4, rs⟩ A6 c6 wr (Reads.of_own HO.out))
        have x0 := T6.out.2.2.2.1.cell 0
        have x1 := T6.out.2.2.2.1.cell 1
        have x3 := T6.out.2.2.2.1.cell 2
        have x4 := T6.out.2.2.2.1.cell 3
        have x5 := T6.out.2.2.2.1.cell 4
        cases hmb : mayBt ⟨v1, v2, v3, v4, rs⟩ with
        | false =>
          rw [hmb] at M1
          have HR := Lib.hid (show rdBat (lb s) i bad = (Bat0, i6, true) by unfold rdBat; rw [hraw2]; simp only [hmb]; rfl)
          clear hraw2 hmb
          go_wp2_with fail
          refine M1.out.mono ?_
          rintro e w8 ⟨rfl, b8⟩
          have T8 := Lib.hid (T6.out.below b8)
          clear b8 x0 x1 x2 x3 x4 x5
          go_wp2_with fail
          refine (RWrong_z T8.out.1).mono ?_
          rintro e w9 ⟨rfl, k9, o9⟩
          have t9 := T8.out.next k9 o9
          have u0 := t9.2.2.1.cell 0
          have u1 := t9.2.2.1.cell 1
          have u2 := t9.2.2.1.cell 2
          have u3 := t9.2.2.1.cell 3
          have u4 := t9.2.2.1.cell 4
          have z0 := t9.2.2.1.frozen 0
          have z1 := t9.2.2.1.frozen 1
          have z2 := t9.2.2.1.frozen 2
          have z3 := t9.2.2.1.frozen 3
          have z4 := t9.2.2.1.frozen 4
          have T9 := Lib.hid t9
          clear k9 o9 t9
          go_wp2_with fail
          refine bodyPost_ret (v := .agg #[.int .i64 0, .int .i64 0, .int .i64 0, .bool false, .slice none 0 0]) (by simp [results, Tryz.results99, go_sem, u0, u1, u2, u3, u4]) rfl ?_
          rw [HR.out]
          exact ⟨none, 0, rfl, World.ownsRow_nil _ _ _ _, Nat.le_refl _, ((((T9.out.1.set (Nat.le_refl _) _).set (Nat.le_refl _) _).set (Nat.le_refl _) _).set (Nat.le_refl _) _).set (Nat.le_refl _) _ |>.1, ((((T9.out.2.1.set (Nat.le_refl _) _).set (Nat.le_refl _) _).set (Nat.le_refl _) _).set (Nat.le_refl _) _).set (Nat.le_refl _) _ |>.1⟩
        | true =>
          rw [hmb] at M1
          have HR := Lib.hid (show rdBat (lb s) i bad = (⟨v1, v2, v3, v4, rs⟩, i6, false) by unfold rdBat; rw [hraw2]; simp only [hmb]; rfl)
          clear hraw2 hmb
          go_wp2_with fail
          refine M1.out.mono ?_
          rintro e w8 ⟨rfl, b8⟩
          have t8 := T6.out.below b8
          have HO8 := Lib.hid (own_below HO.out b8)
          clear b8 x0 x1 x2 x3 x4 x5
          have x0 := t8.2.2.2.1.cell 0
          have x1 := t8.2.2.2.1.cell 1
          have x3 := t8.2.2.2.1.cell 2
          have x4 := t8.2.2.2.1.cell 3
          have x5 := t8.2.2.2.1.cell 4
          have u0 := t8.2.2.1.cell 0
          have u1 := t8.2.2.1.cell 1
          have u2 := t8.2.2.1.cell 2
          have u3 := t8.2.2.1.cell 3
          have u4 := t8.2.2.1.cell 4
          have z0 := t8.2.2.1.frozen 0
          have z1 := t8.2.2.1.frozen 1
          have z2 := t8.2.2.1.frozen 2
          have z3 := t8.2.2.1.frozen 3
          have z4 := t8.2.2.1.frozen 4
          have T8 := Lib.hid t8
          clear t8
          go_wp2_with fail
          refine bodyPost_ret (v := .agg #[.int .i64 v1, .int .i64 v2, .int .i64 v3, .bool v4, .slice A6 rs.length c6]) (by simp [results, Tryz.results99, go_sem, u0, u1, u2, u3, u4]) rfl ?_
          rw [HR.out]
          exact ⟨A6, c6, rfl, own_base (own_set (own_set (own_set (own_set (own_set HO8.out (by omega) _) (by omega) _) (by omega) _) (by omega) _) (by omega) _) (by omega), hc6, ((((T8.out.1.set (Nat.le_refl _) _).set (Nat.le_refl _) _).set (Nat.le_refl _) _).set (Nat.le_refl _) _).set (Nat.le_refl _) _ |>.1, ((((T8.out.2.1.set (Nat.le_refl _) _).set (Nat.le_refl _) _).set (Nat.le_refl _) _).set (Nat.le_refl _) _).set (Nat.le_refl _) _ |>.1⟩
end Go.Proofs.YtckdecodpjfcnaaGreatDoor
namespace Go.Proofs.YtckdecodpjfcnaaGreatDoor
open Go.RowKit
attribute [local go_sem ↓] Go.wp_at_zero Go.wp_at_succ

abbrev erC (gr : Nat) (x : En) (A5 D5 : Option Addr) (c5 e5 : Nat) : Array Value := #[.pointer (some ⟨gr, 0, none⟩), .int .i8 x.kd, .int .i64 x.b.pid, .int .i64 x.b.ep, .int .i64 x.b.seq, .bool x.b.txn, .slice A5 x.b.rs.length c5, .bool x.yes, .int .i64 x.nx, .int .i64 x.off, .int .i64 x.row.1, .int .i64 x.row.2.1, .int .i64 x.row.2.2.1, .string x.row.2.2.2.1, .string x.row.2.2.2.2, .int .i64 x.prod.pid, .int .i64 x.prod.ep, .int .i64 x.prod.nx, .slice D5 x.prod.seen.length e5]
/-- The reader as it is begun. -/
def ErS0 (B g gr : Nat) (s : ByteArray) (i : Nat) (b : Bool) (kd : Int) (W : World) : Prop :=
  Blk W g 89 (erC gr (baseEn kd) none none 0 0) ∧ RdOk B W gr s i b ∧ B ≤ g
/-- Reading: what is read so far; where the reader is. -/
def ErSt (B g gr : Nat) (s : ByteArray) (i : Nat) (b : Bool) (x : En) (W : World) : Prop :=
  ∃ A5 D5 c5 e5, Blk W g 89 (erC gr x A5 D5 c5 e5) ∧ RdOk B W gr s i b ∧ B ≤ g ∧ W.ownsRow (g + 1) 60 2 (.slice A5 x.b.rs.length c5) x.b.rs.length (cellsR x.b.rs) ∧ W.ownsRow (g + 1) 73 3 (.slice D5 x.prod.seen.length e5) x.prod.seen.length (cellsN x.prod.seen)
def ErOk (B g gr : Nat) (s : ByteArray) (i : Nat) (b : Bool) (x : En) (w : World) (e : Ending) (w' : World) : Prop :=
  e = .returned (.tuple #[]) ∧ ErSt B g gr s i b x w' ∧ Only (fun x => x = gr ∨ g ≤ x) w w'
theorem rdok_up {B : Nat} {W : World} {gr : Nat} {s : ByteArray} {i : Nat} {b : Bool} (h : RdOk B W gr s i b) : RdOk W.heap.size W gr s i b :=
  ⟨h.1, h.2.1, h.2.2.1, h.2.2.2.1, by have := h.2.2.2.2.1; have := h.2.2.2.2.2.2; omega, by have := h.2.2.2.2.2.1; have := h.2.2.2.2.2.2; omega, Nat.le_refl _⟩
section
variable {B g gr i j : Nat} {b b' : Bool} {s : ByteArray} {x : En} {kd : Int} {w w' W W' : World}
theorem ErS0.st (h : ErS0 B g gr s i b kd W) : ErSt B g gr s i b (baseEn kd) W := ⟨none, none, 0, 0, h.1, h.2.1, h.2.2, World.ownsRow_nil _ _ _ _, World.ownsRow_nil _ _ _ _⟩
theorem ErS0.next (h : ErS0 B g gr s i b kd W) (k : RdOk B W' gr s j b') (o : Only (fun x => x = gr) W W') : ErS0 B g gr s j b' kd W' := by
  have := h.2.1.2.2.2.2.1
  have := h.2.2
  exact ⟨o.blk h.1 (by omega), k, h.2.2⟩
theorem ErSt.next (h : ErSt B g gr s i b x W) (k : RdOk B W' gr s j b') (o : Only (fun x => x = gr) W W') : ErSt B g gr s j b' x W' := by
  obtain ⟨A5, D5, c5, e5, h1, h2, h3, h4, h5⟩ := h
  have := h2.2.2.2.2.1
  exact ⟨A5, D5, c5, e5, o.blk h1 (by omega), k, h3, o.own h4 (fun x hx e => by omega), o.own h5 (fun x hx e => by omega)⟩
theorem ErSt.put (h : ErSt B g gr s i b x W) (x' : En) (o : Nat) (v : Value) (hr : x'.b.rs = x.b.rs) (hs : x'.prod.seen = x.prod.seen) (hc : ∀ A5 D5 c5 e5, erC gr x' A5 D5 c5 e5 = (erC gr x A5 D5 c5 e5).setIfInBounds o v) : ErSt B g gr s i b x' (W.setCell ⟨g, o, none⟩ v) := by
  obtain ⟨A5, D5, c5, e5, h1, h2, h3, h4, h5⟩ := h
  refine ⟨A5, D5, c5, e5, ?_, h2.set h3 v, h3, ?_, ?_⟩
  · rw [hc]; exact h1.set_ o v
  · rw [hr]; exact own_set h4 (Nat.lt_succ_self _) v
  · rw [hs]; exact own_set h5 (Nat.lt_succ_self _) v
theorem only_ge (o : Only (fun x => x = gr) W W') : Only (fun x => x = gr ∨ g ≤ x) W W' := o.mono (fun _ _ h => .inl h)
end

set_option maxRecDepth 100000 in
set_option maxHeartbeats 1000000 in
theorem rwho_any (B g gr : Nat) (s : ByteArray) (i j j2 : Nat) (b b' b2 : Bool) (p q : Int) (kd : Int) (W : World) (h : ErS0 B g gr s i b kd W) (hz : rdNum (lb s) i b 1 8 = (p, j, b')) (hz2 : rdNum (lb s) j b' 0 100 = (q, j2, b2)) :
    Calls Tryz.prog 100 #[.pointer (some ⟨g, 0, none⟩)] W fun e W' => e = .returned (.tuple #[.int .i64 p, .int .i64 q]) ∧ ErS0 B g gr s j2 b2 kd W' ∧ Only (fun x => x = gr) W W' := by
  have H := Lib.hid h
  have N1 := Lib.hid (RNum_z hz h.2.1)
  have x0 : W.cell? ⟨g, 0, none⟩ = some (.pointer (some ⟨gr, 0, none⟩)) := h.1.cell 0
  have HZ2 := Lib.hid hz2
  clear h hz hz2
  go_enter Tryz.func100, Tryz.ntmps100
  go_wp2_with fail
  refine N1.out.mono ?_
  rintro e w1 ⟨rfl, r1, o1⟩
  have S1 := Lib.hid (H.out.next r1 o1)
  have O1 := Lib.hid o1
  have y0 : w1.cell? ⟨g, 0, none⟩ = some (.pointer (some ⟨gr, 0, none⟩)) := S1.out.1.cell 0
  have N2 := Lib.hid (RNum_z HZ2.out S1.out.2.1)
  clear r1 o1 x0
  go_wp2_with fail
  refine N2.out.mono ?_
  rintro e w2 ⟨rfl, r2, o2⟩
  have S2 := Lib.hid (S1.out.next r2 o2)
  have O2 := Lib.hid (O1.out.trans o2)
  clear r2 o2 y0
  go_wp2_with fail
  go_ret2
  exact ⟨rfl, S2.out, O2.out⟩
set_option maxRecDepth 100000 in
set_option maxHeartbeats 2000000 in
theorem ercut_any (B g gr : Nat) (s : ByteArray) (kd : Int) (i : Nat) (b : Bool) (W : World) (h : ErS0 B g gr s i b kd W) (j : Nat) (b' : Bool) (v : Int) (hz : rdNum (lb s) i b 0 1048576 = (v, j, b')) :
    Calls Tryz.prog 80 #[.pointer (some ⟨g, 0, none⟩)] W (ErOk B g gr s j b' { baseEn kd with off := v } W) := by
  have H := Lib.hid h.st
  have N1 := Lib.hid (RNum_z hz h.2.1)
  have x0 : W.cell? ⟨g, 0, none⟩ = some (.pointer (some ⟨gr, 0, none⟩)) := h.1.cell 0
  clear h hz
  go_enter Tryz.func80, Tryz.ntmps80
  go_wp2_with fail
  refine N1.out.mono ?_
  rintro e w1 ⟨rfl, r1, o1⟩
  have S1 := Lib.hid (H.out.next r1 o1)
  obtain ⟨A1, D1, c1, e1, k1, _⟩ := S1.out
  have y := k1.cell 9
  have z := k1.frozen 9
  have O1 := Lib.hid o1
  clear k1 r1 o1
  go_wp2_with fail
  go_end0
  exact ⟨rfl, S1.out.put { baseEn kd with off := v } 9 (.int .i64 v) rfl rfl (fun _ _ _ _ => rfl), (only_ge O1.out).set (.inl (.inr (Nat.le_refl _))) _⟩
set_option maxRecDepth 100000 in
set_option maxHeartbeats 2000000 in
theorem ermark_any (B g gr : Nat) (s : ByteArray) (kd : Int) (i : Nat) (b : Bool) (W : World) (h : ErS0 B g gr s i b kd W) (j j2 j3 : Nat) (b1 b2 b3 : Bool) (p q : Int) (t : Bool) (hz : rdNum (lb s) i b 1 8 = (p, j, b1)) (hz2 : rdNum (lb s) j b1 0 100 = (q, j2, b2)) (hz3 : rdFlag (lb s) j2 b2 = (t, j3, b3)) :
    Calls Tryz.prog 79 #[.pointer (some ⟨g, 0, none⟩)] W (ErOk B g gr s j3 b3 { baseEn kd with b := wh p q, yes := t } W) := by
  have WH := Lib.hid (rwho_any B g gr s i j j2 b b1 b2 p q kd W h hz hz2)
  have x0 : W.cell? ⟨g, 0, none⟩ = some (.pointer (some ⟨gr, 0, none⟩)) := h.1.cell 0
  have HZ3 := Lib.hid hz3
  clear h hz hz2 hz3
  go_enter Tryz.func79, Tryz.ntmps79
  go_wp2_with fail
  refine WH.out.mono ?_
  rintro e w1 ⟨rfl, s1, o1⟩
  have S1 := Lib.hid s1.st
  have O1 := Lib.hid o1
  have y2 := s1.1.cell 2
  have z2 := s1.1.frozen 2
  have y3 := s1.1.cell 3
  have z3 := s1.1.frozen 3
  clear s1 o1
  go_upto_region 1 with (fail)
  have S2 := Lib.hid ((S1.out.put { baseEn kd with b := wh p 0 } 2 (.int .i64 p) rfl rfl (fun _ _ _ _ => rfl)).put { baseEn kd with b := wh p q } 3 (.int .i64 q) rfl rfl (fun _ _ _ _ => rfl))
  have O2 := Lib.hid (((only_ge (g := g) O1.out).set (g := g) (o := 2) (.inl (.inr (Nat.le_refl _))) (.int .i64 p)).set (g := g) (o := 3) (.inl (.inr (Nat.le_refl _))) (.int .i64 q))
  clear y2 z2 y3 z3 x0
  generalize (w1.setCell ⟨g, 2, none⟩ (.int .i64 p)).setCell ⟨g, 3, none⟩ (.int .i64 q) = w2 at *
  obtain ⟨A2, D2, c2, e2, k2, r2, _⟩ := S2.out
  have x0 : w2.cell? ⟨g, 0, none⟩ = some (.pointer (some ⟨gr, 0, none⟩)) := k2.cell 0
  clear k2
  have N3 := Lib.hid (RFlag_z HZ3.out r2)
  clear r2
  go_wp2_with fail
  refine N3.out.mono ?_
  rintro e w3 ⟨rfl, r3, o3⟩
  have S3 := Lib.hid (S2.out.next r3 o3)
  have O3 := Lib.hid (O2.out.trans (only_ge o3))
  obtain ⟨A3, D3, c3, e3, k3, _⟩ := S3.out
  have y := k3.cell 7
  have z := k3.frozen 7
  clear k3 r3 o3
  go_wp2_with fail
  go_end0
  exact ⟨rfl, S3.out.put { baseEn kd with b := wh p q, yes := t } 7 (.bool t) rfl rfl (fun _ _ _ _ => rfl), O3.out.set (.inl (.inr (Nat.le_refl _))) _⟩
set_option maxRecDepth 100000 in
set_option maxHeartbeats 2000000 in
theorem erdrop_any (B g gr : Nat) (s : ByteArray) (kd : Int) (i : Nat) (b : Bool) (W : World) (h : ErS0 B g gr s i b kd W) (j j2 j3 : Nat) (b1 b2 b3 : Bool) (p q : Int) (n : Int) (hz : rdNum (lb s) i b 1 8 = (p, j, b1)) (hz2 : rdNum (lb s) j b1 0 100 = (q, j2, b2)) (hz3 : rdNum (lb s) j2 b2 0 1048576 = (n, j3, b3)) :
    Calls Tryz.prog 82 #[.pointer (some ⟨g, 0, none⟩)] W (ErOk B g gr s j3 b3 { baseEn kd with b := wh p q, nx := n } W) := by
  have WH := Lib.hid (rwho_any B g gr s i j j2 b b1 b2 p q kd W h hz hz2)
  have x0 : W.cell? ⟨g, 0, none⟩ = some (.pointer (some ⟨gr, 0, none⟩)) := h.1.cell 0
  have HZ3 := Lib.hid hz3
  clear h hz hz2 hz3
  go_enter Tryz.func82, Tryz.ntmps82
  go_wp2_with fail
  refine WH.out.mono ?_
  rintro e w1 ⟨rfl, s1, o1⟩
  have S1 := Lib.hid s1.st
  have O1 := Lib.hid o1
  have y2 := s1.1.cell 2
  have z2 := s1.1.frozen 2
  have y3 := s1.1.cell 3
  have z3 := s1.1.frozen 3
  clear s1 o1
  go_upto_region 1 with (fail)
  have S2 := Lib.hid ((S1.out.put { baseEn kd with b := wh p 0 } 2 (.int .i64 p) rfl rfl (fun _ _ _ _ => rfl)).put { baseEn kd with b := wh p q } 3 (.int .i64 q) rfl rfl (fun _ _ _ _ => rfl))
  have O2 := Lib.hid (((only_ge (g := g) O1.out).set (g := g) (o := 2) (.inl (.inr (Nat.le_refl _))) (.int .i64 p)).set (g := g) (o := 3) (.inl (.inr (Nat.le_refl _))) (.int .i64 q))
  clear y2 z2 y3 z3 x0
  generalize (w1.setCell ⟨g, 2, none⟩ (.int .i64 p)).setCell ⟨g, 3, none⟩ (.int .i64 q) = w2 at *
  obtain ⟨A2, D2, c2, e2, k2, r2, _⟩ := S2.out
  have x0 : w2.cell? ⟨g, 0, none⟩ = some (.pointer (some ⟨gr, 0, none⟩)) := k2.cell 0
  clear k2
  have N3 := Lib.hid (RNum_z HZ3.out r2)
  clear r2
  go_wp2_with fail
  refine N3.out.mono ?_
  rintro e w3 ⟨rfl, r3, o3⟩
  have S3 := Lib.hid (S2.out.next r3 o3)
  have O3 := Lib.hid (O2.out.trans (only_ge o3))
  obtain ⟨A3, D3, c3, e3, k3, _⟩ := S3.out
  have y := k3.cell 8
  have z := k3.frozen 8
  clear k3 r3 o3
  go_wp2_with fail
  go_end0
  exact ⟨rfl, S3.out.put { baseEn kd with b := wh p q, nx := n } 8 (.int .i64 n) rfl rfl (fun _ _ _ _ => rfl), O3.out.set (.inl (.inr (Nat.le_refl _))) _⟩
set_option maxRecDepth 100000 in
set_option maxHeartbeats 2000000 in
theorem errow_any (B g gr : Nat) (s : ByteArray) (kd : Int) (i : Nat) (b : Bool) (W : World) (h : ErS0 B g gr s i b kd W) (j1 j2 j3 j4 : Nat) (b1 b2 b3 b4 : Bool) (p q : Int) (k v : List UInt8) (hz1 : rdNum (lb s) i b 1 8 = (p, j1, b1)) (hz2 : rdNum (lb s) j1 b1 0 1048575 = (q, j2, b2)) (hz3 : rdTxt (lb s) j2 b2 16 = (k, j3, b3)) (hz4 : rdTxt (lb s) j3 b3 16 = (v, j4, b4)) :
    Calls Tryz.prog 83 #[.pointer (some ⟨g, 0, none⟩)] W (ErOk B g gr s j4 b4 { baseEn kd with row := (0, p, q, bs k, bs v) } W) := by
  have H := Lib.hid h.st
  have N1 := Lib.hid (RNum_z hz1 h.2.1)
  have x0 : W.cell? ⟨g, 0, none⟩ = some (.pointer (some ⟨gr, 0, none⟩)) := h.1.cell 0
  have HZ2 := Lib.hid hz2
  have HZ3 := Lib.hid hz3
  have HZ4 := Lib.hid hz4
  clear h hz1 hz2 hz3 hz4
  go_enter Tryz.func83, Tryz.ntmps83
  go_wp2_with fail
  refine N1.out.mono ?_
  rintro e w1 ⟨rfl, r1, o1⟩
  have T1 := Lib.hid (H.out.next r1 o1)
  have O1 := Lib.hid (only_ge (g := g) o1)
  obtain ⟨_, _, _, _, k1, _⟩ := T1.out
  have y := k1.cell 11
  have z := k1.frozen 11
  clear k1 r1 o1 x0
  go_upto_region 1 with (fail)
  have S1 := Lib.hid (T1.out.put { baseEn kd with row := (0, p, 0, ⟨#[]⟩, ⟨#[]⟩) } 11 (.int .i64 p) rfl rfl (fun _ _ _ _ => rfl))
  have P1 := Lib.hid (O1.out.set (g := g) (o := 11) (.inl (.inr (Nat.le_refl _))) (.int .i64 p))
  clear y z
  generalize w1.setCell ⟨g, 11, none⟩ (.int .i64 p) = v1 at *
  obtain ⟨_, _, _, _, k1, r1, _⟩ := S1.out
  have x0 : v1.cell? ⟨g, 0, none⟩ = some (.pointer (some ⟨gr, 0, none⟩)) := k1.cell 0
  have N2 := Lib.hid (RNum_z HZ2.out r1)
  clear k1 r1
  go_wp2_with fail
  refine N2.out.mono ?_
  rintro e w2 ⟨rfl, r2, o2⟩
  have T2 := Lib.hid (S1.out.next r2 o2)
  have O2 := Lib.hid (P1.out.trans (only_ge o2))
  obtain ⟨_, _, _, _, k2, _⟩ := T2.out
  have y := k2.cell 12
  have z := k2.frozen 12
  clear k2 r2 o2 x0
  go_upto_region 2 with (fail)
  have S2 := Lib.hid (T2.out.put { baseEn kd with row := (0, p, q, ⟨#[]⟩, ⟨#[]⟩) } 12 (.int .i64 q) rfl rfl (fun _ _ _ _ => rfl))
  have P2 := Lib.hid (O2.out.set (g := g) (o := 12) (.inl (.inr (Nat.le_refl _))) (.int .i64 q))
  clear y z
  generalize w2.setCell ⟨g, 12, none⟩ (.int .i64 q) = v2 at *
  obtain ⟨_, _, _, _, k2, r2, _⟩ := S2.out
  have x0 : v2.cell? ⟨g, 0, none⟩ = some (.pointer (some ⟨gr, 0, none⟩)) := k2.cell 0
  have N3 := Lib.hid (RTxt_z HZ3.out r2)
  clear k2 r2
  go_wp2_with fail
  refine N3.out.mono ?_
  rintro e w3 ⟨rfl, r3, o3⟩
  have T3 := Lib.hid (S2.out.next r3 o3)
  have O3 := Lib.hid (P2.out.trans (only_ge o3))
  obtain ⟨_, _, _, _, k3, _⟩ := T3.out
  have y := k3.cell 13
  have z := k3.frozen 13
  clear k3 r3 o3 x0
  go_upto_region 3 with (fail)
  have S3 := Lib.hid (T3.out.put { baseEn kd with row := (0, p, q, bs k, ⟨#[]⟩) } 13 (.string (bs k)) rfl rfl (fun _ _ _ _ => rfl))
  have P3 := Lib.hid (O3.out.set (g := g) (o := 13) (.inl (.inr (Nat.le_refl _))) (.string (bs k)))
  clear y z
  generalize w3.setCell ⟨g, 13, none⟩ (.string (bs k)) = v3 at *
  obtain ⟨_, _, _, _, k3, r3, _⟩ := S3.out
  have x0 : v3.cell? ⟨g, 0, none⟩ = some (.pointer (some ⟨gr, 0, none⟩)) := k3.cell 0
  have N4 := Lib.hid (RTxt_z HZ4.out r3)
  clear k3 r3
  go_wp2_with fail
  refine N4.out.mono ?_
  rintro e w4 ⟨rfl, r4, o4⟩
  have T4 := Lib.hid (S3.out.next r4 o4)
  have O4 := Lib.hid (P3.out.trans (only_ge o4))
  obtain ⟨_, _, _, _, k4, _⟩ := T4.out
  have y := k4.cell 14
  have z := k4.frozen 14
  clear k4 r4 o4 x0
  go_wp2_with fail
  go_end0
  exact ⟨rfl, T4.out.put { baseEn kd with row := (0, p, q, bs k, bs v) } 14 (.string (bs v)) rfl rfl (fun _ _ _ _ => rfl), O4.out.set (.inl (.inr (Nat.le_refl _))) _⟩
set_option maxRecDepth 100000 in
set_option maxHeartbeats 2000000 in
theorem erdata_any (B g gr : Nat) (s : ByteArray) (kd : Int) (i : Nat) (b : Bool) (W : World) (h : ErS0 B g gr s i b kd W) (bt : Bat) (j : Nat) (b' : Bool) (hz : rdBat (lb s) i b = (bt, j, b')) :
    Calls Tryz.prog 78 #[.pointer (some ⟨g, 0, none⟩)] W (ErOk B g gr s j b' { baseEn kd with b := bt } W) := by
  have H := Lib.hid h
  have hj : j ≤ s.size := by
    have := fol_bat.le (lb s) i b (by rw [length_lb]; exact h.2.1.2.1)
    rw [hz, length_lb] at this
    exact this
  have TK := Lib.hid (Take_any gr s i b W (rdok_up h.2.1))
  rw [hz] at TK
  have x0 : W.cell? ⟨g, 0, none⟩ = some (.pointer (some ⟨gr, 0, none⟩)) := h.1.cell 0
  clear h hz
  go_enter Tryz.func78, Tryz.ntmps78
  go_wp2_with fail
  refine TK.out.mono ?_
  rintro e w1 ⟨A5, c5, rfl, ow, hc5, rb, o1⟩
  have k1 := o1.blk H.out.1 (by have := H.out.2.1.2.2.2.2.1; have := H.out.2.2; omega)
  have KH := Lib.hid k1
  have y2 := k1.cell 2
  have z2 := k1.frozen 2
  have y3 := k1.cell 3
  have z3 := k1.frozen 3
  have y4 := k1.cell 4
  have z4 := k1.frozen 4
  have y5 := k1.cell 5
  have z5 := k1.frozen 5
  have y6 := k1.cell 6
  have z6 := k1.frozen 6
  have OW := Lib.hid ow
  have RB := Lib.hid rb
  have O1 := Lib.hid o1
  clear k1 ow rb o1 hc5
  go_wp2_with fail
  go_end0
  have kk := ((((KH.out.set_ 2 (.int .i64 bt.pid)).set_ 3 (.int .i64 bt.ep)).set_ 4 (.int .i64 bt.seq)).set_ 5 (.bool bt.txn)).set_ 6 (.slice A5 bt.rs.length c5)
  simp only [List.setIfInBounds_toArray, List.set_cons_zero, List.set_cons_succ] at kk
  have hB := H.out.2.2
  have rr := ((((((H.out.2.1.next RB.out O1.out hj).set hB (o := 2) (.int .i64 bt.pid)).set hB (o := 3) (.int .i64 bt.ep)).set hB (o := 4) (.int .i64 bt.seq)).set hB (o := 5) (.bool bt.txn)).set hB (o := 6) (.slice A5 bt.rs.length c5))
  have hgl : g + 1 ≤ W.heap.size := H.out.1.lt
  have oo := own_set (own_set (own_set (own_set (own_set (own_base OW.out hgl) (Nat.lt_succ_self g) (o := 2) (.int .i64 bt.pid)) (Nat.lt_succ_self g) (o := 3) (.int .i64 bt.ep)) (Nat.lt_succ_self g) (o := 4) (.int .i64 bt.seq)) (Nat.lt_succ_self g) (o := 5) (.bool bt.txn)) (Nat.lt_succ_self g) (o := 6) (.slice A5 bt.rs.length c5)
  have ol := (((((only_ge (g := g) O1.out).set (g := g) (o := 2) (.inl (.inr (Nat.le_refl _))) (.int .i64 bt.pid)).set (g := g) (o := 3) (.inl (.inr (Nat.le_refl _))) (.int .i64 bt.ep)).set (g := g) (o := 4) (.inl (.inr (Nat.le_refl _))) (.int .i64 bt.seq)).set (g := g) (o := 5) (.inl (.inr (Nat.le_refl _))) (.bool bt.txn)).set (g := g) (o := 6) (.inl (.inr (Nat.le_refl _))) (.slice A5 bt.rs.length c5)
  exact ⟨rfl, ⟨A5, none, c5, 0, kk, rr, hB, oo, World.ownsRow_nil _ _ _ _⟩, ol⟩
end Go.Proofs.YtckdecodpjfcnaaGreatDoor
namespace Go.Proofs.YtckdecodpjfcnaaGreatDoor
open Go.RowKit
attribute [local go_sem ↓] Go.wp_at_zero Go.wp_at_succ

set_option maxRecDepth 100000 in
set_option maxHeartbeats 2000000 in
theorem ercopied_any (B g gr : Nat) (s : ByteArray) (kd : Int) (i : Nat) (b : Bool) (W : World) (h : ErS0 B g gr s i b kd W) (bt : Bat) (j j2 j3 : Nat) (b1 b2 b3 : Bool) (t : Bool) (n : Int) (hz : rdBat (lb s) i b = (bt, j, b1)) (hz2 : rdFlag (lb s) j b1 = (t, j2, b2)) (hz3 : rdIf t (lb s) j2 b2 = (n, j3, b3)) :
    Calls Tryz.prog 81 #[.pointer (some ⟨g, 0, none⟩)] W (ErOk B g gr s j3 b3 { baseEn kd with b := bt, yes := t, nx := n } W) := by
  have DT := Lib.hid (erdata_any B g gr s kd i b W h bt j b1 hz)
  have HZ2 := Lib.hid hz2
  have HZ3 := Lib.hid hz3
  clear h hz hz2 hz3
  go_enter Tryz.func81, Tryz.ntmps81
  go_wp2_with fail
  refine DT.out.mono ?_
  rintro e w1 ⟨rfl, s1, o1⟩
  have S1 := Lib.hid s1
  have O1 := Lib.hid o1
  obtain ⟨_, _, _, _, k1, r1, _⟩ := s1
  have x0 : w1.cell? ⟨g, 0, none⟩ = some (.pointer (some ⟨gr, 0, none⟩)) := k1.cell 0
  have N1 := Lib.hid (RFlag_z HZ2.out r1)
  clear k1 r1 o1
  go_wp2_with fail
  refine N1.out.mono ?_
  rintro e w2 ⟨rfl, r2, o2⟩
  have T2 := Lib.hid (S1.out.next r2 o2)
  have O2 := Lib.hid (O1.out.trans (only_ge o2))
  obtain ⟨_, _, _, _, k2, _⟩ := T2.out
  have y := k2.cell 7
  have z := k2.frozen 7
  clear k2 r2 o2 x0
  go_upto_region 2 with (fail)
  have S2 := Lib.hid (T2.out.put { baseEn kd with b := bt, yes := t } 7 (.bool t) rfl rfl (fun _ _ _ _ => rfl))
  have P2 := Lib.hid (O2.out.set (g := g) (o := 7) (.inl (.inr (Nat.le_refl _))) (.bool t))
  clear y z
  generalize w2.setCell ⟨g, 7, none⟩ (.bool t) = v2 at *
  obtain ⟨_, _, _, _, k3, r3, _⟩ := S2.out
  have x0 : v2.cell? ⟨g, 0, none⟩ = some (.pointer (some ⟨gr, 0, none⟩)) := k3.cell 0
  have x7 : v2.cell? ⟨g, 7, none⟩ = some (.bool t) := k3.cell 7
  have R3 := Lib.hid r3
  clear k3 r3
  cases t
  · have hz : ((0 : Int), j2, b2) = (n, j3, b3) := HZ3.out
    injection hz with e1 e2
    injection e2 with e2 e3
    subst e1; subst e2; subst e3
    go_wp2_with fail
    go_end0
    exact ⟨rfl, S2.out, P2.out⟩
  · have hz : rdNum (lb s) j2 b2 0 1048576 = (n, j3, b3) := HZ3.out
    have N2 := Lib.hid (RNum_z hz R3.out)
    clear hz
    go_wp2_with fail
    refine N2.out.mono ?_
    rintro e w3 ⟨rfl, r4, o4⟩
    have T3 := Lib.hid (S2.out.next r4 o4)
    have O3 := Lib.hid (P2.out.trans (only_ge o4))
    obtain ⟨_, _, _, _, k4, _⟩ := T3.out
    have y := k4.cell 8
    have z := k4.frozen 8
    clear k4 r4 o4 x0 x7
    go_wp2_with fail
    go_end0
    exact ⟨rfl, T3.out.put { baseEn kd with b := bt, yes := true, nx := n } 8 (.int .i64 n) rfl rfl (fun _ _ _ _ => rfl), O3.out.set (.inl (.inr (Nat.le_refl _))) _⟩

theorem infoN : (Tryz.prog.info? 73).map (fun i => (i.zero, i.size, i.bytes)) = some (some (.agg #[.int .i64 0, .int .i64 0, .int .i64 0]), 3, 24) := by kernel_rfl
theorem reads_newN (w : World) (t : TypeId) (p : Sn) (g : Nat) (hg : w.heap.size = g) : Reads (w.alloc (.cells #[.int .i64 p.1, .int .i64 p.2.1, .int .i64 p.2.2] t)) (g + 1) 3 (some ⟨g, 0, none⟩) 1 (cellsN [p]) := by
  subst hg
  refine ⟨by rw [length_cellsN]; rfl, fun _ => ⟨_, rfl, Nat.lt_succ_self _, fun j u hu => ?_⟩⟩
  rw [add_none, Nat.zero_add]
  rw [(Blk.new w t _).cell j]
  have e : cellsN [p] = (#[.int .i64 p.1, .int .i64 p.2.1, .int .i64 p.2.2] : Array Value).toList := by rw [cellsN_cons]; rfl
  rw [e] at hu
  simpa using hu
theorem own_keepN {w w' : World} {base : Nat} {e : TypeId} {size n : Nat} {v : Value} {xs : List Value} (k : w.ownsRow base e size v n xs) (h : ∀ x, v.ownBlock = some x → w'.heap[x]? = w.heap[x]?) : w'.ownsRow base e size v n xs := by
  refine ⟨k.1, ?_⟩
  rcases k.2 with h0 | ⟨g, cap, cur, hv, hg, hh, hr⟩
  · exact .inl h0
  · exact .inr ⟨g, cap, cur, hv, hg, (h g (by rw [hv]; rfl)).trans hh, hr⟩
/-- A producer that is read. -/
def stEn (kd p q n : Int) (rs : List Sn) : En := { baseEn kd with prod := ⟨p, q, n, rs⟩ }
/-- Reading a producer. -/
def EsSt (B g gr : Nat) (s : ByteArray) (i : Nat) (b : Bool) (x : En) (W : World) : Prop :=
  ∃ D5 e5, Blk W g 89 (erC gr x none D5 0 e5) ∧ RdOk B W gr s i b ∧ B ≤ g ∧ W.ownsRow (g + 1) 73 3 (.slice D5 x.prod.seen.length e5) x.prod.seen.length (cellsN x.prod.seen)
/-- Reading what a producer was seen with: as above, and the block that is filled. -/
def EwSt (B g gr : Nat) (s : ByteArray) (i : Nat) (b : Bool) (x : En) (D5 : Option Addr) (e5 Y : Nat) (cs : Array Value) (w W : World) : Prop :=
  Blk W g 89 (erC gr x none D5 0 e5) ∧ RdOk B W gr s i b ∧ W.ownsRow (g + 1) 73 3 (.slice D5 x.prod.seen.length e5) x.prod.seen.length (cellsN x.prod.seen) ∧ Blk W Y 73 cs ∧ B ≤ g ∧ g < Y ∧ (∀ y, (Value.slice D5 x.prod.seen.length e5).ownBlock = some y → y < Y) ∧ Only (fun y => y = gr ∨ g ≤ y) w W
section
variable {B g gr i j e5 Y : Nat} {b b' : Bool} {s : ByteArray} {x : En} {D5 : Option Addr} {cs : Array Value} {w W W' : World}
theorem EsSt.next (h : EsSt B g gr s i b x W) (k : RdOk B W' gr s j b') (o : Only (fun x => x = gr) W W') : EsSt B g gr s j b' x W' := by
  obtain ⟨D5, e5, h1, h2, h3, h5⟩ := h
  have := h2.2.2.2.2.1
  exact ⟨D5, e5, o.blk h1 (by omega), k, h3, o.own h5 (fun x hx e => by omega)⟩
theorem EsSt.put (h : EsSt B g gr s i b x W) (x' : En) (o : Nat) (v : Value) (hs : x'.prod.seen = x.prod.seen) (hc : ∀ D5 e5, erC gr x' none D5 0 e5 = (erC gr x none D5 0 e5).setIfInBounds o v) : EsSt B g gr s i b x' (W.setCell ⟨g, o, none⟩ v) := by
  obtain ⟨D5, e5, h1, h2, h3, h5⟩ := h
  refine ⟨D5, e5, ?_, h2.set h3 v, h3, ?_⟩
  · rw [hc]; exact h1.set_ o v
  · rw [hs]; exact own_set h5 (Nat.lt_succ_self _) v
theorem EwSt.next (h : EwSt B g gr s i b x D5 e5 Y cs w W) (k : RdOk B W' gr s j b') (o : Only (fun x => x = gr) W W') : EwSt B g gr s j b' x D5 e5 Y cs w W' := by
  obtain ⟨h1, h2, h3, h4, h5, h6, h7, h8⟩ := h
  have := h2.2.2.2.2.1
  exact ⟨o.blk h1 (by omega), k, o.own h3 (fun x hx e => by omega), o.blk h4 (by omega), h5, h6, h7, h8.trans (only_ge o)⟩
theorem EwSt.put (h : EwSt B g gr s i b x D5 e5 Y cs w W) (o : Nat) (v : Value) : EwSt B g gr s i b x D5 e5 Y (cs.setIfInBounds o v) w (W.setCell ⟨Y, o, none⟩ v) := by
  obtain ⟨h1, h2, h3, h4, h5, h6, h7, h8⟩ := h
  refine ⟨h1.far (p := ⟨Y, o, none⟩) (by show g ≠ Y; omega) v, h2.set (by omega) v, own_keepN h3 (fun x hx => Below.heap_setCell W ⟨Y, o, none⟩ v x (by have := h7 x hx; show x ≠ Y; omega)), h4.set_ o v, h5, h6, h7, h8.set (.inl (.inr (by omega))) v⟩
end
set_option maxRecDepth 100000 in
set_option maxHeartbeats 4000000 in
theorem erstate_any (B g gr : Nat) (s : ByteArray) (kd : Int) (i : Nat) (b : Bool) (W : World) (h : ErS0 B g gr s i b kd W) (j1 j2 j3 j4 : Nat) (b1 b2 b3 b4 : Bool) (p q n m0 : Int)
    (hz1 : rdNum (lb s) i b 1 8 = (p, j1, b1)) (hz2 : rdNum (lb s) j1 b1 0 100 = (q, j2, b2)) (hz3 : rdNum (lb s) j2 b2 0 1048576 = (n, j3, b3)) (hz4 : rdNum (lb s) j3 b3 0 3 = (m0, j4, b4)) :
    Calls Tryz.prog 84 #[.pointer (some ⟨g, 0, none⟩)] W (ErOk B g gr s (rdRep (rdSn 1) m0.toNat (lb s) j4 b4).2.1 (rdRep (rdSn 1) m0.toNat (lb s) j4 b4).2.2 (stEn kd p q n (rdRep (rdSn 1) m0.toNat (lb s) j4 b4).1) W) := by
  obtain ⟨i0, hi, hi0, hi1, hi2⟩ := info_parts infoN
  have hn : 0 ≤ m0 ∧ m0 ≤ 3 := by rcases rdNum_rng hz4 with h | h <;> omega
  obtain ⟨m, rfl⟩ := Int.eq_ofNat_of_zero_le hn.1
  rw [Int.toNat_natCast]
  have WH := Lib.hid (rwho_any B g gr s i j1 j2 b b1 b2 p q kd W h hz1 hz2)
  have x0 : W.cell? ⟨g, 0, none⟩ = some (.pointer (some ⟨gr, 0, none⟩)) := h.1.cell 0
  have hgr : gr < B := h.2.1.2.2.2.2.1
  have h3 : B ≤ g := h.2.2
  have HZ3 := Lib.hid hz3
  have HZ4 := Lib.hid hz4
  clear h hz1 hz2 hz3 hz4
  go_enter Tryz.func84, Tryz.ntmps84
  go_wp2_with fail
  refine WH.out.mono ?_
  rintro e w1 ⟨rfl, s1, o1⟩
  have S1 := Lib.hid (show EsSt B g gr s j2 b2 (baseEn kd) w1 from ⟨none, 0, s1.1, s1.2.1, s1.2.2, World.ownsRow_nil _ _ _ _⟩)
  have O1 := Lib.hid o1
  have y2 := s1.1.cell 15
  have z2 := s1.1.frozen 15
  have y3 := s1.1.cell 16
  have z3 := s1.1.frozen 16
  clear s1 o1
  go_upto_region 2 with (fail)
  have S2 := Lib.hid ((S1.out.put (stEn kd p 0 0 []) 15 (.int .i64 p) rfl (fun _ _ => rfl)).put (stEn kd p q 0 []) 16 (.int .i64 q) rfl (fun _ _ => rfl))
  have O2 := Lib.hid (((only_ge (g := g) O1.out).set (g := g) (o := 15) (.inl (.inr (Nat.le_refl _))) (.int .i64 p)).set (g := g) (o := 16) (.inl (.inr (Nat.le_refl _))) (.int .i64 q))
  clear y2 z2 y3 z3 x0
  generalize (w1.setCell ⟨g, 15, none⟩ (.int .i64 p)).setCell ⟨g, 16, none⟩ (.int .i64 q) = w2 at *
  obtain ⟨D2, e2, k2, r2, _⟩ := S2.out
  have x0 : w2.cell? ⟨g, 0, none⟩ = some (.pointer (some ⟨gr, 0, none⟩)) := k2.cell 0
  have N3 := Lib.hid (RNum_z HZ3.out r2)
  clear k2 r2
  go_wp2_with fail
  refine N3.out.mono ?_
  rintro e w3 ⟨rfl, r3, o3⟩
  have T3 := Lib.hid (S2.out.next r3 o3)
  have O3 := Lib.hid (O2.out.trans (only_ge o3))
  obtain ⟨D3, e3, k3, _⟩ := T3.out
  have y := k3.cell 17
  have z := k3.frozen 17
  clear k3 r3 o3 x0
  go_upto_region 3 with (fail)
  have S3 := Lib.hid (T3.out.put (stEn kd p q n []) 17 (.int .i64 n) rfl (fun _ _ => rfl))
  have P3 := Lib.hid (O3.out.set (g := g) (o := 17) (.inl (.inr (Nat.le_refl _))) (.int .i64 n))
  clear y z
  generalize w3.setCell ⟨g, 17, none⟩ (.int .i64 n) = v3 at *
  obtain ⟨D4, e4, k4, r4, _⟩ := S3.out
  have x0 : v3.cell? ⟨g, 0, none⟩ = some (.pointer (some ⟨gr, 0, none⟩)) := k4.cell 0
  have N4 := Lib.hid (RNum_z HZ4.out r4)
  clear k4 r4
  go_wp2_with fail
  refine N4.out.mono ?_
  rintro e w4 ⟨rfl, r4, o4⟩
  have S4 := Lib.hid (S3.out.next r4 o4)
  have O4 := Lib.hid (P3.out.trans (only_ge o4))
  clear r4 o4 x0
  go_wp2_with fail
  go_loopg [32] m (fun mm x wr => ∃ k : Nat, k ≤ m ∧ x = .int .i64 k ∧ mm = m - k ∧ EsSt B g gr s (rdRep (rdSn 1) k (lb s) j4 b4).2.1 (rdRep (rdSn 1) k (lb s) j4 b4).2.2 (stEn kd p q n (rdRep (rdSn 1) k (lb s) j4 b4).1) wr ∧ Only (fun x => x = gr ∨ g ≤ x) W wr)
  case atStart => exact ⟨0, Nat.zero_le _, rfl, rfl, S4.out, O4.out⟩
  case round =>
    obtain ⟨k, hk, rfl, hmm, hst, how⟩ := hrel
    have HM := Lib.hid hmm
    have HST := Lib.hid hst
    have HOW := Lib.hid how
    clear hmm hst how
    by_cases hlt : k < m
    · have d1 : decide ((k : Int) < (m : Int)) = true := by simp; omega
      obtain ⟨rs, i6, b6, hrep⟩ : ∃ rs i6 b6, rdRep (rdSn 1) k (lb s) j4 b4 = (rs, i6, b6) := ⟨_, _, _, rfl⟩
      obtain ⟨v1, i7, b7, hza⟩ : ∃ v i' b', rdNum (lb s) i6 b6 0 1048576 = (v, i', b') := ⟨_, _, _, rfl⟩
      obtain ⟨v2, i8, b8, hzb⟩ : ∃ v i' b', rdNum (lb s) i7 b7 1 4 = (v, i', b') := ⟨_, _, _, rfl⟩
      obtain ⟨v3, i9, b9, hzc⟩ : ∃ v i' b', rdNum (lb s) i8 b8 0 1048577 = (v, i', b') := ⟨_, _, _, rfl⟩
      have hnx : rdRep (rdSn 1) (k + 1) (lb s) j4 b4 = (rs ++ [(v1, v2, v3 - 1)], i9, b9) := by
        rw [rdRep_snoc, hrep]
        have hzb' : rdNum (lb s) i7 b7 ((1 : Nat) : Int) 4 = (v2, i8, b8) := hzb
        simp only [rdSn, rdMap, rdBind, hza, hzb', hzc]
      have hrl : rs.length = k := by have := rdRep_len (rdSn 1) k (lb s) j4 b4; rw [hrep] at this; exact this
      have hst := HST.out
      rw [hrep] at hst
      have hv3 : 0 ≤ v3 ∧ v3 ≤ 1048577 := by rcases rdNum_rng hzc with h | h <;> omega
      have cw : IntKind.i64.wrap (v3 - 1) = v3 - 1 := IntWalk.i64_in _ (by omega)
      obtain ⟨D2, e2, k2, r2, _, own2⟩ := hst
      have x0 : wr.cell? ⟨g, 0, none⟩ = some (.pointer (some ⟨gr, 0, none⟩)) := k2.cell 0
      have hgl := k2.lt
      obtain ⟨X, hX⟩ : ∃ X : En, X = stEn kd p q n rs := ⟨_, rfl⟩
      have hXl : X.prod.seen = rs := by rw [hX]; rfl
      have K2 := Lib.hid (show Blk wr g 89 (erC gr X none D2 0 e2) by rw [hX]; exact k2)
      have OW2 := Lib.hid (show wr.ownsRow (g + 1) 73 3 (.slice D2 X.prod.seen.length e2) X.prod.seen.length (cellsN X.prod.seen) by rw [hX]; exact own2)
      have NA := Lib.hid (RNum_z hza r2)
      have HZB := Lib.hid hzb
      have HZC := Lib.hid hzc
      have HNX := Lib.hid hnx
      have HX := Lib.hid hX
      have HXL := Lib.hid hXl
      have HRL := Lib.hid hrl
      clear k2 r2 own2 hza hzb hzc hnx hX hXl hrep hrl
      go_wp2_with fail
      refine NA.out.mono ?_
      rintro e w5 ⟨rfl, r3, o3⟩
      have hs3 := o3.size
      obtain ⟨Y, hY⟩ : ∃ Y, w5.heap.size = Y := ⟨_, rfl⟩
      have T0 : EwSt B g gr s i7 b7 X D2 e2 Y #[.int .i64 v1, .int .i64 0, .int .i64 0] W (w5.alloc (.cells #[.int .i64 v1, .int .i64 0, .int .i64 0] 73)) :=
        ⟨(o3.blk K2.out (by omega)).alloc _, r3.alloc _, (o3.own OW2.out (fun x hx e => by omega)).alloc _, blk_new w5 _ _ hY, h3, by omega, fun x hx => by have := (OW2.out.lt x hx).2; omega, (HOW.out.trans (only_ge o3)).alloc _⟩
      have TT0 := Lib.hid T0
      have y0 := T0.1.cell 0
      have NB := Lib.hid (RNum_z HZB.out T0.2.1)
      have HYH := Lib.hid hY
      have hYl : ¬ g = Y := by omega
      clear r3 o3 T0 x0
      go_upto_region 6 with (fail)
      go_wp2_with fail
      refine NB.out.mono ?_
      rintro e w6 ⟨rfl, r, o⟩
      have ta := TT0.out.next r o
      have y := ta.2.2.2.1.cell 1
      have z := ta.2.2.2.1.frozen 1
      have y0' := ta.1.cell 0
      have T1 := Lib.hid (ta.put 1 (.int .i64 v2))
      have NC := Lib.hid (RNum_z HZC.out T1.out.2.1)
      clear r o ta y0
      have y0 := y0'
      clear y0'
      go_upto_region 7 with (fail)
      clear y z
      go_wp2_with fail
      refine NC.out.mono ?_
      rintro e w7 ⟨rfl, r, o⟩
      have ta := T1.out.next r o
      have y := ta.2.2.2.1.cell 2
      have z := ta.2.2.2.1.frozen 2
      have T4 := Lib.hid (ta.put 2 (.int .i64 (v3 - 1)))
      clear r o ta y0
      go_upto_region 8 with (fail)
      clear y z
      have hsim : ((#[.int .i64 v1, .int .i64 0, .int .i64 0] : Array Value).setIfInBounds 1 (.int .i64 v2)).setIfInBounds 2 (.int .i64 (v3 - 1)) = #[.int .i64 v1, .int .i64 v2, .int .i64 (v3 - 1)] := rfl
      have T5 := T4.out
      rw [hsim] at T5
      generalize (World.setCell w7 ⟨Y, 2, none⟩ (.int .i64 (v3 - 1))) = WR at *
      have TT := Lib.hid T5
      have kg := T5.1.drew
      have kY := T5.2.2.2.1.drew
      have c6 := kg.cell 18
      have c6p := T5.1.cell 18
      have n6 : ∀ o, (WR.drew.alloc o).cell? ⟨g, 18, none⟩ = some (.slice D2 X.prod.seen.length e2) := fun o => (kg.alloc o).cell 18
      have d0 := kY.cell 0
      have d1' := kY.cell 1
      have d2 := kY.cell 2
      have hwr : g < WR.heap.size := kg.lt
      have hpl : X.prod.seen.length ≤ 3 := by rw [HXL.out, HRL.out]; omega
      clear T5 kg kY hsim
      go_region_law ((refine step_append_any _ (by rfl) (.tmp 57) (.tmp 59) 28 (by rfl) (g + 1) 73 i0 _ 3 24 Tryz.underlying28 hi hi0 hi1 hi2 rfl (by decide) _ X.prod.seen.length _ (by rfl) ((TT.out.2.2.1.drew).alloc _) _ _ 1 1 (cellsN [(v1, v2, v3 - 1)]) (by rfl) (reads_newN WR.drew _ (v1, v2, v3 - 1) _ rfl) (cellsN_one _) (by unfold maxLen; omega) (by omega) (by simp; omega) ?_); intro v' w8 hown' hgrow hat'; obtain ⟨A8, c8, rfl, hc8⟩ := own_slice hown'; have k8 := (TT.out.1.drew.alloc _).grown hgrow (fun e => by have := (TT.out.2.2.1.lt _ e.symm).1; omega); have y8 := k8.cell 18; have z8 := k8.frozen 18)
      all_goals
        go_wp2_with fail
        go_roundg (gk - 1)
        case measure => have := HM.out; omega
        case rel =>
          refine ⟨k + 1, by omega, by go_num, by have := HM.out; omega, ?_, ?_⟩
          · rw [HNX.out]
            have hlen : X.prod.seen.length + 1 = (rs ++ [(v1, v2, v3 - 1)]).length := by rw [List.length_append, HXL.out]; rfl
            refine ⟨A8, c8, ?_, ((TT.out.2.1.drew.alloc _).grown hgrow (fun x hx => by have := (TT.out.2.2.1.lt _ hx).1; omega)).set h3 _, h3, ?_⟩
            · show Blk _ g _ (erC gr (stEn kd p q n (rs ++ [(v1, v2, v3 - 1)])) none A8 0 c8)
              have := k8.set_ 18 (.slice A8 (X.prod.seen.length + 1) c8)
              rw [hlen] at this ⊢
              rw [HX.out] at this
              exact this
            · show World.ownsRow _ (g + 1) _ 3 (.slice A8 (rs ++ [(v1, v2, v3 - 1)]).length c8) (rs ++ [(v1, v2, v3 - 1)]).length (cellsN (rs ++ [(v1, v2, v3 - 1)]))
              rw [hlen] at hown' ⊢
              rw [HXL.out] at hown'
              rw [cellsN_append]
              exact own_set hown' (Nat.lt_succ_self _) _
          · exact (((TT.out.2.2.2.2.2.2.2.drew).alloc _).grown hgrow (fun x hx _ => .inr (by have := (TT.out.2.2.1.lt _ hx).1; omega))).set (.inl (.inr (Nat.le_refl _))) _
    · obtain rfl : k = m := by omega
      have d1 : decide ((k : Int) < (k : Int)) = false := by simp
      go_wp2_with fail
      go_end0
      obtain ⟨D9, e9, k9, r9, h9, o9⟩ := HST.out
      exact ⟨rfl, ⟨none, D9, 0, e9, k9, r9, h9, World.ownsRow_nil _ _ _ _, o9⟩, HOW.out⟩
end Go.Proofs.YtckdecodpjfcnaaGreatDoor
namespace Go.Proofs.YtckdecodpjfcnaaGreatDoor
open Go.RowKit
theorem ereading_data (k : Int) (hk : k = 0) (w : World) : Calls Tryz.prog 50 #[.int .i8 k] w (WePost 78 w) := by
  have HB := Lib.hid (fun o => bal (Below.refl w.heap.size w) o)
  subst hk
  go_enter Tryz.func50, Tryz.ntmps50
  go_wp2_with fail
  go_ret
  exact ⟨rfl, HB.out _⟩
theorem ereading_mark (k : Int) (hk : k = 1) (w : World) : Calls Tryz.prog 50 #[.int .i8 k] w (WePost 79 w) := by
  have HB := Lib.hid (fun o => bal (Below.refl w.heap.size w) o)
  subst hk
  go_enter Tryz.func50, Tryz.ntmps50
  go_wp2_with fail
  go_ret
  exact ⟨rfl, HB.out _⟩
theorem ereading_cut (k : Int) (hk : k = 2) (w : World) : Calls Tryz.prog 50 #[.int .i8 k] w (WePost 80 w) := by
  have HB := Lib.hid (fun o => bal (Below.refl w.heap.size w) o)
  subst hk
  go_enter Tryz.func50, Tryz.ntmps50
  go_wp2_with fail
  go_ret
  exact ⟨rfl, HB.out _⟩
theorem ereading_copied (k : Int) (hk : k = 3) (w : World) : Calls Tryz.prog 50 #[.int .i8 k] w (WePost 81 w) := by
  have HB := Lib.hid (fun o => bal (Below.refl w.heap.size w) o)
  subst hk
  go_enter Tryz.func50, Tryz.ntmps50
  go_wp2_with fail
  go_ret
  exact ⟨rfl, HB.out _⟩
theorem ereading_drop (k : Int) (hk : k = 4) (w : World) : Calls Tryz.prog 50 #[.int .i8 k] w (WePost 82 w) := by
  have HB := Lib.hid (fun o => bal (Below.refl w.heap.size w) o)
  subst hk
  go_enter Tryz.func50, Tryz.ntmps50
  go_wp2_with fail
  go_ret
  exact ⟨rfl, HB.out _⟩
theorem ereading_row (k : Int) (hk : k = 5) (w : World) : Calls Tryz.prog 50 #[.int .i8 k] w (WePost 83 w) := by
  have HB := Lib.hid (fun o => bal (Below.refl w.heap.size w) o)
  subst hk
  go_enter Tryz.func50, Tryz.ntmps50
  go_wp2_with fail
  go_ret
  exact ⟨rfl, HB.out _⟩
theorem ereading_state (k : Int) (hk : k = 6) (w : World) : Calls Tryz.prog 50 #[.int .i8 k] w (WePost 84 w) := by
  have HB := Lib.hid (fun o => bal (Below.refl w.heap.size w) o)
  subst hk
  go_enter Tryz.func50, Tryz.ntmps50
  go_wp2_with fail
  go_ret
  exact ⟨rfl, HB.out _⟩
/-- What is read has few rows. -/
theorem rdE_len (z m : Nat) (kd : Int) (l : List UInt8) (i : Nat) (b : Bool) : ((rdE z m kd l i b).1).1.rs.length ≤ 4 ∧ ((rdE z m kd l i b).1).2.2.2.2.2.seen.length ≤ 3 := by
  have h6 : ∀ l i b, (rdPd z l i b).1.seen.length ≤ 3 := fun l i b => by
    simp only [rdPd, rdMap, rdBind]
    rw [rdRep_len]
    generalize (rdNum l (rdNum l i b (↑z) 8).2.1 (rdNum l i b (↑z) 8).2.2 0 100) = a
    generalize hn : rdNum l _ _ 0 3 = r
    obtain ⟨v, j, c⟩ := r
    have := rdNum_rng hn
    simp only
    omega
  unfold rdE
  repeat' split
  · exact ⟨rdBat_rs l i b, Nat.zero_le _⟩
  · exact ⟨Nat.zero_le _, Nat.zero_le _⟩
  · exact ⟨Nat.zero_le _, Nat.zero_le _⟩
  · exact ⟨rdBat_rs l i b, Nat.zero_le _⟩
  · exact ⟨Nat.zero_le _, Nat.zero_le _⟩
  · exact ⟨Nat.zero_le _, Nat.zero_le _⟩
  · exact ⟨Nat.zero_le _, h6 l i b⟩
  · exact ⟨Nat.zero_le _, Nat.zero_le _⟩
theorem erbody_data (B g gr : Nat) (s : ByteArray) (kd : Int) (hk : kd = 0) (i j : Nat) (b b' : Bool) (y : Eb) (W : World) (h : ErS0 B g gr s i b kd W) (hz : rdE 1 1048575 kd (lb s) i b = (y, j, b')) :
    Calls Tryz.prog 78 #[.pointer (some ⟨g, 0, none⟩)] W (ErOk B g gr s j b' (enOf kd y) W) := by
  subst hk
  obtain ⟨bt, j1, b1, h1⟩ : ∃ v j c, rdBat (lb s) i b = (v, j, c) := ⟨_, _, _, rfl⟩
  have hz' : (((bt, false, 0, 0, Rw0, Pd0) : Eb), j1, b1) = (y, j, b') := by rw [← hz]; show _ = rdE0 (lb s) i b; simp only [rdE0, rdMap, h1]
  injection hz' with e1 e2
  injection e2 with e2 e3
  subst e1; subst e2; subst e3
  exact erdata_any B g gr s 0 i b W h bt _ _ h1
theorem erbody_mark (B g gr : Nat) (s : ByteArray) (kd : Int) (hk : kd = 1) (i j : Nat) (b b' : Bool) (y : Eb) (W : World) (h : ErS0 B g gr s i b kd W) (hz : rdE 1 1048575 kd (lb s) i b = (y, j, b')) :
    Calls Tryz.prog 79 #[.pointer (some ⟨g, 0, none⟩)] W (ErOk B g gr s j b' (enOf kd y) W) := by
  subst hk
  obtain ⟨p, j1, b1, h1⟩ : ∃ v j c, rdNum (lb s) i b 1 8 = (v, j, c) := ⟨_, _, _, rfl⟩
  obtain ⟨q, j2, b2, h2⟩ : ∃ v j c, rdNum (lb s) j1 b1 0 100 = (v, j, c) := ⟨_, _, _, rfl⟩
  obtain ⟨t, j3, b3, h3⟩ : ∃ v j c, rdFlag (lb s) j2 b2 = (v, j, c) := ⟨_, _, _, rfl⟩
  have h1' : rdNum (lb s) i b ((1 : Nat) : Int) 8 = (p, j1, b1) := h1
  have hz' : (((wh p q, t, 0, 0, Rw0, Pd0) : Eb), j3, b3) = (y, j, b') := by rw [← hz]; show _ = rdE1 1 (lb s) i b; simp only [rdE1, rdMap, rdBind, h1', h2, h3]
  injection hz' with e1 e2
  injection e2 with e2 e3
  subst e1; subst e2; subst e3
  exact ermark_any B g gr s 1 i b W h _ _ _ _ _ _ p q t h1 h2 h3
theorem erbody_cut (B g gr : Nat) (s : ByteArray) (kd : Int) (hk : kd = 2) (i j : Nat) (b b' : Bool) (y : Eb) (W : World) (h : ErS0 B g gr s i b kd W) (hz : rdE 1 1048575 kd (lb s) i b = (y, j, b')) :
    Calls Tryz.prog 80 #[.pointer (some ⟨g, 0, none⟩)] W (ErOk B g gr s j b' (enOf kd y) W) := by
  subst hk
  obtain ⟨v, j1, b1, h1⟩ : ∃ v j c, rdNum (lb s) i b 0 1048576 = (v, j, c) := ⟨_, _, _, rfl⟩
  have hz' : (((Bat0, false, 0, v, Rw0, Pd0) : Eb), j1, b1) = (y, j, b') := by rw [← hz]; show _ = rdE2 (lb s) i b; simp only [rdE2, rdMap, h1]
  injection hz' with e1 e2
  injection e2 with e2 e3
  subst e1; subst e2; subst e3
  exact ercut_any B g gr s 2 i b W h _ _ v h1
theorem erbody_copied (B g gr : Nat) (s : ByteArray) (kd : Int) (hk : kd = 3) (i j : Nat) (b b' : Bool) (y : Eb) (W : World) (h : ErS0 B g gr s i b kd W) (hz : rdE 1 1048575 kd (lb s) i b = (y, j, b')) :
    Calls Tryz.prog 81 #[.pointer (some ⟨g, 0, none⟩)] W (ErOk B g gr s j b' (enOf kd y) W) := by
  subst hk
  obtain ⟨bt, j1, b1, h1⟩ : ∃ v j c, rdBat (lb s) i b = (v, j, c) := ⟨_, _, _, rfl⟩
  obtain ⟨t, j2, b2, h2⟩ : ∃ v j c, rdFlag (lb s) j1 b1 = (v, j, c) := ⟨_, _, _, rfl⟩
  obtain ⟨n, j3, b3, h3⟩ : ∃ v j c, rdIf t (lb s) j2 b2 = (v, j, c) := ⟨_, _, _, rfl⟩
  have hz' : (((bt, t, n, 0, Rw0, Pd0) : Eb), j3, b3) = (y, j, b') := by rw [← hz]; show _ = rdE3 (lb s) i b; simp only [rdE3, rdMap, rdBind, h1, h2, h3]
  injection hz' with e1 e2
  injection e2 with e2 e3
  subst e1; subst e2; subst e3
  exact ercopied_any B g gr s 3 i b W h bt _ _ _ _ _ _ t n h1 h2 h3
theorem erbody_drop (B g gr : Nat) (s : ByteArray) (kd : Int) (hk : kd = 4) (i j : Nat) (b b' : Bool) (y : Eb) (W : World) (h : ErS0 B g gr s i b kd W) (hz : rdE 1 1048575 kd (lb s) i b = (y, j, b')) :
    Calls Tryz.prog 82 #[.pointer (some ⟨g, 0, none⟩)] W (ErOk B g gr s j b' (enOf kd y) W) := by
  subst hk
  obtain ⟨p, j1, b1, h1⟩ : ∃ v j c, rdNum (lb s) i b 1 8 = (v, j, c) := ⟨_, _, _, rfl⟩
  obtain ⟨q, j2, b2, h2⟩ : ∃ v j c, rdNum (lb s) j1 b1 0 100 = (v, j, c) := ⟨_, _, _, rfl⟩
  obtain ⟨n, j3, b3, h3⟩ : ∃ v j c, rdNum (lb s) j2 b2 0 1048576 = (v, j, c) := ⟨_, _, _, rfl⟩
  have h1' : rdNum (lb s) i b ((1 : Nat) : Int) 8 = (p, j1, b1) := h1
  have hz' : (((wh p q, false, n, 0, Rw0, Pd0) : Eb), j3, b3) = (y, j, b') := by rw [← hz]; show _ = rdE4 1 (lb s) i b; simp only [rdE4, rdMap, rdBind, h1', h2, h3]
  injection hz' with e1 e2
  injection e2 with e2 e3
  subst e1; subst e2; subst e3
  exact erdrop_any B g gr s 4 i b W h _ _ _ _ _ _ p q n h1 h2 h3
theorem erbody_row (B g gr : Nat) (s : ByteArray) (kd : Int) (hk : kd = 5) (i j : Nat) (b b' : Bool) (y : Eb) (W : World) (h : ErS0 B g gr s i b kd W) (hz : rdE 1 1048575 kd (lb s) i b = (y, j, b')) :
    Calls Tryz.prog 83 #[.pointer (some ⟨g, 0, none⟩)] W (ErOk B g gr s j b' (enOf kd y) W) := by
  subst hk
  obtain ⟨p, j1, b1, h1⟩ : ∃ v j c, rdNum (lb s) i b 1 8 = (v, j, c) := ⟨_, _, _, rfl⟩
  obtain ⟨q, j2, b2, h2⟩ : ∃ v j c, rdNum (lb s) j1 b1 0 1048575 = (v, j, c) := ⟨_, _, _, rfl⟩
  obtain ⟨k, j3, b3, h3⟩ : ∃ v j c, rdTxt (lb s) j2 b2 16 = (v, j, c) := ⟨_, _, _, rfl⟩
  obtain ⟨v, j4, b4, h4⟩ : ∃ v j c, rdTxt (lb s) j3 b3 16 = (v, j, c) := ⟨_, _, _, rfl⟩
  have h1' : rdNum (lb s) i b ((1 : Nat) : Int) 8 = (p, j1, b1) := h1
  have h2' : rdNum (lb s) j1 b1 0 ((1048575 : Nat) : Int) = (q, j2, b2) := h2
  have hz' : (((Bat0, false, 0, 0, (0, p, q, bs k, bs v), Pd0) : Eb), j4, b4) = (y, j, b') := by rw [← hz]; show _ = rdE5 1 1048575 (lb s) i b; simp only [rdE5, rdMap, rdBind, h1', h2', h3, h4]
  injection hz' with e1 e2
  injection e2 with e2 e3
  subst e1; subst e2; subst e3
  exact errow_any B g gr s 5 i b W h _ _ _ _ _ _ _ _ p q k v h1 h2 h3 h4
theorem erbody_state (B g gr : Nat) (s : ByteArray) (kd : Int) (hk : kd = 6) (i j : Nat) (b b' : Bool) (y : Eb) (W : World) (h : ErS0 B g gr s i b kd W) (hz : rdE 1 1048575 kd (lb s) i b = (y, j, b')) :
    Calls Tryz.prog 84 #[.pointer (some ⟨g, 0, none⟩)] W (ErOk B g gr s j b' (enOf kd y) W) := by
  subst hk
  obtain ⟨p, j1, b1, h1⟩ : ∃ v j c, rdNum (lb s) i b 1 8 = (v, j, c) := ⟨_, _, _, rfl⟩
  obtain ⟨q, j2, b2, h2⟩ : ∃ v j c, rdNum (lb s) j1 b1 0 100 = (v, j, c) := ⟨_, _, _, rfl⟩
  obtain ⟨n, j3, b3, h3⟩ : ∃ v j c, rdNum (lb s) j2 b2 0 1048576 = (v, j, c) := ⟨_, _, _, rfl⟩
  obtain ⟨m0, j4, b4, h4⟩ : ∃ v j c, rdNum (lb s) j3 b3 0 3 = (v, j, c) := ⟨_, _, _, rfl⟩
  have h1' : rdNum (lb s) i b ((1 : Nat) : Int) 8 = (p, j1, b1) := h1
  have hz' : (((Bat0, false, 0, 0, Rw0, (⟨p, q, n, (rdRep (rdSn 1) m0.toNat (lb s) j4 b4).1⟩ : Pd)) : Eb), (rdRep (rdSn 1) m0.toNat (lb s) j4 b4).2.1, (rdRep (rdSn 1) m0.toNat (lb s) j4 b4).2.2) = (y, j, b') := by rw [← hz]; show _ = rdE6 1 (lb s) i b; simp only [rdE6, rdPd, rdMap, rdBind, h1', h2, h3, h4]
  injection hz' with e1 e2
  injection e2 with e2 e3
  subst e1; subst e2; subst e3
  exact erstate_any B g gr s 6 i b W h _ _ _ _ _ _ _ _ p q n m0 h1 h2 h3 h4
end Go.Proofs.YtckdecodpjfcnaaGreatDoor
