/-
  Layer 6, reading: record.Take.
-/
import Derived.Test.YtckdecodpjfcnaaGreatDoorGrp18
import Derived.Test.YtckdecodpjfcnaaGreatDoorGrp04
import Derived.Test.YtckdecodpjfcnaaGreatDoorGrp08
import Derived.Deep.LoopGhost
import Derived.Deep.DeepCutAuto
import Derived.Deep.CutBlock
import Derived.Deep.RegionLaw
import Derived.Outline
set_option linter.unusedVariables false
set_option linter.unusedSimpArgs false
namespace Go.Proofs.YtckdecodpjfcnaaGreatDoor
open Go.RowKit
attribute [local go_sem ↓] Go.wp_at_zero Go.wp_at_succ

theorem infoR : (Tryz.prog.info? 60).map (fun i => (i.zero, i.size, i.bytes)) = some (some (.agg #[.string ByteArray.empty, .string ByteArray.empty]), 2, 32) := by kernel_rfl
theorem reads_newR2 (w : World) (t : TypeId) (p : Rec) (g : Nat) (hg : w.heap.size = g) : Reads (w.alloc (.cells #[.string p.1, .string p.2] t)) (g + 1) 2 (some ⟨g, 0, none⟩) 1 (cellsR [p]) := by
  subst hg
  refine ⟨by rw [length_cellsR]; rfl, fun _ => ⟨_, rfl, Nat.lt_succ_self _, fun j u hu => ?_⟩⟩
  rw [add_none, Nat.zero_add]
  rw [(Blk.new w t _).cell j]
  have e : cellsR [p] = (#[.string p.1, .string p.2] : Array Value).toList := by rw [cellsR_cons]; rfl
  rw [e] at hu
  simpa using hu
def TkPost (g : Nat) (s : ByteArray) (z : Bat × Nat × Bool) (w : World) (e : Ending) (w' : World) : Prop :=
  ∃ A5 c5, e = .returned (.agg #[.int .i64 z.1.pid, .int .i64 z.1.ep, .int .i64 z.1.seq, .bool z.1.txn, .slice A5 z.1.rs.length c5]) ∧ w'.ownsRow w.heap.size 60 2 (.slice A5 z.1.rs.length c5) z.1.rs.length (cellsR z.1.rs) ∧ z.1.rs.length ≤ c5 ∧ RdB w' g s z.2.1 z.2.2 ∧ Only (fun x => x = g) w w'
abbrev bt0 : Array Value := #[.int .i64 0, .int .i64 0, .int .i64 0, .bool false, .slice none 0 0]
/-- Behind k records. -/
def TkSt (w : World) (g bb : Nat) (s : ByteArray) (pid ep sq : Int) (t : Bool) (i5 : Nat) (b5 : Bool) (k : Nat) (W : World) : Prop :=
  ∃ (i : Nat) (b : Bool) (rs : List Rec) (v : Value), rdRep rdRec k (lb s) i5 b5 = (rs, i, b) ∧ TkW w g bb s 25 bt0 i b #[.int .i64 pid, .int .i64 ep, .int .i64 sq, .bool t, v] W ∧ W.ownsRow (bb + 1) 60 2 v k (cellsR rs) ∧ rs.length = k

set_option maxRecDepth 100000 in
set_option maxHeartbeats 4000000 in
theorem Take_any (g : Nat) (s : ByteArray) (i : Nat) (bad : Bool) (w : World) (h : RdOk w.heap.size w g s i bad) :
    Calls Tryz.prog 99 #[.pointer (some ⟨g, 0, none⟩)] w (TkPost g s (rdBat (lb s) i bad) w) := by
  obtain ⟨i0, hi, hi0, hi1, hi2⟩ := info_parts infoR
  have hmf : ∀ (fn : Fn) (first cap : Array Value) (w : World), (Instr.makeFunc fn first cap).run Tryz.prog w = .ok (.func fn first cap) w := fun _ _ _ _ => rfl
  obtain ⟨v1, i1, b1, hz1⟩ : ∃ v i' b', rdNum (lb s) i bad 1 8 = (v, i', b') := ⟨_, _, _, rfl⟩
  obtain ⟨v2, i2, b2, hz2⟩ : ∃ v i' b', rdNum (lb s) i1 b1 0 100 = (v, i', b') := ⟨_, _, _, rfl⟩
  obtain ⟨v3, i3, b3, hz3⟩ : ∃ v i' b', rdNum (lb s) i2 b2 0 1048576 = (v, i', b') := ⟨_, _, _, rfl⟩
  obtain ⟨v4, i4, b4, hz4⟩ : ∃ v i' b', rdFlag (lb s) i3 b3 = (v, i', b') := ⟨_, _, _, rfl⟩
  obtain ⟨v5, i5, b5, hz5⟩ : ∃ v i' b', rdNum (lb s) i4 b4 1 4 = (v, i', b') := ⟨_, _, _, rfl⟩
  obtain ⟨m, hm, hm4⟩ : ∃ m : Nat, v5 = m ∧ m ≤ 4 := by
    rcases rdNum_rng hz5 with h | h
    · exact ⟨0, h, by omega⟩
    · exact ⟨v5.toNat, by omega, by omega⟩
  have hraw : rdBatRaw (lb s) i bad = (⟨v1, v2, v3, v4, (rdRep rdRec m (lb s) i5 b5).1⟩, (rdRep rdRec m (lb s) i5 b5).2) := by
    unfold rdBatRaw rdBind rdMap rdRecs
    simp only [hz1, hz2, hz3, hz4, hz5, hm, Int.toNat_natCast]
  subst hm
  have HZ1 := Lib.hid hz1
  have HZ2 := Lib.hid hz2
  have HZ3 := Lib.hid hz3
  have HZ4 := Lib.hid hz4
  have HZ5 := Lib.hid hz5
  have HRAW := Lib.hid hraw
  have hgB := h.2.2.2.2.1
  have K0 := Lib.hid (h.alloc (.cells bt0 25))
  have G0 := Lib.hid ((Goes.refl hgB).alloc (.cells bt0 25))
  have T0 := Lib.hid (blk_new w 25 bt0 rfl)
  have hne0 : ¬ w.heap.size = g := by omega
  clear h hz1 hz2 hz3 hz4 hz5 hraw
  go_enter Tryz.func99, Tryz.ntmps99
  go_wp2_with fail
  refine (RNum_z HZ1.out K0.out).mono ?_
  rintro e w1 ⟨rfl, k1, o1⟩
  have hs1 : w.heap.size < w1.heap.size := by have := o1.size; rw [World.size_alloc] at this; omega
  have t1 : TkW w g w1.heap.size s 25 bt0 i1 b1 #[.int .i64 v1, .int .i64 0, .int .i64 0, .bool false, .slice none 0 0] (w1.alloc (.cells #[.int .i64 v1, .int .i64 0, .int .i64 0, .bool false, .slice none 0 0] 25)) :=
    ⟨k1.alloc _, (G0.out.only o1).alloc _, (o1.blk T0.out hne0).alloc _, blk_new _ _ _ rfl, hs1⟩
  have T1 := Lib.hid t1
  clear k1 o1 t1
  go_wp2_with fail
  refine (RNum_z HZ2.out T1.out.1).mono ?_
  rintro e w2 ⟨rfl, k2, o2⟩
  have t2 := T1.out.next k2 o2
  have y0 := t2.2.2.2.1.cell 1
  have y1 := t2.2.2.2.1.frozen 1
  have T2 : Hid (TkW w g w1.heap.size s 25 bt0 i2 b2 #[.int .i64 v1, .int .i64 v2, .int .i64 0, .bool false, .slice none 0 0] _) := Lib.hid (t2.set 1 (.int .i64 v2))
  clear k2 o2 t2
  go_wp2_with fail
  refine (RNum_z HZ3.out T2.out.1).mono ?_
  rintro e w3 ⟨rfl, k3, o3⟩
  have t3 := T2.out.next k3 o3
  clear y0 y1
  have y0 := t3.2.2.2.1.cell 2
  have y1 := t3.2.2.2.1.frozen 2
  have T3 : Hid (TkW w g w1.heap.size s 25 bt0 i3 b3 #[.int .i64 v1, .int .i64 v2, .int .i64 v3, .bool false, .slice none 0 0] _) := Lib.hid (t3.set 2 (.int .i64 v3))
  clear k3 o3 t3
  go_wp2_with fail
  refine (RFlag_z HZ4.out T3.out.1).mono ?_
  rintro e w4 ⟨rfl, k4, o4⟩
  have t4 := T3.out.next k4 o4
  clear y0 y1
  have y0 := t4.2.2.2.1.cell 3
  have y1 := t4.2.2.2.1.frozen 3
  have T4 : Hid (TkW w g w1.heap.size s 25 bt0 i4 b4 #[.int .i64 v1, .int .i64 v2, .int .i64 v3, .bool v4, .slice none 0 0] _) := Lib.hid (t4.set 3 (.bool v4))
  clear k4 o4 t4
  go_wp2_with fail
  refine (RNum_z HZ5.out T4.out.1).mono ?_
  rintro e w5 ⟨rfl, k5, o5⟩
  have t5 := T4.out.next k5 o5
  clear y0 y1
  have S0 : Hid (TkSt w g w1.heap.size s v1 v2 v3 v4 i5 b5 0 w5) := Lib.hid ⟨i5, b5, [], _, rfl, t5, World.ownsRow_nil _ _ _ _, rfl⟩
  clear k5 o5 t5 K0 G0 T0 T1 T2 T3 T4
  go_wp2_with fail
  go_loopg [7, 28] m (fun mm key x wr => ∃ k : Nat, k ≤ m ∧ x = .int .i64 k ∧ mm = m - k ∧ TkSt w g w1.heap.size s v1 v2 v3 v4 i5 b5 k wr)
  case atStart => exact ⟨0, Nat.zero_le _, rfl, rfl, S0.out⟩
  case round =>
    clear S0
    obtain ⟨k, hk, rfl, hmm, i6, b6, rs, v, hrep, t6, ho, hl⟩ := hrel
    have HM := Lib.hid hmm
    have HREP := Lib.hid hrep
    have HL := Lib.hid hl
    have HO := Lib.hid ho
    have T6 := Lib.hid t6
    clear hmm hrep hl ho t6
    by_cases hlt : k < m
    · have d1 : decide ((k : Int) < (m : Int)) = true := by simp; omega
      obtain ⟨ka, ia, ba, hza⟩ : ∃ v i' b', rdTxt (lb s) i6 b6 16 = (v, i', b') := ⟨_, _, _, rfl⟩
      obtain ⟨kb, ib, bb, hzb⟩ : ∃ v i' b', rdTxt (lb s) ia ba 16 = (v, i', b') := ⟨_, _, _, rfl⟩
      have hnx : rdRep rdRec (k + 1) (lb s) i5 b5 = (rs ++ [(bs ka, bs kb)], ib, bb) := by
        rw [rdRep_snoc, HREP.out]
        simp only [rdRec, hza, hzb]
      have HZA := Lib.hid hza
      have HZB := Lib.hid hzb
      have HNX := Lib.hid hnx
      clear hza hzb hnx
      have hgB2 : g < w1.heap.size + 1 := by omega
      have hrow : ∀ x, v.ownBlock = some x → w.heap.size < x ∧ x ≠ w1.heap.size := fun x hx => by have := (HO.out.lt x hx).1; omega
      have HROW := Lib.hid hrow
      clear hrow
      go_wp2_with fail
      refine (RTxt_z HZA.out T6.out.1).mono ?_
      rintro e w6 ⟨rfl, k6, o6⟩
      have T7 := Lib.hid (T6.out.next k6 o6)
      have HO2 := Lib.hid (o6.own HO.out (fun x hx e => by omega))
      clear k6 o6
      go_wp2_with fail
      have y4 := (T7.out.drew).2.2.2.1.cell 4
      go_region_law
        (first
          | ((refine step_append_any _ (by rfl) (.tmp 33) (.tmp 38) 23 (by rfl) (w1.heap.size + 1) 60 i0 _ 2 32 Tryz.underlying23 hi hi0 hi1 hi2 rfl (by decide) v k _ (by rfl) (ho7.alloc _) _ _ 1 1 (cellsR [(bs ka, bs kb)]) (by rfl) (reads_newR2 _ _ (bs ka, bs kb) _ rfl) (cellsR_one _) (by unfold maxLen; omega) (by omega) (by have := t7.2.2.2.1.lt; simp; omega) ?_); intro v' w8 hown' hgrow hat'; obtain ⟨A8, c8, rfl, hc8⟩ := own_slice hown'; have t8 := (t7.alloc _).grown hgrow HROW.out; have z4 := t8.2.2.2.1.cell 4; have z5 := t8.2.2.2.1.frozen 4)
          | (go_simp; go_at_call 102; refine (RTxt_z HZB.out T7.out.drew.1).mono ?_; rintro e w7 ⟨rfl, k7, o7⟩; have t7 := T7.out.drew.next k7 o7; have ho7 := o7.own (HO2.out.drew) (fun x hx e => by omega); have y7 := t7.2.2.2.1.cell 4; have n7 : ∀ o, (w7.alloc o).cell? ⟨w1.heap.size, 4, none⟩ = some v := fun o => (t7.alloc o).2.2.2.1.cell 4))
      all_goals
        go_wp2_with fail
        go_roundg (gk - 1)
        case measure => have := HM.out; omega
        case rel => exact ⟨k + 1, by omega, by go_num, by have := HM.out; omega, ib, bb, rs ++ [(bs ka, bs kb)], _, HNX.out, t8.set 4 _, own_set (by rw [cellsR_append]; exact hown') (Nat.lt_succ_self _) _, by rw [List.length_append, HL.out]; rfl⟩
    · obtain rfl : k = m := by omega
      have d1 : decide ((k : Int) < (k : Int)) = false := by simp
      have hraw2 : rdBatRaw (lb s) i bad = (⟨v1, v2, v3, v4, rs⟩, i6, b6) := by rw [HRAW.out, HREP.out]
      obtain ⟨A6, c6, rfl, hc6⟩ := own_slice HO.out
      obtain rfl : k = rs.length := HL.out.symm
      have x2 := T6.out.1.1.cell 2
      cases b6 with
      | true =>
        have HR := Lib.hid (show rdBat (lb s) i bad = (Bat0, i6, true) by unfold rdBat; rw [hraw2]; rfl)
        clear hraw2
        go_wp2_with fail
        refine (RWrong_z T6.out.1).mono ?_
        rintro e w9 ⟨rfl, k9, o9⟩
        have t9 := T6.out.next k9 o9
        have u0 := t9.2.2.1.cell 0
        have u1 := t9.2.2.1.cell 1
        have u2 := t9.2.2.1.cell 2
        have u3 := t9.2.2.1.cell 3
        have u4 := t9.2.2.1.cell 4
        have z0 := t9.2.2.1.frozen 0
        have z1 := t9.2.2.1.frozen 1
        have z2 := t9.2.2.1.frozen 2
        have z3 := t9.2.2.1.frozen 3
        have z4 := t9.2.2.1.frozen 4
        have T9 := Lib.hid t9
        clear k9 o9 t9
        go_wp2_with fail
        refine bodyPost_ret (v := .agg #[.int .i64 0, .int .i64 0, .int .i64 0, .bool false, .slice none 0 0]) (by simp [results, Tryz.results99, go_sem, u0, u1, u2, u3, u4]) rfl ?_
        rw [HR.out]
        exact ⟨none, 0, rfl, World.ownsRow_nil _ _ _ _, Nat.le_refl _, ((((T9.out.1.set (Nat.le_refl _) _).set (Nat.le_refl _) _).set (Nat.le_refl _) _).set (Nat.le_refl _) _).set (Nat.le_refl _) _ |>.1, ((((T9.out.2.1.set (Nat.le_refl _) _).set (Nat.le_refl _) _).set (Nat.le_refl _) _).set (Nat.le_refl _) _).set (Nat.le_refl _) _ |>.1⟩
      | false =>
        have M1 : Hid (Calls Tryz.prog 36 #[.agg #[.int .i64 v1, .int .i64 v2, .int .i64 v3, .bool v4, .slice A6 rs.length c6]] wr fun e w' => e = .returned (.bool (mayBt ⟨v1, v2, v3, v4, rs⟩)) ∧ Below wr.heap.size wr w') := Lib.hid (RcMay_any ⟨v1, v2, v3, v4, rs⟩ A6 c6 wr (Reads.of_own HO.out))
        have x0 := T6.out.2.2.2.1.cell 0
        have x1 := T6.out.2.2.2.1.cell 1
        have x3 := T6.out.2.2.2.1.cell 2
        have x4 := T6.out.2.2.2.1.cell 3
        have x5 := T6.out.2.2.2.1.cell 4
        cases hmb : mayBt ⟨v1, v2, v3, v4, rs⟩ with
        | false =>
          rw [hmb] at M1
          have HR := Lib.hid (show rdBat (lb s) i bad = (Bat0, i6, true) by unfold rdBat; rw [hraw2]; simp only [hmb]; rfl)
          clear hraw2 hmb
          go_wp2_with fail
          refine M1.out.mono ?_
          rintro e w8 ⟨rfl, b8⟩
          have T8 := Lib.hid (T6.out.below b8)
          clear b8 x0 x1 x2 x3 x4 x5
          go_wp2_with fail
          refine (RWrong_z T8.out.1).mono ?_
          rintro e w9 ⟨rfl, k9, o9⟩
          have t9 := T8.out.next k9 o9
          have u0 := t9.2.2.1.cell 0
          have u1 := t9.2.2.1.cell 1
          have u2 := t9.2.2.1.cell 2
          have u3 := t9.2.2.1.cell 3
          have u4 := t9.2.2.1.cell 4
          have z0 := t9.2.2.1.frozen 0
          have z1 := t9.2.2.1.frozen 1
          have z2 := t9.2.2.1.frozen 2
          have z3 := t9.2.2.1.frozen 3
          have z4 := t9.2.2.1.frozen 4
          have T9 := Lib.hid t9
          clear k9 o9 t9
          go_wp2_with fail
          refine bodyPost_ret (v := .agg #[.int .i64 0, .int .i64 0, .int .i64 0, .bool false, .slice none 0 0]) (by simp [results, Tryz.results99, go_sem, u0, u1, u2, u3, u4]) rfl ?_
          rw [HR.out]
          exact ⟨none, 0, rfl, World.ownsRow_nil _ _ _ _, Nat.le_refl _, ((((T9.out.1.set (Nat.le_refl _) _).set (Nat.le_refl _) _).set (Nat.le_refl _) _).set (Nat.le_refl _) _).set (Nat.le_refl _) _ |>.1, ((((T9.out.2.1.set (Nat.le_refl _) _).set (Nat.le_refl _) _).set (Nat.le_refl _) _).set (Nat.le_refl _) _).set (Nat.le_refl _) _ |>.1⟩
        | true =>
          rw [hmb] at M1
          have HR := Lib.hid (show rdBat (lb s) i bad = (⟨v1, v2, v3, v4, rs⟩, i6, false) by unfold rdBat; rw [hraw2]; simp only [hmb]; rfl)
          clear hraw2 hmb
          go_wp2_with fail
          refine M1.out.mono ?_
          rintro e w8 ⟨rfl, b8⟩
          have t8 := T6.out.below b8
          have HO8 := Lib.hid (own_below HO.out b8)
          clear b8 x0 x1 x2 x3 x4 x5
          have x0 := t8.2.2.2.1.cell 0
          have x1 := t8.2.2.2.1.cell 1
          have x3 := t8.2.2.2.1.cell 2
          have x4 := t8.2.2.2.1.cell 3
          have x5 := t8.2.2.2.1.cell 4
          have u0 := t8.2.2.1.cell 0
          have u1 := t8.2.2.1.cell 1
          have u2 := t8.2.2.1.cell 2
          have u3 := t8.2.2.1.cell 3
          have u4 := t8.2.2.1.cell 4
          have z0 := t8.2.2.1.frozen 0
          have z1 := t8.2.2.1.frozen 1
          have z2 := t8.2.2.1.frozen 2
          have z3 := t8.2.2.1.frozen 3
          have z4 := t8.2.2.1.frozen 4
          have T8 := Lib.hid t8
          clear t8
          go_wp2_with fail
          refine bodyPost_ret (v := .agg #[.int .i64 v1, .int .i64 v2, .int .i64 v3, .bool v4, .slice A6 rs.length c6]) (by simp [results, Tryz.results99, go_sem, u0, u1, u2, u3, u4]) rfl ?_
          rw [HR.out]
          exact ⟨A6, c6, rfl, own_base (own_set (own_set (own_set (own_set (own_set HO8.out (by omega) _) (by omega) _) (by omega) _) (by omega) _) (by omega) _) (by omega), hc6, ((((T8.out.1.set (Nat.le_refl _) _).set (Nat.le_refl _) _).set (Nat.le_refl _) _).set (Nat.le_refl _) _).set (Nat.le_refl _) _ |>.1, ((((T8.out.2.1.set (Nat.le_refl _) _).set (Nat.le_refl _) _).set (Nat.le_refl _) _).set (Nat.le_refl _) _).set (Nat.le_refl _) _ |>.1⟩
end Go.Proofs.YtckdecodpjfcnaaGreatDoor
