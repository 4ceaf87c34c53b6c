/-
  Layer 6: record.write's closures.
  Layer 6, reading: record.Take.
  errors.As and errors.Is at an error of type record.fault, which wraps its code.
-/
import Derived.Test.YtcockikekgmfkaaGreatDoorGrp12
import Derived.Test.YtcockikekgmfkaaGreatDoorGrp04
import Derived.Test.YtcockikekgmfkaaGreatDoorGrp13
import Derived.Deep.LoopGhost
import Derived.Deep.DeepCutAuto
import Derived.Deep.CutBlock
import Derived.Deep.RegionLaw
import Derived.Outline
import Derived.Test.YtcockikekgmfkaaGreatDoorGrp05
import Derived.Test.YtcockikekgmfkaaGreatDoorGrp07
namespace Go.Proofs.YtcockikekgmfkaaGreatDoor
open Go.RowKit
attribute [local go_sem ↓] Go.wp_at_zero Go.wp_at_succ

theorem infoR : (Tryz.prog.info? 41).map (fun i => (i.zero, i.size, i.bytes)) = some (some (.agg #[.string ByteArray.empty, .string ByteArray.empty]), 2, 32) := by kernel_rfl
theorem reads_newR2 (w : World) (t : TypeId) (p : Rec) (g : Nat) (hg : w.heap.size = g) : Reads (w.alloc (.cells #[.string p.1, .string p.2] t)) (g + 1) 2 (some ⟨g, 0, none⟩) 1 (cellsR [p]) := by
  subst hg
  refine ⟨by rw [length_cellsR]; rfl, fun _ => ⟨_, rfl, Nat.lt_succ_self _, fun j u hu => ?_⟩⟩
  rw [add_none, Nat.zero_add]
  rw [(Blk.new w t _).cell j]
  have e : cellsR [p] = (#[.string p.1, .string p.2] : Array Value).toList := by rw [cellsR_cons]; rfl
  rw [e] at hu
  simpa using hu
def TkPost (g : Nat) (s : ByteArray) (z : Bat × Nat × Bool) (w : World) (e : Ending) (w' : World) : Prop :=
  ∃ A5 c5, e = .returned (.agg #[.int .i64 z.1.pid, .int .i64 z.1.ep, .int .i64 z.1.seq, .bool z.1.txn, .slice A5 z.1.rs.length c5]) ∧ w'.ownsRow w.heap.size 41 2 (.slice A5 z.1.rs.length c5) z.1.rs.length (cellsR z.1.rs) ∧ z.1.rs.length ≤ c5 ∧ RdB w' g s z.2.1 z.2.2 ∧ Only (fun x => x = g) w w'
abbrev bt0 : Array Value := #[.int .i64 0, .int .i64 0, .int .i64 0, .bool false, .slice none 0 0]
/-- Behind k records. -/
def TkSt (w : World) (g bb : Nat) (s : ByteArray) (pid ep sq : Int) (t : Bool) (i5 : Nat) (b5 : Bool) (k : Nat) (W : World) : Prop :=
  ∃ (i : Nat) (b : Bool) (rs : List Rec) (v : Value), rdRep rdRec k (lb s) i5 b5 = (rs, i, b) ∧ TkW w g bb s 25 bt0 i b #[.int .i64 pid, .int .i64 ep, .int .i64 sq, .bool t, v] W ∧ W.ownsRow (bb + 1) 41 2 v k (cellsR rs) ∧ rs.length = k

set_option maxRecDepth 100000 in
set_option maxHeartbeats 4000000 in
theorem Take_any (g : Nat) (s : ByteArray) (i : Nat) (bad : Bool) (w : World) (h : RdOk w.heap.size w g s i bad) :
    Calls Tryz.prog 82 #[.pointer (some ⟨g, 0, none⟩)] w (TkPost g s (rdBat (lb s) i bad) w) := by
  obtain ⟨i0, hi, hi0, hi1, hi2⟩ := info_parts infoR
  have hmf : ∀ (fn : Fn) (first cap : Array Value) (w : World), (Instr.makeFunc fn first cap).run Tryz.prog w = .ok (.func fn first cap) w := fun _ _ _ _ => rfl
  obtain ⟨v1, i1, b1, hz1⟩ : ∃ v i' b', rdNum (lb s) i bad 1 8 = (v, i', b') := ⟨_, _, _, rfl⟩
  obtain ⟨v2, i2, b2, hz2⟩ : ∃ v i' b', rdNum (lb s) i1 b1 0 100 = (v, i', b') := ⟨_, _, _, rfl⟩
  obtain ⟨v3, i3, b3, hz3⟩ : ∃ v i' b', rdNum (lb s) i2 b2 0 1048576 = (v, i', b') := ⟨_, _, _, rfl⟩
  obtain ⟨v4, i4, b4, hz4⟩ : ∃ v i' b', rdFlag (lb s) i3 b3 = (v, i', b') := ⟨_, _, _, rfl⟩
  obtain ⟨v5, i5, b5, hz5⟩ : ∃ v i' b', rdNum (lb s) i4 b4 1 4 = (v, i', b') := ⟨_, _, _, rfl⟩
  obtain ⟨m, hm, hm4⟩ : ∃ m : Nat, v5 = m ∧ m ≤ 4 := by
    rcases rdNum_rng hz5 with h | h
    · exact ⟨0, h, by omega⟩
    · exact ⟨v5.toNat, by omega, by omega⟩
  have hraw : rdBatRaw (lb s) i bad = (⟨v1, v2, v3, v4, (rdRep rdRec m (lb s) i5 b5).1⟩, (rdRep rdRec m (lb s) i5 b5).2) := by
    unfold rdBatRaw rdBind rdMap rdRecs
    simp only [hz1, hz2, hz3, hz4, hz5, hm, Int.toNat_natCast]
  subst hm
  have HZ1 := Lib.hid hz1
  have HZ2 := Lib.hid hz2
  have HZ3 := Lib.hid hz3
  have HZ4 := Lib.hid hz4
  have HZ5 := Lib.hid hz5
  have HRAW := Lib.hid hraw
  have hgB := h.2.2.2.2.1
  have K0 := Lib.hid (h.alloc (.cells bt0 25))
  have G0 := Lib.hid ((Goes.refl hgB).alloc (.cells bt0 25))
  have T0 := Lib.hid (blk_new w 25 bt0 rfl)
  have hne0 : ¬ w.heap.size = g := by omega
  clear h hz1 hz2 hz3 hz4 hz5 hraw
  go_enter Tryz.func82, Tryz.ntmps82
  go_wp2_with fail
  refine (RNum_z HZ1.out K0.out).mono ?_
  rintro e w1 ⟨rfl, k1, o1⟩
  have hs1 : w.heap.size < w1.heap.size := by have := o1.size; rw [World.size_alloc] at this; omega
  have t1 : TkW w g w1.heap.size s 25 bt0 i1 b1 #[.int .i64 v1, .int .i64 0, .int .i64 0, .bool false, .slice none 0 0] (w1.alloc (.cells #[.int .i64 v1, .int .i64 0, .int .i64 0, .bool false, .slice none 0 0] 25)) :=
    ⟨k1.alloc _, (G0.out.only o1).alloc _, (o1.blk T0.out hne0).alloc _, blk_new _ _ _ rfl, hs1⟩
  have T1 := Lib.hid t1
  clear k1 o1 t1
  go_wp2_with fail
  refine (RNum_z HZ2.out T1.out.1).mono ?_
  rintro e w2 ⟨rfl, k2, o2⟩
  have t2 := T1.out.next k2 o2
  have y0 := t2.2.2.2.1.cell 1
  have y1 := t2.2.2.2.1.frozen 1
  have T2 : Hid (TkW w g w1.heap.size s 25 bt0 i2 b2 #[.int .i64 v1, .int .i64 v2, .int .i64 0, .bool false, .slice none 0 0] _) := Lib.hid (t2.set 1 (.int .i64 v2))
  clear k2 o2 t2
  go_wp2_with fail
  refine (RNum_z HZ3.out T2.out.1).mono ?_
  rintro e w3 ⟨rfl, k3, o3⟩
  have t3 := T2.out.next k3 o3
  clear y0 y1
  have y0 := t3.2.2.2.1.cell 2
  have y1 := t3.2.2.2.1.frozen 2
  have T3 : Hid (TkW w g w1.heap.size s 25 bt0 i3 b3 #[.int .i64 v1, .int .i64 v2, .int .i64 v3, .bool false, .slice none 0 0] _) := Lib.hid (t3.set 2 (.int .i64 v3))
  clear k3 o3 t3
  go_wp2_with fail
  refine (RFlag_z HZ4.out T3.out.1).mono ?_
  rintro e w4 ⟨rfl, k4, o4⟩
  have t4 := T3.out.next k4 o4
  clear y0 y1
  have y0 := t4.2.2.2.1.cell 3
  have y1 := t4.2.2.2.1.frozen 3
  have T4 : Hid (TkW w g w1.heap.size s 25 bt0 i4 b4 #[.int .i64 v1, .int .i64 v2, .int .i64 v3, .bool v4, .slice none 0 0] _) := Lib.hid (t4.set 3 (.bool v4))
  clear k4 o4 t4
  go_wp2_with fail
  refine (RNum_z HZ5.out T4.out.1).mono ?_
  rintro e w5 ⟨rfl, k5, o5⟩
  have t5 := T4.out.next k5 o5
  clear y0 y1
  have S0 : Hid (TkSt w g w1.heap.size s v1 v2 v3 v4 i5 b5 0 w5) := Lib.hid ⟨i5, b5, [], _, rfl, t5, World.ownsRow_nil _ _ _ _, rfl⟩
  clear k5 o5 t5 K0 G0 T0 T1 T2 T3 T4
  go_wp2_with fail
  go_loopg [7, 28] m (fun mm key x wr => ∃ k : Nat, k ≤ m ∧ x = .int .i64 k ∧ mm = m - k ∧ TkSt w g w1.heap.size s v1 v2 v3 v4 i5 b5 k wr)
  case atStart => exact ⟨0, Nat.zero_le _, rfl, rfl, S0.out⟩
  case round =>
    clear S0
    obtain ⟨k, hk, rfl, hmm, i6, b6, rs, v, hrep, t6, ho, hl⟩ := hrel
    have HM := Lib.hid hmm
    have HREP := Lib.hid hrep
    have HL := Lib.hid hl
    have HO := Lib.hid ho
    have T6 := Lib.hid t6
    clear hmm hrep hl ho t6
    by_cases hlt : k < m
    · have d1 : decide ((k : Int) < (m : Int)) = true := by simp; omega
      obtain ⟨ka, ia, ba, hza⟩ : ∃ v i' b', rdTxt (lb s) i6 b6 16 = (v, i', b') := ⟨_, _, _, rfl⟩
      obtain ⟨kb, ib, bb, hzb⟩ : ∃ v i' b', rdTxt (lb s) ia ba 16 = (v, i', b') := ⟨_, _, _, rfl⟩
      have hnx : rdRep rdRec (k + 1) (lb s) i5 b5 = (rs ++ [(bs ka, bs kb)], ib, bb) := by
        rw [rdRep_snoc, HREP.out]
        simp only [rdRec, hza, hzb]
      have HZA := Lib.hid hza
      have HZB := Lib.hid hzb
      have HNX := Lib.hid hnx
      clear hza hzb hnx
      have hgB2 : g < w1.heap.size + 1 := by omega
      have hrow : ∀ x, v.ownBlock = some x → w.heap.size < x ∧ x ≠ w1.heap.size := fun x hx => by have := (HO.out.lt x hx).1; omega
      have HROW := Lib.hid hrow
      clear hrow
      go_wp2_with fail
      refine (RTxt_z HZA.out T6.out.1).mono ?_
      rintro e w6 ⟨rfl, k6, o6⟩
      have T7 := Lib.hid (T6.out.next k6 o6)
      have HO2 := Lib.hid (o6.own HO.out (fun x hx e => by omega))
      clear k6 o6
      go_wp2_with fail
      have y4 := (T7.out.drew).2.2.2.1.cell 4
      go_region_law
        (first
          | ((refine step_append_any _ (by rfl) (.tmp 33) (.tmp 38) 23 (by rfl) (w1.heap.size + 1) 41 i0 _ 2 32 Tryz.underlying23 hi hi0 hi1 hi2 rfl (by decide) v k _ (by rfl) (ho7.alloc _) _ _ 1 1 (cellsR [(bs ka, bs kb)]) (by rfl) (reads_newR2 _ _ (bs ka, bs kb) _ rfl) (cellsR_one _) (by unfold maxLen; omega) (by omega) (by have := t7.2.2.2.1.lt; simp; omega) ?_); intro v' w8 hown' hgrow hat'; obtain ⟨A8, c8, rfl, hc8⟩ := own_slice hown'; have t8 := (t7.alloc _).grown hgrow HROW.out; have z4 := t8.2.2.2.1.cell 4; have z5 := t8.2.2.2.1.frozen 4)
          | (go_simp; go_at_call 76; refine (RTxt_z HZB.out T7.out.drew.1).mono ?_; rintro e w7 ⟨rfl, k7, o7⟩; have t7 := T7.out.drew.next k7 o7; have ho7 := o7.own (HO2.out.drew) (fun x hx e => by omega); have y7 := t7.2.2.2.1.cell 4; have n7 : ∀ o, (w7.alloc o).cell? ⟨w1.heap.size, 4, none⟩ = some v := fun o => (t7.alloc o).2.2.2.1.cell 4))
      all_goals
        go_wp2_with fail
        go_roundg (gk - 1)
        case measure => have := HM.out; omega
        case rel => exact ⟨k + 1, by omega, by go_num, by have := HM.out; omega, ib, bb, rs ++ [(bs ka, bs kb)], _, HNX.out, t8.set 4 _, own_set (by rw [cellsR_append]; exact hown') (Nat.lt_succ_self _) _, by rw [List.length_append, HL.out]; rfl⟩
    · obtain rfl : k = m := by omega
      have d1 : decide ((k : Int) < (k : Int)) = false := by simp
      have hraw2 : rdBatRaw (lb s) i bad = (⟨v1, v2, v3, v4, rs⟩, i6, b6) := by rw [HRAW.out, HREP.out]
      obtain ⟨A6, c6, rfl, hc6⟩ := own_slice HO.out
      obtain rfl : k = rs.length := HL.out.symm
      have x2 := T6.out.1.1.cell 2
      cases b6 with
      | true =>
        have HR := Lib.hid (show rdBat (lb s) i bad = (Bat0, i6, true) by unfold rdBat; rw [hraw2]; rfl)
        clear hraw2
        go_wp2_with fail
        refine (RWrong_z T6.out.1).mono ?_
        rintro e w9 ⟨rfl, k9, o9⟩
        have t9 := T6.out.next k9 o9
        have u0 := t9.2.2.1.cell 0
        have u1 := t9.2.2.1.cell 1
        have u2 := t9.2.2.1.cell 2
        have u3 := t9.2.2.1.cell 3
        have u4 := t9.2.2.1.cell 4
        have z0 := t9.2.2.1.frozen 0
        have z1 := t9.2.2.1.frozen 1
        have z2 := t9.2.2.1.frozen 2
        have z3 := t9.2.2.1.frozen 3
        have z4 := t9.2.2.1.frozen 4
        have T9 := Lib.hid t9
        clear k9 o9 t9
        go_wp2_with fail
        refine bodyPost_ret (v := .agg #[.int .i64 0, .int .i64 0, .int .i64 0, .bool false, .slice none 0 0]) (by simp [results, Tryz.results82, go_sem, u0, u1, u2, u3, u4]) rfl ?_
        rw [HR.out]
        exact ⟨none, 0, rfl, World.ownsRow_nil _ _ _ _, Nat.le_refl _, ((((T9.out.1.set (Nat.le_refl _) _).set (Nat.le_refl _) _).set (Nat.le_refl _) _).set (Nat.le_refl _) _).set (Nat.le_refl _) _ |>.1, ((((T9.out.2.1.set (Nat.le_refl _) _).set (Nat.le_refl _) _).set (Nat.le_refl _) _).set (Nat.le_refl _) _).set (Nat.le_refl _) _ |>.1⟩
      | false =>
        have M1 : Hid (Calls Tryz.prog 89 #[.agg #[.int .i64 v1, .int .i64 v2, .int .i64 v3, .bool v4, .slice A6 rs.length c6]] wr fun e w' => e = .returned (.bool (mayBt ⟨v1, v2, v3, v4, rs⟩)) ∧ Below wr.heap.size wr w') := Lib.hid (RcMay_any ⟨v1, v2, v3, v4, rs⟩ A6 c6 wr (Reads.of_own HO.out))
        have x0 := T6.out.2.2.2.1.cell 0
        have x1 := T6.out.2.2.2.1.cell 1
        have x3 := T6.out.2.2.2.1.cell 2
        have x4 := T6.out.2.2.2.1.cell 3
        have x5 := T6.out.2.2.2.1.cell 4
        cases hmb : mayBt ⟨v1, v2, v3, v4, rs⟩ with
        | false =>
          rw [hmb] at M1
          have HR := Lib.hid (show rdBat (lb s) i bad = (Bat0, i6, true) by unfold rdBat; rw [hraw2]; simp only [hmb]; rfl)
          clear hraw2 hmb
          go_wp2_with fail
          refine M1.out.mono ?_
          rintro e w8 ⟨rfl, b8⟩
          have T8 := Lib.hid (T6.out.below b8)
          clear b8 x0 x1 x2 x3 x4 x5
          go_wp2_with fail
          refine (RWrong_z T8.out.1).mono ?_
          rintro e w9 ⟨rfl, k9, o9⟩
          have t9 := T8.out.next k9 o9
          have u0 := t9.2.2.1.cell 0
          have u1 := t9.2.2.1.cell 1
          have u2 := t9.2.2.1.cell 2
          have u3 := t9.2.2.1.cell 3
          have u4 := t9.2.2.1.cell 4
          have z0 := t9.2.2.1.frozen 0
          have z1 := t9.2.2.1.frozen 1
          have z2 := t9.2.2.1.frozen 2
          have z3 := t9.2.2.1.frozen 3
          have z4 := t9.2.2.1.frozen 4
          have T9 := Lib.hid t9
          clear k9 o9 t9
          go_wp2_with fail
          refine bodyPost_ret (v := .agg #[.int .i64 0, .int .i64 0, .int .i64 0, .bool false, .slice none 0 0]) (by simp [results, Tryz.results82, go_sem, u0, u1, u2, u3, u4]) rfl ?_
          rw [HR.out]
          exact ⟨none, 0, rfl, World.ownsRow_nil _ _ _ _, Nat.le_refl _, ((((T9.out.1.set (Nat.le_refl _) _).set (Nat.le_refl _) _).set (Nat.le_refl _) _).set (Nat.le_refl _) _).set (Nat.le_refl _) _ |>.1, ((((T9.out.2.1.set (Nat.le_refl _) _).set (Nat.le_refl _) _).set (Nat.le_refl _) _).set (Nat.le_refl _) _).set (Nat.le_refl _) _ |>.1⟩
        | true =>
          rw [hmb] at M1
          have HR := Lib.hid (show rdBat (lb s) i bad = (⟨v1, v2, v3, v4, rs⟩, i6, false) by unfold rdBat; rw [hraw2]; simp only [hmb]; rfl)
          clear hraw2 hmb
          go_wp2_with fail
          refine M1.out.mono ?_
          rintro e w8 ⟨rfl, b8⟩
          have t8 := T6.out.below b8
          have HO8 := Lib.hid (own_below HO.out b8)
          clear b8 x0 x1 x2 x3 x4 x5
          have x0 := t8.2.2.2.1.cell 0
          have x1 := t8.2.2.2.1.cell 1
          have x3 := t8.2.2.2.1.cell 2
          have x4 := t8.2.2.2.1.cell 3
          have x5 := t8.2.2.2.1.cell 4
          have u0 := t8.2.2.1.cell 0
          have u1 := t8.2.2.1.cell 1
          have u2 := t8.2.2.1.cell 2
          have u3 := t8.2.2.1.cell 3
          have u4 := t8.2.2.1.cell 4
          have z0 := t8.2.2.1.frozen 0
          have z1 := t8.2.2.1.frozen 1
          have z2 := t8.2.2.1.frozen 2
          have z3 := t8.2.2.1.frozen 3
          have z4 := t8.2.2.1.frozen 4
          have T8 := Lib.hid t8
          clear t8
          go_wp2_with fail
          refine bodyPost_ret (v := .agg #[.int .i64 v1, .int .i64 v2, .int .i64 v3, .bool v4, .slice A6 rs.length c6]) (by simp [results, Tryz.results82, go_sem, u0, u1, u2, u3, u4]) rfl ?_
          rw [HR.out]
          exact ⟨A6, c6, rfl, own_base (own_set (own_set (own_set (own_set (own_set HO8.out (by omega) _) (by omega) _) (by omega) _) (by omega) _) (by omega) _) (by omega), hc6, ((((T8.out.1.set (Nat.le_refl _) _).set (Nat.le_refl _) _).set (Nat.le_refl _) _).set (Nat.le_refl _) _).set (Nat.le_refl _) _ |>.1, ((((T8.out.2.1.set (Nat.le_refl _) _).set (Nat.le_refl _) _).set (Nat.le_refl _) _).set (Nat.le_refl _) _).set (Nat.le_refl _) _ |>.1⟩
end Go.Proofs.YtcockikekgmfkaaGreatDoor
namespace Go.Proofs.YtcockikekgmfkaaGreatDoor.ErRe
open Go.RowKit Go.Stop Go.Extern

theorem asTypeOfB (v : Value) (w : World) : (callFunc 56 #[.iface 137 v]).run Tryz.prog w = .ok (.value (.iface 108 (.agg #[.pointer (some ⟨1, 137, none⟩)]))) w := by kernel_rfl
theorem asAssignB (w : World) : (callFunc 124 #[.agg #[.pointer (some ⟨1, 137, none⟩)], .iface 108 (.agg #[.pointer (some ⟨1, 31, none⟩)])]).run Tryz.prog w = .ok (.value (.bool false)) w := by kernel_rfl
theorem asNoAs (v : Value) (xT : TypeId) (w : World) : (Instr.typeAssert (.iface 137 v) xT 112 true).run Tryz.prog w = .ok (.tuple #[.nilIface, .bool false]) w := run_typeAssert_lacksB Tryz.underlying112 (by kernel_rfl) (by kernel_rfl) v xT w
theorem asHasUnwrap (v : Value) (xT : TypeId) (w : World) : (Instr.typeAssert (.iface 137 v) xT 115 true).run Tryz.prog w = .ok (.tuple #[.iface 137 v, .bool true]) w := run_typeAssert_hasB Tryz.underlying115 (by kernel_rfl) v xT w
theorem asMethodUnwrap (k : Nat) (v : Value) (w : World) : (Go.method (k + 1) 137 v "Unwrap").run Tryz.prog w = .ok (137, v) w := by kernel_rfl
set_option maxHeartbeats 4000000 in
/-- errors.As(&error{.., n}, &e): true, and e is n. -/
theorem as_any (b t : Nat) (n : Int) (old : Value) (w : World) (hg : w.cell? ⟨0, 0, none⟩ = some (.iface 108 (.agg #[.pointer (some ⟨1, 43, none⟩)])))
    (hb1 : w.cell? ⟨b, 1, none⟩ = some (.int .i64 n)) (ht0 : w.cell? ⟨t, 0, none⟩ = some old) (hf0 : w.frozen? ⟨t, 0, none⟩ = false) :
    Calls Tryz.prog 37 #[.iface 137 (.pointer (some ⟨b, 0, none⟩)), .iface 73 (.pointer (some ⟨t, 0, none⟩))] w fun ev w' => ev = .returned (.bool true) ∧ asWorld w t n = w' := by
  have hlt : 0 < w.heap.size := by
    rcases Nat.lt_or_ge 0 w.heap.size with h | h
    · exact h
    · simp [World.cell?, Array.getElem?_eq_none h] at hg
  have hbl : b < w.heap.size := by
    rcases Nat.lt_or_ge b w.heap.size with h | h
    · exact h
    · simp [World.cell?, Array.getElem?_eq_none h] at hb1
  have htl : t < w.heap.size := by
    rcases Nat.lt_or_ge t w.heap.size with h | h
    · exact h
    · simp [World.cell?, Array.getElem?_eq_none h] at ht0
  have f1 := asValueOf
  have f2 := asType
  have f3 := asMethodKind
  have f4 := asKindP
  have f5 := asKindE
  have f6 := asMethodElem
  have f7 := asMethodImplements
  have f8 := asMethodAssignable
  have f9 := asElem
  have f10 := asImplements
  have f11 := asTypeOfB
  have f12 := asTypeOfE
  have f13 := asAssignB
  have f14 := asAssignE
  have f15 := asValueOfE
  have f16 := asNoAs
  have f17 := asHasUnwrap
  have f18 := asMethodUnwrap
  have n8 := asIsNil ⟨w.heap.size, 0, none⟩ ⟨t, 0, none⟩ ((w.alloc (.cells #[.pointer (some ⟨t, 0, none⟩)] 73)).alloc (.cells #[.pointer (some ⟨1, 73, none⟩), .pointer (some ⟨w.heap.size, 0, none⟩), .int .u64 150] 89)) (by simp)
  have hg2 : ((w.alloc (.cells #[.pointer (some ⟨t, 0, none⟩)] 73)).alloc (.cells #[.pointer (some ⟨1, 73, none⟩), .pointer (some ⟨w.heap.size, 0, none⟩), .int .u64 150] 89)).cell? ⟨0, 0, none⟩ = some (.iface 108 (.agg #[.pointer (some ⟨1, 43, none⟩)])) := by
    rw [World.cell?_alloc_lt _ _ ⟨0, 0, none⟩ (by simp only [World.size_alloc]; omega), World.cell?_alloc_lt _ _ ⟨0, 0, none⟩ hlt]; exact hg
  have hb2 : (((w.alloc (.cells #[.pointer (some ⟨t, 0, none⟩)] 73)).alloc (.cells #[.pointer (some ⟨1, 73, none⟩), .pointer (some ⟨w.heap.size, 0, none⟩), .int .u64 150] 89)).alloc (.cells #[.pointer (some ⟨1, 73, none⟩), .pointer (some ⟨w.heap.size, 0, none⟩), .int .u64 150] 89)).cell? ⟨b, 1, none⟩ = some (.int .i64 n) := by
    rw [World.cell?_alloc_lt _ _ ⟨b, 1, none⟩ (by simp only [World.size_alloc]; omega), World.cell?_alloc_lt _ _ ⟨b, 1, none⟩ (by simp only [World.size_alloc]; omega), World.cell?_alloc_lt _ _ ⟨b, 1, none⟩ hbl]; exact hb1
  have el := asElemV ⟨w.heap.size, 0, none⟩ ⟨t, 0, none⟩ (((w.alloc (.cells #[.pointer (some ⟨t, 0, none⟩)] 73)).alloc (.cells #[.pointer (some ⟨1, 73, none⟩), .pointer (some ⟨w.heap.size, 0, none⟩), .int .u64 150] 89)).alloc (.cells #[.pointer (some ⟨1, 73, none⟩), .pointer (some ⟨w.heap.size, 0, none⟩), .int .u64 150] 89)) (by rw [World.cell?_alloc_lt _ _ ⟨w.heap.size, 0, none⟩ (by simp only [World.size_alloc]; omega)]; simp)
  have st := asSet ⟨t, 0, none⟩ ⟨w.heap.size + 1 + 1 + 1, 0, none⟩ n old ((((w.alloc (.cells #[.pointer (some ⟨t, 0, none⟩)] 73)).alloc (.cells #[.pointer (some ⟨1, 73, none⟩), .pointer (some ⟨w.heap.size, 0, none⟩), .int .u64 150] 89)).alloc (.cells #[.pointer (some ⟨1, 73, none⟩), .pointer (some ⟨w.heap.size, 0, none⟩), .int .u64 150] 89)).alloc (.cells #[.int .i64 n] 31))
    (by rw [World.cell?_alloc_at _ _ _ _ (by simp)]; rfl)
    (by rw [World.cell?_alloc_lt _ _ ⟨t, 0, none⟩ (by simp only [World.size_alloc]; omega), World.cell?_alloc_lt _ _ ⟨t, 0, none⟩ (by simp only [World.size_alloc]; omega), World.cell?_alloc_lt _ _ ⟨t, 0, none⟩ (by simp only [World.size_alloc]; omega), World.cell?_alloc_lt _ _ ⟨t, 0, none⟩ htl]; exact ht0)
    (by rw [World.frozen?_alloc_old _ _ ⟨t, 0, none⟩ (by simp only [World.size_alloc]; omega), World.frozen?_alloc_old _ _ ⟨t, 0, none⟩ (by simp only [World.size_alloc]; omega), World.frozen?_alloc_old _ _ ⟨t, 0, none⟩ (by simp only [World.size_alloc]; omega), World.frozen?_alloc_old _ _ ⟨t, 0, none⟩ (Nat.ne_of_lt htl)]; exact hf0)
  go_enter Tryz.func37, Tryz.ntmps37
  go_wp2
  refine wp_loop_rounds 2 ?_
  iterate 2 (rw [rounds_succ]; go_wp2)
  go_ret
  exact ⟨rfl, rfl⟩

theorem isNoIs (v : Value) (xT : TypeId) (w : World) : (Instr.typeAssert (.iface 137 v) xT 125 true).run Tryz.prog w = .ok (.tuple #[.nilIface, .bool false]) w := run_typeAssert_lacksB Tryz.underlying125 (by kernel_rfl) (by kernel_rfl) v xT w
theorem eqOther (v : Value) (b : Int) (w : World) : (binOp .eql 43 (.iface 137 v) (.iface 31 (.int .i64 b))).run Tryz.prog w = .ok (.bool false) w := by kernel_rfl

set_option maxRecDepth 100000 in
set_option maxHeartbeats 4000000 in
/-- errors.Is(&error{.., n}, m): whether n is m. -/
theorem is_any (b : Nat) (n m : Int) (w : World) (hb1 : w.cell? ⟨b, 1, none⟩ = some (.int .i64 n)) :
    Calls Tryz.prog 44 #[.iface 137 (.pointer (some ⟨b, 0, none⟩)), .iface 31 (.int .i64 m)] w fun ev w' => ev = .returned (.bool (n == m)) ∧ w = w' := by
  have f6 := isMethodComparable
  have f7 := isComparableE
  have f8 := isNoIsE
  have f9 := isNoUnwrapE
  have f10 := isNoUnwrapsE
  have f11 := eqErrno
  have f12 := asTypeOfE
  have f16 := isNoIs
  have f17 := asHasUnwrap
  have f18 := asMethodUnwrap
  have f19 := eqOther
  by_cases hnm : n = m
  · subst hnm
    go_enter Tryz.func44, Tryz.ntmps44
    go_wp2
    refine wp_loop_rounds 2 ?_
    iterate 2 (rw [rounds_succ]; go_wp2)
    go_ret
    exact ⟨by simp, rfl⟩
  · have d1 : (n == m) = false := beq_eq_false_iff_ne.2 hnm
    have D1 := Lib.hid d1
    go_enter Tryz.func44, Tryz.ntmps44
    go_wp2
    refine wp_loop_rounds 2 ?_
    iterate 2 (rw [rounds_succ]; go_wp2)
    go_ret
    exact ⟨by rw [D1.out]; rfl, rfl⟩
end Go.Proofs.YtcockikekgmfkaaGreatDoor.ErRe
namespace Go.Proofs.YtcockikekgmfkaaGreatDoor
open Go.RowKit

/-- What write has put so far: the variables out and e, and the bytes of its own. -/
def WSt (w : World) (bo be K : Nat) (l : List UInt8) : Prop :=
  ∃ A c, Blk w bo 30 #[.slice A l.length c] ∧ Blk w be 31 #[.int .i64 0] ∧ w.ownsRow K 5 1 (.slice A l.length c) l.length (cellsB l) ∧ bo < K ∧ be < K ∧ bo ≠ be ∧ K ≤ w.heap.size
theorem WSt.only {S : Nat → Prop} {w w' : World} {bo be K : Nat} {l : List UInt8} (h : WSt w bo be K l) (k : Only S w w') (hS : ∀ g, g = bo ∨ g = be ∨ K ≤ g → ¬ S g) : WSt w' bo be K l := by
  obtain ⟨A, c, h1, h2, h3, h4, h5, h6, h7⟩ := h
  exact ⟨A, c, k.blk h1 (hS _ (.inl rfl)), k.blk h2 (hS _ (.inr (.inl rfl))), k.own h3 (fun g hg => hS g (.inr (.inr hg))), h4, h5, h6, Nat.le_trans h7 k.size⟩
theorem WSt.below {w w' : World} {bo be K : Nat} {l : List UInt8} (h : WSt w bo be K l) (k : Below w.heap.size w w') : WSt w' bo be K l :=
  h.only (Only.of_below (fun _ => False) k) (fun _ _ h => h)

theorem Number_own (A : Option Addr) (l : List UInt8) (c : Nat) (n : Nat) (w : World) (hr : Reads w w.heap.size 1 A l.length (cellsB l)) (hl : l.length ≤ 90000) (hn : n ≤ maxNum) :
    Calls Tryz.prog 81 #[.slice A l.length c, .int .i64 n] w (OwnPost (l ++ enc n) 0 w) := by
  have HP := Lib.hid (Put_own A l c n w hr hl hn)
  clear hr
  generalize l ++ enc n = L at *
  go_enter Tryz.func81, Tryz.ntmps81
  go_wp2_with (go_at_call 86; refine HP.out.mono ?_; rintro e w1 ⟨A1, c1, rfl, hr1, hc1, hb1⟩)
  go_ret2
  exact ⟨A1, c1, rfl, hr1, hc1, hb1⟩

/-- Behind a closure's call: more bytes; but for the two variables all is as it was. -/
def PutsPost (bo be K : Nat) (l : List UInt8) (w : World) (e : Ending) (w' : World) : Prop :=
  e = .returned (.tuple #[]) ∧ WSt w' bo be K l ∧ Only (fun g => g = bo ∨ g = be) w w'
theorem puts_of {bo be K : Nat} {l L : List UInt8} {w w1 : World} {A1 : Option Addr} {c1 : Nat} (h : WSt w bo be K l) (ho : w1.ownsRow w.heap.size 5 1 (.slice A1 L.length c1) L.length (cellsB L)) (hb : Below w.heap.size w w1) :
    PutsPost bo be K L w (.returned (.tuple #[])) ((w1.setCell ⟨bo, 0, none⟩ (.slice A1 L.length c1)).setCell ⟨be, 0, none⟩ (.int .i64 0)) := by
  obtain ⟨A, c, h1, h2, h3, h4, h5, h6, h7⟩ := h
  refine ⟨rfl, ⟨A1, c1, ?_, ?_, ?_, h4, h5, h6, ?_⟩, ?_⟩
  · exact ((h1.below hb h1.lt).set_ 0 _).far h6 _
  · exact ((h2.below hb h2.lt).far (Ne.symm h6) _).set_ 0 _
  · exact own_set (own_set (own_base ho h7) h4 _) h5 _
  · have := hb.size
    simp [World.setCell]; omega
  · exact ((Only.of_below _ hb).set (.inl (.inl rfl)) _).set (.inl (.inr rfl)) _

set_option maxHeartbeats 400000 in
theorem wnumber_any (bo be K : Nat) (l : List UInt8) (n : Nat) (w : World) (h : WSt w bo be K l) (hl : l.length ≤ 80000) (hn : n ≤ maxNum) :
    Calls Tryz.prog 91 #[.int .i64 n, .pointer (some ⟨be, 0, none⟩), .pointer (some ⟨bo, 0, none⟩)] w (PutsPost bo be K (l ++ enc n) w) := by
  have HP := Lib.hid (fun A1 c1 w1 => puts_of (L := l ++ enc n) (A1 := A1) (c1 := c1) (w1 := w1) h)
  obtain ⟨A, c, h1, h2, h3, h4, h5, h6, h7⟩ := h
  have HN := Lib.hid (Number_own A l c n w (Reads.of_own h3) (by omega) hn)
  have x1 := h1.cell 0
  have x2 := h2.cell 0
  have K1 := Lib.hid h1
  have K2 := Lib.hid h2
  generalize l ++ enc n = L at *
  clear h1 h2 h3
  go_enter Tryz.func91, Tryz.ntmps91
  go_wp2_with fail
  refine HN.out.mono ?_
  rintro e w1 ⟨A1, c1, rfl, ho1, hc1, hb1⟩
  have y1 := (K1.out.below hb1 K1.out.lt).cell 0
  have y2 := (K1.out.below hb1 K1.out.lt).frozen 0
  have y3 := (K2.out.below hb1 K2.out.lt).cell 0
  have y4 := (K2.out.below hb1 K2.out.lt).frozen 0
  clear x1 x2
  go_wp2_with fail
  go_end0
  exact HP.out _ _ _ ho1 hb1

set_option maxHeartbeats 400000 in
theorem wtext_any (bo be K : Nat) (l : List UInt8) (t : ByteArray) (w : World) (h : WSt w bo be K l) (hl : l.length ≤ 70000) (ht : t.size ≤ 1024) :
    Calls Tryz.prog 92 #[.string t, .pointer (some ⟨be, 0, none⟩), .pointer (some ⟨bo, 0, none⟩)] w (PutsPost bo be K (l ++ (cTxt 1024).e (lb t)) w) := by
  have HP := Lib.hid (fun A1 c1 w1 => puts_of (L := l ++ (cTxt 1024).e (lb t)) (A1 := A1) (c1 := c1) (w1 := w1) h)
  obtain ⟨A, c, h1, h2, h3, h4, h5, h6, h7⟩ := h
  have HN := Lib.hid (Text_ok A l c t w (Reads.of_own h3) (by omega) ht)
  have x1 := h1.cell 0
  have x2 := h2.cell 0
  have K1 := Lib.hid h1
  have K2 := Lib.hid h2
  generalize l ++ (cTxt 1024).e (lb t) = L at *
  clear h1 h2 h3
  go_enter Tryz.func92, Tryz.ntmps92
  go_wp2_with fail
  refine HN.out.mono ?_
  rintro e w1 ⟨A1, c1, rfl, ho1, hc1, hb1⟩
  have y1 := (K1.out.below hb1 K1.out.lt).cell 0
  have y2 := (K1.out.below hb1 K1.out.lt).frozen 0
  have y3 := (K2.out.below hb1 K2.out.lt).cell 0
  have y4 := (K2.out.below hb1 K2.out.lt).frozen 0
  clear x1 x2
  go_wp2_with fail
  go_end0
  exact HP.out _ _ _ ho1 hb1
end Go.Proofs.YtcockikekgmfkaaGreatDoor
