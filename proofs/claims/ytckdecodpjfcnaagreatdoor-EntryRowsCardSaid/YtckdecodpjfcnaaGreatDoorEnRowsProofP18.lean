/-
  Layer 6, reading: the document's Take.
-/
import Derived.Test.YtckdecodpjfcnaaGreatDoorEnRowsProofP17
set_option linter.unusedVariables false
set_option linter.unusedSimpArgs false
namespace Go.Proofs.YtckdecodpjfcnaaGreatDoor
open Go.RowKit
attribute [local go_sem ↓] Go.wp_at_zero Go.wp_at_succ

def TrPost (g : Nat) (s : ByteArray) (z : Bat × Nat × Bool) (w : World) (e : Ending) (w' : World) : Prop :=
  ∃ A5 c5, e = .returned (.agg #[.int .i64 z.1.pid, .int .i64 z.1.ep, .int .i64 z.1.seq, .bool z.1.txn, .slice A5 z.1.rs.length c5]) ∧ w'.ownsRow w.heap.size 60 2 (.slice A5 z.1.rs.length c5) z.1.rs.length (cellsR z.1.rs) ∧ z.1.rs.length ≤ c5 ∧ RdR w' g s z.2.1 z.2.2 ∧ Only (fun x => x = g) w w'
/-- Behind k records. -/
def TrSt (w : World) (g bb : Nat) (s : ByteArray) (pid ep sq : Int) (t : Bool) (i5 : Nat) (b5 : Bool) (k : Nat) (W : World) : Prop :=
  ∃ (i : Nat) (b : Bool) (rs : List Rec) (v : Value), rdRep rdRec k (lb s) i5 b5 = (rs, i, b) ∧ TrW w g bb s 25 bt0 i b #[.int .i64 pid, .int .i64 ep, .int .i64 sq, .bool t, v] W ∧ W.ownsRow (bb + 1) 60 2 v k (cellsR rs) ∧ rs.length = k

set_option maxRecDepth 100000 in
set_option maxHeartbeats 4000000 in
theorem rTake_any (g : Nat) (s : ByteArray) (i : Nat) (bad : Bool) (w : World) (h : RrOk w.heap.size w g s i bad) :
    Calls Tryz.prog 54 #[.pointer (some ⟨g, 0, none⟩)] w (TrPost g s (rdBat (lb s) i bad) w) := by
  obtain ⟨i0, hi, hi0, hi1, hi2⟩ := info_parts infoR
  obtain ⟨v1, i1, b1, hz1⟩ : ∃ v i' b', rdNum (lb s) i bad 1 8 = (v, i', b') := ⟨_, _, _, rfl⟩
  obtain ⟨v2, i2, b2, hz2⟩ : ∃ v i' b', rdNum (lb s) i1 b1 0 100 = (v, i', b') := ⟨_, _, _, rfl⟩
  obtain ⟨v3, i3, b3, hz3⟩ : ∃ v i' b', rdNum (lb s) i2 b2 0 1048576 = (v, i', b') := ⟨_, _, _, rfl⟩
  obtain ⟨v4, i4, b4, hz4⟩ : ∃ v i' b', rdFlag (lb s) i3 b3 = (v, i', b') := ⟨_, _, _, rfl⟩
  obtain ⟨v5, i5, b5, hz5⟩ : ∃ v i' b', rdNum (lb s) i4 b4 1 4 = (v, i', b') := ⟨_, _, _, rfl⟩
  obtain ⟨m, hm, hm4⟩ : ∃ m : Nat, v5 = m ∧ m ≤ 4 := by
    rcases rdNum_rng hz5 with h | h
    · exact ⟨0, h, by omega⟩
    · exact ⟨v5.toNat, by omega, by omega⟩
  have hraw : rdBatRaw (lb s) i bad = (⟨v1, v2, v3, v4, (rdRep rdRec m (lb s) i5 b5).1⟩, (rdRep rdRec m (lb s) i5 b5).2) := by
    unfold rdBatRaw rdBind rdMap rdRecs
    simp only [hz1, hz2, hz3, hz4, hz5, hm, Int.toNat_natCast]
  subst hm
  have HZ1 := Lib.hid hz1
  have HZ2 := Lib.hid hz2
  have HZ3 := Lib.hid hz3
  have HZ4 := Lib.hid hz4
  have HZ5 := Lib.hid hz5
  have HRAW := Lib.hid hraw
  have hgB := h.2.2.2.1
  have K0 := Lib.hid (h.alloc (.cells bt0 25))
  have G0 := Lib.hid ((Goes.refl hgB).alloc (.cells bt0 25))
  have T0 := Lib.hid (blk_new w 25 bt0 rfl)
  have hne0 : ¬ w.heap.size = g := by omega
  clear h hz1 hz2 hz3 hz4 hz5 hraw
  go_enter Tryz.func54, Tryz.ntmps54
  go_wp2_with fail
  refine (rRNum_z HZ1.out K0.out).mono ?_
  rintro e w1 ⟨rfl, k1, o1⟩
  have K1 := Lib.hid k1
  have G1 := Lib.hid (G0.out.only o1)
  have T1 := Lib.hid (o1.blk T0.out hne0)
  have hs1 : w.heap.size < w1.heap.size := by have := o1.size; rw [World.size_alloc] at this; omega
  clear k1 o1
  go_wp2_with fail
  refine (rRNum_z HZ2.out K1.out).mono ?_
  rintro e w2 ⟨rfl, k2, o2⟩
  have K2 := Lib.hid k2
  have G2 := Lib.hid (G1.out.only o2)
  have T2 := Lib.hid (o2.blk T1.out hne0)
  have hs2 : w.heap.size < w2.heap.size := by have := o2.size; omega
  clear k2 o2 hs1
  go_wp2_with fail
  refine (rRNum_z HZ3.out K2.out).mono ?_
  rintro e w3 ⟨rfl, k3, o3⟩
  have K3 := Lib.hid k3
  have G3 := Lib.hid (G2.out.only o3)
  have T3 := Lib.hid (o3.blk T2.out hne0)
  have hs3 : w.heap.size < w3.heap.size := by have := o3.size; omega
  clear k3 o3 hs2
  go_wp2_with fail
  refine (rRFlag_z HZ4.out K3.out).mono ?_
  rintro e w4 ⟨rfl, k4, o4⟩
  have hs4 : w.heap.size < w4.heap.size := by have := o4.size; omega
  have t4 : TrW w g w4.heap.size s 25 bt0 i4 b4 #[.int .i64 v1, .int .i64 v2, .int .i64 v3, .bool v4, .slice none 0 0] (w4.alloc (.cells #[.int .i64 v1, .int .i64 v2, .int .i64 v3, .bool v4, .slice none 0 0] 25)) :=
    ⟨k4.alloc _, (G3.out.only o4).alloc _, (o4.blk T3.out hne0).alloc _, blk_new _ _ _ rfl, hs4⟩
  have T4 := Lib.hid t4
  clear k4 o4 t4 hs3
  go_wp2_with fail
  refine (rRNum_z HZ5.out T4.out.1).mono ?_
  rintro e w5 ⟨rfl, k5, o5⟩
  have t5 := T4.out.next k5 o5
  have S0 : Hid (TrSt w g w4.heap.size s v1 v2 v3 v4 i5 b5 0 w5) := Lib.hid ⟨i5, b5, [], _, rfl, t5, World.ownsRow_nil _ _ _ _, rfl⟩
  clear k5 o5 t5 K0 G0 T0 K1 K2 K3 G1 G2 G3 T1 T2 T3 T4
  go_wp2_with fail
  go_loopg [5] m (fun mm x wr => ∃ k : Nat, k ≤ m ∧ x = .int .i64 k ∧ mm = m - k ∧ TrSt w g w4.heap.size s v1 v2 v3 v4 i5 b5 k wr)
  case atStart => exact ⟨0, Nat.zero_le _, rfl, rfl, S0.out⟩
  case round =>
    clear S0
    obtain ⟨k, hk, rfl, hmm, i6, b6, rs, v, hrep, t6, ho, hl⟩ := hrel
    have HM := Lib.hid hmm
    have HREP := Lib.hid hrep
    have HL := Lib.hid hl
    have HO := Lib.hid ho
    have T6 := Lib.hid t6
    clear hmm hrep hl ho t6
    by_cases hlt : k < m
    · have d1 : decide ((k : Int) < (m : Int)) = true := by simp; omega
      obtain ⟨ka, ia, ba, hza⟩ : ∃ v i' b', rdTxt (lb s) i6 b6 16 = (v, i', b') := ⟨_, _, _, rfl⟩
      obtain ⟨kb, ib, bb, hzb⟩ : ∃ v i' b', rdTxt (lb s) ia ba 16 = (v, i', b') := ⟨_, _, _, rfl⟩
      have hnx : rdRep rdRec (k + 1) (lb s) i5 b5 = (rs ++ [(bs ka, bs kb)], ib, bb) := by
        rw [rdRep_snoc, HREP.out]
        simp only [rdRec, hza, hzb]
      have HZA := Lib.hid hza
      have HZB := Lib.hid hzb
      have HNX := Lib.hid hnx
      clear hza hzb hnx
      have hrow : ∀ x, v.ownBlock = some x → w.heap.size < x ∧ x ≠ w4.heap.size := fun x hx => by have := (HO.out.lt x hx).1; omega
      have HROW := Lib.hid hrow
      clear hrow
      go_wp2_with fail
      have y4 := (T6.out.drew).2.2.2.1.cell 4
      go_region_law
        (first
          | ((refine step_append_any _ (by rfl) (.tmp 23) (.tmp 29) 23 (by rfl) (w4.heap.size + 1) 60 i0 _ 2 32 Tryz.underlying23 hi hi0 hi1 hi2 rfl (by decide) v k _ (by rfl) (ho8.alloc _) _ _ 1 1 (cellsR [(bs ka, bs kb)]) (by rfl) (reads_newR2 _ _ (bs ka, bs kb) _ rfl) (cellsR_one _) (by unfold maxLen; omega) (by omega) (by have := t8.2.2.2.1.lt; simp; omega) ?_); intro v' w9 hown' hgrow hat'; obtain ⟨A8, c8, rfl, hc8⟩ := own_slice hown'; have t9 := (t8.alloc _).grown hgrow HROW.out; have z4 := t9.2.2.2.1.cell 4; have z5 := t9.2.2.2.1.frozen 4)
          | (go_simp; go_at_call 56; ((with_reducible refine (rRTxt_z HZA.out T6.out.drew.ok).mono ?_); rintro e w7 ⟨rfl, k7, o7⟩; have t7 := T6.out.drew.next k7 o7; have ho7 := o7.own (HO.out.drew) (fun x hx e => by omega); have y7 := t7.2.2.2.1.cell 4))
          | (go_simp; go_at_call 56; refine (rRTxt_z HZB.out t7.ok).mono ?_; rintro e w8 ⟨rfl, k8, o8⟩; have t8 := t7.next k8 o8; have ho8 := o8.own ho7 (fun x hx e => by omega); have y8 := t8.2.2.2.1.cell 4; have n8 : ∀ o, (w8.alloc o).cell? ⟨w4.heap.size, 4, none⟩ = some v := fun o => (t8.alloc o).2.2.2.1.cell 4))
      all_goals
        go_wp2_with fail
        go_roundg (gk - 1)
        case measure => have := HM.out; omega
        case rel => exact ⟨k + 1, by omega, by go_num, by have := HM.out; omega, ib, bb, rs ++ [(bs ka, bs kb)], _, HNX.out, t9.set 4 _, own_set (by rw [cellsR_append]; exact hown') (Nat.lt_succ_self _) _, by rw [List.length_append, HL.out]; rfl⟩
    · obtain rfl : k = m := by omega
      have d1 : decide ((k : Int) < (k : Int)) = false := by simp
      have hraw2 : rdBatRaw (lb s) i bad = (⟨v1, v2, v3, v4, rs⟩, i6, b6) := by rw [HRAW.out, HREP.out]
      obtain ⟨A6, c6, rfl, hc6⟩ := own_slice HO.out
      obtain rfl : k = rs.length := HL.out.symm
      have x2 := T6.out.1.1.cell 2
      cases b6 with
      | true =>
        have HR := Lib.hid (show rdBat (lb s) i bad = (Bat0, i6, true) by unfold rdBat; rw [hraw2]; rfl)
        clear hraw2
        go_wp2_with fail
        refine (rRWrong_z T6.out.1).mono ?_
        rintro e w9 ⟨rfl, k9, o9⟩
        have t9 := T6.out.next k9 o9
        have u0 := t9.2.2.1.cell 0
        have u1 := t9.2.2.1.cell 1
        have u2 := t9.2.2.1.cell 2
        have u3 := t9.2.2.1.cell 3
        have u4 := t9.2.2.1.cell 4
        have z0 := t9.2.2.1.frozen 0
        have z1 := t9.2.2.1.frozen 1
        have z2 := t9.2.2.1.frozen 2
        have z3 := t9.2.2.1.frozen 3
        have z4 := t9.2.2.1.frozen 4
        have T9 := Lib.hid t9
        clear k9 o9 t9
        go_wp2_with fail
        refine bodyPost_ret (v := .agg #[.int .i64 0, .int .i64 0, .int .i64 0, .bool false, .slice none 0 0]) (by simp [results, Tryz.results54, go_sem, u0, u1, u2, u3, u4]) rfl ?_
        rw [HR.out]
        exact ⟨none, 0, rfl, World.ownsRow_nil _ _ _ _, Nat.le_refl _, ((((T9.out.1.set (Nat.le_refl _) _).set (Nat.le_refl _) _).set (Nat.le_refl _) _).set (Nat.le_refl _) _).set (Nat.le_refl _) _ |>.1, ((((T9.out.2.1.set (Nat.le_refl _) _).set (Nat.le_refl _) _).set (Nat.le_refl _) _).set (Nat.le_refl _) _).set (Nat.le_refl _) _ |>.1⟩
      | false =>
        have M1 : Hid (Calls Tryz.prog 40 #[.agg #[.int .i64 v1, .int .i64 v2, .int .i64 v3, .bool v4, .slice A6 rs.length c6]] wr fun e w' => e = .returned (.bool (mayBt ⟨v1, v2, v3, v4, rs⟩)) ∧ Below wr.heap.size wr w') := Lib.hid (rRcMay_any ⟨v1, v2, v3, v4, rs⟩ A6 c6 wr (Reads.of_own HO.out))
        have x0 := T6.out.2.2.2.1.cell 0
        have x1 := T6.out.2.2.2.1.cell 1
        have x3 := T6.out.2.2.2.1.cell 2
        have x4 := T6.out.2.2.2.1.cell 3
        have x5 := T6.out.2.2.2.1.cell 4
        cases hmb : mayBt ⟨v1, v2, v3, v4, rs⟩ with
        | false =>
          rw [hmb] at M1
          have HR := Lib.hid (show rdBat (lb s) i bad = (Bat0, i6, true) by unfold rdBat; rw [hraw2]; simp only [hmb]; rfl)
          clear hraw2 hmb
          go_wp2_with fail
          refine M1.out.mono ?_
          rintro e w8 ⟨rfl, b8⟩
          have T8 := Lib.hid (T6.out.below b8)
          clear b8 x0 x1 x2 x3 x4 x5
          go_wp2_with fail
          refine (rRWrong_z T8.out.1).mono ?_
          rintro e w9 ⟨rfl, k9, o9⟩
          have t9 := T8.out.next k9 o9
          have u0 := t9.2.2.1.cell 0
          have u1 := t9.2.2.1.cell 1
          have u2 := t9.2.2.1.cell 2
          have u3 := t9.2.2.1.cell 3
          have u4 := t9.2.2.1.cell 4
          have z0 := t9.2.2.1.frozen 0
          have z1 := t9.2.2.1.frozen 1
          have z2 := t9.2.2.1.frozen 2
          have z3 := t9.2.2.1.frozen 3
          have z4 := t9.2.2.1.frozen 4
          have T9 := Lib.hid t9
          clear k9 o9 t9
          go_wp2_with fail
          refine bodyPost_ret (v := .agg #[.int .i64 0, .int .i64 0, .int .i64 0, .bool false, .slice none 0 0]) (by simp [results, Tryz.results54, go_sem, u0, u1, u2, u3, u4]) rfl ?_
          rw [HR.out]
          exact ⟨none, 0, rfl, World.ownsRow_nil _ _ _ _, Nat.le_refl _, ((((T9.out.1.set (Nat.le_refl _) _).set (Nat.le_refl _) _).set (Nat.le_refl _) _).set (Nat.le_refl _) _).set (Nat.le_refl _) _ |>.1, ((((T9.out.2.1.set (Nat.le_refl _) _).set (Nat.le_refl _) _).set (Nat.le_refl _) _).set (Nat.le_refl _) _).set (Nat.le_refl _) _ |>.1⟩
        | true =>
          rw [hmb] at M1
          have HR := Lib.hid (show rdBat (lb s) i bad = (⟨v1, v2, v3, v4, rs⟩, i6, false) by unfold rdBat; rw [hraw2]; simp only [hmb]; rfl)
          clear hraw2 hmb
          go_wp2_with fail
          refine M1.out.mono ?_
          rintro e w8 ⟨rfl, b8⟩
          have t8 := T6.out.below b8
          have HO8 := Lib.hid (own_below HO.out b8)
          clear b8 x0 x1 x2 x3 x4 x5
          have x0 := t8.2.2.2.1.cell 0
          have x1 := t8.2.2.2.1.cell 1
          have x3 := t8.2.2.2.1.cell 2
          have x4 := t8.2.2.2.1.cell 3
          have x5 := t8.2.2.2.1.cell 4
          have u0 := t8.2.2.1.cell 0
          have u1 := t8.2.2.1.cell 1
          have u2 := t8.2.2.1.cell 2
          have u3 := t8.2.2.1.cell 3
          have u4 := t8.2.2.1.cell 4
          have z0 := t8.2.2.1.frozen 0
          have z1 := t8.2.2.1.frozen 1
          have z2 := t8.2.2.1.frozen 2
          have z3 := t8.2.2.1.frozen 3
          have z4 := t8.2.2.1.frozen 4
          have T8 := Lib.hid t8
          clear t8
          go_wp2_with fail
          refine bodyPost_ret (v := .agg #[.int .i64 v1, .int .i64 v2, .int .i64 v3, .bool v4, .slice A6 rs.length c6]) (by simp [results, Tryz.results54, go_sem, u0, u1, u2, u3, u4]) rfl ?_
          rw [HR.out]
          exact ⟨A6, c6, rfl, own_base (own_set (own_set (own_set (own_set (own_set HO8.out (by omega) _) (by omega) _) (by omega) _) (by omega) _) (by omega) _) (by omega), hc6, ((((T8.out.1.set (Nat.le_refl _) _).set (Nat.le_refl _) _).set (Nat.le_refl _) _).set (Nat.le_refl _) _).set (Nat.le_refl _) _ |>.1, ((((T8.out.2.1.set (Nat.le_refl _) _).set (Nat.le_refl _) _).set (Nat.le_refl _) _).set (Nat.le_refl _) _).set (Nat.le_refl _) _ |>.1⟩
end Go.Proofs.YtckdecodpjfcnaaGreatDoor
